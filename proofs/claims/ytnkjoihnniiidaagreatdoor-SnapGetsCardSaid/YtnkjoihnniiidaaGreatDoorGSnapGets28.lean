/- SnapGets: the law's walk. Conditions: the bytes lie as they read. -/
import Derived.Test.YtnkjoihnniiidaaGreatDoorGSnapGets20
import Derived.Test.YtnkjoihnniiidaaGreatDoorGSnapGets21
import Derived.Test.YtnkjoihnniiidaaGreatDoorGSnapGets27
set_option linter.unusedVariables false
set_option linter.unusedSimpArgs false
namespace Go.Proofs.YtnkjoihnniiidaaGreatDoor
open Go.RowKit
set_option maxRecDepth 20000
theorem gets_append {b : List Int} (hl : b.length ≤ 30000) : dAppend 1048576 [] snapN b = ([(snapN, ⟨[], b⟩)], 0) := by
  unfold dAppend
  dsimp only
  rw [snap_good, if_neg (by simp), if_neg (by simp [dGet, Fi.none, Fi.all]; omega), if_neg (by simp [dUsed]; omega)]
  rfl
theorem gets_append2 {b : List Int} (hl : b.length ≤ 30000) : ∃ L : Dk, dAppend 1048576 [(snapN, ⟨[], b⟩)] newN [1] = (L, 0) ∧ dGet L snapN = some ⟨[], b⟩ := by
  have h1 : dGet [(snapN, (⟨[], b⟩ : Fi))] newN = none := by simp [dGet]; decide
  have h2 : dUsed [(snapN, (⟨[], b⟩ : Fi))] = b.length := by simp [dUsed, Fi.all]
  refine ⟨dPut [(snapN, ⟨[], b⟩)] newN ⟨[], [1]⟩, ?_, ?_⟩
  · unfold dAppend
    dsimp only
    rw [new_good, h1, h2, if_neg (by simp), if_neg (by simp [Fi.none, Fi.all]), if_neg (by simp; omega)]
    (try rfl)
  · rw [dGet_put, if_neg snap_ne]
    simp [dGet]
theorem gets_load {L : Dk} {b : List Int} (h : dGet L snapN = some ⟨[], b⟩) : dLoad L = if (snGet b).2 = 0 then ((snGet b).1, true, 0) else (zeroSn, false, 10) := by
  unfold dLoad
  rw [h]
  dsimp only
  have e : (⟨[], b⟩ : Fi).all = b := by simp [Fi.all]
  rw [e]
theorem sameSnap_two (si st : Int) (xs im : List Int) (va ia va2 ia2 : Option Addr) (vc ic vc2 ic2 n m : Nat) (hn : xs.length = n) (hm : im.length = m) (w : World) (hx : snSub w w.heap.size ⟨si, st, va, xs, vc, ia, im, ic⟩) (hy : snSub w w.heap.size ⟨si, st, va2, xs, vc2, ia2, im, ic2⟩) (hl : n ≤ 1000000) (hl2 : m ≤ 4000000) :
    Calls Tryz.prog 18 #[.agg #[.int .i64 si, .int .i64 st, .slice va n vc, .slice ia m ic], .agg #[.int .i64 si, .int .i64 st, .slice va2 n vc2, .slice ia2 m ic2]] w fun e w' => e = .returned (.bool true) ∧ Below w.heap.size w w' := by
  subst hn hm
  exact sameSnap_any ⟨si, st, va, xs, vc, ia, im, ic⟩ ⟨si, st, va2, xs, vc2, ia2, im, ic2⟩ w hx hy rfl hl hl2
theorem own_snB {w w' : World} {base : Nat} {x : Sn} (h : OwnSn w base x) (hs : ∀ g, base ≤ g → g < w.heap.size → w'.heap[g]? = w.heap[g]?) : OwnSn w' base x :=
  ⟨own_blocks4 h.1 hs, ⟨h.2.len, own_blocks4 h.2.row hs⟩⟩
theorem OwnSn.below {w w' : World} {base B : Nat} {x : Sn} (h : OwnSn w base x) (hb : Below B w w') (hB : w.heap.size ≤ B) : OwnSn w' base x := ⟨h.1.below hb hB, h.2.below hb hB⟩
set_option maxHeartbeats 8000000 in
theorem snapGets_any (ao : Option Addr) (n cap : Nat) (b : List Int) (w : World) (hn : b.length = n) (hx : BytesIn w w.heap.size ao b) (hw : BytesWf b) (hao : ao = none → cap = 0) (hcap : n ≤ cap) :
    Calls Tryz.prog 4 #[.slice ao n cap] w fun e w' => e = .returned (.bool true) ∧ Below w.heap.size w w' := by
  have HN := Lib.hid hn
  have HX := Lib.hid hx
  have HW := Lib.hid hw
  clear hn hx hw
  go_enter Tryz.func4, Tryz.ntmps4
  by_cases hn1 : 30000 < n
  · have i1 : (30000 : Int) < n := by omega
    go_wp2_with fail
    refine (awake19_any w).mono ?_
    rintro e w1 ⟨rfl, hb1⟩
    go_wp2_with fail
    go_ret
    exact ⟨rfl, hb1⟩
  have i1 : ¬ (30000 : Int) < n := by omega
  obtain ⟨⟨⟨gi, gt, gxs, gim⟩, ge⟩, hgr⟩ : ∃ q, snGet b = q := ⟨_, rfl⟩
  have HGR := Lib.hid hgr
  have hrg : rsnGet b = (⟨gi, gt, gxs, gim⟩, ge) := by rw [rsnGet_eq HW.out]; exact hgr
  have HRG := Lib.hid hrg
  obtain ⟨K, hK⟩ : ∃ K, gxs.length = K := ⟨_, rfl⟩
  obtain ⟨M, hM⟩ : ∃ M, gim.length = M := ⟨_, rfl⟩
  have HK := Lib.hid hK
  have HM := Lib.hid hM
  clear hgr hrg hK hM
  go_wp2_with fail
  have hcall := lentB_any ao cap b w HX.out hao (by rw [HN.out]; omega)
  unfold LentBPost at hcall
  rw [HN.out] at hcall
  refine hcall.mono ?_
  clear hcall
  rintro e w2 ⟨g, rfl, hg1, hg2, hL, b2⟩
  have hs2 := b2.size
  have HL2 := Lib.hid hL
  have HB2 := Lib.hid b2
  clear hL b2
  go_wp2_with fail
  refine (sget_as (some ⟨g, 0, none⟩) n (n + 12) b w2 HN.out (slentB_rows HL2.out) HW.out (fun h => by cases h) (by omega) (by omega) _ HGR.out).mono ?_
  rintro e w3 ⟨yi, yt, ava, yxs, avc, aia, yim, aic, rfl, hyp, hyf, hyo, b3⟩
  simp only [SnP.mk.injEq] at hyp
  obtain ⟨rfl, rfl, rfl, rfl⟩ := hyp
  have hs3 := b3.size
  rw [HK.out, HM.out]
  have b34 := (Below.refl w3.heap.size w3).alloc (Nat.le_refl _) (.cells #[.int .i64 yi, .int .i64 yt, .slice ava K avc, .slice aia M aic] 25)
  have k4 := heap_alloc_new w3 (.cells #[.int .i64 yi, .int .i64 yt, .slice ava K avc, .slice aia M aic] 25)
  have HF1 := Lib.hid hyf
  have HO3 := Lib.hid hyo
  have HK4 := Lib.hid k4
  have HB34 := Lib.hid b34
  have HBB3 := Lib.hid b3
  clear hyf hyo k4 b34 b3
  dsimp only
  go_upto_region 5 with fail
  generalize w3.alloc (.cells #[.int .i64 yi, .int .i64 yt, .slice ava K avc, .slice aia M aic] 25) = w4 at HK4 HB34 ⊢
  have hs4 := HB34.out.size
  have hg4 := (Array.getElem?_eq_some_iff.1 HK4.out).1
  have BB4 := Lib.hid (HBB3.out.trans (HB34.out.mono hs3))
  have HL4 := Lib.hid (show LentB w4 w.heap.size g b from own_below HL2.out BB4.out (Nat.le_refl _))
  have HO4 := Lib.hid (HO3.out.below HB34.out (Nat.le_refl _))
  have HB4 := Lib.hid (HB2.out.trans (BB4.out.mono hs2))
  clear HB34 HBB3
  go_wp2_with fail
  refine (sget_as (some ⟨g, 0, none⟩) n (n + 12) b w4 HN.out (slentB_rows HL4.out) HW.out (fun h => by cases h) (by omega) (by omega) _ HGR.out).mono ?_
  rintro e w5 ⟨zi, zt, cva, zxs, cvc, cia, zim, cic, rfl, hzp, hzf, hzo, b5⟩
  simp only [SnP.mk.injEq] at hzp
  obtain ⟨rfl, rfl, rfl, rfl⟩ := hzp
  have hs5 := b5.size
  rw [HK.out, HM.out]
  have b56 := (Below.refl w5.heap.size w5).alloc (Nat.le_refl _) (.cells #[.int .i64 zi, .int .i64 zt, .slice cva K cvc, .slice cia M cic] 25)
  have k6 := heap_alloc_new w5 (.cells #[.int .i64 zi, .int .i64 zt, .slice cva K cvc, .slice cia M cic] 25)
  have HF2 := Lib.hid hzf
  have HO5 := Lib.hid hzo
  have HK6 := Lib.hid k6
  have HB56 := Lib.hid b56
  have HBB5 := Lib.hid b5
  clear hzf hzo k6 b56 b5
  dsimp only
  go_upto_region 6 with fail
  generalize w5.alloc (.cells #[.int .i64 zi, .int .i64 zt, .slice cva K cvc, .slice cia M cic] 25) = w6 at HK6 HB56 ⊢
  have hs6 := HB56.out.size
  have hg6 := (Array.getElem?_eq_some_iff.1 HK6.out).1
  have B46 := Lib.hid (HBB5.out.trans (HB56.out.mono hs5))
  have HL6 := Lib.hid (show LentB w6 w.heap.size g b from own_below HL4.out B46.out (Nat.le_refl _))
  have HB6 := Lib.hid (HB4.out.trans (B46.out.mono HB4.out.size))
  have BB6 := Lib.hid (BB4.out.trans (B46.out.mono (by omega)))
  have HA6 := Lib.hid (HO4.out.below B46.out (Nat.le_refl _))
  have HC6 := Lib.hid (HO5.out.below HB56.out (Nat.le_refl _))
  have HKA6 := Lib.hid ((B46.out.block w3.heap.size hg4).trans HK4.out)
  clear HB56 HBB5 HO4 HK4
  go_wp2_with fail
  have hcall := keptB_any ao cap g w.heap.size b w6 ((HX.out.below HB6.out (Nat.le_refl _)).mono HB6.out.size) HL6.out (by rw [HN.out]; omega)
  rw [HN.out] at hcall
  refine hcall.mono ?_
  clear hcall
  rintro e w7 ⟨rfl, b7⟩
  have hs7 := b7.size
  have HB7 := Lib.hid (HB6.out.trans (b7.mono HB6.out.size))
  have HR7 := Lib.hid (Room.below (B := w.heap.size) (T := w2.heap.size) ⟨g, rfl, hg1, hg2, rfl, Blk.of_own HL2.out⟩ (BB6.out.trans (b7.mono (by omega))))
  rw [HN.out] at HR7
  have HA7 := Lib.hid (HA6.out.below b7 (Nat.le_refl _))
  have HC7 := Lib.hid (HC6.out.below b7 (Nat.le_refl _))
  have HKA7 := Lib.hid ((b7.block w3.heap.size (by omega)).trans HKA6.out)
  have HKC7 := Lib.hid ((b7.block w5.heap.size hg6).trans HK6.out)
  clear b7 HA6 HC6 HKA6 HK6 HL6 HL4
  go_wp2_with fail
  refine (overB_room w.heap.size w2.heap.size (some ⟨g, 0, none⟩) n (n + 12) w7 HR7.out (by omega)).mono ?_
  rintro e w8 ⟨rfl, ho⟩
  have hs8 : w7.heap.size ≤ w8.heap.size := ho.size
  have HB8 := Lib.hid (HB7.out.trans (ho.mid.below.mono (by omega)))
  have HA8 := Lib.hid (own_snB HA7.out (fun q h1 h2 => ho.mid.far q (by omega) h2))
  have HC8 := Lib.hid (own_snB HC7.out (fun q h1 h2 => ho.mid.far q (by omega) h2))
  have HKA8 := Lib.hid ((ho.mid.far w3.heap.size (by omega) (by omega)).trans HKA7.out)
  have HKC8 := Lib.hid ((ho.mid.far w5.heap.size (by omega) (by omega)).trans HKC7.out)
  clear ho HA7 HC7 HKA7 HKC7 HR7
  go_wp2_with fail
  refine (rsget_any ao n cap b w8 HN.out ((HX.out.below HB8.out (Nat.le_refl _)).mono HB8.out.size) HW.out hao hcap (by omega) _ HRG.out).mono ?_
  rintro e w9 ⟨⟨xi, xt, xva, xxs, xvc, xia, xim, xic⟩, rfl, hxp, hxf, hxo, b9⟩
  simp only [Sn.plain, SnP.mk.injEq] at hxp
  obtain ⟨rfl, rfl, rfl, rfl⟩ := hxp
  have hs9 := b9.size
  dsimp only [snVal]
  rw [HK.out, HM.out]
  have b910 := (Below.refl w9.heap.size w9).alloc (Nat.le_refl _) (.cells #[.int .i64 xi, .int .i64 xt, .slice xva K xvc, .slice xia M xic] 25)
  have k10 := heap_alloc_new w9 (.cells #[.int .i64 xi, .int .i64 xt, .slice xva K xvc, .slice xia M xic] 25)
  have HF3 := Lib.hid hxf
  have HO9 := Lib.hid hxo
  have HK10 := Lib.hid k10
  have HB910 := Lib.hid b910
  have HBB9 := Lib.hid b9
  clear hxf hxo k10 b910 b9
  go_upto_region 10 with fail
  generalize w9.alloc (.cells #[.int .i64 xi, .int .i64 xt, .slice xva K xvc, .slice xia M xic] 25) = w10 at HK10 HB910 ⊢
  have hs10 := HB910.out.size
  have hg10 := (Array.getElem?_eq_some_iff.1 HK10.out).1
  have B810 := Lib.hid (HBB9.out.trans (HB910.out.mono hs9))
  have HB10 := Lib.hid (HB8.out.trans (B810.out.mono HB8.out.size))
  have HA10 := Lib.hid (HA8.out.below B810.out (Nat.le_refl _))
  have HC10 := Lib.hid (HC8.out.below B810.out (Nat.le_refl _))
  have HX10 := Lib.hid (HO9.out.below HB910.out (Nat.le_refl _))
  have HKA10 := Lib.hid ((B810.out.block w3.heap.size (by omega)).trans HKA8.out)
  have HKC10 := Lib.hid ((B810.out.block w5.heap.size (by omega)).trans HKC8.out)
  clear HB910 HBB9 HA8 HC8 HKA8 HKC8 HO9 B810
  have a0 := Go.Joins.cell_of_block HKA10.out 0
  have a1 := Go.Joins.cell_of_block HKA10.out 1
  have a2 := Go.Joins.cell_of_block HKA10.out 2
  have a3 := Go.Joins.cell_of_block HKA10.out 3
  have x0 := Go.Joins.cell_of_block HK10.out 0
  have x1 := Go.Joins.cell_of_block HK10.out 1
  have x2 := Go.Joins.cell_of_block HK10.out 2
  have x3 := Go.Joins.cell_of_block HK10.out 3
  have lK : K ≤ 1000000 := by rw [← HK.out]; exact HF1.out.vn
  have lM : M ≤ 4000000 := by rw [← HM.out]; exact HF1.out.ln
  go_wp2_with fail
  refine (sameSnap_two xi xt xxs xim ava aia xva xia avc aic xvc xic K M HK.out HM.out w10 (own_sub HA10.out) (own_sub HX10.out) lK lM).mono ?_
  rintro e w11 ⟨rfl, b11⟩
  have hs11 := b11.size
  have HB11 := Lib.hid (HB10.out.trans (b11.mono HB10.out.size))
  have HA11 := Lib.hid (HA10.out.below b11 (Nat.le_refl _))
  have HC11 := Lib.hid (HC10.out.below b11 (Nat.le_refl _))
  have HX11 := Lib.hid (HX10.out.below b11 (Nat.le_refl _))
  have HKA11 := Lib.hid ((b11.block w3.heap.size (by omega)).trans HKA10.out)
  have HKC11 := Lib.hid ((b11.block w5.heap.size (by omega)).trans HKC10.out)
  have HKX11 := Lib.hid ((b11.block w9.heap.size hg10).trans HK10.out)
  clear a0 a1 a2 a3 x0 x1 x2 x3 b11 HA10 HC10 HX10 HKA10 HKC10 HK10
  have c0 := Go.Joins.cell_of_block HKC11.out 0
  have c1 := Go.Joins.cell_of_block HKC11.out 1
  have c2 := Go.Joins.cell_of_block HKC11.out 2
  have c3 := Go.Joins.cell_of_block HKC11.out 3
  have x0 := Go.Joins.cell_of_block HKX11.out 0
  have x1 := Go.Joins.cell_of_block HKX11.out 1
  have x2 := Go.Joins.cell_of_block HKX11.out 2
  have x3 := Go.Joins.cell_of_block HKX11.out 3
  go_wp2_with fail
  refine (sameSnap_two xi xt xxs xim cva cia xva xia cvc cic xvc xic K M HK.out HM.out w11 (own_sub HC11.out) (own_sub HX11.out) lK lM).mono ?_
  rintro e w12 ⟨rfl, b12⟩
  have hs12 := b12.size
  have HB12 := Lib.hid (HB11.out.trans (b12.mono HB11.out.size))
  have HA12 := Lib.hid (HA11.out.below b12 (Nat.le_refl _))
  have HC12 := Lib.hid (HC11.out.below b12 (Nat.le_refl _))
  have HX12 := Lib.hid (HX11.out.below b12 (Nat.le_refl _))
  have HKA12 := Lib.hid ((b12.block w3.heap.size (by omega)).trans HKA11.out)
  have HKC12 := Lib.hid ((b12.block w5.heap.size (by omega)).trans HKC11.out)
  have HKX12 := Lib.hid ((b12.block w9.heap.size (by omega)).trans HKX11.out)
  clear c0 c1 c2 c3 x0 x1 x2 x3 b12 HA11 HC11 HX11 HKA11 HKC11 HKX11
  have a0 := Go.Joins.cell_of_block HKA12.out 0
  have a1 := Go.Joins.cell_of_block HKA12.out 1
  have a2 := Go.Joins.cell_of_block HKA12.out 2
  have a3 := Go.Joins.cell_of_block HKA12.out 3
  have c0 : ∀ o, (w12.alloc o).cell? ⟨w5.heap.size, 0, none⟩ = some (.int .i64 xi) := fun o => Go.Joins.cell_of_block (keep_alloc HKC12.out o) 0
  have c1 : ∀ o, (w12.alloc o).cell? ⟨w5.heap.size, 1, none⟩ = some (.int .i64 xt) := fun o => Go.Joins.cell_of_block (keep_alloc HKC12.out o) 1
  have c2 : ∀ o, (w12.alloc o).cell? ⟨w5.heap.size, 2, none⟩ = some (.slice cva K cvc) := fun o => Go.Joins.cell_of_block (keep_alloc HKC12.out o) 2
  have c3 : ∀ o, (w12.alloc o).cell? ⟨w5.heap.size, 3, none⟩ = some (.slice cia M cic) := fun o => Go.Joins.cell_of_block (keep_alloc HKC12.out o) 3
  go_wp2_with fail
  have hall := alloc3_facts w12 #[.int .i64 xi, .int .i64 xt, .slice ava K avc, .slice aia M aic] #[.int .i64 xi, .int .i64 xt, .slice cva K cvc, .slice cia M cic] #[.slice (some ⟨w12.heap.size, 0, none⟩) 1 1, .slice (some ⟨w12.heap.size + 1, 0, none⟩) 1 1] 25 25 42
  obtain ⟨b13, q1, q2, q3, s13⟩ := hall
  clear a0 a1 a2 a3 c0 c1 c2 c3
  generalize ((w12.alloc (.cells #[.int .i64 xi, .int .i64 xt, .slice ava K avc, .slice aia M aic] 25)).alloc (.cells #[.int .i64 xi, .int .i64 xt, .slice cva K cvc, .slice cia M cic] 25)).alloc (.cells #[.slice (some ⟨w12.heap.size, 0, none⟩) 1 1, .slice (some ⟨w12.heap.size + 1, 0, none⟩) 1 1] 42) = w13 at b13 q1 q2 q3 s13 ⊢
  have q1' : w13.heap[w12.heap.size]? = some (.cells (snArr ⟨xi, xt, ava, xxs, avc, aia, xim, aic⟩) 25 (0, 0)) := by unfold snArr; dsimp only; rw [HK.out, HM.out]; exact q1
  have q2' : w13.heap[w12.heap.size + 1]? = some (.cells (snArr ⟨xi, xt, cva, xxs, cvc, cia, xim, cic⟩) 25 (0, 0)) := by unfold snArr; dsimp only; rw [HK.out, HM.out]; exact q2
  refine (apartSs_any w2.heap.size w4.heap.size (w12.heap.size + 2) 2 w12.heap.size (w12.heap.size + 1) 1 1 ⟨xi, xt, ava, xxs, avc, aia, xim, aic⟩ ⟨xi, xt, cva, xxs, cvc, cia, xim, cic⟩ w3 w13 (Go.Joins.cell_of_block q3 0) (Go.Joins.cell_of_block q3 1) (by omega) q1' q2' (by omega) (by omega) (by omega) rfl rfl HO3.out ((HA12.out.below b13 (Nat.le_refl _))) (HC12.out.below b13 (Nat.le_refl _)) hs4 (by omega) (by omega) HF1.out HF2.out).mono ?_
  rintro e w14 ⟨rfl, b14, hk14⟩
  have hs14 := b14.size
  have hkeep : ∀ q, w8.heap.size ≤ q → q < w12.heap.size → w14.heap[q]? = w12.heap[q]? := fun q h1 h2 => by
    refine (hk14 q (by omega) (fun z hz => ?_) (fun z hz => ?_) (by omega) (by omega)).trans (b13.block q h2)
    · rcases List.mem_cons.1 hz with rfl | hz
      · intro e; have := (World.ownsRow.lt HO3.out.1 q e).2; omega
      · rw [List.mem_singleton.1 hz]; intro e; have := (World.ownsRow.lt HO5.out.1 q e).2; omega
    · rcases List.mem_cons.1 hz with rfl | hz
      · intro e; have := (World.ownsRow.lt HO3.out.2.row q e).2; omega
      · rw [List.mem_singleton.1 hz]; intro e; have := (World.ownsRow.lt HO5.out.2.row q e).2; omega
  have HX14 := Lib.hid (own_snB HX12.out hkeep)
  have HKX14 := Lib.hid ((hkeep w9.heap.size (by omega) (by omega)).trans HKX12.out)
  have HB14 := Lib.hid ((HB12.out.trans (b13.mono HB12.out.size)).trans (b14.mono hs2))
  have hg14 := (Array.getElem?_eq_some_iff.1 HKX14.out).1
  clear hkeep hk14 b14 b13 q1 q2 q3 q1' q2' s13 HX12 HKX12 HA12 HC12 HKA12 HKC12 HO3 HO5 HF1 HF2
  obtain ⟨L2, hL2, hL2g⟩ := gets_append2 (b := b) (by rw [HN.out]; omega)
  have HL2' := Lib.hid hL2
  have HL2G := Lib.hid hL2g
  have HL1 := Lib.hid (gets_append (b := b) (by rw [HN.out]; omega))
  have hld := gets_load hL2g
  rw [HGR.out] at hld
  dsimp only at hld
  have HLD := Lib.hid hld
  clear hL2 hL2g hld
  go_wp2_with fail
  refine (dnew_any 1048576 w14 1048576 (by decide) (by decide)).mono ?_
  rintro e w15 ⟨rfl, hd15, b15⟩
  have HD15 := Lib.hid hd15
  have C15 := Lib.hid b15
  have hz15 := b15.size
  clear hd15 b15
  go_wp2_with fail
  refine (append_any HD15.out (by omega) snapS snap_named ao n cap b HN.out ((HX.out.below (HB14.out.trans (C15.out.mono HB14.out.size)) (Nat.le_refl _)).mono (Nat.le_trans HB14.out.size hz15)) HW.out hao (by omega) _ HL1.out).mono ?_
  rintro e w16 ⟨rfl, hd16, hg16⟩
  have HD16 := Lib.hid hd16
  have C16 := Lib.hid (C15.out.grown hg16 C15.out.size (fun k hk => by cases hk; exact Nat.le_refl _))
  have hz16 := C16.out.size
  clear hd16 hg16
  have b17 := (Below.refl w16.heap.size w16).alloc (Nat.le_refl _) (.cells #[.int .u8 1] 5)
  have h17 := rbytes_new w16 5 [1] #[.int .u8 1] (0, 0) w16.heap.size (w16.alloc (.cells #[.int .u8 1] 5)).heap.size rfl rfl (by simp)
  have HD17 := Lib.hid ((HD16.out.below b17 (Nat.le_refl _)).top)
  have C17 := Lib.hid (C16.out.trans (b17.mono C16.out.size))
  have H17 := Lib.hid h17
  clear b17 h17
  go_wp2_with fail
  generalize w16.alloc (.cells #[.int .u8 1] 5) = w17 at HD17 C17 H17 ⊢
  refine (append_any HD17.out (by omega) newS new_named (some ⟨w16.heap.size, 0, none⟩) 1 1 [1] rfl H17.out (fun v hv => by rw [List.mem_singleton.1 hv]; omega) (fun h => by cases h) (by omega) (L2, 0) HL2'.out).mono ?_
  rintro e w18 ⟨rfl, hd18, hg18⟩
  have HD18 := Lib.hid hd18
  have C18 := Lib.hid (C17.out.grown hg18 C17.out.size (fun k hk => by cases hk; exact Nat.le_refl _))
  have hz18 := C18.out.size
  clear hd18 hg18 HD15 HD16 HD17 C15 C16 C17 H17
  have hszz : ∀ f, dGet L2 snapN = some f → f.all.length ≤ 3000000 := fun f h => by
    rw [HL2G.out] at h
    cases h
    have := HN.out
    simp [Fi.all]; omega
  have HSZ := Lib.hid hszz
  clear hszz
  have hone := snGet_one b
  rw [HGR.out] at hone
  by_cases hge : ge = 0
  · subst hge
    have hld := HLD.out
    rw [if_pos rfl] at hld
    have HLD2 := Lib.hid hld
    clear hld hone
    go_wp2_with fail
    refine (sload_any HD18.out (by omega) HSZ.out _ HLD2.out).mono ?_
    rintro e w19 ⟨⟨vi, vt, vva, vxs, vvc, via, vim, vic⟩, rfl, hvp, hvf, hvo, _, hg19⟩
    simp only [Sn.plain, SnP.mk.injEq] at hvp
    obtain ⟨rfl, rfl, rfl, rfl⟩ := hvp
    have C19 := Lib.hid (C18.out.grown hg19 C18.out.size (fun k hk => by cases hk; exact Nat.le_refl _))
    have hz19 := C19.out.size
    dsimp only [snVal]
    rw [HK.out, HM.out]
    have b20 := (Below.refl w19.heap.size w19).alloc (Nat.le_refl _) (.cells #[.int .i64 vi, .int .i64 vt, .slice vva K vvc, .slice via M vic] 25)
    have k20 := heap_alloc_new w19 (.cells #[.int .i64 vi, .int .i64 vt, .slice vva K vvc, .slice via M vic] 25)
    have C20 := Lib.hid (C19.out.trans (b20.mono C19.out.size))
    have HV20 := Lib.hid (hvo.below b20 (Nat.le_refl _))
    have HK20 := Lib.hid k20
    have HX20 := Lib.hid (HX14.out.below C20.out (Nat.le_refl _))
    have HKX20 := Lib.hid ((C20.out.block w9.heap.size hg14).trans HKX14.out)
    clear b20 k20 hvo hg19 hvf
    go_upto_region 16 with fail
    generalize w19.alloc (.cells #[.int .i64 vi, .int .i64 vt, .slice vva K vvc, .slice via M vic] 25) = w20 at C20 HV20 HK20 HX20 HKX20 ⊢
    have v0 := Go.Joins.cell_of_block HK20.out 0
    have v1 := Go.Joins.cell_of_block HK20.out 1
    have v2 := Go.Joins.cell_of_block HK20.out 2
    have v3 := Go.Joins.cell_of_block HK20.out 3
    have x0 := Go.Joins.cell_of_block HKX20.out 0
    have x1 := Go.Joins.cell_of_block HKX20.out 1
    have x2 := Go.Joins.cell_of_block HKX20.out 2
    have x3 := Go.Joins.cell_of_block HKX20.out 3
    go_wp2_with fail
    refine (sameSnap_two vi vt vxs vim vva via xva xia vvc vic xvc xic K M HK.out HM.out w20 (own_sub HV20.out) (own_sub HX20.out) lK lM).mono ?_
    rintro e w21 ⟨rfl, b21⟩
    have HB21 := Lib.hid ((HB14.out.trans (C20.out.mono HB14.out.size)).trans (b21.mono (Nat.le_trans HB14.out.size C20.out.size)))
    clear b21 v0 v1 v2 v3 x0 x1 x2 x3
    go_wp2_with fail
    refine (awake19_any w21).mono ?_
    rintro e w22 ⟨rfl, b22⟩
    have hb := HB21.out.trans (b22.mono HB21.out.size)
    clear b22
    go_wp2_with fail
    go_ret
    exact ⟨rfl, hb⟩
  · obtain ⟨hz, rfl⟩ : (⟨xi, xt, xxs, xim⟩ : SnP) = zeroSn ∧ ge = 4 := by
      rcases hone with ⟨h, _⟩ | h
      · exact absurd h hge
      · exact ⟨congrArg Prod.fst h, congrArg Prod.snd h⟩
    have hld := HLD.out
    rw [if_neg hge, ← hz] at hld
    have HLD2 := Lib.hid hld
    clear hld hone hz hge
    go_wp2_with fail
    refine (sload_any HD18.out (by omega) HSZ.out _ HLD2.out).mono ?_
    rintro e w19 ⟨⟨vi, vt, vva, vxs, vvc, via, vim, vic⟩, rfl, hvp, hvf, hvo, _, hg19⟩
    simp only [Sn.plain, SnP.mk.injEq] at hvp
    obtain ⟨rfl, rfl, rfl, rfl⟩ := hvp
    have C19 := Lib.hid (C18.out.grown hg19 C18.out.size (fun k hk => by cases hk; exact Nat.le_refl _))
    have hz19 := C19.out.size
    dsimp only [snVal]
    rw [HK.out, HM.out]
    have b20 := (Below.refl w19.heap.size w19).alloc (Nat.le_refl _) (.cells #[.int .i64 vi, .int .i64 vt, .slice vva K vvc, .slice via M vic] 25)
    have k20 := heap_alloc_new w19 (.cells #[.int .i64 vi, .int .i64 vt, .slice vva K vvc, .slice via M vic] 25)
    have C20 := Lib.hid (C19.out.trans (b20.mono C19.out.size))
    have HV20 := Lib.hid (hvo.below b20 (Nat.le_refl _))
    have HK20 := Lib.hid k20
    have HX20 := Lib.hid (HX14.out.below C20.out (Nat.le_refl _))
    have HKX20 := Lib.hid ((C20.out.block w9.heap.size hg14).trans HKX14.out)
    clear b20 k20 hvo hg19 hvf
    go_upto_region 16 with fail
    generalize w19.alloc (.cells #[.int .i64 vi, .int .i64 vt, .slice vva K vvc, .slice via M vic] 25) = w20 at C20 HV20 HK20 HX20 HKX20 ⊢
    have v0 := Go.Joins.cell_of_block HK20.out 0
    have v1 := Go.Joins.cell_of_block HK20.out 1
    have v2 := Go.Joins.cell_of_block HK20.out 2
    have v3 := Go.Joins.cell_of_block HK20.out 3
    have x0 := Go.Joins.cell_of_block HKX20.out 0
    have x1 := Go.Joins.cell_of_block HKX20.out 1
    have x2 := Go.Joins.cell_of_block HKX20.out 2
    have x3 := Go.Joins.cell_of_block HKX20.out 3
    go_wp2_with fail
    refine (sameSnap_two vi vt vxs vim vva via xva xia vvc vic xvc xic K M HK.out HM.out w20 (own_sub HV20.out) (own_sub HX20.out) lK lM).mono ?_
    rintro e w21 ⟨rfl, b21⟩
    have HB21 := Lib.hid ((HB14.out.trans (C20.out.mono HB14.out.size)).trans (b21.mono (Nat.le_trans HB14.out.size C20.out.size)))
    clear b21 v0 v1 v2 v3 x0 x1 x2 x3
    go_wp2_with fail
    refine (awake19_any w21).mono ?_
    rintro e w22 ⟨rfl, b22⟩
    have hb := HB21.out.trans (b22.mono HB21.out.size)
    clear b22
    go_wp2_with fail
    go_ret
    exact ⟨rfl, hb⟩
theorem walk_SnapGets (W : World) (ao : Option Addr) (n cap : Nat) (xs : List Int) (hn : xs.length = n) (hx : BytesIn W W.heap.size ao xs) (hw : BytesWf xs) (hao : ao = none → cap = 0) (hcap : n ≤ cap) (hz0 : cap ≤ maxLen) (hz1 : n * Tryz.prog.bytesOf 5 ≤ 140737488351232) :
    Calls Tryz.prog 4 #[.slice ao n cap] W fun e w' => e = .returned (.bool true) ∧ Below W.heap.size W w' :=
  snapGets_any ao n cap xs W hn hx hw hao hcap
end Go.Proofs.YtnkjoihnniiidaaGreatDoor
