/- The document's answer for snaps: Put. Conditions: as each says. -/
import Derived.Test.YtejgebpdipnhmaaGreatDoorGSnapNumbers18
set_option linter.unusedVariables false
set_option linter.unusedSimpArgs false
namespace Go.Proofs.YtejgebpdipnhmaaGreatDoor
open Go.RowKit
set_option maxRecDepth 20000
theorem rfput1_any (b : Nat) (a : Option Addr) (n c : Nat) (D : List Int) (w : World) (k0 : w.cell? ⟨b, 0, none⟩ = some (.int .i64 1)) (k1 : w.cell? ⟨b, 1, none⟩ = some (.slice a n c)) (hb : b < w.heap.size) (hn : D.length = n) (hx : BytesIn w w.heap.size a D) (hnil : a = none → c = 0) (hw : BytesWf D) (hl : n ≤ 1048576)
    (r : List Int × Int) (hr : (frameB 1 D, 0) = r) :
    Calls Tryz.prog 46 #[.slice (some ⟨b, 0, none⟩) 1 1] w (BytesE r w) := by
  subst hn
  refine (rput_any (some ⟨b, 0, none⟩) 1 [⟨1, a, c, D⟩] w (Or.inr ⟨b, 0, rfl, hb, fun i hi => ?_⟩) (fun f hf => ?_) ?_ (by simp)).mono ?_
  · obtain rfl : i = 0 := by simpa using hi
    exact ⟨k0, k1, hx⟩
  · rw [List.mem_singleton] at hf
    subst hf
    exact ⟨(show (Lit.int .i64 1).wf = true by decide), hnil, hw, by dsimp only; omega⟩
  · simp only [putB, List.flatMap_cons, List.flatMap_nil, List.append_nil, frameB_len]
    omega
  · rintro e w' ⟨v, rfl, h1, h2, h3⟩
    have hg : ¬ 1048576 < D.length := by omega
    have he : putE [⟨1, a, c, D⟩] = 0 := by simp [putE, hg]
    subst hr
    rw [he] at h1 ⊢
    have hp : putB [⟨1, a, c, D⟩] = frameB 1 D := by simp [putB]
    rw [hp] at h1
    obtain ⟨a2, n2, c2, rfl, ho⟩ := own_value (h1 rfl)
    exact ⟨a2, n2, c2, rfl, ho, h3⟩
theorem ints_lit3 (w : World) (x y z : Int) : IntsOwn (w.alloc (.cells #[.int .i64 x, .int .i64 y, .int .i64 z] 3)) w.heap.size (some ⟨w.heap.size, 0, none⟩) 3 3 [x, y, z] :=
  World.ownsRow_lit w #[.int .i64 x, .int .i64 y, .int .i64 z] 3 (Nat.le_refl _) (by unfold maxLen; omega) rfl
set_option maxHeartbeats 8000000 in
theorem rsput_any (x : Sn) (w : World) (hx : snSub w w.heap.size x) (hf : SnFine x) (r : List Int × Int) (hr : snPut x.plain = r) :
    Calls Tryz.prog 14 #[snVal x] w (BytesE r w) := by
  obtain ⟨g, hg⟩ : ∃ g, snRight x.plain = g := ⟨_, rfl⟩
  have HRT := Lib.hid fun w hx => rsright_any x w hx hf g hg
  obtain ⟨si, st, va, xs, vc, ia, im, ic⟩ := x
  obtain ⟨f1, f2, f3, f4, f5, f6, f7, f8, f9, f10⟩ := hf
  dsimp only [snVal, Sn.plain, snSub] at hx hg hr HRT f1 f2 f3 f4 f5 f6 f7 f8 f9 f10 ⊢
  have HL := snData_len ⟨si, st, xs, im⟩
  have HD := Lib.hid (show ([si, st, (xs.length : Int)] ++ xs).flatMap (numB 8) ++ im = snData ⟨si, st, xs, im⟩ by simp [snData, snHead])
  have HDW := Lib.hid (snData_wf (s := ⟨si, st, xs, im⟩) f5)
  unfold snPut at hr
  rw [hg] at hr
  generalize snData ⟨si, st, xs, im⟩ = D at HL HD HDW hr
  dsimp only at HL
  obtain ⟨n, hn⟩ : ∃ n, xs.length = n := ⟨_, rfl⟩
  obtain ⟨m, hm⟩ : ∃ m, im.length = m := ⟨_, rfl⟩
  obtain ⟨dl, hdl⟩ : ∃ d, D.length = d := ⟨_, rfl⟩
  rw [hn] at HRT HL HD f4 f9 ⊢
  rw [hm] at HRT HL f6 f10 ⊢
  rw [hdl] at HL hr
  have HN := Lib.hid hn
  have HM := Lib.hid hm
  have HDL := Lib.hid hdl
  have HX := Lib.hid hx
  have HW := Lib.hid f5
  have HI := Lib.hid f8
  have HV := Lib.hid f7
  clear hn hm hdl hx f5 f7 f8 f3 f1 f2 hg f9 f10
  have hb0 := (Below.refl w.heap.size w).alloc (Nat.le_refl _) (.cells #[.int .i64 si, .int .i64 st, .slice va n vc, .slice ia m ic] 26)
  have hk0 := heap_alloc_new w (.cells #[.int .i64 si, .int .i64 st, .slice va n vc, .slice ia m ic] 26)
  have HB0 := Lib.hid hb0
  have HK0 := Lib.hid hk0
  clear hb0 hk0
  have HR := Lib.hid hr
  have HLE := Lib.hid HL
  clear hr HL
  go_enter Tryz.func14, Tryz.ntmps14
  go_upto_region 1 with fail
  generalize w.alloc (.cells #[.int .i64 si, .int .i64 st, .slice va n vc, .slice ia m ic] 26) = w0 at HB0 HK0 ⊢
  have g0 := Go.Joins.cell_of_block HK0.out 0
  have g1 := Go.Joins.cell_of_block HK0.out 1
  have g2 := Go.Joins.cell_of_block HK0.out 2
  have g3 := Go.Joins.cell_of_block HK0.out 3
  go_wp2_with fail
  refine (HRT.out w0 ((HX.out.1.below noSub_kept HB0.out (Nat.le_refl _)).mono noSub_rising HB0.out.size)).mono ?_
  rintro e w1 ⟨rfl, hb1⟩
  have hz0 := HB0.out.size
  have hlt0 := (Array.getElem?_eq_some_iff.1 HK0.out).1
  have HB1 := Lib.hid (HB0.out.trans (hb1.mono hz0))
  have HK1 := Lib.hid ((hb1.block _ hlt0).trans HK0.out)
  have hlt1 := (Array.getElem?_eq_some_iff.1 HK1.out).1
  clear hb1 HB0 HK0 HRT g0 g1 g2 g3
  cases g with
  | false =>
    go_wp2_with fail
    go_ret2
    rw [← HR.out]
    exact ⟨none, 0, 0, rfl, ⟨rfl, World.ownsRow_nil _ _ _ _⟩, HB1.out⟩
  | true =>
    have hr2 := HR.out
    rw [if_neg (by simp)] at hr2
    have HR2 := Lib.hid hr2
    clear hr2
    have g0 := Go.Joins.cell_of_block HK1.out 0
    have g1 := Go.Joins.cell_of_block HK1.out 1
    have g2 := Go.Joins.cell_of_block HK1.out 2
    have hz1 := HB1.out.size
    obtain ⟨N, hNN⟩ : ∃ N : Nat, 3 + n = N := ⟨_, rfl⟩
    have HNN := Lib.hid hNN
    have hN3 : N ≤ 1000003 := by omega
    clear hNN
    obtain ⟨ys, hys⟩ : ∃ ys : List Int, [si, st, (n : Int)] ++ xs = ys := ⟨_, rfl⟩
    have HYS := Lib.hid hys
    have hyl : ys.length = N := by rw [← hys, List.length_append, HN.out, ← HNN.out]; rfl
    have HYL := Lib.hid hyl
    rw [hys] at HD
    clear hys hyl
    go_wp2_with (at_builtin; refine wpList_append_rows (sub := noSub) Tryz.underlying22 infoI rfl (by decide) iCells_len iCells_one rfl (.tmp 17) (.tmp 19) rfl w1.heap.size (.slice (some ⟨w1.heap.size, 0, none⟩) 3 3) 3 _ rfl (ints_lit3 w1 si st n) va n vc xs HN.out rfl w.heap.size (HX.out.1.below noSub_kept (HB1.out.alloc hz1 _) (Nat.le_refl _)) HV.out (by unfold maxLen; omega) (by omega) (by simp) ?_)
    intro v2 w2 hown hg _
    obtain ⟨a2, c2, rfl⟩ := row_slice hown
    rw [HNN.out] at hown ⊢
    have hown2 : w2.ownsRow w1.heap.size 3 1 (.slice a2 N c2) N (ys.flatMap iCells) := by rw [← HYS.out]; simpa using hown
    have hg2 : w1.grownBy w2 (some w1.heap.size) := (World.grownBy_alloc w1 _ _).trans hg
    have hz2 := hg2.size
    have HB2 := Lib.hid (HB1.out.grown hg2 hz1 (fun q hq => by cases hq; exact hz1))
    have HK2 := Lib.hid ((hg2.block w.heap.size hlt1 (by simp; omega)).trans HK1.out)
    have HX2 := Lib.hid (ints_in HYL.out (show IntsOwn w2 w1.heap.size a2 N c2 ys from hown2))
    clear hown2 hown hg hg2 g0 g1 g2
    go_wp2_with fail
    go_loopw [5, 6] (fun v i wr => ∃ (k : Nat) (a : Option Addr) (c : Nat), k ≤ N ∧ i = .int .i64 k ∧ v = .slice a (8 * k) c ∧ BOwn wr w2.heap.size a (8 * k) c ((ys.take k).flatMap (numB 8)) ∧ Below w2.heap.size w2 wr) (fun _ i _ => N - (intOf i).toNat)
    case atStart => exact ⟨0, none, 0, by omega, rfl, rfl, ⟨rfl, World.ownsRow_nil _ _ _ _⟩, Below.refl _ _⟩
    case round =>
      obtain ⟨k, a, c, hk, rfl, rfl, hown, hbel⟩ := hrel
      have HO := Lib.hid hown
      have hsz := hbel.size
      clear hown
      by_cases hlt : k < N
      · have i1 : (k : Int) < N := by omega
        have hkx : ys[k]? = some (ys[k]'(by rw [HYL.out]; exact hlt)) := List.getElem?_eq_getElem _
        have htk : ys.take (k + 1) = ys.take k ++ [ys[k]'(by rw [HYL.out]; exact hlt)] := List.take_succ_eq_append_getElem _
        obtain ⟨b, off, hao, hb, hc, _⟩ := HX2.out.at hkx
        generalize ys[k]'(by rw [HYL.out]; exact hlt) = x at hc hkx htk
        have c0 : wr.cell? ⟨b, off + k, none⟩ = some (.int .i64 x) := by
          have := hc 0 (by decide)
          rw [Nat.mul_one, Nat.add_zero] at this
          exact (hbel.cell (p := ⟨b, _, none⟩) hb).trans this
        subst hao
        have HT := Lib.hid htk
        obtain ⟨m2, hm2⟩ : ∃ m2, 8 * k = m2 := ⟨_, rfl⟩
        have HM2 := Lib.hid hm2
        rw [hm2] at HO ⊢
        clear hc hkx htk hm2
        go_wp2_with fail
        refine (rNumber_any x _ wr rfl).mono ?_
        rintro e w3 ⟨a1, n1, c1, rfl, hbo1, hb1⟩
        obtain rfl : 8 = n1 := by have := hbo1.len; rw [numB_len] at this; exact this
        have HO1 := Lib.hid hbo1
        have hb2 := hbel.trans (hb1.mono hsz)
        have hz1 := hb1.size
        clear hbo1 c0
        go_wp2_with (at_builtin; refine wpList_append_bo rfl (.tmp 27) (.tmp 32) rfl w2.heap.size rfl (HO.out.below hb1 (Nat.le_refl _)) rfl (numB_len 8 x) _ HO1.out.in HO1.out.nil (by have := HM2.out; omega) (by omega) ?_)
        intro a4 n4 c4 w4 hown hg hn4
        have hb3 := hb2.grown hg (by omega) (fun k hk => (HO.out.lt k hk).1)
        have hn3 : n4 = 8 * (k + 1) := by rw [hn4, ← HM2.out]; omega
        subst hn3
        have HO2 := Lib.hid (show BOwn w4 w2.heap.size a4 (8 * (k + 1)) c4 ((ys.take (k + 1)).flatMap (numB 8)) by
          rw [HT.out, List.flatMap_append, List.flatMap_singleton]; exact hown)
        clear hown hg hn4
        go_wp2_with fail
        go_roundw
        case rel => exact ⟨k + 1, a4, c4, by omega, by go_num, rfl, HO2.out, hb3⟩
        case measure => simp [intOf] <;> omega
      · have i1 : ¬ (k : Int) < N := by omega
        obtain rfl : k = N := by omega
        have hown := HO.out
        rw [List.take_of_length_le (by rw [HYL.out]; exact Nat.le_refl _)] at hown
        obtain ⟨m2, hm2⟩ : ∃ m2, 8 * k = m2 := ⟨_, rfl⟩
        have hdm : m2 + m = dl := by have := HLE.out; have := HNN.out; omega
        have hdl2 : dl ≤ 100000000 := by have := HLE.out; omega
        rw [hm2] at hown ⊢
        have HO3 := Lib.hid hown
        have HDM := Lib.hid hdm
        have HBR := Lib.hid (HB2.out.trans (hbel.mono HB2.out.size))
        have HKR := Lib.hid ((hbel.block w.heap.size (by have := (Array.getElem?_eq_some_iff.1 HK2.out).1; omega)).trans HK2.out)
        have g3 := Go.Joins.cell_of_block HKR.out 3
        have ew : IntKind.i64.wrap ((m2 : Int) + (m : Int)) = (dl : Int) := by rw [IntWalk.i64_in _ (by omega)]; omega
        clear hown hm2 hdm HO HX2 HK2
        by_cases hbig : 1048576 < dl
        · have i2 : (1048576 : Int) < dl := by omega
          go_wp2_with fail
          go_ret2
          have hr3 := HR2.out
          rw [if_pos hbig] at hr3
          rw [← hr3]
          exact ⟨none, 0, 0, rfl, ⟨rfl, World.ownsRow_nil _ _ _ _⟩, HBR.out⟩
        · have i2 : ¬ (1048576 : Int) < dl := by omega
          have hr3 := HR2.out
          rw [if_neg hbig] at hr3
          have HR3 := Lib.hid hr3
          clear hr3
          go_wp2_with (at_builtin; refine wpList_append_bo rfl (.tmp 41) (.tmp 43) rfl w2.heap.size rfl HO3.out rfl HM.out w.heap.size (HX.out.2.below HBR.out (Nat.le_refl _)) HI.out (by have := HDM.out; omega) hsz ?_)
          intro a4 n4 c4 w4 hown hg hn4
          obtain rfl : dl = n4 := by rw [hn4]; exact HDM.out.symm
          rw [HD.out] at hown
          have HB4 := Lib.hid (HBR.out.grown hg HBR.out.size (fun q hq => by have := (HO3.out.lt q hq).1; omega))
          have HO4 := Lib.hid hown
          clear hown hg hn4 g3 ew
          have ba := (Below.refl w4.heap.size w4).alloc (Nat.le_refl _) (.cells #[.int .i64 1, .slice a4 dl c4] 46)
          have ka := heap_alloc_new w4 (.cells #[.int .i64 1, .slice a4 dl c4] 46)
          have HBA := Lib.hid ba
          have HKA := Lib.hid ka
          clear ba ka
          go_wp2_with fail
          generalize w4.alloc (.cells #[.int .i64 1, .slice a4 dl c4] 46) = w5 at HBA HKA ⊢
          refine (rfput1_any w4.heap.size a4 dl c4 D w5 (Go.Joins.cell_of_block HKA.out 0) (Go.Joins.cell_of_block HKA.out 1) (Array.getElem?_eq_some_iff.1 HKA.out).1 HDL.out (HO4.out.below HBA.out (Nat.le_refl _)).in HO4.out.nil HDW.out (by omega) r HR3.out).mono ?_
          rintro e w6 ⟨a6, n6, c6, rfl, ho6, b6⟩
          have HB5 := Lib.hid (HB4.out.trans (HBA.out.mono HB4.out.size))
          have hz5 := HB5.out.size
          have hb := HB5.out.trans (b6.mono hz5)
          have HO6 := Lib.hid (ho6.le hz5)
          clear b6 ho6
          go_wp2_with fail
          go_ret2
          exact ⟨a6, n6, c6, rfl, HO6.out, hb⟩
end Go.Proofs.YtejgebpdipnhmaaGreatDoor
