/- The law LetterBack, walked. Conditions: the letter and the bytes lie in memory as they are read. -/
import Derived.Test.YthdpfchbomaigaaDoorGLetterBack16
import Derived.Test.YthdpfchbomaigaaDoorGLetterBack17
set_option linter.unusedVariables false
namespace Go.Proofs.YthdpfchbomaigaaDoor
open Go.RowKit
set_option maxRecDepth 20000
theorem load_want {P : Program} {ops : Array Oper} {rest : List Oper} {op : Oper} {a : Act} {w : World} {Q : Exit → Act → World → Prop} (hw : Region.wanted op (yielded ops a.tmps) = true) (ty : TypeId) (x : Operand) (ho : op.op = .load ty x)
    (b o : Nat) (hx : a.eval x = .pointer (some ⟨b, o, none⟩)) (cs : List Value) (d : TypeDesc) (hc : w.rangeAt b o cs)
    (hu : P.underlying ty = some d) (hd : d.isRow = true) (hi : (P.info? ty).map (·.size) = some cs.length)
    (h : wpList P ops Q rest (a.put op.dst (.agg cs.toArray)) w) : wpList P ops Q (op :: rest) a w :=
  Go.BigFrame.wpList_want hw fun _ hK => wp_load_mid ty x ho b o hx cs d hc hu hd hi (hK _ _ h)
theorem rng_block {w : World} {g : Nat} {A : Array Value} {T : TypeId} {fz : Nat × Nat} (h : w.heap[g]? = some (.cells A T fz)) : w.rangeAt g 0 A.toList := fun j v hv => by
  rw [Nat.zero_add, Go.Joins.cell_of_block h, ← Array.getElem?_toList]
  exact hv
set_option maxHeartbeats 8000000 in
theorem walk_back21 (W : World) (l : Lt) (hx : ltSub W W.heap.size l) (hq : LtArg l) (ao : Option Addr) (n cap : Nat) (xs : List Int) (hn : xs.length = n) (hxs : BytesIn W W.heap.size ao xs) (hw : BytesWf xs) (hao : ao = none → cap = 0) (hcap : n ≤ cap) (hz : n ≤ 140737488351232) (cut : Int) :
    Calls Tryd.prog 3 #[ltVal l, .slice ao n cap, .int .i64 cut] W fun e w' => e = .returned (.bool true) ∧ Below W.heap.size W w' := by
  have hb0 := (Below.refl W.heap.size W).alloc (Nat.le_refl _) (.cells (ltArr l) 27)
  have hk := heap_alloc_new W (.cells (ltArr l) 27)
  have hs0 : (W.alloc (.cells (ltArr l) 27)).heap.size = W.heap.size + 1 := by simp
  have HB0 := Lib.hid hb0
  have HK := Lib.hid hk
  have HS0 := Lib.hid (Nat.le_of_eq hs0.symm)
  have HX := Lib.hid hx
  have HXS := Lib.hid hxs
  have HQ := Lib.hid hq
  have HN := Lib.hid hn
  have HW := Lib.hid hw
  clear hb0 hk hs0 hx hq hn hw hxs
  unfold ltVal
  go_enter Tryd.func3, Tryd.ntmps3
  go_upto_region 1 with fail
  have hb0 := HB0.out
  have hk := HK.out
  have hs0 := HS0.out
  clear HB0 HK HS0
  unfold ltArr at hb0 hk hs0
  generalize W.alloc (.cells #[.int .u8 l.kind, .int .i64 l.fr, .int .i64 l.to, .int .i64 l.term, .int .i64 l.index, .int .i64 l.was, .bool l.ok, .int .i64 l.commit, .int .i64 l.round, .slice l.eo l.es.length l.ecap, .slice l.vo l.vs.length l.vcap, .slice l.io l.im.length l.icap] 27) = w0 at hb0 hk hs0 ⊢
  have HK := Lib.hid hk
  clear hk
  go_wp2_with fail
  refine (awake21_any w0).mono ?_
  rintro e w1 ⟨rfl, b1⟩
  have hs1 := b1.size
  have B1 := Lib.hid (hb0.trans (b1.mono (by omega)))
  have hk1 := (b1.block W.heap.size (by omega)).trans HK.out
  have hrg := rng_block hk1
  have K1 := Lib.hid hk1
  clear b1 hb0 hk1 HK
  go_wp2_with (refine wpList_load_mid rfl 27 (.tmp 3) rfl W.heap.size 0 rfl (ltArr l).toList _ hrg Tryd.underlying27 rfl (info_lt3 l) ?_)
  refine (great21_any l w1 (ltSub_mono (ltSub_below HX.out B1.out (Nat.le_refl _)) (by omega)) HQ.out).mono ?_
  rintro e w2 ⟨g, rfl, hg, b2⟩
  have hs2 := b2.size
  have B2 := Lib.hid (B1.out.trans (b2.mono (by omega)))
  have hk2 := (b2.block W.heap.size (by omega)).trans K1.out
  have K2 := Lib.hid hk2
  have HG := Lib.hid hg
  clear b2 hk2 hg hrg K1 B1
  cases g with
  | true =>
    go_wp2_with fail
    go_ret
    exact ⟨rfl, B2.out⟩
  | false =>
  have HF := Lib.hid (HG.out rfl)
  clear HG
  by_cases hbig : (3000 : Int) < n
  · have h1 : decide ((3000 : Int) < n) = true := by simpa using hbig
    go_wp2_with fail
    go_ret
    exact ⟨rfl, B2.out⟩
  have h1 : decide ((3000 : Int) < n) = false := by simpa using hbig
  have hrg := rng_block K2.out
  obtain ⟨⟨bs, er⟩, hp⟩ : ∃ z, putL2 l.plain = z := ⟨_, rfl⟩
  have HP := Lib.hid hp
  clear hp
  go_wp2_with (refine wpList_load_mid rfl 27 (.tmp 3) rfl W.heap.size 0 rfl (ltArr l).toList _ hrg Tryd.underlying27 rfl (info_lt3 l) ?_)
  refine (lput_any l w2 (ltSub_mono (ltSub_below HX.out B2.out (Nat.le_refl _)) (by omega)) HF.out bs er HP.out).mono ?_
  rintro e w3 ⟨a3, c3, rfl, hi3, hn3, hc3, _, b3⟩
  have hs3 := b3.size
  have B3 := Lib.hid (B2.out.trans (b3.mono (by omega)))
  have hk3 := (b3.block W.heap.size (by omega)).trans K2.out
  have hrg3 := rng_block hk3
  have K3 := Lib.hid hk3
  have I3 := Lib.hid hi3
  obtain ⟨rb, hrb⟩ : ∃ z, rightL l.plain = z := ⟨_, rfl⟩
  have HRB := Lib.hid hrb
  obtain ⟨bn, hbn⟩ : ∃ z, bs.length = z := ⟨_, rfl⟩
  rw [hbn] at hc3 ⊢
  have HBN := Lib.hid hbn
  clear b3 hk3 hi3 hrb hrg K2 B2 hbn
  go_wp2_with (refine wpList_load_mid rfl 27 (.tmp 3) rfl W.heap.size 0 rfl (ltArr l).toList _ hrg3 Tryd.underlying27 rfl (info_lt3 l) ?_)
  refine (lright_any l w3 (ltSub_mono (ltSub_below HX.out B3.out (Nat.le_refl _)) (by omega)) HF.out rb HRB.out).mono ?_
  rintro e w4 ⟨rfl, b4⟩
  have hs4 := b4.size
  have B4 := Lib.hid (B3.out.trans (b4.mono (by omega)))
  have hk4 := (b4.block W.heap.size (by omega)).trans K3.out
  have K4 := Lib.hid hk4
  have I4 := Lib.hid ((I3.out.below b4 (Nat.le_refl _)).mono hs4)
  clear b4 hk4 hrg3 K3 B3 I3
  cases rb with
  | false =>
    have hp := HP.out
    unfold putL2 at hp
    rw [if_pos HRB.out] at hp
    simp only [Prod.mk.injEq] at hp
    obtain ⟨rfl, rfl⟩ := hp
    obtain rfl : 0 = bn := HBN.out
    go_wp2_with fail
    go_ret
    exact ⟨rfl, B4.out⟩
  | true =>
  by_cases hlong : 1048576 < (bytesL l.plain).length
  · have hp := HP.out
    unfold putL2 at hp
    rw [if_neg (by rw [HRB.out]; decide), if_pos hlong] at hp
    simp only [Prod.mk.injEq] at hp
    obtain ⟨rfl, rfl⟩ := hp
    obtain rfl : 0 = bn := HBN.out
    go_wp2_with fail
    go_ret
    exact ⟨rfl, B4.out⟩
  have hp := HP.out
  unfold putL2 at hp
  rw [if_neg (by rw [HRB.out]; decide), if_neg hlong] at hp
  simp only [Prod.mk.injEq] at hp
  obtain ⟨rfl, rfl⟩ := hp
  have hbl := Nat.le_of_not_lt hlong
  have hpos : 44 ≤ bn := by rw [← HBN.out, bytesL_head, List.length_append, headL_len]; omega
  have HBL := Lib.hid hbl
  have hwf := HF.out.bytes HRB.out
  have HWF := Lib.hid hwf
  have hbn2 : bn ≤ 1048576 := by have := HBN.out; omega
  clear hbl hlong hwf
  go_wp2_with fail
  refine (lget_any a3 bn c3 (bytesL l.plain) w4 (l.plain, 0) (getL_back HRB.out HF.out.ok HBL.out) HBN.out I4.out HWF.out hn3 hc3 (by omega)).mono ?_
  rintro e w5 ⟨x, rfl, hpl, _, how, b5⟩
  have hs5 := b5.size
  have hal := (Below.refl w5.heap.size w5).alloc (Nat.le_refl _) (.cells (ltArr x) 27)
  have hk3 := heap_alloc_new w5 (.cells (ltArr x) 27)
  have how6 : OwnLt (w5.alloc (.cells (ltArr x) 27)) w4.heap.size x := ⟨how.1.below hal (Nat.le_refl _), how.2.1.below hal (Nat.le_refl _), own_below how.2.2 hal (Nat.le_refl _)⟩
  have B6 := Lib.hid ((B4.out.trans (b5.mono (by omega))).trans (hal.mono (by omega)))
  have hk6 := (hal.block W.heap.size (by omega)).trans ((b5.block W.heap.size (by omega)).trans K4.out)
  have hI6 := I4.out.below (b5.trans (hal.mono hs5)) (Nat.le_refl _)
  have HPL := Lib.hid hpl
  have HO := Lib.hid how6
  have HK := Lib.hid hk3
  have K6 := Lib.hid hk6
  have I6 := Lib.hid hI6
  have hk2 := heap_alloc_new w5 (.cells (ltArr zeroT) 27)
  rw [zeroT_arr] at hk2
  clear b5 hal hk3 how how6 hpl hk6 hI6 I4 K4 B4
  go_upto_region 11 with (refine wpList_store_row rfl 27 (.tmp 9) (.tmp 47) rfl w5.heap.size (ltArr x) rfl (by first | rfl | simp) 27 _ hk2 (info_lt2 x) rfl (ltArr_one x) ?_; rw [World.setRow_alloc_new])
  have hs6 : w5.heap.size < (w5.alloc (.cells (ltArr x) 27)).heap.size := (Array.getElem?_eq_some_iff.1 HK.out).1
  clear hk2
  generalize w5.alloc (.cells (ltArr x) 27) = w6 at B6 HO HK K6 I6 hs6 ⊢
  have hrg := rng_block K6.out
  have hrgx := rng_block HK.out
  have hbn0 : decide (0 < bn) = true := decide_eq_true (by omega)
  go_wp2_with (first | (refine load_want (by rfl) 27 (.tmp 3) rfl W.heap.size 0 rfl (ltArr l).toList _ hrg Tryd.underlying27 rfl (info_lt3 l) ?_) | (refine load_want (by rfl) 27 (.tmp 9) rfl w5.heap.size 0 rfl (ltArr x).toList _ hrgx Tryd.underlying27 rfl (info_lt3 x) ?_))
  have hs6b := B6.out.size
  refine (sameL_any l x w6 w6.heap.size HPL.out.symm (ltSub_mono (ltSub_below HX.out B6.out (Nat.le_refl _)) hs6b) (own_ltSub HO.out) (Nat.le_refl _) (Nat.le_trans HF.out.en (by decide)) (Nat.le_trans HF.out.vn (by decide)) (Nat.le_trans HF.out.ln (by decide)) (fun e he => enSmall_fine (HF.out.es e he))).mono ?_
  rintro e w7 ⟨rfl, b7⟩
  have hs7 := b7.size
  have hI7 := ((I6.out.below b7 (by omega)).mono (show w4.heap.size ≤ w7.heap.size by omega))
  have hB7 := B6.out.trans (b7.mono hs6b)
  clear hrg hrgx b7 HO HK K6 I6 B6
  have I7 := Lib.hid hI7
  have B7 := Lib.hid hB7
  clear hI7 hB7
  have hs7b := B7.out.size
  go_upto_region 13 with fail
  by_cases hn0 : n = 0
  · have i5 : ¬ (0 : Int) < n := by omega
    have i6 : ¬ 0 < n := by omega
    go_wp2_with fail
    have hp1 := Int.emod_nonneg cut (show (bn : Int) ≠ 0 by omega)
    have hp2 := Int.emod_lt_of_pos cut (show 0 < (bn : Int) by omega)
    refine (pick_any cut bn (by omega) (by omega) w7).mono ?_
    rintro e wp ⟨rfl, rfl⟩
    obtain ⟨k, hk⟩ : ∃ k : Nat, cut % (bn : Int) = k := ⟨(cut % bn).toNat, by omega⟩
    rw [hk] at hp1 hp2 ⊢
    have hkl : k < bn := by omega
    have HTK := Lib.hid (show ((bytesL l.plain).take k).length = k by rw [List.length_take]; have := HBN.out; omega)
    have HTW := Lib.hid (show BytesWf ((bytesL l.plain).take k) from fun v hv => HWF.out v (List.mem_of_mem_take hv))
    obtain ⟨r2, hr2⟩ : ∃ r, getL ((bytesL l.plain).take k) = r := ⟨_, rfl⟩
    have hr24 : r2.2 = 4 := by rw [← hr2]; exact getL_cut HRB.out HF.out.ok HBL.out HWF.out (by rw [HBN.out]; exact hkl)
    have HR2 := Lib.hid hr2
    obtain ⟨rl2, rn2⟩ := r2
    obtain rfl : rn2 = 4 := hr24
    clear hk hp1 hp2 hr2
    have hws := B7.out.size
    go_wp2_with fail
    refine (lget_any a3 k c3 ((bytesL l.plain).take k) w7 (rl2, 4) HR2.out HTK.out (I7.out.take k) HTW.out hn3 (by omega) (by omega)).mono ?_
    rintro e wy ⟨y, rfl, _, _, _, by2⟩
    have BY := Lib.hid (B7.out.trans (by2.mono hws))
    have hsy := BY.out.size
    have hk2 := heap_alloc_new wy (.cells (ltArr zeroT) 27)
    rw [zeroT_arr] at hk2
    clear by2
    go_wp2_with (refine wpList_store_row rfl 27 (.tmp 13) (.tmp 87) rfl wy.heap.size (ltArr y) rfl (by first | rfl | simp) 27 _ hk2 (info_lt2 y) rfl (ltArr_one y) ?_; rw [World.setRow_alloc_new])
    go_ret
    exact ⟨rfl, BY.out.alloc hsy _⟩
  · have i5 : (0 : Int) < n := by omega
    have i6 : 0 < n := by omega
    have hxn : xs ≠ [] := fun h => hn0 (by rw [← HN.out, h]; rfl)
    go_wp2_with fail
    refine (copyB_any a3 bn c3 (bytesL l.plain) w7 w7.heap.size HBN.out I7.out (Nat.le_refl _) hn3 (by omega)).mono ?_
    rintro e w8 ⟨a8, c8, rfl, ho8, b8⟩
    have hs8 := b8.size
    have hI8 := (I7.out.below b8 (Nat.le_refl _)).mono hs8
    have hB8 := B7.out.trans (b8.mono hs7b)
    have O8 := Lib.hid ho8
    have B8 := Lib.hid hB8
    have C8 := Lib.hid b8
    clear ho8 hI8 hB8 b8 B7
    go_wp2_with (at_builtin; refine wpList_append_bytes_at rfl (.tmp 71) (.tmp 72) rfl w7.heap.size _ (bytesL l.plain) bn HBN.out rfl O8.out ao n cap xs HN.out rfl W.heap.size (HXS.out.below B8.out (Nat.le_refl _)) hao (by omega) hs8 ?_)
    intro v9 w9 ho9 hg9 hbl9
    have hb9 : Below W.heap.size W w9 := B8.out.grown hg9 (by omega) (fun g hg => Nat.le_trans hs7b (World.ownsRow.lt O8.out g hg).1)
    obtain ⟨m, hm⟩ : ∃ m, bn + n = m := ⟨_, rfl⟩
    have hL : (bytesL l.plain ++ xs).length = m := by rw [List.length_append, HBN.out, HN.out]; exact hm
    have hs9 : w8.heap.size ≤ w9.heap.size := hg9.size
    have hown : w9.ownsRow w7.heap.size 5 1 v9 (bytesL l.plain ++ xs).length ((bytesL l.plain ++ xs).map bv) := by rw [hL, ← hm, List.map_append]; simpa using ho9
    obtain ⟨a9, c9, hv9, hi9⟩ := own_bytes hown
    rw [hL] at hv9 hown
    subst hv9
    have hn9 := own_none hown
    have hc9 := own_capG hown
    have HL := Lib.hid hL
    have I9 := Lib.hid hi9
    have B9 := Lib.hid hb9
    have I7b := Lib.hid ((I7.out.below (C8.out.grown hg9 hs8 (fun g hg => (World.ownsRow.lt O8.out g hg).1)) (Nat.le_refl _)).mono (Nat.le_trans hs8 hs9))
    have HLW := Lib.hid (show BytesWf (bytesL l.plain ++ xs) from fun v hv => (List.mem_append.1 hv).elim (HWF.out v) (HW.out v))
    obtain ⟨r3, hr3⟩ : ∃ r, getL (bytesL l.plain ++ xs) = r := ⟨_, rfl⟩
    have hr34 : r3.2 = 4 := by rw [← hr3]; exact getL_more HRB.out HF.out.ok hxn (by have := HN.out; omega)
    have HR3 := Lib.hid hr3
    obtain ⟨rl3, rn3⟩ := r3
    obtain rfl : rn3 = 4 := hr34
    have hm2 : m ≤ 140737488351232 := by omega
    clear hr3 hown hL hi9 hb9 hg9 hbl9 ho9 O8 C8 I7 B8 hm
    go_wp2_with fail
    refine (lget_any a9 m c9 (bytesL l.plain ++ xs) w9 (rl3, 4) HR3.out HL.out I9.out HLW.out hn9 hc9 hm2).mono ?_
    rintro e wx ⟨y, rfl, _, _, _, by2⟩
    have hs10 := by2.size
    have hal := (Below.refl wx.heap.size wx).alloc (Nat.le_refl _) (.cells (ltArr y) 27)
    have BX := Lib.hid (B9.out.trans ((by2.trans (hal.mono hs10)).mono B9.out.size))
    have IX := Lib.hid ((I7b.out.below (by2.trans (hal.mono hs10)) (Nat.le_refl _)).mono (Nat.le_trans hs10 hal.size))
    have hk2 := heap_alloc_new wx (.cells (ltArr zeroT) 27)
    rw [zeroT_arr] at hk2
    clear by2 hal
    go_upto_region 17 with (refine wpList_store_row rfl 27 (.tmp 11) (.tmp 75) rfl wx.heap.size (ltArr y) rfl (by first | rfl | simp) 27 _ hk2 (info_lt2 y) rfl (ltArr_one y) ?_; rw [World.setRow_alloc_new])
    clear hk2
    generalize wx.alloc (.cells (ltArr y) 27) = wv at BX IX ⊢
    go_wp2_with fail
    have hp1 := Int.emod_nonneg cut (show (bn : Int) ≠ 0 by omega)
    have hp2 := Int.emod_lt_of_pos cut (show 0 < (bn : Int) by omega)
    refine (pick_any cut bn (by omega) (by omega) wv).mono ?_
    rintro e wp ⟨rfl, rfl⟩
    obtain ⟨k, hk⟩ : ∃ k : Nat, cut % (bn : Int) = k := ⟨(cut % bn).toNat, by omega⟩
    rw [hk] at hp1 hp2 ⊢
    have hkl : k < bn := by omega
    have HTK := Lib.hid (show ((bytesL l.plain).take k).length = k by rw [List.length_take]; have := HBN.out; omega)
    have HTW := Lib.hid (show BytesWf ((bytesL l.plain).take k) from fun v hv => HWF.out v (List.mem_of_mem_take hv))
    obtain ⟨r2, hr2⟩ : ∃ r, getL ((bytesL l.plain).take k) = r := ⟨_, rfl⟩
    have hr24 : r2.2 = 4 := by rw [← hr2]; exact getL_cut HRB.out HF.out.ok HBL.out HWF.out (by rw [HBN.out]; exact hkl)
    have HR2 := Lib.hid hr2
    obtain ⟨rl2, rn2⟩ := r2
    obtain rfl : rn2 = 4 := hr24
    clear hk hp1 hp2 hr2
    have hws := BX.out.size
    go_wp2_with fail
    refine (lget_any a3 k c3 ((bytesL l.plain).take k) wv (rl2, 4) HR2.out HTK.out (IX.out.take k) HTW.out hn3 (by omega) (by omega)).mono ?_
    rintro e wy ⟨y, rfl, _, _, _, by2⟩
    have BY := Lib.hid (BX.out.trans (by2.mono hws))
    have hsy := BY.out.size
    have hk2 := heap_alloc_new wy (.cells (ltArr zeroT) 27)
    rw [zeroT_arr] at hk2
    clear by2
    go_wp2_with (refine wpList_store_row rfl 27 (.tmp 13) (.tmp 87) rfl wy.heap.size (ltArr y) rfl (by first | rfl | simp) 27 _ hk2 (info_lt2 y) rfl (ltArr_one y) ?_; rw [World.setRow_alloc_new])
    go_ret
    exact ⟨rfl, BY.out.alloc hsy _⟩
theorem walk_LetterBack {H : Type} {enc : TypeId × Value → H} {d : DataW H} {p : List MemPlace} (W : World) (cs : Array Value) (hc : cs.size = Tryd.prog.cellsOf 27) (h : DataW.Trod enc Tryd.prog W 0 (fun _ => true) true 27 (.agg cs) d p) (hz : DSized Tryd.prog 27 d)
    (ao : Option Addr) (n cap : Nat) (xs : List Int) (hn : xs.length = n) (hx : BytesIn W W.heap.size ao xs) (hw : BytesWf xs) (hao : ao = none → cap = 0) (hcap : n ≤ cap) (hz0 : cap ≤ maxLen) (hz1 : n * Tryd.prog.bytesOf 5 ≤ 140737488351232) (cut : Int) (hcut : (Lit.int .i64 cut).wf = true) :
    Calls Tryd.prog 3 #[.agg cs, .slice ao n cap, .int .i64 cut] W fun e w' => e = .returned (.bool true) ∧ Below W.heap.size W w' := by
  rw [bytes_b, Nat.mul_one] at hz1
  obtain ⟨l, hl, hxl, hql⟩ := open_letter hc h hz
  rw [hl]
  exact walk_back21 W l hxl hql ao n cap xs hn hx hw hao hcap hz1 cut
end Go.Proofs.YthdpfchbomaigaaDoor
