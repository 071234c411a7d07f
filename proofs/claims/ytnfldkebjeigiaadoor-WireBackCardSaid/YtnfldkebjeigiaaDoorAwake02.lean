/- The example of the laws of layer 2: it is as it must be, and nothing that was there is changed. No condition. -/
import Derived.Test.YtnfldkebjeigiaaDoorWJoin2
namespace Go.Proofs.YtnfldkebjeigiaaDoor
open Go.RowKit
set_option maxRecDepth 20000

set_option maxHeartbeats 4000000 in
theorem awake02_any (w : World) : Calls Tryd.prog 4 #[] w fun e w' => e = .returned (.bool true) ∧ Below w.heap.size w w' := by
  have hN := Lib.hid (show numB 8 (-2) = [255, 255, 255, 255, 255, 255, 255, 254] by decide +kernel)
  have hV := Lib.hid (show valueB ⟨2, 0, ⟨#[97, 98]⟩⟩ = [2, 0, 0, 0, 2, 97, 98] by decide +kernel)
  have hV0 := Lib.hid (show valuesB [] = [0, 0, 0, 0] by decide +kernel)
  have s1 := Lib.hid (show (IntKind.i64.wrap (getN (takeS 8 false [0, 0, 0]).1), (takeS 8 false [0, 0, 0]).2) = (0, true, [0, 0, 0]) by decide +kernel)
  have s2 := Lib.hid (show (IntKind.i64.wrap (getN (takeS 8 false [255, 255, 255, 255, 255, 255, 255, 254, 2, 0, 0, 0, 2, 97, 98]).1), (takeS 8 false [255, 255, 255, 255, 255, 255, 255, 254, 2, 0, 0, 0, 2, 97, 98]).2) = (-2, false, [2, 0, 0, 0, 2, 97, 98]) by decide +kernel)
  have s3 := Lib.hid (show valueS false [2, 0, 0, 0, 2, 97, 98] = (⟨2, 0, ⟨#[97, 98]⟩⟩, false, []) by kernel_rfl)
  go_enter Tryd.func4, Tryd.ntmps4
  go_wp2_with fail
  refine (newReader_any (some ⟨w.heap.size, 0, none⟩) 3 3 [0, 0, 0] _ (w.heap.size + 1) rfl (bytes_new w _ _ _ (0, 0) _ _ rfl rfl (by omega)) (by simp) (by simp) (by decide)).mono ?_
  rintro e w1 ⟨rb, rfl, hrb, hR, hb⟩
  have b1 : Below w.heap.size w w1 := ((Below.refl _ _).alloc (Nat.le_refl _) _).trans (hb.mono (by simp))
  have hrb1 : w.heap.size ≤ rb := by simp at hrb; omega
  have R1 := Lib.hid hR
  clear hb hR hrb
  go_wp2_with fail
  refine (number_at rb rb _ _ _ _ _ w1 s1.out R1.out (by simp [BytesWf]) (by decide)).mono ?_
  rintro e w2 ⟨rfl, hR2, hO⟩
  have b2 := b1.trans (hO.toBelow b1.size hrb1)
  have R2 := Lib.hid hR2
  clear hR2 hO R1 b1
  go_wp2_with fail
  refine (number_w _ _ w2 hN.out).mono ?_
  rintro e w3 ⟨a3, c3, rfl, ho3, hb3⟩
  have b3 := b2.trans (hb3.mono b2.size)
  have R3 := Lib.hid (R2.out.below hb3)
  have hn3 := own_none ho3
  have O3 := Lib.hid ho3
  clear ho3 hb3 R2 b2
  go_wp2_with fail
  refine (value_w _ _ _ _ w3 hV.out (by decide)).mono ?_
  rintro e w4 ⟨a4, c4, rfl, ho4, hb4⟩
  have b4 := b3.trans (hb4.mono b3.size)
  have R4 := Lib.hid (R3.out.below hb4)
  have hp3 := (own_in rfl O3.out).below hb4 (Nat.le_refl _)
  have hp4 := own_in rfl ho4
  have hs4 := hb4.size
  have P3 := Lib.hid (hp3.mono hs4)
  have P4 := Lib.hid hp4
  clear ho4 hb4 R3 b3 hp3 hp4 O3
  go_wp2_with fail
  have hA := (Below.refl w4.heap.size w4).alloc (Nat.le_refl _) (.cells #[.slice a3 8 c3, .slice a4 7 c4] 47)
  refine (wjoin_any (some ⟨w4.heap.size, 0, none⟩) 2 2 [⟨a3, c3, [255, 255, 255, 255, 255, 255, 255, 254]⟩, ⟨a4, c4, [2, 0, 0, 0, 2, 97, 98]⟩] [255, 255, 255, 255, 255, 255, 255, 254, 2, 0, 0, 0, 2, 97, 98] _ (w4.heap.size + 1) rfl (by kernel_rfl) (rowsIn_block ptCells_len _ _ (heap_alloc_new w4 _) rfl (by omega) (by
    intro x hx
    simp only [List.mem_cons, List.not_mem_nil, or_false] at hx
    rcases hx with rfl | rfl
    · exact (P3.out.below hA (Nat.le_refl _)).mono (by omega)
    · exact (P4.out.below hA (Nat.le_refl _)).mono (by omega))) (by simp) (by simp [BytesWf]) (by decide) (by decide) (by decide)).mono ?_
  rintro e w5 ⟨a5, c5, rfl, hin5, hn5, hc5, hbl5, hb5⟩
  have b5 := (b4.alloc b4.size _).trans (hb5.mono (Nat.le_trans b4.size hA.size))
  have R5 := Lib.hid ((R4.out.below hA).below hb5)
  have I5 := Lib.hid hin5
  clear hin5 hc5 hbl5 hb5 R4 b4 hA P3 P4
  go_wp2_with fail
  refine (newReader_any a5 15 c5 [255, 255, 255, 255, 255, 255, 255, 254, 2, 0, 0, 0, 2, 97, 98] _ w5.heap.size rfl I5.out (Nat.le_refl _) hn5 (by decide)).mono ?_
  rintro e w6 ⟨rc, rfl, hrc, hR, hb⟩
  have b6 := b5.trans (hb.mono b5.size)
  have R6 := Lib.hid (R5.out.below hb)
  have hrr : rb < rc := Nat.lt_of_lt_of_le R5.out.lt hrc
  have X6 := Lib.hid hR
  clear hb hR hrc R5 b5 I5 hn5
  go_wp2_with fail
  refine (number_at rc rc _ _ _ _ _ w6 s2.out X6.out (by simp [BytesWf]) (by decide)).mono ?_
  rintro e w7 ⟨rfl, hR, hO⟩
  have b7 := b6.trans (hO.toBelow b6.size (by omega))
  have R7 := Lib.hid (R6.out.only2 hO (by omega) (by omega))
  have X7 := Lib.hid hR
  clear hO hR R6 X6 b6
  go_wp2_with fail
  refine (value_at rc rc _ _ _ _ _ w7 s3.out X7.out (by simp [BytesWf]) (by decide)).mono ?_
  rintro e w8 ⟨he, hR, hO⟩
  unfold Va.val at he
  subst he
  have b8 := b7.trans (hO.toBelow b7.size (by omega))
  have R8 := Lib.hid (R7.out.only2 hO (by omega) (by omega))
  have X8 := Lib.hid hR
  clear hO hR R7 X7 b7
  have hA := (Below.refl w8.heap.size w8).alloc (Nat.le_refl _) (.cells #[.int .u8 2, .int .i64 0, .string ⟨#[97, 98]⟩] 24)
  have b9 := b8.trans (hA.mono b8.size)
  have R9 := Lib.hid (R8.out.below hA)
  have X9 := Lib.hid (X8.out.below hA)
  have t9 : (w8.alloc (.cells #[.int .u8 2, .int .i64 0, .string ⟨#[97, 98]⟩] 24)).cell? ⟨w8.heap.size, 2, none⟩ = some (.string ⟨#[97, 98]⟩) := Go.Joins.cell_of_block (heap_alloc_new w8 _) 2
  have T9 := Lib.hid t9
  have S9 := Lib.hid hA.size
  have HG := Lib.hid (show w8.heap.size < (w8.alloc (.cells #[.int .u8 2, .int .i64 0, .string ⟨#[97, 98]⟩] 24)).heap.size by simp)
  clear hA t9 b8 R8 X8
  go_wp2_with fail
  generalize w8.alloc (.cells #[.int .u8 2, .int .i64 0, .string ⟨#[97, 98]⟩] 24) = w9 at b9 R9 X9 T9 S9 HG ⊢
  generalize w8.heap.size = g at T9 S9 HG ⊢
  obtain ⟨m9, hm9⟩ : ∃ m, w9.heap.size = m := ⟨_, rfl⟩
  have HG2 := Lib.hid (show g < m9 from hm9 ▸ HG.out)
  have S9b := Lib.hid (show m9 ≤ w9.heap.size from Nat.le_of_eq hm9.symm)
  clear HG S9 hm9
  have HG := Lib.hid HG2.out
  have S9 := Lib.hid S9b.out
  clear HG2 S9b
  refine (bad_rd rb rb _ _ w9 R9.out).mono ?_
  rintro e w9' ⟨rfl, rfl⟩
  go_wp2_with fail
  refine (done_rd rb rb _ _ w9 R9.out).mono ?_
  rintro e w9' ⟨rfl, rfl⟩
  go_wp2_with fail
  refine (number_w _ _ w9 hN.out).mono ?_
  rintro e w10 ⟨a10, c10, rfl, ho, hb⟩
  have b10 := b9.trans (hb.mono b9.size)
  have R10 := Lib.hid (R9.out.below hb)
  have X10 := Lib.hid (X9.out.below hb)
  have T10 := Lib.hid ((hb.cell (p := ⟨g, 2, none⟩) (Nat.lt_of_lt_of_le HG.out S9.out)).trans T9.out)
  have S10 := Lib.hid (Nat.le_trans S9.out hb.size)
  have hA := (Below.refl w10.heap.size w10).alloc (Nat.le_refl _) (.cells #[.int .u8 255, .int .u8 255, .int .u8 255, .int .u8 255, .int .u8 255, .int .u8 255, .int .u8 255, .int .u8 254] 5)
  have P := Lib.hid (((own_in rfl ho).below hA (Nat.le_refl _)).mono hA.size)
  have Q := Lib.hid (bytes_new w10 5 [255, 255, 255, 255, 255, 255, 255, 254] #[.int .u8 255, .int .u8 255, .int .u8 255, .int .u8 255, .int .u8 255, .int .u8 255, .int .u8 255, .int .u8 254] (0, 0) w10.heap.size (w10.heap.size + 1) rfl rfl (by omega))
  have hbA := b10.trans (hA.mono b10.size)
  have RA := Lib.hid (R10.out.below hA)
  have XA := Lib.hid (X10.out.below hA)
  have TA := Lib.hid ((hA.cell (p := ⟨g, 2, none⟩) (Nat.lt_of_lt_of_le HG.out S10.out)).trans T10.out)
  have SA := Lib.hid (Nat.le_trans S10.out hA.size)
  clear ho hb hA R9 X9 T9 S9 b9 R10 X10 T10
  go_wp2_with fail
  have hz : (w10.alloc (.cells #[.int .u8 255, .int .u8 255, .int .u8 255, .int .u8 255, .int .u8 255, .int .u8 255, .int .u8 255, .int .u8 254] 5)).heap.size = w10.heap.size + 1 := by simp
  refine (sameB_any a10 8 c10 (some ⟨w10.heap.size, 0, none⟩) 8 8 [255, 255, 255, 255, 255, 255, 255, 254] _ rfl rfl P.out (by rw [hz]; exact Q.out) (by decide)).mono ?_
  rintro e w11 ⟨rfl, hb⟩
  have b11 := hbA.trans (hb.mono hbA.size)
  have R11 := Lib.hid (RA.out.below hb)
  have X11 := Lib.hid (XA.out.below hb)
  have T11 := Lib.hid ((hb.cell (p := ⟨g, 2, none⟩) (Nat.lt_of_lt_of_le HG.out SA.out)).trans TA.out)
  have S11 := Lib.hid (Nat.le_trans SA.out hb.size)
  clear hb RA XA TA SA P Q hz hbA b10 S10
  go_wp2_with fail
  refine (value_w _ _ _ _ w11 hV.out (by decide)).mono ?_
  rintro e w12 ⟨a12, c12, rfl, ho, hb⟩
  have b12 := b11.trans (hb.mono b11.size)
  have R12 := Lib.hid (R11.out.below hb)
  have X12 := Lib.hid (X11.out.below hb)
  have T12 := Lib.hid ((hb.cell (p := ⟨g, 2, none⟩) (Nat.lt_of_lt_of_le HG.out S11.out)).trans T11.out)
  have S12 := Lib.hid (Nat.le_trans S11.out hb.size)
  have hA := (Below.refl w12.heap.size w12).alloc (Nat.le_refl _) (.cells #[.int .u8 2, .int .u8 0, .int .u8 0, .int .u8 0, .int .u8 2, .int .u8 97, .int .u8 98] 5)
  have P := Lib.hid (((own_in rfl ho).below hA (Nat.le_refl _)).mono hA.size)
  have Q := Lib.hid (bytes_new w12 5 [2, 0, 0, 0, 2, 97, 98] #[.int .u8 2, .int .u8 0, .int .u8 0, .int .u8 0, .int .u8 2, .int .u8 97, .int .u8 98] (0, 0) w12.heap.size (w12.heap.size + 1) rfl rfl (by omega))
  have hbA := b12.trans (hA.mono b12.size)
  have RA := Lib.hid (R12.out.below hA)
  have XA := Lib.hid (X12.out.below hA)
  have TA := Lib.hid ((hA.cell (p := ⟨g, 2, none⟩) (Nat.lt_of_lt_of_le HG.out S12.out)).trans T12.out)
  have SA := Lib.hid (Nat.le_trans S12.out hA.size)
  clear ho hb hA R11 X11 T11 S11 b11 R12 X12 T12
  go_wp2_with fail
  have hz : (w12.alloc (.cells #[.int .u8 2, .int .u8 0, .int .u8 0, .int .u8 0, .int .u8 2, .int .u8 97, .int .u8 98] 5)).heap.size = w12.heap.size + 1 := by simp
  refine (sameB_any a12 7 c12 (some ⟨w12.heap.size, 0, none⟩) 7 7 [2, 0, 0, 0, 2, 97, 98] _ rfl rfl P.out (by rw [hz]; exact Q.out) (by decide)).mono ?_
  rintro e w13 ⟨rfl, hb⟩
  have b13 := hbA.trans (hb.mono hbA.size)
  have R13 := Lib.hid (RA.out.below hb)
  have X13 := Lib.hid (XA.out.below hb)
  have T13 := Lib.hid ((hb.cell (p := ⟨g, 2, none⟩) (Nat.lt_of_lt_of_le HG.out SA.out)).trans TA.out)
  have S13 := Lib.hid (Nat.le_trans SA.out hb.size)
  clear hb RA XA TA SA P Q hz hbA b12 S12
  go_wp2_with fail
  refine (values_w _ w13 hV0.out).mono ?_
  rintro e w14 ⟨a14, c14, rfl, ho, hb⟩
  have b14 := b13.trans (hb.mono b13.size)
  have R14 := Lib.hid (R13.out.below hb)
  have X14 := Lib.hid (X13.out.below hb)
  have T14 := Lib.hid ((hb.cell (p := ⟨g, 2, none⟩) (Nat.lt_of_lt_of_le HG.out S13.out)).trans T13.out)
  have S14 := Lib.hid (Nat.le_trans S13.out hb.size)
  have hA := (Below.refl w14.heap.size w14).alloc (Nat.le_refl _) (.cells #[.int .u8 0, .int .u8 0, .int .u8 0, .int .u8 0] 5)
  have P := Lib.hid (((own_in rfl ho).below hA (Nat.le_refl _)).mono hA.size)
  have Q := Lib.hid (bytes_new w14 5 [0, 0, 0, 0] #[.int .u8 0, .int .u8 0, .int .u8 0, .int .u8 0] (0, 0) w14.heap.size (w14.heap.size + 1) rfl rfl (by omega))
  have hbA := b14.trans (hA.mono b14.size)
  have RA := Lib.hid (R14.out.below hA)
  have XA := Lib.hid (X14.out.below hA)
  have TA := Lib.hid ((hA.cell (p := ⟨g, 2, none⟩) (Nat.lt_of_lt_of_le HG.out S14.out)).trans T14.out)
  have SA := Lib.hid (Nat.le_trans S14.out hA.size)
  clear ho hb hA R13 X13 T13 S13 b13 R14 X14 T14
  go_wp2_with fail
  have hz : (w14.alloc (.cells #[.int .u8 0, .int .u8 0, .int .u8 0, .int .u8 0] 5)).heap.size = w14.heap.size + 1 := by simp
  refine (sameB_any a14 4 c14 (some ⟨w14.heap.size, 0, none⟩) 4 4 [0, 0, 0, 0] _ rfl rfl P.out (by rw [hz]; exact Q.out) (by decide)).mono ?_
  rintro e w15 ⟨rfl, hb⟩
  have b15 := hbA.trans (hb.mono hbA.size)
  have R15 := Lib.hid (RA.out.below hb)
  have X15 := Lib.hid (XA.out.below hb)
  have T15 := Lib.hid ((hb.cell (p := ⟨g, 2, none⟩) (Nat.lt_of_lt_of_le HG.out SA.out)).trans TA.out)
  have S15 := Lib.hid (Nat.le_trans SA.out hb.size)
  clear hb RA XA TA SA P Q hz hbA b14 S14
  have t15 := T15.out
  go_wp2_with fail
  refine (done_rd rc rc _ _ w15 X15.out).mono ?_
  rintro e w15' ⟨rfl, rfl⟩
  go_wp2_with fail
  refine (bad_rd rc rc _ _ w15 X15.out).mono ?_
  rintro e w15' ⟨rfl, rfl⟩
  go_wp2_with fail
  go_ret
  exact ⟨rfl, b15⟩
end Go.Proofs.YtnfldkebjeigiaaDoor
