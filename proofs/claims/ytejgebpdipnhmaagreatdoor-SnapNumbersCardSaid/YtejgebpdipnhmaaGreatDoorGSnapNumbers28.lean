/- bag.apart: lists that lie apart, kind by kind, are found to do so. Conditions: each list is the caller's own, in a block of its own. -/
import Derived.Test.YtejgebpdipnhmaaGreatDoorGSnapNumbers20
import Derived.Test.YtejgebpdipnhmaaGreatDoorGSnapNumbers24
import Derived.Test.YtejgebpdipnhmaaGreatDoorGSnapNumbers25
import Derived.Test.YtejgebpdipnhmaaGreatDoorGSnapNumbers15
import Derived.Test.YtejgebpdipnhmaaGreatDoorGSnapNumbers27
set_option linter.unusedVariables false
set_option linter.unusedSimpArgs false
namespace Go.Proofs.YtejgebpdipnhmaaGreatDoor
open Go.RowKit
set_option maxRecDepth 20000
theorem Kb.own {S : Nat → Prop} {B U B2 E SZ n : Nat} {v : Value} {xs : List Value} {w w' : World} (h : Kb S B U w w') (ho : w.ownsRow B2 E SZ v n xs) (he : E ≠ U) : w'.ownsRow B2 E SZ v n xs := by
  refine ⟨ho.1, ?_⟩
  rcases ho.2 with hn | ⟨g, cap, cur, hv, h1, h2, h3⟩
  · exact Or.inl hn
  · exact Or.inr ⟨g, cap, cur, hv, h1, h.other g cur E _ h2 he, h3⟩
set_option maxHeartbeats 4000000 in
theorem apartS_bag (B Bb bb : Nat) (f : Nat → Value) (rows : Nat → List Value) (w : World) (hbag : Bag w Bb bb f rows) (hB : B ≤ w.heap.size) (hBb : B ≤ Bb)
    (K2 : Nat) (R2 : Nat → Value) (n2 : Nat → Nat) (C2 : Nat → List Value) (h2 : rows 2 = (List.range K2).map R2) (hR2 : RowsAt B 3 1 K2 R2 n2 C2 w) (hS2 : SepAll K2 R2) (hK2 : K2 ≤ 100000) (hn2 : ∀ j, j < K2 → n2 j ≤ 1099511627776)
    (K5 : Nat) (R5 : Nat → Value) (n5 : Nat → Nat) (C5 : Nat → List Value) (h5 : rows 5 = (List.range K5).map R5) (hR5 : RowsAt B 5 1 K5 R5 n5 C5 w) (hS5 : SepAll K5 R5) (hK5 : K5 ≤ 100000) (hn5 : ∀ j, j < K5 → n5 j ≤ 1099511627776)
    (K22 : Nat) (R22 : Nat → Value) (n22 : Nat → Nat) (C22 : Nat → List Value) (h22 : rows 22 = (List.range K22).map R22) (hR22 : RowsAt B 26 4 K22 R22 n22 C22 w) (hS22 : SepAll K22 R22) (hK22 : K22 ≤ 100000) (hn22 : ∀ j, j < K22 → n22 j ≤ 1099511627776)
    : Calls Tryz.prog 48 #[.pointer (some ⟨bb, 0, none⟩)] w fun e w' => e = .returned (.bool true) ∧ Below B w w' ∧ ∀ b, b < w.heap.size → ¬ ofRows K2 R2 b → ¬ ofRows K5 R5 b → ¬ ofRows K22 R22 b → w'.heap[b]? = w.heap[b]? := by
  have hL2 : w.ownsRow B 22 1 (f 2) K2 ((List.range K2).map R2) := by
    have h1 := hbag.own 2
    rw [h2, List.length_map, List.length_range] at h1
    exact Go.Joins.ownsRow_le h1 hBb
  obtain ⟨lo2, lc2, hv2, _, _, _⟩ := row_form hL2
  rw [hv2] at hL2
  have HL2_0 := Lib.hid hL2
  have HR2_0 := Lib.hid hR2
  have HS2 := Lib.hid hS2
  have HN2 := Lib.hid hn2
  have HV2 := Lib.hid hv2
  clear hL2 hR2 hS2 hn2 hv2 h2
  have hL5 : w.ownsRow B 24 1 (f 5) K5 ((List.range K5).map R5) := by
    have h1 := hbag.own 5
    rw [h5, List.length_map, List.length_range] at h1
    exact Go.Joins.ownsRow_le h1 hBb
  obtain ⟨lo5, lc5, hv5, _, _, _⟩ := row_form hL5
  rw [hv5] at hL5
  have HL5_0 := Lib.hid hL5
  have HR5_0 := Lib.hid hR5
  have HS5 := Lib.hid hS5
  have HN5 := Lib.hid hn5
  have HV5 := Lib.hid hv5
  clear hL5 hR5 hS5 hn5 hv5 h5
  have hL22 : w.ownsRow B 49 1 (f 22) K22 ((List.range K22).map R22) := by
    have h1 := hbag.own 22
    rw [h22, List.length_map, List.length_range] at h1
    exact Go.Joins.ownsRow_le h1 hBb
  obtain ⟨lo22, lc22, hv22, _, _, _⟩ := row_form hL22
  rw [hv22] at hL22
  have HL22_0 := Lib.hid hL22
  have HR22_0 := Lib.hid hR22
  have HS22 := Lib.hid hS22
  have HN22 := Lib.hid hn22
  have HV22 := Lib.hid hv22
  clear hL22 hR22 hS22 hn22 hv22 h22
  have H0 := Lib.hid hbag.is
  have HBG := Lib.hid hbag
  have hbel0 : Below B w w := Below.refl _ _
  have hlt0 := hbag.lt
  clear hbag
  have c0 : w.cell? ⟨bb, 0, none⟩ = some (.slice none 0 0) := by
    rw [Go.Joins.cell_of_block H0.out 0, List.getElem?_toArray, List.getElem?_map, List.getElem?_range (by decide), ← (HBG.out.nil 0 (HBG.out.unused 0 rfl))]; rfl
  go_enter Tryz.func48, Tryz.ntmps48
  go_wp2_with fail
  refine (flatNil_Limbs _).mono ?_
  rintro e w1 ⟨rfl, hb1⟩
  have H1 := Lib.hid ((hb1.block bb hlt0).trans H0.out)
  have hbel1 := hbel0.trans (hb1.mono (Nat.le_trans hB hbel0.size))
  have HAP1 := Lib.hid (show ∀ b, b < w.heap.size → ¬ ofRows K2 R2 b → ¬ ofRows K5 R5 b → ¬ ofRows K22 R22 b → w1.heap[b]? = w.heap[b]? from fun b hb g2 g5 g22 => (hb1.block b (Nat.lt_of_lt_of_le hb hbel0.size)).trans (rfl))
  have HL2_1 := Lib.hid (own_below HL2_0.out hb1 (Nat.le_refl _))
  have HR2_1 := Lib.hid (show RowsAt B 3 1 K2 R2 n2 C2 w1 from fun j hj => own_below (HR2_0.out j hj) hb1 (Nat.le_refl _))
  have HL5_1 := Lib.hid (own_below HL5_0.out hb1 (Nat.le_refl _))
  have HR5_1 := Lib.hid (show RowsAt B 5 1 K5 R5 n5 C5 w1 from fun j hj => own_below (HR5_0.out j hj) hb1 (Nat.le_refl _))
  have HL22_1 := Lib.hid (own_below HL22_0.out hb1 (Nat.le_refl _))
  have HR22_1 := Lib.hid (show RowsAt B 26 4 K22 R22 n22 C22 w1 from fun j hj => own_below (HR22_0.out j hj) hb1 (Nat.le_refl _))
  have hlt1 := (Array.getElem?_eq_some_iff.1 H1.out).1
  clear c0
  clear HL2_0 HR2_0
  clear HL5_0 HR5_0
  clear HL22_0 HR22_0
  have c1 : w1.cell? ⟨bb, 1, none⟩ = some (.slice none 0 0) := by
    rw [Go.Joins.cell_of_block H1.out 1, List.getElem?_toArray, List.getElem?_map, List.getElem?_range (by decide), ← (HBG.out.nil 1 (HBG.out.unused 1 rfl))]; rfl
  go_wp2_with fail
  refine (flatNil_Words _).mono ?_
  rintro e w2 ⟨rfl, hb2⟩
  have H2 := Lib.hid ((hb2.block bb hlt1).trans H1.out)
  have hbel2 := hbel1.trans (hb2.mono (Nat.le_trans hB hbel1.size))
  have HAP2 := Lib.hid (show ∀ b, b < w.heap.size → ¬ ofRows K2 R2 b → ¬ ofRows K5 R5 b → ¬ ofRows K22 R22 b → w2.heap[b]? = w.heap[b]? from fun b hb g2 g5 g22 => (hb2.block b (Nat.lt_of_lt_of_le hb hbel1.size)).trans (HAP1.out b hb g2 g5 g22))
  have HL2_2 := Lib.hid (own_below HL2_1.out hb2 (Nat.le_refl _))
  have HR2_2 := Lib.hid (show RowsAt B 3 1 K2 R2 n2 C2 w2 from fun j hj => own_below (HR2_1.out j hj) hb2 (Nat.le_refl _))
  have HL5_2 := Lib.hid (own_below HL5_1.out hb2 (Nat.le_refl _))
  have HR5_2 := Lib.hid (show RowsAt B 5 1 K5 R5 n5 C5 w2 from fun j hj => own_below (HR5_1.out j hj) hb2 (Nat.le_refl _))
  have HL22_2 := Lib.hid (own_below HL22_1.out hb2 (Nat.le_refl _))
  have HR22_2 := Lib.hid (show RowsAt B 26 4 K22 R22 n22 C22 w2 from fun j hj => own_below (HR22_1.out j hj) hb2 (Nat.le_refl _))
  have hlt2 := (Array.getElem?_eq_some_iff.1 H2.out).1
  clear c1 HAP1
  clear HL2_1 HR2_1
  clear HL5_1 HR5_1
  clear HL22_1 HR22_1
  have c2 : w2.cell? ⟨bb, 2, none⟩ = some (.slice lo2 K2 lc2) := by
    rw [Go.Joins.cell_of_block H2.out 2, List.getElem?_toArray, List.getElem?_map, List.getElem?_range (by decide), ← HV2.out]; rfl
  go_wp2_with fail
  refine (flatI_any B K2 lo2 lc2 R2 n2 C2 w2 HL2_2.out HR2_2.out HS2.out hK2 HN2.out (Nat.le_trans hB hbel2.size)).mono ?_
  rintro e w3 ⟨rfl, hk3⟩
  have H3 := Lib.hid (hk3.other bb _ _ _ H2.out (by decide))
  have hbel3 := hbel2.trans hk3.below
  have HAP3 := Lib.hid (show ∀ b, b < w.heap.size → ¬ ofRows K2 R2 b → ¬ ofRows K5 R5 b → ¬ ofRows K22 R22 b → w3.heap[b]? = w.heap[b]? from fun b hb g2 g5 g22 => (hk3.apart b (Nat.lt_of_lt_of_le hb hbel2.size) g2).trans (HAP2.out b hb g2 g5 g22))
  have HL5_3 := Lib.hid (hk3.own HL5_2.out (by decide))
  have HR5_3 := Lib.hid (show RowsAt B 5 1 K5 R5 n5 C5 w3 from fun j hj => hk3.own (HR5_2.out j hj) (by decide))
  have HL22_3 := Lib.hid (hk3.own HL22_2.out (by decide))
  have HR22_3 := Lib.hid (show RowsAt B 26 4 K22 R22 n22 C22 w3 from fun j hj => hk3.own (HR22_2.out j hj) (by decide))
  have hlt3 := (Array.getElem?_eq_some_iff.1 H3.out).1
  clear c2 HAP2
  clear HL5_2 HR5_2
  clear HL22_2 HR22_2
  have c3 : w3.cell? ⟨bb, 3, none⟩ = some (.slice none 0 0) := by
    rw [Go.Joins.cell_of_block H3.out 3, List.getElem?_toArray, List.getElem?_map, List.getElem?_range (by decide), ← (HBG.out.nil 3 (HBG.out.unused 3 rfl))]; rfl
  go_wp2_with fail
  refine (flatNil_Longs _).mono ?_
  rintro e w4 ⟨rfl, hb4⟩
  have H4 := Lib.hid ((hb4.block bb hlt3).trans H3.out)
  have hbel4 := hbel3.trans (hb4.mono (Nat.le_trans hB hbel3.size))
  have HAP4 := Lib.hid (show ∀ b, b < w.heap.size → ¬ ofRows K2 R2 b → ¬ ofRows K5 R5 b → ¬ ofRows K22 R22 b → w4.heap[b]? = w.heap[b]? from fun b hb g2 g5 g22 => (hb4.block b (Nat.lt_of_lt_of_le hb hbel3.size)).trans (HAP3.out b hb g2 g5 g22))
  have HL5_4 := Lib.hid (own_below HL5_3.out hb4 (Nat.le_refl _))
  have HR5_4 := Lib.hid (show RowsAt B 5 1 K5 R5 n5 C5 w4 from fun j hj => own_below (HR5_3.out j hj) hb4 (Nat.le_refl _))
  have HL22_4 := Lib.hid (own_below HL22_3.out hb4 (Nat.le_refl _))
  have HR22_4 := Lib.hid (show RowsAt B 26 4 K22 R22 n22 C22 w4 from fun j hj => own_below (HR22_3.out j hj) hb4 (Nat.le_refl _))
  have hlt4 := (Array.getElem?_eq_some_iff.1 H4.out).1
  clear c3 HAP3
  clear HL5_3 HR5_3
  clear HL22_3 HR22_3
  have c4 : w4.cell? ⟨bb, 4, none⟩ = some (.slice none 0 0) := by
    rw [Go.Joins.cell_of_block H4.out 4, List.getElem?_toArray, List.getElem?_map, List.getElem?_range (by decide), ← (HBG.out.nil 4 (HBG.out.unused 4 rfl))]; rfl
  go_wp2_with fail
  refine (flatNil_Texts _).mono ?_
  rintro e w5 ⟨rfl, hb5⟩
  have H5 := Lib.hid ((hb5.block bb hlt4).trans H4.out)
  have hbel5 := hbel4.trans (hb5.mono (Nat.le_trans hB hbel4.size))
  have HAP5 := Lib.hid (show ∀ b, b < w.heap.size → ¬ ofRows K2 R2 b → ¬ ofRows K5 R5 b → ¬ ofRows K22 R22 b → w5.heap[b]? = w.heap[b]? from fun b hb g2 g5 g22 => (hb5.block b (Nat.lt_of_lt_of_le hb hbel4.size)).trans (HAP4.out b hb g2 g5 g22))
  have HL5_5 := Lib.hid (own_below HL5_4.out hb5 (Nat.le_refl _))
  have HR5_5 := Lib.hid (show RowsAt B 5 1 K5 R5 n5 C5 w5 from fun j hj => own_below (HR5_4.out j hj) hb5 (Nat.le_refl _))
  have HL22_5 := Lib.hid (own_below HL22_4.out hb5 (Nat.le_refl _))
  have HR22_5 := Lib.hid (show RowsAt B 26 4 K22 R22 n22 C22 w5 from fun j hj => own_below (HR22_4.out j hj) hb5 (Nat.le_refl _))
  have hlt5 := (Array.getElem?_eq_some_iff.1 H5.out).1
  clear c4 HAP4
  clear HL5_4 HR5_4
  clear HL22_4 HR22_4
  have c5 : w5.cell? ⟨bb, 5, none⟩ = some (.slice lo5 K5 lc5) := by
    rw [Go.Joins.cell_of_block H5.out 5, List.getElem?_toArray, List.getElem?_map, List.getElem?_range (by decide), ← HV5.out]; rfl
  go_wp2_with fail
  refine (flatB_any B K5 lo5 lc5 R5 n5 C5 w5 HL5_5.out HR5_5.out HS5.out hK5 HN5.out (Nat.le_trans hB hbel5.size)).mono ?_
  rintro e w6 ⟨rfl, hk6⟩
  have H6 := Lib.hid (hk6.other bb _ _ _ H5.out (by decide))
  have hbel6 := hbel5.trans hk6.below
  have HAP6 := Lib.hid (show ∀ b, b < w.heap.size → ¬ ofRows K2 R2 b → ¬ ofRows K5 R5 b → ¬ ofRows K22 R22 b → w6.heap[b]? = w.heap[b]? from fun b hb g2 g5 g22 => (hk6.apart b (Nat.lt_of_lt_of_le hb hbel5.size) g5).trans (HAP5.out b hb g2 g5 g22))
  have HL22_6 := Lib.hid (hk6.own HL22_5.out (by decide))
  have HR22_6 := Lib.hid (show RowsAt B 26 4 K22 R22 n22 C22 w6 from fun j hj => hk6.own (HR22_5.out j hj) (by decide))
  have hlt6 := (Array.getElem?_eq_some_iff.1 H6.out).1
  clear c5 HAP5
  clear HL22_5 HR22_5
  have c6 : w6.cell? ⟨bb, 6, none⟩ = some (.slice none 0 0) := by
    rw [Go.Joins.cell_of_block H6.out 6, List.getElem?_toArray, List.getElem?_map, List.getElem?_range (by decide), ← (HBG.out.nil 6 (HBG.out.unused 6 rfl))]; rfl
  go_wp2_with fail
  refine (flatNil_Values _).mono ?_
  rintro e w7 ⟨rfl, hb7⟩
  have H7 := Lib.hid ((hb7.block bb hlt6).trans H6.out)
  have hbel7 := hbel6.trans (hb7.mono (Nat.le_trans hB hbel6.size))
  have HAP7 := Lib.hid (show ∀ b, b < w.heap.size → ¬ ofRows K2 R2 b → ¬ ofRows K5 R5 b → ¬ ofRows K22 R22 b → w7.heap[b]? = w.heap[b]? from fun b hb g2 g5 g22 => (hb7.block b (Nat.lt_of_lt_of_le hb hbel6.size)).trans (HAP6.out b hb g2 g5 g22))
  have HL22_7 := Lib.hid (own_below HL22_6.out hb7 (Nat.le_refl _))
  have HR22_7 := Lib.hid (show RowsAt B 26 4 K22 R22 n22 C22 w7 from fun j hj => own_below (HR22_6.out j hj) hb7 (Nat.le_refl _))
  have hlt7 := (Array.getElem?_eq_some_iff.1 H7.out).1
  clear c6 HAP6
  clear HL22_6 HR22_6
  have c7 : w7.cell? ⟨bb, 7, none⟩ = some (.slice none 0 0) := by
    rw [Go.Joins.cell_of_block H7.out 7, List.getElem?_toArray, List.getElem?_map, List.getElem?_range (by decide), ← (HBG.out.nil 7 (HBG.out.unused 7 rfl))]; rfl
  go_wp2_with fail
  refine (flatNil_Facts _).mono ?_
  rintro e w8 ⟨rfl, hb8⟩
  have H8 := Lib.hid ((hb8.block bb hlt7).trans H7.out)
  have hbel8 := hbel7.trans (hb8.mono (Nat.le_trans hB hbel7.size))
  have HAP8 := Lib.hid (show ∀ b, b < w.heap.size → ¬ ofRows K2 R2 b → ¬ ofRows K5 R5 b → ¬ ofRows K22 R22 b → w8.heap[b]? = w.heap[b]? from fun b hb g2 g5 g22 => (hb8.block b (Nat.lt_of_lt_of_le hb hbel7.size)).trans (HAP7.out b hb g2 g5 g22))
  have HL22_8 := Lib.hid (own_below HL22_7.out hb8 (Nat.le_refl _))
  have HR22_8 := Lib.hid (show RowsAt B 26 4 K22 R22 n22 C22 w8 from fun j hj => own_below (HR22_7.out j hj) hb8 (Nat.le_refl _))
  have hlt8 := (Array.getElem?_eq_some_iff.1 H8.out).1
  clear c7 HAP7
  clear HL22_7 HR22_7
  have c8 : w8.cell? ⟨bb, 8, none⟩ = some (.slice none 0 0) := by
    rw [Go.Joins.cell_of_block H8.out 8, List.getElem?_toArray, List.getElem?_map, List.getElem?_range (by decide), ← (HBG.out.nil 8 (HBG.out.unused 8 rfl))]; rfl
  go_wp2_with fail
  refine (flatNil_Lexes _).mono ?_
  rintro e w9 ⟨rfl, hb9⟩
  have H9 := Lib.hid ((hb9.block bb hlt8).trans H8.out)
  have hbel9 := hbel8.trans (hb9.mono (Nat.le_trans hB hbel8.size))
  have HAP9 := Lib.hid (show ∀ b, b < w.heap.size → ¬ ofRows K2 R2 b → ¬ ofRows K5 R5 b → ¬ ofRows K22 R22 b → w9.heap[b]? = w.heap[b]? from fun b hb g2 g5 g22 => (hb9.block b (Nat.lt_of_lt_of_le hb hbel8.size)).trans (HAP8.out b hb g2 g5 g22))
  have HL22_9 := Lib.hid (own_below HL22_8.out hb9 (Nat.le_refl _))
  have HR22_9 := Lib.hid (show RowsAt B 26 4 K22 R22 n22 C22 w9 from fun j hj => own_below (HR22_8.out j hj) hb9 (Nat.le_refl _))
  have hlt9 := (Array.getElem?_eq_some_iff.1 H9.out).1
  clear c8 HAP8
  clear HL22_8 HR22_8
  have c9 : w9.cell? ⟨bb, 9, none⟩ = some (.slice none 0 0) := by
    rw [Go.Joins.cell_of_block H9.out 9, List.getElem?_toArray, List.getElem?_map, List.getElem?_range (by decide), ← (HBG.out.nil 9 (HBG.out.unused 9 rfl))]; rfl
  go_wp2_with fail
  refine (flatNil_Nodes _).mono ?_
  rintro e w10 ⟨rfl, hb10⟩
  have H10 := Lib.hid ((hb10.block bb hlt9).trans H9.out)
  have hbel10 := hbel9.trans (hb10.mono (Nat.le_trans hB hbel9.size))
  have HAP10 := Lib.hid (show ∀ b, b < w.heap.size → ¬ ofRows K2 R2 b → ¬ ofRows K5 R5 b → ¬ ofRows K22 R22 b → w10.heap[b]? = w.heap[b]? from fun b hb g2 g5 g22 => (hb10.block b (Nat.lt_of_lt_of_le hb hbel9.size)).trans (HAP9.out b hb g2 g5 g22))
  have HL22_10 := Lib.hid (own_below HL22_9.out hb10 (Nat.le_refl _))
  have HR22_10 := Lib.hid (show RowsAt B 26 4 K22 R22 n22 C22 w10 from fun j hj => own_below (HR22_9.out j hj) hb10 (Nat.le_refl _))
  have hlt10 := (Array.getElem?_eq_some_iff.1 H10.out).1
  clear c9 HAP9
  clear HL22_9 HR22_9
  have c10 : w10.cell? ⟨bb, 10, none⟩ = some (.slice none 0 0) := by
    rw [Go.Joins.cell_of_block H10.out 10, List.getElem?_toArray, List.getElem?_map, List.getElem?_range (by decide), ← (HBG.out.nil 10 (HBG.out.unused 10 rfl))]; rfl
  go_wp2_with fail
  refine (flatNil_Exprs _).mono ?_
  rintro e w11 ⟨rfl, hb11⟩
  have H11 := Lib.hid ((hb11.block bb hlt10).trans H10.out)
  have hbel11 := hbel10.trans (hb11.mono (Nat.le_trans hB hbel10.size))
  have HAP11 := Lib.hid (show ∀ b, b < w.heap.size → ¬ ofRows K2 R2 b → ¬ ofRows K5 R5 b → ¬ ofRows K22 R22 b → w11.heap[b]? = w.heap[b]? from fun b hb g2 g5 g22 => (hb11.block b (Nat.lt_of_lt_of_le hb hbel10.size)).trans (HAP10.out b hb g2 g5 g22))
  have HL22_11 := Lib.hid (own_below HL22_10.out hb11 (Nat.le_refl _))
  have HR22_11 := Lib.hid (show RowsAt B 26 4 K22 R22 n22 C22 w11 from fun j hj => own_below (HR22_10.out j hj) hb11 (Nat.le_refl _))
  have hlt11 := (Array.getElem?_eq_some_iff.1 H11.out).1
  clear c10 HAP10
  clear HL22_10 HR22_10
  have c11 : w11.cell? ⟨bb, 11, none⟩ = some (.slice none 0 0) := by
    rw [Go.Joins.cell_of_block H11.out 11, List.getElem?_toArray, List.getElem?_map, List.getElem?_range (by decide), ← (HBG.out.nil 11 (HBG.out.unused 11 rfl))]; rfl
  go_wp2_with fail
  refine (flatNil_Args _).mono ?_
  rintro e w12 ⟨rfl, hb12⟩
  have H12 := Lib.hid ((hb12.block bb hlt11).trans H11.out)
  have hbel12 := hbel11.trans (hb12.mono (Nat.le_trans hB hbel11.size))
  have HAP12 := Lib.hid (show ∀ b, b < w.heap.size → ¬ ofRows K2 R2 b → ¬ ofRows K5 R5 b → ¬ ofRows K22 R22 b → w12.heap[b]? = w.heap[b]? from fun b hb g2 g5 g22 => (hb12.block b (Nat.lt_of_lt_of_le hb hbel11.size)).trans (HAP11.out b hb g2 g5 g22))
  have HL22_12 := Lib.hid (own_below HL22_11.out hb12 (Nat.le_refl _))
  have HR22_12 := Lib.hid (show RowsAt B 26 4 K22 R22 n22 C22 w12 from fun j hj => own_below (HR22_11.out j hj) hb12 (Nat.le_refl _))
  have hlt12 := (Array.getElem?_eq_some_iff.1 H12.out).1
  clear c11 HAP11
  clear HL22_11 HR22_11
  have c12 : w12.cell? ⟨bb, 12, none⟩ = some (.slice none 0 0) := by
    rw [Go.Joins.cell_of_block H12.out 12, List.getElem?_toArray, List.getElem?_map, List.getElem?_range (by decide), ← (HBG.out.nil 12 (HBG.out.unused 12 rfl))]; rfl
  go_wp2_with fail
  refine (flatNil_Conds _).mono ?_
  rintro e w13 ⟨rfl, hb13⟩
  have H13 := Lib.hid ((hb13.block bb hlt12).trans H12.out)
  have hbel13 := hbel12.trans (hb13.mono (Nat.le_trans hB hbel12.size))
  have HAP13 := Lib.hid (show ∀ b, b < w.heap.size → ¬ ofRows K2 R2 b → ¬ ofRows K5 R5 b → ¬ ofRows K22 R22 b → w13.heap[b]? = w.heap[b]? from fun b hb g2 g5 g22 => (hb13.block b (Nat.lt_of_lt_of_le hb hbel12.size)).trans (HAP12.out b hb g2 g5 g22))
  have HL22_13 := Lib.hid (own_below HL22_12.out hb13 (Nat.le_refl _))
  have HR22_13 := Lib.hid (show RowsAt B 26 4 K22 R22 n22 C22 w13 from fun j hj => own_below (HR22_12.out j hj) hb13 (Nat.le_refl _))
  have hlt13 := (Array.getElem?_eq_some_iff.1 H13.out).1
  clear c12 HAP12
  clear HL22_12 HR22_12
  have c13 : w13.cell? ⟨bb, 13, none⟩ = some (.slice none 0 0) := by
    rw [Go.Joins.cell_of_block H13.out 13, List.getElem?_toArray, List.getElem?_map, List.getElem?_range (by decide), ← (HBG.out.nil 13 (HBG.out.unused 13 rfl))]; rfl
  go_wp2_with fail
  refine (flatNil_Acts _).mono ?_
  rintro e w14 ⟨rfl, hb14⟩
  have H14 := Lib.hid ((hb14.block bb hlt13).trans H13.out)
  have hbel14 := hbel13.trans (hb14.mono (Nat.le_trans hB hbel13.size))
  have HAP14 := Lib.hid (show ∀ b, b < w.heap.size → ¬ ofRows K2 R2 b → ¬ ofRows K5 R5 b → ¬ ofRows K22 R22 b → w14.heap[b]? = w.heap[b]? from fun b hb g2 g5 g22 => (hb14.block b (Nat.lt_of_lt_of_le hb hbel13.size)).trans (HAP13.out b hb g2 g5 g22))
  have HL22_14 := Lib.hid (own_below HL22_13.out hb14 (Nat.le_refl _))
  have HR22_14 := Lib.hid (show RowsAt B 26 4 K22 R22 n22 C22 w14 from fun j hj => own_below (HR22_13.out j hj) hb14 (Nat.le_refl _))
  have hlt14 := (Array.getElem?_eq_some_iff.1 H14.out).1
  clear c13 HAP13
  clear HL22_13 HR22_13
  have c14 : w14.cell? ⟨bb, 14, none⟩ = some (.slice none 0 0) := by
    rw [Go.Joins.cell_of_block H14.out 14, List.getElem?_toArray, List.getElem?_map, List.getElem?_range (by decide), ← (HBG.out.nil 14 (HBG.out.unused 14 rfl))]; rfl
  go_wp2_with fail
  refine (flatNil_Types _).mono ?_
  rintro e w15 ⟨rfl, hb15⟩
  have H15 := Lib.hid ((hb15.block bb hlt14).trans H14.out)
  have hbel15 := hbel14.trans (hb15.mono (Nat.le_trans hB hbel14.size))
  have HAP15 := Lib.hid (show ∀ b, b < w.heap.size → ¬ ofRows K2 R2 b → ¬ ofRows K5 R5 b → ¬ ofRows K22 R22 b → w15.heap[b]? = w.heap[b]? from fun b hb g2 g5 g22 => (hb15.block b (Nat.lt_of_lt_of_le hb hbel14.size)).trans (HAP14.out b hb g2 g5 g22))
  have HL22_15 := Lib.hid (own_below HL22_14.out hb15 (Nat.le_refl _))
  have HR22_15 := Lib.hid (show RowsAt B 26 4 K22 R22 n22 C22 w15 from fun j hj => own_below (HR22_14.out j hj) hb15 (Nat.le_refl _))
  have hlt15 := (Array.getElem?_eq_some_iff.1 H15.out).1
  clear c14 HAP14
  clear HL22_14 HR22_14
  have c15 : w15.cell? ⟨bb, 15, none⟩ = some (.slice none 0 0) := by
    rw [Go.Joins.cell_of_block H15.out 15, List.getElem?_toArray, List.getElem?_map, List.getElem?_range (by decide), ← (HBG.out.nil 15 (HBG.out.unused 15 rfl))]; rfl
  go_wp2_with fail
  refine (flatNil_RuleRow _).mono ?_
  rintro e w16 ⟨rfl, hb16⟩
  have H16 := Lib.hid ((hb16.block bb hlt15).trans H15.out)
  have hbel16 := hbel15.trans (hb16.mono (Nat.le_trans hB hbel15.size))
  have HAP16 := Lib.hid (show ∀ b, b < w.heap.size → ¬ ofRows K2 R2 b → ¬ ofRows K5 R5 b → ¬ ofRows K22 R22 b → w16.heap[b]? = w.heap[b]? from fun b hb g2 g5 g22 => (hb16.block b (Nat.lt_of_lt_of_le hb hbel15.size)).trans (HAP15.out b hb g2 g5 g22))
  have HL22_16 := Lib.hid (own_below HL22_15.out hb16 (Nat.le_refl _))
  have HR22_16 := Lib.hid (show RowsAt B 26 4 K22 R22 n22 C22 w16 from fun j hj => own_below (HR22_15.out j hj) hb16 (Nat.le_refl _))
  have hlt16 := (Array.getElem?_eq_some_iff.1 H16.out).1
  clear c15 HAP15
  clear HL22_15 HR22_15
  have c16 : w16.cell? ⟨bb, 16, none⟩ = some (.slice none 0 0) := by
    rw [Go.Joins.cell_of_block H16.out 16, List.getElem?_toArray, List.getElem?_map, List.getElem?_range (by decide), ← (HBG.out.nil 16 (HBG.out.unused 16 rfl))]; rfl
  go_wp2_with fail
  refine (flatNil_RulesRow _).mono ?_
  rintro e w17 ⟨rfl, hb17⟩
  have H17 := Lib.hid ((hb17.block bb hlt16).trans H16.out)
  have hbel17 := hbel16.trans (hb17.mono (Nat.le_trans hB hbel16.size))
  have HAP17 := Lib.hid (show ∀ b, b < w.heap.size → ¬ ofRows K2 R2 b → ¬ ofRows K5 R5 b → ¬ ofRows K22 R22 b → w17.heap[b]? = w.heap[b]? from fun b hb g2 g5 g22 => (hb17.block b (Nat.lt_of_lt_of_le hb hbel16.size)).trans (HAP16.out b hb g2 g5 g22))
  have HL22_17 := Lib.hid (own_below HL22_16.out hb17 (Nat.le_refl _))
  have HR22_17 := Lib.hid (show RowsAt B 26 4 K22 R22 n22 C22 w17 from fun j hj => own_below (HR22_16.out j hj) hb17 (Nat.le_refl _))
  have hlt17 := (Array.getElem?_eq_some_iff.1 H17.out).1
  clear c16 HAP16
  clear HL22_16 HR22_16
  have c17 : w17.cell? ⟨bb, 17, none⟩ = some (.slice none 0 0) := by
    rw [Go.Joins.cell_of_block H17.out 17, List.getElem?_toArray, List.getElem?_map, List.getElem?_range (by decide), ← (HBG.out.nil 17 (HBG.out.unused 17 rfl))]; rfl
  go_wp2_with fail
  refine (flatNil_Tokens _).mono ?_
  rintro e w18 ⟨rfl, hb18⟩
  have H18 := Lib.hid ((hb18.block bb hlt17).trans H17.out)
  have hbel18 := hbel17.trans (hb18.mono (Nat.le_trans hB hbel17.size))
  have HAP18 := Lib.hid (show ∀ b, b < w.heap.size → ¬ ofRows K2 R2 b → ¬ ofRows K5 R5 b → ¬ ofRows K22 R22 b → w18.heap[b]? = w.heap[b]? from fun b hb g2 g5 g22 => (hb18.block b (Nat.lt_of_lt_of_le hb hbel17.size)).trans (HAP17.out b hb g2 g5 g22))
  have HL22_18 := Lib.hid (own_below HL22_17.out hb18 (Nat.le_refl _))
  have HR22_18 := Lib.hid (show RowsAt B 26 4 K22 R22 n22 C22 w18 from fun j hj => own_below (HR22_17.out j hj) hb18 (Nat.le_refl _))
  have hlt18 := (Array.getElem?_eq_some_iff.1 H18.out).1
  clear c17 HAP17
  clear HL22_17 HR22_17
  have c18 : w18.cell? ⟨bb, 18, none⟩ = some (.slice none 0 0) := by
    rw [Go.Joins.cell_of_block H18.out 18, List.getElem?_toArray, List.getElem?_map, List.getElem?_range (by decide), ← (HBG.out.nil 18 (HBG.out.unused 18 rfl))]; rfl
  go_wp2_with fail
  refine (flatNil_Commands _).mono ?_
  rintro e w19 ⟨rfl, hb19⟩
  have H19 := Lib.hid ((hb19.block bb hlt18).trans H18.out)
  have hbel19 := hbel18.trans (hb19.mono (Nat.le_trans hB hbel18.size))
  have HAP19 := Lib.hid (show ∀ b, b < w.heap.size → ¬ ofRows K2 R2 b → ¬ ofRows K5 R5 b → ¬ ofRows K22 R22 b → w19.heap[b]? = w.heap[b]? from fun b hb g2 g5 g22 => (hb19.block b (Nat.lt_of_lt_of_le hb hbel18.size)).trans (HAP18.out b hb g2 g5 g22))
  have HL22_19 := Lib.hid (own_below HL22_18.out hb19 (Nat.le_refl _))
  have HR22_19 := Lib.hid (show RowsAt B 26 4 K22 R22 n22 C22 w19 from fun j hj => own_below (HR22_18.out j hj) hb19 (Nat.le_refl _))
  have hlt19 := (Array.getElem?_eq_some_iff.1 H19.out).1
  clear c18 HAP18
  clear HL22_18 HR22_18
  have c19 : w19.cell? ⟨bb, 19, none⟩ = some (.slice none 0 0) := by
    rw [Go.Joins.cell_of_block H19.out 19, List.getElem?_toArray, List.getElem?_map, List.getElem?_range (by decide), ← (HBG.out.nil 19 (HBG.out.unused 19 rfl))]; rfl
  go_wp2_with fail
  refine (flatNil_Replies _).mono ?_
  rintro e w20 ⟨rfl, hb20⟩
  have H20 := Lib.hid ((hb20.block bb hlt19).trans H19.out)
  have hbel20 := hbel19.trans (hb20.mono (Nat.le_trans hB hbel19.size))
  have HAP20 := Lib.hid (show ∀ b, b < w.heap.size → ¬ ofRows K2 R2 b → ¬ ofRows K5 R5 b → ¬ ofRows K22 R22 b → w20.heap[b]? = w.heap[b]? from fun b hb g2 g5 g22 => (hb20.block b (Nat.lt_of_lt_of_le hb hbel19.size)).trans (HAP19.out b hb g2 g5 g22))
  have HL22_20 := Lib.hid (own_below HL22_19.out hb20 (Nat.le_refl _))
  have HR22_20 := Lib.hid (show RowsAt B 26 4 K22 R22 n22 C22 w20 from fun j hj => own_below (HR22_19.out j hj) hb20 (Nat.le_refl _))
  have hlt20 := (Array.getElem?_eq_some_iff.1 H20.out).1
  clear c19 HAP19
  clear HL22_19 HR22_19
  have c20 : w20.cell? ⟨bb, 20, none⟩ = some (.slice none 0 0) := by
    rw [Go.Joins.cell_of_block H20.out 20, List.getElem?_toArray, List.getElem?_map, List.getElem?_range (by decide), ← (HBG.out.nil 20 (HBG.out.unused 20 rfl))]; rfl
  go_wp2_with fail
  refine (flatNil_Entries _).mono ?_
  rintro e w21 ⟨rfl, hb21⟩
  have H21 := Lib.hid ((hb21.block bb hlt20).trans H20.out)
  have hbel21 := hbel20.trans (hb21.mono (Nat.le_trans hB hbel20.size))
  have HAP21 := Lib.hid (show ∀ b, b < w.heap.size → ¬ ofRows K2 R2 b → ¬ ofRows K5 R5 b → ¬ ofRows K22 R22 b → w21.heap[b]? = w.heap[b]? from fun b hb g2 g5 g22 => (hb21.block b (Nat.lt_of_lt_of_le hb hbel20.size)).trans (HAP20.out b hb g2 g5 g22))
  have HL22_21 := Lib.hid (own_below HL22_20.out hb21 (Nat.le_refl _))
  have HR22_21 := Lib.hid (show RowsAt B 26 4 K22 R22 n22 C22 w21 from fun j hj => own_below (HR22_20.out j hj) hb21 (Nat.le_refl _))
  have hlt21 := (Array.getElem?_eq_some_iff.1 H21.out).1
  clear c20 HAP20
  clear HL22_20 HR22_20
  have c21 : w21.cell? ⟨bb, 21, none⟩ = some (.slice none 0 0) := by
    rw [Go.Joins.cell_of_block H21.out 21, List.getElem?_toArray, List.getElem?_map, List.getElem?_range (by decide), ← (HBG.out.nil 21 (HBG.out.unused 21 rfl))]; rfl
  go_wp2_with fail
  refine (flatNil_Letters _).mono ?_
  rintro e w22 ⟨rfl, hb22⟩
  have H22 := Lib.hid ((hb22.block bb hlt21).trans H21.out)
  have hbel22 := hbel21.trans (hb22.mono (Nat.le_trans hB hbel21.size))
  have HAP22 := Lib.hid (show ∀ b, b < w.heap.size → ¬ ofRows K2 R2 b → ¬ ofRows K5 R5 b → ¬ ofRows K22 R22 b → w22.heap[b]? = w.heap[b]? from fun b hb g2 g5 g22 => (hb22.block b (Nat.lt_of_lt_of_le hb hbel21.size)).trans (HAP21.out b hb g2 g5 g22))
  have HL22_22 := Lib.hid (own_below HL22_21.out hb22 (Nat.le_refl _))
  have HR22_22 := Lib.hid (show RowsAt B 26 4 K22 R22 n22 C22 w22 from fun j hj => own_below (HR22_21.out j hj) hb22 (Nat.le_refl _))
  have hlt22 := (Array.getElem?_eq_some_iff.1 H22.out).1
  clear c21 HAP21
  clear HL22_21 HR22_21
  have c22 : w22.cell? ⟨bb, 22, none⟩ = some (.slice lo22 K22 lc22) := by
    rw [Go.Joins.cell_of_block H22.out 22, List.getElem?_toArray, List.getElem?_map, List.getElem?_range (by decide), ← HV22.out]; rfl
  go_wp2_with fail
  refine (flatS_any B K22 lo22 lc22 R22 n22 C22 w22 HL22_22.out HR22_22.out HS22.out hK22 HN22.out (Nat.le_trans hB hbel22.size)).mono ?_
  rintro e w23 ⟨rfl, hk23⟩
  have H23 := Lib.hid (hk23.other bb _ _ _ H22.out (by decide))
  have hbel23 := hbel22.trans hk23.below
  have HAP23 := Lib.hid (show ∀ b, b < w.heap.size → ¬ ofRows K2 R2 b → ¬ ofRows K5 R5 b → ¬ ofRows K22 R22 b → w23.heap[b]? = w.heap[b]? from fun b hb g2 g5 g22 => (hk23.apart b (Nat.lt_of_lt_of_le hb hbel22.size) g22).trans (HAP22.out b hb g2 g5 g22))
  have hlt23 := (Array.getElem?_eq_some_iff.1 H23.out).1
  clear c22 HAP22
  have c23 : w23.cell? ⟨bb, 23, none⟩ = some (.slice none 0 0) := by
    rw [Go.Joins.cell_of_block H23.out 23, List.getElem?_toArray, List.getElem?_map, List.getElem?_range (by decide), ← (HBG.out.nil 23 (HBG.out.unused 23 rfl))]; rfl
  go_wp2_with fail
  refine (flatNil_Steps _).mono ?_
  rintro e w24 ⟨rfl, hb24⟩
  have H24 := Lib.hid ((hb24.block bb hlt23).trans H23.out)
  have hbel24 := hbel23.trans (hb24.mono (Nat.le_trans hB hbel23.size))
  have HAP24 := Lib.hid (show ∀ b, b < w.heap.size → ¬ ofRows K2 R2 b → ¬ ofRows K5 R5 b → ¬ ofRows K22 R22 b → w24.heap[b]? = w.heap[b]? from fun b hb g2 g5 g22 => (hb24.block b (Nat.lt_of_lt_of_le hb hbel23.size)).trans (HAP23.out b hb g2 g5 g22))
  have hlt24 := (Array.getElem?_eq_some_iff.1 H24.out).1
  clear c23 HAP23
  have c24 : w24.cell? ⟨bb, 24, none⟩ = some (.slice none 0 0) := by
    rw [Go.Joins.cell_of_block H24.out 24, List.getElem?_toArray, List.getElem?_map, List.getElem?_range (by decide), ← (HBG.out.nil 24 (HBG.out.unused 24 rfl))]; rfl
  go_wp2_with fail
  refine (flatNil_Tales _).mono ?_
  rintro e w25 ⟨rfl, hb25⟩
  have H25 := Lib.hid ((hb25.block bb hlt24).trans H24.out)
  have hbel25 := hbel24.trans (hb25.mono (Nat.le_trans hB hbel24.size))
  have HAP25 := Lib.hid (show ∀ b, b < w.heap.size → ¬ ofRows K2 R2 b → ¬ ofRows K5 R5 b → ¬ ofRows K22 R22 b → w25.heap[b]? = w.heap[b]? from fun b hb g2 g5 g22 => (hb25.block b (Nat.lt_of_lt_of_le hb hbel24.size)).trans (HAP24.out b hb g2 g5 g22))
  have hlt25 := (Array.getElem?_eq_some_iff.1 H25.out).1
  clear c24 HAP24
  have c25 : w25.cell? ⟨bb, 25, none⟩ = some (.slice none 0 0) := by
    rw [Go.Joins.cell_of_block H25.out 25, List.getElem?_toArray, List.getElem?_map, List.getElem?_range (by decide), ← (HBG.out.nil 25 (HBG.out.unused 25 rfl))]; rfl
  go_wp2_with fail
  refine (flatNil_States _).mono ?_
  rintro e w26 ⟨rfl, hb26⟩
  have H26 := Lib.hid ((hb26.block bb hlt25).trans H25.out)
  have hbel26 := hbel25.trans (hb26.mono (Nat.le_trans hB hbel25.size))
  have HAP26 := Lib.hid (show ∀ b, b < w.heap.size → ¬ ofRows K2 R2 b → ¬ ofRows K5 R5 b → ¬ ofRows K22 R22 b → w26.heap[b]? = w.heap[b]? from fun b hb g2 g5 g22 => (hb26.block b (Nat.lt_of_lt_of_le hb hbel25.size)).trans (HAP25.out b hb g2 g5 g22))
  have hlt26 := (Array.getElem?_eq_some_iff.1 H26.out).1
  clear c25 HAP25
  have c26 : w26.cell? ⟨bb, 26, none⟩ = some (.slice none 0 0) := by
    rw [Go.Joins.cell_of_block H26.out 26, List.getElem?_toArray, List.getElem?_map, List.getElem?_range (by decide), ← (HBG.out.nil 26 (HBG.out.unused 26 rfl))]; rfl
  go_wp2_with fail
  refine (flatNil_Sessions _).mono ?_
  rintro e w27 ⟨rfl, hb27⟩
  have H27 := Lib.hid ((hb27.block bb hlt26).trans H26.out)
  have hbel27 := hbel26.trans (hb27.mono (Nat.le_trans hB hbel26.size))
  have HAP27 := Lib.hid (show ∀ b, b < w.heap.size → ¬ ofRows K2 R2 b → ¬ ofRows K5 R5 b → ¬ ofRows K22 R22 b → w27.heap[b]? = w.heap[b]? from fun b hb g2 g5 g22 => (hb27.block b (Nat.lt_of_lt_of_le hb hbel26.size)).trans (HAP26.out b hb g2 g5 g22))
  have hlt27 := (Array.getElem?_eq_some_iff.1 H27.out).1
  clear c26 HAP26
  have c27 : w27.cell? ⟨bb, 27, none⟩ = some (.slice none 0 0) := by
    rw [Go.Joins.cell_of_block H27.out 27, List.getElem?_toArray, List.getElem?_map, List.getElem?_range (by decide), ← (HBG.out.nil 27 (HBG.out.unused 27 rfl))]; rfl
  go_wp2_with fail
  refine (flatNil_Machines _).mono ?_
  rintro e w28 ⟨rfl, hb28⟩
  have H28 := Lib.hid ((hb28.block bb hlt27).trans H27.out)
  have hbel28 := hbel27.trans (hb28.mono (Nat.le_trans hB hbel27.size))
  have HAP28 := Lib.hid (show ∀ b, b < w.heap.size → ¬ ofRows K2 R2 b → ¬ ofRows K5 R5 b → ¬ ofRows K22 R22 b → w28.heap[b]? = w.heap[b]? from fun b hb g2 g5 g22 => (hb28.block b (Nat.lt_of_lt_of_le hb hbel27.size)).trans (HAP27.out b hb g2 g5 g22))
  have hlt28 := (Array.getElem?_eq_some_iff.1 H28.out).1
  clear c27 HAP27
  have c28 : w28.cell? ⟨bb, 28, none⟩ = some (.slice none 0 0) := by
    rw [Go.Joins.cell_of_block H28.out 28, List.getElem?_toArray, List.getElem?_map, List.getElem?_range (by decide), ← (HBG.out.nil 28 (HBG.out.unused 28 rfl))]; rfl
  go_wp2_with fail
  refine (flatNil_Frames _).mono ?_
  rintro e w29 ⟨rfl, hb29⟩
  have H29 := Lib.hid ((hb29.block bb hlt28).trans H28.out)
  have hbel29 := hbel28.trans (hb29.mono (Nat.le_trans hB hbel28.size))
  have HAP29 := Lib.hid (show ∀ b, b < w.heap.size → ¬ ofRows K2 R2 b → ¬ ofRows K5 R5 b → ¬ ofRows K22 R22 b → w29.heap[b]? = w.heap[b]? from fun b hb g2 g5 g22 => (hb29.block b (Nat.lt_of_lt_of_le hb hbel28.size)).trans (HAP28.out b hb g2 g5 g22))
  have hlt29 := (Array.getElem?_eq_some_iff.1 H29.out).1
  clear c28 HAP28
  go_wp2_with fail
  go_ret
  exact ⟨rfl, hbel29, HAP29.out⟩
end Go.Proofs.YtejgebpdipnhmaaGreatDoor
