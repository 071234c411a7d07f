/- bag.apart: lists that lie apart, kind by kind, are found to do so. Conditions: each list is the caller's own, in a block of its own. -/
import Derived.Test.YtnfldkebjeigiaaGreatDoorGWireOne10
import Derived.Test.YtnfldkebjeigiaaGreatDoorGWireOne13
import Derived.Test.YtnfldkebjeigiaaGreatDoorGWireOne14
import Derived.Test.YtnfldkebjeigiaaGreatDoorGWireOne15
import Derived.Test.YtnfldkebjeigiaaGreatDoorGWireOne17
import Derived.Test.YtnfldkebjeigiaaGreatDoorGWireOne18
import Derived.Test.YtnfldkebjeigiaaGreatDoorGWireOne19
namespace Go.Proofs.YtnfldkebjeigiaaGreatDoor
open Go.RowKit
set_option maxRecDepth 20000
theorem Kb.own {S : Nat → Prop} {B U B2 E SZ n : Nat} {v : Value} {xs : List Value} {w w' : World} (h : Kb S B U w w') (ho : w.ownsRow B2 E SZ v n xs) (he : E ≠ U) : w'.ownsRow B2 E SZ v n xs := by
  refine ⟨ho.1, ?_⟩
  rcases ho.2 with hn | ⟨g, cap, cur, hv, h1, h2, h3⟩
  · exact Or.inl hn
  · exact Or.inr ⟨g, cap, cur, hv, h1, h.other g cur E _ h2 he, h3⟩
set_option maxHeartbeats 4000000 in
theorem apartR_bag (B Bb bb : Nat) (f : Nat → Value) (rows : Nat → List Value) (w : World) (hbag : Bag w Bb bb f rows) (hB : B ≤ w.heap.size) (hBb : B ≤ Bb)
    (K2 : Nat) (R2 : Nat → Value) (n2 : Nat → Nat) (C2 : Nat → List Value) (h2 : rows 2 = (List.range K2).map R2) (hR2 : RowsAt B 3 1 K2 R2 n2 C2 w) (hS2 : SepAll K2 R2) (hK2 : K2 ≤ 100000) (hn2 : ∀ j, j < K2 → n2 j ≤ 1099511627776)
    (K6 : Nat) (R6 : Nat → Value) (n6 : Nat → Nat) (C6 : Nat → List Value) (h6 : rows 6 = (List.range K6).map R6) (hR6 : RowsAt B 24 3 K6 R6 n6 C6 w) (hS6 : SepAll K6 R6) (hK6 : K6 ≤ 100000) (hn6 : ∀ j, j < K6 → n6 j ≤ 1099511627776)
    (K7 : Nat) (R7 : Nat → Value) (n7 : Nat → Nat) (C7 : Nat → List Value) (h7 : rows 7 = (List.range K7).map R7) (hR7 : RowsAt B 27 3 K7 R7 n7 C7 w) (hS7 : SepAll K7 R7) (hK7 : K7 ≤ 100000) (hn7 : ∀ j, j < K7 → n7 j ≤ 1099511627776)
    (K19 : Nat) (R19 : Nat → Value) (n19 : Nat → Nat) (C19 : Nat → List Value) (h19 : rows 19 = (List.range K19).map R19) (hR19 : RowsAt B 34 4 K19 R19 n19 C19 w) (hS19 : SepAll K19 R19) (hK19 : K19 ≤ 100000) (hn19 : ∀ j, j < K19 → n19 j ≤ 1099511627776)
    (K20 : Nat) (R20 : Nat → Value) (n20 : Nat → Nat) (C20 : Nat → List Value) (h20 : rows 20 = (List.range K20).map R20) (hR20 : RowsAt B 38 9 K20 R20 n20 C20 w) (hS20 : SepAll K20 R20) (hK20 : K20 ≤ 100000) (hn20 : ∀ j, j < K20 → n20 j ≤ 1099511627776)
    : Calls Tryz.prog 76 #[.pointer (some ⟨bb, 0, none⟩)] w fun e w' => e = .returned (.bool true) ∧ Below B w w' ∧ ∀ b, b < w.heap.size → ¬ ofRows K2 R2 b → ¬ ofRows K6 R6 b → ¬ ofRows K7 R7 b → ¬ ofRows K19 R19 b → ¬ ofRows K20 R20 b → w'.heap[b]? = w.heap[b]? := by
  have hL2 : w.ownsRow B 36 1 (f 2) K2 ((List.range K2).map R2) := by
    have h1 := hbag.own 2
    rw [h2, List.length_map, List.length_range] at h1
    exact Go.Joins.ownsRow_le h1 hBb
  obtain ⟨lo2, lc2, hv2, _, _, _⟩ := row_form hL2
  rw [hv2] at hL2
  have HL2_0 := Lib.hid hL2
  have HR2_0 := Lib.hid hR2
  have HS2 := Lib.hid hS2
  have HN2 := Lib.hid hn2
  have HV2 := Lib.hid hv2
  clear hL2 hR2 hS2 hn2 hv2 h2
  have hL6 : w.ownsRow B 25 1 (f 6) K6 ((List.range K6).map R6) := by
    have h1 := hbag.own 6
    rw [h6, List.length_map, List.length_range] at h1
    exact Go.Joins.ownsRow_le h1 hBb
  obtain ⟨lo6, lc6, hv6, _, _, _⟩ := row_form hL6
  rw [hv6] at hL6
  have HL6_0 := Lib.hid hL6
  have HR6_0 := Lib.hid hR6
  have HS6 := Lib.hid hS6
  have HN6 := Lib.hid hn6
  have HV6 := Lib.hid hv6
  clear hL6 hR6 hS6 hn6 hv6 h6
  have hL7 : w.ownsRow B 32 1 (f 7) K7 ((List.range K7).map R7) := by
    have h1 := hbag.own 7
    rw [h7, List.length_map, List.length_range] at h1
    exact Go.Joins.ownsRow_le h1 hBb
  obtain ⟨lo7, lc7, hv7, _, _, _⟩ := row_form hL7
  rw [hv7] at hL7
  have HL7_0 := Lib.hid hL7
  have HR7_0 := Lib.hid hR7
  have HS7 := Lib.hid hS7
  have HN7 := Lib.hid hn7
  have HV7 := Lib.hid hv7
  clear hL7 hR7 hS7 hn7 hv7 h7
  have hL19 : w.ownsRow B 75 1 (f 19) K19 ((List.range K19).map R19) := by
    have h1 := hbag.own 19
    rw [h19, List.length_map, List.length_range] at h1
    exact Go.Joins.ownsRow_le h1 hBb
  obtain ⟨lo19, lc19, hv19, _, _, _⟩ := row_form hL19
  rw [hv19] at hL19
  have HL19_0 := Lib.hid hL19
  have HR19_0 := Lib.hid hR19
  have HS19 := Lib.hid hS19
  have HN19 := Lib.hid hn19
  have HV19 := Lib.hid hv19
  clear hL19 hR19 hS19 hn19 hv19 h19
  have hL20 : w.ownsRow B 72 1 (f 20) K20 ((List.range K20).map R20) := by
    have h1 := hbag.own 20
    rw [h20, List.length_map, List.length_range] at h1
    exact Go.Joins.ownsRow_le h1 hBb
  obtain ⟨lo20, lc20, hv20, _, _, _⟩ := row_form hL20
  rw [hv20] at hL20
  have HL20_0 := Lib.hid hL20
  have HR20_0 := Lib.hid hR20
  have HS20 := Lib.hid hS20
  have HN20 := Lib.hid hn20
  have HV20 := Lib.hid hv20
  clear hL20 hR20 hS20 hn20 hv20 h20
  have H0 := Lib.hid hbag.is
  have HBG := Lib.hid hbag
  have hbel0 : Below B w w := Below.refl _ _
  have hlt0 := hbag.lt
  clear hbag
  have c0 : w.cell? ⟨bb, 0, none⟩ = some (.slice none 0 0) := by
    rw [Go.Joins.cell_of_block H0.out 0, List.getElem?_toArray, List.getElem?_map, List.getElem?_range (by decide), ← (HBG.out.nil 0 (HBG.out.unused 0 rfl))]; rfl
  go_enter Tryz.func76, Tryz.ntmps76
  go_wp2_with fail
  refine (flatNil_Limbs _).mono ?_
  rintro e w1 ⟨rfl, hb1⟩
  have H1 := Lib.hid ((hb1.block bb hlt0).trans H0.out)
  have hbel1 := hbel0.trans (hb1.mono (Nat.le_trans hB hbel0.size))
  have HAP1 := Lib.hid (show ∀ b, b < w.heap.size → ¬ ofRows K2 R2 b → ¬ ofRows K6 R6 b → ¬ ofRows K7 R7 b → ¬ ofRows K19 R19 b → ¬ ofRows K20 R20 b → w1.heap[b]? = w.heap[b]? from fun b hb g2 g6 g7 g19 g20 => (hb1.block b (Nat.lt_of_lt_of_le hb hbel0.size)).trans (rfl))
  have HL2_1 := Lib.hid (own_below HL2_0.out hb1 (Nat.le_refl _))
  have HR2_1 := Lib.hid (show RowsAt B 3 1 K2 R2 n2 C2 w1 from fun j hj => own_below (HR2_0.out j hj) hb1 (Nat.le_refl _))
  have HL6_1 := Lib.hid (own_below HL6_0.out hb1 (Nat.le_refl _))
  have HR6_1 := Lib.hid (show RowsAt B 24 3 K6 R6 n6 C6 w1 from fun j hj => own_below (HR6_0.out j hj) hb1 (Nat.le_refl _))
  have HL7_1 := Lib.hid (own_below HL7_0.out hb1 (Nat.le_refl _))
  have HR7_1 := Lib.hid (show RowsAt B 27 3 K7 R7 n7 C7 w1 from fun j hj => own_below (HR7_0.out j hj) hb1 (Nat.le_refl _))
  have HL19_1 := Lib.hid (own_below HL19_0.out hb1 (Nat.le_refl _))
  have HR19_1 := Lib.hid (show RowsAt B 34 4 K19 R19 n19 C19 w1 from fun j hj => own_below (HR19_0.out j hj) hb1 (Nat.le_refl _))
  have HL20_1 := Lib.hid (own_below HL20_0.out hb1 (Nat.le_refl _))
  have HR20_1 := Lib.hid (show RowsAt B 38 9 K20 R20 n20 C20 w1 from fun j hj => own_below (HR20_0.out j hj) hb1 (Nat.le_refl _))
  have hlt1 := (Array.getElem?_eq_some_iff.1 H1.out).1
  clear c0
  clear HL2_0 HR2_0
  clear HL6_0 HR6_0
  clear HL7_0 HR7_0
  clear HL19_0 HR19_0
  clear HL20_0 HR20_0
  have c1 : w1.cell? ⟨bb, 1, none⟩ = some (.slice none 0 0) := by
    rw [Go.Joins.cell_of_block H1.out 1, List.getElem?_toArray, List.getElem?_map, List.getElem?_range (by decide), ← (HBG.out.nil 1 (HBG.out.unused 1 rfl))]; rfl
  go_wp2_with fail
  refine (flatNil_Words _).mono ?_
  rintro e w2 ⟨rfl, hb2⟩
  have H2 := Lib.hid ((hb2.block bb hlt1).trans H1.out)
  have hbel2 := hbel1.trans (hb2.mono (Nat.le_trans hB hbel1.size))
  have HAP2 := Lib.hid (show ∀ b, b < w.heap.size → ¬ ofRows K2 R2 b → ¬ ofRows K6 R6 b → ¬ ofRows K7 R7 b → ¬ ofRows K19 R19 b → ¬ ofRows K20 R20 b → w2.heap[b]? = w.heap[b]? from fun b hb g2 g6 g7 g19 g20 => (hb2.block b (Nat.lt_of_lt_of_le hb hbel1.size)).trans (HAP1.out b hb g2 g6 g7 g19 g20))
  have HL2_2 := Lib.hid (own_below HL2_1.out hb2 (Nat.le_refl _))
  have HR2_2 := Lib.hid (show RowsAt B 3 1 K2 R2 n2 C2 w2 from fun j hj => own_below (HR2_1.out j hj) hb2 (Nat.le_refl _))
  have HL6_2 := Lib.hid (own_below HL6_1.out hb2 (Nat.le_refl _))
  have HR6_2 := Lib.hid (show RowsAt B 24 3 K6 R6 n6 C6 w2 from fun j hj => own_below (HR6_1.out j hj) hb2 (Nat.le_refl _))
  have HL7_2 := Lib.hid (own_below HL7_1.out hb2 (Nat.le_refl _))
  have HR7_2 := Lib.hid (show RowsAt B 27 3 K7 R7 n7 C7 w2 from fun j hj => own_below (HR7_1.out j hj) hb2 (Nat.le_refl _))
  have HL19_2 := Lib.hid (own_below HL19_1.out hb2 (Nat.le_refl _))
  have HR19_2 := Lib.hid (show RowsAt B 34 4 K19 R19 n19 C19 w2 from fun j hj => own_below (HR19_1.out j hj) hb2 (Nat.le_refl _))
  have HL20_2 := Lib.hid (own_below HL20_1.out hb2 (Nat.le_refl _))
  have HR20_2 := Lib.hid (show RowsAt B 38 9 K20 R20 n20 C20 w2 from fun j hj => own_below (HR20_1.out j hj) hb2 (Nat.le_refl _))
  have hlt2 := (Array.getElem?_eq_some_iff.1 H2.out).1
  clear c1 HAP1
  clear HL2_1 HR2_1
  clear HL6_1 HR6_1
  clear HL7_1 HR7_1
  clear HL19_1 HR19_1
  clear HL20_1 HR20_1
  have c2 : w2.cell? ⟨bb, 2, none⟩ = some (.slice lo2 K2 lc2) := by
    rw [Go.Joins.cell_of_block H2.out 2, List.getElem?_toArray, List.getElem?_map, List.getElem?_range (by decide), ← HV2.out]; rfl
  go_wp2_with fail
  refine (flatI_any B K2 lo2 lc2 R2 n2 C2 w2 HL2_2.out HR2_2.out HS2.out hK2 HN2.out (Nat.le_trans hB hbel2.size)).mono ?_
  rintro e w3 ⟨rfl, hk3⟩
  have H3 := Lib.hid (hk3.other bb _ _ _ H2.out (by decide))
  have hbel3 := hbel2.trans hk3.below
  have HAP3 := Lib.hid (show ∀ b, b < w.heap.size → ¬ ofRows K2 R2 b → ¬ ofRows K6 R6 b → ¬ ofRows K7 R7 b → ¬ ofRows K19 R19 b → ¬ ofRows K20 R20 b → w3.heap[b]? = w.heap[b]? from fun b hb g2 g6 g7 g19 g20 => (hk3.apart b (Nat.lt_of_lt_of_le hb hbel2.size) g2).trans (HAP2.out b hb g2 g6 g7 g19 g20))
  have HL6_3 := Lib.hid (hk3.own HL6_2.out (by decide))
  have HR6_3 := Lib.hid (show RowsAt B 24 3 K6 R6 n6 C6 w3 from fun j hj => hk3.own (HR6_2.out j hj) (by decide))
  have HL7_3 := Lib.hid (hk3.own HL7_2.out (by decide))
  have HR7_3 := Lib.hid (show RowsAt B 27 3 K7 R7 n7 C7 w3 from fun j hj => hk3.own (HR7_2.out j hj) (by decide))
  have HL19_3 := Lib.hid (hk3.own HL19_2.out (by decide))
  have HR19_3 := Lib.hid (show RowsAt B 34 4 K19 R19 n19 C19 w3 from fun j hj => hk3.own (HR19_2.out j hj) (by decide))
  have HL20_3 := Lib.hid (hk3.own HL20_2.out (by decide))
  have HR20_3 := Lib.hid (show RowsAt B 38 9 K20 R20 n20 C20 w3 from fun j hj => hk3.own (HR20_2.out j hj) (by decide))
  have hlt3 := (Array.getElem?_eq_some_iff.1 H3.out).1
  clear c2 HAP2
  clear HL6_2 HR6_2
  clear HL7_2 HR7_2
  clear HL19_2 HR19_2
  clear HL20_2 HR20_2
  have c3 : w3.cell? ⟨bb, 3, none⟩ = some (.slice none 0 0) := by
    rw [Go.Joins.cell_of_block H3.out 3, List.getElem?_toArray, List.getElem?_map, List.getElem?_range (by decide), ← (HBG.out.nil 3 (HBG.out.unused 3 rfl))]; rfl
  go_wp2_with fail
  refine (flatNil_Longs _).mono ?_
  rintro e w4 ⟨rfl, hb4⟩
  have H4 := Lib.hid ((hb4.block bb hlt3).trans H3.out)
  have hbel4 := hbel3.trans (hb4.mono (Nat.le_trans hB hbel3.size))
  have HAP4 := Lib.hid (show ∀ b, b < w.heap.size → ¬ ofRows K2 R2 b → ¬ ofRows K6 R6 b → ¬ ofRows K7 R7 b → ¬ ofRows K19 R19 b → ¬ ofRows K20 R20 b → w4.heap[b]? = w.heap[b]? from fun b hb g2 g6 g7 g19 g20 => (hb4.block b (Nat.lt_of_lt_of_le hb hbel3.size)).trans (HAP3.out b hb g2 g6 g7 g19 g20))
  have HL6_4 := Lib.hid (own_below HL6_3.out hb4 (Nat.le_refl _))
  have HR6_4 := Lib.hid (show RowsAt B 24 3 K6 R6 n6 C6 w4 from fun j hj => own_below (HR6_3.out j hj) hb4 (Nat.le_refl _))
  have HL7_4 := Lib.hid (own_below HL7_3.out hb4 (Nat.le_refl _))
  have HR7_4 := Lib.hid (show RowsAt B 27 3 K7 R7 n7 C7 w4 from fun j hj => own_below (HR7_3.out j hj) hb4 (Nat.le_refl _))
  have HL19_4 := Lib.hid (own_below HL19_3.out hb4 (Nat.le_refl _))
  have HR19_4 := Lib.hid (show RowsAt B 34 4 K19 R19 n19 C19 w4 from fun j hj => own_below (HR19_3.out j hj) hb4 (Nat.le_refl _))
  have HL20_4 := Lib.hid (own_below HL20_3.out hb4 (Nat.le_refl _))
  have HR20_4 := Lib.hid (show RowsAt B 38 9 K20 R20 n20 C20 w4 from fun j hj => own_below (HR20_3.out j hj) hb4 (Nat.le_refl _))
  have hlt4 := (Array.getElem?_eq_some_iff.1 H4.out).1
  clear c3 HAP3
  clear HL6_3 HR6_3
  clear HL7_3 HR7_3
  clear HL19_3 HR19_3
  clear HL20_3 HR20_3
  have c4 : w4.cell? ⟨bb, 4, none⟩ = some (.slice none 0 0) := by
    rw [Go.Joins.cell_of_block H4.out 4, List.getElem?_toArray, List.getElem?_map, List.getElem?_range (by decide), ← (HBG.out.nil 4 (HBG.out.unused 4 rfl))]; rfl
  go_wp2_with fail
  refine (flatNil_Texts _).mono ?_
  rintro e w5 ⟨rfl, hb5⟩
  have H5 := Lib.hid ((hb5.block bb hlt4).trans H4.out)
  have hbel5 := hbel4.trans (hb5.mono (Nat.le_trans hB hbel4.size))
  have HAP5 := Lib.hid (show ∀ b, b < w.heap.size → ¬ ofRows K2 R2 b → ¬ ofRows K6 R6 b → ¬ ofRows K7 R7 b → ¬ ofRows K19 R19 b → ¬ ofRows K20 R20 b → w5.heap[b]? = w.heap[b]? from fun b hb g2 g6 g7 g19 g20 => (hb5.block b (Nat.lt_of_lt_of_le hb hbel4.size)).trans (HAP4.out b hb g2 g6 g7 g19 g20))
  have HL6_5 := Lib.hid (own_below HL6_4.out hb5 (Nat.le_refl _))
  have HR6_5 := Lib.hid (show RowsAt B 24 3 K6 R6 n6 C6 w5 from fun j hj => own_below (HR6_4.out j hj) hb5 (Nat.le_refl _))
  have HL7_5 := Lib.hid (own_below HL7_4.out hb5 (Nat.le_refl _))
  have HR7_5 := Lib.hid (show RowsAt B 27 3 K7 R7 n7 C7 w5 from fun j hj => own_below (HR7_4.out j hj) hb5 (Nat.le_refl _))
  have HL19_5 := Lib.hid (own_below HL19_4.out hb5 (Nat.le_refl _))
  have HR19_5 := Lib.hid (show RowsAt B 34 4 K19 R19 n19 C19 w5 from fun j hj => own_below (HR19_4.out j hj) hb5 (Nat.le_refl _))
  have HL20_5 := Lib.hid (own_below HL20_4.out hb5 (Nat.le_refl _))
  have HR20_5 := Lib.hid (show RowsAt B 38 9 K20 R20 n20 C20 w5 from fun j hj => own_below (HR20_4.out j hj) hb5 (Nat.le_refl _))
  have hlt5 := (Array.getElem?_eq_some_iff.1 H5.out).1
  clear c4 HAP4
  clear HL6_4 HR6_4
  clear HL7_4 HR7_4
  clear HL19_4 HR19_4
  clear HL20_4 HR20_4
  have c5 : w5.cell? ⟨bb, 5, none⟩ = some (.slice none 0 0) := by
    rw [Go.Joins.cell_of_block H5.out 5, List.getElem?_toArray, List.getElem?_map, List.getElem?_range (by decide), ← (HBG.out.nil 5 (HBG.out.unused 5 rfl))]; rfl
  go_wp2_with fail
  refine (flatNil_Bytes _).mono ?_
  rintro e w6 ⟨rfl, hb6⟩
  have H6 := Lib.hid ((hb6.block bb hlt5).trans H5.out)
  have hbel6 := hbel5.trans (hb6.mono (Nat.le_trans hB hbel5.size))
  have HAP6 := Lib.hid (show ∀ b, b < w.heap.size → ¬ ofRows K2 R2 b → ¬ ofRows K6 R6 b → ¬ ofRows K7 R7 b → ¬ ofRows K19 R19 b → ¬ ofRows K20 R20 b → w6.heap[b]? = w.heap[b]? from fun b hb g2 g6 g7 g19 g20 => (hb6.block b (Nat.lt_of_lt_of_le hb hbel5.size)).trans (HAP5.out b hb g2 g6 g7 g19 g20))
  have HL6_6 := Lib.hid (own_below HL6_5.out hb6 (Nat.le_refl _))
  have HR6_6 := Lib.hid (show RowsAt B 24 3 K6 R6 n6 C6 w6 from fun j hj => own_below (HR6_5.out j hj) hb6 (Nat.le_refl _))
  have HL7_6 := Lib.hid (own_below HL7_5.out hb6 (Nat.le_refl _))
  have HR7_6 := Lib.hid (show RowsAt B 27 3 K7 R7 n7 C7 w6 from fun j hj => own_below (HR7_5.out j hj) hb6 (Nat.le_refl _))
  have HL19_6 := Lib.hid (own_below HL19_5.out hb6 (Nat.le_refl _))
  have HR19_6 := Lib.hid (show RowsAt B 34 4 K19 R19 n19 C19 w6 from fun j hj => own_below (HR19_5.out j hj) hb6 (Nat.le_refl _))
  have HL20_6 := Lib.hid (own_below HL20_5.out hb6 (Nat.le_refl _))
  have HR20_6 := Lib.hid (show RowsAt B 38 9 K20 R20 n20 C20 w6 from fun j hj => own_below (HR20_5.out j hj) hb6 (Nat.le_refl _))
  have hlt6 := (Array.getElem?_eq_some_iff.1 H6.out).1
  clear c5 HAP5
  clear HL6_5 HR6_5
  clear HL7_5 HR7_5
  clear HL19_5 HR19_5
  clear HL20_5 HR20_5
  have c6 : w6.cell? ⟨bb, 6, none⟩ = some (.slice lo6 K6 lc6) := by
    rw [Go.Joins.cell_of_block H6.out 6, List.getElem?_toArray, List.getElem?_map, List.getElem?_range (by decide), ← HV6.out]; rfl
  go_wp2_with fail
  refine (flatV_any B K6 lo6 lc6 R6 n6 C6 w6 HL6_6.out HR6_6.out HS6.out hK6 HN6.out (Nat.le_trans hB hbel6.size)).mono ?_
  rintro e w7 ⟨rfl, hk7⟩
  have H7 := Lib.hid (hk7.other bb _ _ _ H6.out (by decide))
  have hbel7 := hbel6.trans hk7.below
  have HAP7 := Lib.hid (show ∀ b, b < w.heap.size → ¬ ofRows K2 R2 b → ¬ ofRows K6 R6 b → ¬ ofRows K7 R7 b → ¬ ofRows K19 R19 b → ¬ ofRows K20 R20 b → w7.heap[b]? = w.heap[b]? from fun b hb g2 g6 g7 g19 g20 => (hk7.apart b (Nat.lt_of_lt_of_le hb hbel6.size) g6).trans (HAP6.out b hb g2 g6 g7 g19 g20))
  have HL7_7 := Lib.hid (hk7.own HL7_6.out (by decide))
  have HR7_7 := Lib.hid (show RowsAt B 27 3 K7 R7 n7 C7 w7 from fun j hj => hk7.own (HR7_6.out j hj) (by decide))
  have HL19_7 := Lib.hid (hk7.own HL19_6.out (by decide))
  have HR19_7 := Lib.hid (show RowsAt B 34 4 K19 R19 n19 C19 w7 from fun j hj => hk7.own (HR19_6.out j hj) (by decide))
  have HL20_7 := Lib.hid (hk7.own HL20_6.out (by decide))
  have HR20_7 := Lib.hid (show RowsAt B 38 9 K20 R20 n20 C20 w7 from fun j hj => hk7.own (HR20_6.out j hj) (by decide))
  have hlt7 := (Array.getElem?_eq_some_iff.1 H7.out).1
  clear c6 HAP6
  clear HL7_6 HR7_6
  clear HL19_6 HR19_6
  clear HL20_6 HR20_6
  have c7 : w7.cell? ⟨bb, 7, none⟩ = some (.slice lo7 K7 lc7) := by
    rw [Go.Joins.cell_of_block H7.out 7, List.getElem?_toArray, List.getElem?_map, List.getElem?_range (by decide), ← HV7.out]; rfl
  go_wp2_with fail
  refine (flatFc_any B K7 lo7 lc7 R7 n7 C7 w7 HL7_7.out HR7_7.out HS7.out hK7 HN7.out (Nat.le_trans hB hbel7.size)).mono ?_
  rintro e w8 ⟨rfl, hk8⟩
  have H8 := Lib.hid (hk8.other bb _ _ _ H7.out (by decide))
  have hbel8 := hbel7.trans hk8.below
  have HAP8 := Lib.hid (show ∀ b, b < w.heap.size → ¬ ofRows K2 R2 b → ¬ ofRows K6 R6 b → ¬ ofRows K7 R7 b → ¬ ofRows K19 R19 b → ¬ ofRows K20 R20 b → w8.heap[b]? = w.heap[b]? from fun b hb g2 g6 g7 g19 g20 => (hk8.apart b (Nat.lt_of_lt_of_le hb hbel7.size) g7).trans (HAP7.out b hb g2 g6 g7 g19 g20))
  have HL19_8 := Lib.hid (hk8.own HL19_7.out (by decide))
  have HR19_8 := Lib.hid (show RowsAt B 34 4 K19 R19 n19 C19 w8 from fun j hj => hk8.own (HR19_7.out j hj) (by decide))
  have HL20_8 := Lib.hid (hk8.own HL20_7.out (by decide))
  have HR20_8 := Lib.hid (show RowsAt B 38 9 K20 R20 n20 C20 w8 from fun j hj => hk8.own (HR20_7.out j hj) (by decide))
  have hlt8 := (Array.getElem?_eq_some_iff.1 H8.out).1
  clear c7 HAP7
  clear HL19_7 HR19_7
  clear HL20_7 HR20_7
  have c8 : w8.cell? ⟨bb, 8, none⟩ = some (.slice none 0 0) := by
    rw [Go.Joins.cell_of_block H8.out 8, List.getElem?_toArray, List.getElem?_map, List.getElem?_range (by decide), ← (HBG.out.nil 8 (HBG.out.unused 8 rfl))]; rfl
  go_wp2_with fail
  refine (flatNil_Lexes _).mono ?_
  rintro e w9 ⟨rfl, hb9⟩
  have H9 := Lib.hid ((hb9.block bb hlt8).trans H8.out)
  have hbel9 := hbel8.trans (hb9.mono (Nat.le_trans hB hbel8.size))
  have HAP9 := Lib.hid (show ∀ b, b < w.heap.size → ¬ ofRows K2 R2 b → ¬ ofRows K6 R6 b → ¬ ofRows K7 R7 b → ¬ ofRows K19 R19 b → ¬ ofRows K20 R20 b → w9.heap[b]? = w.heap[b]? from fun b hb g2 g6 g7 g19 g20 => (hb9.block b (Nat.lt_of_lt_of_le hb hbel8.size)).trans (HAP8.out b hb g2 g6 g7 g19 g20))
  have HL19_9 := Lib.hid (own_below HL19_8.out hb9 (Nat.le_refl _))
  have HR19_9 := Lib.hid (show RowsAt B 34 4 K19 R19 n19 C19 w9 from fun j hj => own_below (HR19_8.out j hj) hb9 (Nat.le_refl _))
  have HL20_9 := Lib.hid (own_below HL20_8.out hb9 (Nat.le_refl _))
  have HR20_9 := Lib.hid (show RowsAt B 38 9 K20 R20 n20 C20 w9 from fun j hj => own_below (HR20_8.out j hj) hb9 (Nat.le_refl _))
  have hlt9 := (Array.getElem?_eq_some_iff.1 H9.out).1
  clear c8 HAP8
  clear HL19_8 HR19_8
  clear HL20_8 HR20_8
  have c9 : w9.cell? ⟨bb, 9, none⟩ = some (.slice none 0 0) := by
    rw [Go.Joins.cell_of_block H9.out 9, List.getElem?_toArray, List.getElem?_map, List.getElem?_range (by decide), ← (HBG.out.nil 9 (HBG.out.unused 9 rfl))]; rfl
  go_wp2_with fail
  refine (flatNil_Nodes _).mono ?_
  rintro e w10 ⟨rfl, hb10⟩
  have H10 := Lib.hid ((hb10.block bb hlt9).trans H9.out)
  have hbel10 := hbel9.trans (hb10.mono (Nat.le_trans hB hbel9.size))
  have HAP10 := Lib.hid (show ∀ b, b < w.heap.size → ¬ ofRows K2 R2 b → ¬ ofRows K6 R6 b → ¬ ofRows K7 R7 b → ¬ ofRows K19 R19 b → ¬ ofRows K20 R20 b → w10.heap[b]? = w.heap[b]? from fun b hb g2 g6 g7 g19 g20 => (hb10.block b (Nat.lt_of_lt_of_le hb hbel9.size)).trans (HAP9.out b hb g2 g6 g7 g19 g20))
  have HL19_10 := Lib.hid (own_below HL19_9.out hb10 (Nat.le_refl _))
  have HR19_10 := Lib.hid (show RowsAt B 34 4 K19 R19 n19 C19 w10 from fun j hj => own_below (HR19_9.out j hj) hb10 (Nat.le_refl _))
  have HL20_10 := Lib.hid (own_below HL20_9.out hb10 (Nat.le_refl _))
  have HR20_10 := Lib.hid (show RowsAt B 38 9 K20 R20 n20 C20 w10 from fun j hj => own_below (HR20_9.out j hj) hb10 (Nat.le_refl _))
  have hlt10 := (Array.getElem?_eq_some_iff.1 H10.out).1
  clear c9 HAP9
  clear HL19_9 HR19_9
  clear HL20_9 HR20_9
  have c10 : w10.cell? ⟨bb, 10, none⟩ = some (.slice none 0 0) := by
    rw [Go.Joins.cell_of_block H10.out 10, List.getElem?_toArray, List.getElem?_map, List.getElem?_range (by decide), ← (HBG.out.nil 10 (HBG.out.unused 10 rfl))]; rfl
  go_wp2_with fail
  refine (flatNil_Exprs _).mono ?_
  rintro e w11 ⟨rfl, hb11⟩
  have H11 := Lib.hid ((hb11.block bb hlt10).trans H10.out)
  have hbel11 := hbel10.trans (hb11.mono (Nat.le_trans hB hbel10.size))
  have HAP11 := Lib.hid (show ∀ b, b < w.heap.size → ¬ ofRows K2 R2 b → ¬ ofRows K6 R6 b → ¬ ofRows K7 R7 b → ¬ ofRows K19 R19 b → ¬ ofRows K20 R20 b → w11.heap[b]? = w.heap[b]? from fun b hb g2 g6 g7 g19 g20 => (hb11.block b (Nat.lt_of_lt_of_le hb hbel10.size)).trans (HAP10.out b hb g2 g6 g7 g19 g20))
  have HL19_11 := Lib.hid (own_below HL19_10.out hb11 (Nat.le_refl _))
  have HR19_11 := Lib.hid (show RowsAt B 34 4 K19 R19 n19 C19 w11 from fun j hj => own_below (HR19_10.out j hj) hb11 (Nat.le_refl _))
  have HL20_11 := Lib.hid (own_below HL20_10.out hb11 (Nat.le_refl _))
  have HR20_11 := Lib.hid (show RowsAt B 38 9 K20 R20 n20 C20 w11 from fun j hj => own_below (HR20_10.out j hj) hb11 (Nat.le_refl _))
  have hlt11 := (Array.getElem?_eq_some_iff.1 H11.out).1
  clear c10 HAP10
  clear HL19_10 HR19_10
  clear HL20_10 HR20_10
  have c11 : w11.cell? ⟨bb, 11, none⟩ = some (.slice none 0 0) := by
    rw [Go.Joins.cell_of_block H11.out 11, List.getElem?_toArray, List.getElem?_map, List.getElem?_range (by decide), ← (HBG.out.nil 11 (HBG.out.unused 11 rfl))]; rfl
  go_wp2_with fail
  refine (flatNil_Args _).mono ?_
  rintro e w12 ⟨rfl, hb12⟩
  have H12 := Lib.hid ((hb12.block bb hlt11).trans H11.out)
  have hbel12 := hbel11.trans (hb12.mono (Nat.le_trans hB hbel11.size))
  have HAP12 := Lib.hid (show ∀ b, b < w.heap.size → ¬ ofRows K2 R2 b → ¬ ofRows K6 R6 b → ¬ ofRows K7 R7 b → ¬ ofRows K19 R19 b → ¬ ofRows K20 R20 b → w12.heap[b]? = w.heap[b]? from fun b hb g2 g6 g7 g19 g20 => (hb12.block b (Nat.lt_of_lt_of_le hb hbel11.size)).trans (HAP11.out b hb g2 g6 g7 g19 g20))
  have HL19_12 := Lib.hid (own_below HL19_11.out hb12 (Nat.le_refl _))
  have HR19_12 := Lib.hid (show RowsAt B 34 4 K19 R19 n19 C19 w12 from fun j hj => own_below (HR19_11.out j hj) hb12 (Nat.le_refl _))
  have HL20_12 := Lib.hid (own_below HL20_11.out hb12 (Nat.le_refl _))
  have HR20_12 := Lib.hid (show RowsAt B 38 9 K20 R20 n20 C20 w12 from fun j hj => own_below (HR20_11.out j hj) hb12 (Nat.le_refl _))
  have hlt12 := (Array.getElem?_eq_some_iff.1 H12.out).1
  clear c11 HAP11
  clear HL19_11 HR19_11
  clear HL20_11 HR20_11
  have c12 : w12.cell? ⟨bb, 12, none⟩ = some (.slice none 0 0) := by
    rw [Go.Joins.cell_of_block H12.out 12, List.getElem?_toArray, List.getElem?_map, List.getElem?_range (by decide), ← (HBG.out.nil 12 (HBG.out.unused 12 rfl))]; rfl
  go_wp2_with fail
  refine (flatNil_Conds _).mono ?_
  rintro e w13 ⟨rfl, hb13⟩
  have H13 := Lib.hid ((hb13.block bb hlt12).trans H12.out)
  have hbel13 := hbel12.trans (hb13.mono (Nat.le_trans hB hbel12.size))
  have HAP13 := Lib.hid (show ∀ b, b < w.heap.size → ¬ ofRows K2 R2 b → ¬ ofRows K6 R6 b → ¬ ofRows K7 R7 b → ¬ ofRows K19 R19 b → ¬ ofRows K20 R20 b → w13.heap[b]? = w.heap[b]? from fun b hb g2 g6 g7 g19 g20 => (hb13.block b (Nat.lt_of_lt_of_le hb hbel12.size)).trans (HAP12.out b hb g2 g6 g7 g19 g20))
  have HL19_13 := Lib.hid (own_below HL19_12.out hb13 (Nat.le_refl _))
  have HR19_13 := Lib.hid (show RowsAt B 34 4 K19 R19 n19 C19 w13 from fun j hj => own_below (HR19_12.out j hj) hb13 (Nat.le_refl _))
  have HL20_13 := Lib.hid (own_below HL20_12.out hb13 (Nat.le_refl _))
  have HR20_13 := Lib.hid (show RowsAt B 38 9 K20 R20 n20 C20 w13 from fun j hj => own_below (HR20_12.out j hj) hb13 (Nat.le_refl _))
  have hlt13 := (Array.getElem?_eq_some_iff.1 H13.out).1
  clear c12 HAP12
  clear HL19_12 HR19_12
  clear HL20_12 HR20_12
  have c13 : w13.cell? ⟨bb, 13, none⟩ = some (.slice none 0 0) := by
    rw [Go.Joins.cell_of_block H13.out 13, List.getElem?_toArray, List.getElem?_map, List.getElem?_range (by decide), ← (HBG.out.nil 13 (HBG.out.unused 13 rfl))]; rfl
  go_wp2_with fail
  refine (flatNil_Acts _).mono ?_
  rintro e w14 ⟨rfl, hb14⟩
  have H14 := Lib.hid ((hb14.block bb hlt13).trans H13.out)
  have hbel14 := hbel13.trans (hb14.mono (Nat.le_trans hB hbel13.size))
  have HAP14 := Lib.hid (show ∀ b, b < w.heap.size → ¬ ofRows K2 R2 b → ¬ ofRows K6 R6 b → ¬ ofRows K7 R7 b → ¬ ofRows K19 R19 b → ¬ ofRows K20 R20 b → w14.heap[b]? = w.heap[b]? from fun b hb g2 g6 g7 g19 g20 => (hb14.block b (Nat.lt_of_lt_of_le hb hbel13.size)).trans (HAP13.out b hb g2 g6 g7 g19 g20))
  have HL19_14 := Lib.hid (own_below HL19_13.out hb14 (Nat.le_refl _))
  have HR19_14 := Lib.hid (show RowsAt B 34 4 K19 R19 n19 C19 w14 from fun j hj => own_below (HR19_13.out j hj) hb14 (Nat.le_refl _))
  have HL20_14 := Lib.hid (own_below HL20_13.out hb14 (Nat.le_refl _))
  have HR20_14 := Lib.hid (show RowsAt B 38 9 K20 R20 n20 C20 w14 from fun j hj => own_below (HR20_13.out j hj) hb14 (Nat.le_refl _))
  have hlt14 := (Array.getElem?_eq_some_iff.1 H14.out).1
  clear c13 HAP13
  clear HL19_13 HR19_13
  clear HL20_13 HR20_13
  have c14 : w14.cell? ⟨bb, 14, none⟩ = some (.slice none 0 0) := by
    rw [Go.Joins.cell_of_block H14.out 14, List.getElem?_toArray, List.getElem?_map, List.getElem?_range (by decide), ← (HBG.out.nil 14 (HBG.out.unused 14 rfl))]; rfl
  go_wp2_with fail
  refine (flatNil_Types _).mono ?_
  rintro e w15 ⟨rfl, hb15⟩
  have H15 := Lib.hid ((hb15.block bb hlt14).trans H14.out)
  have hbel15 := hbel14.trans (hb15.mono (Nat.le_trans hB hbel14.size))
  have HAP15 := Lib.hid (show ∀ b, b < w.heap.size → ¬ ofRows K2 R2 b → ¬ ofRows K6 R6 b → ¬ ofRows K7 R7 b → ¬ ofRows K19 R19 b → ¬ ofRows K20 R20 b → w15.heap[b]? = w.heap[b]? from fun b hb g2 g6 g7 g19 g20 => (hb15.block b (Nat.lt_of_lt_of_le hb hbel14.size)).trans (HAP14.out b hb g2 g6 g7 g19 g20))
  have HL19_15 := Lib.hid (own_below HL19_14.out hb15 (Nat.le_refl _))
  have HR19_15 := Lib.hid (show RowsAt B 34 4 K19 R19 n19 C19 w15 from fun j hj => own_below (HR19_14.out j hj) hb15 (Nat.le_refl _))
  have HL20_15 := Lib.hid (own_below HL20_14.out hb15 (Nat.le_refl _))
  have HR20_15 := Lib.hid (show RowsAt B 38 9 K20 R20 n20 C20 w15 from fun j hj => own_below (HR20_14.out j hj) hb15 (Nat.le_refl _))
  have hlt15 := (Array.getElem?_eq_some_iff.1 H15.out).1
  clear c14 HAP14
  clear HL19_14 HR19_14
  clear HL20_14 HR20_14
  have c15 : w15.cell? ⟨bb, 15, none⟩ = some (.slice none 0 0) := by
    rw [Go.Joins.cell_of_block H15.out 15, List.getElem?_toArray, List.getElem?_map, List.getElem?_range (by decide), ← (HBG.out.nil 15 (HBG.out.unused 15 rfl))]; rfl
  go_wp2_with fail
  refine (flatNil_RuleRow _).mono ?_
  rintro e w16 ⟨rfl, hb16⟩
  have H16 := Lib.hid ((hb16.block bb hlt15).trans H15.out)
  have hbel16 := hbel15.trans (hb16.mono (Nat.le_trans hB hbel15.size))
  have HAP16 := Lib.hid (show ∀ b, b < w.heap.size → ¬ ofRows K2 R2 b → ¬ ofRows K6 R6 b → ¬ ofRows K7 R7 b → ¬ ofRows K19 R19 b → ¬ ofRows K20 R20 b → w16.heap[b]? = w.heap[b]? from fun b hb g2 g6 g7 g19 g20 => (hb16.block b (Nat.lt_of_lt_of_le hb hbel15.size)).trans (HAP15.out b hb g2 g6 g7 g19 g20))
  have HL19_16 := Lib.hid (own_below HL19_15.out hb16 (Nat.le_refl _))
  have HR19_16 := Lib.hid (show RowsAt B 34 4 K19 R19 n19 C19 w16 from fun j hj => own_below (HR19_15.out j hj) hb16 (Nat.le_refl _))
  have HL20_16 := Lib.hid (own_below HL20_15.out hb16 (Nat.le_refl _))
  have HR20_16 := Lib.hid (show RowsAt B 38 9 K20 R20 n20 C20 w16 from fun j hj => own_below (HR20_15.out j hj) hb16 (Nat.le_refl _))
  have hlt16 := (Array.getElem?_eq_some_iff.1 H16.out).1
  clear c15 HAP15
  clear HL19_15 HR19_15
  clear HL20_15 HR20_15
  have c16 : w16.cell? ⟨bb, 16, none⟩ = some (.slice none 0 0) := by
    rw [Go.Joins.cell_of_block H16.out 16, List.getElem?_toArray, List.getElem?_map, List.getElem?_range (by decide), ← (HBG.out.nil 16 (HBG.out.unused 16 rfl))]; rfl
  go_wp2_with fail
  refine (flatNil_RulesRow _).mono ?_
  rintro e w17 ⟨rfl, hb17⟩
  have H17 := Lib.hid ((hb17.block bb hlt16).trans H16.out)
  have hbel17 := hbel16.trans (hb17.mono (Nat.le_trans hB hbel16.size))
  have HAP17 := Lib.hid (show ∀ b, b < w.heap.size → ¬ ofRows K2 R2 b → ¬ ofRows K6 R6 b → ¬ ofRows K7 R7 b → ¬ ofRows K19 R19 b → ¬ ofRows K20 R20 b → w17.heap[b]? = w.heap[b]? from fun b hb g2 g6 g7 g19 g20 => (hb17.block b (Nat.lt_of_lt_of_le hb hbel16.size)).trans (HAP16.out b hb g2 g6 g7 g19 g20))
  have HL19_17 := Lib.hid (own_below HL19_16.out hb17 (Nat.le_refl _))
  have HR19_17 := Lib.hid (show RowsAt B 34 4 K19 R19 n19 C19 w17 from fun j hj => own_below (HR19_16.out j hj) hb17 (Nat.le_refl _))
  have HL20_17 := Lib.hid (own_below HL20_16.out hb17 (Nat.le_refl _))
  have HR20_17 := Lib.hid (show RowsAt B 38 9 K20 R20 n20 C20 w17 from fun j hj => own_below (HR20_16.out j hj) hb17 (Nat.le_refl _))
  have hlt17 := (Array.getElem?_eq_some_iff.1 H17.out).1
  clear c16 HAP16
  clear HL19_16 HR19_16
  clear HL20_16 HR20_16
  have c17 : w17.cell? ⟨bb, 17, none⟩ = some (.slice none 0 0) := by
    rw [Go.Joins.cell_of_block H17.out 17, List.getElem?_toArray, List.getElem?_map, List.getElem?_range (by decide), ← (HBG.out.nil 17 (HBG.out.unused 17 rfl))]; rfl
  go_wp2_with fail
  refine (flatNil_Tokens _).mono ?_
  rintro e w18 ⟨rfl, hb18⟩
  have H18 := Lib.hid ((hb18.block bb hlt17).trans H17.out)
  have hbel18 := hbel17.trans (hb18.mono (Nat.le_trans hB hbel17.size))
  have HAP18 := Lib.hid (show ∀ b, b < w.heap.size → ¬ ofRows K2 R2 b → ¬ ofRows K6 R6 b → ¬ ofRows K7 R7 b → ¬ ofRows K19 R19 b → ¬ ofRows K20 R20 b → w18.heap[b]? = w.heap[b]? from fun b hb g2 g6 g7 g19 g20 => (hb18.block b (Nat.lt_of_lt_of_le hb hbel17.size)).trans (HAP17.out b hb g2 g6 g7 g19 g20))
  have HL19_18 := Lib.hid (own_below HL19_17.out hb18 (Nat.le_refl _))
  have HR19_18 := Lib.hid (show RowsAt B 34 4 K19 R19 n19 C19 w18 from fun j hj => own_below (HR19_17.out j hj) hb18 (Nat.le_refl _))
  have HL20_18 := Lib.hid (own_below HL20_17.out hb18 (Nat.le_refl _))
  have HR20_18 := Lib.hid (show RowsAt B 38 9 K20 R20 n20 C20 w18 from fun j hj => own_below (HR20_17.out j hj) hb18 (Nat.le_refl _))
  have hlt18 := (Array.getElem?_eq_some_iff.1 H18.out).1
  clear c17 HAP17
  clear HL19_17 HR19_17
  clear HL20_17 HR20_17
  have c18 : w18.cell? ⟨bb, 18, none⟩ = some (.slice none 0 0) := by
    rw [Go.Joins.cell_of_block H18.out 18, List.getElem?_toArray, List.getElem?_map, List.getElem?_range (by decide), ← (HBG.out.nil 18 (HBG.out.unused 18 rfl))]; rfl
  go_wp2_with fail
  refine (flatNil_Commands _).mono ?_
  rintro e w19 ⟨rfl, hb19⟩
  have H19 := Lib.hid ((hb19.block bb hlt18).trans H18.out)
  have hbel19 := hbel18.trans (hb19.mono (Nat.le_trans hB hbel18.size))
  have HAP19 := Lib.hid (show ∀ b, b < w.heap.size → ¬ ofRows K2 R2 b → ¬ ofRows K6 R6 b → ¬ ofRows K7 R7 b → ¬ ofRows K19 R19 b → ¬ ofRows K20 R20 b → w19.heap[b]? = w.heap[b]? from fun b hb g2 g6 g7 g19 g20 => (hb19.block b (Nat.lt_of_lt_of_le hb hbel18.size)).trans (HAP18.out b hb g2 g6 g7 g19 g20))
  have HL19_19 := Lib.hid (own_below HL19_18.out hb19 (Nat.le_refl _))
  have HR19_19 := Lib.hid (show RowsAt B 34 4 K19 R19 n19 C19 w19 from fun j hj => own_below (HR19_18.out j hj) hb19 (Nat.le_refl _))
  have HL20_19 := Lib.hid (own_below HL20_18.out hb19 (Nat.le_refl _))
  have HR20_19 := Lib.hid (show RowsAt B 38 9 K20 R20 n20 C20 w19 from fun j hj => own_below (HR20_18.out j hj) hb19 (Nat.le_refl _))
  have hlt19 := (Array.getElem?_eq_some_iff.1 H19.out).1
  clear c18 HAP18
  clear HL19_18 HR19_18
  clear HL20_18 HR20_18
  have c19 : w19.cell? ⟨bb, 19, none⟩ = some (.slice lo19 K19 lc19) := by
    rw [Go.Joins.cell_of_block H19.out 19, List.getElem?_toArray, List.getElem?_map, List.getElem?_range (by decide), ← HV19.out]; rfl
  go_wp2_with fail
  refine (flatRp_any B K19 lo19 lc19 R19 n19 C19 w19 HL19_19.out HR19_19.out HS19.out hK19 HN19.out (Nat.le_trans hB hbel19.size)).mono ?_
  rintro e w20 ⟨rfl, hk20⟩
  have H20 := Lib.hid (hk20.other bb _ _ _ H19.out (by decide))
  have hbel20 := hbel19.trans hk20.below
  have HAP20 := Lib.hid (show ∀ b, b < w.heap.size → ¬ ofRows K2 R2 b → ¬ ofRows K6 R6 b → ¬ ofRows K7 R7 b → ¬ ofRows K19 R19 b → ¬ ofRows K20 R20 b → w20.heap[b]? = w.heap[b]? from fun b hb g2 g6 g7 g19 g20 => (hk20.apart b (Nat.lt_of_lt_of_le hb hbel19.size) g19).trans (HAP19.out b hb g2 g6 g7 g19 g20))
  have HL20_20 := Lib.hid (hk20.own HL20_19.out (by decide))
  have HR20_20 := Lib.hid (show RowsAt B 38 9 K20 R20 n20 C20 w20 from fun j hj => hk20.own (HR20_19.out j hj) (by decide))
  have hlt20 := (Array.getElem?_eq_some_iff.1 H20.out).1
  clear c19 HAP19
  clear HL20_19 HR20_19
  have c20 : w20.cell? ⟨bb, 20, none⟩ = some (.slice lo20 K20 lc20) := by
    rw [Go.Joins.cell_of_block H20.out 20, List.getElem?_toArray, List.getElem?_map, List.getElem?_range (by decide), ← HV20.out]; rfl
  go_wp2_with fail
  refine (flatE_any B K20 lo20 lc20 R20 n20 C20 w20 HL20_20.out HR20_20.out HS20.out hK20 HN20.out (Nat.le_trans hB hbel20.size)).mono ?_
  rintro e w21 ⟨rfl, hk21⟩
  have H21 := Lib.hid (hk21.other bb _ _ _ H20.out (by decide))
  have hbel21 := hbel20.trans hk21.below
  have HAP21 := Lib.hid (show ∀ b, b < w.heap.size → ¬ ofRows K2 R2 b → ¬ ofRows K6 R6 b → ¬ ofRows K7 R7 b → ¬ ofRows K19 R19 b → ¬ ofRows K20 R20 b → w21.heap[b]? = w.heap[b]? from fun b hb g2 g6 g7 g19 g20 => (hk21.apart b (Nat.lt_of_lt_of_le hb hbel20.size) g20).trans (HAP20.out b hb g2 g6 g7 g19 g20))
  have hlt21 := (Array.getElem?_eq_some_iff.1 H21.out).1
  clear c20 HAP20
  have c21 : w21.cell? ⟨bb, 21, none⟩ = some (.slice none 0 0) := by
    rw [Go.Joins.cell_of_block H21.out 21, List.getElem?_toArray, List.getElem?_map, List.getElem?_range (by decide), ← (HBG.out.nil 21 (HBG.out.unused 21 rfl))]; rfl
  go_wp2_with fail
  refine (flatNil_Letters _).mono ?_
  rintro e w22 ⟨rfl, hb22⟩
  have H22 := Lib.hid ((hb22.block bb hlt21).trans H21.out)
  have hbel22 := hbel21.trans (hb22.mono (Nat.le_trans hB hbel21.size))
  have HAP22 := Lib.hid (show ∀ b, b < w.heap.size → ¬ ofRows K2 R2 b → ¬ ofRows K6 R6 b → ¬ ofRows K7 R7 b → ¬ ofRows K19 R19 b → ¬ ofRows K20 R20 b → w22.heap[b]? = w.heap[b]? from fun b hb g2 g6 g7 g19 g20 => (hb22.block b (Nat.lt_of_lt_of_le hb hbel21.size)).trans (HAP21.out b hb g2 g6 g7 g19 g20))
  have hlt22 := (Array.getElem?_eq_some_iff.1 H22.out).1
  clear c21 HAP21
  have c22 : w22.cell? ⟨bb, 22, none⟩ = some (.slice none 0 0) := by
    rw [Go.Joins.cell_of_block H22.out 22, List.getElem?_toArray, List.getElem?_map, List.getElem?_range (by decide), ← (HBG.out.nil 22 (HBG.out.unused 22 rfl))]; rfl
  go_wp2_with fail
  refine (flatNil_Snaps _).mono ?_
  rintro e w23 ⟨rfl, hb23⟩
  have H23 := Lib.hid ((hb23.block bb hlt22).trans H22.out)
  have hbel23 := hbel22.trans (hb23.mono (Nat.le_trans hB hbel22.size))
  have HAP23 := Lib.hid (show ∀ b, b < w.heap.size → ¬ ofRows K2 R2 b → ¬ ofRows K6 R6 b → ¬ ofRows K7 R7 b → ¬ ofRows K19 R19 b → ¬ ofRows K20 R20 b → w23.heap[b]? = w.heap[b]? from fun b hb g2 g6 g7 g19 g20 => (hb23.block b (Nat.lt_of_lt_of_le hb hbel22.size)).trans (HAP22.out b hb g2 g6 g7 g19 g20))
  have hlt23 := (Array.getElem?_eq_some_iff.1 H23.out).1
  clear c22 HAP22
  have c23 : w23.cell? ⟨bb, 23, none⟩ = some (.slice none 0 0) := by
    rw [Go.Joins.cell_of_block H23.out 23, List.getElem?_toArray, List.getElem?_map, List.getElem?_range (by decide), ← (HBG.out.nil 23 (HBG.out.unused 23 rfl))]; rfl
  go_wp2_with fail
  refine (flatNil_Steps _).mono ?_
  rintro e w24 ⟨rfl, hb24⟩
  have H24 := Lib.hid ((hb24.block bb hlt23).trans H23.out)
  have hbel24 := hbel23.trans (hb24.mono (Nat.le_trans hB hbel23.size))
  have HAP24 := Lib.hid (show ∀ b, b < w.heap.size → ¬ ofRows K2 R2 b → ¬ ofRows K6 R6 b → ¬ ofRows K7 R7 b → ¬ ofRows K19 R19 b → ¬ ofRows K20 R20 b → w24.heap[b]? = w.heap[b]? from fun b hb g2 g6 g7 g19 g20 => (hb24.block b (Nat.lt_of_lt_of_le hb hbel23.size)).trans (HAP23.out b hb g2 g6 g7 g19 g20))
  have hlt24 := (Array.getElem?_eq_some_iff.1 H24.out).1
  clear c23 HAP23
  have c24 : w24.cell? ⟨bb, 24, none⟩ = some (.slice none 0 0) := by
    rw [Go.Joins.cell_of_block H24.out 24, List.getElem?_toArray, List.getElem?_map, List.getElem?_range (by decide), ← (HBG.out.nil 24 (HBG.out.unused 24 rfl))]; rfl
  go_wp2_with fail
  refine (flatNil_Tales _).mono ?_
  rintro e w25 ⟨rfl, hb25⟩
  have H25 := Lib.hid ((hb25.block bb hlt24).trans H24.out)
  have hbel25 := hbel24.trans (hb25.mono (Nat.le_trans hB hbel24.size))
  have HAP25 := Lib.hid (show ∀ b, b < w.heap.size → ¬ ofRows K2 R2 b → ¬ ofRows K6 R6 b → ¬ ofRows K7 R7 b → ¬ ofRows K19 R19 b → ¬ ofRows K20 R20 b → w25.heap[b]? = w.heap[b]? from fun b hb g2 g6 g7 g19 g20 => (hb25.block b (Nat.lt_of_lt_of_le hb hbel24.size)).trans (HAP24.out b hb g2 g6 g7 g19 g20))
  have hlt25 := (Array.getElem?_eq_some_iff.1 H25.out).1
  clear c24 HAP24
  have c25 : w25.cell? ⟨bb, 25, none⟩ = some (.slice none 0 0) := by
    rw [Go.Joins.cell_of_block H25.out 25, List.getElem?_toArray, List.getElem?_map, List.getElem?_range (by decide), ← (HBG.out.nil 25 (HBG.out.unused 25 rfl))]; rfl
  go_wp2_with fail
  refine (flatNil_States _).mono ?_
  rintro e w26 ⟨rfl, hb26⟩
  have H26 := Lib.hid ((hb26.block bb hlt25).trans H25.out)
  have hbel26 := hbel25.trans (hb26.mono (Nat.le_trans hB hbel25.size))
  have HAP26 := Lib.hid (show ∀ b, b < w.heap.size → ¬ ofRows K2 R2 b → ¬ ofRows K6 R6 b → ¬ ofRows K7 R7 b → ¬ ofRows K19 R19 b → ¬ ofRows K20 R20 b → w26.heap[b]? = w.heap[b]? from fun b hb g2 g6 g7 g19 g20 => (hb26.block b (Nat.lt_of_lt_of_le hb hbel25.size)).trans (HAP25.out b hb g2 g6 g7 g19 g20))
  have hlt26 := (Array.getElem?_eq_some_iff.1 H26.out).1
  clear c25 HAP25
  have c26 : w26.cell? ⟨bb, 26, none⟩ = some (.slice none 0 0) := by
    rw [Go.Joins.cell_of_block H26.out 26, List.getElem?_toArray, List.getElem?_map, List.getElem?_range (by decide), ← (HBG.out.nil 26 (HBG.out.unused 26 rfl))]; rfl
  go_wp2_with fail
  refine (flatNil_Sessions _).mono ?_
  rintro e w27 ⟨rfl, hb27⟩
  have H27 := Lib.hid ((hb27.block bb hlt26).trans H26.out)
  have hbel27 := hbel26.trans (hb27.mono (Nat.le_trans hB hbel26.size))
  have HAP27 := Lib.hid (show ∀ b, b < w.heap.size → ¬ ofRows K2 R2 b → ¬ ofRows K6 R6 b → ¬ ofRows K7 R7 b → ¬ ofRows K19 R19 b → ¬ ofRows K20 R20 b → w27.heap[b]? = w.heap[b]? from fun b hb g2 g6 g7 g19 g20 => (hb27.block b (Nat.lt_of_lt_of_le hb hbel26.size)).trans (HAP26.out b hb g2 g6 g7 g19 g20))
  have hlt27 := (Array.getElem?_eq_some_iff.1 H27.out).1
  clear c26 HAP26
  have c27 : w27.cell? ⟨bb, 27, none⟩ = some (.slice none 0 0) := by
    rw [Go.Joins.cell_of_block H27.out 27, List.getElem?_toArray, List.getElem?_map, List.getElem?_range (by decide), ← (HBG.out.nil 27 (HBG.out.unused 27 rfl))]; rfl
  go_wp2_with fail
  refine (flatNil_Machines _).mono ?_
  rintro e w28 ⟨rfl, hb28⟩
  have H28 := Lib.hid ((hb28.block bb hlt27).trans H27.out)
  have hbel28 := hbel27.trans (hb28.mono (Nat.le_trans hB hbel27.size))
  have HAP28 := Lib.hid (show ∀ b, b < w.heap.size → ¬ ofRows K2 R2 b → ¬ ofRows K6 R6 b → ¬ ofRows K7 R7 b → ¬ ofRows K19 R19 b → ¬ ofRows K20 R20 b → w28.heap[b]? = w.heap[b]? from fun b hb g2 g6 g7 g19 g20 => (hb28.block b (Nat.lt_of_lt_of_le hb hbel27.size)).trans (HAP27.out b hb g2 g6 g7 g19 g20))
  have hlt28 := (Array.getElem?_eq_some_iff.1 H28.out).1
  clear c27 HAP27
  have c28 : w28.cell? ⟨bb, 28, none⟩ = some (.slice none 0 0) := by
    rw [Go.Joins.cell_of_block H28.out 28, List.getElem?_toArray, List.getElem?_map, List.getElem?_range (by decide), ← (HBG.out.nil 28 (HBG.out.unused 28 rfl))]; rfl
  go_wp2_with fail
  refine (flatNil_Frames _).mono ?_
  rintro e w29 ⟨rfl, hb29⟩
  have H29 := Lib.hid ((hb29.block bb hlt28).trans H28.out)
  have hbel29 := hbel28.trans (hb29.mono (Nat.le_trans hB hbel28.size))
  have HAP29 := Lib.hid (show ∀ b, b < w.heap.size → ¬ ofRows K2 R2 b → ¬ ofRows K6 R6 b → ¬ ofRows K7 R7 b → ¬ ofRows K19 R19 b → ¬ ofRows K20 R20 b → w29.heap[b]? = w.heap[b]? from fun b hb g2 g6 g7 g19 g20 => (hb29.block b (Nat.lt_of_lt_of_le hb hbel28.size)).trans (HAP28.out b hb g2 g6 g7 g19 g20))
  have hlt29 := (Array.getElem?_eq_some_iff.1 H29.out).1
  clear c28 HAP28
  go_wp2_with fail
  go_ret
  exact ⟨rfl, hbel29, HAP29.out⟩
end Go.Proofs.YtnfldkebjeigiaaGreatDoor
