/- The reader of the document's answer: Fact. Conditions: its bytes lie as their reading says. -/
import Derived.Test.YtpjaghaapmbanaaDoorRef4
namespace Go.Proofs.YtpjaghaapmbanaaDoor
open Go.RowKit
set_option maxRecDepth 20000

set_option maxHeartbeats 8000000 in
theorem rFact_any (M db : Nat) (bad : Bool) (left : List Int) (r : FaP × Bool × List Int) (w : World) (hr : factS bad left = r) (h : Ref w M db bad left) (hw : BytesWf left) :
    Calls Tryd.prog 51 #[.pointer (some ⟨db, 0, none⟩)] w fun e w' => ∃ f : Fa, f.plain = r.1 ∧ e = .returned (faVal f) ∧ (VasOwn w' w.heap.size f.ao f.args.length f.cap f.args) ∧ Ref w' M db r.2.1 r.2.2 ∧ Only db w w' := by
  have hdb := h.lt
  have hM := h.le
  obtain ⟨⟨x0, b_0, l_0⟩, h_0⟩ : ∃ r, numS bad left = r := ⟨_, rfl⟩
  have q_0 := numS_shrinks bad left hw
  rw [h_0] at q_0
  dsimp only at q_0
  obtain ⟨⟨x1, b_1, l_1⟩, h_1⟩ : ∃ r, numS b_0 l_0 = r := ⟨_, rfl⟩
  have q_1 := numS_shrinks b_0 l_0 q_0.1
  rw [h_1] at q_1
  dsimp only at q_1
  obtain ⟨⟨x2, b_2, l_2⟩, h_2⟩ : ∃ r, valuesS b_1 l_1 = r := ⟨_, rfl⟩
  have q_2 := valuesS_shrinks b_1 l_1 q_1.1
  rw [h_2] at q_2
  dsimp only at q_2
  have HS := Lib.hid (show (if b_2 = true then ⟨0, 0, []⟩ else ⟨x0, x1, x2⟩, b_2, l_2) = r by rw [← hr]; unfold factS; dsimp only; simp only [h_0, h_1, h_2])
  have HH0 := Lib.hid h_0
  have HW0 := Lib.hid q_0.1
  have HH1 := Lib.hid h_1
  have HW1 := Lib.hid q_1.1
  have HH2 := Lib.hid h_2
  have HW2 := Lib.hid q_2.1
  have HW := Lib.hid hw
  clear hr h_0 q_0 h_1 q_1 h_2 q_2
  have hA := (Below.refl w.heap.size w).alloc (Nat.le_refl _) (.cells #[.int .i64 0, .int .i64 0, .slice none 0 0] 53)
  have hA2 := (Below.refl (w.alloc (.cells #[.int .i64 0, .int .i64 0, .slice none 0 0] 53)).heap.size (w.alloc (.cells #[.int .i64 0, .int .i64 0, .slice none 0 0] 53))).alloc (Nat.le_refl _) (.cells #[.int .i64 0, .int .i64 0, .slice none 0 0] 53)
  have R0 := Lib.hid ((h.below hA).below hA2)
  have O0 := Lib.hid (((Only.refl db w).alloc (.cells #[.int .i64 0, .int .i64 0, .slice none 0 0] 53)).alloc (.cells #[.int .i64 0, .int .i64 0, .slice none 0 0] 53))
  have Z0 := Lib.hid ((hA2.block w.heap.size (by simp)).trans (heap_alloc_new w (.cells #[.int .i64 0, .int .i64 0, .slice none 0 0] 53)))
  have hG0 := heap_alloc_new (w.alloc (.cells #[.int .i64 0, .int .i64 0, .slice none 0 0] 53)) (.cells #[.int .i64 0, .int .i64 0, .slice none 0 0] 53)
  rw [World.size_alloc] at hG0
  have G0 := Lib.hid hG0
  have hz0 : w.heap.size + 2 ≤ ((w.alloc (.cells #[.int .i64 0, .int .i64 0, .slice none 0 0] 53)).alloc (.cells #[.int .i64 0, .int .i64 0, .slice none 0 0] 53)).heap.size := by simp
  clear h hA hA2 hG0
  go_enter Tryd.func51, Tryd.ntmps51
  go_wp2_with fail
  generalize (w.alloc (.cells #[.int .i64 0, .int .i64 0, .slice none 0 0] 53)).alloc (.cells #[.int .i64 0, .int .i64 0, .slice none 0 0] 53) = w0 at R0 O0 Z0 G0 hz0 ⊢
  refine (rnum_any M db bad left x0 b_0 l_0 w0 HH0.out R0.out HW.out).mono ?_
  rintro e w1 ⟨rfl, hr, ho⟩
  have R1 := Lib.hid hr
  have O1 := Lib.hid (O0.out.trans ho)
  have hs1 := ho.1
  have hz1 : w.heap.size + 2 ≤ w1.heap.size := Nat.le_trans hz0 hs1
  have Z1 := Lib.hid ((ho.2 w.heap.size (by omega) (by omega)).trans Z0.out)
  have G1 := Lib.hid ((ho.2 (w.heap.size + 1) (by omega) (by omega)).trans G0.out)
  clear hr ho R0 O0 Z0 G0 
  have f0 : w1.frozen? ⟨w.heap.size + 1, 0, none⟩ = false := Go.Joins.unfrozen_of_block G1.out 0
  have e0 : w1.cell? ⟨w.heap.size + 1, 0, none⟩ = some (.int .i64 0) := Go.Joins.cell_of_block G1.out 0
  go_wp2_with fail
  have q : (w1.setCell ⟨w.heap.size + 1, 0, none⟩ (.int .i64 x0)).heap[w.heap.size + 1]? = some (.cells #[.int .i64 x0, .int .i64 0, .slice none 0 0] 53 (0, 0)) := (Go.Joins.block_setCell (i := 0) G1.out (.int .i64 x0))
  have r_ : Ref (w1.setCell ⟨w.heap.size + 1, 0, none⟩ (.int .i64 x0)) M db b_0 l_0 := (R1.out.other (g := w.heap.size + 1) (i := 0) (by omega) (by omega) (.int .i64 x0))
  have o_ : Only db w (w1.setCell ⟨w.heap.size + 1, 0, none⟩ (.int .i64 x0)) := (O1.out.new (g := w.heap.size + 1) (i := 0) (by omega) (.int .i64 x0))
  have z_ : (w1.setCell ⟨w.heap.size + 1, 0, none⟩ (.int .i64 x0)).heap[w.heap.size]? = some (.cells #[.int .i64 0, .int .i64 0, .slice none 0 0] 53 (0, 0)) := ((heap_setCell_other _ ⟨w.heap.size + 1, 0, none⟩ _ (.int .i64 x0) (show w.heap.size ≠ w.heap.size + 1 by omega)).trans Z1.out)
  have hz_ : w.heap.size + 2 ≤ (w1.setCell ⟨w.heap.size + 1, 0, none⟩ (.int .i64 x0)).heap.size := by simpa using hz1
  generalize (w1.setCell ⟨w.heap.size + 1, 0, none⟩ (.int .i64 x0)) = w2 at q r_ o_ z_ hz_  ⊢
  have G2 := Lib.hid q
  have R2 := Lib.hid r_
  have O2 := Lib.hid o_
  have Z2 := Lib.hid z_
  have hz2 : w.heap.size + 2 ≤ w2.heap.size := hz_
  clear q r_ o_ z_ hz_  f0 e0 R1 O1 Z1 G1 
  refine (rnum_any M db b_0 l_0 x1 b_1 l_1 w2 HH1.out R2.out HW0.out).mono ?_
  rintro e w3 ⟨rfl, hr, ho⟩
  have R3 := Lib.hid hr
  have O3 := Lib.hid (O2.out.trans ho)
  have hs3 := ho.1
  have hz3 : w.heap.size + 2 ≤ w3.heap.size := Nat.le_trans hz2 hs3
  have Z3 := Lib.hid ((ho.2 w.heap.size (by omega) (by omega)).trans Z2.out)
  have G3 := Lib.hid ((ho.2 (w.heap.size + 1) (by omega) (by omega)).trans G2.out)
  clear hr ho R2 O2 Z2 G2 
  have f1 : w3.frozen? ⟨w.heap.size + 1, 1, none⟩ = false := Go.Joins.unfrozen_of_block G3.out 1
  have e1 : w3.cell? ⟨w.heap.size + 1, 1, none⟩ = some (.int .i64 0) := Go.Joins.cell_of_block G3.out 1
  go_wp2_with fail
  have q : (w3.setCell ⟨w.heap.size + 1, 1, none⟩ (.int .i64 x1)).heap[w.heap.size + 1]? = some (.cells #[.int .i64 x0, .int .i64 x1, .slice none 0 0] 53 (0, 0)) := (Go.Joins.block_setCell (i := 1) G3.out (.int .i64 x1))
  have r_ : Ref (w3.setCell ⟨w.heap.size + 1, 1, none⟩ (.int .i64 x1)) M db b_1 l_1 := (R3.out.other (g := w.heap.size + 1) (i := 1) (by omega) (by omega) (.int .i64 x1))
  have o_ : Only db w (w3.setCell ⟨w.heap.size + 1, 1, none⟩ (.int .i64 x1)) := (O3.out.new (g := w.heap.size + 1) (i := 1) (by omega) (.int .i64 x1))
  have z_ : (w3.setCell ⟨w.heap.size + 1, 1, none⟩ (.int .i64 x1)).heap[w.heap.size]? = some (.cells #[.int .i64 0, .int .i64 0, .slice none 0 0] 53 (0, 0)) := ((heap_setCell_other _ ⟨w.heap.size + 1, 1, none⟩ _ (.int .i64 x1) (show w.heap.size ≠ w.heap.size + 1 by omega)).trans Z3.out)
  have hz_ : w.heap.size + 2 ≤ (w3.setCell ⟨w.heap.size + 1, 1, none⟩ (.int .i64 x1)).heap.size := by simpa using hz3
  generalize (w3.setCell ⟨w.heap.size + 1, 1, none⟩ (.int .i64 x1)) = w4 at q r_ o_ z_ hz_  ⊢
  have G4 := Lib.hid q
  have R4 := Lib.hid r_
  have O4 := Lib.hid o_
  have Z4 := Lib.hid z_
  have hz4 : w.heap.size + 2 ≤ w4.heap.size := hz_
  clear q r_ o_ z_ hz_  f1 e1 R3 O3 Z3 G3 
  refine (rvalues_any M db b_1 l_1 x2 b_2 l_2 w4 HH2.out R4.out HW1.out).mono ?_
  rintro e w5 ⟨a2, n2, c2, hn2, rfl, hown, hr, ho⟩
  have N2 := Lib.hid hn2
  have W2_5 := Lib.hid (hown.le (base' := w.heap.size + 2) hz4)
  clear hown hn2
  have R5 := Lib.hid hr
  have O5 := Lib.hid (O4.out.trans ho)
  have hs5 := ho.1
  have hz5 : w.heap.size + 2 ≤ w5.heap.size := Nat.le_trans hz4 hs5
  have Z5 := Lib.hid ((ho.2 w.heap.size (by omega) (by omega)).trans Z4.out)
  have G5 := Lib.hid ((ho.2 (w.heap.size + 1) (by omega) (by omega)).trans G4.out)
  clear hr ho R4 O4 Z4 G4 
  have f2 : w5.frozen? ⟨w.heap.size + 1, 2, none⟩ = false := Go.Joins.unfrozen_of_block G5.out 2
  have e0 : w5.cell? ⟨w.heap.size + 1, 0, none⟩ = some (.int .i64 x0) := Go.Joins.cell_of_block G5.out 0
  have e1 : w5.cell? ⟨w.heap.size + 1, 1, none⟩ = some (.int .i64 x1) := Go.Joins.cell_of_block G5.out 1
  have e2 : w5.cell? ⟨w.heap.size + 1, 2, none⟩ = some (.slice none 0 0) := Go.Joins.cell_of_block G5.out 2
  have g0 : w5.frozen? ⟨w.heap.size, 0, none⟩ = false := Go.Joins.unfrozen_of_block Z5.out 0
  have g1 : w5.frozen? ⟨w.heap.size, 1, none⟩ = false := Go.Joins.unfrozen_of_block Z5.out 1
  have g2 : w5.frozen? ⟨w.heap.size, 2, none⟩ = false := Go.Joins.unfrozen_of_block Z5.out 2
  have hbc : ∀ u, (w5.setCell ⟨w.heap.size + 1, 2, none⟩ u).cell? ⟨db, 2, none⟩ = some (.bool b_2) := fun u => (R5.out.other (g := w.heap.size + 1) (i := 2) (by omega) (by omega) u).badCell.1
  have z0 : ∀ u, (w5.setCell ⟨w.heap.size + 1, 2, none⟩ u).cell? ⟨w.heap.size, 0, none⟩ = some (.int .i64 0) := fun u => Go.Joins.cell_of_block ((heap_setCell_other _ ⟨w.heap.size + 1, 2, none⟩ _ u (show w.heap.size ≠ w.heap.size + 1 by omega)).trans Z5.out) 0
  have z1 : ∀ u, (w5.setCell ⟨w.heap.size + 1, 2, none⟩ u).cell? ⟨w.heap.size, 1, none⟩ = some (.int .i64 0) := fun u => Go.Joins.cell_of_block ((heap_setCell_other _ ⟨w.heap.size + 1, 2, none⟩ _ u (show w.heap.size ≠ w.heap.size + 1 by omega)).trans Z5.out) 1
  have z2 : ∀ u, (w5.setCell ⟨w.heap.size + 1, 2, none⟩ u).cell? ⟨w.heap.size, 2, none⟩ = some (.slice none 0 0) := fun u => Go.Joins.cell_of_block ((heap_setCell_other _ ⟨w.heap.size + 1, 2, none⟩ _ u (show w.heap.size ≠ w.heap.size + 1 by omega)).trans Z5.out) 2
  cases b_2 with
  | true =>
    go_wp2_with fail
    have q : ((((w5.setCell ⟨w.heap.size + 1, 2, none⟩ (.slice a2 n2 c2)).setCell ⟨w.heap.size, 0, none⟩ (.int .i64 0)).setCell ⟨w.heap.size, 1, none⟩ (.int .i64 0)).setCell ⟨w.heap.size, 2, none⟩ (.slice none 0 0)).heap[w.heap.size]? = some (.cells #[.int .i64 0, .int .i64 0, .slice none 0 0] 53 (0, 0)) := (Go.Joins.block_setCell (i := 2) (Go.Joins.block_setCell (i := 1) (Go.Joins.block_setCell (i := 0) ((heap_setCell_other _ ⟨w.heap.size + 1, 2, none⟩ _ (.slice a2 n2 c2) (show w.heap.size ≠ w.heap.size + 1 by omega)).trans Z5.out) (.int .i64 0)) (.int .i64 0)) (.slice none 0 0))
    have r_ : Ref ((((w5.setCell ⟨w.heap.size + 1, 2, none⟩ (.slice a2 n2 c2)).setCell ⟨w.heap.size, 0, none⟩ (.int .i64 0)).setCell ⟨w.heap.size, 1, none⟩ (.int .i64 0)).setCell ⟨w.heap.size, 2, none⟩ (.slice none 0 0)) M db _ l_2 := ((((R5.out.other (g := w.heap.size + 1) (i := 2) (by omega) (by omega) (.slice a2 n2 c2)).other (g := w.heap.size) (i := 0) hM (by omega) (.int .i64 0)).other (g := w.heap.size) (i := 1) hM (by omega) (.int .i64 0)).other (g := w.heap.size) (i := 2) hM (by omega) (.slice none 0 0))
    have o_ : Only db w ((((w5.setCell ⟨w.heap.size + 1, 2, none⟩ (.slice a2 n2 c2)).setCell ⟨w.heap.size, 0, none⟩ (.int .i64 0)).setCell ⟨w.heap.size, 1, none⟩ (.int .i64 0)).setCell ⟨w.heap.size, 2, none⟩ (.slice none 0 0)) := ((((O5.out.new (g := w.heap.size + 1) (i := 2) (by omega) (.slice a2 n2 c2)).new (g := w.heap.size) (i := 0) (Nat.le_refl _) (.int .i64 0)).new (g := w.heap.size) (i := 1) (Nat.le_refl _) (.int .i64 0)).new (g := w.heap.size) (i := 2) (Nat.le_refl _) (.slice none 0 0))
    have v2_ := ((((W2_5.out.only (Only.set (w.heap.size + 1) _ 2 (.slice a2 n2 c2)) (by omega)).only (Only.set w.heap.size _ 0 (.int .i64 0)) (by omega)).only (Only.set w.heap.size _ 1 (.int .i64 0)) (by omega)).only (Only.set w.heap.size _ 2 (.slice none 0 0)) (by omega))
    generalize ((((w5.setCell ⟨w.heap.size + 1, 2, none⟩ (.slice a2 n2 c2)).setCell ⟨w.heap.size, 0, none⟩ (.int .i64 0)).setCell ⟨w.heap.size, 1, none⟩ (.int .i64 0)).setCell ⟨w.heap.size, 2, none⟩ (.slice none 0 0)) = w99 at q r_ o_ v2_ ⊢
    have d0 : w99.cell? ⟨w.heap.size, 0, none⟩ = some (.int .i64 0) := Go.Joins.cell_of_block q 0
    have d1 : w99.cell? ⟨w.heap.size, 1, none⟩ = some (.int .i64 0) := Go.Joins.cell_of_block q 1
    have d2 : w99.cell? ⟨w.heap.size, 2, none⟩ = some (.slice none 0 0) := Go.Joins.cell_of_block q 2
    have hS := HS.out
    try simp only [if_true, if_false, Bool.false_eq_true, reduceIte] at hS
    subst hS
    exact bodyPost_ret (v := .agg #[.int .i64 0, .int .i64 0, .slice none 0 0]) (by simp [results, Tryd.results51, go_sem, d0, d1, d2]) rfl ⟨⟨0, 0, none, [], 0⟩, rfl, rfl, VasOwn.nil _ _, r_, o_⟩
  | false =>
    go_wp2_with fail
    have q : ((((w5.setCell ⟨w.heap.size + 1, 2, none⟩ (.slice a2 n2 c2)).setCell ⟨w.heap.size, 0, none⟩ (.int .i64 x0)).setCell ⟨w.heap.size, 1, none⟩ (.int .i64 x1)).setCell ⟨w.heap.size, 2, none⟩ (.slice a2 n2 c2)).heap[w.heap.size]? = some (.cells #[.int .i64 x0, .int .i64 x1, .slice a2 n2 c2] 53 (0, 0)) := (Go.Joins.block_setCell (i := 2) (Go.Joins.block_setCell (i := 1) (Go.Joins.block_setCell (i := 0) ((heap_setCell_other _ ⟨w.heap.size + 1, 2, none⟩ _ (.slice a2 n2 c2) (show w.heap.size ≠ w.heap.size + 1 by omega)).trans Z5.out) (.int .i64 x0)) (.int .i64 x1)) (.slice a2 n2 c2))
    have r_ : Ref ((((w5.setCell ⟨w.heap.size + 1, 2, none⟩ (.slice a2 n2 c2)).setCell ⟨w.heap.size, 0, none⟩ (.int .i64 x0)).setCell ⟨w.heap.size, 1, none⟩ (.int .i64 x1)).setCell ⟨w.heap.size, 2, none⟩ (.slice a2 n2 c2)) M db _ l_2 := ((((R5.out.other (g := w.heap.size + 1) (i := 2) (by omega) (by omega) (.slice a2 n2 c2)).other (g := w.heap.size) (i := 0) hM (by omega) (.int .i64 x0)).other (g := w.heap.size) (i := 1) hM (by omega) (.int .i64 x1)).other (g := w.heap.size) (i := 2) hM (by omega) (.slice a2 n2 c2))
    have o_ : Only db w ((((w5.setCell ⟨w.heap.size + 1, 2, none⟩ (.slice a2 n2 c2)).setCell ⟨w.heap.size, 0, none⟩ (.int .i64 x0)).setCell ⟨w.heap.size, 1, none⟩ (.int .i64 x1)).setCell ⟨w.heap.size, 2, none⟩ (.slice a2 n2 c2)) := ((((O5.out.new (g := w.heap.size + 1) (i := 2) (by omega) (.slice a2 n2 c2)).new (g := w.heap.size) (i := 0) (Nat.le_refl _) (.int .i64 x0)).new (g := w.heap.size) (i := 1) (Nat.le_refl _) (.int .i64 x1)).new (g := w.heap.size) (i := 2) (Nat.le_refl _) (.slice a2 n2 c2))
    have v2_ := ((((W2_5.out.only (Only.set (w.heap.size + 1) _ 2 (.slice a2 n2 c2)) (by omega)).only (Only.set w.heap.size _ 0 (.int .i64 x0)) (by omega)).only (Only.set w.heap.size _ 1 (.int .i64 x1)) (by omega)).only (Only.set w.heap.size _ 2 (.slice a2 n2 c2)) (by omega))
    generalize ((((w5.setCell ⟨w.heap.size + 1, 2, none⟩ (.slice a2 n2 c2)).setCell ⟨w.heap.size, 0, none⟩ (.int .i64 x0)).setCell ⟨w.heap.size, 1, none⟩ (.int .i64 x1)).setCell ⟨w.heap.size, 2, none⟩ (.slice a2 n2 c2)) = w99 at q r_ o_ v2_ ⊢
    have d0 : w99.cell? ⟨w.heap.size, 0, none⟩ = some (.int .i64 x0) := Go.Joins.cell_of_block q 0
    have d1 : w99.cell? ⟨w.heap.size, 1, none⟩ = some (.int .i64 x1) := Go.Joins.cell_of_block q 1
    have d2 : w99.cell? ⟨w.heap.size, 2, none⟩ = some (.slice a2 n2 c2) := Go.Joins.cell_of_block q 2
    have hS := HS.out
    try simp only [if_true, if_false, Bool.false_eq_true, reduceIte] at hS
    subst hS
    obtain rfl := N2.out
    have v29 := v2_.le (base' := w.heap.size) (by omega)
    exact bodyPost_ret (v := .agg #[.int .i64 x0, .int .i64 x1, .slice a2 x2.length c2]) (by simp [results, Tryd.results51, go_sem, d0, d1, d2]) rfl ⟨⟨x0, x1, a2, x2, c2⟩, rfl, rfl, v29, r_, o_⟩
end Go.Proofs.YtpjaghaapmbanaaDoor
