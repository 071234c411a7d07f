/- The reader of the document's answer: Command. Conditions: its bytes lie as their reading says. -/
import Derived.Test.YtnhnabcpkaeaaaaGreatDoorGWalReads17
set_option linter.unusedVariables false
set_option linter.unusedSimpArgs false
namespace Go.Proofs.YtnhnabcpkaeaaaaGreatDoor
open Go.RowKit
set_option maxRecDepth 20000
set_option maxHeartbeats 8000000 in
theorem rrCommand_any (M db : Nat) (bad : Bool) (left : List Int) (r : CmP × Bool × List Int) (w : World) (hr : commandS bad left = r) (h : Ref w M db bad left) (hw : BytesWf left) :
    Calls Tryz.prog 107 #[.pointer (some ⟨db, 0, none⟩)] w fun e w' => ∃ f : Cm, f.plain = r.1 ∧ e = .returned (cmVal f) ∧ (VasOwn w' w.heap.size f.ao f.args.length f.cap f.args) ∧ Ref w' M db r.2.1 r.2.2 ∧ Only db w w' := by
  have hdb := h.lt
  have hM := h.le
  obtain ⟨⟨x0, b_0, l_0⟩, h_0⟩ : ∃ r, kindS bad left = r := ⟨_, rfl⟩
  have q_0 := kindS_shrinks bad left hw
  rw [h_0] at q_0
  dsimp only at q_0
  have hk0 : 0 ≤ x0 ∧ x0 < 256 := by
    have h1 := getN_small (takeS_wf (n := 1) (bad := bad) (left := left) hw).1 (takeS_wf (n := 1) (bad := bad) (left := left) hw).2.2.1
    have h2 : getN (takeS 1 bad left).1 = x0 := congrArg Prod.fst h_0
    rw [h2] at h1
    exact h1
  have hu0 : IntKind.u8.wrap x0 = x0 := by
    unfold IntKind.wrap
    simp [IntKind.signed, IntKind.bits]
    omega
  have hkt0 : ∀ w1 : World, Ref w1 M db bad left → Calls Tryz.prog 106 #[.pointer (some ⟨db, 0, none⟩), .int .i64 1] w1 (RSaidAt M db x0 b_0 l_0 w1) := fun w1 hr => by
    have h1 := rsaid_any M db 1 bad left w1 hr hw (by omega)
    have h2 : getN (takeS 1 bad left).1 = x0 := congrArg Prod.fst h_0
    have h3 : (takeS 1 bad left).2 = (b_0, l_0) := congrArg Prod.snd h_0
    rw [h2, h3] at h1
    exact h1
  have HKT0 := Lib.hid hkt0
  obtain ⟨⟨x1, b_1, l_1⟩, h_1⟩ : ∃ r, textS b_0 l_0 = r := ⟨_, rfl⟩
  have q_1 := textS_shrinks b_0 l_0 q_0.1
  rw [h_1] at q_1
  dsimp only at q_1
  obtain ⟨⟨x3, b_2, l_2⟩, h_2⟩ : ∃ r, numS b_1 l_1 = r := ⟨_, rfl⟩
  have q_2 := numS_shrinks b_1 l_1 q_1.1
  rw [h_2] at q_2
  dsimp only at q_2
  obtain ⟨⟨x2, b_3, l_3⟩, h_3⟩ : ∃ r, valuesS b_2 l_2 = r := ⟨_, rfl⟩
  have q_3 := valuesS_shrinks b_2 l_2 q_2.1
  rw [h_3] at q_3
  dsimp only at q_3
  have HS := Lib.hid (show (if b_3 = true then ⟨0, ByteArray.empty, [], 0⟩ else ⟨x0, x1, x2, x3⟩, b_3, l_3) = r by rw [← hr]; unfold commandS; dsimp only; simp only [h_0, h_1, h_2, h_3])
  have HH0 := Lib.hid h_0
  have HW0 := Lib.hid q_0.1
  have HH1 := Lib.hid h_1
  have HW1 := Lib.hid q_1.1
  have HH2 := Lib.hid h_2
  have HW2 := Lib.hid q_2.1
  have HH3 := Lib.hid h_3
  have HW3 := Lib.hid q_3.1
  clear hr hw h_0 q_0 hkt0 h_1 q_1 h_2 q_2 h_3 q_3
  have hA := (Below.refl w.heap.size w).alloc (Nat.le_refl _) (.cells #[.int .u8 0, .string ⟨#[]⟩, .slice none 0 0, .int .i64 0] 57)
  have hA2 := (Below.refl (w.alloc (.cells #[.int .u8 0, .string ⟨#[]⟩, .slice none 0 0, .int .i64 0] 57)).heap.size (w.alloc (.cells #[.int .u8 0, .string ⟨#[]⟩, .slice none 0 0, .int .i64 0] 57))).alloc (Nat.le_refl _) (.cells #[.int .u8 0, .string ⟨#[]⟩, .slice none 0 0, .int .i64 0] 57)
  have R0 := Lib.hid ((h.below hA).below hA2)
  have O0 := Lib.hid (((Only.refl db w).alloc (.cells #[.int .u8 0, .string ⟨#[]⟩, .slice none 0 0, .int .i64 0] 57)).alloc (.cells #[.int .u8 0, .string ⟨#[]⟩, .slice none 0 0, .int .i64 0] 57))
  have Z0 := Lib.hid ((hA2.block w.heap.size (by simp)).trans (heap_alloc_new w (.cells #[.int .u8 0, .string ⟨#[]⟩, .slice none 0 0, .int .i64 0] 57)))
  have hG0 := heap_alloc_new (w.alloc (.cells #[.int .u8 0, .string ⟨#[]⟩, .slice none 0 0, .int .i64 0] 57)) (.cells #[.int .u8 0, .string ⟨#[]⟩, .slice none 0 0, .int .i64 0] 57)
  rw [World.size_alloc] at hG0
  have G0 := Lib.hid hG0
  have hz0 : w.heap.size + 2 ≤ ((w.alloc (.cells #[.int .u8 0, .string ⟨#[]⟩, .slice none 0 0, .int .i64 0] 57)).alloc (.cells #[.int .u8 0, .string ⟨#[]⟩, .slice none 0 0, .int .i64 0] 57)).heap.size := by simp
  clear h hA hA2 hG0
  go_enter Tryz.func107, Tryz.ntmps107
  go_wp2_with fail
  generalize (w.alloc (.cells #[.int .u8 0, .string ⟨#[]⟩, .slice none 0 0, .int .i64 0] 57)).alloc (.cells #[.int .u8 0, .string ⟨#[]⟩, .slice none 0 0, .int .i64 0] 57) = w0 at R0 O0 Z0 G0 hz0 ⊢
  refine (HKT0.out w0 R0.out).mono ?_
  rintro e w1 ⟨rfl, hr, ho⟩
  have R1 := Lib.hid hr
  have O1 := Lib.hid (O0.out.trans ho)
  have hs1 := ho.1
  have hz1 : w.heap.size + 2 ≤ w1.heap.size := Nat.le_trans hz0 hs1
  have Z1 := Lib.hid ((ho.2 w.heap.size (by omega) (by omega)).trans Z0.out)
  have G1 := Lib.hid ((ho.2 (w.heap.size + 1) (by omega) (by omega)).trans G0.out)
  clear hr ho R0 O0 Z0 G0 
  have f0 : w1.frozen? ⟨w.heap.size + 1, 0, none⟩ = false := Go.Joins.unfrozen_of_block G1.out 0
  have e0 : w1.cell? ⟨w.heap.size + 1, 0, none⟩ = some (.int .u8 0) := Go.Joins.cell_of_block G1.out 0
  go_wp2_with fail
  have q : (w1.setCell ⟨w.heap.size + 1, 0, none⟩ (.int .u8 x0)).heap[w.heap.size + 1]? = some (.cells #[.int .u8 x0, .string ⟨#[]⟩, .slice none 0 0, .int .i64 0] 57 (0, 0)) := (Go.Joins.block_setCell (i := 0) G1.out (.int .u8 x0))
  have r_ : Ref (w1.setCell ⟨w.heap.size + 1, 0, none⟩ (.int .u8 x0)) M db b_0 l_0 := (R1.out.other (g := w.heap.size + 1) (i := 0) (by omega) (by omega) (.int .u8 x0))
  have o_ : Only db w (w1.setCell ⟨w.heap.size + 1, 0, none⟩ (.int .u8 x0)) := (O1.out.new (g := w.heap.size + 1) (i := 0) (by omega) (.int .u8 x0))
  have z_ : (w1.setCell ⟨w.heap.size + 1, 0, none⟩ (.int .u8 x0)).heap[w.heap.size]? = some (.cells #[.int .u8 0, .string ⟨#[]⟩, .slice none 0 0, .int .i64 0] 57 (0, 0)) := ((heap_setCell_other _ ⟨w.heap.size + 1, 0, none⟩ _ (.int .u8 x0) (show w.heap.size ≠ w.heap.size + 1 by omega)).trans Z1.out)
  have hz_ : w.heap.size + 2 ≤ (w1.setCell ⟨w.heap.size + 1, 0, none⟩ (.int .u8 x0)).heap.size := by simpa using hz1
  generalize (w1.setCell ⟨w.heap.size + 1, 0, none⟩ (.int .u8 x0)) = w2 at q r_ o_ z_ hz_  ⊢
  have G2 := Lib.hid q
  have R2 := Lib.hid r_
  have O2 := Lib.hid o_
  have Z2 := Lib.hid z_
  have hz2 : w.heap.size + 2 ≤ w2.heap.size := hz_
  clear q r_ o_ z_ hz_  f0 e0 R1 O1 Z1 G1 
  refine (rtext_any M db b_0 l_0 x1 b_1 l_1 w2 HH1.out R2.out HW0.out).mono ?_
  rintro e w3 ⟨rfl, hr, ho⟩
  have R3 := Lib.hid hr
  have O3 := Lib.hid (O2.out.trans ho)
  have hs3 := ho.1
  have hz3 : w.heap.size + 2 ≤ w3.heap.size := Nat.le_trans hz2 hs3
  have Z3 := Lib.hid ((ho.2 w.heap.size (by omega) (by omega)).trans Z2.out)
  have G3 := Lib.hid ((ho.2 (w.heap.size + 1) (by omega) (by omega)).trans G2.out)
  clear hr ho R2 O2 Z2 G2 
  have f1 : w3.frozen? ⟨w.heap.size + 1, 1, none⟩ = false := Go.Joins.unfrozen_of_block G3.out 1
  have e1 : w3.cell? ⟨w.heap.size + 1, 1, none⟩ = some (.string ⟨#[]⟩) := Go.Joins.cell_of_block G3.out 1
  go_wp2_with fail
  have q : (w3.setCell ⟨w.heap.size + 1, 1, none⟩ (.string x1)).heap[w.heap.size + 1]? = some (.cells #[.int .u8 x0, .string x1, .slice none 0 0, .int .i64 0] 57 (0, 0)) := (Go.Joins.block_setCell (i := 1) G3.out (.string x1))
  have r_ : Ref (w3.setCell ⟨w.heap.size + 1, 1, none⟩ (.string x1)) M db b_1 l_1 := (R3.out.other (g := w.heap.size + 1) (i := 1) (by omega) (by omega) (.string x1))
  have o_ : Only db w (w3.setCell ⟨w.heap.size + 1, 1, none⟩ (.string x1)) := (O3.out.new (g := w.heap.size + 1) (i := 1) (by omega) (.string x1))
  have z_ : (w3.setCell ⟨w.heap.size + 1, 1, none⟩ (.string x1)).heap[w.heap.size]? = some (.cells #[.int .u8 0, .string ⟨#[]⟩, .slice none 0 0, .int .i64 0] 57 (0, 0)) := ((heap_setCell_other _ ⟨w.heap.size + 1, 1, none⟩ _ (.string x1) (show w.heap.size ≠ w.heap.size + 1 by omega)).trans Z3.out)
  have hz_ : w.heap.size + 2 ≤ (w3.setCell ⟨w.heap.size + 1, 1, none⟩ (.string x1)).heap.size := by simpa using hz3
  generalize (w3.setCell ⟨w.heap.size + 1, 1, none⟩ (.string x1)) = w4 at q r_ o_ z_ hz_  ⊢
  have G4 := Lib.hid q
  have R4 := Lib.hid r_
  have O4 := Lib.hid o_
  have Z4 := Lib.hid z_
  have hz4 : w.heap.size + 2 ≤ w4.heap.size := hz_
  clear q r_ o_ z_ hz_  f1 e1 R3 O3 Z3 G3 
  refine (rnum_any M db b_1 l_1 x3 b_2 l_2 w4 HH2.out R4.out HW1.out).mono ?_
  rintro e w5 ⟨rfl, hr, ho⟩
  have R5 := Lib.hid hr
  have O5 := Lib.hid (O4.out.trans ho)
  have hs5 := ho.1
  have hz5 : w.heap.size + 2 ≤ w5.heap.size := Nat.le_trans hz4 hs5
  have Z5 := Lib.hid ((ho.2 w.heap.size (by omega) (by omega)).trans Z4.out)
  have G5 := Lib.hid ((ho.2 (w.heap.size + 1) (by omega) (by omega)).trans G4.out)
  clear hr ho R4 O4 Z4 G4 
  have f3 : w5.frozen? ⟨w.heap.size + 1, 3, none⟩ = false := Go.Joins.unfrozen_of_block G5.out 3
  have e3 : w5.cell? ⟨w.heap.size + 1, 3, none⟩ = some (.int .i64 0) := Go.Joins.cell_of_block G5.out 3
  go_wp2_with fail
  have q : (w5.setCell ⟨w.heap.size + 1, 3, none⟩ (.int .i64 x3)).heap[w.heap.size + 1]? = some (.cells #[.int .u8 x0, .string x1, .slice none 0 0, .int .i64 x3] 57 (0, 0)) := (Go.Joins.block_setCell (i := 3) G5.out (.int .i64 x3))
  have r_ : Ref (w5.setCell ⟨w.heap.size + 1, 3, none⟩ (.int .i64 x3)) M db b_2 l_2 := (R5.out.other (g := w.heap.size + 1) (i := 3) (by omega) (by omega) (.int .i64 x3))
  have o_ : Only db w (w5.setCell ⟨w.heap.size + 1, 3, none⟩ (.int .i64 x3)) := (O5.out.new (g := w.heap.size + 1) (i := 3) (by omega) (.int .i64 x3))
  have z_ : (w5.setCell ⟨w.heap.size + 1, 3, none⟩ (.int .i64 x3)).heap[w.heap.size]? = some (.cells #[.int .u8 0, .string ⟨#[]⟩, .slice none 0 0, .int .i64 0] 57 (0, 0)) := ((heap_setCell_other _ ⟨w.heap.size + 1, 3, none⟩ _ (.int .i64 x3) (show w.heap.size ≠ w.heap.size + 1 by omega)).trans Z5.out)
  have hz_ : w.heap.size + 2 ≤ (w5.setCell ⟨w.heap.size + 1, 3, none⟩ (.int .i64 x3)).heap.size := by simpa using hz5
  generalize (w5.setCell ⟨w.heap.size + 1, 3, none⟩ (.int .i64 x3)) = w6 at q r_ o_ z_ hz_  ⊢
  have G6 := Lib.hid q
  have R6 := Lib.hid r_
  have O6 := Lib.hid o_
  have Z6 := Lib.hid z_
  have hz6 : w.heap.size + 2 ≤ w6.heap.size := hz_
  clear q r_ o_ z_ hz_  f3 e3 R5 O5 Z5 G5 
  refine (rvalues_any M db b_2 l_2 x2 b_3 l_3 w6 HH3.out R6.out HW2.out).mono ?_
  rintro e w7 ⟨a2, n2, c2, hn2, rfl, hown, hr, ho⟩
  have N2 := Lib.hid hn2
  have W2_7 := Lib.hid (hown.le (base' := w.heap.size + 2) hz6)
  clear hown hn2
  have R7 := Lib.hid hr
  have O7 := Lib.hid (O6.out.trans ho)
  have hs7 := ho.1
  have hz7 : w.heap.size + 2 ≤ w7.heap.size := Nat.le_trans hz6 hs7
  have Z7 := Lib.hid ((ho.2 w.heap.size (by omega) (by omega)).trans Z6.out)
  have G7 := Lib.hid ((ho.2 (w.heap.size + 1) (by omega) (by omega)).trans G6.out)
  clear hr ho R6 O6 Z6 G6 
  have f2 : w7.frozen? ⟨w.heap.size + 1, 2, none⟩ = false := Go.Joins.unfrozen_of_block G7.out 2
  have e0 : w7.cell? ⟨w.heap.size + 1, 0, none⟩ = some (.int .u8 x0) := Go.Joins.cell_of_block G7.out 0
  have e1 : w7.cell? ⟨w.heap.size + 1, 1, none⟩ = some (.string x1) := Go.Joins.cell_of_block G7.out 1
  have e2 : w7.cell? ⟨w.heap.size + 1, 2, none⟩ = some (.slice none 0 0) := Go.Joins.cell_of_block G7.out 2
  have e3 : w7.cell? ⟨w.heap.size + 1, 3, none⟩ = some (.int .i64 x3) := Go.Joins.cell_of_block G7.out 3
  have g0 : w7.frozen? ⟨w.heap.size, 0, none⟩ = false := Go.Joins.unfrozen_of_block Z7.out 0
  have g1 : w7.frozen? ⟨w.heap.size, 1, none⟩ = false := Go.Joins.unfrozen_of_block Z7.out 1
  have g2 : w7.frozen? ⟨w.heap.size, 2, none⟩ = false := Go.Joins.unfrozen_of_block Z7.out 2
  have g3 : w7.frozen? ⟨w.heap.size, 3, none⟩ = false := Go.Joins.unfrozen_of_block Z7.out 3
  have hbc : ∀ u, (w7.setCell ⟨w.heap.size + 1, 2, none⟩ u).cell? ⟨db, 2, none⟩ = some (.bool b_3) := fun u => (R7.out.other (g := w.heap.size + 1) (i := 2) (by omega) (by omega) u).badCell.1
  have z0 : ∀ u, (w7.setCell ⟨w.heap.size + 1, 2, none⟩ u).cell? ⟨w.heap.size, 0, none⟩ = some (.int .u8 0) := fun u => Go.Joins.cell_of_block ((heap_setCell_other _ ⟨w.heap.size + 1, 2, none⟩ _ u (show w.heap.size ≠ w.heap.size + 1 by omega)).trans Z7.out) 0
  have z1 : ∀ u, (w7.setCell ⟨w.heap.size + 1, 2, none⟩ u).cell? ⟨w.heap.size, 1, none⟩ = some (.string ⟨#[]⟩) := fun u => Go.Joins.cell_of_block ((heap_setCell_other _ ⟨w.heap.size + 1, 2, none⟩ _ u (show w.heap.size ≠ w.heap.size + 1 by omega)).trans Z7.out) 1
  have z2 : ∀ u, (w7.setCell ⟨w.heap.size + 1, 2, none⟩ u).cell? ⟨w.heap.size, 2, none⟩ = some (.slice none 0 0) := fun u => Go.Joins.cell_of_block ((heap_setCell_other _ ⟨w.heap.size + 1, 2, none⟩ _ u (show w.heap.size ≠ w.heap.size + 1 by omega)).trans Z7.out) 2
  have z3 : ∀ u, (w7.setCell ⟨w.heap.size + 1, 2, none⟩ u).cell? ⟨w.heap.size, 3, none⟩ = some (.int .i64 0) := fun u => Go.Joins.cell_of_block ((heap_setCell_other _ ⟨w.heap.size + 1, 2, none⟩ _ u (show w.heap.size ≠ w.heap.size + 1 by omega)).trans Z7.out) 3
  cases b_3 with
  | true =>
    go_wp2_with fail
    have q : (((((w7.setCell ⟨w.heap.size + 1, 2, none⟩ (.slice a2 n2 c2)).setCell ⟨w.heap.size, 0, none⟩ (.int .u8 0)).setCell ⟨w.heap.size, 1, none⟩ (.string ⟨#[]⟩)).setCell ⟨w.heap.size, 2, none⟩ (.slice none 0 0)).setCell ⟨w.heap.size, 3, none⟩ (.int .i64 0)).heap[w.heap.size]? = some (.cells #[.int .u8 0, .string ⟨#[]⟩, .slice none 0 0, .int .i64 0] 57 (0, 0)) := (Go.Joins.block_setCell (i := 3) (Go.Joins.block_setCell (i := 2) (Go.Joins.block_setCell (i := 1) (Go.Joins.block_setCell (i := 0) ((heap_setCell_other _ ⟨w.heap.size + 1, 2, none⟩ _ (.slice a2 n2 c2) (show w.heap.size ≠ w.heap.size + 1 by omega)).trans Z7.out) (.int .u8 0)) (.string ⟨#[]⟩)) (.slice none 0 0)) (.int .i64 0))
    have r_ : Ref (((((w7.setCell ⟨w.heap.size + 1, 2, none⟩ (.slice a2 n2 c2)).setCell ⟨w.heap.size, 0, none⟩ (.int .u8 0)).setCell ⟨w.heap.size, 1, none⟩ (.string ⟨#[]⟩)).setCell ⟨w.heap.size, 2, none⟩ (.slice none 0 0)).setCell ⟨w.heap.size, 3, none⟩ (.int .i64 0)) M db _ l_3 := (((((R7.out.other (g := w.heap.size + 1) (i := 2) (by omega) (by omega) (.slice a2 n2 c2)).other (g := w.heap.size) (i := 0) hM (by omega) (.int .u8 0)).other (g := w.heap.size) (i := 1) hM (by omega) (.string ⟨#[]⟩)).other (g := w.heap.size) (i := 2) hM (by omega) (.slice none 0 0)).other (g := w.heap.size) (i := 3) hM (by omega) (.int .i64 0))
    have o_ : Only db w (((((w7.setCell ⟨w.heap.size + 1, 2, none⟩ (.slice a2 n2 c2)).setCell ⟨w.heap.size, 0, none⟩ (.int .u8 0)).setCell ⟨w.heap.size, 1, none⟩ (.string ⟨#[]⟩)).setCell ⟨w.heap.size, 2, none⟩ (.slice none 0 0)).setCell ⟨w.heap.size, 3, none⟩ (.int .i64 0)) := (((((O7.out.new (g := w.heap.size + 1) (i := 2) (by omega) (.slice a2 n2 c2)).new (g := w.heap.size) (i := 0) (Nat.le_refl _) (.int .u8 0)).new (g := w.heap.size) (i := 1) (Nat.le_refl _) (.string ⟨#[]⟩)).new (g := w.heap.size) (i := 2) (Nat.le_refl _) (.slice none 0 0)).new (g := w.heap.size) (i := 3) (Nat.le_refl _) (.int .i64 0))
    have v2_ := (((((W2_7.out.only (Only.set (w.heap.size + 1) _ 2 (.slice a2 n2 c2)) (by omega)).only (Only.set w.heap.size _ 0 (.int .u8 0)) (by omega)).only (Only.set w.heap.size _ 1 (.string ⟨#[]⟩)) (by omega)).only (Only.set w.heap.size _ 2 (.slice none 0 0)) (by omega)).only (Only.set w.heap.size _ 3 (.int .i64 0)) (by omega))
    generalize (((((w7.setCell ⟨w.heap.size + 1, 2, none⟩ (.slice a2 n2 c2)).setCell ⟨w.heap.size, 0, none⟩ (.int .u8 0)).setCell ⟨w.heap.size, 1, none⟩ (.string ⟨#[]⟩)).setCell ⟨w.heap.size, 2, none⟩ (.slice none 0 0)).setCell ⟨w.heap.size, 3, none⟩ (.int .i64 0)) = w99 at q r_ o_ v2_ ⊢
    have d0 : w99.cell? ⟨w.heap.size, 0, none⟩ = some (.int .u8 0) := Go.Joins.cell_of_block q 0
    have d1 : w99.cell? ⟨w.heap.size, 1, none⟩ = some (.string ⟨#[]⟩) := Go.Joins.cell_of_block q 1
    have d2 : w99.cell? ⟨w.heap.size, 2, none⟩ = some (.slice none 0 0) := Go.Joins.cell_of_block q 2
    have d3 : w99.cell? ⟨w.heap.size, 3, none⟩ = some (.int .i64 0) := Go.Joins.cell_of_block q 3
    have hS := HS.out
    try simp only [if_true, if_false, Bool.false_eq_true, reduceIte] at hS
    subst hS
    exact bodyPost_ret (v := .agg #[.int .u8 0, .string ⟨#[]⟩, .slice none 0 0, .int .i64 0]) (by simp [results, Tryz.results107, go_sem, d0, d1, d2, d3]) rfl ⟨⟨0, ByteArray.empty, none, [], 0, 0⟩, rfl, rfl, VasOwn.nil _ _, r_, o_⟩
  | false =>
    go_wp2_with fail
    have q : (((((w7.setCell ⟨w.heap.size + 1, 2, none⟩ (.slice a2 n2 c2)).setCell ⟨w.heap.size, 0, none⟩ (.int .u8 x0)).setCell ⟨w.heap.size, 1, none⟩ (.string x1)).setCell ⟨w.heap.size, 2, none⟩ (.slice a2 n2 c2)).setCell ⟨w.heap.size, 3, none⟩ (.int .i64 x3)).heap[w.heap.size]? = some (.cells #[.int .u8 x0, .string x1, .slice a2 n2 c2, .int .i64 x3] 57 (0, 0)) := (Go.Joins.block_setCell (i := 3) (Go.Joins.block_setCell (i := 2) (Go.Joins.block_setCell (i := 1) (Go.Joins.block_setCell (i := 0) ((heap_setCell_other _ ⟨w.heap.size + 1, 2, none⟩ _ (.slice a2 n2 c2) (show w.heap.size ≠ w.heap.size + 1 by omega)).trans Z7.out) (.int .u8 x0)) (.string x1)) (.slice a2 n2 c2)) (.int .i64 x3))
    have r_ : Ref (((((w7.setCell ⟨w.heap.size + 1, 2, none⟩ (.slice a2 n2 c2)).setCell ⟨w.heap.size, 0, none⟩ (.int .u8 x0)).setCell ⟨w.heap.size, 1, none⟩ (.string x1)).setCell ⟨w.heap.size, 2, none⟩ (.slice a2 n2 c2)).setCell ⟨w.heap.size, 3, none⟩ (.int .i64 x3)) M db _ l_3 := (((((R7.out.other (g := w.heap.size + 1) (i := 2) (by omega) (by omega) (.slice a2 n2 c2)).other (g := w.heap.size) (i := 0) hM (by omega) (.int .u8 x0)).other (g := w.heap.size) (i := 1) hM (by omega) (.string x1)).other (g := w.heap.size) (i := 2) hM (by omega) (.slice a2 n2 c2)).other (g := w.heap.size) (i := 3) hM (by omega) (.int .i64 x3))
    have o_ : Only db w (((((w7.setCell ⟨w.heap.size + 1, 2, none⟩ (.slice a2 n2 c2)).setCell ⟨w.heap.size, 0, none⟩ (.int .u8 x0)).setCell ⟨w.heap.size, 1, none⟩ (.string x1)).setCell ⟨w.heap.size, 2, none⟩ (.slice a2 n2 c2)).setCell ⟨w.heap.size, 3, none⟩ (.int .i64 x3)) := (((((O7.out.new (g := w.heap.size + 1) (i := 2) (by omega) (.slice a2 n2 c2)).new (g := w.heap.size) (i := 0) (Nat.le_refl _) (.int .u8 x0)).new (g := w.heap.size) (i := 1) (Nat.le_refl _) (.string x1)).new (g := w.heap.size) (i := 2) (Nat.le_refl _) (.slice a2 n2 c2)).new (g := w.heap.size) (i := 3) (Nat.le_refl _) (.int .i64 x3))
    have v2_ := (((((W2_7.out.only (Only.set (w.heap.size + 1) _ 2 (.slice a2 n2 c2)) (by omega)).only (Only.set w.heap.size _ 0 (.int .u8 x0)) (by omega)).only (Only.set w.heap.size _ 1 (.string x1)) (by omega)).only (Only.set w.heap.size _ 2 (.slice a2 n2 c2)) (by omega)).only (Only.set w.heap.size _ 3 (.int .i64 x3)) (by omega))
    generalize (((((w7.setCell ⟨w.heap.size + 1, 2, none⟩ (.slice a2 n2 c2)).setCell ⟨w.heap.size, 0, none⟩ (.int .u8 x0)).setCell ⟨w.heap.size, 1, none⟩ (.string x1)).setCell ⟨w.heap.size, 2, none⟩ (.slice a2 n2 c2)).setCell ⟨w.heap.size, 3, none⟩ (.int .i64 x3)) = w99 at q r_ o_ v2_ ⊢
    have d0 : w99.cell? ⟨w.heap.size, 0, none⟩ = some (.int .u8 x0) := Go.Joins.cell_of_block q 0
    have d1 : w99.cell? ⟨w.heap.size, 1, none⟩ = some (.string x1) := Go.Joins.cell_of_block q 1
    have d2 : w99.cell? ⟨w.heap.size, 2, none⟩ = some (.slice a2 n2 c2) := Go.Joins.cell_of_block q 2
    have d3 : w99.cell? ⟨w.heap.size, 3, none⟩ = some (.int .i64 x3) := Go.Joins.cell_of_block q 3
    have hS := HS.out
    try simp only [if_true, if_false, Bool.false_eq_true, reduceIte] at hS
    subst hS
    obtain rfl := N2.out
    have v29 := v2_.le (base' := w.heap.size) (by omega)
    exact bodyPost_ret (v := .agg #[.int .u8 x0, .string x1, .slice a2 x2.length c2, .int .i64 x3]) (by simp [results, Tryz.results107, go_sem, d0, d1, d2, d3]) rfl ⟨⟨x0, x1, a2, x2, c2, x3⟩, rfl, rfl, v29, r_, o_⟩
end Go.Proofs.YtnhnabcpkaeaaaaGreatDoor
