/- The reader of wire: Fact. Conditions: the reader is one that was made. -/
import Derived.Test.YtiggpcmikhojmaaGreatDoorGWireNumbers6
import Derived.Test.YtiggpcmikhojmaaGreatDoorGWireNumbers10
import Derived.Test.YtiggpcmikhojmaaGreatDoorGWireNumbers5
import Derived.Test.YtiggpcmikhojmaaGreatDoorGWireNumbers2
set_option linter.unusedVariables false
namespace Go.Proofs.YtiggpcmikhojmaaGreatDoor
open Go.RowKit
set_option maxRecDepth 20000
set_option maxHeartbeats 1000000 in
theorem sureFact_rd (M rb : Nat) (bad : Bool) (left : List Int) (x0 : Int) (x1 : Int) (a2 : Option Addr) (n2 c2 : Nat) (w : World) (h : Rdr w M rb bad left) :
    Calls Tryz.prog 142 #[.pointer (some ⟨rb, 0, none⟩), .agg #[.int .i64 x0, .int .i64 x1, .slice a2 n2 c2]] w fun e w' => e = .returned (if bad = true then .agg #[.int .i64 0, .int .i64 0, .slice none 0 0] else .agg #[.int .i64 x0, .int .i64 x1, .slice a2 n2 c2]) ∧ Below w.heap.size w w' := by
  obtain ⟨_, _, _, d1, _, _⟩ := h.cells
  have hlt := h.lt
  have dA : ∀ o1 o2 o3, (((w.alloc o1).alloc o2).alloc o3).cell? ⟨rb, 1, none⟩ = some (.bool bad) := fun o1 o2 o3 => by
    have hb := (((Below.refl w.heap.size w).alloc (Nat.le_refl _) o1).alloc (by simp) o2).alloc (by simp; omega) o3
    rw [hb.cell (p := ⟨rb, 1, none⟩) hlt]; exact d1
  clear h d1
  cases bad with
  | true =>
    go_enter Tryz.func142, Tryz.ntmps142
    go_wp2_with fail
    exact bodyPost_ret (v := .agg #[.int .i64 0, .int .i64 0, .slice none 0 0]) (by first | (simp [results, Tryz.results142, go_sem]; done) | (simp [results, Tryz.results142, go_sem]; rfl)) rfl ⟨rfl, (((Below.refl w.heap.size w).alloc (Nat.le_refl _) _).alloc (by simp) _).alloc (by simp; omega) _⟩
  | false =>
    go_enter Tryz.func142, Tryz.ntmps142
    go_wp2_with fail
    exact bodyPost_ret (v := .agg #[.int .i64 x0, .int .i64 x1, .slice a2 n2 c2]) (by first | (simp [results, Tryz.results142, go_sem]; done) | (simp [results, Tryz.results142, go_sem]; rfl)) rfl ⟨rfl, (((Below.refl w.heap.size w).alloc (Nat.le_refl _) _).alloc (by simp) _).alloc (by simp; omega) _⟩
/-- What a Fact that is read is. -/
def GotFa (M rb : Nat) (r : FaP × Bool × List Int) (w : World) (e : Ending) (w' : World) : Prop :=
  ∃ f : Fa, f.plain = r.1 ∧ e = .returned (faVal f) ∧ (VasOwn w' w.heap.size f.ao f.args.length f.cap f.args) ∧ Rdr w' M rb r.2.1 r.2.2 ∧ Only rb w w'
set_option maxHeartbeats 4000000 in
theorem rdFact_any (M rb : Nat) (bad : Bool) (left : List Int) (r : FaP × Bool × List Int) (w : World) (hr : factS bad left = r) (h : Rdr w M rb bad left) (hw : BytesWf left) (hl : left.length ≤ 140737488351232) :
    Calls Tryz.prog 88 #[.pointer (some ⟨rb, 0, none⟩)] w (GotFa M rb r w) := by
  have hrb := h.lt
  have hM : M ≤ w.heap.size := by obtain ⟨a, c, h⟩ := h; exact h.le
  have hmf : ∀ (fn : Fn) (first cap : Array Value) (w : World), (Instr.makeFunc fn first cap).run Tryz.prog w = .ok (.func fn first cap) w := fun _ _ _ _ => rfl
  obtain ⟨⟨x0, b_0, l_0⟩, h_0⟩ : ∃ r, numS bad left = r := ⟨_, rfl⟩
  have q_0 := numS_shrinks bad left hw
  rw [h_0] at q_0
  dsimp only at q_0
  obtain ⟨⟨x1, b_1, l_1⟩, h_1⟩ : ∃ r, numS b_0 l_0 = r := ⟨_, rfl⟩
  have q_1 := numS_shrinks b_0 l_0 q_0.1
  rw [h_1] at q_1
  dsimp only at q_1
  obtain ⟨⟨x2, b_2, l_2⟩, h_2⟩ : ∃ r, valuesS b_1 l_1 = r := ⟨_, rfl⟩
  have q_2 := valuesS_shrinks b_1 l_1 q_1.1
  rw [h_2] at q_2
  dsimp only at q_2
  have HS := Lib.hid (show (if b_2 = true then ⟨0, 0, []⟩ else ⟨x0, x1, x2⟩, b_2, l_2) = r by rw [← hr]; unfold factS; dsimp only; simp only [h_0, h_1, h_2])
  have HH0 := Lib.hid h_0
  have HW0 := Lib.hid q_0.1
  have LL0 : l_0.length ≤ 140737488351232 := Nat.le_trans q_0.2 hl
  have HH1 := Lib.hid h_1
  have HW1 := Lib.hid q_1.1
  have LL1 : l_1.length ≤ 140737488351232 := Nat.le_trans q_1.2 LL0
  have HH2 := Lib.hid h_2
  have HW2 := Lib.hid q_2.1
  have LL2 : l_2.length ≤ 140737488351232 := Nat.le_trans q_2.2 LL1
  clear hr h_0 q_0 h_1 q_1 h_2 q_2
  have hA := (Below.refl w.heap.size w).alloc (Nat.le_refl _) (.cells #[.int .i64 0, .int .i64 0, .slice none 0 0] 27)
  have R0 := Lib.hid (h.below hA)
  have O0 := Lib.hid ((Only.refl rb w).alloc (.cells #[.int .i64 0, .int .i64 0, .slice none 0 0] 27))
  have Z0 := Lib.hid (heap_alloc_new w (.cells #[.int .i64 0, .int .i64 0, .slice none 0 0] 27))
  have hz0 : w.heap.size + 1 ≤ (w.alloc (.cells #[.int .i64 0, .int .i64 0, .slice none 0 0] 27)).heap.size := by simp
  clear h hA
  go_enter Tryz.func88, Tryz.ntmps88
  go_wp2_with fail
  generalize w.alloc (.cells #[.int .i64 0, .int .i64 0, .slice none 0 0] 27) = w0 at R0 O0 Z0 hz0 ⊢
  refine (known_any M rb bad left w0 R0.out).mono ?_
  rintro e wk ⟨rfl, rfl⟩
  go_wp2_with fail
  refine (whole_at M rb bad left x0 b_0 l_0 w0 HH0.out R0.out hw hl).mono ?_
  rintro e w1 ⟨rfl, hr, ho⟩
  have R1 := Lib.hid hr
  have O1 := Lib.hid (O0.out.trans ho)
  have hs1 := ho.1
  have hz1 : w.heap.size + 1 ≤ w1.heap.size := Nat.le_trans hz0 hs1
  have Z1 := Lib.hid ((ho.2 w.heap.size (by omega) (by omega)).trans Z0.out)
  clear hr ho R0 O0 Z0  
  have hA := (Below.refl w1.heap.size w1).alloc (Nat.le_refl _) (.cells #[.int .i64 x0, .int .i64 0, .slice none 0 0] 27)
  have R2 := Lib.hid (R1.out.below hA)
  have O2 := Lib.hid (O1.out.alloc (.cells #[.int .i64 x0, .int .i64 0, .slice none 0 0] 27))
  have Z2 := Lib.hid ((hA.block w.heap.size (by omega)).trans Z1.out)
  have G2 := Lib.hid (heap_alloc_new w1 (.cells #[.int .i64 x0, .int .i64 0, .slice none 0 0] 27))
  have hz2 : w1.heap.size + 1 ≤ (w1.alloc (.cells #[.int .i64 x0, .int .i64 0, .slice none 0 0] 27)).heap.size := by simp
  clear hA R1 O1 Z1
  go_wp2_with fail
  generalize w1.alloc (.cells #[.int .i64 x0, .int .i64 0, .slice none 0 0] 27) = w2 at R2 O2 Z2 G2 hz2 ⊢
  refine (whole_at M rb b_0 l_0 x1 b_1 l_1 w2 HH1.out R2.out HW0.out LL0).mono ?_
  rintro e w3 ⟨rfl, hr, ho⟩
  have R3 := Lib.hid hr
  have O3 := Lib.hid (O2.out.trans ho)
  have hs3 := ho.1
  have hz3 : w1.heap.size + 1 ≤ w3.heap.size := Nat.le_trans hz2 hs3
  have Z3 := Lib.hid ((ho.2 w.heap.size (by omega) (by omega)).trans Z2.out)
  have G3 := Lib.hid ((ho.2 w1.heap.size (by omega) (by omega)).trans G2.out)
  clear hr ho R2 O2 Z2 G2 
  go_wp2_with fail
  refine (values_at M rb b_1 l_1 x2 b_2 l_2 w3 HH2.out R3.out HW1.out LL1).mono ?_
  rintro e w4 ⟨a2, n2, c2, hn2, rfl, hown, hr, ho⟩
  have N2 := Lib.hid hn2
  have W2_4 := Lib.hid hown
  have hbase2 : w1.heap.size + 1 ≤ w3.heap.size := hz3
  clear hown hn2
  have R4 := Lib.hid hr
  have O4 := Lib.hid (O3.out.trans ho)
  have hs4 := ho.1
  have hz4 : w1.heap.size + 1 ≤ w4.heap.size := Nat.le_trans hz3 hs4
  have Z4 := Lib.hid ((ho.2 w.heap.size (by omega) (by omega)).trans Z3.out)
  have G4 := Lib.hid ((ho.2 w1.heap.size (by omega) (by omega)).trans G3.out)
  clear hr ho R3 O3 Z3 G3 
  have f1 : w4.frozen? ⟨w1.heap.size, 1, none⟩ = false := Go.Joins.unfrozen_of_block G4.out 1
  have f2 : w4.frozen? ⟨w1.heap.size, 2, none⟩ = false := Go.Joins.unfrozen_of_block G4.out 2
  have e0 : w4.cell? ⟨w1.heap.size, 0, none⟩ = some (.int .i64 x0) := Go.Joins.cell_of_block G4.out 0
  have e1 : w4.cell? ⟨w1.heap.size, 1, none⟩ = some (.int .i64 0) := Go.Joins.cell_of_block G4.out 1
  have e2 : w4.cell? ⟨w1.heap.size, 2, none⟩ = some (.slice none 0 0) := Go.Joins.cell_of_block G4.out 2
  go_wp2_with fail
  have q : ((w4.setCell ⟨w1.heap.size, 1, none⟩ (.int .i64 x1)).setCell ⟨w1.heap.size, 2, none⟩ (.slice a2 n2 c2)).heap[w1.heap.size]? = some (.cells #[.int .i64 x0, .int .i64 x1, .slice a2 n2 c2] 27 (0, 0)) := (Go.Joins.block_setCell (i := 2) (Go.Joins.block_setCell (i := 1) G4.out (.int .i64 x1)) (.slice a2 n2 c2))
  have r_ : Rdr ((w4.setCell ⟨w1.heap.size, 1, none⟩ (.int .i64 x1)).setCell ⟨w1.heap.size, 2, none⟩ (.slice a2 n2 c2)) M rb b_2 l_2 := ((R4.out.other (g := w1.heap.size) (i := 1) (by omega) (by omega) (.int .i64 x1)).other (g := w1.heap.size) (i := 2) (by omega) (by omega) (.slice a2 n2 c2))
  have o_ : Only rb w ((w4.setCell ⟨w1.heap.size, 1, none⟩ (.int .i64 x1)).setCell ⟨w1.heap.size, 2, none⟩ (.slice a2 n2 c2)) := ((O4.out.new (g := w1.heap.size) (i := 1) (by omega) (.int .i64 x1)).new (g := w1.heap.size) (i := 2) (by omega) (.slice a2 n2 c2))
  have z_ : ((w4.setCell ⟨w1.heap.size, 1, none⟩ (.int .i64 x1)).setCell ⟨w1.heap.size, 2, none⟩ (.slice a2 n2 c2)).heap[w.heap.size]? = some (.cells #[.int .i64 0, .int .i64 0, .slice none 0 0] 27 (0, 0)) := ((heap_setCell_other _ _ _ _ (show w.heap.size ≠ w1.heap.size by omega)).trans ((heap_setCell_other _ _ _ _ (show w.heap.size ≠ w1.heap.size by omega)).trans Z4.out))
  have v2_ := ((W2_4.out.only (Only.set w1.heap.size _ 1 (.int .i64 x1)) (by omega)).only (Only.set w1.heap.size _ 2 (.slice a2 n2 c2)) (by omega))
  have hz_ : w1.heap.size + 1 ≤ ((w4.setCell ⟨w1.heap.size, 1, none⟩ (.int .i64 x1)).setCell ⟨w1.heap.size, 2, none⟩ (.slice a2 n2 c2)).heap.size := by simpa using hz4
  generalize ((w4.setCell ⟨w1.heap.size, 1, none⟩ (.int .i64 x1)).setCell ⟨w1.heap.size, 2, none⟩ (.slice a2 n2 c2)) = w5 at q r_ o_ z_ hz_ v2_ ⊢
  have G5 := Lib.hid q
  have R5 := Lib.hid r_
  have O5 := Lib.hid o_
  have Z5 := Lib.hid z_
  have hz5 : w1.heap.size + 1 ≤ w5.heap.size := hz_
  have W2_5 := Lib.hid v2_
  clear q r_ o_ z_ hz_ v2_ f1 f2 e0 e1 e2 R4 O4 Z4 G4 W2_4
  refine (sureFact_rd M rb b_2 l_2 x0 x1 a2 n2 c2 w5 R5.out).mono ?_
  rintro e w6 ⟨he, hb⟩
  have R6 := Lib.hid (R5.out.below hb)
  have O6 := Lib.hid (O5.out.trans (Only.of_below hb))
  have Z6 := Lib.hid ((hb.block w.heap.size (by omega)).trans Z5.out)
  have hz6 : w1.heap.size + 1 ≤ w6.heap.size := Nat.le_trans hz5 hb.size
  have W2_6 := Lib.hid (W2_5.out.below hb (Nat.le_refl _))
  clear hb R5 O5 Z5 G5 W2_5
  have z0 : w6.cell? ⟨w.heap.size, 0, none⟩ = some (.int .i64 0) := Go.Joins.cell_of_block Z6.out 0
  have g0 : w6.frozen? ⟨w.heap.size, 0, none⟩ = false := Go.Joins.unfrozen_of_block Z6.out 0
  have z1 : w6.cell? ⟨w.heap.size, 1, none⟩ = some (.int .i64 0) := Go.Joins.cell_of_block Z6.out 1
  have g1 : w6.frozen? ⟨w.heap.size, 1, none⟩ = false := Go.Joins.unfrozen_of_block Z6.out 1
  have z2 : w6.cell? ⟨w.heap.size, 2, none⟩ = some (.slice none 0 0) := Go.Joins.cell_of_block Z6.out 2
  have g2 : w6.frozen? ⟨w.heap.size, 2, none⟩ = false := Go.Joins.unfrozen_of_block Z6.out 2
  cases b_2 with
  | true =>
    rw [if_pos rfl] at he
    subst he
    go_wp2_with fail
    have q : (((w6.setCell ⟨w.heap.size, 0, none⟩ (.int .i64 0)).setCell ⟨w.heap.size, 1, none⟩ (.int .i64 0)).setCell ⟨w.heap.size, 2, none⟩ (.slice none 0 0)).heap[w.heap.size]? = some (.cells #[.int .i64 0, .int .i64 0, .slice none 0 0] 27 (0, 0)) := (Go.Joins.block_setCell (i := 2) (Go.Joins.block_setCell (i := 1) (Go.Joins.block_setCell (i := 0) Z6.out (.int .i64 0)) (.int .i64 0)) (.slice none 0 0))
    have r_ : Rdr (((w6.setCell ⟨w.heap.size, 0, none⟩ (.int .i64 0)).setCell ⟨w.heap.size, 1, none⟩ (.int .i64 0)).setCell ⟨w.heap.size, 2, none⟩ (.slice none 0 0)) M rb _ l_2 := (((R6.out.other (g := w.heap.size) (i := 0) hM (by omega) (.int .i64 0)).other (g := w.heap.size) (i := 1) hM (by omega) (.int .i64 0)).other (g := w.heap.size) (i := 2) hM (by omega) (.slice none 0 0))
    have o_ : Only rb w (((w6.setCell ⟨w.heap.size, 0, none⟩ (.int .i64 0)).setCell ⟨w.heap.size, 1, none⟩ (.int .i64 0)).setCell ⟨w.heap.size, 2, none⟩ (.slice none 0 0)) := (((O6.out.new (g := w.heap.size) (i := 0) (Nat.le_refl _) (.int .i64 0)).new (g := w.heap.size) (i := 1) (Nat.le_refl _) (.int .i64 0)).new (g := w.heap.size) (i := 2) (Nat.le_refl _) (.slice none 0 0))
    have v2_ := (((W2_6.out.only (Only.set w.heap.size _ 0 (.int .i64 0)) (by omega)).only (Only.set w.heap.size _ 1 (.int .i64 0)) (by omega)).only (Only.set w.heap.size _ 2 (.slice none 0 0)) (by omega))
    generalize (((w6.setCell ⟨w.heap.size, 0, none⟩ (.int .i64 0)).setCell ⟨w.heap.size, 1, none⟩ (.int .i64 0)).setCell ⟨w.heap.size, 2, none⟩ (.slice none 0 0)) = w9 at q r_ o_ v2_ ⊢
    have d0 : w9.cell? ⟨w.heap.size, 0, none⟩ = some (.int .i64 0) := Go.Joins.cell_of_block q 0
    have d1 : w9.cell? ⟨w.heap.size, 1, none⟩ = some (.int .i64 0) := Go.Joins.cell_of_block q 1
    have d2 : w9.cell? ⟨w.heap.size, 2, none⟩ = some (.slice none 0 0) := Go.Joins.cell_of_block q 2
    have hS := HS.out
    try simp only [if_true] at hS
    subst hS
    exact bodyPost_ret (v := .agg #[.int .i64 0, .int .i64 0, .slice none 0 0]) (by simp [results, Tryz.results88, go_sem, d0, d1, d2]) rfl ⟨⟨0, 0, none, [], 0⟩, rfl, rfl, VasOwn.nil _ _, r_, o_⟩
  | false =>
    rw [if_neg (by simp)] at he
    subst he
    go_wp2_with fail
    have q : (((w6.setCell ⟨w.heap.size, 0, none⟩ (.int .i64 x0)).setCell ⟨w.heap.size, 1, none⟩ (.int .i64 x1)).setCell ⟨w.heap.size, 2, none⟩ (.slice a2 n2 c2)).heap[w.heap.size]? = some (.cells #[.int .i64 x0, .int .i64 x1, .slice a2 n2 c2] 27 (0, 0)) := (Go.Joins.block_setCell (i := 2) (Go.Joins.block_setCell (i := 1) (Go.Joins.block_setCell (i := 0) Z6.out (.int .i64 x0)) (.int .i64 x1)) (.slice a2 n2 c2))
    have r_ : Rdr (((w6.setCell ⟨w.heap.size, 0, none⟩ (.int .i64 x0)).setCell ⟨w.heap.size, 1, none⟩ (.int .i64 x1)).setCell ⟨w.heap.size, 2, none⟩ (.slice a2 n2 c2)) M rb _ l_2 := (((R6.out.other (g := w.heap.size) (i := 0) hM (by omega) (.int .i64 x0)).other (g := w.heap.size) (i := 1) hM (by omega) (.int .i64 x1)).other (g := w.heap.size) (i := 2) hM (by omega) (.slice a2 n2 c2))
    have o_ : Only rb w (((w6.setCell ⟨w.heap.size, 0, none⟩ (.int .i64 x0)).setCell ⟨w.heap.size, 1, none⟩ (.int .i64 x1)).setCell ⟨w.heap.size, 2, none⟩ (.slice a2 n2 c2)) := (((O6.out.new (g := w.heap.size) (i := 0) (Nat.le_refl _) (.int .i64 x0)).new (g := w.heap.size) (i := 1) (Nat.le_refl _) (.int .i64 x1)).new (g := w.heap.size) (i := 2) (Nat.le_refl _) (.slice a2 n2 c2))
    have v2_ := (((W2_6.out.only (Only.set w.heap.size _ 0 (.int .i64 x0)) (by omega)).only (Only.set w.heap.size _ 1 (.int .i64 x1)) (by omega)).only (Only.set w.heap.size _ 2 (.slice a2 n2 c2)) (by omega))
    generalize (((w6.setCell ⟨w.heap.size, 0, none⟩ (.int .i64 x0)).setCell ⟨w.heap.size, 1, none⟩ (.int .i64 x1)).setCell ⟨w.heap.size, 2, none⟩ (.slice a2 n2 c2)) = w9 at q r_ o_ v2_ ⊢
    have d0 : w9.cell? ⟨w.heap.size, 0, none⟩ = some (.int .i64 x0) := Go.Joins.cell_of_block q 0
    have d1 : w9.cell? ⟨w.heap.size, 1, none⟩ = some (.int .i64 x1) := Go.Joins.cell_of_block q 1
    have d2 : w9.cell? ⟨w.heap.size, 2, none⟩ = some (.slice a2 n2 c2) := Go.Joins.cell_of_block q 2
    have hS := HS.out
    try simp only [if_false, Bool.false_eq_true] at hS
    subst hS
    obtain rfl := N2.out
    have v29 := v2_.le (base' := w.heap.size) (by omega)
    exact bodyPost_ret (v := .agg #[.int .i64 x0, .int .i64 x1, .slice a2 x2.length c2]) (by simp [results, Tryz.results88, go_sem, d0, d1, d2]) rfl ⟨⟨x0, x1, a2, x2, c2⟩, rfl, rfl, v29, r_, o_⟩
end Go.Proofs.YtiggpcmikhojmaaGreatDoor
/- Rows of facts that the reader of wire reads. Conditions: the reader is one that was made. -/
namespace Go.Proofs.YtiggpcmikhojmaaGreatDoor
open Go.RowKit
set_option maxRecDepth 20000
theorem sureRF_rd (M rb : Nat) (bad : Bool) (left : List Int) (a : Option Addr) (n c : Nat) (w : World) (h : Rdr w M rb bad left) :
    Calls Tryz.prog 189 #[.pointer (some ⟨rb, 0, none⟩), .slice a n c] w fun e w' => e = .returned (if bad = true then .slice none 0 0 else .slice a n c) ∧ w = w' := by
  obtain ⟨_, _, _, d1, _, _⟩ := h.cells
  clear h
  cases bad with
  | true =>
    go_enter Tryz.func189, Tryz.ntmps189
    go_wp2_with fail
    go_ret
    exact ⟨rfl, rfl⟩
  | false =>
    go_enter Tryz.func189, Tryz.ntmps189
    go_wp2_with fail
    go_ret
    exact ⟨rfl, rfl⟩
/-- What a row of facts that is read is. -/
def GotF (M rb : Nat) (r : List FaP × Bool × List Int) (w : World) (e : Ending) (w' : World) : Prop :=
  ∃ a n c y, y.map Fa.plain = r.1 ∧ e = .returned (.slice a n c) ∧ FasOwn w' w.heap.size a n c y ∧ Rdr w' M rb r.2.1 r.2.2 ∧ Only rb w w'
theorem sepF_old {w : World} {b1 b2 : Nat} {f g : Fa} (h1 : faOwn w b1 f) (hlt : ∀ k, (Value.slice f.ao f.args.length f.cap).ownBlock = some k → k < b2) (h2 : ∀ k, (Value.slice g.ao g.args.length g.cap).ownBlock = some k → b2 ≤ k) : sepF f g := by
  unfold sepF
  cases hf : (Value.slice f.ao f.args.length f.cap).ownBlock with
  | none => exact Or.inl rfl
  | some k =>
    right
    intro e
    have := hlt k hf
    have := h2 k e.symm
    omega
theorem infoFa : (Tryz.prog.info? 27).map (fun i => (i.zero, i.size, i.bytes)) = some (some (.agg #[.int .i64 0, .int .i64 0, .slice none 0 0]), 3, 40) := by kernel_rfl
set_option maxHeartbeats 4000000 in
theorem rowF_rd (M rb : Nat) (bad : Bool) (left : List Int) (w : World) (h : Rdr w M rb bad left) (hw : BytesWf left) (hl : left.length ≤ 140737488351232) :
    Calls Tryz.prog 144 #[.pointer (some ⟨rb, 0, none⟩), .func (.func 88) #[.pointer (some ⟨rb, 0, none⟩)] #[]] w (GotF M rb (rowsS factS bad left) w) := by
  have hM : M ≤ w.heap.size := by obtain ⟨a, c, h⟩ := h; exact h.le
  have hrb := h.lt
  have hcw := countS_wf (bad := bad) hw
  have HC := Lib.hid (count_rd M rb bad left w h hw hl)
  unfold rowsS
  dsimp only
  obtain ⟨⟨n0, b0, l0⟩, hc⟩ : ∃ r, countS bad left = r := ⟨_, rfl⟩
  rw [hc] at HC hcw ⊢
  dsimp only at HC hcw ⊢
  obtain ⟨N, rfl⟩ : ∃ N : Nat, n0 = N := ⟨n0.toNat, by omega⟩
  have hN : N ≤ 65536 := by omega
  rw [Int.toNat_natCast]
  obtain ⟨⟨tot, b9, l9⟩, hr⟩ : ∃ r, rowS factS N b0 l0 = r := ⟨_, rfl⟩
  rw [hr]
  have HRW := Lib.hid hr
  have HCW := Lib.hid hcw
  have hll0 : l0.length ≤ 140737488351232 := by have := hcw.2.2.2; omega
  clear h hc hr hcw
  obtain ⟨R, hQ⟩ : ∃ R, ((if b9 = true then [] else tot, b9, l9) : List FaP × Bool × List Int) = R := ⟨_, rfl⟩
  rw [hQ]
  have HQP := Lib.hid hQ
  clear hQ
  go_enter Tryz.func144, Tryz.ntmps144
  go_wp2_with fail
  refine HC.out.mono ?_
  rintro e w0 ⟨rfl, hr0, ho0⟩
  have R0 := Lib.hid hr0
  have O0 := Lib.hid ho0
  clear hr0 ho0 HC
  go_wp2_with fail
  go_loopw [5, 6] (fun v i wr => ∃ (m : Nat) (acc : List Fa) (b : Bool) (l : List Int), i = .int .i64 m ∧ (acc.map Fa.plain ++ (rowS factS m b l).1, (rowS factS m b l).2) = (tot, b9, l9) ∧ acc.length + m ≤ 65536 ∧ wr.ownsRow w.heap.size 27 3 v acc.length (acc.flatMap faCells) ∧ (∀ f ∈ acc, faOwn wr w.heap.size f) ∧ acc.Pairwise sepF ∧ Rdr wr M rb b l ∧ Only rb w wr ∧ BytesWf l ∧ l.length ≤ 140737488351232) (fun _ i _ => (intOf i).toNat)
  case atStart => exact ⟨N, [], b0, l0, rfl, by rw [HRW.out]; rfl, by simpa using hN, World.ownsRow_nil _ _ _ _, (by intro f hf; cases hf), List.Pairwise.nil, R0.out, O0.out, HCW.out.2.2.1, hll0⟩
  case round =>
    clear R0 O0 HCW HRW
    obtain ⟨m, acc, b, l, rfl, heq, hlen, hown, hfo, hsep, hR, hO, hwf, hll⟩ := hrel
    have HFO := Lib.hid hfo
    have HSEP := Lib.hid hsep
    have HE := Lib.hid heq
    have HOW := Lib.hid hown
    have HR := Lib.hid hR
    have HO := Lib.hid hO
    have HWF := Lib.hid hwf
    obtain ⟨_, _, _, d1, _, _⟩ := hR.cells
    clear heq hown hfo hsep hR hO hwf
    by_cases hend : b = true ∨ m = 0
    · obtain ⟨a, c, hv⟩ := row_slice HOW.out
      subst hv
      have hfin : acc.map Fa.plain = tot ∧ b = b9 ∧ l = l9 := by
        have h1 := HE.out
        rcases hend with h0 | h0
        · subst h0
          rw [rowS_bad] at h1
          simpa using h1
        · subst h0
          simpa [rowS] using h1
      obtain ⟨rfl, rfl, rfl⟩ := hfin
      obtain ⟨q, hq⟩ : ∃ q, acc.length = q := ⟨_, rfl⟩
      rw [hq] at hlen HOW ⊢
      have HQ := Lib.hid hq
      have hend2 : b = true ∨ (b = false ∧ m = 0) := by
        cases b with
        | true => exact Or.inl rfl
        | false => exact Or.inr ⟨rfl, hend.resolve_left (by simp)⟩
      clear hend hq HE
      rcases hend2 with rfl | ⟨rfl, rfl⟩
      · by_cases hm0 : m = 0
        · subst hm0
          go_wp2_with fail
          refine (sureRF_rd M rb true l a q c wr HR.out).mono ?_
          rintro e w' ⟨he, rfl⟩
          rw [if_pos rfl] at he
          subst he
          go_wp2_with fail
          go_ret
          rw [← HQP.out]
          exact ⟨none, 0, 0, [], rfl, rfl, FasOwn.nil _ _, HR.out, HO.out⟩
        · obtain ⟨m2, rfl⟩ : ∃ m2, m = m2 + 1 := ⟨m - 1, by omega⟩
          have j1 : (0 : Int) < (m2 : Int) + 1 := by omega
          clear hm0
          go_wp2_with fail
          refine (sureRF_rd M rb true l a q c wr HR.out).mono ?_
          rintro e w' ⟨he, rfl⟩
          rw [if_pos rfl] at he
          subst he
          go_wp2_with fail
          go_ret
          rw [← HQP.out]
          exact ⟨none, 0, 0, [], rfl, rfl, FasOwn.nil _ _, HR.out, HO.out⟩
      · go_wp2_with fail
        refine (sureRF_rd M rb false l a q c wr HR.out).mono ?_
        rintro e w' ⟨he, rfl⟩
        rw [if_neg (by simp)] at he
        subst he
        go_wp2_with fail
        go_ret
        rw [← HQP.out]
        exact ⟨a, q, c, acc, rfl, rfl, ⟨HQ.out, HOW.out, HFO.out, HSEP.out⟩, HR.out, HO.out⟩
    · obtain ⟨rfl, m', rfl⟩ : b = false ∧ ∃ m', m = m' + 1 := by
        refine ⟨by cases b with
          | true => exact absurd (Or.inl rfl) hend
          | false => rfl, m - 1, by omega⟩
      have j1 : (0 : Int) < (m' : Int) + 1 := by omega
      clear hend
      have hsh := factS_shrinks false l HWF.out
      have HE2 := HE.out
      rw [rowS, if_neg (by simp)] at HE2
      obtain ⟨⟨x, b1, l1⟩, hx⟩ : ∃ r, factS false l = r := ⟨_, rfl⟩
      have hone := rdFact_any M rb false l (x, b1, l1) wr hx HR.out HWF.out hll
      rw [hx] at hsh HE2
      dsimp only at hsh HE2
      have H2 := Lib.hid HE2
      have HSH := Lib.hid hsh
      have HONE := Lib.hid hone
      have hsz := HO.out.1
      have hrbw := HR.out.lt
      clear HE2 hsh hone HE hx
      go_wp2_with fail
      refine HONE.out.mono ?_
      rintro e w1 ⟨⟨id, ty, ao, args, cap⟩, hp, he, hav, hr1, ho1⟩
      unfold faVal at he
      dsimp only at he hav hr1
      obtain ⟨n, hn⟩ : ∃ n, args.length = n := ⟨_, rfl⟩
      rw [hn] at he hav
      subst he
      have hne : ∀ g, (Value.ownBlock _) = some g → w.heap.size ≤ g := fun g hg => (HOW.out.lt g hg).1
      have HOW1 := Lib.hid (own_only HOW.out ho1 (fun e => by have := hne _ e; omega))
      have HFO1 := Lib.hid (show ∀ f ∈ acc, faOwn w1 w.heap.size f from fun f hf => (HFO.out f hf).only ho1 hrb)
      have HLT := Lib.hid (show ∀ f ∈ acc, ∀ k, (Value.slice f.ao f.args.length f.cap).ownBlock = some k → k < wr.heap.size from fun f hf k hk => ((HFO.out f hf).lt k hk).2)
      have HAV := Lib.hid hav
      have HAL := Lib.hid (show ∀ k, (Value.slice ao n cap).ownBlock = some k → wr.heap.size ≤ k from fun k hk => (hav.lt k hk).1)
      have HP := Lib.hid hp
      have HNN := Lib.hid hn
      have R1 := Lib.hid hr1
      have O1 := Lib.hid (HO.out.trans ho1)
      have hsz1 := (HO.out.trans ho1).1
      clear hr1 ho1 HONE d1 HR HO HOW hav hp hn
      go_wp2_with (at_builtin; refine wpList_append_rows (sub := noSub) Tryz.underlying32 infoFa rfl (by decide) faCells_len faCells_one rfl (.tmp 23) (.tmp 26) rfl w.heap.size _ acc.length (acc.flatMap faCells) rfl (HOW1.out.alloc _) (some ⟨w1.heap.size, 0, none⟩) 1 1 [⟨id, ty, ao, args, cap⟩] rfl rfl (w1.heap.size + 1) (rowsIn_block faCells_len _ _ (heap_alloc_new w1 _) (by simp [faCells, HNN.out]) (by omega) (fun _ _ => trivial)) (by simp) (by unfold maxLen; omega) (by omega) (by simp; omega) ?_)
      intro v2 w2 h2 hg2 _
      have hA := (Below.refl w1.heap.size w1).alloc (Nat.le_refl _) (.cells #[.int .i64 id, .int .i64 ty, .slice ao n cap] 27)
      have R2 := Lib.hid ((R1.out.below hA).grown hg2 (fun g hg => by have := hne g hg; omega))
      have O2 := Lib.hid ((O1.out.alloc (.cells #[.int .i64 id, .int .i64 ty, .slice ao n cap] 27)).grown hg2 hne)
      have hrowA := HOW1.out.alloc (.cells #[.int .i64 id, .int .i64 ty, .slice ao n cap] 27)
      have HF2 := Lib.hid (show ∀ f ∈ acc, faOwn w2 w.heap.size f from fun f hf => by
        have h := World.ownsRow.alloc (HFO1.out f hf) (.cells #[.int .i64 id, .int .i64 ty, .slice ao n cap] 27)
        exact World.ownsRow.kept h hg2 (own_apart h hrowA (by decide)))
      have HA2 := Lib.hid (show VasOwn w2 w.heap.size ao n cap args from by
        have h := World.ownsRow.alloc (VasOwn.le HAV.out hsz) (.cells #[.int .i64 id, .int .i64 ty, .slice ao n cap] 27)
        exact World.ownsRow.kept h hg2 (own_apart h hrowA (by decide)))
      have H3 := Lib.hid h2
      clear hA h2 hg2 HOW1 R1 O1 hne hrowA HFO1 HAV
      go_wp2_with fail
      go_roundw
      case rel =>
        refine ⟨m', acc ++ [⟨id, ty, ao, args, cap⟩], b1, l1, by go_num, ?_, by simp; omega, by rw [List.length_append, List.flatMap_append]; exact H3.out, ?_, ?_, R2.out, O2.out, HSH.out.1, Nat.le_trans HSH.out.2 hll⟩
        · rw [List.map_append, List.append_assoc, ← H2.out, ← HP.out]; rfl
        · intro f hf
          rcases List.mem_append.1 hf with hf | hf
          · exact HF2.out f hf
          · rw [List.mem_singleton.1 hf]
            unfold faOwn
            dsimp only
            rw [HNN.out]
            exact HA2.out
        · rw [List.pairwise_append]
          refine ⟨HSEP.out, List.pairwise_singleton _ _, fun f hf g hg => ?_⟩
          rw [List.mem_singleton.1 hg]
          refine sepF_old (HF2.out f hf) (HLT.out f hf) ?_
          dsimp only
          rw [HNN.out]
          exact HAL.out
      case measure => simp [intOf]
theorem rowF_at (M rb : Nat) (bad : Bool) (left : List Int) (v : List FaP) (b2 : Bool) (l2 : List Int) (w : World) (hs : factsS bad left = (v, b2, l2)) (h : Rdr w M rb bad left) (hw : BytesWf left) (hl : left.length ≤ 140737488351232) :
    Calls Tryz.prog 144 #[.pointer (some ⟨rb, 0, none⟩), .func (.func 88) #[.pointer (some ⟨rb, 0, none⟩)] #[]] w fun e w' => ∃ a n c y, y.map Fa.plain = v ∧ e = .returned (.slice a n c) ∧ FasOwn w' w.heap.size a n c y ∧ Rdr w' M rb b2 l2 ∧ Only rb w w' := by
  have := rowF_rd M rb bad left w h hw hl
  unfold factsS at hs
  rw [hs] at this
  exact this
end Go.Proofs.YtiggpcmikhojmaaGreatDoor
/- The marks of ropewalkkit/lent.go: facts, replies. Conditions: the places are not too great. -/
namespace Go.Proofs.YtiggpcmikhojmaaGreatDoor
open Go.RowKit
set_option maxRecDepth 20000
theorem infoRp : (Tryz.prog.info? 34).map (fun i => (i.zero, i.size, i.bytes)) = some (some (.agg #[.int .i64 0, .int .i64 0, .slice none 0 0, .slice none 0 0]), 4, 64) := by kernel_rfl
def mkFc (k i : Nat) : List Value := [.int .i64 (markN k i), .int .i64 0, .slice none 0 0]
theorem mkFc_len (k i : Nat) : (mkFc k i).length = 3 := rfl
theorem markFc_at (a b : Int) (k i : Nat) (ha : a = k) (hb : b = i) (hk : k ≤ 1000000) (hi : i ≤ 2000000000000) (w : World) :
    Calls Tryz.prog 102 #[.int .i64 a, .int .i64 b] w fun e w' => e = .returned (.agg #[.int .i64 (markN k i), .int .i64 0, .slice none 0 0]) ∧ Below w.heap.size w w' := by
  have hm : 0 ≤ markN k i ∧ markN k i ≤ 4000000000000 := by unfold markN; omega
  have hc := mark_at a b k i ha hb hk hi
  generalize markN k i = m at hm hc
  have HC := Lib.hid hc
  clear hc ha hb
  go_enter Tryz.func102, Tryz.ntmps102
  go_wp2_with fail
  refine (HC.out _).mono ?_
  rintro e w' ⟨rfl, rfl⟩
  go_wp2_with fail
  exact bodyPost_ret (v := .agg #[.int .i64 m, .int .i64 0, .slice none 0 0]) (by first | (simp [results, Tryz.results102, go_sem]; done) | (simp [results, Tryz.results102, go_sem]; rfl)) rfl ⟨rfl, (Below.refl _ _).alloc (Nat.le_refl _) _⟩
theorem markFc_is (a b : Int) (k i : Nat) (m : Int) (hm : markN k i = m) (ha : a = k) (hb : b = i) (hk : k ≤ 1000000) (hi : i ≤ 2000000000000) (w : World) :
    Calls Tryz.prog 102 #[.int .i64 a, .int .i64 b] w fun e w' => e = .returned (.agg #[.int .i64 m, .int .i64 0, .slice none 0 0]) ∧ Below w.heap.size w w' := hm ▸ markFc_at a b k i ha hb hk hi w
def mkRp (k i : Nat) : List Value := [.int .i64 0, .int .i64 (markN k i), .slice none 0 0, .slice none 0 0]
theorem mkRp_len (k i : Nat) : (mkRp k i).length = 4 := rfl
theorem markRp_at (a b : Int) (k i : Nat) (ha : a = k) (hb : b = i) (hk : k ≤ 1000000) (hi : i ≤ 2000000000000) (w : World) :
    Calls Tryz.prog 171 #[.int .i64 a, .int .i64 b] w fun e w' => e = .returned (.agg #[.int .i64 0, .int .i64 (markN k i), .slice none 0 0, .slice none 0 0]) ∧ Below w.heap.size w w' := by
  have hm : 0 ≤ markN k i ∧ markN k i ≤ 4000000000000 := by unfold markN; omega
  have hc := mark_at a b k i ha hb hk hi
  generalize markN k i = m at hm hc
  have HC := Lib.hid hc
  clear hc ha hb
  go_enter Tryz.func171, Tryz.ntmps171
  go_wp2_with fail
  refine (HC.out _).mono ?_
  rintro e w' ⟨rfl, rfl⟩
  go_wp2_with fail
  exact bodyPost_ret (v := .agg #[.int .i64 0, .int .i64 m, .slice none 0 0, .slice none 0 0]) (by first | (simp [results, Tryz.results171, go_sem]; done) | (simp [results, Tryz.results171, go_sem]; rfl)) rfl ⟨rfl, (Below.refl _ _).alloc (Nat.le_refl _) _⟩
theorem markRp_is (a b : Int) (k i : Nat) (m : Int) (hm : markN k i = m) (ha : a = k) (hb : b = i) (hk : k ≤ 1000000) (hi : i ≤ 2000000000000) (w : World) :
    Calls Tryz.prog 171 #[.int .i64 a, .int .i64 b] w fun e w' => e = .returned (.agg #[.int .i64 0, .int .i64 m, .slice none 0 0, .slice none 0 0]) ∧ Below w.heap.size w w' := hm ▸ markRp_at a b k i ha hb hk hi w
/-- Equal marks are the same facts, replies. -/
theorem sameMarkFc (n : Int) (w : World) : Calls Tryz.prog 73 #[.agg #[.int .i64 n, .int .i64 0, .slice none 0 0], .agg #[.int .i64 n, .int .i64 0, .slice none 0 0]] w fun e w' => e = .returned (.bool true) ∧ Below w.heap.size w w' :=
  sameFa_any ⟨n, 0, none, [], 0⟩ ⟨n, 0, none, [], 0⟩ w w.heap.size rfl (Or.inl rfl) (Or.inl rfl) (Nat.le_refl _) (by simp)
theorem sameMarkRp (n : Int) (w : World) : Calls Tryz.prog 75 #[.agg #[.int .i64 0, .int .i64 n, .slice none 0 0, .slice none 0 0], .agg #[.int .i64 0, .int .i64 n, .slice none 0 0, .slice none 0 0]] w fun e w' => e = .returned (.bool true) ∧ Below w.heap.size w w' :=
  sameRp_any ⟨0, n, none, [], 0, none, [], 0⟩ ⟨0, n, none, [], 0, none, [], 0⟩ w w.heap.size rfl ⟨Or.inl rfl, Or.inl rfl⟩ ⟨Or.inl rfl, Or.inl rfl⟩ (Nat.le_refl _) (by simp) (by simp) (by simp)
end Go.Proofs.YtiggpcmikhojmaaGreatDoor
/- LentFacts: a row of facts is copied, each fact's values too, with marks behind all ends; KeptFact. Conditions: the facts lie as their reading says. -/
namespace Go.Proofs.YtiggpcmikhojmaaGreatDoor
open Go.RowKit
set_option maxRecDepth 20000
theorem sizeFact' : ∀ w, (sizeOf (Tryz.prog.elem 32)).run Tryz.prog w = .ok 3 w := fun _ => by kernel_rfl
theorem sliceFact' : Tryz.prog.underlying 32 = some (.slice (Tryz.prog.elem 32)) := by kernel_rfl
/-- A fact whose values are lent. -/
def FaLent (w : World) (B : Nat) (f : Fa) : Prop := ∃ g, f.ao = some ⟨g, 0, none⟩ ∧ f.cap = f.args.length + 12 ∧ LentV w B g f.args
theorem FaLent.below {w w' : World} {B B' : Nat} {f : Fa} (h : FaLent w B f) (hb : Below B' w w') (hB : w.heap.size ≤ B') : FaLent w' B f := by
  obtain ⟨g, h1, h2, h3⟩ := h
  exact ⟨g, h1, h2, own_below h3 hb hB⟩
theorem FaLent.kept {w w' : World} {B : Nat} {f : Fa} {row : Option Nat} {B2 E2 S2 n2 : Nat} {u : Value} {xs : List Value} (h : FaLent w B f) (hg : w.grownBy w' row) (hu : w.ownsRow B2 E2 S2 u n2 xs) (he : E2 ≠ 24) (hr : row = u.ownBlock) : FaLent w' B f := by
  obtain ⟨g, h1, h2, h3⟩ := h
  exact ⟨g, h1, h2, World.ownsRow.kept h3 hg (by rw [hr]; exact own_apart h3 hu (Ne.symm he))⟩
theorem FaLent.sub {w : World} {B : Nat} {f : Fa} (h : FaLent w B f) : faSub w w.heap.size f := by
  obtain ⟨g, h1, h2, h3⟩ := h
  unfold faSub
  rw [h1]
  exact RowsIn.mono noSub_rising h3.rows h3.lt.2
/-- A row of lent facts, with marks behind its end. -/
structure FasLent (w : World) (B g n : Nat) (frs : List Fa) : Prop where
  row : w.ownsRow B 27 3 (.slice (some ⟨g, 0, none⟩) (n + 12) (n + 12)) (n + 12) (frs.flatMap faCells ++ mks mkFc 1 12)
  lent : ∀ f ∈ frs, FaLent w B f
def LentFasPost (fs : List Fa) (w : World) (e : Ending) (w' : World) : Prop :=
  ∃ frs : List Fa, e = .returned (.slice (some ⟨w.heap.size, 0, none⟩) fs.length (fs.length + 12)) ∧ frs.map Fa.plain = fs.map Fa.plain ∧ FasLent w' w.heap.size w.heap.size fs.length frs ∧ Below w.heap.size w w'
set_option maxHeartbeats 2000000 in
theorem lentFas_any (ao : Option Addr) (cap : Nat) (fs : List Fa) (w : World) (hx : FasIn w w.heap.size ao fs) (hq : ∀ f ∈ fs, (f.ao = none → f.cap = 0) ∧ f.args.length ≤ 1099511627776) (hl : fs.length ≤ 1099511627776) :
    Calls Tryz.prog 62 #[.slice ao fs.length cap] w (LentFasPost fs w) := by
  obtain ⟨i0, hi, hz0, hz1, hz2⟩ := info_parts infoFa
  have hm1 : (0 : Int) ≤ (fs.length : Int) + 12 := by omega
  have HX := Lib.hid hx
  have HQ := Lib.hid hq
  clear hx hq
  go_enter Tryz.func62, Tryz.ntmps62
  go_wp2_with (at_make; refine wpList_make_own _ rfl _ _ 32 rfl w.heap.size 27 i0 (.agg #[.int .i64 0, .int .i64 0, .slice none 0 0]) 3 Tryz.underlying32 hi hz0 hz1 .i64 .i64 _ (fs.length + 12) rfl rfl (by omega) (by rw [hz2]; omega) (by unfold maxLen; omega) (Nat.le_refl _) ?_)
  intro w1 hown1 hg1
  have hb1 : Below w.heap.size w w1 := (Below.refl _ _).grown hg1 (Nat.le_refl _) (fun k hk => by cases hk)
  have H1 := Lib.hid hown1
  clear hown1 hg1
  go_wp2_with fail
  go_loopw [3, 4, 5] (fun v i _ wr => ∃ (k : Nat) (frs : List Fa), k ≤ fs.length ∧ i = .int .i64 k ∧ v = .slice (some ⟨w.heap.size, 0, none⟩) k (fs.length + 12) ∧ frs.map Fa.plain = (fs.take k).map Fa.plain ∧ (∀ f ∈ frs, FaLent wr w.heap.size f) ∧
    wr.ownsRow w.heap.size 27 3 (.slice (some ⟨w.heap.size, 0, none⟩) k (fs.length + 12)) k (frs.flatMap faCells) ∧ Below w.heap.size w wr) (fun _ i _ _ => fs.length - (intOf i).toNat)
  case atStart => exact ⟨0, [], by omega, rfl, rfl, by simp, by simp, H1.out, hb1⟩
  case round =>
    clear hb1 H1
    obtain ⟨k, frs, hk, rfl, rfl, hmap, hlf, hown, hbel⟩ := hrel
    have HM := Lib.hid hmap
    have HF := Lib.hid hlf
    have HO := Lib.hid hown
    clear hmap hlf hown
    have hs := hbel.size
    by_cases hlt : k < fs.length
    · have hkx : fs[k]? = some (fs[k]'hlt) := List.getElem?_eq_getElem hlt
      obtain ⟨b, off, hao, hb, hc, hsub⟩ := HX.out.at hkx
      obtain ⟨hq1, hq2⟩ := HQ.out _ (List.getElem_mem (l := fs) (n := k) hlt)
      have htk : (fs.take (k + 1)).map Fa.plain = (fs.take k).map Fa.plain ++ [(fs[k]'hlt).plain] := by
        rw [List.take_succ_eq_append_getElem hlt, List.map_append]; rfl
      generalize fs[k]'hlt = f at hc hq1 hq2 htk hsub
      obtain ⟨fk, ft, fa, fd, fc⟩ := f
      dsimp only at hq1 hq2
      have c0 : wr.cell? ⟨b, off + k * 3, none⟩ = some (.int .i64 fk) := (hbel.cell (p := ⟨b, _, none⟩) hb).trans (hc 0 (by decide))
      have c1 : wr.cell? ⟨b, off + k * 3 + 1, none⟩ = some (.int .i64 ft) := (hbel.cell (p := ⟨b, _, none⟩) hb).trans (hc 1 (by decide))
      have c2 : wr.cell? ⟨b, off + k * 3 + 1 + 1, none⟩ = some (.slice fa fd.length fc) := (hbel.cell (p := ⟨b, _, none⟩) hb).trans (hc 2 (by decide))
      have c3 : wr.cell? ⟨b, off + k * 3 + 2, none⟩ = some (.slice fa fd.length fc) := c2
      have HT := Lib.hid htk
      have HC := Lib.hid hsub
      have HQ1 := Lib.hid hq1
      have i1 : (k : Int) < fs.length := by omega
      subst hao
      clear hc hkx htk hsub hq1
      go_wp2_with fail
      refine (lentFa_any fk ft fa fd.length fc fd wr rfl (RowsIn.mono noSub_rising (RowsIn.below noSub_kept HC.out hbel (Nat.le_refl _)) hs) HQ1.out hq2).mono ?_
      rintro e w3 ⟨g, rfl, hg1, hL, hb3⟩
      have hown3 := own_below HO.out hb3 (Nat.le_refl _)
      have hlf3 : ∀ f ∈ frs, FaLent w3 w.heap.size f := fun f hf => (HF.out f hf).below hb3 (Nat.le_refl _)
      have hnew : FaLent w3 w.heap.size ⟨fk, ft, some ⟨g, 0, none⟩, fd, fd.length + 12⟩ := ⟨g, rfl, rfl, hL.le hs⟩
      have hbel3 := hbel.trans (hb3.mono hs)
      have hs3 := hbel3.size
      have HO3 := Lib.hid hown3
      have HF3 := Lib.hid hlf3
      have HN3 := Lib.hid hnew
      clear hown3 hlf3 hnew hL c0 c1 c2 c3
      have hlen : ∀ o1 o2, ((w3.alloc o1).alloc o2).heap.size = w3.heap.size + 2 := fun _ _ => by simp
      go_wp2_with (at_builtin; refine wpList_append_fits _ rfl (.tmp 22) (.tmp 24) 32 rfl w.heap.size 27 i0 3 Tryz.underlying32 hi hz1 w.heap.size k (fs.length + 12) (frs.flatMap faCells) rfl ((HO3.out.alloc _).alloc _) ⟨w3.heap.size + 1, 0, none⟩ 1 1 [.int .i64 fk, .int .i64 ft, .slice (some ⟨g, 0, none⟩) fd.length (fd.length + 12)] rfl rfl ?c1 (by simp [Value.oneCell']) (by omega) ?_)
      case c1 =>
        have := cells_new (w3.alloc (.cells #[.int .i64 fk, .int .i64 ft, .slice (some ⟨g, 0, none⟩) fd.length (fd.length + 12)] 27)) 27 [.int .i64 fk, .int .i64 ft, .slice (some ⟨g, 0, none⟩) fd.length (fd.length + 12)]
        simpa using this
      intro w4 hown4 hg4
      have hA := (HO3.out.alloc (.cells #[.int .i64 fk, .int .i64 ft, .slice (some ⟨g, 0, none⟩) fd.length (fd.length + 12)] 27)).alloc (.cells #[.int .i64 fk, .int .i64 ft, .slice (some ⟨g, 0, none⟩) fd.length (fd.length + 12)] 27)
      have hBA : Below w3.heap.size w3 ((w3.alloc (.cells #[.int .i64 fk, .int .i64 ft, .slice (some ⟨g, 0, none⟩) fd.length (fd.length + 12)] 27)).alloc (.cells #[.int .i64 fk, .int .i64 ft, .slice (some ⟨g, 0, none⟩) fd.length (fd.length + 12)] 27)) := ((Below.refl _ _).alloc (Nat.le_refl _) _).alloc (by simp) _
      have hlf4 : ∀ f ∈ frs ++ [⟨fk, ft, some ⟨g, 0, none⟩, fd, fd.length + 12⟩], FaLent w4 w.heap.size f := fun f hf => by
        rcases List.mem_append.1 hf with hf | hf
        · exact ((HF3.out f hf).below hBA (Nat.le_refl _)).kept hg4 hA (by decide) rfl
        · rw [List.mem_singleton.1 hf]
          exact (HN3.out.below hBA (Nat.le_refl _)).kept hg4 hA (by decide) rfl
      have hb4 : Below w.heap.size w w4 := (hbel3.trans (hBA.mono hs3)).grown hg4 (by simp; omega) (fun k hk => by cases hk; exact Nat.le_refl _)
      have HF4 := Lib.hid hlf4
      have HO4 := Lib.hid hown4
      clear hlf4 hown4 hg4 hA hBA hlen
      go_wp2_with fail
      go_roundw
      case rel => exact ⟨k + 1, frs ++ [⟨fk, ft, some ⟨g, 0, none⟩, fd, fd.length + 12⟩], by omega, by go_num, rfl, by rw [List.map_append, HM.out, HT.out]; rfl, HF4.out, by rw [List.flatMap_append]; exact HO4.out, hb4⟩
      case measure => simp [intOf]; omega
    · obtain rfl : k = fs.length := by omega
      have hM2 := HM.out
      rw [List.take_length] at hM2
      have HM2 := Lib.hid hM2
      clear hM2
      have hsl : ∀ w', (Instr.sliceAt 32 (.slice (some ⟨w.heap.size, 0, none⟩) (fs.length + 12) (fs.length + 12)) none (some (.int .i64 (fs.length : Int))) none).run Tryz.prog w' = .ok (.slice (some ⟨w.heap.size, 0, none⟩) fs.length (fs.length + 12)) w' := fun w' => by
        have h1 := run_sub_h sliceFact' sizeFact' (some ⟨w.heap.size, 0, none⟩) (fs.length + 12) (fs.length + 12) fs.length (by omega) .i64 (fs.length : Int) rfl w'
        rwa [subA_zero _ _ _ (by intro a ha; cases ha; rfl)] at h1
      go_wp2_with fail
      go_loopw [3, 6] (fun v i wr => ∃ q : Nat, q ≤ 12 ∧ i = .int .i64 q ∧ v = .slice (some ⟨w.heap.size, 0, none⟩) (fs.length + q) (fs.length + 12) ∧ (∀ f ∈ frs, FaLent wr w.heap.size f) ∧
        wr.ownsRow w.heap.size 27 3 (.slice (some ⟨w.heap.size, 0, none⟩) (fs.length + q) (fs.length + 12)) (fs.length + q) (frs.flatMap faCells ++ mks mkFc 1 q) ∧ Below w.heap.size w wr) (fun _ i _ => 12 - (intOf i).toNat)
      case atStart => exact ⟨0, by omega, rfl, rfl, HF.out, by simpa [mks] using HO.out, hbel⟩
      case round =>
        clear hbel HF HO hs
        obtain ⟨q, hq, rfl, rfl, hlf, hown, hbel⟩ := hrel
        have HF := Lib.hid hlf
        have HO := Lib.hid hown
        clear hlf hown
        have hs := hbel.size
        by_cases hltq : q < 12
        · have i2 : (q : Int) < 12 := by omega
          clear hsl
          go_wp2_with fail
          refine (markFc_at 1 _ 1 q (by omega) rfl (by omega) (by omega) wr).mono ?_
          rintro e w3 ⟨rfl, hb3⟩
          have hown3 := own_below HO.out hb3 (Nat.le_refl _)
          have hlf3 : ∀ f ∈ frs, FaLent w3 w.heap.size f := fun f hf => (HF.out f hf).below hb3 (Nat.le_refl _)
          have hbel3 := hbel.trans (hb3.mono hs)
          have hs3 := hbel3.size
          have HO3 := Lib.hid hown3
          have HF3 := Lib.hid hlf3
          clear hown3 hlf3
          go_wp2_with (at_builtin; refine wpList_append_fits _ rfl (.tmp 30) (.tmp 33) 32 rfl w.heap.size 27 i0 3 Tryz.underlying32 hi hz1 w.heap.size (fs.length + q) (fs.length + 12) (frs.flatMap faCells ++ mks mkFc 1 q) rfl (HO3.out.alloc _) ⟨w3.heap.size, 0, none⟩ 1 1 [.int .i64 (markN 1 q), .int .i64 0, .slice none 0 0] rfl rfl (cells_new _ 27 [.int .i64 (markN 1 q), .int .i64 0, .slice none 0 0]) (by simp [Value.oneCell']) (by omega) ?_)
          intro w4 hown4 hg4
          have hA := HO3.out.alloc (.cells #[.int .i64 (markN 1 q), .int .i64 0, .slice none 0 0] 27)
          have hBA : Below w3.heap.size w3 (w3.alloc (.cells #[.int .i64 (markN 1 q), .int .i64 0, .slice none 0 0] 27)) := (Below.refl _ _).alloc (Nat.le_refl _) _
          have hlf4 : ∀ f ∈ frs, FaLent w4 w.heap.size f := fun f hf => ((HF3.out f hf).below hBA (Nat.le_refl _)).kept hg4 hA (by decide) rfl
          have hb4 : Below w.heap.size w w4 := (hbel3.trans (hBA.mono hs3)).grown hg4 (by simp; omega) (fun k hk => by cases hk; exact Nat.le_refl _)
          have HF4 := Lib.hid hlf4
          have HO4 := Lib.hid hown4
          clear hlf4 hown4 hg4 hA hBA
          go_wp2_with fail
          go_roundw
          case rel => exact ⟨q + 1, by omega, by go_num, by rw [Nat.add_assoc], HF4.out, by have := HO4.out; rw [mks_succ]; exact this, hb4⟩
          case measure => simp [intOf]; omega
        · obtain rfl : q = 12 := by omega
          go_wp2_with fail
          go_ret
          exact ⟨frs, rfl, HM2.out, ⟨HO.out, HF.out⟩, hbel⟩
end Go.Proofs.YtiggpcmikhojmaaGreatDoor
