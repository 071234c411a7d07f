/- The reader of wire: Fact. Conditions: the reader is one that was made. -/
import Derived.Test.YtnfldkebjeigiaaDoorRdrF
namespace Go.Proofs.YtnfldkebjeigiaaDoor
open Go.RowKit
set_option maxRecDepth 20000

set_option maxHeartbeats 1000000 in
theorem sureFact_rd (M rb : Nat) (bad : Bool) (left : List Int) (x0 : Int) (x1 : Int) (a2 : Option Addr) (n2 c2 : Nat) (w : World) (h : Rdr w M rb bad left) :
    Calls Tryd.prog 59 #[.pointer (some ⟨rb, 0, none⟩), .agg #[.int .i64 x0, .int .i64 x1, .slice a2 n2 c2]] w fun e w' => e = .returned (if bad = true then .agg #[.int .i64 0, .int .i64 0, .slice none 0 0] else .agg #[.int .i64 x0, .int .i64 x1, .slice a2 n2 c2]) ∧ Below w.heap.size w w' := by
  obtain ⟨_, _, _, d1, _, _⟩ := h.cells
  have hlt := h.lt
  have dA : ∀ o1 o2 o3, (((w.alloc o1).alloc o2).alloc o3).cell? ⟨rb, 1, none⟩ = some (.bool bad) := fun o1 o2 o3 => by
    have hb := (((Below.refl w.heap.size w).alloc (Nat.le_refl _) o1).alloc (by simp) o2).alloc (by simp; omega) o3
    rw [hb.cell (p := ⟨rb, 1, none⟩) hlt]; exact d1
  clear h d1
  cases bad with
  | true =>
    go_enter Tryd.func59, Tryd.ntmps59
    go_wp2_with fail
    exact bodyPost_ret (v := .agg #[.int .i64 0, .int .i64 0, .slice none 0 0]) (by first | (simp [results, Tryd.results59, go_sem]; done) | (simp [results, Tryd.results59, go_sem]; rfl)) rfl ⟨rfl, (((Below.refl w.heap.size w).alloc (Nat.le_refl _) _).alloc (by simp) _).alloc (by simp; omega) _⟩
  | false =>
    go_enter Tryd.func59, Tryd.ntmps59
    go_wp2_with fail
    exact bodyPost_ret (v := .agg #[.int .i64 x0, .int .i64 x1, .slice a2 n2 c2]) (by first | (simp [results, Tryd.results59, go_sem]; done) | (simp [results, Tryd.results59, go_sem]; rfl)) rfl ⟨rfl, (((Below.refl w.heap.size w).alloc (Nat.le_refl _) _).alloc (by simp) _).alloc (by simp; omega) _⟩
/-- What a Fact that is read is. -/
def GotFa (M rb : Nat) (r : FaP × Bool × List Int) (w : World) (e : Ending) (w' : World) : Prop :=
  ∃ f : Fa, f.plain = r.1 ∧ e = .returned (faVal f) ∧ (VasOwn w' w.heap.size f.ao f.args.length f.cap f.args) ∧ Rdr w' M rb r.2.1 r.2.2 ∧ Only rb w w'
set_option maxHeartbeats 4000000 in
theorem rdFact_any (M rb : Nat) (bad : Bool) (left : List Int) (r : FaP × Bool × List Int) (w : World) (hr : factS bad left = r) (h : Rdr w M rb bad left) (hw : BytesWf left) (hl : left.length ≤ 140737488351232) :
    Calls Tryd.prog 24 #[.pointer (some ⟨rb, 0, none⟩)] w (GotFa M rb r w) := by
  have hrb := h.lt
  have hM : M ≤ w.heap.size := by obtain ⟨a, c, h⟩ := h; exact h.le
  have hmf : ∀ (fn : Fn) (first cap : Array Value) (w : World), (Instr.makeFunc fn first cap).run Tryd.prog w = .ok (.func fn first cap) w := fun _ _ _ _ => rfl
  obtain ⟨⟨x0, b_0, l_0⟩, h_0⟩ : ∃ r, numS bad left = r := ⟨_, rfl⟩
  have q_0 := numS_shrinks bad left hw
  rw [h_0] at q_0
  dsimp only at q_0
  obtain ⟨⟨x1, b_1, l_1⟩, h_1⟩ : ∃ r, numS b_0 l_0 = r := ⟨_, rfl⟩
  have q_1 := numS_shrinks b_0 l_0 q_0.1
  rw [h_1] at q_1
  dsimp only at q_1
  obtain ⟨⟨x2, b_2, l_2⟩, h_2⟩ : ∃ r, valuesS b_1 l_1 = r := ⟨_, rfl⟩
  have q_2 := valuesS_shrinks b_1 l_1 q_1.1
  rw [h_2] at q_2
  dsimp only at q_2
  have HS := Lib.hid (show (if b_2 = true then ⟨0, 0, []⟩ else ⟨x0, x1, x2⟩, b_2, l_2) = r by rw [← hr]; unfold factS; dsimp only; simp only [h_0, h_1, h_2])
  have HH0 := Lib.hid h_0
  have HW0 := Lib.hid q_0.1
  have LL0 : l_0.length ≤ 140737488351232 := Nat.le_trans q_0.2 hl
  have HH1 := Lib.hid h_1
  have HW1 := Lib.hid q_1.1
  have LL1 : l_1.length ≤ 140737488351232 := Nat.le_trans q_1.2 LL0
  have HH2 := Lib.hid h_2
  have HW2 := Lib.hid q_2.1
  have LL2 : l_2.length ≤ 140737488351232 := Nat.le_trans q_2.2 LL1
  clear hr h_0 q_0 h_1 q_1 h_2 q_2
  have hA := (Below.refl w.heap.size w).alloc (Nat.le_refl _) (.cells #[.int .i64 0, .int .i64 0, .slice none 0 0] 27)
  have R0 := Lib.hid (h.below hA)
  have O0 := Lib.hid ((Only.refl rb w).alloc (.cells #[.int .i64 0, .int .i64 0, .slice none 0 0] 27))
  have Z0 := Lib.hid (heap_alloc_new w (.cells #[.int .i64 0, .int .i64 0, .slice none 0 0] 27))
  have hz0 : w.heap.size + 1 ≤ (w.alloc (.cells #[.int .i64 0, .int .i64 0, .slice none 0 0] 27)).heap.size := by simp
  clear h hA
  go_enter Tryd.func24, Tryd.ntmps24
  go_wp2_with fail
  generalize w.alloc (.cells #[.int .i64 0, .int .i64 0, .slice none 0 0] 27) = w0 at R0 O0 Z0 hz0 ⊢
  refine (known_any M rb bad left w0 R0.out).mono ?_
  rintro e wk ⟨rfl, rfl⟩
  go_wp2_with fail
  refine (whole_at M rb bad left x0 b_0 l_0 w0 HH0.out R0.out hw hl).mono ?_
  rintro e w1 ⟨rfl, hr, ho⟩
  have R1 := Lib.hid hr
  have O1 := Lib.hid (O0.out.trans ho)
  have hs1 := ho.1
  have hz1 : w.heap.size + 1 ≤ w1.heap.size := Nat.le_trans hz0 hs1
  have Z1 := Lib.hid ((ho.2 w.heap.size (by omega) (by omega)).trans Z0.out)
  clear hr ho R0 O0 Z0  
  have hA := (Below.refl w1.heap.size w1).alloc (Nat.le_refl _) (.cells #[.int .i64 x0, .int .i64 0, .slice none 0 0] 27)
  have R2 := Lib.hid (R1.out.below hA)
  have O2 := Lib.hid (O1.out.alloc (.cells #[.int .i64 x0, .int .i64 0, .slice none 0 0] 27))
  have Z2 := Lib.hid ((hA.block w.heap.size (by omega)).trans Z1.out)
  have G2 := Lib.hid (heap_alloc_new w1 (.cells #[.int .i64 x0, .int .i64 0, .slice none 0 0] 27))
  have hz2 : w1.heap.size + 1 ≤ (w1.alloc (.cells #[.int .i64 x0, .int .i64 0, .slice none 0 0] 27)).heap.size := by simp
  clear hA R1 O1 Z1
  go_wp2_with fail
  generalize w1.alloc (.cells #[.int .i64 x0, .int .i64 0, .slice none 0 0] 27) = w2 at R2 O2 Z2 G2 hz2 ⊢
  refine (whole_at M rb b_0 l_0 x1 b_1 l_1 w2 HH1.out R2.out HW0.out LL0).mono ?_
  rintro e w3 ⟨rfl, hr, ho⟩
  have R3 := Lib.hid hr
  have O3 := Lib.hid (O2.out.trans ho)
  have hs3 := ho.1
  have hz3 : w1.heap.size + 1 ≤ w3.heap.size := Nat.le_trans hz2 hs3
  have Z3 := Lib.hid ((ho.2 w.heap.size (by omega) (by omega)).trans Z2.out)
  have G3 := Lib.hid ((ho.2 w1.heap.size (by omega) (by omega)).trans G2.out)
  clear hr ho R2 O2 Z2 G2 
  go_wp2_with fail
  refine (values_at M rb b_1 l_1 x2 b_2 l_2 w3 HH2.out R3.out HW1.out LL1).mono ?_
  rintro e w4 ⟨a2, n2, c2, hn2, rfl, hown, hr, ho⟩
  have N2 := Lib.hid hn2
  have W2_4 := Lib.hid hown
  have hbase2 : w1.heap.size + 1 ≤ w3.heap.size := hz3
  clear hown hn2
  have R4 := Lib.hid hr
  have O4 := Lib.hid (O3.out.trans ho)
  have hs4 := ho.1
  have hz4 : w1.heap.size + 1 ≤ w4.heap.size := Nat.le_trans hz3 hs4
  have Z4 := Lib.hid ((ho.2 w.heap.size (by omega) (by omega)).trans Z3.out)
  have G4 := Lib.hid ((ho.2 w1.heap.size (by omega) (by omega)).trans G3.out)
  clear hr ho R3 O3 Z3 G3 
  have f1 : w4.frozen? ⟨w1.heap.size, 1, none⟩ = false := Go.Joins.unfrozen_of_block G4.out 1
  have f2 : w4.frozen? ⟨w1.heap.size, 2, none⟩ = false := Go.Joins.unfrozen_of_block G4.out 2
  have e0 : w4.cell? ⟨w1.heap.size, 0, none⟩ = some (.int .i64 x0) := Go.Joins.cell_of_block G4.out 0
  have e1 : w4.cell? ⟨w1.heap.size, 1, none⟩ = some (.int .i64 0) := Go.Joins.cell_of_block G4.out 1
  have e2 : w4.cell? ⟨w1.heap.size, 2, none⟩ = some (.slice none 0 0) := Go.Joins.cell_of_block G4.out 2
  go_wp2_with fail
  have q : ((w4.setCell ⟨w1.heap.size, 1, none⟩ (.int .i64 x1)).setCell ⟨w1.heap.size, 2, none⟩ (.slice a2 n2 c2)).heap[w1.heap.size]? = some (.cells #[.int .i64 x0, .int .i64 x1, .slice a2 n2 c2] 27 (0, 0)) := (Go.Joins.block_setCell (i := 2) (Go.Joins.block_setCell (i := 1) G4.out (.int .i64 x1)) (.slice a2 n2 c2))
  have r_ : Rdr ((w4.setCell ⟨w1.heap.size, 1, none⟩ (.int .i64 x1)).setCell ⟨w1.heap.size, 2, none⟩ (.slice a2 n2 c2)) M rb b_2 l_2 := ((R4.out.other (g := w1.heap.size) (i := 1) (by omega) (by omega) (.int .i64 x1)).other (g := w1.heap.size) (i := 2) (by omega) (by omega) (.slice a2 n2 c2))
  have o_ : Only rb w ((w4.setCell ⟨w1.heap.size, 1, none⟩ (.int .i64 x1)).setCell ⟨w1.heap.size, 2, none⟩ (.slice a2 n2 c2)) := ((O4.out.new (g := w1.heap.size) (i := 1) (by omega) (.int .i64 x1)).new (g := w1.heap.size) (i := 2) (by omega) (.slice a2 n2 c2))
  have z_ : ((w4.setCell ⟨w1.heap.size, 1, none⟩ (.int .i64 x1)).setCell ⟨w1.heap.size, 2, none⟩ (.slice a2 n2 c2)).heap[w.heap.size]? = some (.cells #[.int .i64 0, .int .i64 0, .slice none 0 0] 27 (0, 0)) := ((heap_setCell_other _ _ _ _ (show w.heap.size ≠ w1.heap.size by omega)).trans ((heap_setCell_other _ _ _ _ (show w.heap.size ≠ w1.heap.size by omega)).trans Z4.out))
  have v2_ := ((W2_4.out.only (Only.set w1.heap.size _ 1 (.int .i64 x1)) (by omega)).only (Only.set w1.heap.size _ 2 (.slice a2 n2 c2)) (by omega))
  have hz_ : w1.heap.size + 1 ≤ ((w4.setCell ⟨w1.heap.size, 1, none⟩ (.int .i64 x1)).setCell ⟨w1.heap.size, 2, none⟩ (.slice a2 n2 c2)).heap.size := by simpa using hz4
  generalize ((w4.setCell ⟨w1.heap.size, 1, none⟩ (.int .i64 x1)).setCell ⟨w1.heap.size, 2, none⟩ (.slice a2 n2 c2)) = w5 at q r_ o_ z_ hz_ v2_ ⊢
  have G5 := Lib.hid q
  have R5 := Lib.hid r_
  have O5 := Lib.hid o_
  have Z5 := Lib.hid z_
  have hz5 : w1.heap.size + 1 ≤ w5.heap.size := hz_
  have W2_5 := Lib.hid v2_
  clear q r_ o_ z_ hz_ v2_ f1 f2 e0 e1 e2 R4 O4 Z4 G4 W2_4
  refine (sureFact_rd M rb b_2 l_2 x0 x1 a2 n2 c2 w5 R5.out).mono ?_
  rintro e w6 ⟨he, hb⟩
  have R6 := Lib.hid (R5.out.below hb)
  have O6 := Lib.hid (O5.out.trans (Only.of_below hb))
  have Z6 := Lib.hid ((hb.block w.heap.size (by omega)).trans Z5.out)
  have hz6 : w1.heap.size + 1 ≤ w6.heap.size := Nat.le_trans hz5 hb.size
  have W2_6 := Lib.hid (W2_5.out.below hb (Nat.le_refl _))
  clear hb R5 O5 Z5 G5 W2_5
  have z0 : w6.cell? ⟨w.heap.size, 0, none⟩ = some (.int .i64 0) := Go.Joins.cell_of_block Z6.out 0
  have g0 : w6.frozen? ⟨w.heap.size, 0, none⟩ = false := Go.Joins.unfrozen_of_block Z6.out 0
  have z1 : w6.cell? ⟨w.heap.size, 1, none⟩ = some (.int .i64 0) := Go.Joins.cell_of_block Z6.out 1
  have g1 : w6.frozen? ⟨w.heap.size, 1, none⟩ = false := Go.Joins.unfrozen_of_block Z6.out 1
  have z2 : w6.cell? ⟨w.heap.size, 2, none⟩ = some (.slice none 0 0) := Go.Joins.cell_of_block Z6.out 2
  have g2 : w6.frozen? ⟨w.heap.size, 2, none⟩ = false := Go.Joins.unfrozen_of_block Z6.out 2
  cases b_2 with
  | true =>
    rw [if_pos rfl] at he
    subst he
    go_wp2_with fail
    have q : (((w6.setCell ⟨w.heap.size, 0, none⟩ (.int .i64 0)).setCell ⟨w.heap.size, 1, none⟩ (.int .i64 0)).setCell ⟨w.heap.size, 2, none⟩ (.slice none 0 0)).heap[w.heap.size]? = some (.cells #[.int .i64 0, .int .i64 0, .slice none 0 0] 27 (0, 0)) := (Go.Joins.block_setCell (i := 2) (Go.Joins.block_setCell (i := 1) (Go.Joins.block_setCell (i := 0) Z6.out (.int .i64 0)) (.int .i64 0)) (.slice none 0 0))
    have r_ : Rdr (((w6.setCell ⟨w.heap.size, 0, none⟩ (.int .i64 0)).setCell ⟨w.heap.size, 1, none⟩ (.int .i64 0)).setCell ⟨w.heap.size, 2, none⟩ (.slice none 0 0)) M rb _ l_2 := (((R6.out.other (g := w.heap.size) (i := 0) hM (by omega) (.int .i64 0)).other (g := w.heap.size) (i := 1) hM (by omega) (.int .i64 0)).other (g := w.heap.size) (i := 2) hM (by omega) (.slice none 0 0))
    have o_ : Only rb w (((w6.setCell ⟨w.heap.size, 0, none⟩ (.int .i64 0)).setCell ⟨w.heap.size, 1, none⟩ (.int .i64 0)).setCell ⟨w.heap.size, 2, none⟩ (.slice none 0 0)) := (((O6.out.new (g := w.heap.size) (i := 0) (Nat.le_refl _) (.int .i64 0)).new (g := w.heap.size) (i := 1) (Nat.le_refl _) (.int .i64 0)).new (g := w.heap.size) (i := 2) (Nat.le_refl _) (.slice none 0 0))
    have v2_ := (((W2_6.out.only (Only.set w.heap.size _ 0 (.int .i64 0)) (by omega)).only (Only.set w.heap.size _ 1 (.int .i64 0)) (by omega)).only (Only.set w.heap.size _ 2 (.slice none 0 0)) (by omega))
    generalize (((w6.setCell ⟨w.heap.size, 0, none⟩ (.int .i64 0)).setCell ⟨w.heap.size, 1, none⟩ (.int .i64 0)).setCell ⟨w.heap.size, 2, none⟩ (.slice none 0 0)) = w9 at q r_ o_ v2_ ⊢
    have d0 : w9.cell? ⟨w.heap.size, 0, none⟩ = some (.int .i64 0) := Go.Joins.cell_of_block q 0
    have d1 : w9.cell? ⟨w.heap.size, 1, none⟩ = some (.int .i64 0) := Go.Joins.cell_of_block q 1
    have d2 : w9.cell? ⟨w.heap.size, 2, none⟩ = some (.slice none 0 0) := Go.Joins.cell_of_block q 2
    have hS := HS.out
    try simp only [if_true, if_false, Bool.false_eq_true, reduceIte] at hS
    subst hS
    exact bodyPost_ret (v := .agg #[.int .i64 0, .int .i64 0, .slice none 0 0]) (by simp [results, Tryd.results24, go_sem, d0, d1, d2]) rfl ⟨⟨0, 0, none, [], 0⟩, rfl, rfl, VasOwn.nil _ _, r_, o_⟩
  | false =>
    rw [if_neg (by simp)] at he
    subst he
    go_wp2_with fail
    have q : (((w6.setCell ⟨w.heap.size, 0, none⟩ (.int .i64 x0)).setCell ⟨w.heap.size, 1, none⟩ (.int .i64 x1)).setCell ⟨w.heap.size, 2, none⟩ (.slice a2 n2 c2)).heap[w.heap.size]? = some (.cells #[.int .i64 x0, .int .i64 x1, .slice a2 n2 c2] 27 (0, 0)) := (Go.Joins.block_setCell (i := 2) (Go.Joins.block_setCell (i := 1) (Go.Joins.block_setCell (i := 0) Z6.out (.int .i64 x0)) (.int .i64 x1)) (.slice a2 n2 c2))
    have r_ : Rdr (((w6.setCell ⟨w.heap.size, 0, none⟩ (.int .i64 x0)).setCell ⟨w.heap.size, 1, none⟩ (.int .i64 x1)).setCell ⟨w.heap.size, 2, none⟩ (.slice a2 n2 c2)) M rb _ l_2 := (((R6.out.other (g := w.heap.size) (i := 0) hM (by omega) (.int .i64 x0)).other (g := w.heap.size) (i := 1) hM (by omega) (.int .i64 x1)).other (g := w.heap.size) (i := 2) hM (by omega) (.slice a2 n2 c2))
    have o_ : Only rb w (((w6.setCell ⟨w.heap.size, 0, none⟩ (.int .i64 x0)).setCell ⟨w.heap.size, 1, none⟩ (.int .i64 x1)).setCell ⟨w.heap.size, 2, none⟩ (.slice a2 n2 c2)) := (((O6.out.new (g := w.heap.size) (i := 0) (Nat.le_refl _) (.int .i64 x0)).new (g := w.heap.size) (i := 1) (Nat.le_refl _) (.int .i64 x1)).new (g := w.heap.size) (i := 2) (Nat.le_refl _) (.slice a2 n2 c2))
    have v2_ := (((W2_6.out.only (Only.set w.heap.size _ 0 (.int .i64 x0)) (by omega)).only (Only.set w.heap.size _ 1 (.int .i64 x1)) (by omega)).only (Only.set w.heap.size _ 2 (.slice a2 n2 c2)) (by omega))
    generalize (((w6.setCell ⟨w.heap.size, 0, none⟩ (.int .i64 x0)).setCell ⟨w.heap.size, 1, none⟩ (.int .i64 x1)).setCell ⟨w.heap.size, 2, none⟩ (.slice a2 n2 c2)) = w9 at q r_ o_ v2_ ⊢
    have d0 : w9.cell? ⟨w.heap.size, 0, none⟩ = some (.int .i64 x0) := Go.Joins.cell_of_block q 0
    have d1 : w9.cell? ⟨w.heap.size, 1, none⟩ = some (.int .i64 x1) := Go.Joins.cell_of_block q 1
    have d2 : w9.cell? ⟨w.heap.size, 2, none⟩ = some (.slice a2 n2 c2) := Go.Joins.cell_of_block q 2
    have hS := HS.out
    try simp only [if_true, if_false, Bool.false_eq_true, reduceIte] at hS
    subst hS
    obtain rfl := N2.out
    have v29 := v2_.le (base' := w.heap.size) (by omega)
    exact bodyPost_ret (v := .agg #[.int .i64 x0, .int .i64 x1, .slice a2 x2.length c2]) (by simp [results, Tryd.results24, go_sem, d0, d1, d2]) rfl ⟨⟨x0, x1, a2, x2, c2⟩, rfl, rfl, v29, r_, o_⟩
end Go.Proofs.YtnfldkebjeigiaaDoor
