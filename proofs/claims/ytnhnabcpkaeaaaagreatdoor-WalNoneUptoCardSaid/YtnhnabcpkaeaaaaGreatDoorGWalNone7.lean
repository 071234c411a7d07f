/- The reader of wire: Command. Conditions: the reader is one that was made. -/
import Derived.Test.YtnhnabcpkaeaaaaGreatDoorGWalNone5
set_option linter.unusedVariables false
set_option linter.unusedSimpArgs false
namespace Go.Proofs.YtnhnabcpkaeaaaaGreatDoor
open Go.RowKit
set_option maxRecDepth 20000
set_option maxHeartbeats 1000000 in
theorem sureCommand_rd (M rb : Nat) (bad : Bool) (left : List Int) (x0 : Int) (x1 : ByteArray) (a2 : Option Addr) (n2 c2 : Nat) (x3 : Int) (w : World) (h : Rdr w M rb bad left) :
    Calls Tryz.prog 126 #[.pointer (some ⟨rb, 0, none⟩), .agg #[.int .u8 x0, .string x1, .slice a2 n2 c2, .int .i64 x3]] w fun e w' => e = .returned (if bad = true then .agg #[.int .u8 0, .string ⟨#[]⟩, .slice none 0 0, .int .i64 0] else .agg #[.int .u8 x0, .string x1, .slice a2 n2 c2, .int .i64 x3]) ∧ Below w.heap.size w w' := by
  obtain ⟨_, _, _, d1, _, _⟩ := h.cells
  have hlt := h.lt
  have dA : ∀ o1 o2 o3, (((w.alloc o1).alloc o2).alloc o3).cell? ⟨rb, 1, none⟩ = some (.bool bad) := fun o1 o2 o3 => by
    have hb := (((Below.refl w.heap.size w).alloc (Nat.le_refl _) o1).alloc (by simp) o2).alloc (by simp; omega) o3
    rw [hb.cell (p := ⟨rb, 1, none⟩) hlt]; exact d1
  clear h d1
  cases bad with
  | true =>
    go_enter Tryz.func126, Tryz.ntmps126
    go_wp2_with fail
    exact bodyPost_ret (v := .agg #[.int .u8 0, .string ⟨#[]⟩, .slice none 0 0, .int .i64 0]) (by first | (simp [results, Tryz.results126, go_sem]; done) | (simp [results, Tryz.results126, go_sem]; rfl)) rfl ⟨rfl, (((Below.refl w.heap.size w).alloc (Nat.le_refl _) _).alloc (by simp) _).alloc (by simp; omega) _⟩
  | false =>
    go_enter Tryz.func126, Tryz.ntmps126
    go_wp2_with fail
    exact bodyPost_ret (v := .agg #[.int .u8 x0, .string x1, .slice a2 n2 c2, .int .i64 x3]) (by first | (simp [results, Tryz.results126, go_sem]; done) | (simp [results, Tryz.results126, go_sem]; rfl)) rfl ⟨rfl, (((Below.refl w.heap.size w).alloc (Nat.le_refl _) _).alloc (by simp) _).alloc (by simp; omega) _⟩
/-- What a Command that is read is. -/
def GotCm (M rb : Nat) (r : CmP × Bool × List Int) (w : World) (e : Ending) (w' : World) : Prop :=
  ∃ f : Cm, f.plain = r.1 ∧ e = .returned (cmVal f) ∧ (VasOwn w' w.heap.size f.ao f.args.length f.cap f.args) ∧ Rdr w' M rb r.2.1 r.2.2 ∧ Only rb w w'
set_option maxHeartbeats 4000000 in
theorem rdCommand_any (M rb : Nat) (bad : Bool) (left : List Int) (r : CmP × Bool × List Int) (w : World) (hr : commandS bad left = r) (h : Rdr w M rb bad left) (hw : BytesWf left) (hl : left.length ≤ 140737488351232) :
    Calls Tryz.prog 101 #[.pointer (some ⟨rb, 0, none⟩)] w (GotCm M rb r w) := by
  have hrb := h.lt
  have hM : M ≤ w.heap.size := by obtain ⟨a, c, h⟩ := h; exact h.le
  have hmf : ∀ (fn : Fn) (first cap : Array Value) (w : World), (Instr.makeFunc fn first cap).run Tryz.prog w = .ok (.func fn first cap) w := fun _ _ _ _ => rfl
  obtain ⟨⟨x0, b_0, l_0⟩, h_0⟩ : ∃ r, kindS bad left = r := ⟨_, rfl⟩
  have q_0 := kindS_shrinks bad left hw
  rw [h_0] at q_0
  dsimp only at q_0
  obtain ⟨⟨x1, b_1, l_1⟩, h_1⟩ : ∃ r, textS b_0 l_0 = r := ⟨_, rfl⟩
  have q_1 := textS_shrinks b_0 l_0 q_0.1
  rw [h_1] at q_1
  dsimp only at q_1
  obtain ⟨⟨x3, b_2, l_2⟩, h_2⟩ : ∃ r, numS b_1 l_1 = r := ⟨_, rfl⟩
  have q_2 := numS_shrinks b_1 l_1 q_1.1
  rw [h_2] at q_2
  dsimp only at q_2
  obtain ⟨⟨x2, b_3, l_3⟩, h_3⟩ : ∃ r, valuesS b_2 l_2 = r := ⟨_, rfl⟩
  have q_3 := valuesS_shrinks b_2 l_2 q_2.1
  rw [h_3] at q_3
  dsimp only at q_3
  have HS := Lib.hid (show (if b_3 = true then ⟨0, ByteArray.empty, [], 0⟩ else ⟨x0, x1, x2, x3⟩, b_3, l_3) = r by rw [← hr]; unfold commandS; dsimp only; simp only [h_0, h_1, h_2, h_3])
  have HH0 := Lib.hid h_0
  have HW0 := Lib.hid q_0.1
  have LL0 : l_0.length ≤ 140737488351232 := Nat.le_trans q_0.2 hl
  have HH1 := Lib.hid h_1
  have HW1 := Lib.hid q_1.1
  have LL1 : l_1.length ≤ 140737488351232 := Nat.le_trans q_1.2 LL0
  have HH2 := Lib.hid h_2
  have HW2 := Lib.hid q_2.1
  have LL2 : l_2.length ≤ 140737488351232 := Nat.le_trans q_2.2 LL1
  have HH3 := Lib.hid h_3
  have HW3 := Lib.hid q_3.1
  have LL3 : l_3.length ≤ 140737488351232 := Nat.le_trans q_3.2 LL2
  clear hr h_0 q_0 h_1 q_1 h_2 q_2 h_3 q_3
  have hA := (Below.refl w.heap.size w).alloc (Nat.le_refl _) (.cells #[.int .u8 0, .string ⟨#[]⟩, .slice none 0 0, .int .i64 0] 57)
  have R0 := Lib.hid (h.below hA)
  have O0 := Lib.hid ((Only.refl rb w).alloc (.cells #[.int .u8 0, .string ⟨#[]⟩, .slice none 0 0, .int .i64 0] 57))
  have Z0 := Lib.hid (heap_alloc_new w (.cells #[.int .u8 0, .string ⟨#[]⟩, .slice none 0 0, .int .i64 0] 57))
  have hz0 : w.heap.size + 1 ≤ (w.alloc (.cells #[.int .u8 0, .string ⟨#[]⟩, .slice none 0 0, .int .i64 0] 57)).heap.size := by simp
  clear h hA
  go_enter Tryz.func101, Tryz.ntmps101
  go_wp2_with fail
  generalize w.alloc (.cells #[.int .u8 0, .string ⟨#[]⟩, .slice none 0 0, .int .i64 0] 57) = w0 at R0 O0 Z0 hz0 ⊢
  refine (known_any M rb bad left w0 R0.out).mono ?_
  rintro e wk ⟨rfl, rfl⟩
  go_wp2_with fail
  refine (kind_at M rb bad left x0 b_0 l_0 w0 HH0.out R0.out hw hl).mono ?_
  rintro e w1 ⟨rfl, hr, ho⟩
  have R1 := Lib.hid hr
  have O1 := Lib.hid (O0.out.trans ho)
  have hs1 := ho.1
  have hz1 : w.heap.size + 1 ≤ w1.heap.size := Nat.le_trans hz0 hs1
  have Z1 := Lib.hid ((ho.2 w.heap.size (by omega) (by omega)).trans Z0.out)
  clear hr ho R0 O0 Z0  
  have hA := (Below.refl w1.heap.size w1).alloc (Nat.le_refl _) (.cells #[.int .u8 x0, .string ⟨#[]⟩, .slice none 0 0, .int .i64 0] 57)
  have R2 := Lib.hid (R1.out.below hA)
  have O2 := Lib.hid (O1.out.alloc (.cells #[.int .u8 x0, .string ⟨#[]⟩, .slice none 0 0, .int .i64 0] 57))
  have Z2 := Lib.hid ((hA.block w.heap.size (by omega)).trans Z1.out)
  have G2 := Lib.hid (heap_alloc_new w1 (.cells #[.int .u8 x0, .string ⟨#[]⟩, .slice none 0 0, .int .i64 0] 57))
  have hz2 : w1.heap.size + 1 ≤ (w1.alloc (.cells #[.int .u8 x0, .string ⟨#[]⟩, .slice none 0 0, .int .i64 0] 57)).heap.size := by simp
  clear hA R1 O1 Z1
  go_wp2_with fail
  generalize w1.alloc (.cells #[.int .u8 x0, .string ⟨#[]⟩, .slice none 0 0, .int .i64 0] 57) = w2 at R2 O2 Z2 G2 hz2 ⊢
  refine (text_at M rb b_0 l_0 x1 b_1 l_1 w2 HH1.out R2.out HW0.out LL0).mono ?_
  rintro e w3 ⟨rfl, hr, ho⟩
  have R3 := Lib.hid hr
  have O3 := Lib.hid (O2.out.trans ho)
  have hs3 := ho.1
  have hz3 : w1.heap.size + 1 ≤ w3.heap.size := Nat.le_trans hz2 hs3
  have Z3 := Lib.hid ((ho.2 w.heap.size (by omega) (by omega)).trans Z2.out)
  have G3 := Lib.hid ((ho.2 w1.heap.size (by omega) (by omega)).trans G2.out)
  clear hr ho R2 O2 Z2 G2 
  go_wp2_with fail
  refine (whole_at M rb b_1 l_1 x3 b_2 l_2 w3 HH2.out R3.out HW1.out LL1).mono ?_
  rintro e w4 ⟨rfl, hr, ho⟩
  have R4 := Lib.hid hr
  have O4 := Lib.hid (O3.out.trans ho)
  have hs4 := ho.1
  have hz4 : w1.heap.size + 1 ≤ w4.heap.size := Nat.le_trans hz3 hs4
  have Z4 := Lib.hid ((ho.2 w.heap.size (by omega) (by omega)).trans Z3.out)
  have G4 := Lib.hid ((ho.2 w1.heap.size (by omega) (by omega)).trans G3.out)
  clear hr ho R3 O3 Z3 G3 
  have f1 : w4.frozen? ⟨w1.heap.size, 1, none⟩ = false := Go.Joins.unfrozen_of_block G4.out 1
  have f3 : w4.frozen? ⟨w1.heap.size, 3, none⟩ = false := Go.Joins.unfrozen_of_block G4.out 3
  have e1 : w4.cell? ⟨w1.heap.size, 1, none⟩ = some (.string ⟨#[]⟩) := Go.Joins.cell_of_block G4.out 1
  have e3 : w4.cell? ⟨w1.heap.size, 3, none⟩ = some (.int .i64 0) := Go.Joins.cell_of_block G4.out 3
  go_wp2_with fail
  have q : ((w4.setCell ⟨w1.heap.size, 1, none⟩ (.string x1)).setCell ⟨w1.heap.size, 3, none⟩ (.int .i64 x3)).heap[w1.heap.size]? = some (.cells #[.int .u8 x0, .string x1, .slice none 0 0, .int .i64 x3] 57 (0, 0)) := (Go.Joins.block_setCell (i := 3) (Go.Joins.block_setCell (i := 1) G4.out (.string x1)) (.int .i64 x3))
  have r_ : Rdr ((w4.setCell ⟨w1.heap.size, 1, none⟩ (.string x1)).setCell ⟨w1.heap.size, 3, none⟩ (.int .i64 x3)) M rb b_2 l_2 := ((R4.out.other (g := w1.heap.size) (i := 1) (by omega) (by omega) (.string x1)).other (g := w1.heap.size) (i := 3) (by omega) (by omega) (.int .i64 x3))
  have o_ : Only rb w ((w4.setCell ⟨w1.heap.size, 1, none⟩ (.string x1)).setCell ⟨w1.heap.size, 3, none⟩ (.int .i64 x3)) := ((O4.out.new (g := w1.heap.size) (i := 1) (by omega) (.string x1)).new (g := w1.heap.size) (i := 3) (by omega) (.int .i64 x3))
  have z_ : ((w4.setCell ⟨w1.heap.size, 1, none⟩ (.string x1)).setCell ⟨w1.heap.size, 3, none⟩ (.int .i64 x3)).heap[w.heap.size]? = some (.cells #[.int .u8 0, .string ⟨#[]⟩, .slice none 0 0, .int .i64 0] 57 (0, 0)) := ((heap_setCell_other _ _ _ _ (show w.heap.size ≠ w1.heap.size by omega)).trans ((heap_setCell_other _ _ _ _ (show w.heap.size ≠ w1.heap.size by omega)).trans Z4.out))
  have hz_ : w1.heap.size + 1 ≤ ((w4.setCell ⟨w1.heap.size, 1, none⟩ (.string x1)).setCell ⟨w1.heap.size, 3, none⟩ (.int .i64 x3)).heap.size := by simpa using hz4
  generalize ((w4.setCell ⟨w1.heap.size, 1, none⟩ (.string x1)).setCell ⟨w1.heap.size, 3, none⟩ (.int .i64 x3)) = w5 at q r_ o_ z_ hz_  ⊢
  have G5 := Lib.hid q
  have R5 := Lib.hid r_
  have O5 := Lib.hid o_
  have Z5 := Lib.hid z_
  have hz5 : w1.heap.size + 1 ≤ w5.heap.size := hz_
  clear q r_ o_ z_ hz_  f1 f3 e1 e3 R4 O4 Z4 G4 
  refine (values_at M rb b_2 l_2 x2 b_3 l_3 w5 HH3.out R5.out HW2.out LL2).mono ?_
  rintro e w6 ⟨a2, n2, c2, hn2, rfl, hown, hr, ho⟩
  have N2 := Lib.hid hn2
  have W2_6 := Lib.hid hown
  have hbase2 : w1.heap.size + 1 ≤ w5.heap.size := hz5
  clear hown hn2
  have R6 := Lib.hid hr
  have O6 := Lib.hid (O5.out.trans ho)
  have hs6 := ho.1
  have hz6 : w1.heap.size + 1 ≤ w6.heap.size := Nat.le_trans hz5 hs6
  have Z6 := Lib.hid ((ho.2 w.heap.size (by omega) (by omega)).trans Z5.out)
  have G6 := Lib.hid ((ho.2 w1.heap.size (by omega) (by omega)).trans G5.out)
  clear hr ho R5 O5 Z5 G5 
  have f2 : w6.frozen? ⟨w1.heap.size, 2, none⟩ = false := Go.Joins.unfrozen_of_block G6.out 2
  have e0 : w6.cell? ⟨w1.heap.size, 0, none⟩ = some (.int .u8 x0) := Go.Joins.cell_of_block G6.out 0
  have e1 : w6.cell? ⟨w1.heap.size, 1, none⟩ = some (.string x1) := Go.Joins.cell_of_block G6.out 1
  have e2 : w6.cell? ⟨w1.heap.size, 2, none⟩ = some (.slice none 0 0) := Go.Joins.cell_of_block G6.out 2
  have e3 : w6.cell? ⟨w1.heap.size, 3, none⟩ = some (.int .i64 x3) := Go.Joins.cell_of_block G6.out 3
  go_wp2_with fail
  have q : (w6.setCell ⟨w1.heap.size, 2, none⟩ (.slice a2 n2 c2)).heap[w1.heap.size]? = some (.cells #[.int .u8 x0, .string x1, .slice a2 n2 c2, .int .i64 x3] 57 (0, 0)) := (Go.Joins.block_setCell (i := 2) G6.out (.slice a2 n2 c2))
  have r_ : Rdr (w6.setCell ⟨w1.heap.size, 2, none⟩ (.slice a2 n2 c2)) M rb b_3 l_3 := (R6.out.other (g := w1.heap.size) (i := 2) (by omega) (by omega) (.slice a2 n2 c2))
  have o_ : Only rb w (w6.setCell ⟨w1.heap.size, 2, none⟩ (.slice a2 n2 c2)) := (O6.out.new (g := w1.heap.size) (i := 2) (by omega) (.slice a2 n2 c2))
  have z_ : (w6.setCell ⟨w1.heap.size, 2, none⟩ (.slice a2 n2 c2)).heap[w.heap.size]? = some (.cells #[.int .u8 0, .string ⟨#[]⟩, .slice none 0 0, .int .i64 0] 57 (0, 0)) := ((heap_setCell_other _ _ _ _ (show w.heap.size ≠ w1.heap.size by omega)).trans Z6.out)
  have v2_ := (W2_6.out.only (Only.set w1.heap.size _ 2 (.slice a2 n2 c2)) (by omega))
  have hz_ : w1.heap.size + 1 ≤ (w6.setCell ⟨w1.heap.size, 2, none⟩ (.slice a2 n2 c2)).heap.size := by simpa using hz6
  generalize (w6.setCell ⟨w1.heap.size, 2, none⟩ (.slice a2 n2 c2)) = w7 at q r_ o_ z_ hz_ v2_ ⊢
  have G7 := Lib.hid q
  have R7 := Lib.hid r_
  have O7 := Lib.hid o_
  have Z7 := Lib.hid z_
  have hz7 : w1.heap.size + 1 ≤ w7.heap.size := hz_
  have W2_7 := Lib.hid v2_
  clear q r_ o_ z_ hz_ v2_ f2 e0 e1 e2 e3 R6 O6 Z6 G6 W2_6
  refine (sureCommand_rd M rb b_3 l_3 x0 x1 a2 n2 c2 x3 w7 R7.out).mono ?_
  rintro e w8 ⟨he, hb⟩
  have R8 := Lib.hid (R7.out.below hb)
  have O8 := Lib.hid (O7.out.trans (Only.of_below hb))
  have Z8 := Lib.hid ((hb.block w.heap.size (by omega)).trans Z7.out)
  have hz8 : w1.heap.size + 1 ≤ w8.heap.size := Nat.le_trans hz7 hb.size
  have W2_8 := Lib.hid (W2_7.out.below hb (Nat.le_refl _))
  clear hb R7 O7 Z7 G7 W2_7
  have z0 : w8.cell? ⟨w.heap.size, 0, none⟩ = some (.int .u8 0) := Go.Joins.cell_of_block Z8.out 0
  have g0 : w8.frozen? ⟨w.heap.size, 0, none⟩ = false := Go.Joins.unfrozen_of_block Z8.out 0
  have z1 : w8.cell? ⟨w.heap.size, 1, none⟩ = some (.string ⟨#[]⟩) := Go.Joins.cell_of_block Z8.out 1
  have g1 : w8.frozen? ⟨w.heap.size, 1, none⟩ = false := Go.Joins.unfrozen_of_block Z8.out 1
  have z2 : w8.cell? ⟨w.heap.size, 2, none⟩ = some (.slice none 0 0) := Go.Joins.cell_of_block Z8.out 2
  have g2 : w8.frozen? ⟨w.heap.size, 2, none⟩ = false := Go.Joins.unfrozen_of_block Z8.out 2
  have z3 : w8.cell? ⟨w.heap.size, 3, none⟩ = some (.int .i64 0) := Go.Joins.cell_of_block Z8.out 3
  have g3 : w8.frozen? ⟨w.heap.size, 3, none⟩ = false := Go.Joins.unfrozen_of_block Z8.out 3
  cases b_3 with
  | true =>
    rw [if_pos rfl] at he
    subst he
    go_wp2_with fail
    have q : ((((w8.setCell ⟨w.heap.size, 0, none⟩ (.int .u8 0)).setCell ⟨w.heap.size, 1, none⟩ (.string ⟨#[]⟩)).setCell ⟨w.heap.size, 2, none⟩ (.slice none 0 0)).setCell ⟨w.heap.size, 3, none⟩ (.int .i64 0)).heap[w.heap.size]? = some (.cells #[.int .u8 0, .string ⟨#[]⟩, .slice none 0 0, .int .i64 0] 57 (0, 0)) := (Go.Joins.block_setCell (i := 3) (Go.Joins.block_setCell (i := 2) (Go.Joins.block_setCell (i := 1) (Go.Joins.block_setCell (i := 0) Z8.out (.int .u8 0)) (.string ⟨#[]⟩)) (.slice none 0 0)) (.int .i64 0))
    have r_ : Rdr ((((w8.setCell ⟨w.heap.size, 0, none⟩ (.int .u8 0)).setCell ⟨w.heap.size, 1, none⟩ (.string ⟨#[]⟩)).setCell ⟨w.heap.size, 2, none⟩ (.slice none 0 0)).setCell ⟨w.heap.size, 3, none⟩ (.int .i64 0)) M rb _ l_3 := ((((R8.out.other (g := w.heap.size) (i := 0) hM (by omega) (.int .u8 0)).other (g := w.heap.size) (i := 1) hM (by omega) (.string ⟨#[]⟩)).other (g := w.heap.size) (i := 2) hM (by omega) (.slice none 0 0)).other (g := w.heap.size) (i := 3) hM (by omega) (.int .i64 0))
    have o_ : Only rb w ((((w8.setCell ⟨w.heap.size, 0, none⟩ (.int .u8 0)).setCell ⟨w.heap.size, 1, none⟩ (.string ⟨#[]⟩)).setCell ⟨w.heap.size, 2, none⟩ (.slice none 0 0)).setCell ⟨w.heap.size, 3, none⟩ (.int .i64 0)) := ((((O8.out.new (g := w.heap.size) (i := 0) (Nat.le_refl _) (.int .u8 0)).new (g := w.heap.size) (i := 1) (Nat.le_refl _) (.string ⟨#[]⟩)).new (g := w.heap.size) (i := 2) (Nat.le_refl _) (.slice none 0 0)).new (g := w.heap.size) (i := 3) (Nat.le_refl _) (.int .i64 0))
    have v2_ := ((((W2_8.out.only (Only.set w.heap.size _ 0 (.int .u8 0)) (by omega)).only (Only.set w.heap.size _ 1 (.string ⟨#[]⟩)) (by omega)).only (Only.set w.heap.size _ 2 (.slice none 0 0)) (by omega)).only (Only.set w.heap.size _ 3 (.int .i64 0)) (by omega))
    generalize ((((w8.setCell ⟨w.heap.size, 0, none⟩ (.int .u8 0)).setCell ⟨w.heap.size, 1, none⟩ (.string ⟨#[]⟩)).setCell ⟨w.heap.size, 2, none⟩ (.slice none 0 0)).setCell ⟨w.heap.size, 3, none⟩ (.int .i64 0)) = w9 at q r_ o_ v2_ ⊢
    have d0 : w9.cell? ⟨w.heap.size, 0, none⟩ = some (.int .u8 0) := Go.Joins.cell_of_block q 0
    have d1 : w9.cell? ⟨w.heap.size, 1, none⟩ = some (.string ⟨#[]⟩) := Go.Joins.cell_of_block q 1
    have d2 : w9.cell? ⟨w.heap.size, 2, none⟩ = some (.slice none 0 0) := Go.Joins.cell_of_block q 2
    have d3 : w9.cell? ⟨w.heap.size, 3, none⟩ = some (.int .i64 0) := Go.Joins.cell_of_block q 3
    have hS := HS.out
    try simp only [if_true, if_false, Bool.false_eq_true, reduceIte] at hS
    subst hS
    exact bodyPost_ret (v := .agg #[.int .u8 0, .string ⟨#[]⟩, .slice none 0 0, .int .i64 0]) (by simp [results, Tryz.results101, go_sem, d0, d1, d2, d3]) rfl ⟨⟨0, ByteArray.empty, none, [], 0, 0⟩, rfl, rfl, VasOwn.nil _ _, r_, o_⟩
  | false =>
    rw [if_neg (by simp)] at he
    subst he
    go_wp2_with fail
    have q : ((((w8.setCell ⟨w.heap.size, 0, none⟩ (.int .u8 x0)).setCell ⟨w.heap.size, 1, none⟩ (.string x1)).setCell ⟨w.heap.size, 2, none⟩ (.slice a2 n2 c2)).setCell ⟨w.heap.size, 3, none⟩ (.int .i64 x3)).heap[w.heap.size]? = some (.cells #[.int .u8 x0, .string x1, .slice a2 n2 c2, .int .i64 x3] 57 (0, 0)) := (Go.Joins.block_setCell (i := 3) (Go.Joins.block_setCell (i := 2) (Go.Joins.block_setCell (i := 1) (Go.Joins.block_setCell (i := 0) Z8.out (.int .u8 x0)) (.string x1)) (.slice a2 n2 c2)) (.int .i64 x3))
    have r_ : Rdr ((((w8.setCell ⟨w.heap.size, 0, none⟩ (.int .u8 x0)).setCell ⟨w.heap.size, 1, none⟩ (.string x1)).setCell ⟨w.heap.size, 2, none⟩ (.slice a2 n2 c2)).setCell ⟨w.heap.size, 3, none⟩ (.int .i64 x3)) M rb _ l_3 := ((((R8.out.other (g := w.heap.size) (i := 0) hM (by omega) (.int .u8 x0)).other (g := w.heap.size) (i := 1) hM (by omega) (.string x1)).other (g := w.heap.size) (i := 2) hM (by omega) (.slice a2 n2 c2)).other (g := w.heap.size) (i := 3) hM (by omega) (.int .i64 x3))
    have o_ : Only rb w ((((w8.setCell ⟨w.heap.size, 0, none⟩ (.int .u8 x0)).setCell ⟨w.heap.size, 1, none⟩ (.string x1)).setCell ⟨w.heap.size, 2, none⟩ (.slice a2 n2 c2)).setCell ⟨w.heap.size, 3, none⟩ (.int .i64 x3)) := ((((O8.out.new (g := w.heap.size) (i := 0) (Nat.le_refl _) (.int .u8 x0)).new (g := w.heap.size) (i := 1) (Nat.le_refl _) (.string x1)).new (g := w.heap.size) (i := 2) (Nat.le_refl _) (.slice a2 n2 c2)).new (g := w.heap.size) (i := 3) (Nat.le_refl _) (.int .i64 x3))
    have v2_ := ((((W2_8.out.only (Only.set w.heap.size _ 0 (.int .u8 x0)) (by omega)).only (Only.set w.heap.size _ 1 (.string x1)) (by omega)).only (Only.set w.heap.size _ 2 (.slice a2 n2 c2)) (by omega)).only (Only.set w.heap.size _ 3 (.int .i64 x3)) (by omega))
    generalize ((((w8.setCell ⟨w.heap.size, 0, none⟩ (.int .u8 x0)).setCell ⟨w.heap.size, 1, none⟩ (.string x1)).setCell ⟨w.heap.size, 2, none⟩ (.slice a2 n2 c2)).setCell ⟨w.heap.size, 3, none⟩ (.int .i64 x3)) = w9 at q r_ o_ v2_ ⊢
    have d0 : w9.cell? ⟨w.heap.size, 0, none⟩ = some (.int .u8 x0) := Go.Joins.cell_of_block q 0
    have d1 : w9.cell? ⟨w.heap.size, 1, none⟩ = some (.string x1) := Go.Joins.cell_of_block q 1
    have d2 : w9.cell? ⟨w.heap.size, 2, none⟩ = some (.slice a2 n2 c2) := Go.Joins.cell_of_block q 2
    have d3 : w9.cell? ⟨w.heap.size, 3, none⟩ = some (.int .i64 x3) := Go.Joins.cell_of_block q 3
    have hS := HS.out
    try simp only [if_true, if_false, Bool.false_eq_true, reduceIte] at hS
    subst hS
    obtain rfl := N2.out
    have v29 := v2_.le (base' := w.heap.size) (by omega)
    exact bodyPost_ret (v := .agg #[.int .u8 x0, .string x1, .slice a2 x2.length c2, .int .i64 x3]) (by simp [results, Tryz.results101, go_sem, d0, d1, d2, d3]) rfl ⟨⟨x0, x1, a2, x2, c2, x3⟩, rfl, rfl, v29, r_, o_⟩
end Go.Proofs.YtnhnabcpkaeaaaaGreatDoor
