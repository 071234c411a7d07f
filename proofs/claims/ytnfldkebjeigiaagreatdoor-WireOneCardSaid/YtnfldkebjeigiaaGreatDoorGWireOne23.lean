/- The reader of wire: Reply. Conditions: the reader is one that was made. -/
import Derived.Test.YtnfldkebjeigiaaGreatDoorGWireOne16
import Derived.Test.YtnfldkebjeigiaaGreatDoorGWireOne9
namespace Go.Proofs.YtnfldkebjeigiaaGreatDoor
open Go.RowKit
set_option maxRecDepth 20000
set_option maxHeartbeats 1000000 in
theorem sureReply_rd (M rb : Nat) (bad : Bool) (left : List Int) (x0 : Int) (x1 : Int) (a2 : Option Addr) (n2 c2 : Nat) (a3 : Option Addr) (n3 c3 : Nat) (w : World) (h : Rdr w M rb bad left) :
    Calls Tryz.prog 85 #[.pointer (some ⟨rb, 0, none⟩), .agg #[.int .i64 x0, .int .i64 x1, .slice a2 n2 c2, .slice a3 n3 c3]] w fun e w' => e = .returned (if bad = true then .agg #[.int .i64 0, .int .i64 0, .slice none 0 0, .slice none 0 0] else .agg #[.int .i64 x0, .int .i64 x1, .slice a2 n2 c2, .slice a3 n3 c3]) ∧ Below w.heap.size w w' := by
  obtain ⟨_, _, _, d1, _, _⟩ := h.cells
  have hlt := h.lt
  have dA : ∀ o1 o2 o3, (((w.alloc o1).alloc o2).alloc o3).cell? ⟨rb, 1, none⟩ = some (.bool bad) := fun o1 o2 o3 => by
    have hb := (((Below.refl w.heap.size w).alloc (Nat.le_refl _) o1).alloc (by simp) o2).alloc (by simp; omega) o3
    rw [hb.cell (p := ⟨rb, 1, none⟩) hlt]; exact d1
  clear h d1
  cases bad with
  | true =>
    go_enter Tryz.func85, Tryz.ntmps85
    go_wp2_with fail
    exact bodyPost_ret (v := .agg #[.int .i64 0, .int .i64 0, .slice none 0 0, .slice none 0 0]) (by first | (simp [results, Tryz.results85, go_sem]; done) | (simp [results, Tryz.results85, go_sem]; rfl)) rfl ⟨rfl, (((Below.refl w.heap.size w).alloc (Nat.le_refl _) _).alloc (by simp) _).alloc (by simp; omega) _⟩
  | false =>
    go_enter Tryz.func85, Tryz.ntmps85
    go_wp2_with fail
    exact bodyPost_ret (v := .agg #[.int .i64 x0, .int .i64 x1, .slice a2 n2 c2, .slice a3 n3 c3]) (by first | (simp [results, Tryz.results85, go_sem]; done) | (simp [results, Tryz.results85, go_sem]; rfl)) rfl ⟨rfl, (((Below.refl w.heap.size w).alloc (Nat.le_refl _) _).alloc (by simp) _).alloc (by simp; omega) _⟩
/-- What a Reply that is read is. -/
def GotRp (M rb : Nat) (r : RpP × Bool × List Int) (w : World) (e : Ending) (w' : World) : Prop :=
  ∃ f : Rp, f.plain = r.1 ∧ e = .returned (rpVal f) ∧ (FasOwn w' w.heap.size f.fo f.facts.length f.fcap f.facts ∧ VasOwn w' w.heap.size f.so f.said.length f.scap f.said) ∧ Rdr w' M rb r.2.1 r.2.2 ∧ Only rb w w'
/-- The same, and the facts' lists lie apart from the values said. -/
def GotRpS (M rb : Nat) (r : RpP × Bool × List Int) (w : World) (e : Ending) (w' : World) : Prop :=
  ∃ f : Rp, f.plain = r.1 ∧ e = .returned (rpVal f) ∧ (FasOwn w' w.heap.size f.fo f.facts.length f.fcap f.facts ∧ VasOwn w' w.heap.size f.so f.said.length f.scap f.said ∧ ∀ g ∈ f.facts, (Value.slice g.ao g.args.length g.cap).ownBlock = none ∨ (Value.slice g.ao g.args.length g.cap).ownBlock ≠ (Value.slice f.so f.said.length f.scap).ownBlock) ∧ Rdr w' M rb r.2.1 r.2.2 ∧ Only rb w w'
set_option maxHeartbeats 4000000 in
theorem rdReplyS_any (M rb : Nat) (bad : Bool) (left : List Int) (r : RpP × Bool × List Int) (w : World) (hr : replyS bad left = r) (h : Rdr w M rb bad left) (hw : BytesWf left) (hl : left.length ≤ 140737488351232) :
    Calls Tryz.prog 38 #[.pointer (some ⟨rb, 0, none⟩)] w (GotRpS M rb r w) := by
  have hrb := h.lt
  have hM : M ≤ w.heap.size := by obtain ⟨a, c, h⟩ := h; exact h.le
  have hmf : ∀ (fn : Fn) (first cap : Array Value) (w : World), (Instr.makeFunc fn first cap).run Tryz.prog w = .ok (.func fn first cap) w := fun _ _ _ _ => rfl
  obtain ⟨⟨x0, b_0, l_0⟩, h_0⟩ : ∃ r, numS bad left = r := ⟨_, rfl⟩
  have q_0 := numS_shrinks bad left hw
  rw [h_0] at q_0
  dsimp only at q_0
  obtain ⟨⟨x1, b_1, l_1⟩, h_1⟩ : ∃ r, numS b_0 l_0 = r := ⟨_, rfl⟩
  have q_1 := numS_shrinks b_0 l_0 q_0.1
  rw [h_1] at q_1
  dsimp only at q_1
  obtain ⟨⟨x2, b_2, l_2⟩, h_2⟩ : ∃ r, factsS b_1 l_1 = r := ⟨_, rfl⟩
  have q_2 := factsS_shrinks b_1 l_1 q_1.1
  rw [h_2] at q_2
  dsimp only at q_2
  obtain ⟨⟨x3, b_3, l_3⟩, h_3⟩ : ∃ r, valuesS b_2 l_2 = r := ⟨_, rfl⟩
  have q_3 := valuesS_shrinks b_2 l_2 q_2.1
  rw [h_3] at q_3
  dsimp only at q_3
  have HS := Lib.hid (show (if b_3 = true then ⟨0, 0, [], []⟩ else ⟨x0, x1, x2, x3⟩, b_3, l_3) = r by rw [← hr]; unfold replyS; dsimp only; simp only [h_0, h_1, h_2, h_3])
  have HH0 := Lib.hid h_0
  have HW0 := Lib.hid q_0.1
  have LL0 : l_0.length ≤ 140737488351232 := Nat.le_trans q_0.2 hl
  have HH1 := Lib.hid h_1
  have HW1 := Lib.hid q_1.1
  have LL1 : l_1.length ≤ 140737488351232 := Nat.le_trans q_1.2 LL0
  have HH2 := Lib.hid h_2
  have HW2 := Lib.hid q_2.1
  have LL2 : l_2.length ≤ 140737488351232 := Nat.le_trans q_2.2 LL1
  have HH3 := Lib.hid h_3
  have HW3 := Lib.hid q_3.1
  have LL3 : l_3.length ≤ 140737488351232 := Nat.le_trans q_3.2 LL2
  clear hr h_0 q_0 h_1 q_1 h_2 q_2 h_3 q_3
  have hA := (Below.refl w.heap.size w).alloc (Nat.le_refl _) (.cells #[.int .i64 0, .int .i64 0, .slice none 0 0, .slice none 0 0] 34)
  have R0 := Lib.hid (h.below hA)
  have O0 := Lib.hid ((Only.refl rb w).alloc (.cells #[.int .i64 0, .int .i64 0, .slice none 0 0, .slice none 0 0] 34))
  have Z0 := Lib.hid (heap_alloc_new w (.cells #[.int .i64 0, .int .i64 0, .slice none 0 0, .slice none 0 0] 34))
  have hz0 : w.heap.size + 1 ≤ (w.alloc (.cells #[.int .i64 0, .int .i64 0, .slice none 0 0, .slice none 0 0] 34)).heap.size := by simp
  clear h hA
  go_enter Tryz.func38, Tryz.ntmps38
  go_wp2_with fail
  generalize w.alloc (.cells #[.int .i64 0, .int .i64 0, .slice none 0 0, .slice none 0 0] 34) = w0 at R0 O0 Z0 hz0 ⊢
  refine (known_any M rb bad left w0 R0.out).mono ?_
  rintro e wk ⟨rfl, rfl⟩
  go_wp2_with fail
  refine (num_at M rb bad left x0 b_0 l_0 w0 HH0.out R0.out hw hl).mono ?_
  rintro e w1 ⟨rfl, hr, ho⟩
  have R1 := Lib.hid hr
  have O1 := Lib.hid (O0.out.trans ho)
  have hs1 := ho.1
  have hz1 : w.heap.size + 1 ≤ w1.heap.size := Nat.le_trans hz0 hs1
  have Z1 := Lib.hid ((ho.2 w.heap.size (by omega) (by omega)).trans Z0.out)
  clear hr ho R0 O0 Z0  
  have hA := (Below.refl w1.heap.size w1).alloc (Nat.le_refl _) (.cells #[.int .i64 x0, .int .i64 0, .slice none 0 0, .slice none 0 0] 34)
  have R2 := Lib.hid (R1.out.below hA)
  have O2 := Lib.hid (O1.out.alloc (.cells #[.int .i64 x0, .int .i64 0, .slice none 0 0, .slice none 0 0] 34))
  have Z2 := Lib.hid ((hA.block w.heap.size (by omega)).trans Z1.out)
  have G2 := Lib.hid (heap_alloc_new w1 (.cells #[.int .i64 x0, .int .i64 0, .slice none 0 0, .slice none 0 0] 34))
  have hz2 : w1.heap.size + 1 ≤ (w1.alloc (.cells #[.int .i64 x0, .int .i64 0, .slice none 0 0, .slice none 0 0] 34)).heap.size := by simp
  clear hA R1 O1 Z1
  go_wp2_with fail
  generalize w1.alloc (.cells #[.int .i64 x0, .int .i64 0, .slice none 0 0, .slice none 0 0] 34) = w2 at R2 O2 Z2 G2 hz2 ⊢
  refine (whole_at M rb b_0 l_0 x1 b_1 l_1 w2 HH1.out R2.out HW0.out LL0).mono ?_
  rintro e w3 ⟨rfl, hr, ho⟩
  have R3 := Lib.hid hr
  have O3 := Lib.hid (O2.out.trans ho)
  have hs3 := ho.1
  have hz3 : w1.heap.size + 1 ≤ w3.heap.size := Nat.le_trans hz2 hs3
  have Z3 := Lib.hid ((ho.2 w.heap.size (by omega) (by omega)).trans Z2.out)
  have G3 := Lib.hid ((ho.2 w1.heap.size (by omega) (by omega)).trans G2.out)
  clear hr ho R2 O2 Z2 G2 
  have f1 : w3.frozen? ⟨w1.heap.size, 1, none⟩ = false := Go.Joins.unfrozen_of_block G3.out 1
  have e1 : w3.cell? ⟨w1.heap.size, 1, none⟩ = some (.int .i64 0) := Go.Joins.cell_of_block G3.out 1
  go_wp2_with fail
  have q : (w3.setCell ⟨w1.heap.size, 1, none⟩ (.int .i64 x1)).heap[w1.heap.size]? = some (.cells #[.int .i64 x0, .int .i64 x1, .slice none 0 0, .slice none 0 0] 34 (0, 0)) := (Go.Joins.block_setCell (i := 1) G3.out (.int .i64 x1))
  have r_ : Rdr (w3.setCell ⟨w1.heap.size, 1, none⟩ (.int .i64 x1)) M rb b_1 l_1 := (R3.out.other (g := w1.heap.size) (i := 1) (by omega) (by omega) (.int .i64 x1))
  have o_ : Only rb w (w3.setCell ⟨w1.heap.size, 1, none⟩ (.int .i64 x1)) := (O3.out.new (g := w1.heap.size) (i := 1) (by omega) (.int .i64 x1))
  have z_ : (w3.setCell ⟨w1.heap.size, 1, none⟩ (.int .i64 x1)).heap[w.heap.size]? = some (.cells #[.int .i64 0, .int .i64 0, .slice none 0 0, .slice none 0 0] 34 (0, 0)) := ((heap_setCell_other _ _ _ _ (show w.heap.size ≠ w1.heap.size by omega)).trans Z3.out)
  have hz_ : w1.heap.size + 1 ≤ (w3.setCell ⟨w1.heap.size, 1, none⟩ (.int .i64 x1)).heap.size := by simpa using hz3
  generalize (w3.setCell ⟨w1.heap.size, 1, none⟩ (.int .i64 x1)) = w4 at q r_ o_ z_ hz_  ⊢
  have G4 := Lib.hid q
  have R4 := Lib.hid r_
  have O4 := Lib.hid o_
  have Z4 := Lib.hid z_
  have hz4 : w1.heap.size + 1 ≤ w4.heap.size := hz_
  clear q r_ o_ z_ hz_  f1 e1 R3 O3 Z3 G3 
  refine (rowF_at M rb b_1 l_1 x2 b_2 l_2 w4 HH2.out R4.out HW1.out LL1).mono ?_
  rintro e w5 ⟨a2, n2, c2, y2, hp2, rfl, hown, hr, ho⟩
  have N2 := Lib.hid hp2
  have W2_5 := Lib.hid hown
  have hbase2 : w1.heap.size + 1 ≤ w4.heap.size := hz4
  clear hown hp2
  have R5 := Lib.hid hr
  have O5 := Lib.hid (O4.out.trans ho)
  have hs5 := ho.1
  have hz5 : w1.heap.size + 1 ≤ w5.heap.size := Nat.le_trans hz4 hs5
  have Z5 := Lib.hid ((ho.2 w.heap.size (by omega) (by omega)).trans Z4.out)
  have G5 := Lib.hid ((ho.2 w1.heap.size (by omega) (by omega)).trans G4.out)
  clear hr ho R4 O4 Z4 G4 
  have f2 : w5.frozen? ⟨w1.heap.size, 2, none⟩ = false := Go.Joins.unfrozen_of_block G5.out 2
  have e2 : w5.cell? ⟨w1.heap.size, 2, none⟩ = some (.slice none 0 0) := Go.Joins.cell_of_block G5.out 2
  go_wp2_with fail
  have q : (w5.setCell ⟨w1.heap.size, 2, none⟩ (.slice a2 n2 c2)).heap[w1.heap.size]? = some (.cells #[.int .i64 x0, .int .i64 x1, .slice a2 n2 c2, .slice none 0 0] 34 (0, 0)) := (Go.Joins.block_setCell (i := 2) G5.out (.slice a2 n2 c2))
  have r_ : Rdr (w5.setCell ⟨w1.heap.size, 2, none⟩ (.slice a2 n2 c2)) M rb b_2 l_2 := (R5.out.other (g := w1.heap.size) (i := 2) (by omega) (by omega) (.slice a2 n2 c2))
  have o_ : Only rb w (w5.setCell ⟨w1.heap.size, 2, none⟩ (.slice a2 n2 c2)) := (O5.out.new (g := w1.heap.size) (i := 2) (by omega) (.slice a2 n2 c2))
  have z_ : (w5.setCell ⟨w1.heap.size, 2, none⟩ (.slice a2 n2 c2)).heap[w.heap.size]? = some (.cells #[.int .i64 0, .int .i64 0, .slice none 0 0, .slice none 0 0] 34 (0, 0)) := ((heap_setCell_other _ _ _ _ (show w.heap.size ≠ w1.heap.size by omega)).trans Z5.out)
  have v2_ := (W2_5.out.only (Only.set w1.heap.size _ 2 (.slice a2 n2 c2)) (by omega))
  have hz_ : w1.heap.size + 1 ≤ (w5.setCell ⟨w1.heap.size, 2, none⟩ (.slice a2 n2 c2)).heap.size := by simpa using hz5
  generalize (w5.setCell ⟨w1.heap.size, 2, none⟩ (.slice a2 n2 c2)) = w6 at q r_ o_ z_ hz_ v2_ ⊢
  have G6 := Lib.hid q
  have R6 := Lib.hid r_
  have O6 := Lib.hid o_
  have Z6 := Lib.hid z_
  have hz6 : w1.heap.size + 1 ≤ w6.heap.size := hz_
  have W2_6 := Lib.hid v2_
  clear q r_ o_ z_ hz_ v2_ f2 e2 R5 O5 Z5 G5 W2_5
  refine (values_at M rb b_2 l_2 x3 b_3 l_3 w6 HH3.out R6.out HW2.out LL2).mono ?_
  rintro e w7 ⟨a3, n3, c3, hn3, rfl, hown, hr, ho⟩
  have N3 := Lib.hid hn3
  have HLT := Lib.hid (show ∀ f ∈ y2, ∀ b, (Value.slice f.ao f.args.length f.cap).ownBlock = some b → b < w6.heap.size from fun f hf b hb => (World.ownsRow.lt (show World.ownsRow _ _ _ _ _ _ _ from W2_6.out.own f hf) b hb).2)
  have W3_7 := Lib.hid hown
  have hbase3 : w1.heap.size + 1 ≤ w6.heap.size := hz6
  clear hown hn3
  have R7 := Lib.hid hr
  have O7 := Lib.hid (O6.out.trans ho)
  have hs7 := ho.1
  have hz7 : w1.heap.size + 1 ≤ w7.heap.size := Nat.le_trans hz6 hs7
  have Z7 := Lib.hid ((ho.2 w.heap.size (by omega) (by omega)).trans Z6.out)
  have G7 := Lib.hid ((ho.2 w1.heap.size (by omega) (by omega)).trans G6.out)
  have W2_7 := Lib.hid (W2_6.out.only ho (by omega))
  clear hr ho R6 O6 Z6 G6 W2_6
  have f3 : w7.frozen? ⟨w1.heap.size, 3, none⟩ = false := Go.Joins.unfrozen_of_block G7.out 3
  have e0 : w7.cell? ⟨w1.heap.size, 0, none⟩ = some (.int .i64 x0) := Go.Joins.cell_of_block G7.out 0
  have e1 : w7.cell? ⟨w1.heap.size, 1, none⟩ = some (.int .i64 x1) := Go.Joins.cell_of_block G7.out 1
  have e2 : w7.cell? ⟨w1.heap.size, 2, none⟩ = some (.slice a2 n2 c2) := Go.Joins.cell_of_block G7.out 2
  have e3 : w7.cell? ⟨w1.heap.size, 3, none⟩ = some (.slice none 0 0) := Go.Joins.cell_of_block G7.out 3
  go_wp2_with fail
  have q : (w7.setCell ⟨w1.heap.size, 3, none⟩ (.slice a3 n3 c3)).heap[w1.heap.size]? = some (.cells #[.int .i64 x0, .int .i64 x1, .slice a2 n2 c2, .slice a3 n3 c3] 34 (0, 0)) := (Go.Joins.block_setCell (i := 3) G7.out (.slice a3 n3 c3))
  have r_ : Rdr (w7.setCell ⟨w1.heap.size, 3, none⟩ (.slice a3 n3 c3)) M rb b_3 l_3 := (R7.out.other (g := w1.heap.size) (i := 3) (by omega) (by omega) (.slice a3 n3 c3))
  have o_ : Only rb w (w7.setCell ⟨w1.heap.size, 3, none⟩ (.slice a3 n3 c3)) := (O7.out.new (g := w1.heap.size) (i := 3) (by omega) (.slice a3 n3 c3))
  have z_ : (w7.setCell ⟨w1.heap.size, 3, none⟩ (.slice a3 n3 c3)).heap[w.heap.size]? = some (.cells #[.int .i64 0, .int .i64 0, .slice none 0 0, .slice none 0 0] 34 (0, 0)) := ((heap_setCell_other _ _ _ _ (show w.heap.size ≠ w1.heap.size by omega)).trans Z7.out)
  have v2_ := (W2_7.out.only (Only.set w1.heap.size _ 3 (.slice a3 n3 c3)) (by omega))
  have v3_ := (W3_7.out.only (Only.set w1.heap.size _ 3 (.slice a3 n3 c3)) (by omega))
  have hz_ : w1.heap.size + 1 ≤ (w7.setCell ⟨w1.heap.size, 3, none⟩ (.slice a3 n3 c3)).heap.size := by simpa using hz7
  generalize (w7.setCell ⟨w1.heap.size, 3, none⟩ (.slice a3 n3 c3)) = w8 at q r_ o_ z_ hz_ v2_ v3_ ⊢
  have G8 := Lib.hid q
  have R8 := Lib.hid r_
  have O8 := Lib.hid o_
  have Z8 := Lib.hid z_
  have hz8 : w1.heap.size + 1 ≤ w8.heap.size := hz_
  have W2_8 := Lib.hid v2_
  have W3_8 := Lib.hid v3_
  clear q r_ o_ z_ hz_ v2_ v3_ f3 e0 e1 e2 e3 R7 O7 Z7 G7 W2_7 W3_7
  refine (sureReply_rd M rb b_3 l_3 x0 x1 a2 n2 c2 a3 n3 c3 w8 R8.out).mono ?_
  rintro e w9 ⟨he, hb⟩
  have R9 := Lib.hid (R8.out.below hb)
  have O9 := Lib.hid (O8.out.trans (Only.of_below hb))
  have Z9 := Lib.hid ((hb.block w.heap.size (by omega)).trans Z8.out)
  have hz9 : w1.heap.size + 1 ≤ w9.heap.size := Nat.le_trans hz8 hb.size
  have W2_9 := Lib.hid (W2_8.out.below hb (Nat.le_refl _))
  have W3_9 := Lib.hid (W3_8.out.below hb (Nat.le_refl _))
  clear hb R8 O8 Z8 G8 W2_8 W3_8
  have z0 : w9.cell? ⟨w.heap.size, 0, none⟩ = some (.int .i64 0) := Go.Joins.cell_of_block Z9.out 0
  have g0 : w9.frozen? ⟨w.heap.size, 0, none⟩ = false := Go.Joins.unfrozen_of_block Z9.out 0
  have z1 : w9.cell? ⟨w.heap.size, 1, none⟩ = some (.int .i64 0) := Go.Joins.cell_of_block Z9.out 1
  have g1 : w9.frozen? ⟨w.heap.size, 1, none⟩ = false := Go.Joins.unfrozen_of_block Z9.out 1
  have z2 : w9.cell? ⟨w.heap.size, 2, none⟩ = some (.slice none 0 0) := Go.Joins.cell_of_block Z9.out 2
  have g2 : w9.frozen? ⟨w.heap.size, 2, none⟩ = false := Go.Joins.unfrozen_of_block Z9.out 2
  have z3 : w9.cell? ⟨w.heap.size, 3, none⟩ = some (.slice none 0 0) := Go.Joins.cell_of_block Z9.out 3
  have g3 : w9.frozen? ⟨w.heap.size, 3, none⟩ = false := Go.Joins.unfrozen_of_block Z9.out 3
  cases b_3 with
  | true =>
    rw [if_pos rfl] at he
    subst he
    go_wp2_with fail
    have q : ((((w9.setCell ⟨w.heap.size, 0, none⟩ (.int .i64 0)).setCell ⟨w.heap.size, 1, none⟩ (.int .i64 0)).setCell ⟨w.heap.size, 2, none⟩ (.slice none 0 0)).setCell ⟨w.heap.size, 3, none⟩ (.slice none 0 0)).heap[w.heap.size]? = some (.cells #[.int .i64 0, .int .i64 0, .slice none 0 0, .slice none 0 0] 34 (0, 0)) := (Go.Joins.block_setCell (i := 3) (Go.Joins.block_setCell (i := 2) (Go.Joins.block_setCell (i := 1) (Go.Joins.block_setCell (i := 0) Z9.out (.int .i64 0)) (.int .i64 0)) (.slice none 0 0)) (.slice none 0 0))
    have r_ : Rdr ((((w9.setCell ⟨w.heap.size, 0, none⟩ (.int .i64 0)).setCell ⟨w.heap.size, 1, none⟩ (.int .i64 0)).setCell ⟨w.heap.size, 2, none⟩ (.slice none 0 0)).setCell ⟨w.heap.size, 3, none⟩ (.slice none 0 0)) M rb _ l_3 := ((((R9.out.other (g := w.heap.size) (i := 0) hM (by omega) (.int .i64 0)).other (g := w.heap.size) (i := 1) hM (by omega) (.int .i64 0)).other (g := w.heap.size) (i := 2) hM (by omega) (.slice none 0 0)).other (g := w.heap.size) (i := 3) hM (by omega) (.slice none 0 0))
    have o_ : Only rb w ((((w9.setCell ⟨w.heap.size, 0, none⟩ (.int .i64 0)).setCell ⟨w.heap.size, 1, none⟩ (.int .i64 0)).setCell ⟨w.heap.size, 2, none⟩ (.slice none 0 0)).setCell ⟨w.heap.size, 3, none⟩ (.slice none 0 0)) := ((((O9.out.new (g := w.heap.size) (i := 0) (Nat.le_refl _) (.int .i64 0)).new (g := w.heap.size) (i := 1) (Nat.le_refl _) (.int .i64 0)).new (g := w.heap.size) (i := 2) (Nat.le_refl _) (.slice none 0 0)).new (g := w.heap.size) (i := 3) (Nat.le_refl _) (.slice none 0 0))
    have v2_ := ((((W2_9.out.only (Only.set w.heap.size _ 0 (.int .i64 0)) (by omega)).only (Only.set w.heap.size _ 1 (.int .i64 0)) (by omega)).only (Only.set w.heap.size _ 2 (.slice none 0 0)) (by omega)).only (Only.set w.heap.size _ 3 (.slice none 0 0)) (by omega))
    have v3_ := ((((W3_9.out.only (Only.set w.heap.size _ 0 (.int .i64 0)) (by omega)).only (Only.set w.heap.size _ 1 (.int .i64 0)) (by omega)).only (Only.set w.heap.size _ 2 (.slice none 0 0)) (by omega)).only (Only.set w.heap.size _ 3 (.slice none 0 0)) (by omega))
    generalize ((((w9.setCell ⟨w.heap.size, 0, none⟩ (.int .i64 0)).setCell ⟨w.heap.size, 1, none⟩ (.int .i64 0)).setCell ⟨w.heap.size, 2, none⟩ (.slice none 0 0)).setCell ⟨w.heap.size, 3, none⟩ (.slice none 0 0)) = w9 at q r_ o_ v2_ v3_ ⊢
    have d0 : w9.cell? ⟨w.heap.size, 0, none⟩ = some (.int .i64 0) := Go.Joins.cell_of_block q 0
    have d1 : w9.cell? ⟨w.heap.size, 1, none⟩ = some (.int .i64 0) := Go.Joins.cell_of_block q 1
    have d2 : w9.cell? ⟨w.heap.size, 2, none⟩ = some (.slice none 0 0) := Go.Joins.cell_of_block q 2
    have d3 : w9.cell? ⟨w.heap.size, 3, none⟩ = some (.slice none 0 0) := Go.Joins.cell_of_block q 3
    have hS := HS.out
    try simp only [if_true, if_false, Bool.false_eq_true, reduceIte] at hS
    subst hS
    exact bodyPost_ret (v := .agg #[.int .i64 0, .int .i64 0, .slice none 0 0, .slice none 0 0]) (by simp [results, Tryz.results38, go_sem, d0, d1, d2, d3]) rfl ⟨⟨0, 0, none, [], 0, none, [], 0⟩, rfl, rfl, ⟨FasOwn.nil _ _, VasOwn.nil _ _, fun g hg => absurd hg (by simp)⟩, r_, o_⟩
  | false =>
    rw [if_neg (by simp)] at he
    subst he
    go_wp2_with fail
    have q : ((((w9.setCell ⟨w.heap.size, 0, none⟩ (.int .i64 x0)).setCell ⟨w.heap.size, 1, none⟩ (.int .i64 x1)).setCell ⟨w.heap.size, 2, none⟩ (.slice a2 n2 c2)).setCell ⟨w.heap.size, 3, none⟩ (.slice a3 n3 c3)).heap[w.heap.size]? = some (.cells #[.int .i64 x0, .int .i64 x1, .slice a2 n2 c2, .slice a3 n3 c3] 34 (0, 0)) := (Go.Joins.block_setCell (i := 3) (Go.Joins.block_setCell (i := 2) (Go.Joins.block_setCell (i := 1) (Go.Joins.block_setCell (i := 0) Z9.out (.int .i64 x0)) (.int .i64 x1)) (.slice a2 n2 c2)) (.slice a3 n3 c3))
    have r_ : Rdr ((((w9.setCell ⟨w.heap.size, 0, none⟩ (.int .i64 x0)).setCell ⟨w.heap.size, 1, none⟩ (.int .i64 x1)).setCell ⟨w.heap.size, 2, none⟩ (.slice a2 n2 c2)).setCell ⟨w.heap.size, 3, none⟩ (.slice a3 n3 c3)) M rb _ l_3 := ((((R9.out.other (g := w.heap.size) (i := 0) hM (by omega) (.int .i64 x0)).other (g := w.heap.size) (i := 1) hM (by omega) (.int .i64 x1)).other (g := w.heap.size) (i := 2) hM (by omega) (.slice a2 n2 c2)).other (g := w.heap.size) (i := 3) hM (by omega) (.slice a3 n3 c3))
    have o_ : Only rb w ((((w9.setCell ⟨w.heap.size, 0, none⟩ (.int .i64 x0)).setCell ⟨w.heap.size, 1, none⟩ (.int .i64 x1)).setCell ⟨w.heap.size, 2, none⟩ (.slice a2 n2 c2)).setCell ⟨w.heap.size, 3, none⟩ (.slice a3 n3 c3)) := ((((O9.out.new (g := w.heap.size) (i := 0) (Nat.le_refl _) (.int .i64 x0)).new (g := w.heap.size) (i := 1) (Nat.le_refl _) (.int .i64 x1)).new (g := w.heap.size) (i := 2) (Nat.le_refl _) (.slice a2 n2 c2)).new (g := w.heap.size) (i := 3) (Nat.le_refl _) (.slice a3 n3 c3))
    have v2_ := ((((W2_9.out.only (Only.set w.heap.size _ 0 (.int .i64 x0)) (by omega)).only (Only.set w.heap.size _ 1 (.int .i64 x1)) (by omega)).only (Only.set w.heap.size _ 2 (.slice a2 n2 c2)) (by omega)).only (Only.set w.heap.size _ 3 (.slice a3 n3 c3)) (by omega))
    have v3_ := ((((W3_9.out.only (Only.set w.heap.size _ 0 (.int .i64 x0)) (by omega)).only (Only.set w.heap.size _ 1 (.int .i64 x1)) (by omega)).only (Only.set w.heap.size _ 2 (.slice a2 n2 c2)) (by omega)).only (Only.set w.heap.size _ 3 (.slice a3 n3 c3)) (by omega))
    generalize ((((w9.setCell ⟨w.heap.size, 0, none⟩ (.int .i64 x0)).setCell ⟨w.heap.size, 1, none⟩ (.int .i64 x1)).setCell ⟨w.heap.size, 2, none⟩ (.slice a2 n2 c2)).setCell ⟨w.heap.size, 3, none⟩ (.slice a3 n3 c3)) = w9 at q r_ o_ v2_ v3_ ⊢
    have d0 : w9.cell? ⟨w.heap.size, 0, none⟩ = some (.int .i64 x0) := Go.Joins.cell_of_block q 0
    have d1 : w9.cell? ⟨w.heap.size, 1, none⟩ = some (.int .i64 x1) := Go.Joins.cell_of_block q 1
    have d2 : w9.cell? ⟨w.heap.size, 2, none⟩ = some (.slice a2 n2 c2) := Go.Joins.cell_of_block q 2
    have d3 : w9.cell? ⟨w.heap.size, 3, none⟩ = some (.slice a3 n3 c3) := Go.Joins.cell_of_block q 3
    have hS := HS.out
    try simp only [if_true, if_false, Bool.false_eq_true, reduceIte] at hS
    subst hS
    obtain hp2 := N2.out
    have v29 := v2_.le (base' := w.heap.size) (by omega)
    obtain rfl := v29.len
    obtain rfl := N3.out
    have v39 := v3_.le (base' := w.heap.size) (by omega)
    exact bodyPost_ret (v := .agg #[.int .i64 x0, .int .i64 x1, .slice a2 y2.length c2, .slice a3 x3.length c3]) (by simp [results, Tryz.results38, go_sem, d0, d1, d2, d3]) rfl ⟨⟨x0, x1, a2, y2, c2, a3, x3, c3⟩, by simp [Rp.plain, N2.out], rfl, ⟨v29, v39, fun g hg => by
      cases hfb : (Value.slice g.ao g.args.length g.cap).ownBlock with
      | none => exact Or.inl rfl
      | some b => exact Or.inr fun he => by have := HLT.out g hg b hfb; have := (World.ownsRow.lt (show World.ownsRow _ _ _ _ _ _ _ from v3_) b he.symm).1; omega⟩, r_, o_⟩
theorem rdReply_any (M rb : Nat) (bad : Bool) (left : List Int) (r : RpP × Bool × List Int) (w : World) (hr : replyS bad left = r) (h : Rdr w M rb bad left) (hw : BytesWf left) (hl : left.length ≤ 140737488351232) :
    Calls Tryz.prog 38 #[.pointer (some ⟨rb, 0, none⟩)] w (GotRp M rb r w) :=
  (rdReplyS_any M rb bad left r w hr h hw hl).mono fun _ _ ⟨f, h1, h2, ⟨h3, h4, _⟩, h5, h6⟩ => ⟨f, h1, h2, ⟨h3, h4⟩, h5, h6⟩
end Go.Proofs.YtnfldkebjeigiaaGreatDoor
/- Entries among the arguments, with the bounds of what hangs on them. Conditions: they are read as the row reads them, their weights are bounded. -/
namespace Go.Proofs.YtnfldkebjeigiaaGreatDoor
open Go.RowKit Go.ChangeShapes
set_option maxRecDepth 20000
/-- No part of a datum is heavier than memory may be. -/
def DSized {H : Type} (P : Program) (t : TypeId) (d : DataW H) : Prop := ∀ n ∈ d.weights P t, n ≤ reachBytes
/-- A struct among the arguments. -/
theorem okWide_struct {P : Program} {W : World} {b0 : Nat} {t : TypeId} {fs : Array Field} {v : Value} (ht : P.underlying t = some (.struct fs)) (hv : Value.okWide P W .any b0 t v) : ∃ cs, v = .agg cs ∧ cs.size = P.cellsOf t := by
  simp only [Value.okWide, ht] at hv
  obtain ⟨cs, rfl, hsz, _⟩ := hv
  exact ⟨cs, rfl, hsz⟩
theorem DSized.arg {H : Type} {P : Program} {ts : List TypeId} {ds : List (DataW H)} (hsz : (DataW.weightsEach P ts ds).all (· ≤ reachBytes) = true) (j : Nat) {t : TypeId} {d : DataW H} (hj : ts[j]? = some t) (hd : ds[j]? = some d) : DSized P t d := fun n hn => by
  have := List.all_eq_true.1 hsz n (DataW.weights_mem_each hj hd n hn)
  simpa using this
theorem DSized.field {H : Type} {P : Program} {t : TypeId} {fs : Array Field} {xs : List (DataW H × List MemPlace)} (ht : P.underlying t = some (.struct fs)) (h : DSized P t (.agg (xs.map (·.1)))) {i : Nat} {f : Field} {y : DataW H × List MemPlace} (hf : fs[i]? = some f) (hy : xs[i]? = some y) : DSized P f.type y.1 := fun n hn => by
  refine h n ?_
  simp only [DataW.weights, ht]
  exact DataW.weights_mem_each (j := i) (by simp [hf]) (by simp [hy]) n hn
theorem weights_mem_all {H : Type} {P : Program} {e : TypeId} : ∀ {ds : List (DataW H)} {d : DataW H}, d ∈ ds → ∀ n ∈ d.weights P e, n ∈ DataW.weightsAll P e ds
  | d0 :: ds, d, h, n, hn => by
    simp only [DataW.weightsAll, List.mem_append]
    rcases List.mem_cons.1 h with rfl | h
    · exact Or.inl hn
    · exact Or.inr (weights_mem_all h n hn)
theorem DSized.elem {H : Type} {P : Program} {t e : TypeId} {elems sp : List (DataW H)} (ht : P.underlying t = some (.slice e)) (h : DSized P t (.slice elems sp)) {x : DataW H} (hx : x ∈ elems) : DSized P e x := fun n hn => by
  refine h n ?_
  simp only [DataW.weights, ht, List.mem_cons, List.mem_append]
  exact Or.inr (Or.inl (weights_mem_all hx n hn))
theorem DSized.len {H : Type} {P : Program} {t e : TypeId} {elems sp : List (DataW H)} (ht : P.underlying t = some (.slice e)) (h : DSized P t (.slice elems sp)) : elems.length * P.bytesOf e ≤ reachBytes := by
  have := h ((elems.length + sp.length) * P.bytesOf e) (by simp [DataW.weights, ht])
  exact Nat.le_trans (Nat.mul_le_mul_right _ (Nat.le_add_right _ _)) this
theorem DSized.str {H : Type} {P : Program} {t : TypeId} {s : ByteArray} (h : DSized (H := H) P t (.lit (.string s.data.toList))) : s.size ≤ reachBytes := by
  have := h s.data.toList.length (by simp [DataW.weights])
  simpa using this
/-- A slice's elements: none, or at an address, each by its cells and its own reading, with the bounds. -/
theorem slice_sized {H : Type} {enc : TypeId × Value → H} {P : Program} {W : World} {base : Nat} {sp : Nat → Bool} {hd : Bool} {t e : TypeId} {ao : Option Addr} {len cap C : Nat} {d : DataW H} {p : List MemPlace}
    (ht : P.underlying t = some (.slice e)) (hC : P.cellsOf e = C) (hC0 : 0 < C) (h : DataW.Trod enc P W base sp hd t (.slice ao len cap) d p) (hz : DSized P t d) :
    len * P.bytesOf e ≤ reachBytes ∧ (len = 0 ∨ ∃ (b off n : Nat) (D : Nat → DataW H) (Pl : Nat → List MemPlace), ao = some ⟨b, off, none⟩ ∧ base ≤ b ∧ b < W.heap.size ∧
      ∀ i, i < len → DSized P e (D i) ∧ ∃ cs : List Value, cs.length = C ∧ (∀ j, j < C → W.cell? ⟨b, off + i * C + j, none⟩ = cs[j]?) ∧ DataW.trod enc P W base sp hd n e cs = some (D i, Pl i)) := by
  obtain ⟨fuel, hf⟩ := h
  rcases Go.Deep.open_slice ht hf with ⟨h0, _⟩ | ⟨a, len', cap', m, n, D, Pl, h0, hb, hl, hm, hmm, hd, hx⟩
  · simp [Value.cells] at h0
    obtain ⟨rfl, rfl, rfl⟩ := h0
    exact ⟨by simp, Or.inl rfl⟩
  · simp [Value.cells] at h0
    obtain ⟨rfl, rfl, rfl⟩ := h0
    simp only [Prod.mk.injEq] at hd
    obtain ⟨rfl, _⟩ := hd
    have hlen := DSized.len ht hz
    rw [List.length_map, List.length_range] at hlen
    refine ⟨hlen, ?_⟩
    by_cases hz0 : len = 0
    · exact Or.inl hz0
    · right
      have hlm : len ≤ m := by rw [hmm]; split <;> omega
      rw [hC] at hx
      obtain ⟨b, off, spot⟩ := a
      have hs : spot = none := by
        obtain ⟨cs', h1, _⟩ := hx 0 (by omega)
        have h2 := (World.cells?_some h1).2.2 0 hC0
        have h3 : cs'.length = C := (World.cells?_some h1).2.1
        rw [List.getElem?_eq_getElem (by omega)] at h2
        simpa [Addr.add] using World.cell?_spot h2
      subst hs
      refine ⟨b, off, n, D, Pl, rfl, hb, ?_, fun i hi => ⟨DSized.elem ht hz (List.mem_map.2 ⟨i, List.mem_range.2 hi, rfl⟩), ?_⟩⟩
      · obtain ⟨cs', h1, _⟩ := hx 0 (by omega)
        have h2 := World.cells?_block h1 hC0
        simpa [Addr.add] using h2
      · obtain ⟨cs', h1, h2⟩ := hx i (by omega)
        obtain ⟨_, h3, h4⟩ := World.cells?_some h1
        refine ⟨cs', h3, fun j hj => ?_, h2⟩
        have := h4 j hj
        rw [Go.Deep.add_add, Go.WideShapes.add_plain] at this
        rw [← this, Nat.add_assoc]
/-- A slice among the arguments, whose things are read one by one, with the bounds. -/
theorem open_sized {α : Type} {k : Nat} {cells : α → List Value} {sub : World → Nat → α → Prop} {H : Type} {enc : TypeId × Value → H} {P : Program} {W : World} {sp : Nat → Bool} {hd : Bool} {t e : TypeId} {ao : Option Addr} {len cap : Nat} {d : DataW H} {p : List MemPlace} (Q : α → Prop)
    (ht : P.underlying t = some (.slice e)) (hC : P.cellsOf e = k) (hk : 0 < k)
    (hel : ∀ (cs : List Value) (n : Nat) (y : DataW H) (pl : List MemPlace), cs.length = k → DataW.trod enc P W 0 sp hd n e cs = some (y, pl) → DSized P e y → ∃ x : α, cells x = cs ∧ sub W W.heap.size x ∧ Q x)
    (h : DataW.Trod enc P W 0 sp hd t (.slice ao len cap) d p) (hz : DSized P t d) :
    ∃ xs : List α, xs.length = len ∧ RowsIn k cells sub W W.heap.size ao xs ∧ (∀ x ∈ xs, Q x) ∧ (ao = none → cap = 0) ∧ len ≤ cap ∧ len * P.bytesOf e ≤ reachBytes := by
  obtain ⟨h1, h2, h3⟩ := slice_shape ht h
  obtain ⟨hm, h0 | ⟨b, off, n, D, Pl, e1, _, hb, hx⟩⟩ := slice_sized ht hC hk h hz
  · exact ⟨[], h0.symm, Or.inl rfl, (by intro x hx; cases hx), h3, h1, hm⟩
  · have hne : ∀ i, i < len → ∃ x : α, (∀ j, j < k → W.cell? ⟨b, off + i * k + j, none⟩ = (cells x)[j]?) ∧ sub W W.heap.size x ∧ Q x := by
      intro i hi
      obtain ⟨hzi, cs, hl, hc, ht'⟩ := hx i hi
      obtain ⟨x, rfl, hs, hq⟩ := hel cs n _ _ hl ht' hzi
      exact ⟨x, hc, hs, hq⟩
    have key : ∀ m, m ≤ len → ∃ xs : List α, xs.length = m ∧ (∀ x ∈ xs, Q x) ∧ ∀ (i : Nat) (x : α), xs[i]? = some x → (∀ j, j < k → W.cell? ⟨b, off + i * k + j, none⟩ = (cells x)[j]?) ∧ sub W W.heap.size x := by
      intro m
      induction m with
      | zero => intro _; exact ⟨[], rfl, (by intro x hx; cases hx), (by intro i x hx; simp at hx)⟩
      | succ m ih =>
        intro hm'
        obtain ⟨xs, e1, e2, e3⟩ := ih (by omega)
        obtain ⟨x, g1, g2, g3⟩ := hne m (by omega)
        refine ⟨xs ++ [x], by simp [e1], fun y hy => ?_, fun i y hy => ?_⟩
        · rcases List.mem_append.1 hy with hy | hy
          · exact e2 y hy
          · rw [List.mem_singleton.1 hy]; exact g3
        · by_cases hi : i < m
          · rw [List.getElem?_append_left (by omega)] at hy; exact e3 i y hy
          · rw [List.getElem?_append_right (by omega)] at hy
            have hi' : i = m := by
              rcases Nat.lt_or_ge (i - xs.length) 1 with hh | hh
              · omega
              · rw [List.getElem?_eq_none (by simpa using hh)] at hy; cases hy
            subst hi'
            rw [e1, Nat.sub_self] at hy
            obtain rfl : x = y := by simpa using hy
            exact ⟨g1, g2⟩
    obtain ⟨xs, q1, q2, q3⟩ := key len (Nat.le_refl _)
    exact ⟨xs, q1, Or.inr ⟨b, off, e1, hb, q3⟩, q2, h3, h1, hm⟩
/-- A value among the arguments. -/
def VaArg (v : Va) : Prop := (Lit.int .u8 v.kind).wf = true ∧ (Lit.int .i64 v.num).wf = true ∧ v.text.size ≤ reachBytes
theorem cells_va : Tryz.prog.cellsOf 24 = 3 := by kernel_rfl
theorem cells_en : Tryz.prog.cellsOf 38 = 9 := by kernel_rfl
theorem cells_cm : Tryz.prog.cellsOf 30 = 4 := by kernel_rfl
theorem cells_i64 : Tryz.prog.cellsOf 3 = 1 := by kernel_rfl
theorem cells_int64 : Tryz.prog.cellsOf 2 = 1 := by kernel_rfl
theorem cells_str : Tryz.prog.cellsOf 9 = 1 := by kernel_rfl
theorem cells_ek : Tryz.prog.cellsOf 35 = 1 := by kernel_rfl
theorem cells_vk : Tryz.prog.cellsOf 22 = 1 := by kernel_rfl
theorem cells_ck : Tryz.prog.cellsOf 28 = 1 := by kernel_rfl
theorem cells_vas : Tryz.prog.cellsOf 25 = 1 := by kernel_rfl
theorem cells_ints : Tryz.prog.cellsOf 36 = 1 := by kernel_rfl
theorem va_el {H : Type} {enc : TypeId × Value → H} {W : World} {sp : Nat → Bool} {hd : Bool} (cs : List Value) (n : Nat) (y : DataW H) (pl : List MemPlace) (hl : cs.length = 3) (h : DataW.trod enc Tryz.prog W 0 sp hd n 24 cs = some (y, pl)) (hz : DSized Tryz.prog 24 y) :
    ∃ x : Va, vaCells x = cs ∧ noSub W W.heap.size x ∧ VaArg x := by
  obtain ⟨c0, c1, c2, rfl⟩ : ∃ c0 c1 c2, cs = [c0, c1, c2] := by
    match cs, hl with
    | [c0, c1, c2], _ => exact ⟨c0, c1, c2, rfl⟩
  obtain ⟨xs, m, _, hx, _, hlen, hf⟩ := DataW.trod_struct Tryz.underlying24 h
  simp only [Prod.mk.injEq] at hx
  obtain ⟨rfl, _⟩ := hx
  match xs, hlen with
  | [y0, y1, y2], _ =>
    have h0 := hf 0 _ rfl
    have h1 := hf 1 _ rfl
    have h2 := hf 2 _ rfl
    simp [cells_vk, cells_int64, cells_str] at h0 h1 h2
    obtain ⟨k0, e0, _, w0⟩ := DataW.trod_int Tryz.underlying22 h0
    obtain ⟨k1, e1, _, w1⟩ := DataW.trod_int Tryz.underlying2 h1
    obtain ⟨s, e2, d2, _⟩ := DataW.trod_string Tryz.underlying9 h2
    have z2 := DSized.field Tryz.underlying24 hz (i := 2) (y := y2) rfl rfl
    rw [d2] at z2
    simp at e0 e1 e2
    subst e0 e1 e2
    exact ⟨⟨k0, k1, s⟩, rfl, trivial, w0, w1, DSized.str z2⟩
theorem i_el {H : Type} {enc : TypeId × Value → H} {W : World} {sp : Nat → Bool} {hd : Bool} (cs : List Value) (n : Nat) (y : DataW H) (pl : List MemPlace) (hl : cs.length = 1) (h : DataW.trod enc Tryz.prog W 0 sp hd n 3 cs = some (y, pl)) (_ : DSized Tryz.prog 3 y) :
    ∃ x : Int, iCells x = cs ∧ noSub W W.heap.size x ∧ (Lit.int .i64 x).wf = true := by
  obtain ⟨k0, e0, _, w0⟩ := DataW.trod_int Tryz.underlying3 h
  exact ⟨k0, e0.symm, trivial, w0⟩
/-- An entry among the arguments. -/
structure EnWf (e : En) : Prop where
  term : (Lit.int .i64 e.term).wf = true
  kind : (Lit.int .u8 e.kind).wf = true
  session : (Lit.int .i64 e.session).wf = true
  seq : (Lit.int .i64 e.seq).wf = true
  ck : (Lit.int .u8 e.ck).wf = true
  text : e.text.size ≤ 140737488351232
  args : ∀ v ∈ e.args, VaArg v
  num : (Lit.int .i64 e.num).wf = true
  vs : ∀ v ∈ e.vs, (Lit.int .i64 v).wf = true
  argn : e.args.length * 32 ≤ 140737488351232
  vn : e.vs.length * 8 ≤ 140737488351232
  anil : e.aao = none → e.acap = 0
  vnil : e.vao = none → e.vcap = 0
  acap : e.args.length ≤ e.acap
  vcap : e.vs.length ≤ e.vcap
theorem bytes_va : Tryz.prog.bytesOf 24 = 32 := by kernel_rfl
theorem bytes_i : Tryz.prog.bytesOf 3 = 8 := by kernel_rfl
theorem bytes_en : Tryz.prog.bytesOf 38 = 112 := by kernel_rfl
theorem en_el {H : Type} {enc : TypeId × Value → H} {W : World} {sp : Nat → Bool} {hd : Bool} (cs : List Value) (n : Nat) (y : DataW H) (pl : List MemPlace) (hl : cs.length = 9) (h : DataW.trod enc Tryz.prog W 0 sp hd n 38 cs = some (y, pl)) (hz : DSized Tryz.prog 38 y) :
    ∃ x : En, enCells x = cs ∧ enSub W W.heap.size x ∧ EnWf x := by
  obtain ⟨c0, c1, c2, c3, c4, c5, c6, c7, c8, rfl⟩ : ∃ c0 c1 c2 c3 c4 c5 c6 c7 c8, cs = [c0, c1, c2, c3, c4, c5, c6, c7, c8] := by
    match cs, hl with
    | [c0, c1, c2, c3, c4, c5, c6, c7, c8], _ => exact ⟨c0, c1, c2, c3, c4, c5, c6, c7, c8, rfl⟩
  obtain ⟨xs, m, _, hx, _, hlen, hf⟩ := DataW.trod_struct Tryz.underlying38 h
  simp only [Prod.mk.injEq] at hx
  obtain ⟨rfl, _⟩ := hx
  match xs, hlen with
  | [y0, y1, y2, y3, y4, y5], _ =>
    have h0 := hf 0 _ rfl
    have h1 := hf 1 _ rfl
    have h2 := hf 2 _ rfl
    have h3 := hf 3 _ rfl
    have h4 := hf 4 _ rfl
    have h5 := hf 5 _ rfl
    have z4 := DSized.field Tryz.underlying38 hz (i := 4) (y := y4) rfl rfl
    have z5 := DSized.field Tryz.underlying38 hz (i := 5) (y := y5) rfl rfl
    simp [cells_i64, cells_ek, cells_cm, cells_ints] at h0 h1 h2 h3 h4 h5
    obtain ⟨k0, e0, _, w0⟩ := DataW.trod_int Tryz.underlying3 h0
    obtain ⟨k1, e1, _, w1⟩ := DataW.trod_int Tryz.underlying35 h1
    obtain ⟨k2, e2, _, w2⟩ := DataW.trod_int Tryz.underlying3 h2
    obtain ⟨k3, e3, _, w3⟩ := DataW.trod_int Tryz.underlying3 h3
    obtain ⟨va, vl, vc, e5, t5⟩ := slice_cell Tryz.underlying36 h5
    obtain ⟨vs, rfl, vx, vq, vnil, vcap, vlen⟩ := open_sized (k := 1) (cells := iCells) (sub := noSub) (fun x => (Lit.int .i64 x).wf = true) Tryz.underlying36 cells_i64 (by decide) i_el t5 z5
    obtain ⟨ys, m4, _, hy, _, hlen4, hf4⟩ := DataW.trod_struct Tryz.underlying30 h4
    obtain ⟨d4, p4⟩ := y4
    simp only [Prod.mk.injEq] at hy
    obtain ⟨rfl, _⟩ := hy
    match ys, hlen4 with
    | [u0, u1, u2, u3], _ =>
      have g0 := hf4 0 _ rfl
      have g1 := hf4 1 _ rfl
      have g2 := hf4 2 _ rfl
      have g3 := hf4 3 _ rfl
      have q1 := DSized.field Tryz.underlying30 z4 (i := 1) (y := u1) rfl rfl
      have q2 := DSized.field Tryz.underlying30 z4 (i := 2) (y := u2) rfl rfl
      simp [cells_i64, cells_ck, cells_str, cells_vas] at g0 g1 g2 g3
      obtain ⟨k4, e4, _, w4⟩ := DataW.trod_int Tryz.underlying28 g0
      obtain ⟨s, e6, d6, _⟩ := DataW.trod_string Tryz.underlying9 g1
      obtain ⟨aa, al, ac, e7, t7⟩ := slice_cell Tryz.underlying25 g2
      obtain ⟨args, rfl, ax, aq, anil, acap, alen⟩ := open_sized (k := 3) (cells := vaCells) (sub := noSub) VaArg Tryz.underlying25 cells_va (by decide) va_el t7 q2
      obtain ⟨k8, e8, _, w8⟩ := DataW.trod_int Tryz.underlying3 g3
      rw [d6] at q1
      simp at e0 e1 e2 e3 e4 e5 e6 e7 e8
      subst e0 e1 e2 e3 e4 e5 e6 e7 e8
      rw [bytes_va] at alen
      rw [bytes_i] at vlen
      exact ⟨⟨k0, k1, k2, k3, k4, s, aa, args, ac, k8, va, vs, vc⟩, rfl, ⟨ax, vx⟩, ⟨w0, w1, w2, w3, w4, DSized.str q1, aq, w8, vq, alen, vlen, anil, vnil, acap, vcap⟩⟩
/-- Entries among the arguments. -/
theorem open_entries {H : Type} {enc : TypeId × Value → H} {W : World} {sp : Nat → Bool} {hd : Bool} {ao : Option Addr} {len cap : Nat} {d : DataW H} {p : List MemPlace} (h : DataW.Trod enc Tryz.prog W 0 sp hd 72 (.slice ao len cap) d p) (hz : DSized Tryz.prog 72 d) :
    ∃ es : List En, es.length = len ∧ EnsIn W W.heap.size ao es ∧ (∀ e ∈ es, EnWf e) ∧ (ao = none → cap = 0) ∧ len ≤ cap ∧ len * 112 ≤ 140737488351232 := by
  obtain ⟨es, h1, h2, h3, h4, h5, h6⟩ := open_sized (k := 9) (cells := enCells) (sub := enSub) EnWf Tryz.underlying72 cells_en (by decide) en_el h hz
  rw [bytes_en] at h6
  exact ⟨es, h1, h2, h3, h4, h5, h6⟩
end Go.Proofs.YtnfldkebjeigiaaGreatDoor
