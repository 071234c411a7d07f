/- The reader of wire: Entry. Conditions: the reader is one that was made. -/
import Derived.Test.YtnhnabcpkaeaaaaGreatDoorGWalNone7
set_option linter.unusedVariables false
set_option linter.unusedSimpArgs false
namespace Go.Proofs.YtnhnabcpkaeaaaaGreatDoor
open Go.RowKit
set_option maxRecDepth 20000
set_option maxHeartbeats 1000000 in
theorem sureEntry_rd (M rb : Nat) (bad : Bool) (left : List Int) (x0 : Int) (x1 : Int) (x2 : Int) (x3 : Int) (x4 : Int) (x5 : ByteArray) (a6 : Option Addr) (n6 c6 : Nat) (x7 : Int) (a8 : Option Addr) (n8 c8 : Nat) (w : World) (h : Rdr w M rb bad left) :
    Calls Tryz.prog 103 #[.pointer (some ⟨rb, 0, none⟩), .agg #[.int .i64 x0, .int .u8 x1, .int .i64 x2, .int .i64 x3, .int .u8 x4, .string x5, .slice a6 n6 c6, .int .i64 x7, .slice a8 n8 c8]] w fun e w' => e = .returned (if bad = true then .agg #[.int .i64 0, .int .u8 0, .int .i64 0, .int .i64 0, .int .u8 0, .string ⟨#[]⟩, .slice none 0 0, .int .i64 0, .slice none 0 0] else .agg #[.int .i64 x0, .int .u8 x1, .int .i64 x2, .int .i64 x3, .int .u8 x4, .string x5, .slice a6 n6 c6, .int .i64 x7, .slice a8 n8 c8]) ∧ Below w.heap.size w w' := by
  obtain ⟨_, _, _, d1, _, _⟩ := h.cells
  have hlt := h.lt
  have dA : ∀ o1 o2 o3, (((w.alloc o1).alloc o2).alloc o3).cell? ⟨rb, 1, none⟩ = some (.bool bad) := fun o1 o2 o3 => by
    have hb := (((Below.refl w.heap.size w).alloc (Nat.le_refl _) o1).alloc (by simp) o2).alloc (by simp; omega) o3
    rw [hb.cell (p := ⟨rb, 1, none⟩) hlt]; exact d1
  clear h d1
  cases bad with
  | true =>
    go_enter Tryz.func103, Tryz.ntmps103
    go_wp2_with fail
    exact bodyPost_ret (v := .agg #[.int .i64 0, .int .u8 0, .int .i64 0, .int .i64 0, .int .u8 0, .string ⟨#[]⟩, .slice none 0 0, .int .i64 0, .slice none 0 0]) (by first | (simp [results, Tryz.results103, go_sem]; done) | (simp [results, Tryz.results103, go_sem]; rfl)) rfl ⟨rfl, (((Below.refl w.heap.size w).alloc (Nat.le_refl _) _).alloc (by simp) _).alloc (by simp; omega) _⟩
  | false =>
    go_enter Tryz.func103, Tryz.ntmps103
    go_wp2_with fail
    exact bodyPost_ret (v := .agg #[.int .i64 x0, .int .u8 x1, .int .i64 x2, .int .i64 x3, .int .u8 x4, .string x5, .slice a6 n6 c6, .int .i64 x7, .slice a8 n8 c8]) (by first | (simp [results, Tryz.results103, go_sem]; done) | (simp [results, Tryz.results103, go_sem]; rfl)) rfl ⟨rfl, (((Below.refl w.heap.size w).alloc (Nat.le_refl _) _).alloc (by simp) _).alloc (by simp; omega) _⟩
/-- What a Entry that is read is. -/
def GotEn (M rb : Nat) (r : EnP × Bool × List Int) (w : World) (e : Ending) (w' : World) : Prop :=
  ∃ f : En, f.plain = r.1 ∧ e = .returned (enVal f) ∧ (VasOwn w' w.heap.size f.aao f.args.length f.acap f.args ∧ IntsOwn w' w.heap.size f.vao f.vs.length f.vcap f.vs) ∧ Rdr w' M rb r.2.1 r.2.2 ∧ Only rb w w'
set_option maxHeartbeats 4000000 in
theorem rdEntry_any (M rb : Nat) (bad : Bool) (left : List Int) (r : EnP × Bool × List Int) (w : World) (hr : entryS bad left = r) (h : Rdr w M rb bad left) (hw : BytesWf left) (hl : left.length ≤ 140737488351232) :
    Calls Tryz.prog 71 #[.pointer (some ⟨rb, 0, none⟩)] w (GotEn M rb r w) := by
  have hrb := h.lt
  have hM : M ≤ w.heap.size := by obtain ⟨a, c, h⟩ := h; exact h.le
  have hmf : ∀ (fn : Fn) (first cap : Array Value) (w : World), (Instr.makeFunc fn first cap).run Tryz.prog w = .ok (.func fn first cap) w := fun _ _ _ _ => rfl
  obtain ⟨⟨x0, b_0, l_0⟩, h_0⟩ : ∃ r, numS bad left = r := ⟨_, rfl⟩
  have q_0 := numS_shrinks bad left hw
  rw [h_0] at q_0
  dsimp only at q_0
  obtain ⟨⟨x1, b_1, l_1⟩, h_1⟩ : ∃ r, kindS b_0 l_0 = r := ⟨_, rfl⟩
  have q_1 := kindS_shrinks b_0 l_0 q_0.1
  rw [h_1] at q_1
  dsimp only at q_1
  obtain ⟨⟨x2, b_2, l_2⟩, h_2⟩ : ∃ r, numS b_1 l_1 = r := ⟨_, rfl⟩
  have q_2 := numS_shrinks b_1 l_1 q_1.1
  rw [h_2] at q_2
  dsimp only at q_2
  obtain ⟨⟨x3, b_3, l_3⟩, h_3⟩ : ∃ r, numS b_2 l_2 = r := ⟨_, rfl⟩
  have q_3 := numS_shrinks b_2 l_2 q_2.1
  rw [h_3] at q_3
  dsimp only at q_3
  obtain ⟨⟨xc, b_4, l_4⟩, h_4⟩ : ∃ r, commandS b_3 l_3 = r := ⟨_, rfl⟩
  have q_4 := commandS_shrinks b_3 l_3 q_3.1
  rw [h_4] at q_4
  dsimp only at q_4
  obtain ⟨⟨x8, b_5, l_5⟩, h_5⟩ : ∃ r, intsS b_4 l_4 = r := ⟨_, rfl⟩
  have q_5 := intsS_shrinks b_4 l_4 q_4.1
  rw [h_5] at q_5
  dsimp only at q_5
  have HS := Lib.hid (show (if b_5 = true then ⟨0, 0, 0, 0, 0, ByteArray.empty, [], 0, []⟩ else ⟨x0, x1, x2, x3, xc.kind, xc.text, xc.args, xc.num, x8⟩, b_5, l_5) = r by rw [← hr]; unfold entryS; dsimp only; simp only [h_0, h_1, h_2, h_3, h_4, h_5])
  have HH0 := Lib.hid h_0
  have HW0 := Lib.hid q_0.1
  have LL0 : l_0.length ≤ 140737488351232 := Nat.le_trans q_0.2 hl
  have HH1 := Lib.hid h_1
  have HW1 := Lib.hid q_1.1
  have LL1 : l_1.length ≤ 140737488351232 := Nat.le_trans q_1.2 LL0
  have HH2 := Lib.hid h_2
  have HW2 := Lib.hid q_2.1
  have LL2 : l_2.length ≤ 140737488351232 := Nat.le_trans q_2.2 LL1
  have HH3 := Lib.hid h_3
  have HW3 := Lib.hid q_3.1
  have LL3 : l_3.length ≤ 140737488351232 := Nat.le_trans q_3.2 LL2
  have HH4 := Lib.hid h_4
  have HW4 := Lib.hid q_4.1
  have LL4 : l_4.length ≤ 140737488351232 := Nat.le_trans q_4.2 LL3
  have HH5 := Lib.hid h_5
  have HW5 := Lib.hid q_5.1
  have LL5 : l_5.length ≤ 140737488351232 := Nat.le_trans q_5.2 LL4
  clear hr h_0 q_0 h_1 q_1 h_2 q_2 h_3 q_3 h_4 q_4 h_5 q_5
  have hA := (Below.refl w.heap.size w).alloc (Nat.le_refl _) (.cells #[.int .i64 0, .int .u8 0, .int .i64 0, .int .i64 0, .int .u8 0, .string ⟨#[]⟩, .slice none 0 0, .int .i64 0, .slice none 0 0] 60)
  have R0 := Lib.hid (h.below hA)
  have O0 := Lib.hid ((Only.refl rb w).alloc (.cells #[.int .i64 0, .int .u8 0, .int .i64 0, .int .i64 0, .int .u8 0, .string ⟨#[]⟩, .slice none 0 0, .int .i64 0, .slice none 0 0] 60))
  have Z0 := Lib.hid (heap_alloc_new w (.cells #[.int .i64 0, .int .u8 0, .int .i64 0, .int .i64 0, .int .u8 0, .string ⟨#[]⟩, .slice none 0 0, .int .i64 0, .slice none 0 0] 60))
  have hz0 : w.heap.size + 1 ≤ (w.alloc (.cells #[.int .i64 0, .int .u8 0, .int .i64 0, .int .i64 0, .int .u8 0, .string ⟨#[]⟩, .slice none 0 0, .int .i64 0, .slice none 0 0] 60)).heap.size := by simp
  clear h hA
  go_enter Tryz.func71, Tryz.ntmps71
  go_wp2_with fail
  generalize w.alloc (.cells #[.int .i64 0, .int .u8 0, .int .i64 0, .int .i64 0, .int .u8 0, .string ⟨#[]⟩, .slice none 0 0, .int .i64 0, .slice none 0 0] 60) = w0 at R0 O0 Z0 hz0 ⊢
  refine (known_any M rb bad left w0 R0.out).mono ?_
  rintro e wk ⟨rfl, rfl⟩
  go_wp2_with fail
  refine (whole_at M rb bad left x0 b_0 l_0 w0 HH0.out R0.out hw hl).mono ?_
  rintro e w1 ⟨rfl, hr, ho⟩
  have R1 := Lib.hid hr
  have O1 := Lib.hid (O0.out.trans ho)
  have hs1 := ho.1
  have hz1 : w.heap.size + 1 ≤ w1.heap.size := Nat.le_trans hz0 hs1
  have Z1 := Lib.hid ((ho.2 w.heap.size (by omega) (by omega)).trans Z0.out)
  clear hr ho R0 O0 Z0  
  have hA := (Below.refl w1.heap.size w1).alloc (Nat.le_refl _) (.cells #[.int .i64 x0, .int .u8 0, .int .i64 0, .int .i64 0, .int .u8 0, .string ⟨#[]⟩, .slice none 0 0, .int .i64 0, .slice none 0 0] 60)
  have R2 := Lib.hid (R1.out.below hA)
  have O2 := Lib.hid (O1.out.alloc (.cells #[.int .i64 x0, .int .u8 0, .int .i64 0, .int .i64 0, .int .u8 0, .string ⟨#[]⟩, .slice none 0 0, .int .i64 0, .slice none 0 0] 60))
  have Z2 := Lib.hid ((hA.block w.heap.size (by omega)).trans Z1.out)
  have G2 := Lib.hid (heap_alloc_new w1 (.cells #[.int .i64 x0, .int .u8 0, .int .i64 0, .int .i64 0, .int .u8 0, .string ⟨#[]⟩, .slice none 0 0, .int .i64 0, .slice none 0 0] 60))
  have hz2 : w1.heap.size + 1 ≤ (w1.alloc (.cells #[.int .i64 x0, .int .u8 0, .int .i64 0, .int .i64 0, .int .u8 0, .string ⟨#[]⟩, .slice none 0 0, .int .i64 0, .slice none 0 0] 60)).heap.size := by simp
  clear hA R1 O1 Z1
  go_wp2_with fail
  generalize w1.alloc (.cells #[.int .i64 x0, .int .u8 0, .int .i64 0, .int .i64 0, .int .u8 0, .string ⟨#[]⟩, .slice none 0 0, .int .i64 0, .slice none 0 0] 60) = w2 at R2 O2 Z2 G2 hz2 ⊢
  refine (kind_at M rb b_0 l_0 x1 b_1 l_1 w2 HH1.out R2.out HW0.out LL0).mono ?_
  rintro e w3 ⟨rfl, hr, ho⟩
  have R3 := Lib.hid hr
  have O3 := Lib.hid (O2.out.trans ho)
  have hs3 := ho.1
  have hz3 : w1.heap.size + 1 ≤ w3.heap.size := Nat.le_trans hz2 hs3
  have Z3 := Lib.hid ((ho.2 w.heap.size (by omega) (by omega)).trans Z2.out)
  have G3 := Lib.hid ((ho.2 w1.heap.size (by omega) (by omega)).trans G2.out)
  clear hr ho R2 O2 Z2 G2 
  have f1 : w3.frozen? ⟨w1.heap.size, 1, none⟩ = false := Go.Joins.unfrozen_of_block G3.out 1
  have e1 : w3.cell? ⟨w1.heap.size, 1, none⟩ = some (.int .u8 0) := Go.Joins.cell_of_block G3.out 1
  go_wp2_with fail
  have q : (w3.setCell ⟨w1.heap.size, 1, none⟩ (.int .u8 x1)).heap[w1.heap.size]? = some (.cells #[.int .i64 x0, .int .u8 x1, .int .i64 0, .int .i64 0, .int .u8 0, .string ⟨#[]⟩, .slice none 0 0, .int .i64 0, .slice none 0 0] 60 (0, 0)) := (Go.Joins.block_setCell (i := 1) G3.out (.int .u8 x1))
  have r_ : Rdr (w3.setCell ⟨w1.heap.size, 1, none⟩ (.int .u8 x1)) M rb b_1 l_1 := (R3.out.other (g := w1.heap.size) (i := 1) (by omega) (by omega) (.int .u8 x1))
  have o_ : Only rb w (w3.setCell ⟨w1.heap.size, 1, none⟩ (.int .u8 x1)) := (O3.out.new (g := w1.heap.size) (i := 1) (by omega) (.int .u8 x1))
  have z_ : (w3.setCell ⟨w1.heap.size, 1, none⟩ (.int .u8 x1)).heap[w.heap.size]? = some (.cells #[.int .i64 0, .int .u8 0, .int .i64 0, .int .i64 0, .int .u8 0, .string ⟨#[]⟩, .slice none 0 0, .int .i64 0, .slice none 0 0] 60 (0, 0)) := ((heap_setCell_other _ _ _ _ (show w.heap.size ≠ w1.heap.size by omega)).trans Z3.out)
  have hz_ : w1.heap.size + 1 ≤ (w3.setCell ⟨w1.heap.size, 1, none⟩ (.int .u8 x1)).heap.size := by simpa using hz3
  generalize (w3.setCell ⟨w1.heap.size, 1, none⟩ (.int .u8 x1)) = w4 at q r_ o_ z_ hz_  ⊢
  have G4 := Lib.hid q
  have R4 := Lib.hid r_
  have O4 := Lib.hid o_
  have Z4 := Lib.hid z_
  have hz4 : w1.heap.size + 1 ≤ w4.heap.size := hz_
  clear q r_ o_ z_ hz_  f1 e1 R3 O3 Z3 G3 
  refine (whole_at M rb b_1 l_1 x2 b_2 l_2 w4 HH2.out R4.out HW1.out LL1).mono ?_
  rintro e w5 ⟨rfl, hr, ho⟩
  have R5 := Lib.hid hr
  have O5 := Lib.hid (O4.out.trans ho)
  have hs5 := ho.1
  have hz5 : w1.heap.size + 1 ≤ w5.heap.size := Nat.le_trans hz4 hs5
  have Z5 := Lib.hid ((ho.2 w.heap.size (by omega) (by omega)).trans Z4.out)
  have G5 := Lib.hid ((ho.2 w1.heap.size (by omega) (by omega)).trans G4.out)
  clear hr ho R4 O4 Z4 G4 
  go_wp2_with fail
  refine (whole_at M rb b_2 l_2 x3 b_3 l_3 w5 HH3.out R5.out HW2.out LL2).mono ?_
  rintro e w6 ⟨rfl, hr, ho⟩
  have R6 := Lib.hid hr
  have O6 := Lib.hid (O5.out.trans ho)
  have hs6 := ho.1
  have hz6 : w1.heap.size + 1 ≤ w6.heap.size := Nat.le_trans hz5 hs6
  have Z6 := Lib.hid ((ho.2 w.heap.size (by omega) (by omega)).trans Z5.out)
  have G6 := Lib.hid ((ho.2 w1.heap.size (by omega) (by omega)).trans G5.out)
  clear hr ho R5 O5 Z5 G5 
  have f2 : w6.frozen? ⟨w1.heap.size, 2, none⟩ = false := Go.Joins.unfrozen_of_block G6.out 2
  have f3 : w6.frozen? ⟨w1.heap.size, 3, none⟩ = false := Go.Joins.unfrozen_of_block G6.out 3
  have e2 : w6.cell? ⟨w1.heap.size, 2, none⟩ = some (.int .i64 0) := Go.Joins.cell_of_block G6.out 2
  have e3 : w6.cell? ⟨w1.heap.size, 3, none⟩ = some (.int .i64 0) := Go.Joins.cell_of_block G6.out 3
  go_wp2_with fail
  have q : ((w6.setCell ⟨w1.heap.size, 2, none⟩ (.int .i64 x2)).setCell ⟨w1.heap.size, 3, none⟩ (.int .i64 x3)).heap[w1.heap.size]? = some (.cells #[.int .i64 x0, .int .u8 x1, .int .i64 x2, .int .i64 x3, .int .u8 0, .string ⟨#[]⟩, .slice none 0 0, .int .i64 0, .slice none 0 0] 60 (0, 0)) := (Go.Joins.block_setCell (i := 3) (Go.Joins.block_setCell (i := 2) G6.out (.int .i64 x2)) (.int .i64 x3))
  have r_ : Rdr ((w6.setCell ⟨w1.heap.size, 2, none⟩ (.int .i64 x2)).setCell ⟨w1.heap.size, 3, none⟩ (.int .i64 x3)) M rb b_3 l_3 := ((R6.out.other (g := w1.heap.size) (i := 2) (by omega) (by omega) (.int .i64 x2)).other (g := w1.heap.size) (i := 3) (by omega) (by omega) (.int .i64 x3))
  have o_ : Only rb w ((w6.setCell ⟨w1.heap.size, 2, none⟩ (.int .i64 x2)).setCell ⟨w1.heap.size, 3, none⟩ (.int .i64 x3)) := ((O6.out.new (g := w1.heap.size) (i := 2) (by omega) (.int .i64 x2)).new (g := w1.heap.size) (i := 3) (by omega) (.int .i64 x3))
  have z_ : ((w6.setCell ⟨w1.heap.size, 2, none⟩ (.int .i64 x2)).setCell ⟨w1.heap.size, 3, none⟩ (.int .i64 x3)).heap[w.heap.size]? = some (.cells #[.int .i64 0, .int .u8 0, .int .i64 0, .int .i64 0, .int .u8 0, .string ⟨#[]⟩, .slice none 0 0, .int .i64 0, .slice none 0 0] 60 (0, 0)) := ((heap_setCell_other _ _ _ _ (show w.heap.size ≠ w1.heap.size by omega)).trans ((heap_setCell_other _ _ _ _ (show w.heap.size ≠ w1.heap.size by omega)).trans Z6.out))
  have hz_ : w1.heap.size + 1 ≤ ((w6.setCell ⟨w1.heap.size, 2, none⟩ (.int .i64 x2)).setCell ⟨w1.heap.size, 3, none⟩ (.int .i64 x3)).heap.size := by simpa using hz6
  generalize ((w6.setCell ⟨w1.heap.size, 2, none⟩ (.int .i64 x2)).setCell ⟨w1.heap.size, 3, none⟩ (.int .i64 x3)) = w7 at q r_ o_ z_ hz_  ⊢
  have G7 := Lib.hid q
  have R7 := Lib.hid r_
  have O7 := Lib.hid o_
  have Z7 := Lib.hid z_
  have hz7 : w1.heap.size + 1 ≤ w7.heap.size := hz_
  clear q r_ o_ z_ hz_  f2 f3 e2 e3 R6 O6 Z6 G6 
  refine (rdCommand_any M rb b_3 l_3 (xc, b_4, l_4) w7 HH4.out R7.out HW3.out LL3).mono ?_
  rintro e w8 ⟨⟨x4, x5, a6, x6, c6, x7⟩, hp, he, hown, hr, ho⟩
  dsimp only at hown hr hp
  unfold cmVal at he
  dsimp only at he
  obtain ⟨n6, hn6⟩ : ∃ n6, x6.length = n6 := ⟨_, rfl⟩
  rw [hn6] at he hown
  subst he
  have N6 := Lib.hid hn6
  have NC := Lib.hid (show xc = (⟨x4, x5, x6, x7⟩ : CmP) from hp.symm)
  have W6_8 := Lib.hid hown
  have hbase6 : w1.heap.size + 1 ≤ w7.heap.size := hz7
  clear hown hn6 hp
  have R8 := Lib.hid hr
  have O8 := Lib.hid (O7.out.trans ho)
  have hs8 := ho.1
  have hz8 : w1.heap.size + 1 ≤ w8.heap.size := Nat.le_trans hz7 hs8
  have Z8 := Lib.hid ((ho.2 w.heap.size (by omega) (by omega)).trans Z7.out)
  have G8 := Lib.hid ((ho.2 w1.heap.size (by omega) (by omega)).trans G7.out)
  clear hr ho R7 O7 Z7 G7 
  have f4 : w8.frozen? ⟨w1.heap.size, 4, none⟩ = false := Go.Joins.unfrozen_of_block G8.out 4
  have f5 : w8.frozen? ⟨w1.heap.size, 5, none⟩ = false := Go.Joins.unfrozen_of_block G8.out 5
  have f6 : w8.frozen? ⟨w1.heap.size, 6, none⟩ = false := Go.Joins.unfrozen_of_block G8.out 6
  have f7 : w8.frozen? ⟨w1.heap.size, 7, none⟩ = false := Go.Joins.unfrozen_of_block G8.out 7
  have e4 : w8.cell? ⟨w1.heap.size, 4, none⟩ = some (.int .u8 0) := Go.Joins.cell_of_block G8.out 4
  have e5 : w8.cell? ⟨w1.heap.size, 5, none⟩ = some (.string ⟨#[]⟩) := Go.Joins.cell_of_block G8.out 5
  have e6 : w8.cell? ⟨w1.heap.size, 6, none⟩ = some (.slice none 0 0) := Go.Joins.cell_of_block G8.out 6
  have e7 : w8.cell? ⟨w1.heap.size, 7, none⟩ = some (.int .i64 0) := Go.Joins.cell_of_block G8.out 7
  go_wp2_with fail
  have q : ((((w8.setCell ⟨w1.heap.size, 4, none⟩ (.int .u8 x4)).setCell ⟨w1.heap.size, 5, none⟩ (.string x5)).setCell ⟨w1.heap.size, 6, none⟩ (.slice a6 n6 c6)).setCell ⟨w1.heap.size, 7, none⟩ (.int .i64 x7)).heap[w1.heap.size]? = some (.cells #[.int .i64 x0, .int .u8 x1, .int .i64 x2, .int .i64 x3, .int .u8 x4, .string x5, .slice a6 n6 c6, .int .i64 x7, .slice none 0 0] 60 (0, 0)) := (Go.Joins.block_setCell (i := 7) (Go.Joins.block_setCell (i := 6) (Go.Joins.block_setCell (i := 5) (Go.Joins.block_setCell (i := 4) G8.out (.int .u8 x4)) (.string x5)) (.slice a6 n6 c6)) (.int .i64 x7))
  have r_ : Rdr ((((w8.setCell ⟨w1.heap.size, 4, none⟩ (.int .u8 x4)).setCell ⟨w1.heap.size, 5, none⟩ (.string x5)).setCell ⟨w1.heap.size, 6, none⟩ (.slice a6 n6 c6)).setCell ⟨w1.heap.size, 7, none⟩ (.int .i64 x7)) M rb b_4 l_4 := ((((R8.out.other (g := w1.heap.size) (i := 4) (by omega) (by omega) (.int .u8 x4)).other (g := w1.heap.size) (i := 5) (by omega) (by omega) (.string x5)).other (g := w1.heap.size) (i := 6) (by omega) (by omega) (.slice a6 n6 c6)).other (g := w1.heap.size) (i := 7) (by omega) (by omega) (.int .i64 x7))
  have o_ : Only rb w ((((w8.setCell ⟨w1.heap.size, 4, none⟩ (.int .u8 x4)).setCell ⟨w1.heap.size, 5, none⟩ (.string x5)).setCell ⟨w1.heap.size, 6, none⟩ (.slice a6 n6 c6)).setCell ⟨w1.heap.size, 7, none⟩ (.int .i64 x7)) := ((((O8.out.new (g := w1.heap.size) (i := 4) (by omega) (.int .u8 x4)).new (g := w1.heap.size) (i := 5) (by omega) (.string x5)).new (g := w1.heap.size) (i := 6) (by omega) (.slice a6 n6 c6)).new (g := w1.heap.size) (i := 7) (by omega) (.int .i64 x7))
  have z_ : ((((w8.setCell ⟨w1.heap.size, 4, none⟩ (.int .u8 x4)).setCell ⟨w1.heap.size, 5, none⟩ (.string x5)).setCell ⟨w1.heap.size, 6, none⟩ (.slice a6 n6 c6)).setCell ⟨w1.heap.size, 7, none⟩ (.int .i64 x7)).heap[w.heap.size]? = some (.cells #[.int .i64 0, .int .u8 0, .int .i64 0, .int .i64 0, .int .u8 0, .string ⟨#[]⟩, .slice none 0 0, .int .i64 0, .slice none 0 0] 60 (0, 0)) := ((heap_setCell_other _ _ _ _ (show w.heap.size ≠ w1.heap.size by omega)).trans ((heap_setCell_other _ _ _ _ (show w.heap.size ≠ w1.heap.size by omega)).trans ((heap_setCell_other _ _ _ _ (show w.heap.size ≠ w1.heap.size by omega)).trans ((heap_setCell_other _ _ _ _ (show w.heap.size ≠ w1.heap.size by omega)).trans Z8.out))))
  have v6_ := ((((W6_8.out.only (Only.set w1.heap.size _ 4 (.int .u8 x4)) (by omega)).only (Only.set w1.heap.size _ 5 (.string x5)) (by omega)).only (Only.set w1.heap.size _ 6 (.slice a6 n6 c6)) (by omega)).only (Only.set w1.heap.size _ 7 (.int .i64 x7)) (by omega))
  have hz_ : w1.heap.size + 1 ≤ ((((w8.setCell ⟨w1.heap.size, 4, none⟩ (.int .u8 x4)).setCell ⟨w1.heap.size, 5, none⟩ (.string x5)).setCell ⟨w1.heap.size, 6, none⟩ (.slice a6 n6 c6)).setCell ⟨w1.heap.size, 7, none⟩ (.int .i64 x7)).heap.size := by simpa using hz8
  generalize ((((w8.setCell ⟨w1.heap.size, 4, none⟩ (.int .u8 x4)).setCell ⟨w1.heap.size, 5, none⟩ (.string x5)).setCell ⟨w1.heap.size, 6, none⟩ (.slice a6 n6 c6)).setCell ⟨w1.heap.size, 7, none⟩ (.int .i64 x7)) = w9 at q r_ o_ z_ hz_ v6_ ⊢
  have G9 := Lib.hid q
  have R9 := Lib.hid r_
  have O9 := Lib.hid o_
  have Z9 := Lib.hid z_
  have hz9 : w1.heap.size + 1 ≤ w9.heap.size := hz_
  have W6_9 := Lib.hid v6_
  clear q r_ o_ z_ hz_ v6_ f4 f5 f6 f7 e4 e5 e6 e7 R8 O8 Z8 G8 W6_8
  refine (rowI_at M rb b_4 l_4 x8 b_5 l_5 w9 HH5.out R9.out HW4.out LL4).mono ?_
  rintro e w10 ⟨a8, n8, c8, hn8, rfl, hown, hr, ho⟩
  have N8 := Lib.hid hn8
  have W8_10 := Lib.hid hown
  have hbase8 : w1.heap.size + 1 ≤ w9.heap.size := hz9
  clear hown hn8
  have R10 := Lib.hid hr
  have O10 := Lib.hid (O9.out.trans ho)
  have hs10 := ho.1
  have hz10 : w1.heap.size + 1 ≤ w10.heap.size := Nat.le_trans hz9 hs10
  have Z10 := Lib.hid ((ho.2 w.heap.size (by omega) (by omega)).trans Z9.out)
  have G10 := Lib.hid ((ho.2 w1.heap.size (by omega) (by omega)).trans G9.out)
  have W6_10 := Lib.hid (W6_9.out.only ho (by omega))
  clear hr ho R9 O9 Z9 G9 W6_9
  have f8 : w10.frozen? ⟨w1.heap.size, 8, none⟩ = false := Go.Joins.unfrozen_of_block G10.out 8
  have e0 : w10.cell? ⟨w1.heap.size, 0, none⟩ = some (.int .i64 x0) := Go.Joins.cell_of_block G10.out 0
  have e1 : w10.cell? ⟨w1.heap.size, 1, none⟩ = some (.int .u8 x1) := Go.Joins.cell_of_block G10.out 1
  have e2 : w10.cell? ⟨w1.heap.size, 2, none⟩ = some (.int .i64 x2) := Go.Joins.cell_of_block G10.out 2
  have e3 : w10.cell? ⟨w1.heap.size, 3, none⟩ = some (.int .i64 x3) := Go.Joins.cell_of_block G10.out 3
  have e4 : w10.cell? ⟨w1.heap.size, 4, none⟩ = some (.int .u8 x4) := Go.Joins.cell_of_block G10.out 4
  have e5 : w10.cell? ⟨w1.heap.size, 5, none⟩ = some (.string x5) := Go.Joins.cell_of_block G10.out 5
  have e6 : w10.cell? ⟨w1.heap.size, 6, none⟩ = some (.slice a6 n6 c6) := Go.Joins.cell_of_block G10.out 6
  have e7 : w10.cell? ⟨w1.heap.size, 7, none⟩ = some (.int .i64 x7) := Go.Joins.cell_of_block G10.out 7
  have e8 : w10.cell? ⟨w1.heap.size, 8, none⟩ = some (.slice none 0 0) := Go.Joins.cell_of_block G10.out 8
  go_wp2_with fail
  have q : (w10.setCell ⟨w1.heap.size, 8, none⟩ (.slice a8 n8 c8)).heap[w1.heap.size]? = some (.cells #[.int .i64 x0, .int .u8 x1, .int .i64 x2, .int .i64 x3, .int .u8 x4, .string x5, .slice a6 n6 c6, .int .i64 x7, .slice a8 n8 c8] 60 (0, 0)) := (Go.Joins.block_setCell (i := 8) G10.out (.slice a8 n8 c8))
  have r_ : Rdr (w10.setCell ⟨w1.heap.size, 8, none⟩ (.slice a8 n8 c8)) M rb b_5 l_5 := (R10.out.other (g := w1.heap.size) (i := 8) (by omega) (by omega) (.slice a8 n8 c8))
  have o_ : Only rb w (w10.setCell ⟨w1.heap.size, 8, none⟩ (.slice a8 n8 c8)) := (O10.out.new (g := w1.heap.size) (i := 8) (by omega) (.slice a8 n8 c8))
  have z_ : (w10.setCell ⟨w1.heap.size, 8, none⟩ (.slice a8 n8 c8)).heap[w.heap.size]? = some (.cells #[.int .i64 0, .int .u8 0, .int .i64 0, .int .i64 0, .int .u8 0, .string ⟨#[]⟩, .slice none 0 0, .int .i64 0, .slice none 0 0] 60 (0, 0)) := ((heap_setCell_other _ _ _ _ (show w.heap.size ≠ w1.heap.size by omega)).trans Z10.out)
  have v6_ := (W6_10.out.only (Only.set w1.heap.size _ 8 (.slice a8 n8 c8)) (by omega))
  have v8_ := (W8_10.out.only (Only.set w1.heap.size _ 8 (.slice a8 n8 c8)) (by omega))
  have hz_ : w1.heap.size + 1 ≤ (w10.setCell ⟨w1.heap.size, 8, none⟩ (.slice a8 n8 c8)).heap.size := by simpa using hz10
  generalize (w10.setCell ⟨w1.heap.size, 8, none⟩ (.slice a8 n8 c8)) = w11 at q r_ o_ z_ hz_ v6_ v8_ ⊢
  have G11 := Lib.hid q
  have R11 := Lib.hid r_
  have O11 := Lib.hid o_
  have Z11 := Lib.hid z_
  have hz11 : w1.heap.size + 1 ≤ w11.heap.size := hz_
  have W6_11 := Lib.hid v6_
  have W8_11 := Lib.hid v8_
  clear q r_ o_ z_ hz_ v6_ v8_ f8 e0 e1 e2 e3 e4 e5 e6 e7 e8 R10 O10 Z10 G10 W6_10 W8_10
  refine (sureEntry_rd M rb b_5 l_5 x0 x1 x2 x3 x4 x5 a6 n6 c6 x7 a8 n8 c8 w11 R11.out).mono ?_
  rintro e w12 ⟨he, hb⟩
  have R12 := Lib.hid (R11.out.below hb)
  have O12 := Lib.hid (O11.out.trans (Only.of_below hb))
  have Z12 := Lib.hid ((hb.block w.heap.size (by omega)).trans Z11.out)
  have hz12 : w1.heap.size + 1 ≤ w12.heap.size := Nat.le_trans hz11 hb.size
  have W6_12 := Lib.hid (W6_11.out.below hb (Nat.le_refl _))
  have W8_12 := Lib.hid (W8_11.out.below hb (Nat.le_refl _))
  clear hb R11 O11 Z11 G11 W6_11 W8_11
  have z0 : w12.cell? ⟨w.heap.size, 0, none⟩ = some (.int .i64 0) := Go.Joins.cell_of_block Z12.out 0
  have g0 : w12.frozen? ⟨w.heap.size, 0, none⟩ = false := Go.Joins.unfrozen_of_block Z12.out 0
  have z1 : w12.cell? ⟨w.heap.size, 1, none⟩ = some (.int .u8 0) := Go.Joins.cell_of_block Z12.out 1
  have g1 : w12.frozen? ⟨w.heap.size, 1, none⟩ = false := Go.Joins.unfrozen_of_block Z12.out 1
  have z2 : w12.cell? ⟨w.heap.size, 2, none⟩ = some (.int .i64 0) := Go.Joins.cell_of_block Z12.out 2
  have g2 : w12.frozen? ⟨w.heap.size, 2, none⟩ = false := Go.Joins.unfrozen_of_block Z12.out 2
  have z3 : w12.cell? ⟨w.heap.size, 3, none⟩ = some (.int .i64 0) := Go.Joins.cell_of_block Z12.out 3
  have g3 : w12.frozen? ⟨w.heap.size, 3, none⟩ = false := Go.Joins.unfrozen_of_block Z12.out 3
  have z4 : w12.cell? ⟨w.heap.size, 4, none⟩ = some (.int .u8 0) := Go.Joins.cell_of_block Z12.out 4
  have g4 : w12.frozen? ⟨w.heap.size, 4, none⟩ = false := Go.Joins.unfrozen_of_block Z12.out 4
  have z5 : w12.cell? ⟨w.heap.size, 5, none⟩ = some (.string ⟨#[]⟩) := Go.Joins.cell_of_block Z12.out 5
  have g5 : w12.frozen? ⟨w.heap.size, 5, none⟩ = false := Go.Joins.unfrozen_of_block Z12.out 5
  have z6 : w12.cell? ⟨w.heap.size, 6, none⟩ = some (.slice none 0 0) := Go.Joins.cell_of_block Z12.out 6
  have g6 : w12.frozen? ⟨w.heap.size, 6, none⟩ = false := Go.Joins.unfrozen_of_block Z12.out 6
  have z7 : w12.cell? ⟨w.heap.size, 7, none⟩ = some (.int .i64 0) := Go.Joins.cell_of_block Z12.out 7
  have g7 : w12.frozen? ⟨w.heap.size, 7, none⟩ = false := Go.Joins.unfrozen_of_block Z12.out 7
  have z8 : w12.cell? ⟨w.heap.size, 8, none⟩ = some (.slice none 0 0) := Go.Joins.cell_of_block Z12.out 8
  have g8 : w12.frozen? ⟨w.heap.size, 8, none⟩ = false := Go.Joins.unfrozen_of_block Z12.out 8
  cases b_5 with
  | true =>
    rw [if_pos rfl] at he
    subst he
    go_wp2_with fail
    have q : (((((((((w12.setCell ⟨w.heap.size, 0, none⟩ (.int .i64 0)).setCell ⟨w.heap.size, 1, none⟩ (.int .u8 0)).setCell ⟨w.heap.size, 2, none⟩ (.int .i64 0)).setCell ⟨w.heap.size, 3, none⟩ (.int .i64 0)).setCell ⟨w.heap.size, 4, none⟩ (.int .u8 0)).setCell ⟨w.heap.size, 5, none⟩ (.string ⟨#[]⟩)).setCell ⟨w.heap.size, 6, none⟩ (.slice none 0 0)).setCell ⟨w.heap.size, 7, none⟩ (.int .i64 0)).setCell ⟨w.heap.size, 8, none⟩ (.slice none 0 0)).heap[w.heap.size]? = some (.cells #[.int .i64 0, .int .u8 0, .int .i64 0, .int .i64 0, .int .u8 0, .string ⟨#[]⟩, .slice none 0 0, .int .i64 0, .slice none 0 0] 60 (0, 0)) := (Go.Joins.block_setCell (i := 8) (Go.Joins.block_setCell (i := 7) (Go.Joins.block_setCell (i := 6) (Go.Joins.block_setCell (i := 5) (Go.Joins.block_setCell (i := 4) (Go.Joins.block_setCell (i := 3) (Go.Joins.block_setCell (i := 2) (Go.Joins.block_setCell (i := 1) (Go.Joins.block_setCell (i := 0) Z12.out (.int .i64 0)) (.int .u8 0)) (.int .i64 0)) (.int .i64 0)) (.int .u8 0)) (.string ⟨#[]⟩)) (.slice none 0 0)) (.int .i64 0)) (.slice none 0 0))
    have r_ : Rdr (((((((((w12.setCell ⟨w.heap.size, 0, none⟩ (.int .i64 0)).setCell ⟨w.heap.size, 1, none⟩ (.int .u8 0)).setCell ⟨w.heap.size, 2, none⟩ (.int .i64 0)).setCell ⟨w.heap.size, 3, none⟩ (.int .i64 0)).setCell ⟨w.heap.size, 4, none⟩ (.int .u8 0)).setCell ⟨w.heap.size, 5, none⟩ (.string ⟨#[]⟩)).setCell ⟨w.heap.size, 6, none⟩ (.slice none 0 0)).setCell ⟨w.heap.size, 7, none⟩ (.int .i64 0)).setCell ⟨w.heap.size, 8, none⟩ (.slice none 0 0)) M rb _ l_5 := (((((((((R12.out.other (g := w.heap.size) (i := 0) hM (by omega) (.int .i64 0)).other (g := w.heap.size) (i := 1) hM (by omega) (.int .u8 0)).other (g := w.heap.size) (i := 2) hM (by omega) (.int .i64 0)).other (g := w.heap.size) (i := 3) hM (by omega) (.int .i64 0)).other (g := w.heap.size) (i := 4) hM (by omega) (.int .u8 0)).other (g := w.heap.size) (i := 5) hM (by omega) (.string ⟨#[]⟩)).other (g := w.heap.size) (i := 6) hM (by omega) (.slice none 0 0)).other (g := w.heap.size) (i := 7) hM (by omega) (.int .i64 0)).other (g := w.heap.size) (i := 8) hM (by omega) (.slice none 0 0))
    have o_ : Only rb w (((((((((w12.setCell ⟨w.heap.size, 0, none⟩ (.int .i64 0)).setCell ⟨w.heap.size, 1, none⟩ (.int .u8 0)).setCell ⟨w.heap.size, 2, none⟩ (.int .i64 0)).setCell ⟨w.heap.size, 3, none⟩ (.int .i64 0)).setCell ⟨w.heap.size, 4, none⟩ (.int .u8 0)).setCell ⟨w.heap.size, 5, none⟩ (.string ⟨#[]⟩)).setCell ⟨w.heap.size, 6, none⟩ (.slice none 0 0)).setCell ⟨w.heap.size, 7, none⟩ (.int .i64 0)).setCell ⟨w.heap.size, 8, none⟩ (.slice none 0 0)) := (((((((((O12.out.new (g := w.heap.size) (i := 0) (Nat.le_refl _) (.int .i64 0)).new (g := w.heap.size) (i := 1) (Nat.le_refl _) (.int .u8 0)).new (g := w.heap.size) (i := 2) (Nat.le_refl _) (.int .i64 0)).new (g := w.heap.size) (i := 3) (Nat.le_refl _) (.int .i64 0)).new (g := w.heap.size) (i := 4) (Nat.le_refl _) (.int .u8 0)).new (g := w.heap.size) (i := 5) (Nat.le_refl _) (.string ⟨#[]⟩)).new (g := w.heap.size) (i := 6) (Nat.le_refl _) (.slice none 0 0)).new (g := w.heap.size) (i := 7) (Nat.le_refl _) (.int .i64 0)).new (g := w.heap.size) (i := 8) (Nat.le_refl _) (.slice none 0 0))
    have v6_ := (((((((((W6_12.out.only (Only.set w.heap.size _ 0 (.int .i64 0)) (by omega)).only (Only.set w.heap.size _ 1 (.int .u8 0)) (by omega)).only (Only.set w.heap.size _ 2 (.int .i64 0)) (by omega)).only (Only.set w.heap.size _ 3 (.int .i64 0)) (by omega)).only (Only.set w.heap.size _ 4 (.int .u8 0)) (by omega)).only (Only.set w.heap.size _ 5 (.string ⟨#[]⟩)) (by omega)).only (Only.set w.heap.size _ 6 (.slice none 0 0)) (by omega)).only (Only.set w.heap.size _ 7 (.int .i64 0)) (by omega)).only (Only.set w.heap.size _ 8 (.slice none 0 0)) (by omega))
    have v8_ := (((((((((W8_12.out.only (Only.set w.heap.size _ 0 (.int .i64 0)) (by omega)).only (Only.set w.heap.size _ 1 (.int .u8 0)) (by omega)).only (Only.set w.heap.size _ 2 (.int .i64 0)) (by omega)).only (Only.set w.heap.size _ 3 (.int .i64 0)) (by omega)).only (Only.set w.heap.size _ 4 (.int .u8 0)) (by omega)).only (Only.set w.heap.size _ 5 (.string ⟨#[]⟩)) (by omega)).only (Only.set w.heap.size _ 6 (.slice none 0 0)) (by omega)).only (Only.set w.heap.size _ 7 (.int .i64 0)) (by omega)).only (Only.set w.heap.size _ 8 (.slice none 0 0)) (by omega))
    generalize (((((((((w12.setCell ⟨w.heap.size, 0, none⟩ (.int .i64 0)).setCell ⟨w.heap.size, 1, none⟩ (.int .u8 0)).setCell ⟨w.heap.size, 2, none⟩ (.int .i64 0)).setCell ⟨w.heap.size, 3, none⟩ (.int .i64 0)).setCell ⟨w.heap.size, 4, none⟩ (.int .u8 0)).setCell ⟨w.heap.size, 5, none⟩ (.string ⟨#[]⟩)).setCell ⟨w.heap.size, 6, none⟩ (.slice none 0 0)).setCell ⟨w.heap.size, 7, none⟩ (.int .i64 0)).setCell ⟨w.heap.size, 8, none⟩ (.slice none 0 0)) = w9 at q r_ o_ v6_ v8_ ⊢
    have d0 : w9.cell? ⟨w.heap.size, 0, none⟩ = some (.int .i64 0) := Go.Joins.cell_of_block q 0
    have d1 : w9.cell? ⟨w.heap.size, 1, none⟩ = some (.int .u8 0) := Go.Joins.cell_of_block q 1
    have d2 : w9.cell? ⟨w.heap.size, 2, none⟩ = some (.int .i64 0) := Go.Joins.cell_of_block q 2
    have d3 : w9.cell? ⟨w.heap.size, 3, none⟩ = some (.int .i64 0) := Go.Joins.cell_of_block q 3
    have d4 : w9.cell? ⟨w.heap.size, 4, none⟩ = some (.int .u8 0) := Go.Joins.cell_of_block q 4
    have d5 : w9.cell? ⟨w.heap.size, 5, none⟩ = some (.string ⟨#[]⟩) := Go.Joins.cell_of_block q 5
    have d6 : w9.cell? ⟨w.heap.size, 6, none⟩ = some (.slice none 0 0) := Go.Joins.cell_of_block q 6
    have d7 : w9.cell? ⟨w.heap.size, 7, none⟩ = some (.int .i64 0) := Go.Joins.cell_of_block q 7
    have d8 : w9.cell? ⟨w.heap.size, 8, none⟩ = some (.slice none 0 0) := Go.Joins.cell_of_block q 8
    have hS := HS.out
    try simp only [if_true, if_false, Bool.false_eq_true, reduceIte] at hS
    subst hS
    exact bodyPost_ret (v := .agg #[.int .i64 0, .int .u8 0, .int .i64 0, .int .i64 0, .int .u8 0, .string ⟨#[]⟩, .slice none 0 0, .int .i64 0, .slice none 0 0]) (by simp [results, Tryz.results71, go_sem, d0, d1, d2, d3, d4, d5, d6, d7, d8]) rfl ⟨⟨0, 0, 0, 0, 0, ByteArray.empty, none, [], 0, 0, none, [], 0⟩, rfl, rfl, ⟨VasOwn.nil _ _, IntsOwn.nil _ _⟩, r_, o_⟩
  | false =>
    rw [if_neg (by simp)] at he
    subst he
    go_wp2_with fail
    have q : (((((((((w12.setCell ⟨w.heap.size, 0, none⟩ (.int .i64 x0)).setCell ⟨w.heap.size, 1, none⟩ (.int .u8 x1)).setCell ⟨w.heap.size, 2, none⟩ (.int .i64 x2)).setCell ⟨w.heap.size, 3, none⟩ (.int .i64 x3)).setCell ⟨w.heap.size, 4, none⟩ (.int .u8 x4)).setCell ⟨w.heap.size, 5, none⟩ (.string x5)).setCell ⟨w.heap.size, 6, none⟩ (.slice a6 n6 c6)).setCell ⟨w.heap.size, 7, none⟩ (.int .i64 x7)).setCell ⟨w.heap.size, 8, none⟩ (.slice a8 n8 c8)).heap[w.heap.size]? = some (.cells #[.int .i64 x0, .int .u8 x1, .int .i64 x2, .int .i64 x3, .int .u8 x4, .string x5, .slice a6 n6 c6, .int .i64 x7, .slice a8 n8 c8] 60 (0, 0)) := (Go.Joins.block_setCell (i := 8) (Go.Joins.block_setCell (i := 7) (Go.Joins.block_setCell (i := 6) (Go.Joins.block_setCell (i := 5) (Go.Joins.block_setCell (i := 4) (Go.Joins.block_setCell (i := 3) (Go.Joins.block_setCell (i := 2) (Go.Joins.block_setCell (i := 1) (Go.Joins.block_setCell (i := 0) Z12.out (.int .i64 x0)) (.int .u8 x1)) (.int .i64 x2)) (.int .i64 x3)) (.int .u8 x4)) (.string x5)) (.slice a6 n6 c6)) (.int .i64 x7)) (.slice a8 n8 c8))
    have r_ : Rdr (((((((((w12.setCell ⟨w.heap.size, 0, none⟩ (.int .i64 x0)).setCell ⟨w.heap.size, 1, none⟩ (.int .u8 x1)).setCell ⟨w.heap.size, 2, none⟩ (.int .i64 x2)).setCell ⟨w.heap.size, 3, none⟩ (.int .i64 x3)).setCell ⟨w.heap.size, 4, none⟩ (.int .u8 x4)).setCell ⟨w.heap.size, 5, none⟩ (.string x5)).setCell ⟨w.heap.size, 6, none⟩ (.slice a6 n6 c6)).setCell ⟨w.heap.size, 7, none⟩ (.int .i64 x7)).setCell ⟨w.heap.size, 8, none⟩ (.slice a8 n8 c8)) M rb _ l_5 := (((((((((R12.out.other (g := w.heap.size) (i := 0) hM (by omega) (.int .i64 x0)).other (g := w.heap.size) (i := 1) hM (by omega) (.int .u8 x1)).other (g := w.heap.size) (i := 2) hM (by omega) (.int .i64 x2)).other (g := w.heap.size) (i := 3) hM (by omega) (.int .i64 x3)).other (g := w.heap.size) (i := 4) hM (by omega) (.int .u8 x4)).other (g := w.heap.size) (i := 5) hM (by omega) (.string x5)).other (g := w.heap.size) (i := 6) hM (by omega) (.slice a6 n6 c6)).other (g := w.heap.size) (i := 7) hM (by omega) (.int .i64 x7)).other (g := w.heap.size) (i := 8) hM (by omega) (.slice a8 n8 c8))
    have o_ : Only rb w (((((((((w12.setCell ⟨w.heap.size, 0, none⟩ (.int .i64 x0)).setCell ⟨w.heap.size, 1, none⟩ (.int .u8 x1)).setCell ⟨w.heap.size, 2, none⟩ (.int .i64 x2)).setCell ⟨w.heap.size, 3, none⟩ (.int .i64 x3)).setCell ⟨w.heap.size, 4, none⟩ (.int .u8 x4)).setCell ⟨w.heap.size, 5, none⟩ (.string x5)).setCell ⟨w.heap.size, 6, none⟩ (.slice a6 n6 c6)).setCell ⟨w.heap.size, 7, none⟩ (.int .i64 x7)).setCell ⟨w.heap.size, 8, none⟩ (.slice a8 n8 c8)) := (((((((((O12.out.new (g := w.heap.size) (i := 0) (Nat.le_refl _) (.int .i64 x0)).new (g := w.heap.size) (i := 1) (Nat.le_refl _) (.int .u8 x1)).new (g := w.heap.size) (i := 2) (Nat.le_refl _) (.int .i64 x2)).new (g := w.heap.size) (i := 3) (Nat.le_refl _) (.int .i64 x3)).new (g := w.heap.size) (i := 4) (Nat.le_refl _) (.int .u8 x4)).new (g := w.heap.size) (i := 5) (Nat.le_refl _) (.string x5)).new (g := w.heap.size) (i := 6) (Nat.le_refl _) (.slice a6 n6 c6)).new (g := w.heap.size) (i := 7) (Nat.le_refl _) (.int .i64 x7)).new (g := w.heap.size) (i := 8) (Nat.le_refl _) (.slice a8 n8 c8))
    have v6_ := (((((((((W6_12.out.only (Only.set w.heap.size _ 0 (.int .i64 x0)) (by omega)).only (Only.set w.heap.size _ 1 (.int .u8 x1)) (by omega)).only (Only.set w.heap.size _ 2 (.int .i64 x2)) (by omega)).only (Only.set w.heap.size _ 3 (.int .i64 x3)) (by omega)).only (Only.set w.heap.size _ 4 (.int .u8 x4)) (by omega)).only (Only.set w.heap.size _ 5 (.string x5)) (by omega)).only (Only.set w.heap.size _ 6 (.slice a6 n6 c6)) (by omega)).only (Only.set w.heap.size _ 7 (.int .i64 x7)) (by omega)).only (Only.set w.heap.size _ 8 (.slice a8 n8 c8)) (by omega))
    have v8_ := (((((((((W8_12.out.only (Only.set w.heap.size _ 0 (.int .i64 x0)) (by omega)).only (Only.set w.heap.size _ 1 (.int .u8 x1)) (by omega)).only (Only.set w.heap.size _ 2 (.int .i64 x2)) (by omega)).only (Only.set w.heap.size _ 3 (.int .i64 x3)) (by omega)).only (Only.set w.heap.size _ 4 (.int .u8 x4)) (by omega)).only (Only.set w.heap.size _ 5 (.string x5)) (by omega)).only (Only.set w.heap.size _ 6 (.slice a6 n6 c6)) (by omega)).only (Only.set w.heap.size _ 7 (.int .i64 x7)) (by omega)).only (Only.set w.heap.size _ 8 (.slice a8 n8 c8)) (by omega))
    generalize (((((((((w12.setCell ⟨w.heap.size, 0, none⟩ (.int .i64 x0)).setCell ⟨w.heap.size, 1, none⟩ (.int .u8 x1)).setCell ⟨w.heap.size, 2, none⟩ (.int .i64 x2)).setCell ⟨w.heap.size, 3, none⟩ (.int .i64 x3)).setCell ⟨w.heap.size, 4, none⟩ (.int .u8 x4)).setCell ⟨w.heap.size, 5, none⟩ (.string x5)).setCell ⟨w.heap.size, 6, none⟩ (.slice a6 n6 c6)).setCell ⟨w.heap.size, 7, none⟩ (.int .i64 x7)).setCell ⟨w.heap.size, 8, none⟩ (.slice a8 n8 c8)) = w9 at q r_ o_ v6_ v8_ ⊢
    have d0 : w9.cell? ⟨w.heap.size, 0, none⟩ = some (.int .i64 x0) := Go.Joins.cell_of_block q 0
    have d1 : w9.cell? ⟨w.heap.size, 1, none⟩ = some (.int .u8 x1) := Go.Joins.cell_of_block q 1
    have d2 : w9.cell? ⟨w.heap.size, 2, none⟩ = some (.int .i64 x2) := Go.Joins.cell_of_block q 2
    have d3 : w9.cell? ⟨w.heap.size, 3, none⟩ = some (.int .i64 x3) := Go.Joins.cell_of_block q 3
    have d4 : w9.cell? ⟨w.heap.size, 4, none⟩ = some (.int .u8 x4) := Go.Joins.cell_of_block q 4
    have d5 : w9.cell? ⟨w.heap.size, 5, none⟩ = some (.string x5) := Go.Joins.cell_of_block q 5
    have d6 : w9.cell? ⟨w.heap.size, 6, none⟩ = some (.slice a6 n6 c6) := Go.Joins.cell_of_block q 6
    have d7 : w9.cell? ⟨w.heap.size, 7, none⟩ = some (.int .i64 x7) := Go.Joins.cell_of_block q 7
    have d8 : w9.cell? ⟨w.heap.size, 8, none⟩ = some (.slice a8 n8 c8) := Go.Joins.cell_of_block q 8
    have hS := HS.out
    try simp only [if_true, if_false, Bool.false_eq_true, reduceIte] at hS
    subst hS
    have hc := NC.out
    subst hc
    obtain rfl := N6.out
    have v69 := v6_.le (base' := w.heap.size) (by omega)
    obtain rfl := N8.out
    have v89 := v8_.le (base' := w.heap.size) (by omega)
    exact bodyPost_ret (v := .agg #[.int .i64 x0, .int .u8 x1, .int .i64 x2, .int .i64 x3, .int .u8 x4, .string x5, .slice a6 x6.length c6, .int .i64 x7, .slice a8 x8.length c8]) (by simp [results, Tryz.results71, go_sem, d0, d1, d2, d3, d4, d5, d6, d7, d8]) rfl ⟨⟨x0, x1, x2, x3, x4, x5, a6, x6, c6, x7, a8, x8, c8⟩, rfl, rfl, ⟨v69, v89⟩, r_, o_⟩
end Go.Proofs.YtnhnabcpkaeaaaaGreatDoor
