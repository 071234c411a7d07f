/- Facts and replies as they lie in memory; SameFact, SameFacts, SameReply tell that what reads alike is the same. Conditions: the cells lie as their readings say. -/
import Derived.Test.YtljfanhkbbfngaaGLogDoes9
import Derived.Test.YtljfanhkbbfngaaGLogDoes10
import Derived.Test.YtljfanhkbbfngaaGLogDoes5
import Derived.Test.YtljfanhkbbfngaaGLogDoes0
import Derived.StillTailTactics
import Derived.Test.YtljfanhkbbfngaaGLogDoes1
import Derived.Test.YtljfanhkbbfngaaGLogDoes4
import Derived.Lib.SlBytesRow
import Derived.Lib.BufferRead
import Derived.BigQuiet
import Derived.Test.YtljfanhkbbfngaaGLogDoes3
import Derived.Lib.Bytes
import Derived.Deep.MidRow
import Derived.BigFrame
set_option linter.unusedVariables false
set_option linter.unusedSimpArgs false
namespace Go.Proofs.Ytljfanhkbbfngaa
open Go.RowKit
set_option maxRecDepth 20000
end Go.Proofs.Ytljfanhkbbfngaa
/- LentFact, LentCommand, KeptFact, KeptCommand: a thing whose values are copied with marks behind their end; as long as nobody writes there it is found as it was. Conditions: the values lie as their reading says. -/
namespace Go.Proofs.Ytljfanhkbbfngaa
open Go.RowKit
set_option maxRecDepth 20000
theorem lentV_at (ao : Option Addr) (n cap : Nat) (xs : List Va) (w : World) (B : Nat) (hn : xs.length = n) (hx : ValsIn w B ao xs) (hB : B ≤ w.heap.size) (hao : ao = none → cap = 0) (hl : n ≤ 1099511627776) :
    Calls Try.prog 57 #[.slice ao n cap] w (LentVPost xs n w) := lentV_any ao n cap xs w hn (RowsIn.mono noSub_rising hx hB) hao hl
theorem lentC_any (ck : Int) (text : ByteArray) (num : Int) (ao : Option Addr) (n cap : Nat) (xs : List Va) (w : World) (hn : xs.length = n) (hx : ValsIn w w.heap.size ao xs) (hao : ao = none → cap = 0) (hl : n ≤ 1099511627776) :
    Calls Try.prog 44 #[.agg #[.int .u8 ck, .string text, .slice ao n cap, .int .i64 num]] w fun e w' => ∃ g, e = .returned (.agg #[.int .u8 ck, .string text, .slice (some ⟨g, 0, none⟩) n (n + 12), .int .i64 num]) ∧ w.heap.size ≤ g ∧ LentV w' w.heap.size g xs ∧ Below w.heap.size w w' := by
  obtain ⟨hb2, h1, h2, hz2⟩ := alloc2_facts w #[.int .u8 ck, .string text, .slice ao n cap, .int .i64 num] #[.int .u8 0, .string ⟨#[]⟩, .slice none 0 0, .int .i64 0] 57 57
  have HX := Lib.hid hx
  have HA := Lib.hid hao
  have HN := Lib.hid hn
  have HB2 := Lib.hid hb2
  have H1 := Lib.hid h1
  have H2 := Lib.hid h2
  have HZ := Lib.hid hz2
  clear hx hao hn hb2 h1 h2 hz2
  go_enter Try.func44, Try.ntmps44
  go_wp2_with fail
  have hb2 := HB2.out
  have h1 := H1.out
  have h2 := H2.out
  have hz2 := HZ.out
  generalize ((w.alloc (.cells #[.int .u8 ck, .string text, .slice ao n cap, .int .i64 num] 57)).alloc (.cells #[.int .u8 0, .string ⟨#[]⟩, .slice none 0 0, .int .i64 0] 57)) = w2 at hb2 h1 h2 hz2 ⊢
  have H1 := Lib.hid h1
  have H2 := Lib.hid h2
  have HZ := Lib.hid hz2
  clear h1 h2 hz2 HB2
  refine (lentV_at ao n cap xs w2 w.heap.size HN.out (RowsIn.below noSub_kept HX.out hb2 (Nat.le_refl _)) hb2.size HA.out hl).mono ?_
  rintro e w3 ⟨g, rfl, hg1, hg2, hL, hb3⟩
  have k1 := (hb3.block w.heap.size (by have := HZ.out; omega)).trans H1.out
  have k2 := (hb3.block (w.heap.size + 1) (by have := HZ.out; omega)).trans H2.out
  have c0 : w3.cell? ⟨w.heap.size, 0, none⟩ = some (.int .u8 ck) := Go.Joins.cell_of_block k1 0
  have c1 : w3.cell? ⟨w.heap.size, 1, none⟩ = some (.string text) := Go.Joins.cell_of_block k1 1
  have c2 : w3.cell? ⟨w.heap.size, 2, none⟩ = some (.slice ao n cap) := Go.Joins.cell_of_block k1 2
  have c3 : w3.cell? ⟨w.heap.size, 3, none⟩ = some (.int .i64 num) := Go.Joins.cell_of_block k1 3
  have f2 : w3.frozen? ⟨w.heap.size, 2, none⟩ = false := Go.Joins.unfrozen_of_block k1 2
  have d0 : w3.cell? ⟨w.heap.size + 1, 0, none⟩ = some (.int .u8 0) := Go.Joins.cell_of_block k2 0
  have d1 : w3.cell? ⟨w.heap.size + 1, 1, none⟩ = some (.string ⟨#[]⟩) := Go.Joins.cell_of_block k2 1
  have d2 : w3.cell? ⟨w.heap.size + 1, 2, none⟩ = some (.slice none 0 0) := Go.Joins.cell_of_block k2 2
  have d3 : w3.cell? ⟨w.heap.size + 1, 3, none⟩ = some (.int .i64 0) := Go.Joins.cell_of_block k2 3
  have g0 : w3.frozen? ⟨w.heap.size + 1, 0, none⟩ = false := Go.Joins.unfrozen_of_block k2 0
  have g1 : w3.frozen? ⟨w.heap.size + 1, 1, none⟩ = false := Go.Joins.unfrozen_of_block k2 1
  have g2 : w3.frozen? ⟨w.heap.size + 1, 2, none⟩ = false := Go.Joins.unfrozen_of_block k2 2
  have g3 : w3.frozen? ⟨w.heap.size + 1, 3, none⟩ = false := Go.Joins.unfrozen_of_block k2 3
  have HL := Lib.hid (hL.le (show w.heap.size ≤ w2.heap.size from hb2.size))
  have HBB := Lib.hid (hb2.trans (hb3.mono hb2.size))
  have hgz : w.heap.size + 2 ≤ g := by have := HZ.out; omega
  clear hL k1 k2 hb3
  go_wp2_with fail
  have hlb : LentV ((((((w3.setCell ⟨w.heap.size, 2, none⟩ (.slice (some ⟨g, 0, none⟩) n (n + 12))).setCell ⟨w.heap.size + 1, 0, none⟩ (.int .u8 ck)).setCell ⟨w.heap.size + 1, 1, none⟩ (.string text)).setCell ⟨w.heap.size + 1, 2, none⟩ (.slice (some ⟨g, 0, none⟩) n (n + 12)))).setCell ⟨w.heap.size + 1, 3, none⟩ (.int .i64 num)) w.heap.size g xs := by
    refine ownsRow_setCell_other (ownsRow_setCell_other (ownsRow_setCell_other (ownsRow_setCell_other (ownsRow_setCell_other HL.out ?_ _) ?_ _) ?_ _) ?_ _) ?_ _ <;> (simp [Value.ownBlock]; omega)
  have hbb := ((((HBB.out.setCell (p := ⟨w.heap.size, 2, none⟩) (Nat.le_refl _) (.slice (some ⟨g, 0, none⟩) n (n + 12))).setCell (p := ⟨w.heap.size + 1, 0, none⟩) (Nat.le_succ _) (.int .u8 ck)).setCell (p := ⟨w.heap.size + 1, 1, none⟩) (Nat.le_succ _) (.string text)).setCell (p := ⟨w.heap.size + 1, 2, none⟩) (Nat.le_succ _) (.slice (some ⟨g, 0, none⟩) n (n + 12))).setCell (p := ⟨w.heap.size + 1, 3, none⟩) (Nat.le_succ _) (.int .i64 num)
  exact bodyPost_ret (v := .agg #[.int .u8 ck, .string text, .slice (some ⟨g, 0, none⟩) n (n + 12), .int .i64 num]) (by simp [results, Try.results44, go_sem, d0, d1, d2, d3]) rfl ⟨g, rfl, by omega, hlb, hbb⟩
end Go.Proofs.Ytljfanhkbbfngaa
/- The forms of wire as bytes: plain definitions and laws. No program. Conditions: as each says. -/
namespace Go.Proofs.Ytljfanhkbbfngaa
end Go.Proofs.Ytljfanhkbbfngaa
/- The writer of wire: what it writes stands behind what it held. Conditions: the buffer holds bytes, and has only been written. -/
namespace Go.Proofs.Ytljfanhkbbfngaa
open Go.RowKit
set_option maxRecDepth 20000
end Go.Proofs.Ytljfanhkbbfngaa
/- The writer of wire: counts, texts, values, rows of values. Conditions: the buffer holds bytes, and has only been written. -/
namespace Go.Proofs.Ytljfanhkbbfngaa
open Go.RowKit
set_option maxRecDepth 20000
end Go.Proofs.Ytljfanhkbbfngaa
/- The writer of wire: what was written, told; Number, Text, Value. Conditions: what is written is not too long. -/
namespace Go.Proofs.Ytljfanhkbbfngaa
open Go.RowKit
set_option maxRecDepth 20000
end Go.Proofs.Ytljfanhkbbfngaa
/- Number, Text, Value, Values of wire: the bytes of a form. Conditions: what is written is not too long. -/
namespace Go.Proofs.Ytljfanhkbbfngaa
open Go.RowKit
set_option maxRecDepth 20000
end Go.Proofs.Ytljfanhkbbfngaa
/- The writer's row of values; Values of wire. Conditions: what is written is not too long. -/
namespace Go.Proofs.Ytljfanhkbbfngaa
open Go.RowKit
set_option maxRecDepth 20000
end Go.Proofs.Ytljfanhkbbfngaa
/- Values of wire: the bytes of a row of values. Conditions: what is written is not too long. -/
namespace Go.Proofs.Ytljfanhkbbfngaa
open Go.RowKit
set_option maxRecDepth 20000
end Go.Proofs.Ytljfanhkbbfngaa
/- Join of wire: parts, one behind the other. Conditions: the parts' cells lie as their readings say. -/
namespace Go.Proofs.Ytljfanhkbbfngaa
open Go.RowKit
set_option maxRecDepth 20000
end Go.Proofs.Ytljfanhkbbfngaa
/- The reader of wire: take, said, kind, count. Conditions: the reader is one that was made. -/
namespace Go.Proofs.Ytljfanhkbbfngaa
open Go.RowKit
set_option maxRecDepth 20000
end Go.Proofs.Ytljfanhkbbfngaa
/- The reader of wire: said, kind, count. Conditions: the reader is one that was made. -/
namespace Go.Proofs.Ytljfanhkbbfngaa
open Go.RowKit
set_option maxRecDepth 20000
end Go.Proofs.Ytljfanhkbbfngaa
/- The reader of wire: kind, count, known, Number, whole. Conditions: the reader is one that was made. -/
namespace Go.Proofs.Ytljfanhkbbfngaa
open Go.RowKit
set_option maxRecDepth 20000
end Go.Proofs.Ytljfanhkbbfngaa
/- The reader of wire: NewReader, Bad, Done. Conditions: as each says. -/
namespace Go.Proofs.Ytljfanhkbbfngaa
open Go.RowKit
set_option maxRecDepth 20000
end Go.Proofs.Ytljfanhkbbfngaa
/- The reader of wire: Text. Conditions: the reader is one that was made. -/
namespace Go.Proofs.Ytljfanhkbbfngaa
open Go.RowKit
set_option maxRecDepth 20000
end Go.Proofs.Ytljfanhkbbfngaa
/- The reader of wire: sure of a value; Value. Conditions: the reader is one that was made. -/
namespace Go.Proofs.Ytljfanhkbbfngaa
open Go.RowKit
set_option maxRecDepth 20000
end Go.Proofs.Ytljfanhkbbfngaa
/- The reader of wire: Value. Conditions: the reader is one that was made. -/
namespace Go.Proofs.Ytljfanhkbbfngaa
open Go.RowKit
set_option maxRecDepth 20000
end Go.Proofs.Ytljfanhkbbfngaa
/- SameBytes: bytes that read alike are told to be the same. Conditions: the cells lie as their readings say. -/
namespace Go.Proofs.Ytljfanhkbbfngaa
open Go.RowKit
set_option maxRecDepth 20000
end Go.Proofs.Ytljfanhkbbfngaa
/- Join of wire; a reader's Number and Value with what they tell under names. Conditions: as each says. -/
namespace Go.Proofs.Ytljfanhkbbfngaa
open Go.RowKit
set_option maxRecDepth 20000
end Go.Proofs.Ytljfanhkbbfngaa
/- What the reader of wire tells of rows and structs: plain definitions and laws; a reader where other blocks grow. Conditions: as each says. -/
namespace Go.Proofs.Ytljfanhkbbfngaa
open Go.RowKit
set_option maxRecDepth 20000
/- Rows of values that the reader of wire reads. Conditions: the reader is one that was made. -/
/- Rows of ints that the reader of wire reads. Conditions: the reader is one that was made. -/
/- The reader of wire: what is told under names; Values; commands, facts of a call's own. Conditions: the reader is one that was made. -/
end Go.Proofs.Ytljfanhkbbfngaa
/- The reader of wire: Fact. Conditions: the reader is one that was made. -/
namespace Go.Proofs.Ytljfanhkbbfngaa
open Go.RowKit
set_option maxRecDepth 20000
end Go.Proofs.Ytljfanhkbbfngaa
/- Rows of facts that the reader of wire reads. Conditions: the reader is one that was made. -/
namespace Go.Proofs.Ytljfanhkbbfngaa
open Go.RowKit
set_option maxRecDepth 20000
end Go.Proofs.Ytljfanhkbbfngaa
/- The marks of ropewalkkit/lent.go: facts, replies. Conditions: the places are not too great. -/
namespace Go.Proofs.Ytljfanhkbbfngaa
open Go.RowKit
set_option maxRecDepth 20000
end Go.Proofs.Ytljfanhkbbfngaa
/- LentFacts: a row of facts is copied, each fact's values too, with marks behind all ends; KeptFact. Conditions: the facts lie as their reading says. -/
namespace Go.Proofs.Ytljfanhkbbfngaa
open Go.RowKit
set_option maxRecDepth 20000
end Go.Proofs.Ytljfanhkbbfngaa
/- A thing of each form among the arguments, with the bounds of what hangs on it. Conditions: it is read as the row reads it, its weights are bounded. -/
namespace Go.Proofs.Ytljfanhkbbfngaa
open Go.RowKit Go.ChangeShapes
set_option maxRecDepth 20000
end Go.Proofs.Ytljfanhkbbfngaa
/- The writer's facts, commands; Fact, Command, Reply, Entry of wire. Conditions: what is written is not too long. -/
namespace Go.Proofs.Ytljfanhkbbfngaa
open Go.RowKit
set_option maxRecDepth 20000
end Go.Proofs.Ytljfanhkbbfngaa
/- What is written in any form, with whatever behind it, is read as it was. No program. Conditions: as each says. -/
namespace Go.Proofs.Ytljfanhkbbfngaa
open Go.RowKit
set_option maxRecDepth 20000
end Go.Proofs.Ytljfanhkbbfngaa
/- How much a thing is: plain definitions and laws. No program. Conditions: as each says. -/
namespace Go.Proofs.Ytljfanhkbbfngaa
open Go.RowKit
set_option maxRecDepth 20000
end Go.Proofs.Ytljfanhkbbfngaa
/- How much values are, and whether they are wholly said: the law's own helpers, walked. Conditions: memory bounds lengths. -/
namespace Go.Proofs.Ytljfanhkbbfngaa
open Go.RowKit
set_option maxRecDepth 20000
end Go.Proofs.Ytljfanhkbbfngaa
/- How much a thing is: the law's helper great, walked. Conditions: the thing lies in memory as it is read. -/
namespace Go.Proofs.Ytljfanhkbbfngaa
open Go.RowKit
set_option maxRecDepth 20000
end Go.Proofs.Ytljfanhkbbfngaa
/- A thing's cells, one by one, in every world in which its block stays. Conditions: the block lies as it is read. -/
namespace Go.Proofs.Ytljfanhkbbfngaa
open Go.RowKit
set_option maxRecDepth 20000
theorem range_new {w : World} {g o : Nat} : w.rangeAt g o [] := fun j v hv => by cases j <;> cases hv
theorem range_cons {w : World} {g o : Nat} {v : Value} {vs : List Value} (h : w.cell? ⟨g, o, none⟩ = some v) (h2 : w.rangeAt g (o + 1) vs) : w.rangeAt g o (v :: vs) := fun j u hu => by
  cases j with
  | zero => simp at hu; subst hu; exact h
  | succ j =>
    have := h2 j u (by simpa using hu)
    rw [show o + (j + 1) = o + 1 + j by omega]
    exact this
/-- A load of a struct, where the operation is guarded, and wanted. -/
theorem wpList_load_want {P : Program} {ops : Array Oper} {rest : List Oper} {op : Oper} {a : Act} {w : World} {Q : Exit → Act → World → Prop} (hw : Region.wanted op (yielded ops a.tmps) = true) (ty : TypeId) (x : Operand) (ho : op.op = .load ty x)
    (b o : Nat) (hx : a.eval x = .pointer (some ⟨b, o, none⟩)) (cs : List Value) (d : TypeDesc) (hc : w.rangeAt b o cs)
    (hu : P.underlying ty = some d) (hd : d.isRow = true) (hi : (P.info? ty).map (·.size) = some cs.length)
    (h : wpList P ops Q rest (a.put op.dst (.agg cs.toArray)) w) : wpList P ops Q (op :: rest) a w :=
  Go.BigFrame.wpList_want hw fun _ hK => wp_load_mid ty x ho b o hx cs d hc hu hd hi (hK _ _ h)
theorem info_cm : (Try.prog.info? 57).map (·.size) = some 4 := by kernel_rfl
end Go.Proofs.Ytljfanhkbbfngaa
/- KeptFact, KeptCommand, KeptFacts, LentReply, KeptReply, LentEntry, KeptEntry: things that are lent are found as they were, as long as nobody writes behind their ends. Conditions: they lie as their reading says. -/
namespace Go.Proofs.Ytljfanhkbbfngaa
open Go.RowKit
set_option maxRecDepth 20000
theorem own_blocks' {w w' : World} {base e size n : Nat} {v : Value} {xs : List Value} (h : w.ownsRow base e size v n xs) (hs : ∀ g, base ≤ g → g < w.heap.size → w'.heap[g]? = w.heap[g]?) : w'.ownsRow base e size v n xs := by
  refine ⟨h.1, ?_⟩
  rcases h.2 with hn | ⟨g, cap, cur, rfl, h1, h2, h3⟩
  · exact Or.inl hn
  · refine Or.inr ⟨g, cap, cur, rfl, h1, ?_, h3⟩
    rw [hs g h1 (Array.getElem?_eq_some_iff.1 h2).1]
    exact h2
theorem keptV_at (ao : Option Addr) (n cap c2 g B : Nat) (go : Option Addr) (xs : List Va) (w : World) (B2 : Nat) (hg : go = some ⟨g, 0, none⟩) (hc : c2 = n + 12) (hn : xs.length = n) (hx : ValsIn w B2 ao xs) (hB : B2 ≤ w.heap.size) (hL : LentV w B g xs) (hl : n ≤ 1099511627776) :
    Calls Try.prog 58 #[.slice go n c2, .slice ao n cap] w fun e w' => e = .returned (.bool true) ∧ Below w.heap.size w w' := by
  subst hg hc
  exact keptV_any ao n cap g B xs w hn (RowsIn.mono noSub_rising hx hB) hL hl
set_option maxHeartbeats 1000000 in
theorem keptC_any (ck : Int) (text : ByteArray) (num : Int) (ao : Option Addr) (n cap g B : Nat) (xs : List Va) (w : World) (hn : xs.length = n) (hx : ValsIn w w.heap.size ao xs) (hL : LentV w B g xs) (hl : n ≤ 1099511627776) :
    Calls Try.prog 49 #[.agg #[.int .u8 ck, .string text, .slice (some ⟨g, 0, none⟩) n (n + 12), .int .i64 num], .agg #[.int .u8 ck, .string text, .slice ao n cap, .int .i64 num]] w fun e w' => e = .returned (.bool true) ∧ Below w.heap.size w w' := by
  obtain ⟨hb2, h1, h2, hz2⟩ := alloc2_facts w #[.int .u8 ck, .string text, .slice (some ⟨g, 0, none⟩) n (n + 12), .int .i64 num] #[.int .u8 ck, .string text, .slice ao n cap, .int .i64 num] 57 57
  have HX := Lib.hid hx
  have HL := Lib.hid hL
  have HN := Lib.hid hn
  have HB2 := Lib.hid hb2
  have H1 := Lib.hid h1
  have H2 := Lib.hid h2
  have HZ := Lib.hid hz2
  clear hx hL hn hb2 h1 h2 hz2
  go_enter Try.func49, Try.ntmps49
  go_wp2_with fail
  have hb2 := HB2.out
  have h1 := H1.out
  have h2 := H2.out
  have hz2 := HZ.out
  generalize ((w.alloc (.cells #[.int .u8 ck, .string text, .slice (some ⟨g, 0, none⟩) n (n + 12), .int .i64 num] 57)).alloc (.cells #[.int .u8 ck, .string text, .slice ao n cap, .int .i64 num] 57)) = w2 at hb2 h1 h2 hz2 ⊢
  have H1 := Lib.hid h1
  have H2 := Lib.hid h2
  have HZ := Lib.hid hz2
  have hL2 := HL.out.below hb2 (Nat.le_refl _)
  have hx2 : ValsIn w2 w2.heap.size ao xs := RowsIn.mono noSub_rising (RowsIn.below noSub_kept HX.out hb2 (Nat.le_refl _)) hb2.size
  have hy2 : ValsIn w2 w2.heap.size (some ⟨g, 0, none⟩) xs := RowsIn.mono noSub_rising hL2.rows hL2.lt.2
  have HL2 := Lib.hid hL2
  have HX2 := Lib.hid hx2
  have HSAME := Lib.hid (show Calls Try.prog 51 #[.agg #[.int .u8 ck, .string text, .slice (some ⟨g, 0, none⟩) n (n + 12), .int .i64 num], .agg #[.int .u8 ck, .string text, .slice ao n cap, .int .i64 num]] w2 fun e w' => e = .returned (.bool true) ∧ Below w2.heap.size w2 w' from sameC_any ck text num (some ⟨g, 0, none⟩) n (n + 12) ao cap xs w2 w2.heap.size HN.out hy2 hx2 (Nat.le_refl _) (by omega))
  clear h1 h2 hz2 HB2 hL2 hx2 hy2
  refine HSAME.out.mono ?_
  rintro e w3 ⟨rfl, hb3⟩
  have k1 := (hb3.block w.heap.size (by have := HZ.out; omega)).trans H1.out
  have k2 := (hb3.block (w.heap.size + 1) (by have := HZ.out; omega)).trans H2.out
  have c1 : w3.cell? ⟨w.heap.size, 2, none⟩ = some (.slice (some ⟨g, 0, none⟩) n (n + 12)) := Go.Joins.cell_of_block k1 2
  have c2 : w3.cell? ⟨w.heap.size + 1, 2, none⟩ = some (.slice ao n cap) := Go.Joins.cell_of_block k2 2
  have hb4 := hb2.trans (hb3.mono hb2.size)
  clear k1 k2 HSAME
  go_wp2_with fail
  refine (keptV_at ao n cap (n + 12) g B (some ⟨g, 0, none⟩) xs w3 w2.heap.size rfl rfl HN.out (RowsIn.below noSub_kept HX2.out hb3 (Nat.le_refl _)) hb3.size (HL2.out.below hb3 (Nat.le_refl _)) hl).mono ?_
  rintro e w4 ⟨rfl, hb5⟩
  clear c1 c2
  go_wp2_with fail
  go_ret
  exact ⟨rfl, hb4.trans (hb5.mono hb4.size)⟩
end Go.Proofs.Ytljfanhkbbfngaa
/- LentReply, KeptReply, LentEntry, KeptEntry: things that are lent are found as they were, as long as nobody writes behind their ends. Conditions: they lie as their reading says. -/
namespace Go.Proofs.Ytljfanhkbbfngaa
open Go.RowKit
set_option maxRecDepth 20000
theorem LentV.blocks {w w' : World} {B g : Nat} {xs : List Va} (h : LentV w B g xs) (hs : ∀ g, B ≤ g → g < w.heap.size → w'.heap[g]? = w.heap[g]?) : LentV w' B g xs := own_blocks' h hs
theorem LentI.blocks {w w' : World} {B g : Nat} {xs : List Int} (h : LentI w B g xs) (hs : ∀ g, B ≤ g → g < w.heap.size → w'.heap[g]? = w.heap[g]?) : LentI w' B g xs := own_blocks' h hs
theorem keptI_at (ao : Option Addr) (n cap c2 g B : Nat) (go : Option Addr) (xs : List Int) (w : World) (B2 : Nat) (hg : go = some ⟨g, 0, none⟩) (hc : c2 = n + 12) (hn : xs.length = n) (hx : NumsIn w B2 ao xs) (hB : B2 ≤ w.heap.size) (hL : LentI w B g xs) (hl : n ≤ 1099511627776) :
    Calls Try.prog 50 #[.slice go n c2, .slice ao n cap] w fun e w' => e = .returned (.bool true) ∧ Below w.heap.size w w' := by
  subst hg hc
  exact keptI_any ao n cap g B xs w hn (RowsIn.mono noSub_rising hx hB) hL hl
set_option maxHeartbeats 4000000 in
theorem lentEn_any (x0 x1 x2 x3 ck : Int) (text : ByteArray) (ao : Option Addr) (cap : Nat) (args : List Va) (num : Int) (vo : Option Addr) (vc : Nat) (vs : List Int) (w : World) (hx : ValsIn w w.heap.size ao args) (hy : NumsIn w w.heap.size vo vs) (hao : ao = none → cap = 0) (hvo : vo = none → vc = 0) (hl : args.length ≤ 1099511627776) (hl2 : vs.length ≤ 1099511627776) :
    Calls Try.prog 27 #[.agg #[.int .i64 x0, .int .u8 x1, .int .i64 x2, .int .i64 x3, .int .u8 ck, .string text, .slice ao args.length cap, .int .i64 num, .slice vo vs.length vc]] w fun e w' => ∃ (g1 g2 : Nat), e = .returned (.agg #[.int .i64 x0, .int .u8 x1, .int .i64 x2, .int .i64 x3, .int .u8 ck, .string text, .slice (some ⟨g1, 0, none⟩) args.length (args.length + 12), .int .i64 num, .slice (some ⟨g2, 0, none⟩) vs.length (vs.length + 12)]) ∧ LentV w' w.heap.size g1 args ∧ LentI w' w.heap.size g2 vs ∧ Below w.heap.size w w' := by
  obtain ⟨hb2, h1, h2, hz2⟩ := alloc2_facts w #[.int .i64 x0, .int .u8 x1, .int .i64 x2, .int .i64 x3, .int .u8 ck, .string text, .slice ao args.length cap, .int .i64 num, .slice vo vs.length vc] #[.int .i64 0, .int .u8 0, .int .i64 0, .int .i64 0, .int .u8 0, .string ⟨#[]⟩, .slice none 0 0, .int .i64 0, .slice none 0 0] 59 59
  have HX := Lib.hid hx
  have HY := Lib.hid hy
  have HAO := Lib.hid hao
  have HVO := Lib.hid hvo
  clear hx hy hao hvo
  have HB2 := Lib.hid hb2
  have H1 := Lib.hid h1
  have H2 := Lib.hid h2
  have HZ := Lib.hid hz2
  clear hb2 h1 h2 hz2
  go_enter Try.func27, Try.ntmps27
  go_wp2_with fail
  have hb2 := HB2.out
  have h1 := H1.out
  have h2 := H2.out
  have hz2 := HZ.out
  generalize ((w.alloc (.cells #[.int .i64 x0, .int .u8 x1, .int .i64 x2, .int .i64 x3, .int .u8 ck, .string text, .slice ao args.length cap, .int .i64 num, .slice vo vs.length vc] 59)).alloc (.cells #[.int .i64 0, .int .u8 0, .int .i64 0, .int .i64 0, .int .u8 0, .string ⟨#[]⟩, .slice none 0 0, .int .i64 0, .slice none 0 0] 59)) = w2 at hb2 h1 h2 hz2 ⊢
  have H1 := Lib.hid h1
  have H2 := Lib.hid h2
  have HZ := Lib.hid hz2
  clear h1 h2 hz2 HB2
  refine (lentC_any ck text num ao args.length cap args w2 rfl (RowsIn.mono noSub_rising (RowsIn.below noSub_kept HX.out hb2 (Nat.le_refl _)) hb2.size) HAO.out hl).mono ?_
  rintro e w3 ⟨g1, rfl, hg1, hL, hb3⟩
  have k1 := (hb3.block w.heap.size (by have := HZ.out; omega)).trans H1.out
  have k2 := (hb3.block (w.heap.size + 1) (by have := HZ.out; omega)).trans H2.out
  have c0 : w3.cell? ⟨w.heap.size, 0, none⟩ = some (.int .i64 x0) := Go.Joins.cell_of_block k1 0
  have c1 : w3.cell? ⟨w.heap.size, 1, none⟩ = some (.int .u8 x1) := Go.Joins.cell_of_block k1 1
  have c2 : w3.cell? ⟨w.heap.size, 2, none⟩ = some (.int .i64 x2) := Go.Joins.cell_of_block k1 2
  have c3 : w3.cell? ⟨w.heap.size, 3, none⟩ = some (.int .i64 x3) := Go.Joins.cell_of_block k1 3
  have c4 : w3.cell? ⟨w.heap.size, 4, none⟩ = some (.int .u8 ck) := Go.Joins.cell_of_block k1 4
  have c5 : w3.cell? ⟨w.heap.size, 5, none⟩ = some (.string text) := Go.Joins.cell_of_block k1 5
  have c6 : w3.cell? ⟨w.heap.size, 6, none⟩ = some (.slice ao args.length cap) := Go.Joins.cell_of_block k1 6
  have c7 : w3.cell? ⟨w.heap.size, 7, none⟩ = some (.int .i64 num) := Go.Joins.cell_of_block k1 7
  have c8 : w3.cell? ⟨w.heap.size, 8, none⟩ = some (.slice vo vs.length vc) := Go.Joins.cell_of_block k1 8
  have fc4 : w3.frozen? ⟨w.heap.size, 4, none⟩ = false := Go.Joins.unfrozen_of_block k1 4
  have fc5 : w3.frozen? ⟨w.heap.size, 5, none⟩ = false := Go.Joins.unfrozen_of_block k1 5
  have fc6 : w3.frozen? ⟨w.heap.size, 6, none⟩ = false := Go.Joins.unfrozen_of_block k1 6
  have fc7 : w3.frozen? ⟨w.heap.size, 7, none⟩ = false := Go.Joins.unfrozen_of_block k1 7
  have hb3' := hb2.trans (hb3.mono hb2.size)
  obtain ⟨w4, hw4⟩ : ∃ w', (((w3.setCell ⟨w.heap.size, 4, none⟩ (.int .u8 ck)).setCell ⟨w.heap.size, 5, none⟩ (.string text)).setCell ⟨w.heap.size, 6, none⟩ (.slice (some ⟨g1, 0, none⟩) args.length (args.length + 12))).setCell ⟨w.heap.size, 7, none⟩ (.int .i64 num) = w' := ⟨_, rfl⟩
  have k3 : w4.heap[w.heap.size]? = some (.cells #[.int .i64 x0, .int .u8 x1, .int .i64 x2, .int .i64 x3, .int .u8 ck, .string text, .slice (some ⟨g1, 0, none⟩) args.length (args.length + 12), .int .i64 num, .slice vo vs.length vc] 59 (0, 0)) := hw4 ▸ Go.Joins.block_setCell (i := 7) (Go.Joins.block_setCell (i := 6) (Go.Joins.block_setCell (i := 5) (Go.Joins.block_setCell (i := 4) k1 _) _) _) _
  have k4 : w4.heap[w.heap.size + 1]? = some (.cells #[.int .i64 0, .int .u8 0, .int .i64 0, .int .i64 0, .int .u8 0, .string ⟨#[]⟩, .slice none 0 0, .int .i64 0, .slice none 0 0] 59 (0, 0)) := by rw [← hw4, heap_setCell_other _ _ _ _ (by simp), heap_setCell_other _ _ _ _ (by simp), heap_setCell_other _ _ _ _ (by simp), heap_setCell_other _ _ _ _ (by simp)]; exact k2
  have hb4 : Below w.heap.size w w4 := hw4 ▸ (((hb3'.setCell (p := ⟨w.heap.size, 4, none⟩) (Nat.le_refl _) _).setCell (p := ⟨w.heap.size, 5, none⟩) (Nat.le_refl _) _).setCell (p := ⟨w.heap.size, 6, none⟩) (Nat.le_refl _) _).setCell (p := ⟨w.heap.size, 7, none⟩) (Nat.le_refl _) _
  have hz4 : w4.heap.size = w3.heap.size := by rw [← hw4]; simp
  have hz23 := hb3.size
  have hL4 : LentV w4 w2.heap.size g1 args := hL.blocks fun g hg _ => by rw [← hw4, heap_setCell_other _ _ _ _ (by have := HZ.out; simp; omega), heap_setCell_other _ _ _ _ (by have := HZ.out; simp; omega), heap_setCell_other _ _ _ _ (by have := HZ.out; simp; omega), heap_setCell_other _ _ _ _ (by have := HZ.out; simp; omega)]
  have HL4 := Lib.hid hL4
  have K3 := Lib.hid k3
  have K4 := Lib.hid k4
  have HW4 := Lib.hid hw4
  have HB4 := Lib.hid hb4
  have HZ4 := Lib.hid hz4
  have HZ23 := Lib.hid hz23
  have HB2 := Lib.hid hb2.size
  clear hL k1 k2 k3 k4 hw4 hb4 hz4 hz23 hL4 hb3 hb3' hb2
  go_wp2_with fail
  rw [HW4.out]
  clear c0 c1 c2 c3 c4 c5 c6 c7 c8 fc4 fc5 fc6 fc7
  refine (lentI_any vo vs.length vc vs w4 rfl (RowsIn.mono noSub_rising (RowsIn.below noSub_kept HY.out HB4.out (Nat.le_refl _)) HB4.out.size) HVO.out hl2).mono ?_
  rintro e w5 ⟨g2, rfl, hg2, _, hV, hb5⟩
  have z1 := HZ.out
  have z2 := HZ4.out
  have z3 := HZ23.out
  have k1 := (hb5.block w.heap.size (by omega)).trans K3.out
  have k2 := (hb5.block (w.heap.size + 1) (by omega)).trans K4.out
  have c0 : w5.cell? ⟨w.heap.size, 0, none⟩ = some (.int .i64 x0) := Go.Joins.cell_of_block k1 0
  have c1 : w5.cell? ⟨w.heap.size, 1, none⟩ = some (.int .u8 x1) := Go.Joins.cell_of_block k1 1
  have c2 : w5.cell? ⟨w.heap.size, 2, none⟩ = some (.int .i64 x2) := Go.Joins.cell_of_block k1 2
  have c3 : w5.cell? ⟨w.heap.size, 3, none⟩ = some (.int .i64 x3) := Go.Joins.cell_of_block k1 3
  have c4 : w5.cell? ⟨w.heap.size, 4, none⟩ = some (.int .u8 ck) := Go.Joins.cell_of_block k1 4
  have c5 : w5.cell? ⟨w.heap.size, 5, none⟩ = some (.string text) := Go.Joins.cell_of_block k1 5
  have c6 : w5.cell? ⟨w.heap.size, 6, none⟩ = some (.slice (some ⟨g1, 0, none⟩) args.length (args.length + 12)) := Go.Joins.cell_of_block k1 6
  have c7 : w5.cell? ⟨w.heap.size, 7, none⟩ = some (.int .i64 num) := Go.Joins.cell_of_block k1 7
  have c8 : w5.cell? ⟨w.heap.size, 8, none⟩ = some (.slice vo vs.length vc) := Go.Joins.cell_of_block k1 8
  have fc8 : w5.frozen? ⟨w.heap.size, 8, none⟩ = false := Go.Joins.unfrozen_of_block k1 8
  have d0 : w5.cell? ⟨w.heap.size + 1, 0, none⟩ = some (.int .i64 0) := Go.Joins.cell_of_block k2 0
  have d1 : w5.cell? ⟨w.heap.size + 1, 1, none⟩ = some (.int .u8 0) := Go.Joins.cell_of_block k2 1
  have d2 : w5.cell? ⟨w.heap.size + 1, 2, none⟩ = some (.int .i64 0) := Go.Joins.cell_of_block k2 2
  have d3 : w5.cell? ⟨w.heap.size + 1, 3, none⟩ = some (.int .i64 0) := Go.Joins.cell_of_block k2 3
  have d4 : w5.cell? ⟨w.heap.size + 1, 4, none⟩ = some (.int .u8 0) := Go.Joins.cell_of_block k2 4
  have d5 : w5.cell? ⟨w.heap.size + 1, 5, none⟩ = some (.string ⟨#[]⟩) := Go.Joins.cell_of_block k2 5
  have d6 : w5.cell? ⟨w.heap.size + 1, 6, none⟩ = some (.slice none 0 0) := Go.Joins.cell_of_block k2 6
  have d7 : w5.cell? ⟨w.heap.size + 1, 7, none⟩ = some (.int .i64 0) := Go.Joins.cell_of_block k2 7
  have d8 : w5.cell? ⟨w.heap.size + 1, 8, none⟩ = some (.slice none 0 0) := Go.Joins.cell_of_block k2 8
  have fd0 : w5.frozen? ⟨w.heap.size + 1, 0, none⟩ = false := Go.Joins.unfrozen_of_block k2 0
  have fd1 : w5.frozen? ⟨w.heap.size + 1, 1, none⟩ = false := Go.Joins.unfrozen_of_block k2 1
  have fd2 : w5.frozen? ⟨w.heap.size + 1, 2, none⟩ = false := Go.Joins.unfrozen_of_block k2 2
  have fd3 : w5.frozen? ⟨w.heap.size + 1, 3, none⟩ = false := Go.Joins.unfrozen_of_block k2 3
  have fd4 : w5.frozen? ⟨w.heap.size + 1, 4, none⟩ = false := Go.Joins.unfrozen_of_block k2 4
  have fd5 : w5.frozen? ⟨w.heap.size + 1, 5, none⟩ = false := Go.Joins.unfrozen_of_block k2 5
  have fd6 : w5.frozen? ⟨w.heap.size + 1, 6, none⟩ = false := Go.Joins.unfrozen_of_block k2 6
  have fd7 : w5.frozen? ⟨w.heap.size + 1, 7, none⟩ = false := Go.Joins.unfrozen_of_block k2 7
  have fd8 : w5.frozen? ⟨w.heap.size + 1, 8, none⟩ = false := Go.Joins.unfrozen_of_block k2 8
  have HL5 := Lib.hid (HL4.out.below hb5 (Nat.le_refl _))
  have HV := Lib.hid hV
  have HB5 := Lib.hid (HB4.out.trans (hb5.mono HB4.out.size))
  have hz5 : w4.heap.size ≤ w5.heap.size := hb5.size
  have HZS := Lib.hid (And.intro z1 (And.intro z2 (And.intro z3 hz5)))
  clear hV k1 k2 hb5 z1 z2 z3 hz5
  go_wp2_with fail
  have hkeep : ∀ g, w2.heap.size ≤ g → g < w5.heap.size → ((((((((((w5.setCell ⟨w.heap.size, 8, none⟩ (.slice (some ⟨g2, 0, none⟩) vs.length (vs.length + 12))).setCell ⟨w.heap.size + 1, 0, none⟩ (.int .i64 x0)).setCell ⟨w.heap.size + 1, 1, none⟩ (.int .u8 x1)).setCell ⟨w.heap.size + 1, 2, none⟩ (.int .i64 x2)).setCell ⟨w.heap.size + 1, 3, none⟩ (.int .i64 x3)).setCell ⟨w.heap.size + 1, 4, none⟩ (.int .u8 ck)).setCell ⟨w.heap.size + 1, 5, none⟩ (.string text)).setCell ⟨w.heap.size + 1, 6, none⟩ (.slice (some ⟨g1, 0, none⟩) args.length (args.length + 12))).setCell ⟨w.heap.size + 1, 7, none⟩ (.int .i64 num)).setCell ⟨w.heap.size + 1, 8, none⟩ (.slice (some ⟨g2, 0, none⟩) vs.length (vs.length + 12))).heap[g]? = w5.heap[g]? := fun g hg _ => by
    have := HZS.out
    rw [heap_setCell_other _ _ _ _ (by simp; omega), heap_setCell_other _ _ _ _ (by simp; omega), heap_setCell_other _ _ _ _ (by simp; omega), heap_setCell_other _ _ _ _ (by simp; omega), heap_setCell_other _ _ _ _ (by simp; omega), heap_setCell_other _ _ _ _ (by simp; omega), heap_setCell_other _ _ _ _ (by simp; omega), heap_setCell_other _ _ _ _ (by simp; omega), heap_setCell_other _ _ _ _ (by simp; omega), heap_setCell_other _ _ _ _ (by simp; omega)]
  have hfl := LentV.blocks HL5.out hkeep
  have hvl := LentI.blocks HV.out (fun g hg hlt => hkeep g (by have := HZS.out; omega) hlt)
  have hbb := ((((((((((HB5.out.setCell (p := ⟨w.heap.size, 8, none⟩) (Nat.le_refl _) (.slice (some ⟨g2, 0, none⟩) vs.length (vs.length + 12))).setCell (p := ⟨w.heap.size + 1, 0, none⟩) (Nat.le_succ _) (.int .i64 x0)).setCell (p := ⟨w.heap.size + 1, 1, none⟩) (Nat.le_succ _) (.int .u8 x1)).setCell (p := ⟨w.heap.size + 1, 2, none⟩) (Nat.le_succ _) (.int .i64 x2)).setCell (p := ⟨w.heap.size + 1, 3, none⟩) (Nat.le_succ _) (.int .i64 x3)).setCell (p := ⟨w.heap.size + 1, 4, none⟩) (Nat.le_succ _) (.int .u8 ck)).setCell (p := ⟨w.heap.size + 1, 5, none⟩) (Nat.le_succ _) (.string text)).setCell (p := ⟨w.heap.size + 1, 6, none⟩) (Nat.le_succ _) (.slice (some ⟨g1, 0, none⟩) args.length (args.length + 12))).setCell (p := ⟨w.heap.size + 1, 7, none⟩) (Nat.le_succ _) (.int .i64 num)).setCell (p := ⟨w.heap.size + 1, 8, none⟩) (Nat.le_succ _) (.slice (some ⟨g2, 0, none⟩) vs.length (vs.length + 12)))
  exact bodyPost_ret (v := .agg #[.int .i64 x0, .int .u8 x1, .int .i64 x2, .int .i64 x3, .int .u8 ck, .string text, .slice (some ⟨g1, 0, none⟩) args.length (args.length + 12), .int .i64 num, .slice (some ⟨g2, 0, none⟩) vs.length (vs.length + 12)]) (by simp [results, Try.results27, go_sem, d0, d1, d2, d3, d4, d5, d6, d7, d8]) rfl ⟨g1, g2, rfl, hfl.le HB2.out, hvl.le (by have := HZS.out; omega), hbb⟩
set_option maxHeartbeats 2000000 in
theorem keptEn_any (x0 x1 x2 x3 ck : Int) (text : ByteArray) (ao : Option Addr) (cap : Nat) (args : List Va) (num : Int) (vo : Option Addr) (vc : Nat) (vs : List Int) (g1 g2 B : Nat) (w : World) (hx : ValsIn w w.heap.size ao args) (hy : NumsIn w w.heap.size vo vs) (hL : LentV w B g1 args) (hV : LentI w B g2 vs) (hl : args.length ≤ 1099511627776) (hl2 : vs.length ≤ 1099511627776) :
    Calls Try.prog 30 #[.agg #[.int .i64 x0, .int .u8 x1, .int .i64 x2, .int .i64 x3, .int .u8 ck, .string text, .slice (some ⟨g1, 0, none⟩) args.length (args.length + 12), .int .i64 num, .slice (some ⟨g2, 0, none⟩) vs.length (vs.length + 12)], .agg #[.int .i64 x0, .int .u8 x1, .int .i64 x2, .int .i64 x3, .int .u8 ck, .string text, .slice ao args.length cap, .int .i64 num, .slice vo vs.length vc]] w fun e w' => e = .returned (.bool true) ∧ Below w.heap.size w w' := by
  obtain ⟨hb2, h1, h2, hz2⟩ := alloc2_facts w #[.int .i64 x0, .int .u8 x1, .int .i64 x2, .int .i64 x3, .int .u8 ck, .string text, .slice (some ⟨g1, 0, none⟩) args.length (args.length + 12), .int .i64 num, .slice (some ⟨g2, 0, none⟩) vs.length (vs.length + 12)] #[.int .i64 x0, .int .u8 x1, .int .i64 x2, .int .i64 x3, .int .u8 ck, .string text, .slice ao args.length cap, .int .i64 num, .slice vo vs.length vc] 59 59
  have HX := Lib.hid hx
  have HY := Lib.hid hy
  have HL := Lib.hid hL
  have HV := Lib.hid hV
  clear hx hy hL hV
  have HB2 := Lib.hid hb2
  have H1 := Lib.hid h1
  have H2 := Lib.hid h2
  have HZ := Lib.hid hz2
  clear hb2 h1 h2 hz2
  go_enter Try.func30, Try.ntmps30
  go_wp2_with fail
  have hb2 := HB2.out
  have h1 := H1.out
  have h2 := H2.out
  have hz2 := HZ.out
  generalize ((w.alloc (.cells #[.int .i64 x0, .int .u8 x1, .int .i64 x2, .int .i64 x3, .int .u8 ck, .string text, .slice (some ⟨g1, 0, none⟩) args.length (args.length + 12), .int .i64 num, .slice (some ⟨g2, 0, none⟩) vs.length (vs.length + 12)] 59)).alloc (.cells #[.int .i64 x0, .int .u8 x1, .int .i64 x2, .int .i64 x3, .int .u8 ck, .string text, .slice ao args.length cap, .int .i64 num, .slice vo vs.length vc] 59)) = w2 at hb2 h1 h2 hz2 ⊢
  have H1 := Lib.hid h1
  have H2 := Lib.hid h2
  have HZ := Lib.hid hz2
  clear h1 h2 hz2 HB2
  have hL2 := HL.out.below hb2 (Nat.le_refl _)
  have hV2 := HV.out.below hb2 (Nat.le_refl _)
  have HX2 := Lib.hid (RowsIn.mono noSub_rising (RowsIn.below noSub_kept HX.out hb2 (Nat.le_refl _)) hb2.size)
  have HY2 := Lib.hid (RowsIn.mono noSub_rising (RowsIn.below noSub_kept HY.out hb2 (Nat.le_refl _)) hb2.size)
  have HL2 := Lib.hid hL2
  have HV2 := Lib.hid hV2
  have HSAME := Lib.hid (show Calls Try.prog 31 #[.agg #[.int .i64 x0, .int .u8 x1, .int .i64 x2, .int .i64 x3, .int .u8 ck, .string text, .slice (some ⟨g1, 0, none⟩) args.length (args.length + 12), .int .i64 num, .slice (some ⟨g2, 0, none⟩) vs.length (vs.length + 12)], .agg #[.int .i64 x0, .int .u8 x1, .int .i64 x2, .int .i64 x3, .int .u8 ck, .string text, .slice ao args.length cap, .int .i64 num, .slice vo vs.length vc]] w2 fun e w' => e = .returned (.bool true) ∧ Below w2.heap.size w2 w' from
    sameE_any ⟨x0, x1, x2, x3, ck, text, some ⟨g1, 0, none⟩, args, args.length + 12, num, some ⟨g2, 0, none⟩, vs, vs.length + 12⟩ ⟨x0, x1, x2, x3, ck, text, ao, args, cap, num, vo, vs, vc⟩ w2 w2.heap.size rfl ⟨RowsIn.mono noSub_rising hL2.rows hL2.lt.2, RowsIn.mono noSub_rising hV2.rows hV2.lt.2⟩ ⟨HX2.out, HY2.out⟩ (Nat.le_refl _) (by show args.length ≤ _; omega) (by show vs.length ≤ _; omega))
  clear hL2 hV2
  refine HSAME.out.mono ?_
  rintro e w3 ⟨rfl, hb3⟩
  have k1 := (hb3.block w.heap.size (by have := HZ.out; omega)).trans H1.out
  have k2 := (hb3.block (w.heap.size + 1) (by have := HZ.out; omega)).trans H2.out
  have c0 : w3.cell? ⟨w.heap.size, 0, none⟩ = some (.int .i64 x0) := Go.Joins.cell_of_block k1 0
  have c1 : w3.cell? ⟨w.heap.size, 1, none⟩ = some (.int .u8 x1) := Go.Joins.cell_of_block k1 1
  have c2 : w3.cell? ⟨w.heap.size, 2, none⟩ = some (.int .i64 x2) := Go.Joins.cell_of_block k1 2
  have c3 : w3.cell? ⟨w.heap.size, 3, none⟩ = some (.int .i64 x3) := Go.Joins.cell_of_block k1 3
  have c4 : w3.cell? ⟨w.heap.size, 4, none⟩ = some (.int .u8 ck) := Go.Joins.cell_of_block k1 4
  have c5 : w3.cell? ⟨w.heap.size, 5, none⟩ = some (.string text) := Go.Joins.cell_of_block k1 5
  have c6 : w3.cell? ⟨w.heap.size, 6, none⟩ = some (.slice (some ⟨g1, 0, none⟩) args.length (args.length + 12)) := Go.Joins.cell_of_block k1 6
  have c7 : w3.cell? ⟨w.heap.size, 7, none⟩ = some (.int .i64 num) := Go.Joins.cell_of_block k1 7
  have c8 : w3.cell? ⟨w.heap.size, 8, none⟩ = some (.slice (some ⟨g2, 0, none⟩) vs.length (vs.length + 12)) := Go.Joins.cell_of_block k1 8
  have d0 : w3.cell? ⟨w.heap.size + 1, 0, none⟩ = some (.int .i64 x0) := Go.Joins.cell_of_block k2 0
  have d1 : w3.cell? ⟨w.heap.size + 1, 1, none⟩ = some (.int .u8 x1) := Go.Joins.cell_of_block k2 1
  have d2 : w3.cell? ⟨w.heap.size + 1, 2, none⟩ = some (.int .i64 x2) := Go.Joins.cell_of_block k2 2
  have d3 : w3.cell? ⟨w.heap.size + 1, 3, none⟩ = some (.int .i64 x3) := Go.Joins.cell_of_block k2 3
  have d4 : w3.cell? ⟨w.heap.size + 1, 4, none⟩ = some (.int .u8 ck) := Go.Joins.cell_of_block k2 4
  have d5 : w3.cell? ⟨w.heap.size + 1, 5, none⟩ = some (.string text) := Go.Joins.cell_of_block k2 5
  have d6 : w3.cell? ⟨w.heap.size + 1, 6, none⟩ = some (.slice ao args.length cap) := Go.Joins.cell_of_block k2 6
  have d7 : w3.cell? ⟨w.heap.size + 1, 7, none⟩ = some (.int .i64 num) := Go.Joins.cell_of_block k2 7
  have d8 : w3.cell? ⟨w.heap.size + 1, 8, none⟩ = some (.slice vo vs.length vc) := Go.Joins.cell_of_block k2 8
  have HR1 := Lib.hid (show w3.rangeAt w.heap.size 4 [.int .u8 ck, .string text, .slice (some ⟨g1, 0, none⟩) args.length (args.length + 12), .int .i64 num] from range_cons c4 (range_cons c5 (range_cons c6 (range_cons c7 range_new))))
  have HR2 := Lib.hid (show w3.rangeAt (w.heap.size + 1) 4 [.int .u8 ck, .string text, .slice ao args.length cap, .int .i64 num] from range_cons d4 (range_cons d5 (range_cons d6 (range_cons d7 range_new))))
  have hb4 := hb2.trans (hb3.mono hb2.size)
  clear k1 k2 HSAME c0 c1 c2 c3 c4 c5 c6 c7 c8 d0 d1 d2 d3 d4 d5 d6 d7 d8
  go_wp2_with (first | (refine wpList_load_want (by rfl) 57 (.tmp 9) rfl w.heap.size 4 rfl [.int .u8 ck, .string text, .slice (some ⟨g1, 0, none⟩) args.length (args.length + 12), .int .i64 num] _ HR1.out Try.underlying57 rfl info_cm ?_) | (refine wpList_load_want (by rfl) 57 (.tmp 11) rfl (w.heap.size + 1) 4 rfl [.int .u8 ck, .string text, .slice ao args.length cap, .int .i64 num] _ HR2.out Try.underlying57 rfl info_cm ?_))
  refine (keptC_any ck text num ao args.length cap g1 B args w3 rfl (RowsIn.mono noSub_rising (RowsIn.below noSub_kept HX2.out hb3 (Nat.le_refl _)) hb3.size) (HL2.out.below hb3 (Nat.le_refl _)) hl).mono ?_
  rintro e w4 ⟨rfl, hb5⟩
  have hb6 := hb3.trans (hb5.mono hb3.size)
  have k1 := (hb6.block w.heap.size (by have := HZ.out; omega)).trans H1.out
  have k2 := (hb6.block (w.heap.size + 1) (by have := HZ.out; omega)).trans H2.out
  have c8 : w4.cell? ⟨w.heap.size, 8, none⟩ = some (.slice (some ⟨g2, 0, none⟩) vs.length (vs.length + 12)) := Go.Joins.cell_of_block k1 8
  have d8 : w4.cell? ⟨w.heap.size + 1, 8, none⟩ = some (.slice vo vs.length vc) := Go.Joins.cell_of_block k2 8
  clear k1 k2
  go_wp2_with fail
  refine (keptI_at vo vs.length vc (vs.length + 12) g2 B (some ⟨g2, 0, none⟩) vs w4 w2.heap.size rfl rfl rfl (RowsIn.below noSub_kept HY2.out hb6 (Nat.le_refl _)) hb6.size (HV2.out.below hb6 (Nat.le_refl _)) hl2).mono ?_
  rintro e w5 ⟨rfl, hb7⟩
  clear c8 d8
  go_wp2_with fail
  go_ret
  exact ⟨rfl, (hb4.trans (hb5.mono hb4.size)).trans (hb7.mono (Nat.le_trans hb2.size hb6.size))⟩
end Go.Proofs.Ytljfanhkbbfngaa
