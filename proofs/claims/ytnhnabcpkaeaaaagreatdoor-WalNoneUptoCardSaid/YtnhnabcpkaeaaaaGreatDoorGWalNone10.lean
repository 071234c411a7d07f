/- The bytes that forms are written as are bytes. No program. Conditions: as each says. -/
import Derived.Test.YtnhnabcpkaeaaaaGreatDoorGWalNone5
import Derived.Test.YtnhnabcpkaeaaaaGreatDoorGWalNone1
import Derived.Test.YtnhnabcpkaeaaaaGreatDoorGWalNone9
import Derived.Test.YtnhnabcpkaeaaaaGreatDoorGWalNone4
import Derived.Test.YtnhnabcpkaeaaaaGreatDoorGWalNone8
import Derived.Test.YtnhnabcpkaeaaaaGreatDoorGWalNone6
import Derived.Deep.DeepCutAuto
import Derived.Test.YtnhnabcpkaeaaaaGreatDoorGWalNone0
import Derived.Test.YtnhnabcpkaeaaaaGreatDoorGWalNone2
import Derived.Test.YtnhnabcpkaeaaaaGreatDoorGWalNone3
import Derived.Maps.OwnSet
set_option linter.unusedVariables false
set_option linter.unusedSimpArgs false
namespace Go.Proofs.YtnhnabcpkaeaaaaGreatDoor
open Go.RowKit
set_option maxRecDepth 20000
theorem BytesWf.app {a b : List Int} (h : BytesWf a) (h2 : BytesWf b) : BytesWf (a ++ b) := fun x hx => (List.mem_append.1 hx).elim (h x) (h2 x)
theorem BytesWf.con {k : Int} {b : List Int} (h : 0 ≤ k ∧ k < 256) (h2 : BytesWf b) : BytesWf (k :: b) := fun x hx => by
  rcases List.mem_cons.1 hx with rfl | hx
  · exact h
  · exact h2 x hx
theorem BytesWf.flat {α : Type} {f : α → List Int} {l : List α} (h : ∀ x ∈ l, BytesWf (f x)) : BytesWf (l.flatMap f) := fun x hx => by
  obtain ⟨y, hy, hx⟩ := List.mem_flatMap.1 hx
  exact h y hy x hx
theorem u8_of {n : Int} (h : (Lit.int .u8 n).wf = true) : 0 ≤ n ∧ n < 256 := by
  have h : (decide (IntKind.u8.min ≤ n) && decide (n ≤ IntKind.u8.max)) = true := h
  have e1 : IntKind.u8.min = 0 := by decide
  have e2 : IntKind.u8.max = 255 := by decide
  rw [e1, e2] at h
  simp at h
  omega
theorem textB_wf (s : ByteArray) : BytesWf (textB s) := (numB_wf 4 _).app (strB_wf s)
theorem valueB_wf (v : Va) (h : VaArg v) : BytesWf (valueB v) := by
  unfold valueB
  refine BytesWf.con (u8_of h.1) ?_
  split
  · exact numB_wf 8 _
  · split
    · exact textB_wf _
    · intro x hx; cases hx
theorem valuesB_wf (l : List Va) (h : ∀ v ∈ l, VaArg v) : BytesWf (valuesB l) := (numB_wf 4 _).app (BytesWf.flat fun v hv => valueB_wf v (h v hv))
theorem commandB_wf (ck : Int) (text : ByteArray) (num : Int) (args : List Va) (hk : (Lit.int .u8 ck).wf = true) (h : ∀ v ∈ args, VaArg v) : BytesWf (commandB ck text num args) :=
  BytesWf.con (u8_of hk) ((textB_wf _).app ((numB_wf 8 _).app (valuesB_wf _ h)))
theorem entryB_wf (e : EnP) (h0 : (Lit.int .u8 e.kind).wf = true) (h1 : (Lit.int .u8 e.ck).wf = true) (h : ∀ v ∈ e.args, VaArg v) : BytesWf (entryB e) :=
  (numB_wf 8 _).app (BytesWf.con (u8_of h0) ((numB_wf 8 _).app ((numB_wf 8 _).app ((commandB_wf _ _ _ _ h1 h).app ((numB_wf 4 _).app (BytesWf.flat fun _ _ => numB_wf 8 _))))))
theorem lit_of {n : Int} (h : -9223372036854775808 ≤ n ∧ n ≤ 9223372036854775807) : (Lit.int .i64 n).wf = true := by
  show (decide (IntKind.i64.min ≤ n) && decide (n ≤ IntKind.i64.max)) = true
  have e1 : IntKind.i64.min = -9223372036854775808 := by decide
  have e2 : IntKind.i64.max = 9223372036854775807 := by decide
  rw [e1, e2]
  simp
  omega
end Go.Proofs.YtnhnabcpkaeaaaaGreatDoor
/- Letters as they lie in memory. Conditions: as each says. -/
namespace Go.Proofs.YtnhnabcpkaeaaaaGreatDoor
open Go.RowKit
set_option maxRecDepth 20000
end Go.Proofs.YtnhnabcpkaeaaaaGreatDoor
/- Numbers and voters of letters, as the program judges them. Conditions: as each says. -/
namespace Go.Proofs.YtnhnabcpkaeaaaaGreatDoor
open Go.RowKit
set_option maxRecDepth 20000
end Go.Proofs.YtnhnabcpkaeaaaaGreatDoor
/- Commands and entries of letters, as the program judges them. Conditions: as each says. -/
namespace Go.Proofs.YtnhnabcpkaeaaaaGreatDoor
open Go.RowKit
set_option maxRecDepth 20000
end Go.Proofs.YtnhnabcpkaeaaaaGreatDoor
/- Entries of letters, as the program judges them. Conditions: as each says. -/
namespace Go.Proofs.YtnhnabcpkaeaaaaGreatDoor
open Go.RowKit
set_option maxRecDepth 20000
end Go.Proofs.YtnhnabcpkaeaaaaGreatDoor
/- Entries of a letter, and what a letter is without what its kind has. Conditions: as each says. -/
namespace Go.Proofs.YtnhnabcpkaeaaaaGreatDoor
open Go.RowKit
set_option maxRecDepth 20000
end Go.Proofs.YtnhnabcpkaeaaaaGreatDoor
/- Right of letter. Conditions: the letter's parts are not too great. -/
namespace Go.Proofs.YtnhnabcpkaeaaaaGreatDoor
open Go.RowKit
set_option maxRecDepth 20000
end Go.Proofs.YtnhnabcpkaeaaaaGreatDoor
/- Bytes of a call's own, and an append to them. Conditions: as each says. -/
namespace Go.Proofs.YtnhnabcpkaeaaaaGreatDoor
open Go.RowKit
set_option maxRecDepth 20000
/-- Bytes of a call's own. -/
structure BOwn (w : World) (base : Nat) (a : Option Addr) (n c : Nat) (L : List Int) : Prop where
  len : L.length = n
  row : w.ownsRow base 5 1 (.slice a n c) n (L.map bv)
theorem BOwn.below {w w' : World} {base n c B : Nat} {a : Option Addr} {L : List Int} (h : BOwn w base a n c L) (hb : Below B w w') (hB : w.heap.size ≤ B) : BOwn w' base a n c L := ⟨h.len, own_below h.row hb hB⟩
theorem BOwn.le {w : World} {base base' n c : Nat} {a : Option Addr} {L : List Int} (h : BOwn w base a n c L) (hB : base' ≤ base) : BOwn w base' a n c L := ⟨h.len, Go.Joins.ownsRow_le h.row hB⟩
theorem BOwn.in {w : World} {base n c : Nat} {a : Option Addr} {L : List Int} (h : BOwn w base a n c L) : BytesIn w w.heap.size a L := own_in h.len h.row
theorem BOwn.nil {w : World} {base n c : Nat} {a : Option Addr} {L : List Int} (h : BOwn w base a n c L) : a = none → c = 0 := by
  intro ha
  rcases Go.Joins.ownsRow_forms h.row with ⟨h1, _⟩ | ⟨g, c', h1⟩
  · cases h1; rfl
  · rw [ha] at h1; cases h1
theorem BOwn.lt {w : World} {base n c : Nat} {a : Option Addr} {L : List Int} (h : BOwn w base a n c L) : ∀ g, (Value.slice a n c).ownBlock = some g → base ≤ g ∧ g < w.heap.size := fun g hg => World.ownsRow.lt h.row g hg
theorem BOwn.kept {w w' : World} {base n c : Nat} {a : Option Addr} {L : List Int} {row : Option Nat} (h : BOwn w base a n c L) (hg : w.grownBy w' row) (hr : (Value.slice a n c).ownBlock = none ∨ (Value.slice a n c).ownBlock ≠ row) : BOwn w' base a n c L := ⟨h.len, h.row.kept hg hr⟩
theorem BOwn.lit (w : World) (xs : List Int) (h : xs.length ≤ 1000) : BOwn (w.alloc (.cells (xs.map bv).toArray 5)) w.heap.size (some ⟨w.heap.size, 0, none⟩) xs.length xs.length xs :=
  ⟨rfl, by have h2 : xs.length ≤ maxLen := by (unfold maxLen; omega)
           exact World.ownsRow_lit w (base := w.heap.size) (e := 5) (size := 1) (xs.map bv).toArray xs.length (Nat.le_refl _) h2 (by simp)⟩
def RNew (L : List Int) (w : World) (e : Ending) (w' : World) : Prop := ∃ a n c, e = .returned (.slice a n c) ∧ BOwn w' w.heap.size a n c L ∧ Below w.heap.size w w'
theorem wpList_append_bo {w : World} {ops : Array Oper} {rest : List Oper} {o : Oper} {a : Act} {Q : Exit → Act → World → Prop} (hgd : o.guard = none) (s x : Operand)
    (ho : o.op = .call { callee := .builtin .append, args := #[s, x], argTypes := #[22, 22] })
    (base : Nat) {a1 : Option Addr} {n1 c1 : Nat} {L1 : List Int} (hs : a.eval s = .slice a1 n1 c1) (hown : BOwn w base a1 n1 c1 L1)
    {ao : Option Addr} {n cap : Nat} {xs : List Int} (hx : a.eval x = .slice ao n cap) (hn : xs.length = n) (B : Nat) (hin : BytesIn w B ao xs) (hao : ao = none → cap = 0) (hlim : n1 + n ≤ 140737488351232) (hbase : base ≤ w.heap.size)
    (h : ∀ a2 n2 c2 w', BOwn w' base a2 n2 c2 (L1 ++ xs) → w.grownBy w' (Value.slice a1 n1 c1).ownBlock → n2 = n1 + n → wpList Tryz.prog ops Q rest (a.put o.dst (.slice a2 n2 c2)) w') : wpList Tryz.prog ops Q (o :: rest) a w := by
  obtain ⟨rfl, hrow⟩ := hown
  subst hn
  refine wpList_append_bytes hgd s x ho base _ L1 hs hrow ao cap xs hx B hin hao hlim hbase fun v' w' h1 h2 => ?_
  obtain ⟨a2, c2, rfl⟩ := row_slice h1
  exact h a2 _ c2 w' ⟨rfl, h1⟩ h2 (by rw [List.length_append])
end Go.Proofs.YtnhnabcpkaeaaaaGreatDoor
/- Counts and numbers of letters, as bytes. Conditions: as each says. -/
namespace Go.Proofs.YtnhnabcpkaeaaaaGreatDoor
open Go.RowKit
set_option maxRecDepth 20000
end Go.Proofs.YtnhnabcpkaeaaaaGreatDoor
/- A region that draws its order, some of whose operations come in whatever order: an invariant over what has come up so far. Any program. Conditions: each operation that may come up next keeps the invariant. -/
namespace Go.Proofs.YtnhnabcpkaeaaaaGreatDoor
open Go.RowKit
end Go.Proofs.YtnhnabcpkaeaaaaGreatDoor
/- The parts that Put of letter joins: a region that draws its order. Conditions: as each says. -/
namespace Go.Proofs.YtnhnabcpkaeaaaaGreatDoor
open Go.RowKit
set_option maxRecDepth 20000
end Go.Proofs.YtnhnabcpkaeaaaaGreatDoor
/- Parts of bytes in a row of a call's own. Conditions: as each says. -/
namespace Go.Proofs.YtnhnabcpkaeaaaaGreatDoor
open Go.RowKit
set_option maxRecDepth 20000
theorem nums8_len (xs : List Int) : (xs.flatMap (numB 8)).length = 8 * xs.length := by
  induction xs with
  | nil => rfl
  | cons x xs ih => rw [List.flatMap_cons, List.length_append, numB_len, ih, List.length_cons]; omega
theorem entryB_len (e : EnP) : (entryB e).length = 42 + e.text.size + (valuesB e.args).length + 8 * e.vs.length := by
  have h8 := nums8_len e.vs
  simp only [entryB, List.length_append, List.length_cons, numB_len, commandB_len, h8]
  omega
end Go.Proofs.YtnhnabcpkaeaaaaGreatDoor
/- Put of letter. Conditions: the letter's parts are not too great. -/
namespace Go.Proofs.YtnhnabcpkaeaaaaGreatDoor
open Go.RowKit
set_option maxRecDepth 20000
end Go.Proofs.YtnhnabcpkaeaaaaGreatDoor
/- What letter reads off its bytes: take, count, number. Conditions: as each says. -/
namespace Go.Proofs.YtnhnabcpkaeaaaaGreatDoor
open Go.RowKit
set_option maxRecDepth 20000
end Go.Proofs.YtnhnabcpkaeaaaaGreatDoor
/- Entries put behind others, of a call's own. Conditions: as each says. -/
namespace Go.Proofs.YtnhnabcpkaeaaaaGreatDoor
open Go.RowKit
set_option maxRecDepth 20000
end Go.Proofs.YtnhnabcpkaeaaaaGreatDoor
/- Two operations of a region that may come up in either order. Any program. Conditions: as each says. -/
namespace Go.Proofs.YtnhnabcpkaeaaaaGreatDoor
open Go.RowKit
theorem takeS_two {P : Program} {md : Region.Mode} {ops : Array Oper} {Q : Exit → Act → World → Prop} {S : World → Prop} (i j : Nat) {oi oj : Oper} {fuel : Nat} {listed : Array Bool} {a : Act} {w : World} (hi : ops.toList[i]? = some oi) (hj : ops.toList[j]? = some oj) (hr : Region.ready md ops listed = [i, j]) (hwi : Region.wanted oi (yielded ops a.tmps) = true) (hwj : Region.wanted oj (yielded ops a.tmps) = true)
    (h1 : ∀ K' : Act → World → Prop, Shut (∀ a w, S w → wpAnyH P md ops Q S fuel (listed.setIfInBounds i true) a w → K' a w) → Oper.wp P oi a w K' Q)
    (h2 : ∀ K' : Act → World → Prop, Shut (∀ a w, S w → wpAnyH P md ops Q S fuel (listed.setIfInBounds j true) a w → K' a w) → Oper.wp P oj a w K' Q) : wpAnyH P md ops Q S (fuel + 1) listed a w :=
  wpAnyH_ready (rs := [i, j]) hr (by simp) (AllReadyH.cons (by rw [← Array.getElem?_toList]; exact hi) (fun K hK => by rw [if_pos hwi]; exact h1 K (fun a w hS hW => hK.out a w hS (fun _ => hW)))
    (AllReadyH.cons (by rw [← Array.getElem?_toList]; exact hj) (fun K hK => by rw [if_pos hwj]; exact h2 K (fun a w hS hW => hK.out a w hS (fun _ => hW))) AllReadyH.nil))
end Go.Proofs.YtnhnabcpkaeaaaaGreatDoor
/- What do's closure of an entry does to what a file says. Conditions: the reader and the boxes lie as they say. -/
namespace Go.Proofs.YtnhnabcpkaeaaaaGreatDoor
open Go.RowKit
set_option maxRecDepth 20000
/-- An append that must move: rows that are only read. -/
theorem oper_append_grows {P : Program} {w : World} {o : Oper} {a : Act} {K : Act → World → Prop} {Q : Exit → Act → World → Prop} (s x : Operand) (t : TypeId) (hop : o.op = Op.call { callee := Callee.builtin Builtin.append, args := #[s, x], argTypes := #[t, t] })
    (e : TypeId) (i : TypeInfo) (z : Value) (size bytes : Nat) (h1 : P.underlying t = some (.slice e)) (h2 : P.info? e = some i) (h3 : i.zero = some z) (h4 : i.size = size) (h5 : i.bytes = bytes) (h6 : z.cells.size = size) (h7 : 0 < size)
    (ao : Option Addr) (n cap : Nat) (olds : List Value) (hs : a.eval s = .slice ao n cap) (hnone : ao = none → n = 0 ∧ cap = 0) (hlo : olds.length = n * size) (holds : ∀ b, ao = some b → ∀ j u, olds[j]? = some u → w.cell? (b.add j) = some u)
    (ad : Addr) (m c : Nat) (news : List Value) (hx : a.eval x = .slice (some ad) m c) (hn : news.length = m * size) (hc : ∀ j u, news[j]? = some u → w.cell? (ad.add j) = some u) (h1c : ∀ u ∈ news, u.oneCell' = true)
    (hfull : cap < n + m) (b1 : n + m ≤ maxLen) (b2 : (n + m) * bytes ≤ 140737488355328)
    (hK : ∀ v' w', w'.ownsRow w.heap.size e size v' (n + m) (olds ++ news) → w.grownBy w' none → K (a.put o.dst v') w') : Oper.wp P o a w K Q := by
  cases ao with
  | some b =>
    obtain ⟨v', w', hrun, r1, r2⟩ := run_append_arg_grows (P := P) w t o.type e i z size bytes h1 h2 h3 h4 h5 h6 h7 b n cap olds hlo (holds b rfl) ad m c news hn hc hfull b1 b2
    unfold Oper.wp
    simp [execOp, hop, resolve, invoke, builtin, hs, hx, hrun, Result.andThen]
    exact hK v' w' r1 r2
  | none =>
    obtain ⟨rfl, rfl⟩ := hnone rfl
    obtain rfl : olds = [] := List.eq_nil_of_length_eq_zero (by simpa using hlo)
    obtain ⟨v', w', hrun, r1, r2, _⟩ := run_append_own (P := P) w w.heap.size t o.type e i z size bytes h1 h2 h3 h4 h5 h6 h7 (.slice none 0 0) 0 [] (World.ownsRow_nil w _ e size) ad m c news hn hc h1c b1 b2 (Nat.le_refl _)
    unfold Oper.wp
    simp [execOp, hop, resolve, invoke, builtin, hs, hx, hrun, Result.andThen]
    exact hK v' w' r1 r2
theorem EnsOwn.cutPush {W w : World} {B M j : Nat} {v v' : Value} {es : List En} {e : En} (h : EnsOwn W B v es) (hb : Below W.heap.size W w) (hB : B ≤ M) (hM : W.heap.size ≤ M) (ho : enOwn w M e) (hj : j ≤ es.length) (hrow : w.ownsRow B 60 9 v' (j + 1) ((es.take j).flatMap enCells ++ enCells e)) : EnsOwn w B v' (es.take j ++ [e]) := by
  refine ⟨?_, fun f hf => ?_, ?_⟩
  · rw [List.length_append, List.length_take, List.length_singleton, Nat.min_eq_left hj, List.flatMap_append]
    simpa using hrow
  · rcases List.mem_append.1 hf with hf | hf
    · exact (h.own f (List.mem_of_mem_take hf)).below hb (Nat.le_refl _)
    · rw [List.mem_singleton.1 hf]
      exact ho.le hB
  · rw [List.pairwise_append]
    refine ⟨h.sep.sublist (List.take_sublist _ _), List.pairwise_singleton _ _, fun f hf g hg => ?_⟩
    rw [List.mem_singleton.1 hg]
    have hf2 := h.own f (List.mem_of_mem_take hf)
    constructor
    · cases hq : (argV f).ownBlock with
      | none => exact Or.inl rfl
      | some q =>
        refine Or.inr fun e2 => ?_
        have h1 := (World.ownsRow.lt hf2.1 q hq).2
        have h2 := (World.ownsRow.lt ho.1 q e2.symm).1
        omega
    · cases hq : (votV f).ownBlock with
      | none => exact Or.inl rfl
      | some q =>
        refine Or.inr fun e2 => ?_
        have h1 := (World.ownsRow.lt hf2.2 q hq).2
        have h2 := (World.ownsRow.lt ho.2 q e2.symm).1
        omega
theorem cells9 {w : World} {g : Nat} {T : TypeId} {fr : Nat × Nat} {a0 a1 a2 a3 a4 a5 a6 a7 a8 : Value} (h : w.heap[g]? = some (.cells #[a0, a1, a2, a3, a4, a5, a6, a7, a8] T fr)) :
    w.cell? ⟨g, 0, none⟩ = some a0 ∧ w.cell? ⟨g, 1, none⟩ = some a1 ∧ w.cell? ⟨g, 2, none⟩ = some a2 ∧ w.cell? ⟨g, 3, none⟩ = some a3 ∧ w.cell? ⟨g, 4, none⟩ = some a4 ∧ w.cell? ⟨g, 5, none⟩ = some a5 ∧ w.cell? ⟨g, 6, none⟩ = some a6 ∧ w.cell? ⟨g, 7, none⟩ = some a7 ∧ w.cell? ⟨g, 8, none⟩ = some a8 :=
  ⟨Go.Joins.cell_of_block h 0, Go.Joins.cell_of_block h 1, Go.Joins.cell_of_block h 2, Go.Joins.cell_of_block h 3, Go.Joins.cell_of_block h 4, Go.Joins.cell_of_block h 5, Go.Joins.cell_of_block h 6, Go.Joins.cell_of_block h 7, Go.Joins.cell_of_block h 8⟩
theorem cell_of_new {w : World} {g : Nat} {T : TypeId} {fr : Nat × Nat} {l : List Value} (h : w.heap[g]? = some (.cells l.toArray T fr)) (j : Nat) : w.cell? ((⟨g, 0, none⟩ : Addr).add j) = l[j]? := by
  rw [Addr.add_lit, Nat.zero_add, Go.Joins.cell_of_block h j]
  simp
theorem sizeEnW : ∀ w, (sizeOf (Tryz.prog.elem 38)).run Tryz.prog w = .ok 9 w := fun _ => by kernel_rfl
theorem sliceEnW : Tryz.prog.underlying 38 = some (.slice (Tryz.prog.elem 38)) := by kernel_rfl
theorem run_sub_hmW {P : Program} {t : TypeId} {k : Nat} (ht : P.underlying t = some (.slice (P.elem t))) (hk : ∀ w, (sizeOf (P.elem t)).run P w = .ok k w) (ao : Option Addr) (n cap h : Nat) (hh : h ≤ cap) (kh km : IntKind) (hi : Int) (eh : hi = h) (w : World) :
    (Instr.sliceAt t (.slice ao n cap) none (some (.int kh hi)) (some (.int km hi))).run P w = .ok (.slice (subA ao h 0 k) h h) w := by
  subst eh
  rw [run_sliceAt_slice _ _ _ _ _ _ ht, run_slice_hm _ _ _ _ _ ht _ _ _ _ (by omega) (by omega) (by omega), hk]
  simp [Result.andThen, sliced, subA]
theorem own_addrW {w : World} {base e k n c m : Nat} {a : Option Addr} {L : List Value} (h : w.ownsRow base e k (.slice a n c) n L) : subA a m 0 k = a := subA_zero _ _ _ fun x hx => by
  rcases Go.Joins.ownsRow_forms h with ⟨h1, _⟩ | ⟨g, c', h1⟩
  · subst hx; cases h1
  · subst hx; cases h1; rfl
theorem SayAt.le_size {w w' : World} {B sb : Nat} {term vote base before : Int} {v : Value} {es : List En} (h : SayAt w B sb term vote base before v es) (_ : Below w.heap.size w w') : B ≤ w.heap.size := Nat.le_of_lt (Nat.lt_of_le_of_lt h.low h.lt)
/-- The closure of an entry. -/
def entryW (s : WP) (x : Int) (b : Bool) (l : List Int) : Option WP :=
  if isDone (entryS b l).2.1 (entryS b l).2.2 = true ∧ s.base < x ∧ x ≤ s.base + s.L.length + 1 then some { s with L := s.L.take (x - s.base - 1).toNat ++ [(entryS b l).1] } else none
set_option maxHeartbeats 2000000 in
theorem wdo2_any (W : World) (B sb tb ub rb n : Nat) (s : WP) (x : Int) (bad : Bool) (left : List Int) (w : World) (r : Option WP) (hr : entryW s x bad left = r) (hs : SayIs W B sb s) (hok : s.Ok n) (hn : n ≤ 1048576) (h : DoIn W sb tb ub rb bad left w) (hw : BytesWf left) (hl : left.length ≤ 140737488351232) :
    Calls Tryz.prog 70 #[.int .i64 x, .pointer (some ⟨tb, 0, none⟩), .pointer (some ⟨ub, 0, none⟩)] w (DoneAt W B sb r) := by
  obtain ⟨v, es, hsay, hmap⟩ := hs
  obtain ⟨⟨y, b2, l2⟩, hnum⟩ : ∃ q, entryS bad left = q := ⟨_, rfl⟩
  have hR := Lib.hid (show (if isDone b2 l2 = true ∧ s.base < x ∧ x ≤ s.base + s.L.length + 1 then some { s with L := s.L.take (x - s.base - 1).toNat ++ [y] } else none) = r by rw [← hr]; unfold entryW; rw [hnum])
  have HN := Lib.hid hnum
  have HS := Lib.hid hsay
  have HM := Lib.hid hmap
  have H := Lib.hid h
  have HW := Lib.hid hw
  have t0 := h.c0
  clear hr hnum hsay hmap h hw
  go_enter Tryz.func70, Tryz.ntmps70
  go_wp2_with fail
  refine (rdEntry_any rb rb bad left _ w HN.out H.out.rd HW.out hl).mono ?_
  rintro e w1 ⟨f, hfp, rfl, hfo, hr1, ho1⟩
  have h1 := H.out.only hr1 ho1
  have H1 := Lib.hid h1
  have HFP := Lib.hid hfp
  have HFO := Lib.hid hfo
  clear hr1 ho1 h1 t0 hfp hfo
  unfold enVal
  obtain ⟨x0, x1, x2, x3, ck, text, ao, args, ac, num, vo, vs, vc⟩ := f
  dsimp only at HFP HFO ⊢
  have hb2 := (Below.refl w1.heap.size w1).alloc (Nat.le_refl _) (.cells #[.int .i64 x0, .int .u8 x1, .int .i64 x2, .int .i64 x3, .int .u8 ck, .string text, .slice ao args.length ac, .int .i64 num, .slice vo vs.length vc] 60)
  have hk2 := heap_alloc_new w1 (.cells #[.int .i64 x0, .int .u8 x1, .int .i64 x2, .int .i64 x3, .int .u8 ck, .string text, .slice ao args.length ac, .int .i64 num, .slice vo vs.length vc] 60)
  go_upto_region 2 with fail
  generalize w1.alloc (.cells #[.int .i64 x0, .int .u8 x1, .int .i64 x2, .int .i64 x3, .int .u8 ck, .string text, .slice ao args.length ac, .int .i64 num, .slice vo vs.length vc] 60) = w2 at hb2 hk2 ⊢
  have H2 := Lib.hid (H1.out.grow hb2)
  have HB2 := Lib.hid hb2
  have HK2 := Lib.hid hk2
  have hwz : W.heap.size ≤ w1.heap.size := H1.out.below.size
  have t2 := H2.out.c0
  have u2 := H2.out.c1
  clear hb2 hk2
  go_wp2_with fail
  refine (done_rd rb rb b2 l2 w2 H2.out.rd).mono ?_
  rintro e w3 ⟨rfl, rfl⟩
  have hbel := H2.out.below
  have no : (isDone b2 l2 = true ∧ s.base < x ∧ x ≤ s.base + s.L.length + 1) = False → r = none := fun hf => by rw [← hR.out, if_neg (by rw [hf]; exact id)]
  have NO := Lib.hid no
  have hsay2 := HS.out.below hbel (Nat.le_refl _)
  have hbase := Go.Joins.cell_of_block hsay2.blk 2
  have HS2 := Lib.hid hsay2
  obtain ⟨bq, hbq⟩ : ∃ bq, s.base = bq := ⟨_, rfl⟩
  have hok1 := hok.base
  have hlen : es.length = s.L.length := by rw [← HM.out, List.length_map]
  have hok2 := hok.len
  rw [hbq] at hok1
  have hbase' : w2.cell? ⟨sb, 2, none⟩ = some (.int .i64 bq) := by rw [← hbq]; exact hbase
  obtain ⟨m, hm⟩ : ∃ m, es.length = m := ⟨_, rfl⟩
  have hmn : m ≤ n := by omega
  have HLEN := Lib.hid (And.intro hlen hm)
  have HBQ := Lib.hid hbq
  have HOK := Lib.hid hok
  clear no hsay2 hbase hlen hm hbq hok2 hok
  by_cases hd : isDone b2 l2 = true
  · have hd' : (!b2 && l2.isEmpty) = true := hd
    rw [hd']
    by_cases c1 : x ≤ bq
    · have e1 : decide (x ≤ bq) = true := by simpa using c1
      go_wp2_with fail
      go_ret
      exact done_no (NO.out (by have := HBQ.out; simp; omega)) hbel
    have e1 : decide (x ≤ bq) = false := by simpa using c1
    have hend : Calls Tryz.prog 48 #[.pointer (some ⟨sb, 0, none⟩)] w2 fun e w' => e = .returned (.int .i64 (bq + m + 1)) ∧ Below w2.heap.size w2 w' := by
      have := wend_any B sb _ _ _ _ _ _ m w2 HS2.out HLEN.out.2 (by omega) (by rw [HBQ.out]; omega)
      rw [HBQ.out] at this
      exact this
    go_wp2_with fail
    refine hend.mono ?_
    rintro e w3 ⟨rfl, hb3⟩
    have H3 := Lib.hid (H2.out.grow hb3)
    have hbel3 := H3.out.below
    by_cases c2 : bq + m + 1 < x
    · have e2 : decide (bq + m + 1 < x) = true := by simpa using c2
      go_wp2_with fail
      go_ret
      exact done_no (NO.out (by have := HBQ.out; have := HLEN.out; simp; omega)) hbel3
    have e2 : decide (bq + m + 1 < x) = false := by simpa using c2
    obtain ⟨j, hj⟩ : ∃ j : Nat, x - bq - 1 = j := ⟨(x - bq - 1).toNat, by omega⟩
    have hjm : j ≤ m := by omega
    have hxj : x - bq = (j : Int) + 1 := by omega
    have wr1 : IntKind.i64.wrap (x - bq) = (j : Int) + 1 := by rw [hxj]; exact IntWalk.i64_in _ (by omega)
    have wr2 : IntKind.i64.wrap ((j : Int) + 1 - 1) = (j : Int) := by rw [show (j : Int) + 1 - 1 = j by omega]; exact IntWalk.i64_in _ (by omega)
    have hsay3 := HS2.out.below hb3 (Nat.le_refl _)
    obtain ⟨a, c, hv, hcap, hnil, hin⟩ := hsay3.ens.lie
    have HYES := Lib.hid (show r = some { s with L := s.L.take j ++ [y] } by rw [← hR.out, if_pos ⟨hd, by rw [HBQ.out]; omega, by rw [HBQ.out, ← HLEN.out.1, HLEN.out.2]; omega⟩, HBQ.out, hj]; rfl)
    have hrow := hsay3.ens.row
    rw [hv, HLEN.out.2] at hrow
    have hsl : ∀ w', (Instr.sliceAt 38 (.slice a m c) none (some (.int .i64 (j : Int))) (some (.int .i64 (j : Int)))).run Tryz.prog w' = .ok (.slice a j j) w' := fun w' => by
      have h := run_sub_hmW sliceEnW sizeEnW a m c j (by have := own_capG hrow; omega) .i64 .i64 (j : Int) rfl w'
      rwa [own_addrW hrow] at h
    have k4 : w3.cell? ⟨sb, 4, none⟩ = some (.slice a m c) := by rw [← HLEN.out.2, ← hv]; exact Go.Joins.cell_of_block hsay3.blk 4
    have b3 := Go.Joins.cell_of_block hsay3.blk 2
    have b3' : w3.cell? ⟨sb, 2, none⟩ = some (.int .i64 bq) := by rw [← HBQ.out]; exact b3
    have u3 := H3.out.c1
    have kb := (hb3.block _ (Array.getElem?_eq_some_iff.1 HK2.out).1).trans HK2.out
    have ulo := H.out.ulo
    have hne : sb ≠ ub := fun e => by have := HS.out.lt; omega
    have hne2 : sb ≠ w1.heap.size := fun e => by have := HS.out.lt; omega
    have HR := Lib.hid hrow
    have HIN := Lib.hid hin
    have HCAP := Lib.hid hcap
    have HSAY3 := Lib.hid hsay3
    have HSL := Lib.hid hsl
    have HKB := Lib.hid kb
    have HXJ := Lib.hid hxj
    have HV := Lib.hid hv
    have hb31 : Below w1.heap.size w1 w3 := HB2.out.trans (hb3.mono HB2.out.size)
    have HB31 := Lib.hid hb31
    have hz3 : w1.heap.size < w3.heap.size := (Array.getElem?_eq_some_iff.1 kb).1
    clear b3 hv hcap hin hrow hsl kb hsay3 hxj hj hd hd' hbase' t2 u2 hb3 hb31 e1 c1
    go_upto_region 5 with fail
    clear e2 c2
    have hsl := HSL.out
    have HC := Lib.hid (fun (wS : World) (hh : wS.cell? ⟨ub, 0, none⟩ = some (.pointer (some ⟨sb, 0, none⟩)) ∧ wS.heap[w1.heap.size]? = some (.cells #[.int .i64 x0, .int .u8 x1, .int .i64 x2, .int .i64 x3, .int .u8 ck, .string text, .slice ao args.length ac, .int .i64 num, .slice vo vs.length vc] 60 (0, 0))) => And.intro hh.1 (cells9 hh.2))
    refine heldS_begin (fun (w' : World) => w'.cell? ⟨ub, 0, none⟩ = some (.pointer (some ⟨sb, 0, none⟩)) ∧ w'.heap[w1.heap.size]? = some (.cells #[.int .i64 x0, .int .u8 x1, .int .i64 x2, .int .i64 x3, .int .u8 ck, .string text, .slice ao args.length ac, .int .i64 num, .slice vo vs.length vc] 60 (0, 0))) (by kernel_rfl) (⟨u3, HKB.out⟩) ?_
    intro hS0
    (first | (refine takeS_no 0 rfl (by kernel_rfl) (by kernel_rfl) (by kernel_rfl) (fun _ _ _ h => h) (by rfl) (by assumption) ?_) | (refine takeS_yes (v := ?_) 0 rfl (by kernel_rfl) (by kernel_rfl) (by kernel_rfl) (fun _ _ _ h => h) (by rfl) (by assumption) ?_ ?_; rotate_left; focus (intro wS hSw; obtain ⟨q0, r0, r1, r2, r3, r4, r5, r6, r7, r8⟩ := HC.out wS hSw; go_simp; first | done | with_reducible rfl)))
    (try simp only [Act.put, List.setIfInBounds_toArray, List.set_cons_zero, List.set_cons_succ])
    (first | (refine takeS_no 1 rfl (by kernel_rfl) (by kernel_rfl) (by kernel_rfl) (fun _ _ _ h => h) (by rfl) (by assumption) ?_) | (refine takeS_yes (v := ?_) 1 rfl (by kernel_rfl) (by kernel_rfl) (by kernel_rfl) (fun _ _ _ h => h) (by rfl) (by assumption) ?_ ?_; rotate_left; focus (intro wS hSw; obtain ⟨q0, r0, r1, r2, r3, r4, r5, r6, r7, r8⟩ := HC.out wS hSw; go_simp; first | done | with_reducible rfl)))
    (try simp only [Act.put, List.setIfInBounds_toArray, List.set_cons_zero, List.set_cons_succ])
    (first | (refine takeS_no 2 rfl (by kernel_rfl) (by kernel_rfl) (by kernel_rfl) (fun _ _ _ h => h) (by rfl) (by assumption) ?_) | (refine takeS_yes (v := ?_) 2 rfl (by kernel_rfl) (by kernel_rfl) (by kernel_rfl) (fun _ _ _ h => h) (by rfl) (by assumption) ?_ ?_; rotate_left; focus (intro wS hSw; obtain ⟨q0, r0, r1, r2, r3, r4, r5, r6, r7, r8⟩ := HC.out wS hSw; go_simp; first | done | with_reducible rfl)))
    (try simp only [Act.put, List.setIfInBounds_toArray, List.set_cons_zero, List.set_cons_succ])
    (first | (refine takeS_no 3 rfl (by kernel_rfl) (by kernel_rfl) (by kernel_rfl) (fun _ _ _ h => h) (by rfl) (by assumption) ?_) | (refine takeS_yes (v := ?_) 3 rfl (by kernel_rfl) (by kernel_rfl) (by kernel_rfl) (fun _ _ _ h => h) (by rfl) (by assumption) ?_ ?_; rotate_left; focus (intro wS hSw; obtain ⟨q0, r0, r1, r2, r3, r4, r5, r6, r7, r8⟩ := HC.out wS hSw; go_simp; first | done | with_reducible rfl)))
    (try simp only [Act.put, List.setIfInBounds_toArray, List.set_cons_zero, List.set_cons_succ])
    (first | (refine takeS_no 5 rfl (by kernel_rfl) (by kernel_rfl) (by kernel_rfl) (fun _ _ _ h => h) (by rfl) (by assumption) ?_) | (refine takeS_yes (v := ?_) 5 rfl (by kernel_rfl) (by kernel_rfl) (by kernel_rfl) (fun _ _ _ h => h) (by rfl) (by assumption) ?_ ?_; rotate_left; focus (intro wS hSw; obtain ⟨q0, r0, r1, r2, r3, r4, r5, r6, r7, r8⟩ := HC.out wS hSw; go_simp; first | done | with_reducible rfl)))
    (try simp only [Act.put, List.setIfInBounds_toArray, List.set_cons_zero, List.set_cons_succ])
    (first | (refine takeS_no 6 rfl (by kernel_rfl) (by kernel_rfl) (by kernel_rfl) (fun _ _ _ h => h) (by rfl) (by assumption) ?_) | (refine takeS_yes (v := ?_) 6 rfl (by kernel_rfl) (by kernel_rfl) (by kernel_rfl) (fun _ _ _ h => h) (by rfl) (by assumption) ?_ ?_; rotate_left; focus (intro wS hSw; obtain ⟨q0, r0, r1, r2, r3, r4, r5, r6, r7, r8⟩ := HC.out wS hSw; go_simp; first | done | with_reducible rfl)))
    (try simp only [Act.put, List.setIfInBounds_toArray, List.set_cons_zero, List.set_cons_succ])
    (first | (refine takeS_no 8 rfl (by kernel_rfl) (by kernel_rfl) (by kernel_rfl) (fun _ _ _ h => h) (by rfl) (by assumption) ?_) | (refine takeS_yes (v := ?_) 8 rfl (by kernel_rfl) (by kernel_rfl) (by kernel_rfl) (fun _ _ _ h => h) (by rfl) (by assumption) ?_ ?_; rotate_left; focus (intro wS hSw; obtain ⟨q0, r0, r1, r2, r3, r4, r5, r6, r7, r8⟩ := HC.out wS hSw; go_simp; first | done | with_reducible rfl)))
    (try simp only [Act.put, List.setIfInBounds_toArray, List.set_cons_zero, List.set_cons_succ])
    have hbd : Below w3.heap.size w3 w3.drew := (Below.refl _ _).drew
    have k4' : w3.drew.cell? ⟨sb, 4, none⟩ = some (.slice a m c) := k4
    have hslt : sb < w3.heap.size := HSAY3.out.lt
    have hult : ub < w3.heap.size := (Array.getElem?_eq_some_iff.1 H3.out.ubk).1
    generalize w3.drew = wd at hS0 hbd k4' ⊢
    have hzd := hbd.size
    have k4o : ∀ o, (wd.alloc o).cell? ⟨sb, 4, none⟩ = some (.slice a m c) := fun o => (World.cell?_alloc_lt wd o _ (by show sb < wd.heap.size; omega)).trans k4'
    have hSo : ∀ o, ((wd.alloc o).cell? ⟨ub, 0, none⟩ = some (.pointer (some ⟨sb, 0, none⟩)) ∧ (wd.alloc o).heap[w1.heap.size]? = some (.cells #[.int .i64 x0, .int .u8 x1, .int .i64 x2, .int .i64 x3, .int .u8 ck, .string text, .slice ao args.length ac, .int .i64 num, .slice vo vs.length vc] 60 (0, 0))) := fun o => ⟨(World.cell?_alloc_lt wd o _ (by show ub < wd.heap.size; omega)).trans hS0.1, (((Below.refl wd.heap.size wd).alloc (Nat.le_refl _) o).block _ (by omega)).trans hS0.2⟩
    clear k4 u3 b3'
    refine takeS_two 4 9 rfl rfl (by kernel_rfl) (by rfl) (by rfl) (fun K hK => ?_) (fun K hK => ?_)
    rotate_left
    focus
      go_simp
      (have hS1 := hSo (.cells #[.int .i64 x0, .int .u8 x1, .int .i64 x2, .int .i64 x3, .int .u8 ck, .string text, .slice ao args.length ac, .int .i64 num, .slice vo vs.length vc] 60))
      refine hK.out _ _ (by assumption) ?_
      clear hK K
      (try simp only [Act.put, List.setIfInBounds_toArray, List.set_cons_zero, List.set_cons_succ])
      refine takeS_alone 4 rfl (by kernel_rfl) (by rfl) (fun K hK => ?_)
      go_simp
      (skip)
      refine hK.out _ _ (by assumption) ?_
      clear hK K
      (try simp only [Act.put, List.setIfInBounds_toArray, List.set_cons_zero, List.set_cons_succ])
      (first | (refine takeS_no 7 rfl (by kernel_rfl) (by kernel_rfl) (by kernel_rfl) (fun _ _ _ h => h) (by rfl) (by assumption) ?_) | (refine takeS_yes (v := ?_) 7 rfl (by kernel_rfl) (by kernel_rfl) (by kernel_rfl) (fun _ _ _ h => h) (by rfl) (by assumption) ?_ ?_; rotate_left; focus (intro wS hSw; obtain ⟨q0, r0, r1, r2, r3, r4, r5, r6, r7, r8⟩ := HC.out wS hSw; go_simp; first | done | with_reducible rfl)))
      (try simp only [Act.put, List.setIfInBounds_toArray, List.set_cons_zero, List.set_cons_succ])
    rotate_left
    focus
      go_simp
      (skip)
      refine hK.out _ _ (by assumption) ?_
      clear hK K
      (try simp only [Act.put, List.setIfInBounds_toArray, List.set_cons_zero, List.set_cons_succ])
      (first | (refine takeS_no 7 rfl (by kernel_rfl) (by kernel_rfl) (by kernel_rfl) (fun _ _ _ h => h) (by rfl) (by assumption) ?_) | (refine takeS_yes (v := ?_) 7 rfl (by kernel_rfl) (by kernel_rfl) (by kernel_rfl) (fun _ _ _ h => h) (by rfl) (by assumption) ?_ ?_; rotate_left; focus (intro wS hSw; obtain ⟨q0, r0, r1, r2, r3, r4, r5, r6, r7, r8⟩ := HC.out wS hSw; go_simp; first | done | with_reducible rfl)))
      (try simp only [Act.put, List.setIfInBounds_toArray, List.set_cons_zero, List.set_cons_succ])
      refine takeS_alone 9 rfl (by kernel_rfl) (by rfl) (fun K hK => ?_)
      go_simp
      (have hS1 := hSo (.cells #[.int .i64 x0, .int .u8 x1, .int .i64 x2, .int .i64 x3, .int .u8 ck, .string text, .slice ao args.length ac, .int .i64 num, .slice vo vs.length vc] 60))
      refine hK.out _ _ (by assumption) ?_
      clear hK K
      (try simp only [Act.put, List.setIfInBounds_toArray, List.set_cons_zero, List.set_cons_succ])
    all_goals
    all_goals (clear k4o hSo k4' hS0)
    all_goals (have hba := hbd.alloc hbd.size (.cells #[.int .i64 x0, .int .u8 x1, .int .i64 x2, .int .i64 x3, .int .u8 ck, .string text, .slice ao args.length ac, .int .i64 num, .slice vo vs.length vc] 60))
    all_goals (have hka := heap_alloc_new wd (.cells #[.int .i64 x0, .int .u8 x1, .int .i64 x2, .int .i64 x3, .int .u8 ck, .string text, .slice ao args.length ac, .int .i64 num, .slice vo vs.length vc] 60))
    all_goals (have hza : wd.heap.size < (wd.alloc (.cells #[.int .i64 x0, .int .u8 x1, .int .i64 x2, .int .i64 x3, .int .u8 ck, .string text, .slice ao args.length ac, .int .i64 num, .slice vo vs.length vc] 60)).heap.size := by simp)
    all_goals (generalize wd.alloc (.cells #[.int .i64 x0, .int .u8 x1, .int .i64 x2, .int .i64 x3, .int .u8 ck, .string text, .slice ao args.length ac, .int .i64 num, .slice vo vs.length vc] 60) = wa at hba hka hza hS1 ⊢)
    all_goals (have HBA := Lib.hid hba; have HKA := Lib.hid hka; clear hba hka hsl)
    all_goals
      refine takeS_alone 10 rfl (by kernel_rfl) (by rfl) (fun K hK => ?_)
      skip
      (obtain ⟨i0, hi, hz0, hz1, hz2⟩ := info_parts infoEn; refine oper_append_grows (.tmp 40) (.tmp 42) 38 rfl 60 i0 _ 9 112 Tryz.underlying38 hi hz0 hz1 hz2 rfl (by decide) a j j ((es.take j).flatMap enCells) rfl (fun h => by have := hnil h; have := HCAP.out; rw [HLEN.out.2] at this; omega) (by rw [flat_len enCells_len, List.length_take, HLEN.out.2, Nat.min_eq_left hjm]) (fun ad had jj u hu => cells_of_rows enCells_len (by decide) (HIN.out.take j) HBA.out had hu) ⟨wd.heap.size, 0, none⟩ 1 1 (enCells ⟨x0, x1, x2, x3, ck, text, ao, args, ac, num, vo, vs, vc⟩) rfl rfl (fun jj u hu => (cell_of_new HKA.out jj).trans hu) (enCells_one _) (by omega) (by unfold maxLen; omega) (by omega) ?_; intro v5 w5 hown5 hg5; obtain ⟨a5, k5, rfl⟩ := row_slice hown5; clear hi hz0 hz1 hz2 i0; have hb5 : Below wa.heap.size wa w5 := (Below.refl _ _).grown hg5 (Nat.le_refl _) (fun q hq => by cases hq); have hS5 := And.intro ((hb5.cell (p := ⟨ub, 0, none⟩) (by show ub < wa.heap.size; omega)).trans hS1.1) ((hb5.block _ (by omega)).trans hS1.2); have hb35 : Below w3.heap.size w3 w5 := HBA.out.trans (hb5.mono HBA.out.size); have hsay5 := HSAY3.out.below hb35 (Nat.le_refl _); have d4 := Go.Joins.cell_of_block hsay5.blk 4; have f4 := Go.Joins.unfrozen_of_block hsay5.blk 4; have HOWN5 := Lib.hid hown5; have HSAY5 := Lib.hid hsay5; have HB35 := Lib.hid hb35; clear hown5 hg5 hb5 hb35 hsay5)
      refine hK.out _ _ (by assumption) ?_
      clear hK K
      (try simp only [Act.put, List.setIfInBounds_toArray, List.set_cons_zero, List.set_cons_succ])
      (first | (refine takeS_no 11 rfl (by kernel_rfl) (by kernel_rfl) (by kernel_rfl) (fun _ _ _ h => h) (by rfl) (by assumption) ?_) | (refine takeS_yes (v := ?_) 11 rfl (by kernel_rfl) (by kernel_rfl) (by kernel_rfl) (fun _ _ _ h => h) (by rfl) (by assumption) ?_ ?_; rotate_left; focus (intro wS hSw; obtain ⟨q0, r0, r1, r2, r3, r4, r5, r6, r7, r8⟩ := HC.out wS hSw; go_simp; first | done | with_reducible rfl)))
      (try simp only [Act.put, List.setIfInBounds_toArray, List.set_cons_zero, List.set_cons_succ])
      (first | (refine takeS_no 12 rfl (by kernel_rfl) (by kernel_rfl) (by kernel_rfl) (fun _ _ _ h => h) (by rfl) (by assumption) ?_) | (refine takeS_yes (v := ?_) 12 rfl (by kernel_rfl) (by kernel_rfl) (by kernel_rfl) (fun _ _ _ h => h) (by rfl) (by assumption) ?_ ?_; rotate_left; focus (intro wS hSw; obtain ⟨q0, r0, r1, r2, r3, r4, r5, r6, r7, r8⟩ := HC.out wS hSw; go_simp; first | done | with_reducible rfl)))
      (try simp only [Act.put, List.setIfInBounds_toArray, List.set_cons_zero, List.set_cons_succ])
      refine takeS_alone 13 rfl (by kernel_rfl) (by rfl) (fun K hK => ?_)
      go_simp
      (have hS6 := And.intro ((World.cell?_setCell_far w5 ⟨sb, 4, none⟩ ⟨ub, 0, none⟩ (.slice a5 (j + 1) k5) hne).trans hS5.1) ((heap_setCell_other w5 ⟨sb, 4, none⟩ w1.heap.size (.slice a5 (j + 1) k5) (Ne.symm hne2)).trans hS5.2))
      refine hK.out _ _ (by assumption) ?_
      clear hK K
      (try simp only [Act.put, List.setIfInBounds_toArray, List.set_cons_zero, List.set_cons_succ])
      refine wpAnyH_done (by kernel_rfl) ?_ _
      simp only [Exit.then]
      rename (∀ (_ : Act) (_ : World), _ → _) => hK0
      refine hK0 _ _ ?_
      clear hK0
      have hfo : enOwn w5 w.heap.size ⟨x0, x1, x2, x3, ck, text, ao, args, ac, num, vo, vs, vc⟩ := ⟨(VasOwn.below (VasOwn.below HFO.out.1 HB31.out (Nat.le_refl _)) HB35.out (Nat.le_refl _)), (IntsOwn.below (IntsOwn.below HFO.out.2 HB31.out (Nat.le_refl _)) HB35.out (Nat.le_refl _))⟩
      have hRES := HSAY5.out.setE (es' := es.take j ++ [⟨x0, x1, x2, x3, ck, text, ao, args, ac, num, vo, vs, vc⟩]) (HS.out.ens.cutPush (M := w.heap.size) (H3.out.below.trans (HB35.out.mono H3.out.below.size)) (Nat.le_trans (HS.out.le_size H.out.below) H.out.below.size) H.out.below.size hfo (by rw [HLEN.out.2]; exact hjm) (Go.Joins.ownsRow_le HOWN5.out (Nat.le_trans (HS.out.le_size H.out.below) (by have := HBA.out.size; omega))))
      have HRES := Lib.hid hRES
      clear hS1 hS5 hS6 hRES hfo
      go_wp2_with fail
      go_ret
      refine done_yes _ HYES.out ⟨_, _, HRES.out, ?_⟩ (grown_cell (grown_bel (H3.out.below.trans (HB35.out.mono H3.out.below.size)) (some sb)) 4 _)
      rw [List.map_append, List.map_take, HM.out]
      exact congrArg (fun q => s.L.take j ++ [q]) HFP.out
  · have hd' : (!b2 && l2.isEmpty) = false := by simpa [isDone] using hd
    rw [hd']
    go_wp2_with fail
    go_ret
    exact done_no (NO.out (by simp [hd])) hbel
end Go.Proofs.YtnhnabcpkaeaaaaGreatDoor
/- A map of three functions by their numbers. Conditions: as each says. -/
namespace Go.Proofs.YtnhnabcpkaeaaaaGreatDoor
open Go.RowKit Go.ChangeMaps
set_option maxRecDepth 20000
def fnV (f : Nat) (t u : Nat) : Value := .func (.func f) #[] #[.pointer (some ⟨t, 0, none⟩), .pointer (some ⟨u, 0, none⟩)]
theorem set_alloc (w : World) (o o' : Obj) : setBlock (w.alloc o) w.heap.size o' = w.alloc o' := by
  have h : (w.alloc o).heap = w.heap.push o := rfl
  unfold setBlock
  rw [h]
  have : (w.heap.push o).setIfInBounds w.heap.size o' = w.heap.push o' := by
    apply Array.ext_getElem?
    intro i
    rw [Array.getElem?_setIfInBounds, Array.getElem?_push, Array.getElem?_push]
    by_cases h : w.heap.size = i
    · subst h; simp
    · rw [if_neg h, if_neg (Ne.symm h), if_neg (Ne.symm h)]
  rw [this]
  rfl
theorem under_fns : Tryz.prog.underlying 118 = some (.map 3 114) := by kernel_rfl
theorem under_intM : Tryz.prog.underlying 3 = some (.int .i64) := by kernel_rfl
theorem int_lawW : Maps.Keyed Tryz.prog 3 := Maps.int_keyed Tryz.underlying3
theorem run_putF (k : Int) (hk : (Lit.int .i64 k).wf = true) (v : Value) (es : Array MapEntry) (c : Nat) (w : World) (hnew : Instr.findNow (.int .i64) (.int .i64 k) es.toList 0 = some none) :
    (Instr.mapUpdate 118 (.map (some w.heap.size)) (.int .i64 k) v).run Tryz.prog (w.alloc (.map es c)) = .ok () (w.alloc (.map (es.push { key := .int .i64 k, val := v, born := c }) (c + 1))) := by
  have hb : (w.alloc (.map es c)).heap[w.heap.size]? = some (.map es c) := heap_alloc_new w _
  have hck : (Instr.checkKey false 10000 3 (.int .i64 k)).run Tryz.prog (w.alloc (.map es c)) = .ok () (w.alloc (.map es c)) := int_lawW.check _ _ (Maps.keyOf_int_mk Tryz.underlying3 hk)
  have hfk : (Instr.findKey 3 (.int .i64 k) es.toList).run Tryz.prog (w.alloc (.map es c)) = .ok none (w.alloc (.map es c)) := by
    simp [Instr.findKey, run_underlying under_intM, hnew, Result.andThen]
  simp [Instr.mapUpdate, run_underlying under_fns, MapKept.run_getObj_map hb, hck, hfk, MapKept.run_setObj_map _ hb, Result.andThen]
  exact set_alloc w _ _
def threeM (t u : Nat) : Array MapEntry := #[⟨.int .i64 1, fnV 67 t u, 0⟩, ⟨.int .i64 2, fnV 70 t u, 1⟩, ⟨.int .i64 3, fnV 72 t u, 2⟩]
theorem run_getF_some (k : Int) (hk : (Lit.int .i64 k).wf = true) (t u i : Nat) (v : Value) (w : World) (hr : Instr.findNow (.int .i64) (.int .i64 k) (threeM t u).toList 0 = some (some (i, v))) :
    (Instr.lookup 118 (.map (some w.heap.size)) (.int .i64 k) true).run Tryz.prog (w.alloc (.map (threeM t u) 3)) = .ok (.tuple #[v, .bool true]) (w.alloc (.map (threeM t u) 3)) := by
  have hb : (w.alloc (.map (threeM t u) 3)).heap[w.heap.size]? = some (.map (threeM t u) 3) := heap_alloc_new w _
  have hck : (Instr.checkKey (threeM t u).isEmpty 10000 3 (.int .i64 k)).run Tryz.prog (w.alloc (.map (threeM t u) 3)) = .ok () (w.alloc (.map (threeM t u) 3)) := int_lawW.check _ _ (Maps.keyOf_int_mk Tryz.underlying3 hk)
  have hfk : (Instr.findKey 3 (.int .i64 k) (threeM t u).toList).run Tryz.prog (w.alloc (.map (threeM t u) 3)) = .ok (some (i, v)) (w.alloc (.map (threeM t u) 3)) := by
    simp [Instr.findKey, run_underlying under_intM, hr, Result.andThen]
  simp [Instr.lookup, run_underlying under_fns, MapKept.run_getObj_map hb, hck, hfk, Result.andThen]
theorem zero_fn (w : World) : (zeroValue 114).run Tryz.prog w = .ok (.nilFunc) w := by kernel_rfl
theorem run_getF_none (k : Int) (hk : (Lit.int .i64 k).wf = true) (t u : Nat) (w : World) (hr : Instr.findNow (.int .i64) (.int .i64 k) (threeM t u).toList 0 = some none) :
    (Instr.lookup 118 (.map (some w.heap.size)) (.int .i64 k) true).run Tryz.prog (w.alloc (.map (threeM t u) 3)) = .ok (.tuple #[.nilFunc, .bool false]) (w.alloc (.map (threeM t u) 3)) := by
  have hb : (w.alloc (.map (threeM t u) 3)).heap[w.heap.size]? = some (.map (threeM t u) 3) := heap_alloc_new w _
  have hck : (Instr.checkKey (threeM t u).isEmpty 10000 3 (.int .i64 k)).run Tryz.prog (w.alloc (.map (threeM t u) 3)) = .ok () (w.alloc (.map (threeM t u) 3)) := int_lawW.check _ _ (Maps.keyOf_int_mk Tryz.underlying3 hk)
  have hfk : (Instr.findKey 3 (.int .i64 k) (threeM t u).toList).run Tryz.prog (w.alloc (.map (threeM t u) 3)) = .ok none (w.alloc (.map (threeM t u) 3)) := by
    simp [Instr.findKey, run_underlying under_intM, hr, Result.andThen]
  simp [Instr.lookup, run_underlying under_fns, MapKept.run_getObj_map hb, hck, hfk, zero_fn, Result.andThen]
end Go.Proofs.YtnhnabcpkaeaaaaGreatDoor
