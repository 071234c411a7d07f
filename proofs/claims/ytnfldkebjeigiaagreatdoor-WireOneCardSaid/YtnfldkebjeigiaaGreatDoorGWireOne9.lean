/- log.copied: entries in memory of their own. Conditions: the entries' cells lie as their readings say. -/
import Derived.Test.YtnfldkebjeigiaaGreatDoorGWireOne0
import Derived.Test.YtnfldkebjeigiaaGreatDoorGWireOne1
namespace Go.Proofs.YtnfldkebjeigiaaGreatDoor
open Go.RowKit
set_option maxRecDepth 20000
def argV (e : En) : Value := .slice e.aao e.args.length e.acap
def votV (e : En) : Value := .slice e.vao e.vs.length e.vcap
/-- An entry's lists are the call's own. -/
def enOwn (w : World) (base : Nat) (e : En) : Prop :=
  w.ownsRow base 24 3 (argV e) e.args.length (e.args.flatMap vaCells) ∧ w.ownsRow base 3 1 (votV e) e.vs.length (e.vs.flatMap iCells)
def sepE (e f : En) : Prop := ((argV e).ownBlock = none ∨ (argV e).ownBlock ≠ (argV f).ownBlock) ∧ ((votV e).ownBlock = none ∨ (votV e).ownBlock ≠ (votV f).ownBlock)
/-- A row of entries of the call's own, their lists, too, each in a block of its own. -/
structure EnsOwn (w : World) (base : Nat) (v : Value) (es : List En) : Prop where
  row : w.ownsRow base 38 9 v es.length (es.flatMap enCells)
  own : ∀ e ∈ es, enOwn w base e
  sep : es.Pairwise sepE
theorem enOwn.below {w w' : World} {base B : Nat} {e : En} (h : enOwn w base e) (hb : Below B w w') (hB : w.heap.size ≤ B) : enOwn w' base e := ⟨own_below h.1 hb hB, own_below h.2 hb hB⟩
theorem enOwn.le {w : World} {base base' : Nat} {e : En} (h : enOwn w base e) (hB : base' ≤ base) : enOwn w base' e := ⟨Go.Joins.ownsRow_le h.1 hB, Go.Joins.ownsRow_le h.2 hB⟩
theorem EnsOwn.below {w w' : World} {base B : Nat} {v : Value} {es : List En} (h : EnsOwn w base v es) (hb : Below B w w') (hB : w.heap.size ≤ B) : EnsOwn w' base v es :=
  ⟨own_below h.row hb hB, fun e he => (h.own e he).below hb hB, h.sep⟩
theorem EnsOwn.le {w : World} {base base' : Nat} {v : Value} {es : List En} (h : EnsOwn w base v es) (hB : base' ≤ base) : EnsOwn w base' v es := ⟨Go.Joins.ownsRow_le h.row hB, fun e he => (h.own e he).le hB, h.sep⟩
theorem EnsOwn.nil (w : World) (base : Nat) : EnsOwn w base (.slice none 0 0) [] := ⟨World.ownsRow_nil _ _ _ _, by simp, List.Pairwise.nil⟩
/-- A row of the call's own, as it lies. -/
theorem own_rowsIn {α : Type} {k : Nat} {cells : α → List Value} {sub : World → Nat → α → Prop} (hk : ∀ x, (cells x).length = k) {w : World} {base e n c : Nat} {ao : Option Addr} {xs : List α} (hn : xs.length = n) (h : w.ownsRow base e k (.slice ao n c) n (xs.flatMap cells)) (hs : ∀ x ∈ xs, sub w w.heap.size x) : RowsIn k cells sub w w.heap.size ao xs := by
  subst hn
  obtain ⟨a', c', hv, hin, _⟩ := own_rows hk rfl h hs (Nat.le_refl _)
  cases hv
  exact hin
theorem enOwn.sub {w : World} {base : Nat} {e : En} (h : enOwn w base e) : enSub w w.heap.size e :=
  ⟨own_rowsIn vaCells_len rfl h.1 (fun _ _ => trivial), own_rowsIn iCells_len rfl h.2 (fun _ _ => trivial)⟩
theorem EnsOwn.lie {w : World} {base : Nat} {v : Value} {es : List En} (h : EnsOwn w base v es) : ∃ a c, v = .slice a es.length c ∧ es.length ≤ c ∧ (a = none → c = 0) ∧ EnsIn w w.heap.size a es := by
  obtain ⟨a, c, hv⟩ := row_slice h.row
  subst hv
  exact ⟨a, c, rfl, own_capG h.row, own_none h.row, own_rowsIn enCells_len rfl h.row fun e he => (h.own e he).sub⟩
theorem flat_set {α : Type} {k : Nat} {cells : α → List Value} (hk : ∀ x, (cells x).length = k) (A B : List α) (x : α) (q j : Nat) (hq : A.length = q) (hj : j < k) (u : Value) : ((A ++ x :: B).flatMap cells).set (q * k + j) u = A.flatMap cells ++ ((cells x).set j u ++ B.flatMap cells) := by
  have hA := flat_len hk A
  rw [hq] at hA
  rw [List.flatMap_append, List.flatMap_cons, List.set_append_right _ _ (by omega), hA, show q * k + j - q * k = j by omega, List.set_append_left _ _ (by rw [hk]; exact hj)]
theorem flat_set2 {A : List Value} {c B : List Value} {p j : Nat} (hA : A.length = p) (hj : j < c.length) (u : Value) : (A ++ (c ++ B)).set (p + j) u = A ++ (c.set j u ++ B) := by
  rw [List.set_append_right _ _ (by omega), show p + j - A.length = j by omega, List.set_append_left _ _ hj]
def CopiedAs (xs : List En) (n : Nat) (w : World) (e : Ending) (w' : World) : Prop :=
  ∃ a c es, e = .returned (.slice a n c) ∧ EnsOwn w' w.heap.size (.slice a n c) es ∧ es.map En.plain = xs.map En.plain ∧ Below w.heap.size w w'
end Go.Proofs.YtnfldkebjeigiaaGreatDoor
/- A few blocks laid one behind the other. Any program. Conditions: none. -/
namespace Go.Proofs.YtnfldkebjeigiaaGreatDoor
open Go.RowKit
theorem keep_alloc {w : World} {g : Nat} {x : Obj} (h : w.heap[g]? = some x) (o : Obj) : (w.alloc o).heap[g]? = some x :=
  ((World.grownBy_alloc w o none).block g (Array.getElem?_eq_some_iff.1 h).1 (by simp)).trans h
theorem own_block {w : World} {b base n size : Nat} {cs : Array Value} {e : TypeId} (h : w.heap[b]? = some (.cells cs e (0, 0))) (hb : base ≤ b) (hm : n ≤ maxLen) (hs : cs.size = n * size) : w.ownsRow base e size (.slice (some ⟨b, 0, none⟩) n n) n cs.toList :=
  ⟨by simpa using hs, .inr ⟨b, n, cs, rfl, hb, h, Nat.le_refl _, hm, hs, List.take_of_length_le (by rw [Array.length_toList, hs]; exact Nat.le_refl _)⟩⟩
theorem alloc2_facts (w : World) (A B : Array Value) (T1 T2 : TypeId) : Below w.heap.size w ((w.alloc (.cells A T1)).alloc (.cells B T2)) ∧ ((w.alloc (.cells A T1)).alloc (.cells B T2)).heap[w.heap.size]? = some (.cells A T1 (0, 0)) ∧ ((w.alloc (.cells A T1)).alloc (.cells B T2)).heap[w.heap.size + 1]? = some (.cells B T2 (0, 0)) ∧ ((w.alloc (.cells A T1)).alloc (.cells B T2)).heap.size = w.heap.size + 2 := by
  refine ⟨((Below.refl _ _).alloc (Nat.le_refl _) _).alloc (by simp) _, keep_alloc (heap_alloc_new w _) _, ?_, by simp⟩
  have := heap_alloc_new (w.alloc (.cells A T1)) (.cells B T2)
  simpa using this
theorem alloc3_facts (w : World) (A B C : Array Value) (T1 T2 T3 : TypeId) : Below w.heap.size w (((w.alloc (.cells A T1)).alloc (.cells B T2)).alloc (.cells C T3)) ∧ (((w.alloc (.cells A T1)).alloc (.cells B T2)).alloc (.cells C T3)).heap[w.heap.size]? = some (.cells A T1 (0, 0)) ∧ (((w.alloc (.cells A T1)).alloc (.cells B T2)).alloc (.cells C T3)).heap[w.heap.size + 1]? = some (.cells B T2 (0, 0)) ∧ (((w.alloc (.cells A T1)).alloc (.cells B T2)).alloc (.cells C T3)).heap[w.heap.size + 2]? = some (.cells C T3 (0, 0)) ∧ (((w.alloc (.cells A T1)).alloc (.cells B T2)).alloc (.cells C T3)).heap.size = w.heap.size + 3 := by
  obtain ⟨h1, h2, h3, h4⟩ := alloc2_facts w A B T1 T2
  refine ⟨h1.alloc h1.size _, keep_alloc h2 _, keep_alloc h3 _, ?_, by simp⟩
  have := heap_alloc_new ((w.alloc (.cells A T1)).alloc (.cells B T2)) (.cells C T3)
  rw [h4] at this
  exact this
end Go.Proofs.YtnfldkebjeigiaaGreatDoor
