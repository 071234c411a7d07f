/- Rows of a call's own: what one of them is where another one grows or is written. No program. Conditions: as each says. -/
import Derived.Test.YtnfldkebjeigiaaGreatDoorGWireOne1
import Derived.Test.YtnfldkebjeigiaaGreatDoorGWireOne0
import Derived.ArgAppend
import Derived.Deep.OwnRows
namespace Go.Proofs.YtnfldkebjeigiaaGreatDoor
open Go.RowKit
/-- Two slices lie in blocks of their own. -/
def Sep (u v : Value) : Prop := ∀ b, u.ownBlock = some b → v.ownBlock ≠ some b
theorem Sep.symm {u v : Value} (h : Sep u v) : Sep v u := fun b hv hu => h b hu hv
theorem Sep.ne {u v : Value} (h : Sep u v) : u.ownBlock = none ∨ u.ownBlock ≠ v.ownBlock := by
  cases hu : u.ownBlock with
  | none => exact Or.inl rfl
  | some b => exact Or.inr fun he => h b hu he.symm
theorem own_prefix {w : World} {B E SZ g c n m : Nat} {xs : List Value} (h : w.ownsRow B E SZ (.slice (some ⟨g, 0, none⟩) m c) m xs) (hn : n ≤ m) : w.ownsRow B E SZ (.slice (some ⟨g, 0, none⟩) n c) n (xs.take (n * SZ)) := by
  have hm := Nat.mul_le_mul_right SZ hn
  rcases h.2 with ⟨h', _⟩ | ⟨g', c', cur, h', h1, h2, h3, h4, h5, h6⟩
  · cases h'
  · cases h'
    refine ⟨?_, Or.inr ⟨g, c, cur, rfl, h1, h2, by omega, h4, h5, ?_⟩⟩
    · rw [List.length_take, h.1]; omega
    · rw [← h6, List.take_take]; congr 1; omega
theorem own_same {w : World} {B E SZ g c c2 n m : Nat} {xs ys : List Value} (h : w.ownsRow B E SZ (.slice (some ⟨g, 0, none⟩) m c) m xs) (h2 : w.ownsRow B E SZ (.slice (some ⟨g, 0, none⟩) n c2) n ys) (hz : 0 < SZ) : c = c2 := by
  rcases h.2 with ⟨h', _⟩ | ⟨_, _, cur, h', _, k2, _, _, k5, _⟩
  · cases h'
  · cases h'
    rcases h2.2 with ⟨h', _⟩ | ⟨_, _, cur', h', _, l2, _, _, l5, _⟩
    · cases h'
    · cases h'
      rw [k2] at l2
      simp only [Option.some.injEq, Obj.cells.injEq] at l2
      rw [l2.1, l5] at k5
      exact Nat.eq_of_mul_eq_mul_right hz k5.symm
/-- The marks of a row's first places. -/
def mks (mk : Nat → Nat → List Value) (k n : Nat) : List Value := (List.range n).flatMap (mk k)
theorem mks_succ (mk : Nat → Nat → List Value) (k n : Nat) : mks mk k (n + 1) = mks mk k n ++ mk k n := by
  unfold mks; rw [List.range_succ, List.flatMap_append]; simp
theorem mks_len {mk : Nat → Nat → List Value} {SZ : Nat} (h : ∀ k i, (mk k i).length = SZ) (k n : Nat) : (mks mk k n).length = n * SZ := by
  unfold mks; rw [flat_len (h k), List.length_range]
theorem mks_take {mk : Nat → Nat → List Value} {SZ : Nat} (h : ∀ k i, (mk k i).length = SZ) (k n d : Nat) : (mks mk k (n + d)).take (n * SZ) = mks mk k n := by
  induction d with
  | zero => rw [Nat.add_zero, List.take_of_length_le (by rw [mks_len h]; exact Nat.le_refl _)]
  | succ d ih => rw [← Nat.add_assoc, mks_succ, List.take_append_of_le_length (by rw [mks_len h]; exact Nat.mul_le_mul_right _ (by omega)), ih]
theorem mks_get {mk : Nat → Nat → List Value} {SZ : Nat} (h : ∀ k i, (mk k i).length = SZ) (k n i j : Nat) (hi : i < n) (hj : j < SZ) : (mks mk k n)[i * SZ + j]? = (mk k i)[j]? := by
  unfold mks
  exact flat_get (h k) (List.range n) i i (by simp [hi]) j hj
/-- While a row is grown one by one: what has been appended, and the row itself as it was. -/
def GrowAt (B E SZ : Nat) (mk : Nat → Nat → List Value) (k hs : Nat) (r : Value) (n q : Nat) (v : Value) (w : World) : Prop :=
  w.ownsRow B E SZ v (n + q) (mks mk k (n + q)) ∧ w.ownsRow B E SZ r n (mks mk k n) ∧ (v.ownBlock = r.ownBlock ∨ ∀ b, v.ownBlock = some b → hs ≤ b)
theorem grow_start {B E SZ : Nat} {mk : Nat → Nat → List Value} {k hs : Nat} {r : Value} {n : Nat} {w : World} (h : w.ownsRow B E SZ r n (mks mk k n)) : GrowAt B E SZ mk k hs r n 0 r w := ⟨h, h, Or.inl rfl⟩
theorem grow_alloc {B E SZ : Nat} {mk : Nat → Nat → List Value} {k hs : Nat} {r : Value} {n q : Nat} {v : Value} {w : World} (h : GrowAt B E SZ mk k hs r n q v w) (o : Obj) : GrowAt B E SZ mk k hs r n q v (w.alloc o) := ⟨h.1.alloc o, h.2.1.alloc o, h.2.2⟩
theorem grow_fits {B E SZ : Nat} {mk : Nat → Nat → List Value} (hmk : ∀ k i, (mk k i).length = SZ) (hz : 0 < SZ) {k hs : Nat} {r : Value} {n q g c : Nat} {w w' : World} (h : GrowAt B E SZ mk k hs r n q (.slice (some ⟨g, 0, none⟩) (n + q) c) w) (hr : ∀ b, r.ownBlock = some b → b < hs)
    (hown : w'.ownsRow B E SZ (.slice (some ⟨g, 0, none⟩) (n + q + 1) c) (n + q + 1) (mks mk k (n + q) ++ mk k (n + q))) (hg : w.grownBy w' (some g)) : GrowAt B E SZ mk k hs r n (q + 1) (.slice (some ⟨g, 0, none⟩) (n + q + 1) c) w' := by
  have hown' : w'.ownsRow B E SZ (.slice (some ⟨g, 0, none⟩) (n + q + 1) c) (n + q + 1) (mks mk k (n + q + 1)) := by rw [mks_succ]; exact hown
  refine ⟨hown', ?_, ?_⟩
  · rcases h.2.2 with hb | hb
    · have hb' : r.ownBlock = some g := hb.symm
      rcases Go.Joins.ownsRow_forms h.2.1 with ⟨hr0, _⟩ | ⟨g2, c2, hr2⟩
      · rw [hr0] at hb'; simp [Value.ownBlock] at hb'
      · rw [hr2] at hb'
        simp [Value.ownBlock] at hb'
        subst hb'
        have h2 := h.2.1
        rw [hr2] at h2 ⊢
        have hc := own_same h.1 h2 hz
        subst hc
        have h3 := own_prefix hown' (show n ≤ n + q + 1 by omega)
        rwa [show n + q + 1 = n + (q + 1) by omega, mks_take hmk] at h3
    · have hge := hb g rfl
      refine World.ownsRow.kept h.2.1 hg ?_
      cases hrb : r.ownBlock with
      | none => exact Or.inl rfl
      | some b => exact Or.inr fun he => by have := hr b hrb; cases he; omega
  · exact h.2.2
theorem grow_new {B E SZ : Nat} {mk : Nat → Nat → List Value} {k hs : Nat} {r : Value} {n q : Nat} {v v' : Value} {w w' : World} (h : GrowAt B E SZ mk k hs r n q v w) (hw : hs ≤ w.heap.size) (hB : B ≤ w.heap.size)
    (hown : w'.ownsRow w.heap.size E SZ v' (n + q + 1) (mks mk k (n + q) ++ mk k (n + q))) (hg : w.grownBy w' none) : GrowAt B E SZ mk k hs r n (q + 1) v' w' := by
  refine ⟨?_, World.ownsRow.kept h.2.1 hg (by cases r.ownBlock <;> simp), Or.inr fun b hb => ?_⟩
  · show w'.ownsRow B E SZ v' (n + (q + 1)) (mks mk k (n + (q + 1)))
    rw [← Nat.add_assoc, mks_succ]
    exact Go.Joins.ownsRow_le hown hB
  · have := (hown.lt b hb).1; omega
/-- Rows, by their numbers. -/
def RowsAt (B E SZ K : Nat) (R : Nat → Value) (n : Nat → Nat) (C : Nat → List Value) (w : World) : Prop := ∀ j, j < K → w.ownsRow B E SZ (R j) (n j) (C j)
def SepAll (K : Nat) (R : Nat → Value) : Prop := ∀ i j, i < K → j < K → i ≠ j → Sep (R i) (R j)
theorem RowsAt.kept {B E SZ K : Nat} {R : Nat → Value} {n : Nat → Nat} {C : Nat → List Value} {w w' : World} {row : Option Nat} (h : RowsAt B E SZ K R n C w) (hg : w.grownBy w' row) (hne : ∀ j, j < K → (R j).ownBlock = none ∨ (R j).ownBlock ≠ row) : RowsAt B E SZ K R n C w' := fun j hj => World.ownsRow.kept (h j hj) hg (hne j hj)
theorem RowsAt.upd {B E SZ K : Nat} {R : Nat → Value} {n : Nat → Nat} {C : Nat → List Value} {w w' : World} {k : Nat} {x : List Value} (h : RowsAt B E SZ K R n C w) (hs : SepAll K R) (hk : k < K) (hg : w.grownBy w' (R k).ownBlock) (hx : w'.ownsRow B E SZ (R k) (n k) x) : RowsAt B E SZ K R n (fun j => if j = k then x else C j) w' := by
  intro j hj
  by_cases e : j = k
  · subst e; simpa using hx
  · simp only [e, if_false]
    exact World.ownsRow.kept (h j hj) hg (hs j k hj hk e).ne
theorem RowsAt.congr {B E SZ K : Nat} {R : Nat → Value} {n : Nat → Nat} {C C' : Nat → List Value} {w : World} (h : RowsAt B E SZ K R n C w) (e : ∀ j, j < K → C j = C' j) : RowsAt B E SZ K R n C' w := fun j hj => e j hj ▸ h j hj
/-- A list by its places, one of them set. -/
theorem range_set {α : Type} (f : Nat → α) (K k : Nat) (u : α) : ((List.range K).map f).set k u = (List.range K).map fun j => if j = k then u else f j := by
  apply List.ext_getElem?
  intro i
  rw [List.getElem?_set, List.getElem?_map, List.getElem?_map]
  by_cases hi : i < K
  · rw [List.getElem?_range hi]
    by_cases e : k = i
    · subst e; simp [hi]
    · have e' : ¬ i = k := fun h => e h.symm
      simp [e, e']
  · rw [List.getElem?_eq_none (by simpa using hi)]
    simp [hi]
    omega
theorem range_get {α : Type} (f : Nat → α) (K k : Nat) (h : k < K) : ((List.range K).map f)[k]? = some (f k) := by
  rw [List.getElem?_map, List.getElem?_range h]; rfl
/-- The blocks of rows. -/
def ofRows (K : Nat) (R : Nat → Value) : Nat → Prop := fun b => ∃ j, j < K ∧ (R j).ownBlock = some b
/-- Below B nothing is changed, and of what was there no block of another type than U, nor one that is not in S. -/
structure Kb (S : Nat → Prop) (B U : Nat) (w w' : World) : Prop where
  below : Below B w w'
  other : ∀ (b : Nat) (cs : Array Value) (e : TypeId) (fz : Nat × Nat), w.heap[b]? = some (Obj.cells cs e fz) → e ≠ U → w'.heap[b]? = some (Obj.cells cs e fz)
  apart : ∀ b, b < w.heap.size → ¬ S b → w'.heap[b]? = w.heap[b]?
theorem Kb.refl (S : Nat → Prop) (B U : Nat) (w : World) : Kb S B U w w := ⟨Below.refl _ _, fun _ _ _ _ h _ => h, fun _ _ _ => rfl⟩
theorem Kb.size {S : Nat → Prop} {B U : Nat} {w w' : World} (h : Kb S B U w w') : w.heap.size ≤ w'.heap.size := h.below.size
theorem Kb.drew {S : Nat → Prop} {B U : Nat} {w w' : World} (h : Kb S B U w w') : Kb S B U w w'.drew := ⟨h.below.drew, h.other, h.apart⟩
theorem Kb.alloc {S : Nat → Prop} {B U : Nat} {w w' : World} (h : Kb S B U w w') (hB : B ≤ w'.heap.size) (o : Obj) : Kb S B U w (w'.alloc o) :=
  ⟨h.below.alloc hB o, fun b cs e fz hb he => by
    have h1 := h.other b cs e fz hb he
    rw [(World.grownBy_alloc w' o none).block b (Array.getElem?_eq_some_iff.1 h1).1 (by simp)]
    exact h1, fun b hb hs => ((World.grownBy_alloc w' o none).block b (Nat.lt_of_lt_of_le hb h.size) (by simp)).trans (h.apart b hb hs)⟩
theorem Kb.grownRow {S : Nat → Prop} {B U B2 SZ m n c g : Nat} {xs : List Value} {w w' w'' : World} (h : Kb S B U w w') (hg : w'.grownBy w'' (some g)) (hB : B ≤ w'.heap.size) (hown : w'.ownsRow B2 U SZ (.slice (some ⟨g, 0, none⟩) m c) n xs) (hB2 : B ≤ g) (hS : S g ∨ w.heap.size ≤ g) : Kb S B U w w'' :=
  ⟨h.below.grown hg hB (fun k hk => by cases hk; exact hB2), fun b cs e fz hb he => by
    have h1 := h.other b cs e fz hb he
    have hlt := (Array.getElem?_eq_some_iff.1 h1).1
    rw [hg.block b hlt ?_]
    · exact h1
    · intro hbg
      cases hbg
      rcases hown.2 with ⟨h', _⟩ | ⟨g', c', cur, h', _, h2, _⟩
      · cases h'
      · cases h'
        rw [h2] at h1
        simp only [Option.some.injEq, Obj.cells.injEq] at h1
        exact he h1.2.1.symm, fun b hb hs => (hg.block b (Nat.lt_of_lt_of_le hb h.size) (by intro e; cases e; rcases hS with h2 | h2; exact hs h2; omega)).trans (h.apart b hb hs)⟩
theorem Kb.grownNone {S : Nat → Prop} {B U : Nat} {w w' w'' : World} (h : Kb S B U w w') (hg : w'.grownBy w'' none) (hB : B ≤ w'.heap.size) : Kb S B U w w'' :=
  ⟨h.below.grown hg hB (fun k hk => by cases hk), fun b cs e fz hb he => by
    have h1 := h.other b cs e fz hb he
    rw [hg.block b (Array.getElem?_eq_some_iff.1 h1).1 (by simp)]
    exact h1, fun b hb hs => (hg.block b (Nat.lt_of_lt_of_le hb h.size) (by simp)).trans (h.apart b hb hs)⟩
theorem Kb.grownNew {S : Nat → Prop} {B U g : Nat} {w w' w'' : World} (h : Kb S B U w w') (hg : w'.grownBy w'' (some g)) (hB : B ≤ w'.heap.size) (hw : w.heap.size ≤ g) (hB2 : B ≤ g) : Kb S B U w w'' :=
  ⟨h.below.grown hg hB (fun k hk => by cases hk; exact hB2), fun b cs e fz hb he => by
    have h1 := h.other b cs e fz hb he
    have hlt := (Array.getElem?_eq_some_iff.1 hb).1
    rw [hg.block b (Array.getElem?_eq_some_iff.1 h1).1 (by intro hbg; cases hbg; omega)]
    exact h1, fun b hb hs => (hg.block b (Nat.lt_of_lt_of_le hb h.size) (by intro e; cases e; omega)).trans (h.apart b hb hs)⟩
theorem Kb.trans_below {S : Nat → Prop} {B U : Nat} {w w' w'' : World} (h : Kb S B U w w') (hb : Below w'.heap.size w' w'') (hB : B ≤ w'.heap.size) : Kb S B U w w'' :=
  ⟨h.below.trans (hb.mono hB), fun b cs e fz hb1 he => by
    have h1 := h.other b cs e fz hb1 he
    rw [hb.block b (Array.getElem?_eq_some_iff.1 h1).1]
    exact h1, fun b hb1 hs => (hb.block b (Nat.lt_of_lt_of_le hb1 h.size)).trans (h.apart b hb1 hs)⟩
end Go.Proofs.YtnfldkebjeigiaaGreatDoor
