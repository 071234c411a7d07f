/- Rows of a call's own: what one of them is where another one grows or is written. No program. Conditions: as each says. -/
import Derived.Test.YtejgebpdipnhmaaGreatDoorGSnapNumbers1
import Derived.Test.YtejgebpdipnhmaaGreatDoorGSnapNumbers0
import Derived.ArgAppend
import Derived.Deep.OwnRows
set_option linter.unusedVariables false
set_option linter.unusedSimpArgs false
namespace Go.Proofs.YtejgebpdipnhmaaGreatDoor
open Go.RowKit
/-- Two slices lie in blocks of their own. -/
def Sep (u v : Value) : Prop := ∀ b, u.ownBlock = some b → v.ownBlock ≠ some b
theorem Sep.symm {u v : Value} (h : Sep u v) : Sep v u := fun b hv hu => h b hu hv
theorem Sep.ne {u v : Value} (h : Sep u v) : u.ownBlock = none ∨ u.ownBlock ≠ v.ownBlock := by
  cases hu : u.ownBlock with
  | none => exact Or.inl rfl
  | some b => exact Or.inr fun he => h b hu he.symm
theorem own_prefix {w : World} {B E SZ g c n m : Nat} {xs : List Value} (h : w.ownsRow B E SZ (.slice (some ⟨g, 0, none⟩) m c) m xs) (hn : n ≤ m) : w.ownsRow B E SZ (.slice (some ⟨g, 0, none⟩) n c) n (xs.take (n * SZ)) := by
  have hm := Nat.mul_le_mul_right SZ hn
  rcases h.2 with ⟨h', _⟩ | ⟨g', c', cur, h', h1, h2, h3, h4, h5, h6⟩
  · cases h'
  · cases h'
    refine ⟨?_, Or.inr ⟨g, c, cur, rfl, h1, h2, by omega, h4, h5, ?_⟩⟩
    · rw [List.length_take, h.1]; omega
    · rw [← h6, List.take_take]; congr 1; omega
theorem own_same {w : World} {B E SZ g c c2 n m : Nat} {xs ys : List Value} (h : w.ownsRow B E SZ (.slice (some ⟨g, 0, none⟩) m c) m xs) (h2 : w.ownsRow B E SZ (.slice (some ⟨g, 0, none⟩) n c2) n ys) (hz : 0 < SZ) : c = c2 := by
  rcases h.2 with ⟨h', _⟩ | ⟨_, _, cur, h', _, k2, _, _, k5, _⟩
  · cases h'
  · cases h'
    rcases h2.2 with ⟨h', _⟩ | ⟨_, _, cur', h', _, l2, _, _, l5, _⟩
    · cases h'
    · cases h'
      rw [k2] at l2
      simp only [Option.some.injEq, Obj.cells.injEq] at l2
      rw [l2.1, l5] at k5
      exact Nat.eq_of_mul_eq_mul_right hz k5.symm
/-- The marks of a row's first places. -/
def mks (mk : Nat → Nat → List Value) (k n : Nat) : List Value := (List.range n).flatMap (mk k)
theorem mks_succ (mk : Nat → Nat → List Value) (k n : Nat) : mks mk k (n + 1) = mks mk k n ++ mk k n := by
  unfold mks; rw [List.range_succ, List.flatMap_append]; simp
theorem mks_len {mk : Nat → Nat → List Value} {SZ : Nat} (h : ∀ k i, (mk k i).length = SZ) (k n : Nat) : (mks mk k n).length = n * SZ := by
  unfold mks; rw [flat_len (h k), List.length_range]
theorem mks_take {mk : Nat → Nat → List Value} {SZ : Nat} (h : ∀ k i, (mk k i).length = SZ) (k n d : Nat) : (mks mk k (n + d)).take (n * SZ) = mks mk k n := by
  induction d with
  | zero => rw [Nat.add_zero, List.take_of_length_le (by rw [mks_len h]; exact Nat.le_refl _)]
  | succ d ih => rw [← Nat.add_assoc, mks_succ, List.take_append_of_le_length (by rw [mks_len h]; exact Nat.mul_le_mul_right _ (by omega)), ih]
theorem mks_get {mk : Nat → Nat → List Value} {SZ : Nat} (h : ∀ k i, (mk k i).length = SZ) (k n i j : Nat) (hi : i < n) (hj : j < SZ) : (mks mk k n)[i * SZ + j]? = (mk k i)[j]? := by
  unfold mks
  exact flat_get (h k) (List.range n) i i (by simp [hi]) j hj
/-- While a row is grown one by one: what has been appended, and the row itself as it was. -/
def GrowAt (B E SZ : Nat) (mk : Nat → Nat → List Value) (k hs : Nat) (r : Value) (n q : Nat) (v : Value) (w : World) : Prop :=
  w.ownsRow B E SZ v (n + q) (mks mk k (n + q)) ∧ w.ownsRow B E SZ r n (mks mk k n) ∧ (v.ownBlock = r.ownBlock ∨ ∀ b, v.ownBlock = some b → hs ≤ b)
theorem grow_start {B E SZ : Nat} {mk : Nat → Nat → List Value} {k hs : Nat} {r : Value} {n : Nat} {w : World} (h : w.ownsRow B E SZ r n (mks mk k n)) : GrowAt B E SZ mk k hs r n 0 r w := ⟨h, h, Or.inl rfl⟩
theorem grow_alloc {B E SZ : Nat} {mk : Nat → Nat → List Value} {k hs : Nat} {r : Value} {n q : Nat} {v : Value} {w : World} (h : GrowAt B E SZ mk k hs r n q v w) (o : Obj) : GrowAt B E SZ mk k hs r n q v (w.alloc o) := ⟨h.1.alloc o, h.2.1.alloc o, h.2.2⟩
theorem grow_fits {B E SZ : Nat} {mk : Nat → Nat → List Value} (hmk : ∀ k i, (mk k i).length = SZ) (hz : 0 < SZ) {k hs : Nat} {r : Value} {n q g c : Nat} {w w' : World} (h : GrowAt B E SZ mk k hs r n q (.slice (some ⟨g, 0, none⟩) (n + q) c) w) (hr : ∀ b, r.ownBlock = some b → b < hs)
    (hown : w'.ownsRow B E SZ (.slice (some ⟨g, 0, none⟩) (n + q + 1) c) (n + q + 1) (mks mk k (n + q) ++ mk k (n + q))) (hg : w.grownBy w' (some g)) : GrowAt B E SZ mk k hs r n (q + 1) (.slice (some ⟨g, 0, none⟩) (n + q + 1) c) w' := by
  have hown' : w'.ownsRow B E SZ (.slice (some ⟨g, 0, none⟩) (n + q + 1) c) (n + q + 1) (mks mk k (n + q + 1)) := by rw [mks_succ]; exact hown
  refine ⟨hown', ?_, ?_⟩
  · rcases h.2.2 with hb | hb
    · have hb' : r.ownBlock = some g := hb.symm
      rcases Go.Joins.ownsRow_forms h.2.1 with ⟨hr0, _⟩ | ⟨g2, c2, hr2⟩
      · rw [hr0] at hb'; simp [Value.ownBlock] at hb'
      · rw [hr2] at hb'
        simp [Value.ownBlock] at hb'
        subst hb'
        have h2 := h.2.1
        rw [hr2] at h2 ⊢
        have hc := own_same h.1 h2 hz
        subst hc
        have h3 := own_prefix hown' (show n ≤ n + q + 1 by omega)
        rwa [show n + q + 1 = n + (q + 1) by omega, mks_take hmk] at h3
    · have hge := hb g rfl
      refine World.ownsRow.kept h.2.1 hg ?_
      cases hrb : r.ownBlock with
      | none => exact Or.inl rfl
      | some b => exact Or.inr fun he => by have := hr b hrb; cases he; omega
  · exact h.2.2
theorem grow_new {B E SZ : Nat} {mk : Nat → Nat → List Value} {k hs : Nat} {r : Value} {n q : Nat} {v v' : Value} {w w' : World} (h : GrowAt B E SZ mk k hs r n q v w) (hw : hs ≤ w.heap.size) (hB : B ≤ w.heap.size)
    (hown : w'.ownsRow w.heap.size E SZ v' (n + q + 1) (mks mk k (n + q) ++ mk k (n + q))) (hg : w.grownBy w' none) : GrowAt B E SZ mk k hs r n (q + 1) v' w' := by
  refine ⟨?_, World.ownsRow.kept h.2.1 hg (by cases r.ownBlock <;> simp), Or.inr fun b hb => ?_⟩
  · show w'.ownsRow B E SZ v' (n + (q + 1)) (mks mk k (n + (q + 1)))
    rw [← Nat.add_assoc, mks_succ]
    exact Go.Joins.ownsRow_le hown hB
  · have := (hown.lt b hb).1; omega
/-- Rows, by their numbers. -/
def RowsAt (B E SZ K : Nat) (R : Nat → Value) (n : Nat → Nat) (C : Nat → List Value) (w : World) : Prop := ∀ j, j < K → w.ownsRow B E SZ (R j) (n j) (C j)
def SepAll (K : Nat) (R : Nat → Value) : Prop := ∀ i j, i < K → j < K → i ≠ j → Sep (R i) (R j)
theorem RowsAt.upd {B E SZ K : Nat} {R : Nat → Value} {n : Nat → Nat} {C : Nat → List Value} {w w' : World} {k : Nat} {x : List Value} (h : RowsAt B E SZ K R n C w) (hs : SepAll K R) (hk : k < K) (hg : w.grownBy w' (R k).ownBlock) (hx : w'.ownsRow B E SZ (R k) (n k) x) : RowsAt B E SZ K R n (fun j => if j = k then x else C j) w' := by
  intro j hj
  by_cases e : j = k
  · subst e; simpa using hx
  · simp only [e, if_false]
    exact World.ownsRow.kept (h j hj) hg (hs j k hj hk e).ne
theorem RowsAt.congr {B E SZ K : Nat} {R : Nat → Value} {n : Nat → Nat} {C C' : Nat → List Value} {w : World} (h : RowsAt B E SZ K R n C w) (e : ∀ j, j < K → C j = C' j) : RowsAt B E SZ K R n C' w := fun j hj => e j hj ▸ h j hj
/-- A list by its places, one of them set. -/
theorem range_set {α : Type} (f : Nat → α) (K k : Nat) (u : α) : ((List.range K).map f).set k u = (List.range K).map fun j => if j = k then u else f j := by
  apply List.ext_getElem?
  intro i
  rw [List.getElem?_set, List.getElem?_map, List.getElem?_map]
  by_cases hi : i < K
  · rw [List.getElem?_range hi]
    by_cases e : k = i
    · subst e; simp [hi]
    · have e' : ¬ i = k := fun h => e h.symm
      simp [e, e']
  · rw [List.getElem?_eq_none (by simpa using hi)]
    simp [hi]
    omega
theorem range_get {α : Type} (f : Nat → α) (K k : Nat) (h : k < K) : ((List.range K).map f)[k]? = some (f k) := by
  rw [List.getElem?_map, List.getElem?_range h]; rfl
/-- The blocks of rows. -/
def ofRows (K : Nat) (R : Nat → Value) : Nat → Prop := fun b => ∃ j, j < K ∧ (R j).ownBlock = some b
/-- Below B nothing is changed, and of what was there no block of another type than U, nor one that is not in S. -/
structure Kb (S : Nat → Prop) (B U : Nat) (w w' : World) : Prop where
  below : Below B w w'
  other : ∀ (b : Nat) (cs : Array Value) (e : TypeId) (fz : Nat × Nat), w.heap[b]? = some (Obj.cells cs e fz) → e ≠ U → w'.heap[b]? = some (Obj.cells cs e fz)
  apart : ∀ b, b < w.heap.size → ¬ S b → w'.heap[b]? = w.heap[b]?
theorem Kb.refl (S : Nat → Prop) (B U : Nat) (w : World) : Kb S B U w w := ⟨Below.refl _ _, fun _ _ _ _ h _ => h, fun _ _ _ => rfl⟩
theorem Kb.size {S : Nat → Prop} {B U : Nat} {w w' : World} (h : Kb S B U w w') : w.heap.size ≤ w'.heap.size := h.below.size
theorem Kb.drew {S : Nat → Prop} {B U : Nat} {w w' : World} (h : Kb S B U w w') : Kb S B U w w'.drew := ⟨h.below.drew, h.other, h.apart⟩
theorem Kb.alloc {S : Nat → Prop} {B U : Nat} {w w' : World} (h : Kb S B U w w') (hB : B ≤ w'.heap.size) (o : Obj) : Kb S B U w (w'.alloc o) :=
  ⟨h.below.alloc hB o, fun b cs e fz hb he => by
    have h1 := h.other b cs e fz hb he
    rw [(World.grownBy_alloc w' o none).block b (Array.getElem?_eq_some_iff.1 h1).1 (by simp)]
    exact h1, fun b hb hs => ((World.grownBy_alloc w' o none).block b (Nat.lt_of_lt_of_le hb h.size) (by simp)).trans (h.apart b hb hs)⟩
theorem Kb.grownRow {S : Nat → Prop} {B U B2 SZ m n c g : Nat} {xs : List Value} {w w' w'' : World} (h : Kb S B U w w') (hg : w'.grownBy w'' (some g)) (hB : B ≤ w'.heap.size) (hown : w'.ownsRow B2 U SZ (.slice (some ⟨g, 0, none⟩) m c) n xs) (hB2 : B ≤ g) (hS : S g ∨ w.heap.size ≤ g) : Kb S B U w w'' :=
  ⟨h.below.grown hg hB (fun k hk => by cases hk; exact hB2), fun b cs e fz hb he => by
    have h1 := h.other b cs e fz hb he
    have hlt := (Array.getElem?_eq_some_iff.1 h1).1
    rw [hg.block b hlt ?_]
    · exact h1
    · intro hbg
      cases hbg
      rcases hown.2 with ⟨h', _⟩ | ⟨g', c', cur, h', _, h2, _⟩
      · cases h'
      · cases h'
        rw [h2] at h1
        simp only [Option.some.injEq, Obj.cells.injEq] at h1
        exact he h1.2.1.symm, fun b hb hs => (hg.block b (Nat.lt_of_lt_of_le hb h.size) (by intro e; cases e; rcases hS with h2 | h2; exact hs h2; omega)).trans (h.apart b hb hs)⟩
theorem Kb.grownNone {S : Nat → Prop} {B U : Nat} {w w' w'' : World} (h : Kb S B U w w') (hg : w'.grownBy w'' none) (hB : B ≤ w'.heap.size) : Kb S B U w w'' :=
  ⟨h.below.grown hg hB (fun k hk => by cases hk), fun b cs e fz hb he => by
    have h1 := h.other b cs e fz hb he
    rw [hg.block b (Array.getElem?_eq_some_iff.1 h1).1 (by simp)]
    exact h1, fun b hb hs => (hg.block b (Nat.lt_of_lt_of_le hb h.size) (by simp)).trans (h.apart b hb hs)⟩
theorem Kb.grownNew {S : Nat → Prop} {B U g : Nat} {w w' w'' : World} (h : Kb S B U w w') (hg : w'.grownBy w'' (some g)) (hB : B ≤ w'.heap.size) (hw : w.heap.size ≤ g) (hB2 : B ≤ g) : Kb S B U w w'' :=
  ⟨h.below.grown hg hB (fun k hk => by cases hk; exact hB2), fun b cs e fz hb he => by
    have h1 := h.other b cs e fz hb he
    have hlt := (Array.getElem?_eq_some_iff.1 hb).1
    rw [hg.block b (Array.getElem?_eq_some_iff.1 h1).1 (by intro hbg; cases hbg; omega)]
    exact h1, fun b hb hs => (hg.block b (Nat.lt_of_lt_of_le hb h.size) (by intro e; cases e; omega)).trans (h.apart b hb hs)⟩
theorem Kb.trans_below {S : Nat → Prop} {B U : Nat} {w w' w'' : World} (h : Kb S B U w w') (hb : Below w'.heap.size w' w'') (hB : B ≤ w'.heap.size) : Kb S B U w w'' :=
  ⟨h.below.trans (hb.mono hB), fun b cs e fz hb1 he => by
    have h1 := h.other b cs e fz hb1 he
    rw [hb.block b (Array.getElem?_eq_some_iff.1 h1).1]
    exact h1, fun b hb1 hs => (hb.block b (Nat.lt_of_lt_of_le hb1 h.size)).trans (h.apart b hb1 hs)⟩
end Go.Proofs.YtejgebpdipnhmaaGreatDoor
/- What is written between two marks of the heap, and nothing else. No program. Conditions: as each says. -/
namespace Go.Proofs.YtejgebpdipnhmaaGreatDoor
open Go.RowKit
set_option maxRecDepth 20000
/-- Neither below B anything is changed, nor of what is from T on. -/
structure Mid (B T : Nat) (w w' : World) : Prop where
  below : Below B w w'
  far : ∀ b, T ≤ b → b < w.heap.size → w'.heap[b]? = w.heap[b]?
theorem Mid.refl (B T : Nat) (w : World) : Mid B T w w := ⟨Below.refl _ _, fun _ _ _ => rfl⟩
theorem Mid.trans_below {B T : Nat} {w w' w'' : World} (h : Mid B T w w') (hb : Below w'.heap.size w' w'') (hB : B ≤ w'.heap.size) : Mid B T w w'' :=
  ⟨h.below.trans (hb.mono hB), fun b h1 h2 => (hb.block b (Nat.lt_of_lt_of_le h2 h.below.size)).trans (h.far b h1 h2)⟩
end Go.Proofs.YtejgebpdipnhmaaGreatDoor
/- What is written over keeps its shape: blocks between two marks of the heap, of certain types. No program. Conditions: as each says. -/
namespace Go.Proofs.YtejgebpdipnhmaaGreatDoor
open Go.RowKit
set_option maxRecDepth 20000
/-- A block of so many cells of a type. -/
def Blk (w : World) (g : Nat) (E : TypeId) (m : Nat) : Prop := ∃ cs, w.heap[g]? = some (.cells cs E (0, 0)) ∧ cs.size = m
theorem Blk.lt {w : World} {g m : Nat} {E : TypeId} (h : Blk w g E m) : g < w.heap.size := by
  obtain ⟨cs, h, _⟩ := h
  exact (Array.getElem?_eq_some_iff.1 h).1
theorem Blk.set {w : World} {g m : Nat} {E : TypeId} (h : Blk w g E m) (b i : Nat) (v : Value) : Blk (w.setCell ⟨b, i, none⟩ v) g E m := by
  obtain ⟨cs, h, hm⟩ := h
  by_cases e : g = b
  · subst e
    exact ⟨_, heap_setCell_same w g i cs E v h, by simpa using hm⟩
  · exact ⟨cs, (heap_setCell_other w ⟨b, i, none⟩ g v e).trans h, hm⟩
theorem Blk.below {w w' : World} {g m B : Nat} {E : TypeId} (h : Blk w g E m) (hb : Below B w w') (hB : w.heap.size ≤ B) : Blk w' g E m := by
  have hl := h.lt
  obtain ⟨cs, h, hm⟩ := h
  exact ⟨cs, (hb.block g (by omega)).trans h, hm⟩
theorem Blk.cell {w : World} {g m : Nat} {E : TypeId} (h : Blk w g E m) {i : Nat} (hi : i < m) : ∃ v, w.cell? ⟨g, i, none⟩ = some v := by
  obtain ⟨cs, h, hm⟩ := h
  exact ⟨cs[i]'(by omega), (Go.Joins.cell_of_block h i).trans (Array.getElem?_eq_getElem _)⟩
theorem Blk.free {w : World} {g m : Nat} {E : TypeId} (h : Blk w g E m) (i : Nat) : w.frozen? ⟨g, i, none⟩ = false := by
  obtain ⟨cs, h, hm⟩ := h
  exact Go.Joins.unfrozen_of_block h i
theorem Blk.of_own {w : World} {B g E SZ n c : Nat} {xs : List Value} (h : w.ownsRow B E SZ (.slice (some ⟨g, 0, none⟩) n c) n xs) : Blk w g E (c * SZ) := by
  rcases h.2 with ⟨h', _⟩ | ⟨_, _, cur, h', _, k2, _, _, k5, _⟩
  · cases h'
  · cases h'
    exact ⟨cur, k2, k5⟩
/-- Blocks of certain types between B and T may be written over; all keep their shape, the others what is in them. -/
structure OverK (B T : Nat) (Ts : List TypeId) (w w' : World) : Prop where
  mid : Mid B T w w'
  blk : ∀ g E m, Blk w g E m → Blk w' g E m
  far : ∀ (g : Nat) (cs : Array Value) (E : TypeId), w.heap[g]? = some (.cells cs E (0, 0)) → E ∉ Ts → w'.heap[g]? = some (.cells cs E (0, 0))
theorem OverK.refl (B T : Nat) (Ts : List TypeId) (w : World) : OverK B T Ts w w := ⟨Mid.refl _ _ _, fun _ _ _ h => h, fun _ _ _ h _ => h⟩
theorem Mid.trans {B T : Nat} {w w' w'' : World} (h : Mid B T w w') (h2 : Mid B T w' w'') : Mid B T w w'' :=
  ⟨h.below.trans h2.below, fun b h1 h3 => (h2.far b h1 (Nat.lt_of_lt_of_le h3 h.below.size)).trans (h.far b h1 h3)⟩
theorem OverK.trans {B T : Nat} {Ts Us : List TypeId} {w w' w'' : World} (h : OverK B T Ts w w') (h2 : OverK B T Us w' w'') (hs : ∀ E, E ∈ Us → E ∈ Ts) : OverK B T Ts w w'' :=
  ⟨h.mid.trans h2.mid, fun g E m hb => h2.blk g E m (h.blk g E m hb), fun g cs E hg hE => h2.far g cs E (h.far g cs E hg hE) (fun he => hE (hs E he))⟩
theorem OverK.then_below {B T : Nat} {Ts : List TypeId} {w w' w'' : World} (h : OverK B T Ts w w') (hb : Below w'.heap.size w' w'') (hB : B ≤ w'.heap.size) : OverK B T Ts w w'' :=
  ⟨h.mid.trans_below hb hB, fun g E m hg => (h.blk g E m hg).below hb (Nat.le_refl _), fun g cs E hg hE => by
    have h1 := h.far g cs E hg hE
    exact (hb.block g (Array.getElem?_eq_some_iff.1 h1).1).trans h1⟩
theorem OverK.set {B T : Nat} {Ts : List TypeId} {w w' : World} (h : OverK B T Ts w w') {g m : Nat} {E : TypeId} (hk : Blk w' g E m) (hE : E ∈ Ts) (hB : B ≤ g) (hT : g < T) (i : Nat) (v : Value) : OverK B T Ts w (w'.setCell ⟨g, i, none⟩ v) := by
  refine ⟨⟨h.mid.below.setCell (p := ⟨g, i, none⟩) hB v, fun b h1 h2 => ?_⟩, fun b E m hb => (h.blk b E m hb).set g i v, fun b cs E' hg hE' => ?_⟩
  · rw [heap_setCell_other _ _ _ _ (by show b ≠ g; omega)]
    exact h.mid.far b h1 h2
  · have h1 := h.far b cs E' hg hE'
    by_cases e : b = g
    · subst e
      obtain ⟨cs2, h2, _⟩ := hk
      rw [h1] at h2
      cases h2
      exact absurd hE hE'
    · exact (heap_setCell_other w' ⟨g, i, none⟩ b v e).trans h1
theorem OverK.size {B T : Nat} {Ts : List TypeId} {w w' : World} (h : OverK B T Ts w w') : w.heap.size ≤ w'.heap.size := h.mid.below.size
/-- A row that may be written over, with twelve places behind its end. -/
def Room (w : World) (B T : Nat) (E : TypeId) (SZ : Nat) (a : Option Addr) (n c : Nat) : Prop := ∃ g, a = some ⟨g, 0, none⟩ ∧ B ≤ g ∧ g < T ∧ c = n + 12 ∧ Blk w g E ((n + 12) * SZ)
theorem Room.over {w w' : World} {B T n c : Nat} {E : TypeId} {SZ : Nat} {a : Option Addr} {Ts : List TypeId} (h : Room w B T E SZ a n c) (ho : OverK B T Ts w w') : Room w' B T E SZ a n c := by
  obtain ⟨g, h1, h2, h3, h4, h5⟩ := h
  exact ⟨g, h1, h2, h3, h4, ho.blk _ _ _ h5⟩
theorem Room.below {w w' : World} {B T n c : Nat} {E : TypeId} {SZ : Nat} {a : Option Addr} (h : Room w B T E SZ a n c) (hb : Below w.heap.size w w') : Room w' B T E SZ a n c := by
  obtain ⟨g, h1, h2, h3, h4, h5⟩ := h
  exact ⟨g, h1, h2, h3, h4, h5.below hb (Nat.le_refl _)⟩
end Go.Proofs.YtejgebpdipnhmaaGreatDoor
