/- Rows of bytes that lie apart are found to do so, also where their blocks are greater than they. Conditions: each row is full of bytes of its own. -/
import Derived.Test.YtglgcjkglhlggaaGreatDoorGLetterPuts12
import Derived.Deep.Upon
set_option linter.unusedVariables false
set_option linter.unusedSimpArgs false
namespace Go.Proofs.YtglgcjkglhlggaaGreatDoor
open Go.RowKit
set_option maxRecDepth 20000
/-- A row of bytes at a block's beginning, told by its cells; its block is none of No's. -/
def RowX (No : Nat → Prop) (w : World) (B : Nat) (v : Value) (n : Nat) (xs : List Value) : Prop :=
  xs.length = n * 1 ∧ ((v = .slice none 0 0 ∧ n = 0) ∨ ∃ g cap, v = .slice (some ⟨g, 0, none⟩) n cap ∧ B ≤ g ∧ g < w.heap.size ∧ ¬ No g ∧ n ≤ cap ∧ cap ≤ maxLen ∧ (∀ i, i < cap → (w.cell? ⟨g, i, none⟩).isSome = true ∧ w.frozen? ⟨g, i, none⟩ = false) ∧ ∀ i, i < n → w.cell? ⟨g, i, none⟩ = xs[i]?)
theorem RowX.lt {No : Nat → Prop} {B n : Nat} {w : World} {v : Value} {xs : List Value} (h : RowX No w B v n xs) (b : Nat) (hb : v.ownBlock = some b) : B ≤ b ∧ b < w.heap.size := by
  rcases h.2 with ⟨h1, _⟩ | ⟨g, c, h1, h2, h3, _⟩
  · rw [h1] at hb; simp [Value.ownBlock] at hb
  · rw [h1] at hb
    simp [Value.ownBlock] at hb
    omega
theorem RowX.no {No : Nat → Prop} {B n : Nat} {w : World} {v : Value} {xs : List Value} (h : RowX No w B v n xs) (b : Nat) (hb : v.ownBlock = some b) : ¬ No b := by
  rcases h.2 with ⟨h1, _⟩ | ⟨g, c, h1, h2, h3, h4, _⟩
  · rw [h1] at hb; simp [Value.ownBlock] at hb
  · rw [h1] at hb
    simp [Value.ownBlock] at hb
    subst hb
    exact h4
theorem row_formX {No : Nat → Prop} {B n : Nat} {w : World} {v : Value} {xs : List Value} (h : RowX No w B v n xs) : ∃ a c, v = .slice a n c ∧ (a = none → n = 0 ∧ c = 0) ∧ (0 < c → ∃ g, a = some ⟨g, 0, none⟩) ∧ n ≤ c := by
  rcases h.2 with ⟨h1, hz⟩ | ⟨g, c, h1, _, _, _, h5, _⟩
  · exact ⟨none, 0, by rw [h1, hz], fun _ => ⟨hz, rfl⟩, fun h => by omega, by omega⟩
  · exact ⟨_, c, h1, by simp, fun _ => ⟨g, rfl⟩, h5⟩
theorem RowX.forms {No : Nat → Prop} {B n : Nat} {w : World} {v : Value} {xs : List Value} (h : RowX No w B v n xs) : (v = .slice none 0 0 ∧ n = 0) ∨ ∃ g c, v = .slice (some ⟨g, 0, none⟩) n c := by
  rcases h.2 with h1 | ⟨g, c, h1, _⟩
  · exact Or.inl h1
  · exact Or.inr ⟨g, c, h1⟩
theorem RowX.kept {No : Nat → Prop} {B n : Nat} {w w' : World} {v : Value} {xs : List Value} {row : Option Nat} (h : RowX No w B v n xs) (hg : w.grownBy w' row) (hne : v.ownBlock = none ∨ v.ownBlock ≠ row) : RowX No w' B v n xs := by
  refine ⟨h.1, ?_⟩
  rcases h.2 with h1 | ⟨g, c, h1, h2, h3, h4, h5, h6, h7, h8⟩
  · exact Or.inl h1
  · have hb := hg.block g h3 (by
      rw [h1] at hne
      rcases hne with h | h
      · simp [Value.ownBlock] at h
      · exact h)
    exact Or.inr ⟨g, c, h1, h2, Nat.lt_of_lt_of_le h3 hg.size, h4, h5, h6, fun i hi => ⟨by rw [World.cell?_of_block (a := ⟨g, i, none⟩) hb]; exact (h7 i hi).1, (World.frozen?_of_block (a := ⟨g, i, none⟩) hb).trans (h7 i hi).2⟩, fun i hi => (World.cell?_of_block (a := ⟨g, i, none⟩) hb).trans (h8 i hi)⟩
theorem RowX.alloc {No : Nat → Prop} {B n : Nat} {w : World} {v : Value} {xs : List Value} (h : RowX No w B v n xs) (o : Obj) : RowX No (w.alloc o) B v n xs := h.kept (World.grownBy_alloc w o none) (by cases v.ownBlock <;> simp)
theorem RowX.below {No : Nat → Prop} {B n B2 : Nat} {w w' : World} {v : Value} {xs : List Value} (h : RowX No w B v n xs) (hb : Below B2 w w') (hB : w.heap.size ≤ B2) : RowX No w' B v n xs :=
  h.kept (row := none) ⟨hb.os, hb.tape, hb.output, hb.size, fun k hk _ => hb.block k (Nat.lt_of_lt_of_le hk hB)⟩ (by cases v.ownBlock <;> simp)
theorem RowX.re {No No2 : Nat → Prop} {B n : Nat} {w : World} {v : Value} {xs : List Value} (h : RowX No w B v n xs) (hh : ∀ g, g < w.heap.size → No2 g → No g) : RowX No2 w B v n xs := by
  refine ⟨h.1, ?_⟩
  rcases h.2 with h1 | ⟨g, c, h1, h2, h3, h4, h5⟩
  · exact Or.inl h1
  · exact Or.inr ⟨g, c, h1, h2, h3, fun h => h4 (hh g h3 h), h5⟩
theorem RowX.cellAt {No : Nat → Prop} {B n m c g : Nat} {w : World} {xs : List Value} (h : RowX No w B (.slice (some ⟨g, 0, none⟩) m c) n xs) (i : Nat) (hi : i < n * 1) : w.cell? ⟨g, i, none⟩ = xs[i]? := by
  rcases h.2 with ⟨h1, _⟩ | ⟨g', c', h1, _, _, _, _, _, _, h8⟩
  · cases h1
  · cases h1; exact h8 i (by omega)
theorem RowX.frozenAt {No : Nat → Prop} {B n m c g : Nat} {w : World} {xs : List Value} (h : RowX No w B (.slice (some ⟨g, 0, none⟩) m c) n xs) (i : Nat) (hi : i < n * 1) : w.frozen? ⟨g, i, none⟩ = false := by
  rcases h.2 with ⟨h1, _⟩ | ⟨g', c', h1, _, _, _, h5, _, h7, _⟩
  · cases h1
  · cases h1; exact (h7 i (by omega)).2
theorem addr_add (g j : Nat) : (⟨g, 0, none⟩ : Addr).add j = ⟨g, j, none⟩ := by unfold Addr.add; split <;> simp_all
theorem RowX.cells {No : Nat → Prop} {B n m c : Nat} {w : World} {b : Addr} {xs : List Value} (h : RowX No w B (.slice (some b) m c) n xs) (j : Nat) (u : Value) (hu : xs[j]? = some u) : w.cell? (b.add j) = some u := by
  have hj : j < n * 1 := by rw [← h.1]; exact (List.getElem?_eq_some_iff.1 hu).1
  rcases h.2 with ⟨h1, _⟩ | ⟨g', c', h1, _, _, _, _, _, _, h8⟩
  · cases h1
  · cases h1
    rw [addr_add, h8 j (by omega), hu]
theorem grown_set (w : World) (g q : Nat) (u : Value) : w.grownBy (w.setCell ⟨g, q, none⟩ u) (some g) := ⟨rfl, rfl, rfl, by simp, fun k _ hne => heap_setCell_other _ _ _ _ (fun e => hne (by rw [e]))⟩
theorem RowX.stored {No : Nat → Prop} {B n m c g : Nat} {w : World} {xs : List Value} (h : RowX No w B (.slice (some ⟨g, 0, none⟩) m c) n xs) (q : Nat) (u : Value) (hq : q < n * 1) : RowX No (w.setCell ⟨g, q, none⟩ u) B (.slice (some ⟨g, 0, none⟩) m c) n (xs.set q u) ∧ w.grownBy (w.setCell ⟨g, q, none⟩ u) (some g) := by
  refine ⟨⟨by rw [List.length_set]; exact h.1, ?_⟩, grown_set w g q u⟩
  rcases h.2 with ⟨h1, _⟩ | ⟨g', c', h1, h2, h3, h4, h5, h6, h7, h8⟩
  · cases h1
  · cases h1
    have hx : w.cell? ⟨g, q, none⟩ = some (xs[q]'(by rw [h.1]; exact hq)) := by rw [h8 q (by omega), List.getElem?_eq_getElem]
    refine Or.inr ⟨g, c, rfl, h2, by simpa using h3, h4, h5, h6, fun i hi => ⟨?_, by rw [World.frozen?_setCell]; exact (h7 i hi).2⟩, fun i hi => ?_⟩
    · by_cases e : q = i
      · subst e; rw [World.cell?_setCell_same _ _ _ hx]; rfl
      · rw [World.cell?_setCell_other _ _ _ _ (by simp [e])]; exact (h7 i hi).1
    · by_cases e : q = i
      · subst e
        rw [World.cell?_setCell_same _ _ _ hx, List.getElem?_set_self (by rw [h.1]; exact hq)]
      · rw [World.cell?_setCell_other _ _ _ _ (by simp [e]), List.getElem?_set_ne e, h8 i hi]
theorem RowX.pre {No : Nat → Prop} {B n m c g : Nat} {w : World} {xs : List Value} (h : RowX No w B (.slice (some ⟨g, 0, none⟩) m c) m xs) (hn : n ≤ m) : RowX No w B (.slice (some ⟨g, 0, none⟩) n c) n (xs.take (n * 1)) := by
  refine ⟨by rw [List.length_take, h.1]; omega, ?_⟩
  rcases h.2 with ⟨h1, _⟩ | ⟨g', c', h1, h2, h3, h4, h5, h6, h7, h8⟩
  · cases h1
  · cases h1
    exact Or.inr ⟨g, c, rfl, h2, h3, h4, by omega, h6, h7, fun i hi => by rw [h8 i (by omega), List.getElem?_take_of_lt (by omega)]⟩
/-- A row of a block of its own is one. -/
theorem RowX.of_own {No : Nat → Prop} {B base n : Nat} {w : World} {v : Value} {xs : List Value} (h : w.ownsRow base 5 1 v n xs) (hB : B ≤ base) (hno : ∀ g, base ≤ g → ¬ No g) : RowX No w B v n xs := by
  refine ⟨h.1, ?_⟩
  have h0 := h
  rcases h.2 with h1 | ⟨g, c, cur, rfl, h2, h3, h4, h5, h6, h7⟩
  · exact Or.inl h1
  · refine Or.inr ⟨g, c, rfl, by omega, (Array.getElem?_eq_some_iff.1 h3).1, hno g h2, h4, h5, fun i hi => ⟨?_, World.ownsRow.frozenAt h0 i⟩, fun i hi => World.ownsRow.cellAt h0 i (by omega)⟩
    rw [Go.Joins.cell_of_block h3 i, Array.getElem?_eq_getElem (show i < cur.size by omega)]; rfl
/-- Rows, by their numbers. -/
def RowsX (No : Nat → Prop) (B K : Nat) (R : Nat → Value) (n : Nat → Nat) (C : Nat → List Value) (w : World) : Prop := ∀ j, j < K → RowX No w B (R j) (n j) (C j)
theorem RowsX.upd {No : Nat → Prop} {B K : Nat} {R : Nat → Value} {n : Nat → Nat} {C : Nat → List Value} {w w' : World} {k : Nat} {x : List Value} (h : RowsX No B K R n C w) (hs : SepAll K R) (hk : k < K) (hg : w.grownBy w' (R k).ownBlock) (hx : RowX No w' B (R k) (n k) x) : RowsX No B K R n (fun j => if j = k then x else C j) w' := by
  intro j hj
  by_cases e : j = k
  · subst e; simpa using hx
  · simp only [e, if_false]
    exact RowX.kept (h j hj) hg (hs j k hj hk e).ne
theorem RowsX.congr {No : Nat → Prop} {B K : Nat} {R : Nat → Value} {n : Nat → Nat} {C C' : Nat → List Value} {w : World} (h : RowsX No B K R n C w) (e : ∀ j, j < K → C j = C' j) : RowsX No B K R n C' w := fun j hj => e j hj ▸ h j hj
/-- A list in one of No's blocks lies apart. -/
theorem apartX {No : Nat → Prop} {B n : Nat} {w : World} {u v : Value} {xs : List Value} (hu : ∀ g, u.ownBlock = some g → No g) (h : RowX No w B v n xs) : u.ownBlock = none ∨ u.ownBlock ≠ v.ownBlock := by
  cases hb : u.ownBlock with
  | none => exact Or.inl rfl
  | some b => exact Or.inr fun e => h.no b e.symm (hu b hb)
theorem apartX' {No : Nat → Prop} {B n : Nat} {w : World} {u v : Value} {xs : List Value} (hu : ∀ g, u.ownBlock = some g → No g) (h : RowX No w B v n xs) : v.ownBlock = none ∨ v.ownBlock ≠ u.ownBlock := by
  cases hb : v.ownBlock with
  | none => exact Or.inl rfl
  | some b => exact Or.inr fun e => h.no b hb (hu b e.symm)
/-- Below B nothing is changed, and of what was there nothing that is not in S. -/
structure KbW (S : Nat → Prop) (B : Nat) (w w' : World) : Prop where
  below : Below B w w'
  apart : ∀ b, b < w.heap.size → ¬ S b → w'.heap[b]? = w.heap[b]?
theorem KbW.refl (S : Nat → Prop) (B : Nat) (w : World) : KbW S B w w := ⟨Below.refl _ _, fun _ _ _ => rfl⟩
theorem KbW.size {S : Nat → Prop} {B : Nat} {w w' : World} (h : KbW S B w w') : w.heap.size ≤ w'.heap.size := h.below.size
theorem KbW.drew {S : Nat → Prop} {B : Nat} {w w' : World} (h : KbW S B w w') : KbW S B w w'.drew := ⟨h.below.drew, h.apart⟩
theorem KbW.alloc {S : Nat → Prop} {B : Nat} {w w' : World} (h : KbW S B w w') (hB : B ≤ w'.heap.size) (o : Obj) : KbW S B w (w'.alloc o) :=
  ⟨h.below.alloc hB o, fun b hb hs => ((World.grownBy_alloc w' o none).block b (Nat.lt_of_lt_of_le hb h.size) (by simp)).trans (h.apart b hb hs)⟩
theorem KbW.grownRow {S : Nat → Prop} {B g : Nat} {w w' w'' : World} (h : KbW S B w w') (hg : w'.grownBy w'' (some g)) (hB : B ≤ w'.heap.size) (hB2 : B ≤ g) (hS : S g ∨ w.heap.size ≤ g) : KbW S B w w'' :=
  ⟨h.below.grown hg hB (fun k hk => by cases hk; exact hB2), fun b hb hs => (hg.block b (Nat.lt_of_lt_of_le hb h.size) (by intro e; cases e; rcases hS with h2 | h2; exact hs h2; omega)).trans (h.apart b hb hs)⟩
theorem KbW.grownNone {S : Nat → Prop} {B : Nat} {w w' w'' : World} (h : KbW S B w w') (hg : w'.grownBy w'' none) (hB : B ≤ w'.heap.size) : KbW S B w w'' :=
  ⟨h.below.grown hg hB (fun k hk => by cases hk), fun b hb hs => (hg.block b (Nat.lt_of_lt_of_le hb h.size) (by simp)).trans (h.apart b hb hs)⟩
theorem KbW.grownNew {S : Nat → Prop} {B g : Nat} {w w' w'' : World} (h : KbW S B w w') (hg : w'.grownBy w'' (some g)) (hB : B ≤ w'.heap.size) (hw : w.heap.size ≤ g) (hB2 : B ≤ g) : KbW S B w w'' := h.grownRow hg hB hB2 (Or.inr hw)
theorem KbW.trans_below {S : Nat → Prop} {B : Nat} {w w' w'' : World} (h : KbW S B w w') (hb : Below w'.heap.size w' w'') (hB : B ≤ w'.heap.size) : KbW S B w w'' :=
  ⟨h.below.trans (hb.mono hB), fun b hb1 hs => (hb.block b (Nat.lt_of_lt_of_le hb1 h.size)).trans (h.apart b hb1 hs)⟩
/-- While a row is grown one by one: what has been appended, and the row itself as it was. -/
structure GrowX (No : Nat → Prop) (B k hs : Nat) (r : Value) (n q : Nat) (v : Value) (w : World) : Prop where
  one : RowX No w B v (n + q) (mks mkB k (n + q))
  two : RowX No w B r n (mks mkB k n)
  at_ : (∃ a c, v = .slice a (n + q) c ∧ r = .slice a n c) ∨ ∀ b, v.ownBlock = some b → hs ≤ b
theorem GrowX.blk {No : Nat → Prop} {B k hs : Nat} {r : Value} {n q : Nat} {v : Value} {w : World} (h : GrowX No B k hs r n q v w) : v.ownBlock = r.ownBlock ∨ ∀ b, v.ownBlock = some b → hs ≤ b := by
  rcases h.at_ with ⟨a, c, h1, h2⟩ | h1
  · left; rw [h1, h2]; cases a <;> rfl
  · exact Or.inr h1
theorem growX_start {No : Nat → Prop} {B k hs : Nat} {a : Option Addr} {n c : Nat} {w : World} (h : RowX No w B (.slice a n c) n (mks mkB k n)) : GrowX No B k hs (.slice a n c) n 0 (.slice a n c) w := ⟨h, h, Or.inl ⟨a, c, rfl, rfl⟩⟩
theorem growX_alloc {No : Nat → Prop} {B k hs : Nat} {r : Value} {n q : Nat} {v : Value} {w : World} (h : GrowX No B k hs r n q v w) (o : Obj) : GrowX No B k hs r n q v (w.alloc o) := ⟨h.one.alloc o, h.two.alloc o, h.at_⟩
theorem growX_fits {No : Nat → Prop} {B k hs : Nat} {r : Value} {n q g c : Nat} {w w' : World} (h : GrowX No B k hs r n q (.slice (some ⟨g, 0, none⟩) (n + q) c) w) (hr : ∀ b, r.ownBlock = some b → b < hs)
    (hown : RowX No w' B (.slice (some ⟨g, 0, none⟩) (n + q + 1) c) (n + q + 1) (mks mkB k (n + q) ++ mkB k (n + q))) (hg : w.grownBy w' (some g)) : GrowX No B k hs r n (q + 1) (.slice (some ⟨g, 0, none⟩) (n + q + 1) c) w' := by
  have hown' : RowX No w' B (.slice (some ⟨g, 0, none⟩) (n + q + 1) c) (n + q + 1) (mks mkB k (n + q + 1)) := by rw [mks_succ]; exact hown
  rcases h.at_ with ⟨a, c2, h1, h2⟩ | h1
  · cases h1
    refine ⟨hown', ?_, Or.inl ⟨_, _, rfl, h2⟩⟩
    have h3 := RowX.pre hown' (show n ≤ n + q + 1 by omega)
    rw [show n + q + 1 = n + (q + 1) by omega, mks_take mkB_len] at h3
    rw [h2]; exact h3
  · have hge := h1 g rfl
    refine ⟨hown', RowX.kept h.two hg ?_, Or.inr h1⟩
    cases hrb : r.ownBlock with
    | none => exact Or.inl rfl
    | some b => exact Or.inr fun he => by have := hr b hrb; cases he; omega
theorem growX_new {No : Nat → Prop} {B k hs : Nat} {r : Value} {n q : Nat} {v v' : Value} {w w' : World} (h : GrowX No B k hs r n q v w) (hw : hs ≤ w.heap.size) (hB : B ≤ w.heap.size) (hno : ∀ g, w.heap.size ≤ g → ¬ No g)
    (hown : w'.ownsRow w.heap.size 5 1 v' (n + q + 1) (mks mkB k (n + q) ++ mkB k (n + q))) (hg : w.grownBy w' none) : GrowX No B k hs r n (q + 1) v' w' := by
  refine ⟨?_, RowX.kept h.two hg (by cases r.ownBlock <;> simp), Or.inr fun b hb => ?_⟩
  · show RowX No w' B v' (n + (q + 1)) (mks mkB k (n + (q + 1)))
    rw [← Nat.add_assoc, mks_succ]
    exact RowX.of_own hown hB hno
  · have := (hown.lt b hb).1; omega
theorem growX_other {No : Nat → Prop} {w : World} {B B2 k hs n n2 q g c : Nat} {r u : Value} {xs : List Value} (h : GrowX No B k hs r n q (.slice (some ⟨g, 0, none⟩) (n + q) c) w) (_ : RowX No w B2 u n2 xs) (hs2 : ∀ b, u.ownBlock = some b → b < hs) (hsep : Sep u r) : u.ownBlock = none ∨ u.ownBlock ≠ some g := by
  cases hub : u.ownBlock with
  | none => exact Or.inl rfl
  | some b =>
    right
    intro he
    cases he
    rcases h.blk with h1 | h1
    · exact hsep g hub h1.symm
    · have := h1 g rfl
      have := hs2 g hub
      omega
theorem size_setCells (g : Nat) : ∀ (vs : List Value) (o : Nat) (w : World), (w.setCells g o vs).heap.size = w.heap.size
  | [], _, _ => rfl
  | v :: r, o, w => by rw [World.setCells, size_setCells g r]; simp
theorem tape_setCells (g : Nat) : ∀ (vs : List Value) (o : Nat) (w : World), (w.setCells g o vs).tape = w.tape
  | [], _, _ => rfl
  | v :: r, o, w => by rw [World.setCells, tape_setCells g r]; rfl
/-- An append that has room. -/
theorem wpList_append_fitsX {P : Program} (No : Nat → Prop) (B : Nat) (w : World) {ops : Array Oper} {rest : List Oper} {o : Oper} {a : Act} {Q : Exit → Act → World → Prop}
    (hg : o.guard = none) (s x : Operand) (t : TypeId) (hop : o.op = Op.call { callee := Callee.builtin Builtin.append, args := #[s, x], argTypes := #[t, t] })
    (e : TypeId) (i : TypeInfo) (h1 : P.underlying t = some (.slice e)) (h2 : P.info? e = some i) (h4 : i.size = 1)
    (g k cap : Nat) (xs : List Value) (hs : a.eval s = .slice (some ⟨g, 0, none⟩) k cap) (hown : RowX No w B (.slice (some ⟨g, 0, none⟩) k cap) k xs) (ad : Addr) (m c : Nat) (news : List Value) (hx : a.eval x = .slice (some ad) m c) (hn : news.length = m * 1)
    (hc : ∀ j u, news[j]? = some u → w.cell? (ad.add j) = some u) (h1c : ∀ u ∈ news, u.oneCell' = true) (b1 : k + m ≤ cap)
    (hK : ∀ w', RowX No w' B (.slice (some ⟨g, 0, none⟩) (k + m) cap) (k + m) (xs ++ news) → w.grownBy w' (some g) → wpList P ops Q rest (a.put o.dst (.slice (some ⟨g, 0, none⟩) (k + m) cap)) w') :
    wpList P ops Q (o :: rest) a w := by
  refine wpList_plain hg fun K hK' => ?_
  obtain ⟨hlen, hh⟩ := hown
  rcases hh with ⟨h0, _⟩ | ⟨g', c', h0, k2, k3, k4, k5, k6, k7, k8⟩
  · cases h0
  cases h0
  have hsome : ∀ j, j < news.length → (w.cell? ⟨g, k + j, none⟩).isSome = true := fun j hj => (k7 (k + j) (by omega)).1
  have hrun := run_append_room_cells (P := P) w t o.type e i h1 h2 g 0 k cap ad m c news (by rw [h4]; exact hn) hc h1c b1 (fun j hj => by rw [h4]; simpa using hsome j hj) (fun j hj => by rw [h4]; simpa using (k7 (k + j) (by omega)).2)
  rw [h4, Nat.zero_add, Nat.mul_one] at hrun
  have hgr : w.grownBy (w.setCells g k news) (some g) := ⟨World.os_setCells _ _ _ _, tape_setCells _ _ _ _, World.output_setCells _ _ _ _, by rw [size_setCells]; exact Nat.le_refl _, fun b hb hne => World.heap_setCells_other _ _ _ _ hb (fun e => hne (by rw [e]))⟩
  have hrow : RowX No (w.setCells g k news) B (.slice (some ⟨g, 0, none⟩) (k + m) cap) (k + m) (xs ++ news) := by
    refine ⟨by rw [List.length_append, hlen, hn]; omega, Or.inr ⟨g, cap, rfl, k2, by rw [size_setCells]; exact k3, k4, b1, k6, fun j hj => ⟨?_, by rw [World.frozen?_setCells]; exact (k7 j hj).2⟩, fun j hj => ?_⟩⟩
    · by_cases hin : k ≤ j ∧ j < k + news.length
      · have := World.cell?_setCells_in g news k w hsome (j - k) (by omega)
        rw [show k + (j - k) = j by omega] at this
        rw [this]; rfl
      · rw [World.cell?_setCells_out g news k w ⟨g, j, none⟩ (fun _ _ => by show j < k ∨ k + news.length ≤ j; omega)]
        exact (k7 j hj).1
    · by_cases hin : k ≤ j
      · have := World.cell?_setCells_in g news k w hsome (j - k) (by omega)
        rw [show k + (j - k) = j by omega] at this
        rw [this, List.getElem?_append_right (by omega), show j - xs.length = j - k by omega, List.getElem?_eq_getElem]
      · rw [World.cell?_setCells_out g news k w ⟨g, j, none⟩ (fun _ _ => by show j < k ∨ k + news.length ≤ j; omega), k8 j (by omega), List.getElem?_append_left (by omega)]
  unfold Oper.wp
  simp [execOp, hop, resolve, invoke, builtin, hs, hx, hrun, Result.andThen]
  exact hK' _ _ (hK _ hrow hgr)
set_option maxHeartbeats 8000000 in
theorem flatW_any (No : Nat → Prop) (B K : Nat) (lo : Option Addr) (lc : Nat) (R : Nat → Value) (n : Nat → Nat) (C0 : Nat → List Value) (w : World)
    (hL : w.ownsRow B 25 1 (.slice lo K lc) K ((List.range K).map R)) (hR : RowsX No B K R n C0 w) (hNoL : ∀ g, (Value.slice lo K lc).ownBlock = some g → No g) (hNoS : ∀ g, No g → g < w.heap.size) (hsep : SepAll K R) (hK : K ≤ 100000) (hn : ∀ j, j < K → n j ≤ 1099511627776) (hB : B ≤ w.heap.size) :
    Calls Tryz.prog 84 #[.slice lo K lc] w fun e w' => e = .returned (.bool true) ∧ KbW (ofRows K R) B w w' := by
  have HL := Lib.hid hL
  have HR := Lib.hid hR
  have HS := Lib.hid hsep
  have HN := Lib.hid hn
  have HNL := Lib.hid hNoL
  have HNS := Lib.hid hNoS
  clear hL hR hsep hn hNoL hNoS
  go_enter Tryz.func84, Tryz.ntmps84
  go_wp2_with fail
  go_loopw [3, 4] (fun i _ wr => ∃ k : Nat, k ≤ K ∧ i = .int .i64 k ∧ (∃ C, RowsX No B K R n C wr ∧ ∀ j, j < k → C j = mks mkB j (n j)) ∧ wr.ownsRow B 25 1 (.slice lo K lc) K ((List.range K).map R) ∧ KbW (ofRows K R) B w wr) (fun i _ _ => K - (intOf i).toNat)
  case atStart => exact ⟨0, by omega, rfl, ⟨C0, HR.out, fun j hj => by omega⟩, HL.out, KbW.refl _ _ _⟩
  case round =>
    obtain ⟨k, hk, rfl, hrows, hlw, hbel⟩ := hrel
    have HRW := Lib.hid hrows
    have HLW := Lib.hid hlw
    clear hrows hlw
    by_cases hlt : k < K
    · obtain ⟨C, hC, hCk⟩ := HRW.out
      obtain ⟨a, c, hRk, hanone, hasome, hac⟩ := row_formX (hC k hlt)
      have hnk := HN.out k hlt
      obtain ⟨nk, hnk2⟩ : ∃ nk, nk = n k := ⟨_, rfl⟩
      rw [← hnk2] at hRk hanone hnk hac
      obtain ⟨lb, lcc, hlo⟩ := Go.Joins.ownsRow_form HLW.out (by omega)
      cases hlo
      have HRK := Lib.hid hRk
      have HNK := Lib.hid hnk2
      have HC := Lib.hid hC
      have HCK := Lib.hid hCk
      have HAS := Lib.hid hasome
      have i1 : (k : Int) < K := by omega
      clear hRk hnk2 hC hCk hasome hanone
      go_wp2_with fail
      obtain ⟨wo, rfl⟩ : ∃ wo : World, wo = wr := ⟨_, rfl⟩
      go_loopw [4] (fun i wr => ∃ q : Nat, q ≤ nk ∧ i = .int .i64 q ∧ (∃ C, RowsX No B K R n C wr ∧ (∀ j, j < k → C j = mks mkB j (n j)) ∧ (C k).take q = mks mkB k q) ∧ wr.ownsRow B 25 1 (.slice (some ⟨lb, 0, none⟩) K lc) K ((List.range K).map R) ∧ KbW (ofRows K R) B w wr) (fun i _ => nk - (intOf i).toNat)
      case atStart => exact ⟨0, by omega, rfl, ⟨C, HC.out, HCK.out, by simp [mks]⟩, HLW.out, hbel⟩
      case round =>
        clear hbel
        obtain ⟨q, hq, rfl, hrows, hlw, hbel⟩ := hrel
        have HRW2 := Lib.hid hrows
        have HLW2 := Lib.hid hlw
        have c0 : wr.cell? ⟨lb, k, none⟩ = some (.slice a nk c) := by
          rw [World.ownsRow.cellAt hlw k (by omega), range_get R K k hlt, HRK.out]
        clear hrows hlw
        by_cases hltq : q < nk
        · obtain ⟨g, rfl⟩ := HAS.out (by omega)
          have i2 : (q : Int) < nk := by omega
          go_wp2_with fail
          go_still_tail 9, (by kernel_rfl)
          still_call ((markBK_at _ _ k q rfl rfl (by omega) (by omega) _).mono fun _ _ ⟨h, hw⟩ => ⟨h, hw.symm⟩)
          repeat still_step
          refine wpStill_nil ?_
          change wpList _ _ _ _ _ wr.drew
          obtain ⟨C2, hC2, hCk2, hCq2⟩ := HRW2.out
          have hC3 : RowsX No B K R n C2 wr.drew := hC2
          have hl3 : wr.drew.ownsRow B 25 1 (.slice (some ⟨lb, 0, none⟩) K lc) K ((List.range K).map R) := HLW2.out
          have hb3 : KbW (ofRows K R) B w wr.drew := hbel.drew
          generalize wr.drew = w3 at hC3 hl3 hb3 ⊢
          have hrow := hC3 k hlt
          rw [HRK.out, ← HNK.out] at hrow
          have hql : q < (C2 k).length := by have := hrow.1; omega
          have d0 : w3.cell? ⟨g, q, none⟩ = some ((C2 k)[q]) := by
            rw [RowX.cellAt hrow q (by omega), List.getElem?_eq_getElem hql]
          have f0 : w3.frozen? ⟨g, q, none⟩ = false := RowX.frozenAt hrow q (by omega)
          have hst := RowX.stored hrow q (.int .u8 (markBK k q)) (by omega)
          have HST := Lib.hid hst
          have HROW := Lib.hid hrow
          have HC3 := Lib.hid hC3
          have HL3 := Lib.hid hl3
          generalize (C2 k)[q] = old at d0
          clear hst hrow hC3 hl3 hC2 c0
          go_wp2_with fail
          go_roundw
          case rel =>
            have hRb : (R k).ownBlock = some g := by rw [HRK.out]; rfl
            refine ⟨q + 1, by omega, by go_num, ⟨_, RowsX.upd HC3.out HS.out hlt (by rw [hRb]; exact HST.out.2) (by rw [HRK.out, ← HNK.out]; exact HST.out.1), fun j hj => ?_, ?_⟩, ?_, ?_⟩
            · have e : ¬ j = k := by omega
              simp only [e, if_false]
              exact hCk2 j hj
            · simp only [if_true]
              rw [take_set_succ hql, hCq2, mks_succ]; rfl
            · exact World.ownsRow.kept HL3.out HST.out.2 (apartX HNL.out HROW.out)
            · exact hb3.grownRow HST.out.2 (by have := hb3.size; omega) (HROW.out.lt g rfl).1 (Or.inl ⟨k, hlt, hRb⟩)
          case measure => simp [intOf]; omega
        · obtain rfl : q = nk := by omega
          go_wp2_with fail
          go_roundw
          case rel =>
            obtain ⟨C2, hC2, hCk2, hCq2⟩ := HRW2.out
            refine ⟨k + 1, by omega, by go_num, ⟨C2, hC2, fun j hj => ?_⟩, HLW2.out, hbel⟩
            by_cases e : j = k
            · subst e
              rw [← HNK.out, ← hCq2, List.take_of_length_le (by have := (hC2 j hlt).1; rw [← HNK.out] at this; omega)]
            · exact hCk2 j (by omega)
          case measure => simp [intOf]; omega
    · obtain rfl : K = k := by omega
      obtain ⟨wo, rfl⟩ : ∃ wo : World, wo = wr := ⟨_, rfl⟩
      have hP1 : RowsX No B K R n (fun j => mks mkB j (n j)) wo := by
        obtain ⟨C, hC, hCk⟩ := HRW.out
        exact hC.congr hCk
      have hmk := run_make_row' (P := Tryz.prog) 38 25 (.slice none 0 0) 24 Tryz.underlying38 infoRowB rfl .i64 .i64 K (by omega) (by omega)
      obtain ⟨No2, hno2⟩ : ∃ No2 : Nat → Prop, No2 = fun g => No g ∨ g = wo.heap.size := ⟨_, rfl⟩
      have hsz := hbel.size
      have HN2L := Lib.hid (show ∀ g, (Value.slice lo K lc).ownBlock = some g → No2 g from fun g hg => by rw [hno2]; exact Or.inl (HNL.out g hg))
      have HN2G := Lib.hid (show ∀ g, (Value.slice (some ⟨wo.heap.size, 0, none⟩) K K).ownBlock = some g → No2 g from fun g hg => by rw [hno2]; exact Or.inr (by simpa [Value.ownBlock] using hg.symm))
      have HN2F := Lib.hid (show ∀ g, wo.heap.size < g → ¬ No2 g from fun g hg h => by
        rw [hno2] at h
        rcases h with h | h
        · have := HNS.out g h; omega
        · omega)
      have hP1b : RowsX No2 B K R n (fun j => mks mkB j (n j)) wo := fun j hj => RowX.re (hP1 j hj) (fun g hg h => by
        rw [hno2] at h
        rcases h with h | h
        · exact h
        · omega)
      clear hno2
      have hwo : w.heap.size ≤ wo.heap.size := hsz
      have hP2 : RowsX No2 B K R n (fun j => mks mkB j (n j)) (wo.alloc (.cells (madeCells #[.slice none 0 0] K) 25)) := fun j hj => RowX.alloc (hP1b j hj) _
      have hl2 := World.ownsRow.alloc HLW.out (.cells (madeCells #[.slice none 0 0] K) 25)
      have hg2 := World.ownsRow_lit (base := B) (e := 25) (size := 1) wo (madeCells #[.slice none 0 0] K) K (by omega) (by unfold maxLen; omega) (by simp [size_madeCells])
      rw [made_list] at hg2
      have hb2 := hbel.alloc (by omega) (.cells (madeCells #[.slice none 0 0] K) 25)
      have hLG : Sep (.slice lo K lc) (.slice (some ⟨wo.heap.size, 0, none⟩) K K) := fun b hb hb' => by
        have := (HLW.out.lt b hb).2
        simp [Value.ownBlock] at hb'
        omega
      have HP2 := Lib.hid hP2
      have HL2 := Lib.hid hl2
      have HG2 := Lib.hid hg2
      have HLG := Lib.hid hLG
      clear hP1 hP1b hP2 hl2 hg2 hLG HRW HLW
      obtain ⟨i0, hi, hz0, hz1, hz2⟩ := info_parts infoByte
      go_wp2_with fail
      generalize wo.alloc (.cells (madeCells #[.slice none 0 0] K) 25) = w1 at HP2 HL2 HG2 hb2 ⊢
      clear hmk
      go_loopw [6, 7, 8] (fun i _ _ wr => ∃ (k : Nat) (V : Nat → Value), k ≤ K ∧ i = .int .i64 k ∧ RowsX No2 B K R n (fun j => mks mkB j (n j)) wr ∧ (∀ j, j < k → RowX No2 wr B (V j) (n j + 64) (mks mkB j (n j + 64))) ∧ (∀ i j, i < k → j < K → i ≠ j → Sep (V i) (R j)) ∧ (∀ i j, i < k → j < k → i ≠ j → Sep (V i) (V j)) ∧
        wr.ownsRow B 25 1 (.slice lo K lc) K ((List.range K).map R) ∧ wr.ownsRow B 25 1 (.slice (some ⟨wo.heap.size, 0, none⟩) K K) K ((List.range K).map fun j => if j < k then V j else .slice none 0 0) ∧ KbW (ofRows K R) B w wr) (fun i _ _ _ => K - (intOf i).toNat)
      case atStart => exact ⟨0, fun _ => .slice none 0 0, by omega, rfl, HP2.out, fun j hj => by omega, fun i j hi => by omega, fun i j hi => by omega, HL2.out, by simpa using HG2.out, hb2⟩
      case round =>
        clear hbel hsz hb2 HP2 HL2 HG2
        obtain ⟨k, V, hk, rfl, hP, hV, hVR, hVV, hlw, hgw, hbel⟩ := hrel
        have HP := Lib.hid hP
        have HV := Lib.hid hV
        have HVR := Lib.hid hVR
        have HVV := Lib.hid hVV
        have HLW := Lib.hid hlw
        have HGW := Lib.hid hgw
        clear hP hV hVR hVV hlw hgw
        by_cases hlt : k < K
        · obtain ⟨a, c, hRk, hanone, hasome, hac⟩ := row_formX (HP.out k hlt)
          have hnk := HN.out k hlt
          obtain ⟨nk, hnk2⟩ : ∃ nk, nk = n k := ⟨_, rfl⟩
          rw [← hnk2] at hRk hanone hnk hac
          obtain ⟨lb, lcc, hlo⟩ := Go.Joins.ownsRow_form HLW.out (by omega)
          cases hlo
          have c0 : wr.cell? ⟨lb, k, none⟩ = some (.slice a nk c) := by
            rw [World.ownsRow.cellAt HLW.out k (by omega), range_get R K k hlt, hRk]
          have HRK := Lib.hid hRk
          have HNK := Lib.hid hnk2
          have i1 : (k : Int) < K := by omega
          have hsw := hbel.size
          clear hRk hnk2 hasome hanone
          go_wp2_with fail
          obtain ⟨wi, rfl⟩ : ∃ wi : World, wi = wr := ⟨_, rfl⟩
          have hwi : w.heap.size ≤ wi.heap.size := hbel.size
          clear c0
          go_loopw [7, 8] (fun v i wr => ∃ q : Nat, q ≤ 64 ∧ i = .int .i64 q ∧ GrowX No2 B k wi.heap.size (R k) nk q v wr ∧ (∀ j, j < K → j ≠ k → RowX No2 wr B (R j) (n j) (mks mkB j (n j))) ∧ (∀ j, j < k → RowX No2 wr B (V j) (n j + 64) (mks mkB j (n j + 64))) ∧
            wr.ownsRow B 25 1 (.slice (some ⟨lb, 0, none⟩) K lc) K ((List.range K).map R) ∧ wr.ownsRow B 25 1 (.slice (some ⟨wo.heap.size, 0, none⟩) K K) K ((List.range K).map fun j => if j < k then V j else .slice none 0 0) ∧ KbW (ofRows K R) B w wr ∧ wi.heap.size ≤ wr.heap.size) (fun _ i _ => 64 - (intOf i).toNat)
          case atStart => exact ⟨0, by omega, rfl, by rw [HRK.out]; exact growX_start (by have := HP.out k hlt; dsimp only at this; rw [HRK.out, ← HNK.out] at this; exact this), fun j hj _ => HP.out j hj, HV.out, HLW.out, HGW.out, hbel, Nat.le_refl _⟩
          case round =>
            clear hbel hsw
            obtain ⟨q, hq, rfl, hgr, hRo, hVo, hlw, hgw, hbel, hsw⟩ := hrel
            have hsb := hbel.size
            have HGR := Lib.hid hgr
            have HRO := Lib.hid hRo
            have HVO := Lib.hid hVo
            have HLW2 := Lib.hid hlw
            have HGW2 := Lib.hid hgw
            clear hgr hRo hVo hlw hgw
            by_cases hltq : q < 64
            · have c0 : wr.cell? ⟨lb, k, none⟩ = some (.slice a nk c) := by
                rw [World.ownsRow.cellAt HLW2.out k (by omega), range_get R K k hlt, HRK.out]
              obtain ⟨va, vc, hv, hvn, hvs, hvc⟩ := row_formX HGR.out.one
              subst hv
              have i2 : (q : Int) < 64 := by omega
              have HVS := Lib.hid hvs
              have HVN := Lib.hid hvn
              clear hvs hvn
              have hRb : ∀ j, j < K → ∀ b, (R j).ownBlock = some b → b < wi.heap.size := fun j hj b hb => ((HP.out j hj).lt b hb).2
              have hVb : ∀ j, j < k → ∀ b, (V j).ownBlock = some b → b < wi.heap.size := fun j hj b hb => ((HV.out j hj).lt b hb).2
              have HRB := Lib.hid hRb
              have HVB := Lib.hid hVb
              clear hRb hVb
              by_cases hfit : nk + q + 1 ≤ vc
              · obtain ⟨g, rfl⟩ := HVS.out (by omega)
                go_wp2_with (first | (go_at_call 49; (with_reducible refine (markBK_at _ _ k (nk + q) rfl (by omega) (by omega) (by omega) _).mono ?_); rintro e w' ⟨rfl, rfl⟩) | (at_builtin; refine wpList_append_fitsX No2 B _ rfl (.tmp 57) (.tmp 67) 25 rfl 5 i0 Tryz.underlying25 hi hz1 g (nk + q) vc (mks mkB k (nk + q)) rfl (RowX.alloc HGR.out.one _) ⟨wr.heap.size, 0, none⟩ 1 1 [.int .u8 (markBK k (nk + q))] rfl rfl (cell_one_new _ _ _) (by simp [Value.oneCell']) hfit ?_))
                intro w3 hown3 hg3
                have HGA := growX_alloc HGR.out (.cells #[.int .u8 (markBK k (nk + q))] 5)
                have hgr3 := growX_fits HGA (HRB.out k hlt) hown3 hg3
                have hR3 : ∀ j, j < K → j ≠ k → RowX No2 w3 B (R j) (n j) (mks mkB j (n j)) := fun j hj hjk =>
                  RowX.kept ((HRO.out j hj hjk).alloc _) hg3 (growX_other HGA ((HRO.out j hj hjk).alloc _) (HRB.out j hj) (HS.out j k hj hlt hjk))
                have hV3 : ∀ j, j < k → RowX No2 w3 B (V j) (n j + 64) (mks mkB j (n j + 64)) := fun j hj =>
                  RowX.kept ((HVO.out j hj).alloc _) hg3 (growX_other HGA ((HVO.out j hj).alloc _) (HVB.out j hj) (HVR.out j k hj hlt (by omega)))
                have hl3 := World.ownsRow.kept (HLW2.out.alloc (.cells #[.int .u8 (markBK k (nk + q))] 5)) hg3 (apartX HN2L.out HGA.one)
                have hG3 := World.ownsRow.kept (HGW2.out.alloc (.cells #[.int .u8 (markBK k (nk + q))] 5)) hg3 (apartX HN2G.out HGA.one)
                have hb3 : KbW (ofRows K R) B w w3 := (hbel.alloc (by omega) _).grownRow hg3 (by simp; omega) (HGA.one.lt g rfl).1 (HGA.blk.imp (fun e => ⟨k, hlt, e.symm⟩) (fun h => by have := h g rfl; omega))
                have hs3 : wi.heap.size ≤ w3.heap.size := by have := hg3.size; simp at this; omega
                have HA1 := Lib.hid hgr3
                have HA2 := Lib.hid hR3
                have HA3 := Lib.hid hV3
                have HA4 := Lib.hid hl3
                have HA5 := Lib.hid hG3
                clear hown3 hg3 HGA hgr3 hR3 hV3 hl3 hG3 c0
                go_wp2_with fail
                go_roundw
                case rel => exact ⟨q + 1, by omega, by go_num, by have := HA1.out; rwa [show nk + q + 1 = nk + (q + 1) by omega] at this, HA2.out, HA3.out, HA4.out, HA5.out, hb3, hs3⟩
                case measure => simp [intOf]; omega
              · have HLN := Lib.hid (mks_len mkB_len k (nk + q))
                have HCL := Lib.hid (show ∀ b, va = some b → ∀ (j : Nat) u, (mks mkB k (nk + q))[j]? = some u → (wr.alloc (.cells #[.int .u8 (markBK k (nk + q))] 5)).cell? (b.add j) = some u from fun b hb j u hu => by
                  have h1 := HGR.out.one.alloc (.cells #[.int .u8 (markBK k (nk + q))] 5)
                  rw [hb] at h1
                  rcases RowX.forms h1 with ⟨h2, _⟩ | ⟨g2, c2, h2⟩
                  · cases h2
                  · injection h2 with h3 _ _
                    injection h3 with h3
                    subst h3
                    exact RowX.cells h1 j u hu)
                have hcl := HCL.out
                have hln := HLN.out
                have hvn := HVN.out
                go_wp2_with (first | (go_at_call 49; (with_reducible refine (markBK_at _ _ k (nk + q) rfl (by omega) (by omega) (by omega) _).mono ?_); rintro e w' ⟨rfl, rfl⟩) | (at_builtin; refine wpList_append_grows _ rfl (.tmp 57) (.tmp 67) 25 rfl 5 i0 (.int .u8 0) 1 1 Tryz.underlying25 hi hz0 hz1 hz2 rfl (by decide) va (nk + q) vc (mks mkB k (nk + q)) rfl hvn hln hcl ⟨wr.heap.size, 0, none⟩ 1 1 [.int .u8 (markBK k (nk + q))] rfl rfl (cell_one_new _ _ _) (by simp [Value.oneCell']) (by omega) (by unfold maxLen; omega) (by omega) ?_))
                intro v3 w3 hown3 hg3
                have HGA := growX_alloc HGR.out (.cells #[.int .u8 (markBK k (nk + q))] 5)
                have hgr3 := growX_new HGA (by simp; omega) (by simp; omega) (fun g hg => HN2F.out g (by have := (HGW2.out.lt wo.heap.size rfl).2; simp at hg; omega)) (by rw [World.size_alloc]; exact hown3) hg3
                have hR3 : ∀ j, j < K → j ≠ k → RowX No2 w3 B (R j) (n j) (mks mkB j (n j)) := fun j hj hjk =>
                  RowX.kept ((HRO.out j hj hjk).alloc _) hg3 (by cases (R j).ownBlock <;> simp)
                have hV3 : ∀ j, j < k → RowX No2 w3 B (V j) (n j + 64) (mks mkB j (n j + 64)) := fun j hj =>
                  RowX.kept ((HVO.out j hj).alloc _) hg3 (by cases (V j).ownBlock <;> simp)
                have hl3 := World.ownsRow.kept (HLW2.out.alloc (.cells #[.int .u8 (markBK k (nk + q))] 5)) hg3 (by simp [Value.ownBlock])
                have hG3 := World.ownsRow.kept (HGW2.out.alloc (.cells #[.int .u8 (markBK k (nk + q))] 5)) hg3 (by simp [Value.ownBlock])
                have hb3 : KbW (ofRows K R) B w w3 := (hbel.alloc (by omega) _).grownNone hg3 (by simp; omega)
                have hs3 : wi.heap.size ≤ w3.heap.size := by have := hg3.size; simp at this; omega
                have HA1 := Lib.hid hgr3
                have HA2 := Lib.hid hR3
                have HA3 := Lib.hid hV3
                have HA4 := Lib.hid hl3
                have HA5 := Lib.hid hG3
                clear hown3 hg3 HGA hgr3 hR3 hV3 hl3 hG3 c0 hcl hln hvn
                go_wp2_with fail
                go_roundw
                case rel => exact ⟨q + 1, by omega, by go_num, HA1.out, HA2.out, HA3.out, HA4.out, HA5.out, hb3, hs3⟩
                case measure => simp [intOf]; omega
            · obtain rfl : 64 = q := by omega
              obtain ⟨va, vc, hv, _, _, _⟩ := row_formX HGR.out.one
              subst hv
              have c1 : wr.cell? ⟨wo.heap.size, k, none⟩ = some (.slice none 0 0) := by
                rw [World.ownsRow.cellAt HGW2.out k (by omega), range_get _ K k hlt]
                simp
              have f1 : wr.frozen? ⟨wo.heap.size, k, none⟩ = false := World.ownsRow.frozenAt HGW2.out _
              have hst := World.ownsRow.stored HGW2.out k (.slice va (nk + 64) vc)
              rw [range_set] at hst
              have HST := Lib.hid hst
              clear hst
              go_wp2_with fail
              go_roundw
              case rel =>
                have hg := HST.out.2
                have hGB : B ≤ wo.heap.size := (HGW2.out.lt _ rfl).1
                refine ⟨k + 1, fun j => if j = k then .slice va (nk + 64) vc else V j, by omega, by go_num, fun j hj => ?_, fun j hj => ?_, fun i j hi hj hij => ?_, fun i j hi hj hij => ?_, World.ownsRow.kept HLW2.out hg HLG.out.ne, ?_, hbel.grownNew hg (by have := hbel.size; omega) hwo hGB⟩
                · by_cases e : j = k
                  · subst e
                    have h1 := RowX.kept HGR.out.two hg (apartX' HN2G.out HGR.out.two)
                    rw [HNK.out] at h1 ⊢
                    exact h1
                  · exact RowX.kept (HRO.out j hj e) hg (apartX' HN2G.out (HRO.out j hj e))
                · by_cases e : j = k
                  · subst e
                    simp only [if_true]
                    have h1 := RowX.kept HGR.out.one hg (apartX' HN2G.out HGR.out.one)
                    rw [← HNK.out]
                    exact h1
                  · simp only [e, if_false]
                    exact RowX.kept (HVO.out j (by omega)) hg (apartX' HN2G.out (HVO.out j (by omega)))
                · by_cases e : i = k
                  · subst e
                    simp only [if_true]
                    intro b hb hb'
                    rcases HGR.out.blk with h1 | h1
                    · exact HS.out i j hlt hj hij b (h1 ▸ hb) hb'
                    · have := h1 b hb
                      have := ((HP.out j hj).lt b hb').2
                      omega
                  · simp only [e, if_false]
                    exact HVR.out i j (by omega) hj hij
                · by_cases e : i = k
                  · have e2 : ¬ j = k := fun h => hij (e.trans h.symm)
                    subst e
                    simp only [if_true, e2, if_false]
                    intro b hb hb'
                    rcases HGR.out.blk with h1 | h1
                    · exact HVR.out j i (by omega) hlt (Ne.symm hij) b hb' (h1 ▸ hb)
                    · have := h1 b hb
                      have := ((HV.out j (by omega)).lt b hb').2
                      omega
                  · by_cases e2 : j = k
                    · subst e2
                      simp only [if_true, e, if_false]
                      intro b hb hb'
                      rcases HGR.out.blk with h1 | h1
                      · exact HVR.out i j (by omega) hlt hij b hb (h1 ▸ hb')
                      · have := h1 b hb'
                        have := ((HV.out i (by omega)).lt b hb).2
                        omega
                    · simp only [e, e2, if_false]
                      exact HVV.out i j (by omega) (by omega) hij
                · have h1 := HST.out.1
                  have e : (fun j => if j = k then (Value.slice va (nk + 64) vc) else if j < k then V j else .slice none 0 0) = fun j => if j < k + 1 then (if j = k then (Value.slice va (nk + 64) vc) else V j) else .slice none 0 0 := by
                    funext j
                    by_cases e1 : j = k
                    · subst e1; simp
                    · by_cases e2 : j < k
                      · simp [e1, e2, show j < k + 1 by omega]
                      · simp [e1, e2, show ¬ j < k + 1 by omega]
                  rw [e] at h1
                  exact h1
              case measure => simp [intOf]; omega
        · obtain rfl : K = k := by omega
          obtain ⟨wb, rfl⟩ : ∃ wb : World, wb = wr := ⟨_, rfl⟩
          have HGW2 := Lib.hid (show wb.ownsRow B 25 1 (.slice (some ⟨wo.heap.size, 0, none⟩) K K) K ((List.range K).map V) by
            have h1 := HGW.out
            have e : ((List.range K).map fun j => if j < K then V j else .slice none 0 0) = (List.range K).map V := List.map_congr_left fun j hj => by simp [List.mem_range.1 hj]
            rwa [e] at h1)
          clear HGW
          have hsb := hbel.size
          have hgl := (HGW2.out.lt _ rfl).2
          go_wp2_with fail
          go_loopw [9, 10] (fun i _ wr => ∃ k : Nat, k ≤ K ∧ i = .int .i64 k ∧ Below wb.heap.size wb wr) (fun i _ _ => K - (intOf i).toNat)
          case atStart => exact ⟨0, by omega, rfl, Below.refl _ _⟩
          case round =>
            obtain ⟨k, hk, rfl, hb5⟩ := hrel
            by_cases hlt : k < K
            · obtain ⟨a, c, hRk, _, hasome, hac⟩ := row_formX (HP.out k hlt)
              obtain ⟨va, vc, hVk, _, hvsome, hvc⟩ := row_formX (HV.out k hlt)
              have hnk := HN.out k hlt
              have hVr := HV.out k hlt
              have hRr := HP.out k hlt
              obtain ⟨nk, hnk2⟩ : ∃ nk, nk = n k := ⟨_, rfl⟩
              rw [hRk] at hRr
              rw [hVk] at hVr
              simp only [← hnk2] at hRk hVk hnk hac hvc hVr hRr
              obtain ⟨lb, lcc, hlo⟩ := Go.Joins.ownsRow_form HLW.out (by omega)
              cases hlo
              have cl : wb.cell? ⟨lb, k, none⟩ = some (.slice a nk c) := by
                rw [World.ownsRow.cellAt HLW.out k (by omega), range_get R K k hlt, hRk]
              have cg : wb.cell? ⟨wo.heap.size, k, none⟩ = some (.slice va (nk + 64) vc) := by
                rw [World.ownsRow.cellAt HGW2.out k (by omega), range_get V K k hlt, hVk]
              have hll := (HLW.out.lt lb rfl).2
              have HVR2 := Lib.hid hVr
              have HRR2 := Lib.hid hRr
              have HVS := Lib.hid hvsome
              have HAS := Lib.hid hasome
              have i1 : (k : Int) < K := by omega
              clear hRk hVk hnk2 hVr hRr hvsome hasome
              go_wp2_with fail
              go_loopw [10] (fun i wr => ∃ q : Nat, q ≤ nk + 64 ∧ i = .int .i64 q ∧ Below wb.heap.size wb wr) (fun i _ => nk + 64 - (intOf i).toNat)
              case atStart => exact ⟨0, by omega, rfl, hb5⟩
              case round =>
                clear hb5
                obtain ⟨q, hq, rfl, hb5⟩ := hrel
                have cg5 : wr.cell? ⟨wo.heap.size, k, none⟩ = some (.slice va (nk + 64) vc) := (hb5.cell (p := ⟨wo.heap.size, k, none⟩) hgl).trans cg
                by_cases hltq : q < nk + 64
                · obtain ⟨vg, rfl⟩ := HVS.out (by omega)
                  have hvg := (HVR2.out.lt vg rfl).2
                  have dv : wb.cell? ⟨vg, q, none⟩ = some (.int .u8 (markBK k q)) := by
                    rw [RowX.cellAt HVR2.out q (by omega)]
                    have := mks_get mkB_len k (nk + 64) q 0 hltq (by decide)
                    simpa [mkB] using this
                  have k0 : ∀ x : Calm wb.heap.size wb, x.1.cell? ⟨wo.heap.size, k, none⟩ = some (.slice (some ⟨vg, 0, none⟩) (nk + 64) vc) := fun x => x.cell cg hgl
                  have k1 : ∀ x : Calm wb.heap.size wb, x.1.cell? ⟨vg, q, none⟩ = some (.int .u8 (markBK k q)) := fun x => x.cell dv hvg
                  have k2 : ∀ x : Calm wb.heap.size wb, x.1.cell? ⟨lb, k, none⟩ = some (.slice a nk c) := fun x => x.cell cl hll
                  have i2 : (q : Int) < (nk : Int) + 64 := by omega
                  have i3 : (q : Int) < ((nk + 64 : Nat) : Int) := by omega
                  by_cases hlq : q < nk
                  · obtain ⟨rg, rfl⟩ := HAS.out (by omega)
                    have hrg := (HRR2.out.lt rg rfl).2
                    have dr : wb.cell? ⟨rg, q, none⟩ = some (.int .u8 (markBK k q)) := by
                      rw [RowX.cellAt HRR2.out q (by omega)]
                      have := mks_get mkB_len k nk q 0 hlq (by decide)
                      simpa [mkB] using this
                    have k3 : ∀ x : Calm wb.heap.size wb, x.1.cell? ⟨rg, q, none⟩ = some (.int .u8 (markBK k q)) := fun x => x.cell dr hrg
                    have i4 : (q : Int) < nk := by omega
                    have d1 : decide ((q : Int) < nk) = true := by simpa using hlq
                    have d2 : decide (q < nk) = true := by simpa using hlq
                    clear dv dr cl cg
                    go_wp2_with fail
                    clear cg5
                    refine wp_region_calm (B := wb.heap.size) (W0 := wb) hb5 (by kernel_rfl) (by kernel_rfl) ?_
                    repeat (go_big_quiet_step ((go_at_call 49; exact Calm.same (markBK_at _ _ k q rfl rfl (by omega) (by omega) _))))
                    refine wpQuiet_nil ?_
                    intro w6 hb6
                    clear k0 k1 k2 k3
                    go_wp2_with fail
                    go_roundw
                    case rel => exact ⟨q + 1, by omega, by go_num, hb6⟩
                    case measure => simp [intOf]; omega
                  · have i4 : ¬ (q : Int) < nk := by omega
                    have d1 : decide ((q : Int) < nk) = false := by simp; omega
                    have d2 : decide (q < nk) = false := by simpa using hlq
                    clear dv cl cg
                    go_wp2_with fail
                    clear cg5
                    refine wp_region_calm (B := wb.heap.size) (W0 := wb) hb5 (by kernel_rfl) (by kernel_rfl) ?_
                    repeat (go_big_quiet_step ((go_at_call 49; exact Calm.same (markBK_at _ _ k q rfl rfl (by omega) (by omega) _))))
                    refine wpQuiet_nil ?_
                    intro w6 hb6
                    clear k0 k1 k2
                    go_wp2_with fail
                    go_roundw
                    case rel => exact ⟨q + 1, by omega, by go_num, hb6⟩
                    case measure => simp [intOf]; omega
                · obtain rfl : q = nk + 64 := by omega
                  go_wp2_with fail
                  go_roundw
                  case rel => exact ⟨k + 1, by omega, by go_num, hb5⟩
                  case measure => simp [intOf]; omega
            · obtain rfl : K = k := by omega
              have hV2 : ∀ j, j < K → ∃ ys : List Value, RowX No2 wr B (V j) (n j + 64) (mks mkB j (n j) ++ ys) := fun j hj => by
                have h1 := RowX.below (HV.out j hj) hb5 (Nat.le_refl _)
                refine ⟨(mks mkB j (n j + 64)).drop (n j * 1), ?_⟩
                rw [← mks_take mkB_len j (n j) 64, List.take_append_drop]
                exact h1
              have hP2 : RowsX No2 B K R n (fun j => mks mkB j (n j)) wr := fun j hj => RowX.below (HP.out j hj) hb5 (Nat.le_refl _)
              have hl2 := own_below HLW.out hb5 (Nat.le_refl _)
              have hg2 := own_below HGW2.out hb5 (Nat.le_refl _)
              have hbw : KbW (ofRows K R) B w wr := hbel.trans_below hb5 (by omega)
              have HV2 := Lib.hid hV2
              have HP2 := Lib.hid hP2
              have HL2 := Lib.hid hl2
              have HG2 := Lib.hid hg2
              have hmk : ∀ w, (Instr.makeSlice 25 (.int .i64 64) (.int .i64 64)).run Tryz.prog w = .ok (.slice (some ⟨w.heap.size, 0, none⟩) 64 64) (w.alloc (.cells (madeCells #[.int .u8 0] 64) 5)) := fun w => run_make_row' (P := Tryz.prog) 25 5 (.int .u8 0) 1 Tryz.underlying25 infoByte rfl .i64 .i64 64 (by omega) (by omega) w
              clear hV2 hP2 hl2 hg2 hb5 HV HP HLW HGW2
              go_wp2_with fail
              go_loopw [11, 12, 13] (fun i _ _ wr => ∃ (k : Nat) (V : Nat → Value), k ≤ K ∧ i = .int .i64 k ∧ RowsX No2 B K R n (fun j => mks mkB j (n j)) wr ∧ (∀ j, j < K → ∃ ys : List Value, RowX No2 wr B (V j) (n j + 64) (mks mkB j (n j) ++ ys)) ∧ (∀ i j, i < K → j < K → i ≠ j → Sep (V i) (R j)) ∧ (∀ i j, i < K → j < K → i ≠ j → Sep (V i) (V j)) ∧
                wr.ownsRow B 25 1 (.slice lo K lc) K ((List.range K).map R) ∧ wr.ownsRow B 25 1 (.slice (some ⟨wo.heap.size, 0, none⟩) K K) K ((List.range K).map V) ∧ KbW (ofRows K R) B w wr) (fun i _ _ _ => K - (intOf i).toNat)
              case atStart => exact ⟨0, V, by omega, rfl, HP2.out, HV2.out, HVR.out, HVV.out, HL2.out, HG2.out, hbw⟩
              case round =>
                clear hbel hsb hbw HV2 HP2 HL2 HG2 HVR HVV hgl
                obtain ⟨k, V, hk, rfl, hP, hV, hVR, hVV, hlw, hgw, hbel⟩ := hrel
                have HP := Lib.hid hP
                have HV := Lib.hid hV
                have HVR := Lib.hid hVR
                have HVV := Lib.hid hVV
                have HLW := Lib.hid hlw
                have HGW := Lib.hid hgw
                clear hP hV hVR hVV hlw hgw
                have hsb := hbel.size
                by_cases hlt : k < K
                · obtain ⟨wi, rfl⟩ : ∃ wi : World, wi = wr := ⟨_, rfl⟩
                  have i1 : (k : Int) < K := by omega
                  have hm0 := World.ownsRow_lit (base := wi.heap.size) (e := 5) (size := 1) wi (madeCells #[.int .u8 0] 64) 64 (Nat.le_refl _) (by unfold maxLen; omega) (by simp [size_madeCells])
                  rw [made_list] at hm0
                  have hm1 : (wi.alloc (.cells (madeCells #[.int .u8 0] 64) 5)).ownsRow wi.heap.size 5 1 (.slice (some ⟨wi.heap.size, 0, none⟩) 64 64) 64 (((List.range 64).map fun _ => (0 : Int)).map bv) := by
                    rw [List.map_map]; exact hm0
                  have hba : Below wi.heap.size wi (wi.alloc (.cells (madeCells #[.int .u8 0] 64) 5)) := (Below.refl _ _).alloc (Nat.le_refl _) _
                  have HM1 := Lib.hid hm1
                  clear hm0 hm1
                  go_wp2_with fail
                  generalize wi.alloc (.cells (madeCells #[.int .u8 0] 64) 5) = w2 at HM1 hba ⊢
                  go_loopw [13] (fun i wr => ∃ (q : Nat) (zs : List Int), q ≤ 64 ∧ i = .int .i64 q ∧ zs.length = 64 ∧ wr.ownsRow wi.heap.size 5 1 (.slice (some ⟨wi.heap.size, 0, none⟩) 64 64) 64 (zs.map bv) ∧ Below wi.heap.size wi wr) (fun i _ => 64 - (intOf i).toNat)
                  case atStart => exact ⟨0, (List.range 64).map fun _ => (0 : Int), by omega, rfl, by simp, HM1.out, hba⟩
                  case round =>
                    clear hba HM1
                    obtain ⟨q, zs, hq, rfl, hzl, hmo, hbi⟩ := hrel
                    have HMO := Lib.hid hmo
                    have HZL := Lib.hid hzl
                    clear hmo hzl
                    by_cases hltq : q < 64
                    · have i2 : (q : Int) < 64 := by omega
                      have hzl := HZL.out
                      have d0 : wr.cell? ⟨wi.heap.size, q, none⟩ = some (.int .u8 (zs[q]'(by omega))) := by
                        rw [World.ownsRow.cellAt HMO.out q (by omega), List.getElem?_map, List.getElem?_eq_getElem (by omega)]
                        rfl
                      have f0 : wr.frozen? ⟨wi.heap.size, q, none⟩ = false := World.ownsRow.frozenAt HMO.out _
                      have hst := World.ownsRow.stored HMO.out q (.int .u8 (markBK (k + K) q))
                      have HST := Lib.hid hst
                      generalize (zs[q]'(by omega)) = old at d0
                      clear hst hzl
                      go_wp2_with (go_at_call 49; (with_reducible refine (markBK_at _ _ (k + K) q (by omega) rfl (by omega) (by omega) _).mono ?_); rintro e w' ⟨rfl, rfl⟩)
                      go_roundw
                      case rel => exact ⟨q + 1, zs.set q (markBK (k + K) q), by omega, by go_num, by rw [List.length_set]; exact HZL.out, by rw [List.map_set]; exact HST.out.1, hbi.setCell (p := ⟨wi.heap.size, q, none⟩) (Nat.le_refl _) _⟩
                      case measure => simp [intOf]; omega
                    · obtain rfl : 64 = q := by omega
                      have hP6 : RowsX No2 B K R n (fun j => mks mkB j (n j)) wr := fun j hj => RowX.below (HP.out j hj) hbi (Nat.le_refl _)
                      have hV6 : ∀ j, j < K → ∃ ys : List Value, RowX No2 wr B (V j) (n j + 64) (mks mkB j (n j) ++ ys) := fun j hj => by
                        obtain ⟨ys, hys⟩ := HV.out j hj
                        exact ⟨ys, RowX.below hys hbi (Nat.le_refl _)⟩
                      have hl6 := own_below HLW.out hbi (Nat.le_refl _)
                      have hg6 := own_below HGW.out hbi (Nat.le_refl _)
                      have hb6 : KbW (ofRows K R) B w wr := hbel.trans_below hbi (by omega)
                      have hs6 := hb6.size
                      obtain ⟨a, c, hRk, hanone, hasome, hac⟩ := row_formX (hP6 k hlt)
                      have hRr := hP6 k hlt
                      obtain ⟨ys0, hys0⟩ := hV6 k hlt
                      obtain ⟨va, vc, hVk, _, _, _⟩ := row_formX hys0
                      have hnk := HN.out k hlt
                      obtain ⟨nk, hnk2⟩ : ∃ nk, nk = n k := ⟨_, rfl⟩
                      rw [hRk] at hRr
                      simp only [← hnk2] at hRk hVk hnk hac hRr hanone
                      obtain ⟨lb, lcc, hlo⟩ := Go.Joins.ownsRow_form hl6 (by omega)
                      cases hlo
                      have c0 : wr.cell? ⟨lb, k, none⟩ = some (.slice a nk c) := by
                        rw [World.ownsRow.cellAt hl6 k (by omega), range_get R K k hlt, hRk]
                      have hnews : ∀ (j : Nat) u, (zs.map bv)[j]? = some u → wr.cell? ((⟨wi.heap.size, 0, none⟩ : Addr).add j) = some u := fun j u hu => World.ownsRow.cells HMO.out rfl j u hu
                      have hzn : (zs.map bv).length = 64 * 1 := by rw [List.length_map, HZL.out]
                      have HRK := Lib.hid hRk
                      have HVK := Lib.hid hVk
                      have HNK := Lib.hid hnk2
                      have HP6 := Lib.hid hP6
                      have HV6 := Lib.hid hV6
                      have HL6 := Lib.hid hl6
                      have HG6 := Lib.hid hg6
                      have HRR := Lib.hid hRr
                      have HAS := Lib.hid hasome
                      have HAN := Lib.hid hanone
                      have HNW := Lib.hid hnews
                      have HZN := Lib.hid hzn
                      clear hRk hVk hnk2 hP6 hV6 hl6 hg6 hRr hasome hanone hys0 hnews hzn
                      have hnews := HNW.out
                      have hzn := HZN.out
                      by_cases hfit : nk + 64 ≤ c
                      rotate_left
                      focus
                        have hcl : ∀ b, a = some b → ∀ (j : Nat) u, (mks mkB k nk)[j]? = some u → wr.cell? (b.add j) = some u := fun b hb j u hu => by
                          have h1 := HRR.out
                          rw [hb, HNK.out] at h1
                          rcases RowX.forms h1 with ⟨h2, _⟩ | ⟨g2, c2, h2⟩
                          · cases h2
                          · injection h2 with h3 _ _
                            injection h3 with h3
                            subst h3
                            exact RowX.cells h1 j u (by rw [← HNK.out]; exact hu)
                        have hln := mks_len mkB_len k nk
                        have hvn := HAN.out
                        have HCL := Lib.hid hcl
                        have HLN := Lib.hid hln
                        go_wp2_with (at_builtin; refine wpList_append_grows _ rfl (.tmp 148) (.tmp 149) 25 rfl 5 i0 (.int .u8 0) 1 1 Tryz.underlying25 hi hz0 hz1 hz2 rfl (by decide) a nk c (mks mkB k nk) rfl hvn hln hcl ⟨wi.heap.size, 0, none⟩ 64 64 (zs.map bv) rfl hzn hnews (bytes_oneCell _) (by omega) (by unfold maxLen; omega) (by omega) ?_)
                        intro v3 w3 hown3 hg3
                        have HF1 := Lib.hid (show RowsX No2 B K R n (fun j => mks mkB j (n j)) w3 from fun j hj => RowX.kept (HP6.out j hj) hg3 (by cases (R j).ownBlock <;> simp))
                        have HF2 := Lib.hid (show ∀ j, j < K → j ≠ k → ∃ ys : List Value, RowX No2 w3 B (V j) (n j + 64) (mks mkB j (n j) ++ ys) from fun j hj _ => by
                          obtain ⟨ys, hys⟩ := HV6.out j hj
                          exact ⟨ys, RowX.kept hys hg3 (by cases (V j).ownBlock <;> simp)⟩)
                        have HF3 := Lib.hid (RowX.of_own (B := B) hown3 (by omega) (fun g hg => HN2F.out g (by have := (HG6.out.lt wo.heap.size rfl).2; omega)))
                        have HF4 := Lib.hid (show v3.ownBlock = (R k).ownBlock ∨ ∀ b, v3.ownBlock = some b → wr.heap.size ≤ b from Or.inr fun b hb => (hown3.lt b hb).1)
                        have HF5 := Lib.hid (World.ownsRow.kept HL6.out hg3 (by simp [Value.ownBlock]))
                        have HF6 := Lib.hid (World.ownsRow.kept HG6.out hg3 (by simp [Value.ownBlock]))
                        have HF7 := Lib.hid (show KbW (ofRows K R) B w w3 from hb6.grownNone hg3 (by omega))
                        clear hown3 hg3 hcl hln hvn HCL HLN hfit c0 hnews hzn
                      rotate_left
                      focus
                        obtain ⟨rg, rfl⟩ := HAS.out (by omega)
                        have hRr := HRR.out
                        go_wp2_with (at_builtin; refine wpList_append_fitsX No2 B _ rfl (.tmp 148) (.tmp 149) 25 rfl 5 i0 Tryz.underlying25 hi hz1 rg nk c (mks mkB k nk) rfl hRr ⟨wi.heap.size, 0, none⟩ 64 64 (zs.map bv) rfl hzn hnews (bytes_oneCell _) hfit ?_)
                        intro w3 hown3 hg3
                        have hRb : (R k).ownBlock = some rg := by rw [HRK.out]; rfl
                        have HF1 := Lib.hid (show RowsX No2 B K R n (fun j => mks mkB j (n j)) w3 from fun j hj => by
                          by_cases e : j = k
                          · subst e
                            have h3 := RowX.pre hown3 (show nk ≤ nk + 64 by omega)
                            rw [List.take_left' (mks_len mkB_len j nk)] at h3
                            show RowX No2 w3 B (R j) (n j) (mks mkB j (n j))
                            rw [HRK.out, ← HNK.out]
                            exact h3
                          · exact RowX.kept (HP6.out j hj) hg3 (by rw [← hRb]; exact (HS.out j k hj hlt e).ne))
                        have HF2 := Lib.hid (show ∀ j, j < K → j ≠ k → ∃ ys : List Value, RowX No2 w3 B (V j) (n j + 64) (mks mkB j (n j) ++ ys) from fun j hj e => by
                          obtain ⟨ys, hys⟩ := HV6.out j hj
                          exact ⟨ys, RowX.kept hys hg3 (by rw [← hRb]; exact (HVR.out j k hj hlt e).ne)⟩)
                        have HF3 := Lib.hid hown3
                        have HF4 := Lib.hid (show (Value.slice (some ⟨rg, 0, none⟩) (nk + 64) c).ownBlock = (R k).ownBlock ∨ ∀ b, (Value.slice (some ⟨rg, 0, none⟩) (nk + 64) c).ownBlock = some b → wr.heap.size ≤ b from Or.inl hRb.symm)
                        have HF5 := Lib.hid (World.ownsRow.kept HL6.out hg3 (apartX HN2L.out hRr))
                        have HF6 := Lib.hid (World.ownsRow.kept HG6.out hg3 (apartX HN2G.out hRr))
                        have HF7 := Lib.hid (show KbW (ofRows K R) B w w3 from hb6.grownRow hg3 (by omega) (hRr.lt rg rfl).1 (Or.inl ⟨k, hlt, hRb⟩))
                        clear hown3 hg3 hfit c0 hnews hzn hRr hRb
                        generalize (Value.slice (some ⟨rg, 0, none⟩) (nk + 64) c) = v3 at HF3 HF4 ⊢
                      all_goals
                        obtain ⟨va3, vc3, hv3, _, _, _⟩ := row_formX HF3.out
                        subst hv3
                        have e1 : w3.cell? ⟨wo.heap.size, k, none⟩ = some (.slice va (nk + 64) vc) := by
                          rw [World.ownsRow.cellAt HF6.out k (by omega), range_get V K k hlt, HVK.out]
                        have f1 : w3.frozen? ⟨wo.heap.size, k, none⟩ = false := World.ownsRow.frozenAt HF6.out _
                        have hst := World.ownsRow.stored HF6.out k (.slice va3 (nk + 64) vc3)
                        rw [range_set] at hst
                        have HST := Lib.hid hst
                        clear hst
                        go_wp2_with fail
                        go_roundw
                        case rel =>
                          have hg := HST.out.2
                          have hGB : B ≤ wo.heap.size := (HF6.out.lt _ rfl).1
                          refine ⟨k + 1, fun j => if j = k then .slice va3 (nk + 64) vc3 else V j, by omega, by go_num, fun j hj => ?_, fun j hj => ?_, fun i j hi hj hij => ?_, fun i j hi hj hij => ?_, World.ownsRow.kept HF5.out hg HLG.out.ne, HST.out.1, HF7.out.grownNew hg (by have := HF7.out.size; omega) hwo hGB⟩
                          · exact RowX.kept (HF1.out j hj) hg (apartX' HN2G.out (HF1.out j hj))
                          · by_cases e : j = k
                            · subst e
                              simp only [if_true]
                              refine ⟨zs.map bv, ?_⟩
                              rw [← HNK.out]
                              exact RowX.kept HF3.out hg (apartX' HN2G.out HF3.out)
                            · simp only [e, if_false]
                              obtain ⟨ys, hys⟩ := HF2.out j hj e
                              exact ⟨ys, RowX.kept hys hg (apartX' HN2G.out hys)⟩
                          · by_cases e : i = k
                            · subst e
                              simp only [if_true]
                              intro b hb hb'
                              rcases HF4.out with h1 | h1
                              · exact HS.out i j hlt hj hij b (h1 ▸ hb) hb'
                              · have := h1 b hb
                                have := ((HP6.out j hj).lt b hb').2
                                omega
                            · simp only [e, if_false]
                              exact HVR.out i j hi hj hij
                          · by_cases e : i = k
                            · have e2 : ¬ j = k := fun h => hij (e.trans h.symm)
                              subst e
                              simp only [if_true, e2, if_false]
                              intro b hb hb'
                              rcases HF4.out with h1 | h1
                              · exact HVR.out j i hj hlt (Ne.symm hij) b hb' (h1 ▸ hb)
                              · have := h1 b hb
                                obtain ⟨ys, hys⟩ := HV6.out j hj
                                have := (hys.lt b hb').2
                                omega
                            · by_cases e2 : j = k
                              · subst e2
                                simp only [if_true, e, if_false]
                                intro b hb hb'
                                rcases HF4.out with h1 | h1
                                · exact HVR.out i j hi hlt hij b hb (h1 ▸ hb')
                                · have := h1 b hb'
                                  obtain ⟨ys, hys⟩ := HV6.out i hi
                                  have := (hys.lt b hb).2
                                  omega
                              · simp only [e, e2, if_false]
                                exact HVV.out i j hi hj hij
                        case measure => simp [intOf]; omega
                · obtain rfl : K = k := by omega
                  obtain ⟨wc, rfl⟩ : ∃ wc : World, wc = wr := ⟨_, rfl⟩
                  have hgl := (HGW.out.lt _ rfl).2
                  clear hmk
                  go_wp2_with fail
                  go_loopw [14, 15] (fun i _ wr => ∃ k : Nat, k ≤ K ∧ i = .int .i64 k ∧ Below wc.heap.size wc wr) (fun i _ _ => K - (intOf i).toNat)
                  case atStart => exact ⟨0, by omega, rfl, Below.refl _ _⟩
                  case round =>
                    obtain ⟨k, hk, rfl, hb5⟩ := hrel
                    by_cases hlt : k < K
                    · obtain ⟨a, c, hRk, _, hasome, hac⟩ := row_formX (HP.out k hlt)
                      obtain ⟨ys, hVr⟩ := HV.out k hlt
                      obtain ⟨va, vc, hVk, _, hvsome, hvc⟩ := row_formX hVr
                      have hnk := HN.out k hlt
                      have hRr := HP.out k hlt
                      obtain ⟨nk, hnk2⟩ : ∃ nk, nk = n k := ⟨_, rfl⟩
                      rw [hRk] at hRr
                      rw [hVk] at hVr
                      simp only [← hnk2] at hRk hVk hnk hac hvc hVr hRr
                      obtain ⟨lb, lcc, hlo⟩ := Go.Joins.ownsRow_form HLW.out (by omega)
                      cases hlo
                      have cl : wc.cell? ⟨lb, k, none⟩ = some (.slice a nk c) := by
                        rw [World.ownsRow.cellAt HLW.out k (by omega), range_get R K k hlt, hRk]
                      have cg : wc.cell? ⟨wo.heap.size, k, none⟩ = some (.slice va (nk + 64) vc) := by
                        rw [World.ownsRow.cellAt HGW.out k (by omega), range_get V K k hlt, hVk]
                      have hll := (HLW.out.lt lb rfl).2
                      have HVR2 := Lib.hid hVr
                      have HRR2 := Lib.hid hRr
                      have HVS := Lib.hid hvsome
                      have HAS := Lib.hid hasome
                      have i1 : (k : Int) < K := by omega
                      clear hRk hVk hnk2 hVr hRr hvsome hasome
                      go_wp2_with fail
                      go_loopw [15] (fun i wr => ∃ q : Nat, q ≤ nk ∧ i = .int .i64 q ∧ Below wc.heap.size wc wr) (fun i _ => nk - (intOf i).toNat)
                      case atStart => exact ⟨0, by omega, rfl, hb5⟩
                      case round =>
                        clear hb5
                        obtain ⟨q, hq, rfl, hb5⟩ := hrel
                        have cl5 : wr.cell? ⟨lb, k, none⟩ = some (.slice a nk c) := (hb5.cell (p := ⟨lb, k, none⟩) hll).trans cl
                        by_cases hltq : q < nk
                        · obtain ⟨vg, rfl⟩ := HVS.out (by omega)
                          obtain ⟨rg, rfl⟩ := HAS.out (by omega)
                          have hvg := (HVR2.out.lt vg rfl).2
                          have hrg := (HRR2.out.lt rg rfl).2
                          have hm := mks_get mkB_len k nk q 0 hltq (by decide)
                          have hml := mks_len mkB_len k nk
                          have dv : wc.cell? ⟨vg, q, none⟩ = some (.int .u8 (markBK k q)) := by
                            rw [RowX.cellAt HVR2.out q (by omega), List.getElem?_append_left (by omega)]
                            simpa [mkB] using hm
                          have dr : wc.cell? ⟨rg, q, none⟩ = some (.int .u8 (markBK k q)) := by
                            rw [RowX.cellAt HRR2.out q (by omega)]
                            simpa [mkB] using hm
                          have k0 : ∀ x : Calm wc.heap.size wc, x.1.cell? ⟨wo.heap.size, k, none⟩ = some (.slice (some ⟨vg, 0, none⟩) (nk + 64) vc) := fun x => x.cell cg hgl
                          have k1 : ∀ x : Calm wc.heap.size wc, x.1.cell? ⟨vg, q, none⟩ = some (.int .u8 (markBK k q)) := fun x => x.cell dv hvg
                          have k2 : ∀ x : Calm wc.heap.size wc, x.1.cell? ⟨lb, k, none⟩ = some (.slice (some ⟨rg, 0, none⟩) nk c) := fun x => x.cell cl hll
                          have k3 : ∀ x : Calm wc.heap.size wc, x.1.cell? ⟨rg, q, none⟩ = some (.int .u8 (markBK k q)) := fun x => x.cell dr hrg
                          have i2 : (q : Int) < nk := by omega
                          have i3 : (q : Int) < (nk : Int) + 64 := by omega
                          have i4 : (q : Int) < ((nk + 64 : Nat) : Int) := by omega
                          clear dv dr cl cg hm hml
                          go_wp2_with fail
                          clear cl5
                          refine wp_region_calm (B := wc.heap.size) (W0 := wc) hb5 (by kernel_rfl) (by kernel_rfl) ?_
                          repeat (go_big_quiet_step ((go_at_call 49; exact Calm.same (markBK_at _ _ k q rfl rfl (by omega) (by omega) _))))
                          refine wpQuiet_nil ?_
                          intro w6 hb6
                          clear k0 k1 k2 k3
                          go_wp2_with fail
                          go_roundw
                          case rel => exact ⟨q + 1, by omega, by go_num, hb6⟩
                          case measure => simp [intOf]; omega
                        · obtain rfl : q = nk := by omega
                          go_wp2_with fail
                          go_roundw
                          case rel => exact ⟨k + 1, by omega, by go_num, hb5⟩
                          case measure => simp [intOf]; omega
                    · obtain rfl : K = k := by omega
                      go_wp2_with fail
                      go_ret
                      exact ⟨rfl, hbel.trans_below hb5 (by omega)⟩
end Go.Proofs.YtglgcjkglhlggaaGreatDoor
