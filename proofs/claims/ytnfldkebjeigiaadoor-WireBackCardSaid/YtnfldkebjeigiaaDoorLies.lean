/- Rows of things in memory, each of so many cells, which may themselves hold rows: read below a block's number, or owned. Conditions: the cells lie as the reading says. -/
import Derived.Test.YtnfldkebjeigiaaDoorBase
import Derived.Laws.AppendOwnNone
namespace Go.Proofs.YtnfldkebjeigiaaDoor
open Go.RowKit

/-- The things xs, each of k cells, lie behind the slice's address, in a block below B; what hangs on them as 'sub' says. -/
def RowsIn {α : Type} (k : Nat) (cells : α → List Value) (sub : World → Nat → α → Prop) (w : World) (B : Nat) (ao : Option Addr) (xs : List α) : Prop :=
  xs = [] ∨ ∃ b off, ao = some ⟨b, off, none⟩ ∧ b < B ∧ ∀ (i : Nat) (x : α), xs[i]? = some x → (∀ j, j < k → w.cell? ⟨b, off + i * k + j, none⟩ = (cells x)[j]?) ∧ sub w B x
/-- What hangs on a thing is kept wherever nothing below B is changed. -/
def Kept {α : Type} (sub : World → Nat → α → Prop) : Prop := ∀ w w' B B' x, sub w B x → Below B' w w' → B ≤ B' → sub w' B x
def Rising {α : Type} (sub : World → Nat → α → Prop) : Prop := ∀ w B B' x, sub w B x → B ≤ B' → sub w B' x
theorem RowsIn.below {α : Type} {k : Nat} {cells : α → List Value} {sub : World → Nat → α → Prop} (hs : Kept sub) {w w' : World} {B B' : Nat} {ao : Option Addr} {xs : List α} (h : RowsIn k cells sub w B ao xs) (hb : Below B' w w') (hB : B ≤ B') : RowsIn k cells sub w' B ao xs := by
  rcases h with h | ⟨b, off, h1, h2, h3⟩
  · exact Or.inl h
  · refine Or.inr ⟨b, off, h1, h2, fun i x hx => ⟨fun j hj => ?_, hs _ _ _ _ _ (h3 i x hx).2 hb hB⟩⟩
    rw [hb.cell (p := ⟨b, _, none⟩) (by show b < B'; omega)]; exact (h3 i x hx).1 j hj
theorem RowsIn.mono {α : Type} {k : Nat} {cells : α → List Value} {sub : World → Nat → α → Prop} (hs : Rising sub) {w : World} {B B' : Nat} {ao : Option Addr} {xs : List α} (h : RowsIn k cells sub w B ao xs) (hB : B ≤ B') : RowsIn k cells sub w B' ao xs := by
  rcases h with h | ⟨b, off, h1, h2, h3⟩
  · exact Or.inl h
  · exact Or.inr ⟨b, off, h1, by omega, fun i x hx => ⟨(h3 i x hx).1, hs _ _ _ _ (h3 i x hx).2 hB⟩⟩
theorem RowsIn.at {α : Type} {k : Nat} {cells : α → List Value} {sub : World → Nat → α → Prop} {w : World} {B : Nat} {ao : Option Addr} {xs : List α} (h : RowsIn k cells sub w B ao xs) {i : Nat} {x : α} (hx : xs[i]? = some x) :
    ∃ b off, ao = some ⟨b, off, none⟩ ∧ b < B ∧ (∀ j, j < k → w.cell? ⟨b, off + i * k + j, none⟩ = (cells x)[j]?) ∧ sub w B x := by
  rcases h with h | ⟨b, off, h1, h2, h3⟩
  · rw [h] at hx; simp at hx
  · exact ⟨b, off, h1, h2, h3 i x hx⟩
/-- What lies behind the beginning of a row. -/
theorem RowsIn.drop {α : Type} {k : Nat} {cells : α → List Value} {sub : World → Nat → α → Prop} {w : World} {B b off : Nat} {xs : List α} (n : Nat) (h : RowsIn k cells sub w B (some ⟨b, off, none⟩) xs) : RowsIn k cells sub w B (some ⟨b, off + n * k, none⟩) (xs.drop n) := by
  rcases h with h | ⟨b', off', h1, h2, h3⟩
  · exact Or.inl (by rw [h]; simp)
  · cases h1
    refine Or.inr ⟨b, off + n * k, rfl, h2, fun i x hx => ?_⟩
    rw [List.getElem?_drop] at hx
    obtain ⟨g1, g2⟩ := h3 _ x hx
    refine ⟨fun j hj => ?_, g2⟩
    rw [← g1 j hj, Nat.add_mul]
    congr 2
    omega
theorem RowsIn.take {α : Type} {k : Nat} {cells : α → List Value} {sub : World → Nat → α → Prop} {w : World} {B : Nat} {ao : Option Addr} {xs : List α} (n : Nat) (h : RowsIn k cells sub w B ao xs) : RowsIn k cells sub w B ao (xs.take n) := by
  rcases h with h | ⟨b, off, h1, h2, h3⟩
  · exact Or.inl (by rw [h]; simp)
  · refine Or.inr ⟨b, off, h1, h2, fun i x hx => h3 i x ?_⟩
    rw [List.getElem?_take] at hx
    split at hx
    · exact hx
    · cases hx
/-- A slice among the arguments, whose things are read one by one. -/
theorem open_rows {α : Type} {k : Nat} {cells : α → List Value} {sub : World → Nat → α → Prop} {H : Type} {enc : TypeId × Value → H} {P : Program} {W : World} {sp : Nat → Bool} {hd : Bool} {t e : TypeId} {ao : Option Addr} {len cap : Nat} {d : DataW H} {p : List MemPlace} (Q : α → Prop)
    (ht : P.underlying t = some (.slice e)) (hC : P.cellsOf e = k) (hk : 0 < k)
    (hel : ∀ (cs : List Value) (n : Nat) (y : DataW H) (pl : List MemPlace), cs.length = k → DataW.trod enc P W 0 sp hd n e cs = some (y, pl) → ∃ x : α, cells x = cs ∧ sub W W.heap.size x ∧ Q x)
    (h : DataW.Trod enc P W 0 sp hd t (.slice ao len cap) d p) :
    ∃ xs : List α, len = xs.length ∧ RowsIn k cells sub W W.heap.size ao xs ∧ (∀ x ∈ xs, Q x) ∧ (ao = none → cap = 0) ∧ len ≤ maxLen := by
  obtain ⟨hm, h0 | ⟨b, off, n, D, Pl, h1, _, hb, hx⟩⟩ := slice_cases ht hC hk h
  · exact ⟨[], h0, Or.inl rfl, (by intro x hx; cases hx), slice_none ht h, hm⟩
  · have hne : ∀ i, i < len → ∃ x : α, (∀ j, j < k → W.cell? ⟨b, off + i * k + j, none⟩ = (cells x)[j]?) ∧ sub W W.heap.size x ∧ Q x := by
      intro i hi
      obtain ⟨cs, hl, hc, ht'⟩ := hx i hi
      obtain ⟨x, rfl, hs, hq⟩ := hel cs n _ _ hl ht'
      exact ⟨x, hc, hs, hq⟩
    have key : ∀ m, m ≤ len → ∃ xs : List α, xs.length = m ∧ (∀ x ∈ xs, Q x) ∧ ∀ (i : Nat) (x : α), xs[i]? = some x → (∀ j, j < k → W.cell? ⟨b, off + i * k + j, none⟩ = (cells x)[j]?) ∧ sub W W.heap.size x := by
      intro m
      induction m with
      | zero => intro _; exact ⟨[], rfl, (by intro x hx; cases hx), (by intro i x hx; simp at hx)⟩
      | succ m ih =>
        intro hm'
        obtain ⟨xs, e1, e2, e3⟩ := ih (by omega)
        obtain ⟨x, g1, g2, g3⟩ := hne m (by omega)
        refine ⟨xs ++ [x], by simp [e1], fun y hy => ?_, fun i y hy => ?_⟩
        · rcases List.mem_append.1 hy with hy | hy
          · exact e2 y hy
          · rw [List.mem_singleton.1 hy]; exact g3
        · by_cases hi : i < m
          · rw [List.getElem?_append_left (by omega)] at hy; exact e3 i y hy
          · rw [List.getElem?_append_right (by omega)] at hy
            have hi' : i = m := by
              rcases Nat.lt_or_ge (i - xs.length) 1 with hh | hh
              · omega
              · rw [List.getElem?_eq_none (by simpa using hh)] at hy; cases hy
            subst hi'
            rw [e1, Nat.sub_self] at hy
            obtain rfl : x = y := by simpa using hy
            exact ⟨g1, g2⟩
    obtain ⟨xs, e1, e2, e3⟩ := key len (Nat.le_refl _)
    exact ⟨xs, e1.symm, Or.inr ⟨b, off, h1, hb, e3⟩, e2, slice_none ht h, hm⟩
/-- What is owned, as it lies: the cells of each thing. -/
theorem flat_get {α : Type} {k : Nat} {cells : α → List Value} (hk : ∀ x, (cells x).length = k) : ∀ (xs : List α) (i : Nat) (x : α), xs[i]? = some x → ∀ j, j < k → (xs.flatMap cells)[i * k + j]? = (cells x)[j]? := by
  intro xs
  induction xs with
  | nil => intro i x h; simp at h
  | cons a xs ih =>
    intro i x h j hj
    rw [List.flatMap_cons]
    cases i with
    | zero =>
      obtain rfl : a = x := by simpa using h
      rw [Nat.zero_mul, Nat.zero_add, List.getElem?_append_left (by rw [hk]; exact hj)]
    | succ i =>
      rw [List.getElem?_append_right (by rw [hk, Nat.add_mul]; omega), hk, show (i + 1) * k + j - k = i * k + j by rw [Nat.add_mul]; omega]
      exact ih i x (by simpa using h) j hj
theorem flat_len {α : Type} {k : Nat} {cells : α → List Value} (hk : ∀ x, (cells x).length = k) (xs : List α) : (xs.flatMap cells).length = xs.length * k := by
  induction xs with
  | nil => simp
  | cons a xs ih => rw [List.flatMap_cons, List.length_append, ih, hk, List.length_cons, Nat.add_mul]; omega
theorem ownsRow_lt' {w : World} {base e size n m g o c : Nat} {xs : List Value} (h : w.ownsRow base e size (.slice (some ⟨g, o, none⟩) m c) n xs) : base ≤ g ∧ g < w.heap.size := h.lt g rfl
theorem own_rows {α : Type} {k : Nat} {cells : α → List Value} {sub : World → Nat → α → Prop} (hk : ∀ x, (cells x).length = k) {w : World} {base e n B : Nat} {v : Value} {xs : List α} (hn : xs.length = n) (h : w.ownsRow base e k v n (xs.flatMap cells)) (hs : ∀ x ∈ xs, sub w B x) (hB : w.heap.size ≤ B) :
    ∃ ao cap, v = .slice ao xs.length cap ∧ RowsIn k cells sub w B ao xs ∧ (ao = none → cap = 0) := by
  subst hn
  rcases Go.Joins.ownsRow_forms h with ⟨rfl, hz⟩ | ⟨g, cap', rfl⟩
  · exact ⟨none, 0, by rw [hz], Or.inl (List.eq_nil_of_length_eq_zero hz), fun _ => rfl⟩
  · have hg := (ownsRow_lt' h).2
    refine ⟨_, _, rfl, Or.inr ⟨g, 0, rfl, by omega, fun i x hx => ⟨fun j hj => ?_, hs x (List.mem_of_getElem? hx)⟩⟩, by simp⟩
    have hi : i < xs.length := by
      rcases Nat.lt_or_ge i xs.length with hh | hh
      · exact hh
      · rw [List.getElem?_eq_none hh] at hx; cases hx
    have h2 : i * k + j < xs.length * k := by
      have := Nat.mul_le_mul_right k (show i + 1 ≤ xs.length from hi)
      rw [Nat.add_mul] at this
      omega
    rw [Nat.zero_add, World.ownsRow.cellAt h _ h2]
    exact flat_get hk xs i x hx j hj
/-- Rows that are made here stay: kept by what writes elsewhere. -/
theorem RowsIn.alloc {α : Type} {k : Nat} {cells : α → List Value} {sub : World → Nat → α → Prop} (hs : Kept sub) {w : World} {B : Nat} {ao : Option Addr} {xs : List α} (h : RowsIn k cells sub w B ao xs) (hB : B ≤ w.heap.size) (o : Obj) : RowsIn k cells sub (w.alloc o) B ao xs :=
  h.below hs ((Below.refl w.heap.size w).alloc (Nat.le_refl _) o) hB
end Go.Proofs.YtnfldkebjeigiaaDoor
