/- Slices of bytes that are only read. Conditions: the slice's cells lie as its reading says. -/
import Derived.Test.YtnfldkebjeigiaaDoorBase
import Derived.Laws.AppendOwnNone
namespace Go.Proofs.YtnfldkebjeigiaaDoor
open Go.RowKit

/-- A byte's cell. -/
def bv (x : Int) : Value := .int .u8 x
/-- The bytes xs lie behind the slice's address, in a block below B. -/
def BytesIn (w : World) (B : Nat) (ao : Option Addr) (xs : List Int) : Prop :=
  xs = [] ∨ ∃ b off, ao = some ⟨b, off, none⟩ ∧ b < B ∧ ∀ i, i < xs.length → w.cell? ⟨b, off + i, none⟩ = some (.int .u8 (xs.getD i 0))
theorem BytesIn.below {w w' : World} {B B' : Nat} {ao : Option Addr} {xs : List Int} (h : BytesIn w B ao xs) (hb : Below B' w w') (hB : B ≤ B') : BytesIn w' B ao xs := by
  rcases h with h | ⟨b, off, h1, h2, h3⟩
  · exact Or.inl h
  · exact Or.inr ⟨b, off, h1, h2, fun i hi => by rw [hb.cell (p := ⟨b, _, none⟩) (by show b < B'; omega)]; exact h3 i hi⟩
theorem BytesIn.mono {w : World} {B B' : Nat} {ao : Option Addr} {xs : List Int} (h : BytesIn w B ao xs) (hB : B ≤ B') : BytesIn w B' ao xs := by
  rcases h with h | ⟨b, off, h1, h2, h3⟩
  · exact Or.inl h
  · exact Or.inr ⟨b, off, h1, by omega, h3⟩
theorem BytesIn.drewN {w : World} {B : Nat} {ao : Option Addr} {xs : List Int} (h : BytesIn w B ao xs) (n : Nat) : BytesIn (w.drewN n) B ao xs := h
/-- All are bytes. -/
def BytesWf (xs : List Int) : Prop := ∀ x ∈ xs, 0 ≤ x ∧ x < 256

/-- A slice of bytes among the arguments. -/
theorem open_bytesIn {H : Type} {enc : TypeId × Value → H} {P : Program} {W : World} {sp : Nat → Bool} {hd : Bool} {t e : TypeId} {ao : Option Addr} {len cap : Nat} {d : DataW H} {p : List MemPlace}
    (ht : P.underlying t = some (.slice e)) (he : P.underlying e = some (.int .u8)) (hC : P.cellsOf e = 1) (h : DataW.Trod enc P W 0 sp hd t (.slice ao len cap) d p) :
    ∃ xs : List Int, len = xs.length ∧ BytesIn W W.heap.size ao xs ∧ BytesWf xs := by
  obtain ⟨_, h0 | ⟨b, off, n, D, Pl, h1, _, hb, hx⟩⟩ := slice_cases ht hC (by decide) h
  · exact ⟨[], h0, Or.inl rfl, by intro x hx; cases hx⟩
  · obtain ⟨f, hf⟩ := Go.Deep.choose_lt (α := Int) (n := len) (p := fun i z => W.cell? ⟨b, off + i, none⟩ = some (.int .u8 z) ∧ 0 ≤ z ∧ z < 256) (fun i hi => by
      obtain ⟨cs, hl, hc, ht'⟩ := hx i hi
      obtain ⟨z, rfl, _, hw⟩ := DataW.trod_int he ht'
      have hz : 0 ≤ z ∧ z < 256 := by
        simp [Lit.wf, IntKind.min, IntKind.max, IntKind.signed, IntKind.bits] at hw
        omega
      exact ⟨z, by simpa using hc 0 (by decide), hz⟩)
    refine ⟨(List.range len).map f, by simp, Or.inr ⟨b, off, h1, hb, fun i hi => ?_⟩, ?_⟩
    · have hi' : i < len := by simpa using hi
      rw [(hf i hi').1]
      simp [List.getD, hi']
    · intro x hx'
      obtain ⟨i, hi, rfl⟩ := List.mem_map.1 hx'
      exact (hf i (List.mem_range.1 hi)).2

theorem bytes_mem {xs : List Int} {k : Nat} (h : k < xs.length) : xs.getD k 0 ∈ xs := by
  simp [List.getD, List.getElem?_eq_getElem h]
theorem bytes_oneCell (l : List Int) : ∀ u ∈ l.map bv, u.oneCell' = true := by
  intro u hu
  obtain ⟨x, _, rfl⟩ := List.mem_map.1 hu
  rfl
theorem cells_of_bytes {w w1 : World} {B : Nat} {ao : Option Addr} {xs : List Int} (h : BytesIn w B ao xs) (hb : Below B w w1) {ad : Addr} (had : ao = some ad) {j : Nat} {u : Value} (hu : (xs.map bv)[j]? = some u) : w1.cell? (ad.add j) = some u := by
  rcases h with h0 | ⟨b, off, h1, h2, h3⟩
  · rw [h0] at hu; simp at hu
  · rw [h1] at had
    obtain rfl := Option.some.inj had
    have hj : j < xs.length := by
      rcases Nat.lt_or_ge j xs.length with h | h
      · exact h
      · rw [List.getElem?_eq_none (by simpa using h)] at hu; cases hu
    rw [Go.WideShapes.add_plain, hb.cell (p := ⟨b, _, none⟩) h2, h3 j hj]
    simp [List.getElem?_map, List.getElem?_eq_getElem hj] at hu
    rw [← hu]; simp [bv, List.getD, List.getElem?_eq_getElem hj]

/-- What is owned, as bytes that lie. -/
theorem own_bytes {w : World} {base : Nat} {v : Value} {l : List Int} (h : w.ownsRow base 5 1 v l.length (l.map bv)) : ∃ ao cap, v = .slice ao l.length cap ∧ BytesIn w w.heap.size ao l := by
  rcases Go.Joins.ownsRow_forms h with ⟨rfl, hz⟩ | ⟨g, cap', rfl⟩
  · exact ⟨none, 0, by rw [hz], Or.inl (List.eq_nil_of_length_eq_zero hz)⟩
  · have hg : g < w.heap.size := by
      rcases h.2 with ⟨h', _⟩ | ⟨g', cap', cur, h', _, h3, _⟩
      · simp at h'
      · simp only [Value.slice.injEq, Option.some.injEq, Addr.mk.injEq, and_true, true_and] at h'
        obtain ⟨rfl, rfl⟩ := h'
        exact (Array.getElem?_eq_some_iff.1 h3).1
    refine ⟨_, _, rfl, Or.inr ⟨g, 0, rfl, hg, fun i hi => ?_⟩⟩
    rw [Nat.zero_add, World.ownsRow.cellAt h i (by omega)]
    simp [bv, List.getD, List.getElem?_eq_getElem hi]

theorem infoByte : (Tryd.prog.info? 5).map (fun i => (i.zero, i.size, i.bytes)) = some (some (.int .u8 0), 1, 1) := by kernel_rfl
/-- An append to a row of bytes that is owned, whatever is appended, nil or not. -/
theorem wpList_append_bytes {w : World} {ops : Array Oper} {rest : List Oper} {o : Oper} {a : Act} {Q : Exit → Act → World → Prop} (hgd : o.guard = none) (s x : Operand)
    (ho : o.op = .call { callee := .builtin .append, args := #[s, x], argTypes := #[47, 47] })
    (base : Nat) (v : Value) (l : List Int) (hs : a.eval s = v) (hown : w.ownsRow base 5 1 v l.length (l.map bv))
    (ao : Option Addr) (cap : Nat) (xs : List Int) (hx : a.eval x = .slice ao xs.length cap) (B : Nat) (hin : BytesIn w B ao xs) (hao : ao = none → cap = 0) (hlim : l.length + xs.length ≤ 140737488351232) (hbase : base ≤ w.heap.size)
    (h : ∀ v' w', w'.ownsRow base 5 1 v' (l ++ xs).length ((l ++ xs).map bv) → w.grownBy w' v.ownBlock → wpList Tryd.prog ops Q rest (a.put o.dst v') w') : wpList Tryd.prog ops Q (o :: rest) a w := by
  obtain ⟨i0, hi, hz0, hz1, hz2⟩ := info_parts infoByte
  cases ao with
  | none =>
    have hnil : xs = [] := by
      rcases hin with h | ⟨b, off, h1, _⟩
      · exact h
      · cases h1
    subst hnil
    rw [hao rfl] at hx
    refine wpList_append_own_none hgd s x _ ho base 5 i0 1 Tryd.underlying47 hi v l.length _ hs hown hx ?_
    refine h v w (by simpa using hown) ?_
    exact World.grownBy.refl _ _
  | some ad =>
    refine wpList_append_own _ hgd s x _ ho base 5 i0 (.int .u8 0) 1 1 Tryd.underlying47 hi hz0 hz1 hz2 rfl (by decide) v l.length _ hs hown ad xs.length cap (xs.map bv) hx (by simp) ?_ (bytes_oneCell _) (by unfold maxLen; omega) (by omega) hbase ?_
    · intro j u hu
      exact cells_of_bytes hin (Below.refl _ _) rfl hu
    · intro v' w' h1 h2 _
      refine h v' w' ?_ h2
      rw [List.length_append, List.map_append]
      exact h1
end Go.Proofs.YtnfldkebjeigiaaDoor
