/- Frames that a call has made: a row of them, the bytes of each in a block of its own. Conditions: as each says. -/
import Derived.Test.YtgigfeppaalbcaaGreatDoorPut
namespace Go.Proofs.YtgigfeppaalbcaaGreatDoor
open Go.RowKit
set_option maxRecDepth 20000

theorem own_none {w : World} {base e size n m cap : Nat} {ao : Option Addr} {xs : List Value} (h : w.ownsRow base e size (.slice ao m cap) n xs) : ao = none → cap = 0 := by
  rintro rfl
  rcases h.2 with ⟨h', _⟩ | ⟨g, cap', cur, h', _⟩
  · cases h'; rfl
  · cases h'
theorem own_below {w w' : World} {base e size n B : Nat} {v : Value} {xs : List Value} (h : w.ownsRow base e size v n xs) (hb : Below B w w') (hB : w.heap.size ≤ B) : w'.ownsRow base e size v n xs := by
  refine ⟨h.1, ?_⟩
  rcases h.2 with hn | ⟨g, cap, cur, hv, h1, h2, h3⟩
  · exact Or.inl hn
  · have hg := (Array.getElem?_eq_some_iff.1 h2).1
    exact Or.inr ⟨g, cap, cur, hv, h1, by rw [hb.block g (by omega)]; exact h2, h3⟩
theorem own_apart {w : World} {b1 e1 s1 n1 b2 e2 s2 n2 : Nat} {v1 v2 : Value} {xs1 xs2 : List Value} (h1 : w.ownsRow b1 e1 s1 v1 n1 xs1) (h2 : w.ownsRow b2 e2 s2 v2 n2 xs2) (he : e1 ≠ e2) : v1.ownBlock = none ∨ v1.ownBlock ≠ v2.ownBlock := by
  rcases h1.2 with ⟨rfl, _⟩ | ⟨g, cap, cur, rfl, _, g1, _⟩
  · exact Or.inl rfl
  · right
    rcases h2.2 with ⟨rfl, _⟩ | ⟨g', cap', cur', rfl, _, g2, _⟩
    · simp [Value.ownBlock]
    · intro hh
      simp [Value.ownBlock] at hh
      subst hh
      rw [g1] at g2
      simp only [Option.some.injEq, Obj.cells.injEq] at g2
      exact he g2.2.1
def Fr.pair (f : Fr) : Int × List Int := (f.kind, f.data)
def frCells (f : Fr) : List Value := [.int .i64 f.kind, .slice f.ao f.data.length f.cap]
def dataOwn (w : World) (base : Nat) (f : Fr) : Prop := w.ownsRow base 5 1 (.slice f.ao f.data.length f.cap) f.data.length (f.data.map bv)
def Fr.blk (f : Fr) : Option Nat := (Value.slice f.ao f.data.length f.cap).ownBlock
/-- The frames that a row made here holds. -/
def FramesOwn (w : World) (base : Nat) (v : Value) (frs : List Fr) : Prop :=
  w.ownsRow base 44 2 v frs.length (frs.flatMap frCells) ∧ (∀ f ∈ frs, dataOwn w base f) ∧ frs.Pairwise fun f g => f.blk = none ∨ f.blk ≠ g.blk
theorem FramesOwn.below {w w' : World} {base B : Nat} {v : Value} {frs : List Fr} (h : FramesOwn w base v frs) (hb : Below B w w') (hB : w.heap.size ≤ B) : FramesOwn w' base v frs :=
  ⟨own_below h.1 hb hB, fun f hf => own_below (h.2.1 f hf) hb hB, h.2.2⟩
theorem FramesOwn.nil (w : World) (base : Nat) : FramesOwn w base (.slice none 0 0) [] := ⟨World.ownsRow_nil _ _ _ _, by simp, List.Pairwise.nil⟩
theorem frCells_len (x : Fr) : (frCells x).length = 2 := rfl
/-- A frame more. -/
theorem FramesOwn.snoc {w w1 w2 w3 : World} {base : Nat} {v v' : Value} {frs : List Fr} {f : Fr} (h : FramesOwn w base v frs) (hB : base ≤ w.heap.size) (hb : Below w.heap.size w w1) (hd : dataOwn w1 w.heap.size f) (hb2 : Below w1.heap.size w1 w2)
    (hown : w3.ownsRow base 44 2 v' (frs.length + 1) (frs.flatMap frCells ++ frCells f)) (hg : w2.grownBy w3 v.ownBlock) : FramesOwn w3 base v' (frs ++ [f]) := by
  have k1 := h.1
  have h1 := (own_below (own_below h.1 hb (Nat.le_refl _)) hb2 (Nat.le_refl _))
  refine ⟨by rw [List.length_append, List.flatMap_append]; simpa using hown, ?_, ?_⟩
  · intro x hx
    rcases List.mem_append.1 hx with hx | hx
    · have h2 := (own_below (own_below (h.2.1 x hx) hb (Nat.le_refl _)) hb2 (Nat.le_refl _))
      exact World.ownsRow.kept h2 hg (own_apart h2 h1 (by decide))
    · obtain rfl := List.mem_singleton.1 hx
      have h2 := own_below hd hb2 (Nat.le_refl _)
      exact Go.Joins.ownsRow_le (World.ownsRow.kept h2 hg (own_apart h2 h1 (by decide))) hB
  · refine List.pairwise_append.2 ⟨h.2.2, List.pairwise_singleton _ _, fun x hx y hy => ?_⟩
    obtain rfl := List.mem_singleton.1 hy
    rcases hxb : x.blk with _ | g
    · exact Or.inl rfl
    · right
      have := ((h.2.1 x hx).lt g hxb).2
      intro hh
      have := (World.ownsRow.lt hd g hh.symm).1
      omega
/-- What is owned, as frames that lie. -/
theorem FramesOwn.lie {w : World} {base : Nat} {v : Value} {frs : List Fr} (h : FramesOwn w base v frs) : ∃ ao cap, v = .slice ao frs.length cap ∧ frs.length ≤ cap ∧ (ao = none → cap = 0) ∧ FramesIn w w.heap.size ao frs := by
  have h0 := h.1
  rcases Go.Joins.ownsRow_forms h.1 with ⟨rfl, hz⟩ | ⟨g, cap', rfl⟩
  · exact ⟨none, 0, by rw [hz], by omega, fun _ => rfl, Or.inl (List.eq_nil_of_length_eq_zero hz)⟩
  · have hg := (ownsRow_lt' h0).2
    have hc : frs.length ≤ cap' := by
      rcases h0.2 with ⟨h', _⟩ | ⟨g', c', cur, h', _, _, h3, _⟩
      · cases h'
      · cases h'; exact h3
    refine ⟨_, _, rfl, hc, by simp, Or.inr ⟨g, 0, rfl, hg, fun i hi => ?_⟩⟩
    have e : frs.getD i Fr.zero = frs[i] := by simp [List.getD, List.getElem?_eq_getElem hi]
    have hx : frs[i]? = some frs[i] := List.getElem?_eq_getElem hi
    have f0 := flat_get (k := 2) frCells_len frs i _ hx 0 (by decide)
    have f1 := flat_get (k := 2) frCells_len frs i _ hx 1 (by decide)
    have hd := h.2.1 frs[i] (List.getElem_mem hi)
    obtain ⟨a', c', hv', hB'⟩ := own_bytes hd
    rw [e, Nat.zero_add, World.ownsRow.cellAt h0 _ (by omega), World.ownsRow.cellAt h0 _ (by omega)]
    refine ⟨f0, f1, ?_⟩
    injection hv' with e1 e2 e3
    rw [e1]; exact hB'
end Go.Proofs.YtgigfeppaalbcaaGreatDoor
