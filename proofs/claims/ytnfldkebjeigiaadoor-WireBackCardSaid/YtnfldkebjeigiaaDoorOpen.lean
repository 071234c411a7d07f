/- Bytes and frames among the arguments: their cells, one by one. Conditions: they are read as the row reads them. -/
import Derived.Test.YtnfldkebjeigiaaDoorLies
import Derived.Test.YtnfldkebjeigiaaDoorBytes
namespace Go.Proofs.YtnfldkebjeigiaaDoor
open Go.RowKit

theorem slice_shape {H : Type} {enc : TypeId × Value → H} {P : Program} {W : World} {base : Nat} {sp : Nat → Bool} {hd : Bool} {t e : TypeId} {ao : Option Addr} {len cap : Nat} {d : DataW H} {p : List MemPlace}
    (ht : P.underlying t = some (.slice e)) (h : DataW.Trod enc P W base sp hd t (.slice ao len cap) d p) : len ≤ cap ∧ cap ≤ maxLen ∧ (ao = none → cap = 0) := by
  obtain ⟨fuel, hf⟩ := h
  rcases Go.Deep.open_slice ht hf with ⟨h0, _⟩ | ⟨a, len', cap', m, n, D, Pl, h0, _, hl, hm, _⟩
  · simp [Value.cells] at h0
    obtain ⟨rfl, rfl, rfl⟩ := h0
    exact ⟨by omega, by unfold maxLen; omega, fun _ => rfl⟩
  · simp [Value.cells] at h0
    obtain ⟨rfl, rfl, rfl⟩ := h0
    exact ⟨hl, hm, by simp⟩
/-- A cell that holds a slice. -/
theorem slice_cell {H : Type} {enc : TypeId × Value → H} {P : Program} {W : World} {base n : Nat} {sp : Nat → Bool} {hd : Bool} {t e : TypeId} {cs : List Value} {d : DataW H} {p : List MemPlace}
    (ht : P.underlying t = some (.slice e)) (h : DataW.trod enc P W base sp hd n t cs = some (d, p)) : ∃ ao len cap, cs = [.slice ao len cap] ∧ DataW.Trod enc P W base sp hd t (.slice ao len cap) d p := by
  rcases Go.Deep.open_slice ht h with ⟨h0, _⟩ | ⟨a, len', cap', m, n', D, Pl, h0, _⟩
  · subst h0; exact ⟨_, _, _, rfl, n, h⟩
  · subst h0; exact ⟨_, _, _, rfl, n, h⟩
/-- Bytes among the arguments. -/
theorem open_bytes {H : Type} {enc : TypeId × Value → H} {P : Program} {W : World} {sp : Nat → Bool} {hd : Bool} {t e : TypeId} {ao : Option Addr} {len cap : Nat} {d : DataW H} {p : List MemPlace}
    (ht : P.underlying t = some (.slice e)) (he : P.underlying e = some (.int .u8)) (hC : P.cellsOf e = 1) (h : DataW.Trod enc P W 0 sp hd t (.slice ao len cap) d p) :
    ∃ xs : List Int, xs.length = len ∧ BytesIn W W.heap.size ao xs ∧ BytesWf xs ∧ (ao = none → cap = 0) ∧ len ≤ cap ∧ cap ≤ maxLen := by
  obtain ⟨h1, h2, h3⟩ := slice_shape ht h
  obtain ⟨xs, hl, hx, hw⟩ := open_bytesIn ht he hC h
  exact ⟨xs, hl.symm, hx, hw, h3, h1, h2⟩
end Go.Proofs.YtnfldkebjeigiaaDoor
