/- LentBytes, KeptBytes: a row of bytes is copied with marks behind its end; as long as nobody writes there, it is found as it was. Conditions: the row has less than 2 to the 40 bytes. -/
import Derived.Test.YtnfldkebjeigiaaDoorBytes
namespace Go.Proofs.YtnfldkebjeigiaaDoor
open Go.RowKit
set_option maxRecDepth 20000

/-- The mark of a place behind a row of bytes. -/
def markB (i : Nat) : Int := IntKind.u64.wrap ((8000024 + (i : Int)) * 11400714819323198485) / 72057594037927936 % 256
theorem markB_byte (i : Nat) : 0 ≤ markB i ∧ markB i < 256 := by unfold markB; omega
def marksB (k : Nat) : List Int := (List.range k).map markB
theorem marksB_succ (k : Nat) : marksB (k + 1) = marksB k ++ [markB k] := by simp [marksB, List.range_succ]
theorem marksB_len (k : Nat) : (marksB k).length = k := by simp [marksB]

/-- Block g holds the bytes xs and twelve marksB behind them. -/
def LentB (w : World) (B g : Nat) (xs : List Int) : Prop :=
  w.ownsRow B 5 1 (.slice (some ⟨g, 0, none⟩) (xs.length + 12) (xs.length + 12)) (xs.length + 12) ((xs ++ marksB 12).map bv)
theorem own_belowB {w : World} {base e size n : Nat} {v : Value} {xs : List Value} (h : w.ownsRow base e size v n xs) : ∀ k, v.ownBlock = some k → base ≤ k := by
  intro k hk
  rcases h.2 with ⟨rfl, _⟩ | ⟨g, cap, cur, rfl, h3, _⟩
  · simp [Value.ownBlock] at hk
  · simp [Value.ownBlock] at hk; omega
theorem ownsRow_ltB {w : World} {base e size n g c : Nat} {xs : List Value} (h : w.ownsRow base e size (.slice (some ⟨g, 0, none⟩) n c) n xs) : g < w.heap.size := by
  rcases h.2 with ⟨h', _⟩ | ⟨g', cap', cur, h', _, h3, _⟩
  · simp at h'
  · simp only [Value.slice.injEq, Option.some.injEq, Addr.mk.injEq, and_true, true_and] at h'
    obtain ⟨rfl, rfl⟩ := h'
    exact (Array.getElem?_eq_some_iff.1 h3).1
def LentBPost (xs : List Int) (w : World) (e : Ending) (w' : World) : Prop :=
  ∃ g, e = .returned (.slice (some ⟨g, 0, none⟩) xs.length (xs.length + 12)) ∧ w.heap.size ≤ g ∧ g < w'.heap.size ∧ LentB w' w.heap.size g xs ∧ Below w.heap.size w w'

def LentBAt (w : World) (g : Nat) (xs : List Int) (k : Nat) : Prop :=
  w.ownsRow g 5 1 (.slice (some ⟨g, 0, none⟩) (xs.length + k) (xs.length + 12)) (xs.length + k) ((xs ++ marksB k).map bv)
theorem lentBAt_succ {w : World} {g k : Nat} {xs : List Int} (h : w.ownsRow g 5 1 (.slice (some ⟨g, 0, none⟩) (xs.length + k + 1) (xs.length + 12)) (xs.length + k + 1) (xs.map bv ++ ((marksB k).map bv ++ [.int .u8 (markB k)]))) : LentBAt w g xs (k + 1) := by
  unfold LentBAt
  rw [marksB_succ, List.map_append, List.map_append, ← Nat.add_assoc]
  exact h
theorem LentBAt.lt {w : World} {g k : Nat} {xs : List Int} (h : LentBAt w g xs k) : g < w.heap.size := ownsRow_ltB h

theorem LentB.below {w w' : World} {B g B' : Nat} {xs : List Int} (h : LentB w B g xs) (hb : Below B' w w') (hg : g < B') : LentB w' B g xs := by
  refine ⟨h.1, ?_⟩
  rcases h.2 with ⟨h', _⟩ | ⟨g', cap', cur, h', h2, h3, h4⟩
  · simp at h'
  · have e : g' = g := by simp at h'; exact h'.1.symm
    exact Or.inr ⟨g', cap', cur, h', h2, by rw [hb.block g' (by omega)]; exact h3, h4⟩
theorem LentB.bytes {w : World} {B g : Nat} {xs : List Int} (h : LentB w B g xs) : BytesIn w (g + 1) (some ⟨g, 0, none⟩) xs := by
  refine Or.inr ⟨g, 0, rfl, by omega, fun i hi => ?_⟩
  rw [Nat.zero_add, World.ownsRow.cellAt h i (by omega)]
  rw [List.map_append, List.getElem?_append_left (by simpa using hi)]
  simp [bv, List.getD, List.getElem?_eq_getElem hi]
theorem LentB.mark {w : World} {B g : Nat} {xs : List Int} (h : LentB w B g xs) {i : Nat} (hi : i < 12) : w.cell? ⟨g, xs.length + i, none⟩ = some (.int .u8 (markB i)) := by
  rw [World.ownsRow.cellAt h _ (by omega)]
  simp [bv, marksB, hi]
theorem LentB.lt {w : World} {B g : Nat} {xs : List Int} (h : LentB w B g xs) : g < w.heap.size := ownsRow_ltB h

end Go.Proofs.YtnfldkebjeigiaaDoor
