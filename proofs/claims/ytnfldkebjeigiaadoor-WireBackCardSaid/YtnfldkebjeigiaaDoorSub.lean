/- A slice of a slice: one equation, its address under one name. Conditions: the bounds fit. -/
import Derived.Test.YtnfldkebjeigiaaDoorLies
import Derived.Test.YtnfldkebjeigiaaDoorBytes
namespace Go.Proofs.YtnfldkebjeigiaaDoor
open Go.RowKit

/-- The address of a slice from its l-th element on. -/
def subA (ao : Option Addr) (cap l k : Nat) : Option Addr := if cap = l then ao else ao.map (·.add (l * k))
theorem subA_none (cap l k : Nat) : subA none cap l k = none := by unfold subA; split <;> rfl
theorem subA_eq_none {ao : Option Addr} {cap l k : Nat} (h : subA ao cap l k = none) : ao = none := by
  unfold subA at h
  split at h
  · exact h
  · cases ao with
    | none => rfl
    | some a => cases h
theorem run_sub_lh {P : Program} {t : TypeId} {k : Nat} (ht : P.underlying t = some (.slice (P.elem t))) (hk : ∀ w, (sizeOf (P.elem t)).run P w = .ok k w) (ao : Option Addr) (n cap l h : Nat) (hl : l ≤ h) (hh : h ≤ cap) (kl kh : IntKind) (lo hi : Int) (el : lo = l) (eh : hi = h) (w : World) :
    (Instr.sliceAt t (.slice ao n cap) (some (.int kl lo)) (some (.int kh hi)) none).run P w = .ok (.slice (subA ao cap l k) (h - l) (cap - l)) w := by
  subst el eh
  rw [run_sliceAt_slice _ _ _ _ _ _ ht, run_slice_lh _ _ _ _ _ ht _ _ _ _ (by omega) (by omega) (by omega), hk]
  simp [Result.andThen, sliced, subA]
theorem run_sub_l {P : Program} {t : TypeId} {k : Nat} (ht : P.underlying t = some (.slice (P.elem t))) (hk : ∀ w, (sizeOf (P.elem t)).run P w = .ok k w) (ao : Option Addr) (n cap l : Nat) (hl : l ≤ n) (kl : IntKind) (lo : Int) (el : lo = l) (w : World) :
    (Instr.sliceAt t (.slice ao n cap) (some (.int kl lo)) none none).run P w = .ok (.slice (subA ao cap l k) (n - l) (cap - l)) w := by
  subst el
  rw [run_sliceAt_slice _ _ _ _ _ _ ht, run_slice_l _ _ _ _ _ ht _ _ (by omega) (by omega), hk]
  simp [Result.andThen, sliced, subA]
theorem run_sub_h {P : Program} {t : TypeId} {k : Nat} (ht : P.underlying t = some (.slice (P.elem t))) (hk : ∀ w, (sizeOf (P.elem t)).run P w = .ok k w) (ao : Option Addr) (n cap h : Nat) (hh : h ≤ cap) (kh : IntKind) (hi : Int) (eh : hi = h) (w : World) :
    (Instr.sliceAt t (.slice ao n cap) none (some (.int kh hi)) none).run P w = .ok (.slice (subA ao cap 0 k) h cap) w := by
  subst eh
  rw [run_sliceAt_slice _ _ _ _ _ _ ht, run_slice_h _ _ _ _ _ ht _ _ (by omega) (by omega), hk]
  simp [Result.andThen, sliced, subA]
theorem subA_zero (ao : Option Addr) (cap k : Nat) (h : ∀ a, ao = some a → a.spot = none) : subA ao cap 0 k = ao := by
  unfold subA
  split
  · rfl
  · cases ao with
    | none => rfl
    | some a =>
      obtain ⟨b, o, s⟩ := a
      have := h _ rfl
      simp only at this
      subst this
      simp [Addr.add]
theorem sizeByte : ∀ w, (sizeOf (Tryd.prog.elem 47)).run Tryd.prog w = .ok 1 w := fun _ => by kernel_rfl
theorem sliceByte : Tryd.prog.underlying 47 = some (.slice (Tryd.prog.elem 47)) := by kernel_rfl
theorem BytesIn.sub {w : World} {B : Nat} {ao : Option Addr} {xs : List Int} {cap : Nat} (l h : Nat) (hx : BytesIn w B ao xs) (hc : xs.length ≤ cap) : BytesIn w B (subA ao cap l 1) ((xs.drop l).take h) := by
  by_cases hz : xs.length ≤ l
  · exact Or.inl (by rw [List.drop_of_length_le hz, List.take_nil])
  · rcases hx with rfl | ⟨b, off, rfl, h1, h2⟩
    · simp at hz
    · unfold subA
      rw [if_neg (by omega), Option.map_some, Go.WideShapes.add_plain, Nat.mul_one]
      refine Or.inr ⟨b, off + l, rfl, h1, fun i hi => ?_⟩
      have hi1 : i < h ∧ l + i < xs.length := by simp at hi; omega
      rw [Nat.add_assoc, h2 _ hi1.2]
      simp [List.getD, hi1.1, List.getElem?_drop]
theorem BytesIn.drop {w : World} {B : Nat} {ao : Option Addr} {xs : List Int} {cap : Nat} (l : Nat) (hx : BytesIn w B ao xs) (hc : xs.length ≤ cap) : BytesIn w B (subA ao cap l 1) (xs.drop l) := by
  have := hx.sub l (xs.length) hc
  rwa [List.take_of_length_le (by simp)] at this
theorem BytesIn.take {w : World} {B : Nat} {ao : Option Addr} {xs : List Int} (h : Nat) (hx : BytesIn w B ao xs) : BytesIn w B ao (xs.take h) := by
  rcases hx with rfl | ⟨b, off, rfl, h1, h2⟩
  · exact Or.inl (by simp)
  · refine Or.inr ⟨b, off, rfl, h1, fun i hi => ?_⟩
    have hi1 : i < h ∧ i < xs.length := by simp at hi; omega
    rw [h2 _ hi1.2]
    simp [List.getD, hi1.1]
theorem BytesWf.drop {xs : List Int} (h : BytesWf xs) (n : Nat) : BytesWf (xs.drop n) := fun x hx => h x (List.mem_of_mem_drop hx)
theorem BytesWf.take {xs : List Int} (h : BytesWf xs) (n : Nat) : BytesWf (xs.take n) := fun x hx => h x (List.mem_of_mem_take hx)
end Go.Proofs.YtnfldkebjeigiaaDoor
