/- bytes.Clone: a row of its own with the same bytes; nil for nil. Conditions: the slice's cells lie as its reading says. -/
import Derived.Test.YtgigfeppaalbcaaGreatDoorBuf
namespace Go.Proofs.YtgigfeppaalbcaaGreatDoor
open Go.RowKit
set_option maxRecDepth 20000

def ClonePost (xs : List Int) (w : World) (e : Ending) (w' : World) : Prop :=
  ∃ v, e = .returned v ∧ w'.ownsRow w.heap.size 5 1 v xs.length (xs.map bv) ∧ Below w.heap.size w w'
theorem clone_any (ao : Option Addr) (cap : Nat) (xs : List Int) (w : World) (B : Nat) (hx : BytesIn w B ao xs) (hB : B ≤ w.heap.size) (hao : ao = none → cap = 0) (hl : xs.length ≤ 140737488351232) :
    Calls Tryz.prog 27 #[.slice ao xs.length cap] w (ClonePost xs w) := by
  cases ao with
  | none =>
    have hnil : xs = [] := by
      rcases hx with h | ⟨b, off, h1, _⟩
      · exact h
      · cases h1
    subst hnil
    obtain rfl := hao rfl
    have he : ∀ w, (binOp .eql 26 (.slice none 0 0) (.slice none 0 0)).run Tryz.prog w = .ok (.bool true) w := fun _ => by kernel_rfl
    go_enter Tryz.func27, Tryz.ntmps27
    go_wp2_with fail
    go_ret
    exact ⟨_, rfl, World.ownsRow_nil _ _ _ _, Below.refl _ _⟩
  | some ad =>
    have he : ∀ w, (binOp .eql 26 (.slice (some ad) xs.length cap) (.slice none 0 0)).run Tryz.prog w = .ok (.bool false) w := fun _ => by kernel_rfl
    go_enter Tryz.func27, Tryz.ntmps27
    go_wp2_with (at_builtin; refine wpList_append_bytes rfl (.tmp 5) (.tmp 6) rfl w.heap.size _ [] rfl (World.ownsRow_lit w #[] 0 (Nat.le_refl _) (by unfold maxLen; omega) rfl) (some ad) cap xs rfl B (hx.below ((Below.refl B w).alloc hB _) (Nat.le_refl _)) (by simp) (by simp; omega) (by simp) ?_)
    intro v' w' hown hg
    have hb := ((Below.refl w.heap.size w).alloc (Nat.le_refl _) (.cells #[] 5)).grown hg (by simp) (fun k hk => by cases hk; exact Nat.le_refl _)
    clear hg he
    go_wp2_with fail
    go_ret
    exact ⟨_, rfl, by simpa using hown, hb⟩
end Go.Proofs.YtgigfeppaalbcaaGreatDoor
