/- The writer of wire: what was written, told; Number, Text, Value. Conditions: what is written is not too long. -/
import Derived.Test.YtnfldkebjeigiaaDoorWBuf2
import Derived.Test.YtnfldkebjeigiaaDoorBytes
import Derived.Test.YtnfldkebjeigiaaDoorFrames0
namespace Go.Proofs.YtnfldkebjeigiaaDoor
open Go.RowKit
set_option maxRecDepth 20000

def ClonePost (xs : List Int) (w : World) (e : Ending) (w' : World) : Prop :=
  ∃ v, e = .returned v ∧ w'.ownsRow w.heap.size 5 1 v xs.length (xs.map bv) ∧ Below w.heap.size w w'
theorem clone_any (ao : Option Addr) (cap : Nat) (xs : List Int) (w : World) (B : Nat) (hx : BytesIn w B ao xs) (hB : B ≤ w.heap.size) (hao : ao = none → cap = 0) (hl : xs.length ≤ 140737488351232) :
    Calls Tryd.prog 36 #[.slice ao xs.length cap] w (ClonePost xs w) := by
  cases ao with
  | none =>
    have hnil : xs = [] := by
      rcases hx with h | ⟨b, off, h1, _⟩
      · exact h
      · cases h1
    subst hnil
    obtain rfl := hao rfl
    have he : ∀ w, (binOp .eql 47 (.slice none 0 0) (.slice none 0 0)).run Tryd.prog w = .ok (.bool true) w := fun _ => by kernel_rfl
    go_enter Tryd.func36, Tryd.ntmps36
    go_wp2_with fail
    go_ret
    exact ⟨_, rfl, World.ownsRow_nil _ _ _ _, Below.refl _ _⟩
  | some ad =>
    have he : ∀ w, (binOp .eql 47 (.slice (some ad) xs.length cap) (.slice none 0 0)).run Tryd.prog w = .ok (.bool false) w := fun _ => by kernel_rfl
    go_enter Tryd.func36, Tryd.ntmps36
    go_wp2_with (at_builtin; refine wpList_append_bytes rfl (.tmp 5) (.tmp 6) rfl w.heap.size _ [] rfl (World.ownsRow_lit w #[] 0 (Nat.le_refl _) (by unfold maxLen; omega) rfl) (some ad) cap xs rfl B (hx.below ((Below.refl B w).alloc hB _) (Nat.le_refl _)) (by simp) (by simp; omega) (by simp) ?_)
    intro v' w' hown hg
    have hb := ((Below.refl w.heap.size w).alloc (Nat.le_refl _) (.cells #[] 5)).grown hg (by simp) (fun k hk => by cases hk; exact Nat.le_refl _)
    clear hg he
    go_wp2_with fail
    go_ret
    exact ⟨_, rfl, by simpa using hown, hb⟩
/-- What the writer holds, told. -/
theorem bytes_of (B b : Nat) (bs : List Int) (w : World) (h : BufIs w B b bs) :
    Calls Tryd.prog 66 #[.pointer (some ⟨b, 0, none⟩)] w fun e w' => ∃ v, e = .returned v ∧ w'.ownsRow B 5 1 v bs.length (bs.map bv) ∧ Below w.heap.size w w' := by
  obtain ⟨hBb, v, lr, h3, hown, hvb⟩ := h
  rw [List.length_map] at hown
  have HO := Lib.hid hown
  have hfm : ∃ g c, v = .slice g bs.length c ∧ bs.length ≤ c ∧ (g = none → c = 0) := by
    rcases hown.2 with ⟨rfl, h⟩ | ⟨g, cap, cur, rfl, _, _, h1, h2, _⟩
    · exact ⟨none, 0, by rw [h], by omega, fun _ => rfl⟩
    · exact ⟨some ⟨g, 0, none⟩, cap, rfl, h1, by simp⟩
  obtain ⟨g, c, rfl, hlc, hg⟩ := hfm
  have c0 := h3.c0
  have c1 := h3.c1
  clear h3 hown
  go_enter Tryd.func66, Tryd.ntmps66
  go_wp2_with fail
  go_quiet (fail)
  go_wp2_with fail
  go_ret
  exact ⟨_, rfl, HO.out, below_drewN (Below.refl _ _) _⟩

theorem own_bytes' {w : World} {base c : Nat} {a : Option Addr} {l : List Int} (h : w.ownsRow base 5 1 (.slice a l.length c) l.length (l.map bv)) : BytesIn w w.heap.size a l := by
  obtain ⟨ao, cap, hv, hin⟩ := own_bytes h
  cases hv
  exact hin
/-- Bytes of a call's own. -/
def BytesNew (bs : List Int) (B : Nat) (w : World) (e : Ending) (w' : World) : Prop :=
  ∃ a c, e = .returned (.slice a bs.length c) ∧ w'.ownsRow B 5 1 (.slice a bs.length c) bs.length (bs.map bv) ∧ Below B w w'
theorem told_any (B b : Nat) (bs : List Int) (w : World) (h : BufIs w B b bs) (hBw : B ≤ w.heap.size) (hl : bs.length ≤ 140737488351232) :
    Calls Tryd.prog 42 #[.pointer (some ⟨b, 0, none⟩)] w (BytesNew bs w.heap.size w) := by
  have H := Lib.hid h
  clear h
  go_enter Tryd.func42, Tryd.ntmps42
  go_wp2_with fail
  refine (bytes_of B b bs w H.out).mono ?_
  rintro e w1 ⟨v, rfl, ho, hb⟩
  obtain ⟨a, c, hv⟩ := row_slice ho
  subst hv
  have HO := Lib.hid ho
  clear ho
  go_wp2_with fail
  refine (clone_any a c bs w1 w1.heap.size (own_bytes' HO.out) (Nat.le_refl _) (own_none HO.out) hl).mono ?_
  rintro e w2 ⟨v2, rfl, ho2, hb2⟩
  obtain ⟨a2, c2, hv2⟩ := row_slice ho2
  subst hv2
  have HO2 := Lib.hid (Go.Joins.ownsRow_le ho2 hb.size)
  have hb3 := hb.trans (hb2.mono hb.size)
  clear ho2 hb hb2
  go_wp2_with fail
  go_ret
  exact ⟨a2, c2, rfl, HO2.out, hb3⟩
end Go.Proofs.YtnfldkebjeigiaaDoor
