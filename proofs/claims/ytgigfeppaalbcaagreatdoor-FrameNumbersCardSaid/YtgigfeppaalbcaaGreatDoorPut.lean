/- frame.Put: the frames' bytes, or that some is none. Conditions: the frames' cells lie as their reading says. -/
import Derived.Test.YtgigfeppaalbcaaGreatDoorClone
import Derived.Test.YtgigfeppaalbcaaGreatDoorLies
namespace Go.Proofs.YtgigfeppaalbcaaGreatDoor
open Go.RowKit
set_option maxRecDepth 20000

/-- What the writer holds, told. -/
theorem bytes_of (B b : Nat) (bs : List Int) (w : World) (h : BufIs w B b bs) :
    Calls Tryz.prog 28 #[.pointer (some ⟨b, 0, none⟩)] w fun e w' => ∃ v, e = .returned v ∧ w'.ownsRow B 5 1 v bs.length (bs.map bv) ∧ Below w.heap.size w w' := by
  obtain ⟨hBb, v, lr, h3, hown, hvb⟩ := h
  rw [List.length_map] at hown
  have HO := Lib.hid hown
  have hfm : ∃ g c, v = .slice g bs.length c ∧ bs.length ≤ c ∧ (g = none → c = 0) := by
    rcases hown.2 with ⟨rfl, h⟩ | ⟨g, cap, cur, rfl, _, _, h1, h2, _⟩
    · exact ⟨none, 0, by rw [h], by omega, fun _ => rfl⟩
    · exact ⟨some ⟨g, 0, none⟩, cap, rfl, h1, by simp⟩
  obtain ⟨g, c, rfl, hlc, hg⟩ := hfm
  have c0 := h3.c0
  have c1 := h3.c1
  clear h3 hown
  go_enter Tryz.func28, Tryz.ntmps28
  go_wp2_with fail
  go_quiet (fail)
  go_wp2_with fail
  go_ret
  exact ⟨_, rfl, HO.out, below_drewN (Below.refl _ _) _⟩

/-- A frame as it lies in memory: its kind, and its slice of bytes. -/
structure Fr where
  kind : Int
  ao : Option Addr
  cap : Nat
  data : List Int
def Fr.zero : Fr := ⟨0, none, 0, []⟩
/-- The frames fs lie behind the slice's address, all in blocks below B. -/
def FramesIn (w : World) (B : Nat) (ao : Option Addr) (fs : List Fr) : Prop :=
  fs = [] ∨ ∃ b off, ao = some ⟨b, off, none⟩ ∧ b < B ∧ ∀ i, i < fs.length →
    w.cell? ⟨b, off + i * 2, none⟩ = some (.int .i64 (fs.getD i Fr.zero).kind) ∧
    w.cell? ⟨b, off + i * 2 + 1, none⟩ = some (.slice (fs.getD i Fr.zero).ao (fs.getD i Fr.zero).data.length (fs.getD i Fr.zero).cap) ∧
    BytesIn w B (fs.getD i Fr.zero).ao (fs.getD i Fr.zero).data
def FrWf (f : Fr) : Prop := (Lit.int .i64 f.kind).wf = true ∧ (f.ao = none → f.cap = 0) ∧ BytesWf f.data ∧ f.data.length ≤ 140737488351232
theorem FramesIn.below {w w' : World} {B B' : Nat} {ao : Option Addr} {fs : List Fr} (h : FramesIn w B ao fs) (hb : Below B' w w') (hB : B ≤ B') : FramesIn w' B ao fs := by
  rcases h with h | ⟨b, off, h1, h2, h3⟩
  · exact Or.inl h
  · refine Or.inr ⟨b, off, h1, h2, fun i hi => ?_⟩
    rw [hb.cell (p := ⟨b, _, none⟩) (by show b < B'; omega), hb.cell (p := ⟨b, _, none⟩) (by show b < B'; omega)]
    exact ⟨(h3 i hi).1, (h3 i hi).2.1, (h3 i hi).2.2.below hb hB⟩
/-- What Put tells of frames: 0, or the error of the first that is none. -/
def putE : List Fr → Int
  | [] => 0
  | f :: fs => if f.kind < 0 ∨ 255 < f.kind then 2 else if 1048576 < f.data.length then 3 else putE fs
def putB (fs : List Fr) : List Int := fs.flatMap fun f => frameB f.kind f.data
/-- Is it a frame that may be? -/
def okF (f : Fr) : Prop := 0 ≤ f.kind ∧ f.kind ≤ 255 ∧ f.data.length ≤ 1048576
theorem putE_ok : ∀ {fs : List Fr}, (∀ f ∈ fs, okF f) → putE fs = 0 := by
  intro fs
  induction fs with
  | nil => intro _; rfl
  | cons f fs ih =>
    intro h
    have h1 := h f List.mem_cons_self
    unfold okF at h1
    unfold putE
    rw [if_neg (by omega), if_neg (by omega)]
    exact ih (fun x hx => h x (List.mem_cons_of_mem _ hx))
theorem putE_at : ∀ {fs : List Fr} {k : Nat}, k < fs.length → (∀ f ∈ fs.take k, okF f) → ¬ okF (fs.getD k Fr.zero) → putE fs = if (fs.getD k Fr.zero).kind < 0 ∨ 255 < (fs.getD k Fr.zero).kind then 2 else 3 := by
  intro fs
  induction fs with
  | nil => intro k h; simp at h
  | cons f fs ih =>
    intro k hk h hb
    cases k with
    | zero =>
      have e : (f :: fs).getD 0 Fr.zero = f := rfl
      rw [e] at hb ⊢
      unfold okF at hb
      unfold putE
      split
      · rfl
      · rw [if_pos (by omega)]
    | succ k =>
      have e : (f :: fs).getD (k + 1) Fr.zero = fs.getD k Fr.zero := rfl
      rw [e] at hb ⊢
      have h1 := h f (by simp)
      unfold okF at h1
      unfold putE
      rw [if_neg (by omega), if_neg (by omega)]
      exact ih (by simpa using hk) (fun x hx => h x (by simp [hx])) hb
end Go.Proofs.YtgigfeppaalbcaaGreatDoor
