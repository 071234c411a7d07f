/- The reader of wire: NewReader, Bad, Done. Conditions: as each says. -/
import Derived.Test.YtnfldkebjeigiaaDoorRdr3
namespace Go.Proofs.YtnfldkebjeigiaaDoor
open Go.RowKit
set_option maxRecDepth 20000

theorem bad_rd (M rb : Nat) (bad : Bool) (left : List Int) (w : World) (h : Rdr w M rb bad left) :
    Calls Tryd.prog 26 #[.pointer (some ⟨rb, 0, none⟩)] w fun e w' => e = .returned (.bool bad) ∧ w = w' := by
  have HK := Lib.hid (known_any M rb bad left w h)
  obtain ⟨a, c, _, d1, _, _⟩ := h.cells
  clear h
  go_enter Tryd.func26, Tryd.ntmps26
  go_wp2_with fail
  refine HK.out.mono ?_
  rintro e w1 ⟨rfl, rfl⟩
  go_wp2_with fail
  go_ret
  exact ⟨rfl, rfl⟩
theorem done_rd (M rb : Nat) (bad : Bool) (left : List Int) (w : World) (h : Rdr w M rb bad left) :
    Calls Tryd.prog 25 #[.pointer (some ⟨rb, 0, none⟩)] w fun e w' => e = .returned (.bool (!bad && left.isEmpty)) ∧ w = w' := by
  have HK := Lib.hid (known_any M rb bad left w h)
  obtain ⟨a, c, _, d1, d2, _⟩ := h.cells
  clear h
  cases bad with
  | true =>
    go_enter Tryd.func25, Tryd.ntmps25
    go_wp2_with fail
    refine HK.out.mono ?_
    rintro e w1 ⟨rfl, rfl⟩
    go_wp2_with fail
    go_ret
    exact ⟨rfl, rfl⟩
  | false =>
    obtain ⟨n, hn⟩ : ∃ n, left.length = n := ⟨_, rfl⟩
    rw [hn] at d2
    have he : left.isEmpty = decide (n = 0) := by rw [← hn]; cases left <;> simp
    rw [he]
    clear hn he
    by_cases h0 : n = 0
    · subst h0
      go_enter Tryd.func25, Tryd.ntmps25
      go_wp2_with fail
      refine HK.out.mono ?_
      rintro e w1 ⟨rfl, rfl⟩
      go_wp2_with fail
      go_ret
      exact ⟨rfl, rfl⟩
    · have d3 : decide (n = 0) = false := by simpa using h0
      have d4 : ¬ (n : Int) = 0 := by omega
      have d5 : decide ((n : Int) = 0) = false := by simpa using h0
      have d6 : ((n : Int) == 0) = false := by simpa using h0
      rw [d3]
      go_enter Tryd.func25, Tryd.ntmps25
      go_wp2_with fail
      refine HK.out.mono ?_
      rintro e w1 ⟨rfl, rfl⟩
      go_wp2_with fail
      go_ret
      exact ⟨rfl, rfl⟩
theorem newReader_any (ao : Option Addr) (n cap : Nat) (xs : List Int) (w : World) (B : Nat) (hn : xs.length = n) (hx : BytesIn w B ao xs) (hB : B ≤ w.heap.size) (hao : ao = none → cap = 0) (hl : n ≤ 140737488351232) :
    Calls Tryd.prog 8 #[.slice ao n cap] w fun e w' => ∃ rb, e = .returned (.pointer (some ⟨rb, 0, none⟩)) ∧ w.heap.size ≤ rb ∧ Rdr w' rb rb false xs ∧ Below w.heap.size w w' := by
  subst hn
  have HX := Lib.hid hx
  have HA := Lib.hid hao
  clear hx hao
  go_enter Tryd.func8, Tryd.ntmps8
  go_wp2_with fail
  refine (clone_any ao cap xs w B HX.out hB HA.out hl).mono ?_
  rintro e w1 ⟨v, rfl, ho, hb⟩
  obtain ⟨a, c, hv⟩ := row_slice ho
  subst hv
  have HO := Lib.hid ho
  clear ho
  go_wp2_with fail
  go_ret
  have hA : Below w1.heap.size w1 (w1.alloc (.cells #[.bool true, .bool false, .slice a xs.length c] 77)) := (Below.refl _ _).alloc (Nat.le_refl _) _
  refine ⟨w1.heap.size, rfl, hb.size, ⟨a, c, heap_alloc_new w1 _, ?_, own_capG HO.out, own_none HO.out, by simp⟩, hb.alloc hb.size _⟩
  rcases (own_bytes' HO.out) with h | ⟨b, off, h1, h2, h3⟩
  · exact Or.inl h
  · refine Or.inr ⟨b, off, h1, h2, by omega, fun i hi => ?_⟩
    rw [hA.cell (p := ⟨b, _, none⟩) h2]
    exact h3 i hi
end Go.Proofs.YtnfldkebjeigiaaDoor
