/- The reader of wire: kind, count, known, Number, whole. Conditions: the reader is one that was made. -/
import Derived.Test.YtnfldkebjeigiaaDoorRdr2
namespace Go.Proofs.YtnfldkebjeigiaaDoor
open Go.RowKit
set_option maxRecDepth 20000

theorem Rdr.cells {w : World} {M rb : Nat} {bad : Bool} {left : List Int} (h : Rdr w M rb bad left) : ∃ a c, w.cell? ⟨rb, 0, none⟩ = some (.bool true) ∧ w.cell? ⟨rb, 1, none⟩ = some (.bool bad) ∧ w.cell? ⟨rb, 2, none⟩ = some (.slice a left.length c) ∧ w.frozen? ⟨rb, 1, none⟩ = false := by
  obtain ⟨a, c, h⟩ := h
  exact ⟨a, c, Go.Joins.cell_of_block h.blk 0, Go.Joins.cell_of_block h.blk 1, Go.Joins.cell_of_block h.blk 2, Go.Joins.unfrozen_of_block h.blk 1⟩
theorem Rdr.setBad {w : World} {M rb : Nat} {bad : Bool} {left : List Int} (h : Rdr w M rb bad left) (x : Bool) : Rdr (w.setCell ⟨rb, 1, none⟩ (.bool x)) M rb x left := by
  obtain ⟨a, c, h⟩ := h
  exact ⟨a, c, h.setBad x⟩
theorem Rdr.lt {w : World} {M rb : Nat} {bad : Bool} {left : List Int} (h : Rdr w M rb bad left) : rb < w.heap.size := by obtain ⟨a, c, h⟩ := h; exact h.lt
theorem known_any (M rb : Nat) (bad : Bool) (left : List Int) (w : World) (h : Rdr w M rb bad left) :
    Calls Tryd.prog 47 #[.pointer (some ⟨rb, 0, none⟩)] w fun e w' => e = .returned (.bool true) ∧ w = w' := by
  obtain ⟨a, c, d0, _, _, _⟩ := h.cells
  clear h
  go_enter Tryd.func47, Tryd.ntmps47
  go_wp2_with fail
  go_ret
  exact ⟨rfl, rfl⟩
theorem takeS_wf {n : Nat} {bad : Bool} {left : List Int} (h : BytesWf left) : BytesWf (takeS n bad left).1 ∧ BytesWf (takeS n bad left).2.2 ∧ (takeS n bad left).1.length ≤ n ∧ (takeS n bad left).2.2.length ≤ left.length := by
  unfold takeS
  split
  · exact ⟨(fun x hx => by cases hx), h, by simp, Nat.le_refl _⟩
  · exact ⟨h.take n, h.drop n, List.length_take_le _ _, by simp⟩
theorem getN_small {l : List Int} (h : BytesWf l) {n : Nat} (hl : l.length ≤ n) : 0 ≤ getN l ∧ getN l < 256 ^ n := by
  have h1 := getN_bound l h
  refine ⟨h1.1, Int.lt_of_lt_of_le h1.2 ?_⟩
  have : (256 : Nat) ^ l.length ≤ 256 ^ n := Nat.pow_le_pow_right (by decide) hl
  exact_mod_cast this
theorem kind_any (M rb : Nat) (bad : Bool) (left : List Int) (w : World) (h : Rdr w M rb bad left) (hw : BytesWf left) (hl : left.length ≤ 140737488351232) :
    Calls Tryd.prog 49 #[.pointer (some ⟨rb, 0, none⟩)] w fun e w' => e = .returned (.int .u8 (getN (takeS 1 bad left).1)) ∧ Rdr w' M rb (takeS 1 bad left).2.1 (takeS 1 bad left).2.2 ∧ Only rb w w' := by
  have H := Lib.hid h
  have hs := said_any M rb 1 bad left w h hw hl (by omega)
  have hb := getN_small (takeS_wf (n := 1) (bad := bad) hw).1 (takeS_wf (n := 1) (bad := bad) hw).2.2.1
  generalize (takeS 1 bad left) = r at hs hb ⊢
  obtain ⟨got, bad2, left2⟩ := r
  dsimp only at hs hb ⊢
  obtain ⟨N, hN⟩ : ∃ N, getN got = N := ⟨_, rfl⟩
  rw [hN] at hs hb ⊢
  have hN2 : IntKind.i64.wrap N = N := IntWalk.i64_in _ (by omega)
  rw [hN2] at hs
  have HS := Lib.hid hs
  have hb1 : 0 ≤ N := hb.1
  have hb2 : N ≤ 255 := by have := hb.2; omega
  clear hs hb hN hN2 h
  go_enter Tryd.func49, Tryd.ntmps49
  go_wp2_with fail
  refine HS.out.mono ?_
  rintro e w1 ⟨rfl, hr, ho⟩
  have HR := Lib.hid hr
  clear hr
  go_wp2_with fail
  go_ret
  exact ⟨rfl, HR.out, ho⟩
/-- What count tells. -/
def countS (bad : Bool) (left : List Int) : Int × Bool × List Int := if (takeS 4 bad left).2.1 = true ∨ 65536 < getN (takeS 4 bad left).1 then (0, true, (takeS 4 bad left).2.2) else (getN (takeS 4 bad left).1, false, (takeS 4 bad left).2.2)
theorem count_rd (M rb : Nat) (bad : Bool) (left : List Int) (w : World) (h : Rdr w M rb bad left) (hw : BytesWf left) (hl : left.length ≤ 140737488351232) :
    Calls Tryd.prog 54 #[.pointer (some ⟨rb, 0, none⟩)] w (SaidAt M rb (countS bad left).1 (countS bad left).2.1 (countS bad left).2.2 w) := by
  have hs := said_any M rb 4 bad left w h hw hl (by omega)
  have hb := getN_small (takeS_wf (n := 4) (bad := bad) hw).1 (takeS_wf (n := 4) (bad := bad) hw).2.2.1
  unfold countS
  generalize (takeS 4 bad left) = r at hs hb ⊢
  obtain ⟨got, bad2, left2⟩ := r
  dsimp only at hs hb ⊢
  obtain ⟨N, hN⟩ : ∃ N, getN got = N := ⟨_, rfl⟩
  rw [hN] at hs hb ⊢
  have hN2 : IntKind.i64.wrap N = N := IntWalk.i64_in _ (by omega)
  rw [hN2] at hs
  have HS := Lib.hid hs
  have hb1 : 0 ≤ N := hb.1
  have hb2 : N ≤ 4294967295 := by have := hb.2; omega
  clear hs hb hN hN2 h
  cases bad2 with
  | true =>
    rw [if_pos (Or.inl rfl)]
    dsimp only
    go_enter Tryd.func54, Tryd.ntmps54
    go_wp2_with fail
    refine HS.out.mono ?_
    rintro e w1 ⟨rfl, hr, ho⟩
    obtain ⟨a, c, _, d1, _, f1⟩ := hr.cells
    have HR := Lib.hid hr
    have HO := Lib.hid ho
    clear hr ho
    go_wp2_with fail
    go_ret
    exact ⟨rfl, HR.out.setBad true, HO.out.trans (Only.set _ _ _ _)⟩
  | false =>
    by_cases hgt : 65536 < N
    · rw [if_pos (Or.inr hgt)]
      dsimp only
      go_enter Tryd.func54, Tryd.ntmps54
      go_wp2_with fail
      refine HS.out.mono ?_
      rintro e w1 ⟨rfl, hr, ho⟩
      obtain ⟨a, c, _, d1, _, f1⟩ := hr.cells
      have HR := Lib.hid hr
      have HO := Lib.hid ho
      clear hr ho
      go_wp2_with fail
      go_ret
      exact ⟨rfl, HR.out.setBad true, HO.out.trans (Only.set _ _ _ _)⟩
    · rw [if_neg (by simp; omega)]
      dsimp only
      have hle : N ≤ 65536 := by omega
      have hd : decide ((65536 : Int) < N) = false := by simpa using hle
      go_enter Tryd.func54, Tryd.ntmps54
      go_wp2_with fail
      refine HS.out.mono ?_
      rintro e w1 ⟨rfl, hr, ho⟩
      obtain ⟨a, c, _, d1, _, f1⟩ := hr.cells
      have HR := Lib.hid hr
      have HO := Lib.hid ho
      clear hr ho
      go_wp2_with fail
      go_ret
      exact ⟨rfl, HR.out.setBad false, HO.out.trans (Only.set _ _ _ _)⟩
theorem number_rd (M rb : Nat) (bad : Bool) (left : List Int) (w : World) (h : Rdr w M rb bad left) (hw : BytesWf left) (hl : left.length ≤ 140737488351232) :
    Calls Tryd.prog 19 #[.pointer (some ⟨rb, 0, none⟩)] w (SaidAt M rb (IntKind.i64.wrap (getN (takeS 8 bad left).1)) (takeS 8 bad left).2.1 (takeS 8 bad left).2.2 w) := by
  have HK := Lib.hid (known_any M rb bad left w h)
  have HS := Lib.hid (said_any M rb 8 bad left w h hw hl (by omega))
  clear h
  generalize IntKind.i64.wrap (getN (takeS 8 bad left).1) = V at HS ⊢
  go_enter Tryd.func19, Tryd.ntmps19
  go_wp2_with fail
  refine HK.out.mono ?_
  rintro e w1 ⟨rfl, rfl⟩
  go_wp2_with fail
  refine HS.out.mono ?_
  rintro e w1 ⟨rfl, hr, ho⟩
  have HR := Lib.hid hr
  clear hr
  go_wp2_with fail
  go_ret
  exact ⟨rfl, HR.out, ho⟩
end Go.Proofs.YtnfldkebjeigiaaDoor
