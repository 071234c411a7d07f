/- Plain laws on what a log tells. No program. Conditions: as each says. -/
import Derived.Test.YtknnbnmogjkcnaaGreatLogI
namespace Go.Proofs.YtknnbnmogjkcnaaGreat

theorem termS_zero (ps : List EnP) (k : Nat) (hk : k ≤ ps.length) : ∃ t, termS 0 0 ps k = (t, true) := by
  unfold termS
  split
  · exact ⟨_, rfl⟩
  · rw [if_pos (by omega)]; exact ⟨_, rfl⟩
theorem termS_drop (ps : List EnP) (k : Nat) (t : Int) (hk : k ≤ ps.length) (ht : termS 0 0 ps k = (t, true)) (i : Int) (hi : (k : Int) ≤ i) : termS k t (ps.drop k) i = termS 0 0 ps i := by
  by_cases he : i = k
  · subst he
    rw [ht]
    unfold termS
    rw [if_neg (by omega), if_pos rfl]
  · unfold termS
    rw [List.length_drop]
    by_cases h1 : i ≤ ps.length
    · rw [if_pos (by omega), if_pos (by omega)]
      have e : (i - (k : Int) - 1).toNat + k = (i - 0 - 1).toNat := by omega
      rw [← e, Nat.add_comm]
      simp [List.getD]
    · rw [if_neg (by omega), if_neg (by omega), if_neg (by omega), if_neg (by omega)]
theorem termS_low (ps : List EnP) (k : Nat) (t : Int) (i : Int) (hi : i < k) : termS k t ps i = (0, false) := by
  unfold termS
  rw [if_neg (by omega), if_neg (by omega)]
theorem fromS_drop (ps : List EnP) (k : Nat) (hk : k ≤ ps.length) (j m : Int) (hj : (k : Int) + 1 ≤ j) : fromS k (ps.drop k) j m = fromS 0 ps j m := by
  unfold fromS placeS
  rw [List.length_drop]
  by_cases h1 : j ≤ ps.length
  · rw [if_pos (show (k : Int) < j ∧ j - k ≤ ((ps.length - k : Nat) : Int) by omega), if_pos (show (0 : Int) < j ∧ j - 0 ≤ (ps.length : Int) by omega)]
    by_cases h2 : m < 1
    · rw [if_pos (Or.inr h2), if_pos (Or.inr h2)]
    · rw [if_neg (by simp [h2]), if_neg (by simp [h2]), List.drop_drop]
      congr 2
      omega
  · rw [if_neg (show ¬ ((k : Int) < j ∧ j - k ≤ ((ps.length - k : Nat) : Int)) by omega), if_neg (show ¬ ((0 : Int) < j ∧ j - 0 ≤ (ps.length : Int)) by omega)]
    rw [if_pos (Or.inl rfl), if_pos (Or.inl rfl)]
theorem lastS_drop (ps : List EnP) (k : Nat) (t : Int) (hk : k ≤ ps.length) (ht : termS 0 0 ps k = (t, true)) : lastS k t (ps.drop k) = lastS 0 0 ps := by
  unfold lastS
  rw [List.length_drop]
  by_cases h0 : ps.length = 0
  · have : k = 0 := by omega
    subst this
    rw [if_pos (by omega), if_pos h0]
    unfold termS at ht
    rw [if_neg (by omega), if_pos (by simp)] at ht
    simp at ht
    rw [← ht]
    rfl
  · rw [if_neg h0]
    by_cases h1 : ps.length - k = 0
    · have e : k = ps.length := by omega
      rw [if_pos h1]
      unfold termS at ht
      rw [if_pos (by omega)] at ht
      simp only [Prod.mk.injEq, and_true] at ht
      rw [← ht]
      subst e
      rw [show ((ps.length : Int) - 0 - 1).toNat = ps.length - 1 by omega, Int.zero_add]
    · rw [if_neg h1]
      have e1 : (k : Int) + ((ps.length - k : Nat) : Int) = 0 + ps.length := by omega
      have e2 : (ps.drop k).getD (ps.length - k - 1) En.zero.plain = ps.getD (ps.length - 1) En.zero.plain := by
        rw [show ps.length - 1 = k + (ps.length - k - 1) by omega]
        simp [List.getD]
      rw [e1, e2]
/-- What From tells of a log whose base is 0. -/
theorem fromS_all (ps : List EnP) (m : Int) (hm : (ps.length : Int) ≤ m) : fromS 0 ps 1 m = ps := by
  unfold fromS placeS
  by_cases h0 : ps.length = 0
  · rw [if_neg (show ¬ ((0 : Int) < 1 ∧ (1 : Int) - 0 ≤ (ps.length : Int)) by omega), if_pos (Or.inl rfl)]
    exact (List.eq_nil_of_length_eq_zero h0).symm
  · rw [if_pos (show (0 : Int) < 1 ∧ (1 : Int) - 0 ≤ (ps.length : Int) by omega), if_neg (by simp; omega)]
    rw [show ((1 : Int) - 0 - 1).toNat = 0 by omega, List.drop_zero, List.take_of_length_le (by omega)]
theorem fromS_len (ps : List EnP) (j m : Int) : (fromS 0 ps j m).length ≤ ps.length := by
  unfold fromS
  split
  · simp
  · rw [List.length_take, List.length_drop]; omega
theorem fromS_small {ps : List EnP} (h : PSmall ps) (b j m : Int) : PSmall (fromS b ps j m) := by
  unfold fromS
  split
  · intro p hp; cases hp
  · exact (h.drop _).take _
/-- What From tells of a log whose base is 0: from an index on. -/
theorem fromS_at (ps : List EnP) (k m : Nat) (h : k + m ≤ ps.length) : fromS 0 ps (k + 1) m = (ps.drop k).take m := by
  unfold fromS placeS
  by_cases hm : m = 0
  · subst hm
    rw [if_pos (Or.inr (by omega)), List.take_zero]
  · rw [if_pos (show (0 : Int) < (k : Int) + 1 ∧ (k : Int) + 1 - 0 ≤ (ps.length : Int) by omega), if_neg (by simp; omega)]
    rw [show ((k : Int) + 1 - 0 - 1).toNat = k by omega, Int.toNat_natCast]
end Go.Proofs.YtknnbnmogjkcnaaGreat
