/- Plain laws on what Fit makes of a log whose base is 0. No program. Conditions: as each says. -/
import Derived.Test.YtknnbnmogjkcnaaLogPlain
namespace Go.Proofs.Ytknnbnmogjkcnaa

theorem termS_get (ps : List EnP) (j : Nat) (r : Int) : termS 0 0 ps ((j : Int) + 1) = (r, true) ↔ ∃ y, ps[j]? = some y ∧ y.term = r := by
  unfold termS
  by_cases h : j < ps.length
  · rw [if_pos (show (0 : Int) < (j : Int) + 1 ∧ (j : Int) + 1 - 0 ≤ (ps.length : Int) by omega)]
    rw [show ((j : Int) + 1 - 0 - 1).toNat = j by omega]
    simp [List.getD, List.getElem?_eq_getElem h]
  · rw [if_neg (show ¬ ((0 : Int) < (j : Int) + 1 ∧ (j : Int) + 1 - 0 ≤ (ps.length : Int)) by omega), if_neg (show ¬ ((j : Int) + 1 = 0) by omega)]
    rw [List.getElem?_eq_none (by omega)]
    simp
/-- What Fit laid: told at each index. -/
structure FitLaid (ps qs ms : List EnP) (at' k : Nat) (t : Int) : Prop where
  len : at' + ms.length ≤ qs.length
  lenle : qs.length ≤ ps.length + ms.length
  fore : qs.take at' = ps.take at'
  term : ∀ i x, ms[i]? = some x → ∃ y, qs[at' + i]? = some y ∧ y.term = x.term
  new : ∀ i x, k < ms.length → k ≤ i → ms[i]? = some x → qs[at' + i]? = some x
  here : termS 0 0 qs at' = (t, true)
theorem fit_laid (ps ms : List EnP) (at' k : Nat) (t : Int) (ha : at' ≤ ps.length) (ht : termS 0 0 ps at' = (t, true)) (h : FitTo 0 0 ps at' ms k) :
    FitLaid ps (if k = ms.length then ps else ps.take ((at' : Int) - 0 + k).toNat ++ ms.drop k) ms at' k t := by
  obtain ⟨h1, h2, h3⟩ := h
  have hs : ∀ j x, j < k → ms[j]? = some x → ∃ y, ps[at' + j]? = some y ∧ y.term = x.term := fun j x hj hx => by
    have := h2 j x hj hx
    rw [show (at' : Int) + 1 + (j : Int) = ((at' + j : Nat) : Int) + 1 by omega, termS_get] at this
    exact this
  have hk : at' + k ≤ ps.length := by
    by_cases h0 : k = 0
    · omega
    · obtain ⟨y, hy, _⟩ := hs (k - 1) _ (by omega) (List.getElem?_eq_getElem (show k - 1 < ms.length by omega))
      have := (List.getElem?_eq_some_iff.1 hy).1
      omega
  by_cases hm : k = ms.length
  · rw [if_pos hm]
    refine ⟨by omega, by omega, rfl, fun i x hx => ?_, fun i x hh _ _ => absurd hh (by omega), ht⟩
    exact hs i x (by have := (List.getElem?_eq_some_iff.1 hx).1; omega) hx
  · rw [if_neg hm, show ((at' : Int) - 0 + k).toNat = at' + k by omega]
    have hl : (ps.take (at' + k)).length = at' + k := by rw [List.length_take]; omega
    have hlow : ∀ j, j < at' + k → (ps.take (at' + k) ++ ms.drop k)[j]? = ps[j]? := fun j hj => by
      rw [List.getElem?_append_left (by omega), List.getElem?_take_of_lt hj]
    have hhigh : ∀ i, k ≤ i → (ps.take (at' + k) ++ ms.drop k)[at' + i]? = ms[i]? := fun i hi => by
      rw [List.getElem?_append_right (by omega), hl, List.getElem?_drop]
      congr 1
      omega
    refine ⟨?_, ?_, ?_, fun i x hx => ?_, fun i x _ hi hx => ?_, ?_⟩
    · rw [List.length_append, hl, List.length_drop]; omega
    · rw [List.length_append, hl, List.length_drop]; omega
    · rw [List.take_append_of_le_length (by omega), List.take_take, Nat.min_eq_left (by omega)]
    · by_cases hi : i < k
      · rw [hlow _ (by omega)]; exact hs i x hi hx
      · exact ⟨x, by rw [hhigh i (by omega)]; exact hx, rfl⟩
    · rw [hhigh i hi]; exact hx
    · by_cases h0 : at' = 0
      · subst h0
        unfold termS at ht ⊢
        rw [if_neg (by omega), if_pos (by rfl)] at ht ⊢
        exact ht
      · obtain ⟨j, rfl⟩ : ∃ j, at' = j + 1 := ⟨at' - 1, by omega⟩
        rw [show ((j + 1 : Nat) : Int) = (j : Int) + 1 by omega, termS_get] at ht ⊢
        rw [hlow _ (by omega)]
        exact ht
theorem FitLaid.again {ps qs ms : List EnP} {at' k : Nat} {t : Int} (h : FitLaid ps qs ms at' k t) : FitTo 0 0 qs at' ms ms.length := by
  refine ⟨Nat.le_refl _, fun j x _ hx => ?_, fun x hx => by simp at hx⟩
  rw [show (at' : Int) + 1 + (j : Int) = ((at' + j : Nat) : Int) + 1 by omega, termS_get]
  exact h.term j x hx
theorem FitLaid.from0 {ps qs ms : List EnP} {at' k : Nat} {t : Int} (h : FitLaid ps qs ms at' k t) : fromS 0 qs 1 at' = ps.take at' := by
  have := fromS_at qs 0 at' (by have := h.len; omega)
  rw [← h.fore]
  simpa using this
theorem FitLaid.got {ps qs ms : List EnP} {at' k : Nat} {t : Int} (h : FitLaid ps qs ms at' k t) : ∃ gs : List EnP, fromS 0 qs ((at' : Int) + 1) ms.length = gs ∧ gs.length = ms.length ∧ (∀ (i : Nat) (x : EnP), ms[i]? = some x → ∃ y : EnP, gs[i]? = some y ∧ y.term = x.term) ∧ ∀ (i : Nat) (x : EnP), k < ms.length → k ≤ i → ms[i]? = some x → gs[i]? = some x := by
  refine ⟨_, fromS_at qs at' ms.length h.len, by have := h.len; rw [List.length_take, List.length_drop]; omega, fun i x hx => ?_, fun i x h1 h2 hx => ?_⟩
  · rw [List.getElem?_take_of_lt (List.getElem?_eq_some_iff.1 hx).1, List.getElem?_drop]
    exact h.term i x hx
  · rw [List.getElem?_take_of_lt (List.getElem?_eq_some_iff.1 hx).1, List.getElem?_drop]
    exact h.new i x h1 h2 hx
end Go.Proofs.Ytknnbnmogjkcnaa
