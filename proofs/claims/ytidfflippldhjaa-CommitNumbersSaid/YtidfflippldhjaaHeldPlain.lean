/- Plain laws on what voters have together. No program. No condition but that the voters are right. -/
import Derived.Test.YtidfflippldhjaaQuorumPlain
namespace Go.Proofs.Ytidfflippldhjaa

def haveS (f : Int → Int) (n : Int) (vs : List Int) : List Int := vs.filter fun x => decide (n ≤ f x)
def indexStep (vs : List Int) (f : Int → Int) (best v : Int) : Int := if best < f v ∧ enoughS vs (haveS f (f v) vs) = true then f v else best
/-- Up to where enough voters have the log (P25.1). -/
def indexS (vs : List Int) (f : Int → Int) : Int := vs.foldl (indexStep vs f) 0

theorem step_ge (vs : List Int) (f : Int → Int) (b v : Int) : b ≤ indexStep vs f b v := by
  unfold indexStep; split <;> omega
theorem fold_ge (vs : List Int) (f : Int → Int) : ∀ (l : List Int) (b : Int), b ≤ l.foldl (indexStep vs f) b := by
  intro l
  induction l with
  | nil => intro b; exact Int.le_refl _
  | cons a l ih => intro b; exact Int.le_trans (step_ge vs f b a) (ih _)
theorem fold_mem (vs : List Int) (f : Int → Int) : ∀ (l : List Int) (b : Int) (v : Int), v ∈ l → enoughS vs (haveS f (f v) vs) = true → f v ≤ l.foldl (indexStep vs f) b := by
  intro l
  induction l with
  | nil => intro b v h; cases h
  | cons a l ih =>
    intro b v h he
    rcases List.mem_cons.1 h with rfl | h
    · refine Int.le_trans ?_ (fold_ge vs f l _)
      unfold indexStep
      by_cases hb : b < f v
      · rw [if_pos ⟨hb, he⟩]; exact Int.le_refl _
      · rw [if_neg (fun h => hb h.1)]; omega
    · exact ih _ v h he
theorem fold_is (vs : List Int) (f : Int → Int) : ∀ (l : List Int) (b : Int), l.foldl (indexStep vs f) b = b ∨ ∃ v ∈ l, l.foldl (indexStep vs f) b = f v ∧ b < f v ∧ enoughS vs (haveS f (f v) vs) = true := by
  intro l
  induction l with
  | nil => intro b; exact Or.inl rfl
  | cons a l ih =>
    intro b
    rw [List.foldl_cons]
    by_cases h : b < f a ∧ enoughS vs (haveS f (f a) vs) = true
    · have e : indexStep vs f b a = f a := if_pos h
      rw [e]
      rcases ih (f a) with h1 | ⟨v, hv, h1, h2, h3⟩
      · exact Or.inr ⟨a, List.mem_cons_self, h1, h.1, h.2⟩
      · exact Or.inr ⟨v, List.mem_cons_of_mem _ hv, h1, by omega, h3⟩
    · have e : indexStep vs f b a = b := if_neg h
      rw [e]
      rcases ih b with h1 | ⟨v, hv, h1, h2, h3⟩
      · exact Or.inl h1
      · exact Or.inr ⟨v, List.mem_cons_of_mem _ hv, h1, h2, h3⟩
theorem common_have (f : Int → Int) (t : Int) (vs : List Int) : commonS vs (haveS f t vs) = vs.countP fun x => decide (t ≤ f x) := by
  unfold commonS
  apply List.countP_congr
  intro x hx
  unfold hasB haveS
  rw [List.contains_iff_mem, List.mem_filter]
  simp [hx]
theorem min_of (f : Int → Int) : ∀ (l : List Int), l ≠ [] → ∃ v ∈ l, ∀ x ∈ l, f v ≤ f x := by
  intro l
  induction l with
  | nil => intro h; exact absurd rfl h
  | cons a l ih =>
    intro _
    by_cases hl : l = []
    · subst hl; exact ⟨a, List.mem_cons_self, fun x hx => by simp at hx; subst hx; exact Int.le_refl _⟩
    · obtain ⟨v, hv, h⟩ := ih hl
      by_cases hc : f a ≤ f v
      · exact ⟨a, List.mem_cons_self, fun x hx => by rcases List.mem_cons.1 hx with rfl | hx; exact Int.le_refl _; exact Int.le_trans hc (h x hx)⟩
      · exact ⟨v, List.mem_cons_of_mem _ hv, fun x hx => by rcases List.mem_cons.1 hx with rfl | hx; omega; exact h x hx⟩
/-- If more than half have at least t, t is reached. -/
theorem index_ge {vs : List Int} {f : Int → Int} {t : Int} (hr : rightS vs = true) (h : vs.length < 2 * vs.countP fun x => decide (t ≤ f x)) : t ≤ indexS vs f := by
  have hne : vs.filter (fun x => decide (t ≤ f x)) ≠ [] := by
    intro e
    rw [List.countP_eq_length_filter, e] at h
    simp at h
  obtain ⟨v, hv, hmin⟩ := min_of f _ hne
  rw [List.mem_filter] at hv
  have htv : t ≤ f v := by simpa using hv.2
  have he : enoughS vs (haveS f (f v) vs) = true := by
    unfold enoughS
    rw [hr, common_have, Bool.true_and, decide_eq_true_eq]
    have e : vs.countP (fun x => decide (f v ≤ f x)) = vs.countP fun x => decide (t ≤ f x) := by
      apply List.countP_congr
      intro x hx
      simp only [decide_eq_true_eq]
      exact ⟨fun h => by omega, fun h => hmin x (List.mem_filter.2 ⟨hx, by simpa using h⟩)⟩
    rw [e]; exact h
  exact Int.le_trans htv (fold_mem vs f vs 0 v hv.1 he)
theorem index_nonneg (vs : List Int) (f : Int → Int) : 0 ≤ indexS vs f := fold_ge vs f vs 0

def haveN (vs : List Int) (f : Int → Int) (n : Int) : Nat := vs.countP fun x => decide (n ≤ max (f x) 0)
def moreN (vs : List Int) (f : Int → Int) (n : Int) : Nat := vs.countP fun x => decide (n < max (f x) 0)
def someB (vs : List Int) (f : Int → Int) (n : Int) : Bool := vs.any fun x => decide (max (f x) 0 = n)
theorem held_some {vs : List Int} {f : Int → Int} : (decide (indexS vs f = 0) || someB vs f (indexS vs f)) = true := by
  rcases fold_is vs f vs 0 with h | ⟨v, hv, h1, h2, _⟩
  · rw [Bool.or_eq_true]; left; exact decide_eq_true h
  · rw [Bool.or_eq_true]; right
    unfold someB
    rw [List.any_eq_true]
    exact ⟨v, hv, by rw [decide_eq_true_eq]; show max (f v) 0 = List.foldl (indexStep vs f) 0 vs; rw [h1]; omega⟩
theorem held_have {vs : List Int} {f : Int → Int} (hr : rightS vs = true) : vs.length < 2 * haveN vs f (indexS vs f) := by
  have hl := ((right_iff vs).1 hr).2.2.1
  rcases fold_is vs f vs 0 with h | ⟨v, hv, h1, h2, h3⟩
  · have e : indexS vs f = 0 := h
    rw [e]
    have : haveN vs f 0 = vs.length := by
      unfold haveN
      rw [List.countP_eq_length]
      intro x _; simp; omega
    omega
  · have e : indexS vs f = f v := h1
    rw [e]
    unfold enoughS at h3
    rw [hr, common_have, Bool.true_and, decide_eq_true_eq] at h3
    have : haveN vs f (f v) = vs.countP fun x => decide (f v ≤ f x) := by
      unfold haveN
      apply List.countP_congr
      intro x _
      simp only [decide_eq_true_eq]; omega
    omega
theorem held_more {vs : List Int} {f : Int → Int} (hr : rightS vs = true) : 2 * moreN vs f (indexS vs f) ≤ vs.length := by
  by_cases h : 2 * moreN vs f (indexS vs f) ≤ vs.length
  · exact h
  · exfalso
    have h0 := index_nonneg vs f
    have e : moreN vs f (indexS vs f) = vs.countP fun x => decide (indexS vs f + 1 ≤ f x) := by
      unfold moreN
      apply List.countP_congr
      intro x _
      simp only [decide_eq_true_eq]; omega
    have := index_ge (t := indexS vs f + 1) hr (by rw [← e]; omega)
    omega
theorem held_grows {vs : List Int} {f g : Int → Int} (hr : rightS vs = true) (hfg : ∀ x, f x ≤ g x) : indexS vs f ≤ indexS vs g := by
  rcases fold_is vs f vs 0 with h | ⟨v, hv, h1, h2, h3⟩
  · have e : indexS vs f = 0 := h
    rw [e]; exact index_nonneg vs g
  · have e : indexS vs f = f v := h1
    rw [e]
    unfold enoughS at h3
    rw [hr, common_have, Bool.true_and, decide_eq_true_eq] at h3
    apply index_ge hr
    refine Nat.lt_of_lt_of_le h3 (Nat.mul_le_mul_left 2 (List.countP_mono_left fun x _ => ?_))
    simp only [decide_eq_true_eq]
    intro hx; exact Int.le_trans hx (hfg x)
theorem held_same {vs : List Int} {f g : Int → Int} (hfg : ∀ x ∈ vs, f x = g x) : indexS vs f = indexS vs g := by
  have e : ∀ b, ∀ v ∈ vs, indexStep vs f b v = indexStep vs g b v := by
    intro b v hv
    unfold indexStep
    have e2 : haveS f (f v) vs = haveS g (g v) vs := by
      unfold haveS
      apply List.filter_congr
      intro x hx
      rw [hfg x hx, hfg v hv]
    rw [e2, hfg v hv]
  unfold indexS
  have : ∀ (l : List Int) (b : Int), (∀ x ∈ l, x ∈ vs) → l.foldl (indexStep vs f) b = l.foldl (indexStep vs g) b := by
    intro l
    induction l with
    | nil => intro b _; rfl
    | cons a l ih =>
      intro b h
      rw [List.foldl_cons, List.foldl_cons, e b a (h a List.mem_cons_self)]
      exact ih _ (fun x hx => h x (List.mem_cons_of_mem _ hx))
  exact this vs 0 (fun x hx => hx)
end Go.Proofs.Ytidfflippldhjaa
