/- Plain laws on the servers of a number's bits: any two that are enough meet, and more are enough, too. No program. No condition. -/
import Derived.Test.YtnkmhcimibjihaaQuorumPlain
namespace Go.Proofs.Ytnkmhcimibjihaa

/-- The servers of a number's first k bits. -/
def srv (m k : Nat) : List Int := ((List.range k).filter fun i => m.testBit i).map fun (i : Nat) => (i : Int) + 1
theorem srv_succ (m k : Nat) : srv m (k + 1) = srv m k ++ (if m.testBit k = true then [(k : Int) + 1] else []) := by
  unfold srv
  rw [List.range_succ, List.filter_append, List.map_append]
  cases h : m.testBit k <;> simp [h]
theorem srv_len (m k : Nat) : (srv m k).length ≤ k := by
  unfold srv
  rw [List.length_map]
  exact Nat.le_trans (List.length_filter_le _ _) (by simp)

def cnt (p : Nat → Bool) : Nat := (List.range 9).countP p
theorem srv_has (m : Nat) (i : Nat) (hi : i < 9) : hasB (srv m 9) ((i : Int) + 1) = m.testBit i := by
  unfold hasB srv
  rw [Bool.eq_iff_iff, List.contains_iff_mem, List.mem_map]
  constructor
  · rintro ⟨j, hj, e⟩
    obtain rfl : j = i := by omega
    exact (List.mem_filter.1 hj).2
  · intro h
    exact ⟨i, List.mem_filter.2 ⟨List.mem_range.2 hi, h⟩, rfl⟩
theorem srv_count (m : Nat) (q : Int → Bool) : (srv m 9).countP q = cnt fun i => q ((i : Int) + 1) && m.testBit i := by
  unfold srv cnt
  rw [List.countP_map, List.countP_filter]
  rfl
theorem srv_length (m : Nat) : (srv m 9).length = cnt fun i => m.testBit i := by
  unfold srv cnt
  rw [List.length_map, List.countP_eq_length_filter]
theorem cnt_congr {p q : Nat → Bool} (h : ∀ i, i < 9 → p i = q i) : cnt p = cnt q := by
  unfold cnt
  apply List.countP_congr
  intro i hi
  rw [h i (List.mem_range.1 hi)]
theorem cnt_mono {p q : Nat → Bool} (h : ∀ i, p i = true → q i = true) : cnt p ≤ cnt q := List.countP_mono_left fun i _ => h i
theorem cnt_or {p q : Nat → Bool} (h : ∀ i, i < 9 → ¬ (p i = true ∧ q i = true)) : cnt (fun i => p i || q i) = cnt p + cnt q :=
  countP_or p q _ fun i hi => h i (List.mem_range.1 hi)
theorem common_srv (v u : Nat) : commonS (srv v 9) (srv u 9) = cnt fun i => u.testBit i && v.testBit i := by
  unfold commonS
  rw [srv_count]
  exact cnt_congr fun i hi => by rw [srv_has _ i hi]
theorem more_srv (v u : Nat) : moreS (srv v 9) (srv u 9) = cnt fun i => (!u.testBit i) && v.testBit i := by
  unfold moreS
  rw [srv_count]
  exact cnt_congr fun i hi => by rw [srv_has _ i hi]
theorem srv_strict (m k : Nat) : Strict (srv m k) := by
  unfold Strict srv
  rw [List.pairwise_map]
  apply List.Pairwise.filter
  exact List.Pairwise.imp (fun h => by omega) List.pairwise_lt_range
theorem srv_inr (m : Nat) : ∀ x ∈ srv m 9, inr x = true := by
  intro x hx
  obtain ⟨i, hi, rfl⟩ := List.mem_map.1 hx
  have := List.mem_range.1 (List.mem_filter.1 hi).1
  unfold inr
  simp; omega
theorem right_srv (m : Nat) : rightS (srv m 9) = (decide (1 ≤ (srv m 9).length) && decide ((srv m 9).length ≤ 7)) := by
  rw [Bool.eq_iff_iff, right_iff]
  simp only [Bool.and_eq_true, decide_eq_true_eq]
  exact ⟨fun h => h.2.2, fun h => ⟨srv_inr m, srv_strict m 9, h⟩⟩

/-- Any two that are enough, of the same voters or of voters one step apart, have one in common. -/
theorem meets {v n a b : Nat} (ha : enoughS (srv v 9) (srv a 9) = true) (hb : enoughS (srv n 9) (srv b 9) = true) (hs : v = n ∨ stepS (srv v 9) (srv n 9) = true) : a &&& b ≠ 0 := by
  intro h0
  simp only [enoughS, Bool.and_eq_true, decide_eq_true_eq, common_srv, srv_length] at ha hb
  have hd : (cnt fun i => (!n.testBit i) && v.testBit i) + (cnt fun i => (!v.testBit i) && n.testBit i) ≤ 1 := by
    rcases hs with rfl | hs
    · have e : (cnt fun i => (!v.testBit i) && v.testBit i) = 0 := by
        rw [cnt_congr (q := fun _ => false) (fun i _ => by cases v.testBit i <;> rfl)]
        simp [cnt]
      omega
    · simp only [stepS, Bool.and_eq_true, decide_eq_true_eq, more_srv] at hs
      omega
  have hno : ∀ i, ¬ (a.testBit i = true ∧ b.testBit i = true) := by
    rintro i ⟨h1, h2⟩
    have : (a &&& b).testBit i = true := by rw [Nat.testBit_and, h1, h2]; rfl
    rw [h0] at this
    simp at this
  have h1 := cnt_or (p := fun i => a.testBit i && v.testBit i) (q := fun i => b.testBit i && n.testBit i) (fun i _ ⟨x, y⟩ => by simp at x y; exact hno i ⟨x.1, y.1⟩)
  have h2 : (cnt fun i => (a.testBit i && v.testBit i) || (b.testBit i && n.testBit i)) ≤ cnt fun i => v.testBit i || n.testBit i := cnt_mono fun i h => by
    simp at h ⊢; rcases h with h | h
    · exact Or.inl h.2
    · exact Or.inr h.2
  have h3 : (cnt fun i => v.testBit i || n.testBit i) = (cnt fun i => v.testBit i) + cnt fun i => (!v.testBit i) && n.testBit i := by
    rw [← cnt_or (fun i _ ⟨x, y⟩ => by simp at x y; rw [x] at y; simp at y)]
    exact cnt_congr fun i _ => by cases v.testBit i <;> cases n.testBit i <;> rfl
  have h4 : (cnt fun i => v.testBit i || n.testBit i) = (cnt fun i => n.testBit i) + cnt fun i => (!n.testBit i) && v.testBit i := by
    rw [← cnt_or (fun i _ ⟨x, y⟩ => by simp at x y; rw [x] at y; simp at y)]
    exact cnt_congr fun i _ => by cases v.testBit i <;> cases n.testBit i <;> rfl
  omega

/-- Who is enough stays so with more. -/
theorem grows {v a b : Nat} (h : enoughS (srv v 9) (srv a 9) = true) : enoughS (srv v 9) (srv (a ||| b) 9) = true := by
  simp only [enoughS, Bool.and_eq_true, decide_eq_true_eq, common_srv] at h ⊢
  refine ⟨h.1, Nat.lt_of_lt_of_le h.2 (Nat.mul_le_mul_left 2 (cnt_mono fun i hi => ?_))⟩
  simp at hi ⊢
  exact ⟨Or.inl hi.1, hi.2⟩
theorem enough_all (v : Nat) : enoughS (srv v 9) (srv v 9) = rightS (srv v 9) := by
  unfold enoughS
  have e : commonS (srv v 9) (srv v 9) = (srv v 9).length := by
    rw [common_srv, srv_length]
    exact cnt_congr fun i _ => by cases v.testBit i <;> rfl
  rw [e, right_srv, Bool.eq_iff_iff]
  simp
  omega
theorem enough_none (v : List Int) : enoughS v [] = false := by
  have e : commonS v [] = 0 := by unfold commonS hasB; simp
  unfold enoughS
  rw [e]; simp
end Go.Proofs.Ytnkmhcimibjihaa
