/- Plain laws on lists of integers: rows of voters, sets of bits, and how many are common. No program. No condition. -/
import Derived.Lib.SlicesCompact
import Derived.Lib.RowBridge
import Derived.Laws.BitsAllLaws
namespace Go.Proofs.Ytidfflippldhjaa

/-- Is a number among these? -/
def hasB (xs : List Int) (n : Int) : Bool := xs.contains n
def inr (x : Int) : Bool := decide (0 < x) && decide (x ≤ 9)
def anyBit (xs : List Int) (i : Nat) : Bool := xs.any fun x => inr x && x.toNat == i
def setStep (s : Nat) (n : Int) : Nat := if 0 < n ∧ n ≤ 9 then s ||| 2 ^ n.toNat else s
/-- Servers, each a bit. -/
def setN (xs : List Int) : Nat := xs.foldl setStep 0
def pc (n : Nat) : Nat := (List.range 10).countP fun i => n.testBit i

theorem setStep_bit (s : Nat) (n : Int) (i : Nat) : (setStep s n).testBit i = (s.testBit i || (inr n && n.toNat == i)) := by
  unfold setStep inr
  by_cases h : 0 < n ∧ n ≤ 9
  · rw [if_pos h, Nat.testBit_or, Nat.testBit_two_pow]
    simp [h.1, h.2]
    rfl
  · rw [if_neg h]
    have : (decide (0 < n) && decide (n ≤ 9)) = false := by simp; omega
    rw [this]; simp
theorem setN_bit (xs : List Int) (i : Nat) : (setN xs).testBit i = anyBit xs i := by
  unfold setN anyBit
  have : ∀ (l : List Int) (s : Nat), (l.foldl setStep s).testBit i = (s.testBit i || l.any fun x => inr x && x.toNat == i) := by
    intro l
    induction l with
    | nil => intro s; simp
    | cons a l ih => intro s; rw [List.foldl_cons, ih, setStep_bit, List.any_cons, Bool.or_assoc]
  rw [this xs 0]; simp

/-- Strictly rising. -/
def Strict (xs : List Int) : Prop := xs.Pairwise (· < ·)

theorem countP_or {α : Type} (p q : α → Bool) (l : List α) (h : ∀ a ∈ l, ¬ (p a = true ∧ q a = true)) : l.countP (fun a => p a || q a) = l.countP p + l.countP q := by
  induction l with
  | nil => rfl
  | cons a l ih =>
    simp only [List.countP_cons]
    rw [ih (fun b hb => h b (List.mem_cons_of_mem _ hb))]
    have := h a (List.mem_cons_self)
    cases hp : p a <;> cases hq : q a <;> simp_all <;> omega

theorem countP_eq_one (n m : Nat) (q : Nat → Bool) (h : m < n) : (List.range n).countP (fun i => m == i && q i) = if q m then 1 else 0 := by
  induction n with
  | zero => omega
  | succ n ih =>
    rw [List.range_succ, List.countP_append]
    by_cases hm : m < n
    · rw [ih hm]
      have : (m == n) = false := by simp; omega
      simp [this]
    · obtain rfl : m = n := by omega
      have : (List.range m).countP (fun i => m == i && q i) = 0 := by
        rw [List.countP_eq_zero]
        intro a ha
        have := List.mem_range.1 ha
        simp; omega
      rw [this]; simp [List.countP_cons]

theorem anyBit_cons (x : Int) (xs : List Int) (i : Nat) : anyBit (x :: xs) i = ((inr x && x.toNat == i) || anyBit xs i) := by simp [anyBit]
theorem anyBit_mem {xs : List Int} {x : Int} (h : inr x = true) : anyBit xs x.toNat = xs.contains x := by
  unfold anyBit
  rw [Bool.eq_iff_iff, List.any_eq_true, List.contains_iff_mem]
  unfold inr at *
  constructor
  · rintro ⟨y, hy, he⟩
    simp at he h
    obtain rfl : y = x := by omega
    exact hy
  · intro hx
    exact ⟨x, hx, by simpa using h⟩

theorem count_bits (xs : List Int) (hs : Strict xs) (q : Nat → Bool) : (List.range 10).countP (fun i => anyBit xs i && q i) = xs.countP fun x => inr x && q x.toNat := by
  induction xs with
  | nil => simp [anyBit]
  | cons x xs ih =>
    have hx := List.pairwise_cons.1 hs
    rw [List.countP_cons, ← ih hx.2]
    have e : (fun i => anyBit (x :: xs) i && q i) = (fun i => (inr x && (x.toNat == i && q i)) || (anyBit xs i && q i)) := by
      funext i
      rw [anyBit_cons]
      cases inr x <;> cases (x.toNat == i) <;> cases anyBit xs i <;> cases q i <;> rfl
    rw [e]
    cases hi : inr x
    · simp
    · have hi' := hi
      unfold inr at hi'
      simp at hi'
      rw [countP_or]
      · have : (List.range 10).countP (fun i => true && (x.toNat == i && q i)) = if q x.toNat then 1 else 0 := by
          have := countP_eq_one 10 x.toNat q (by omega)
          simpa using this
        rw [this]
        simp
        omega
      · intro i _ ⟨h1, h2⟩
        simp at h1 h2
        have h3 : anyBit xs x.toNat = true := by rw [h1.1]; exact h2.1
        rw [anyBit_mem hi, List.contains_iff_mem] at h3
        have := hx.1 x h3
        omega

/-- May voters be? (P22.1) -/
def chain : Int → List Int → Bool
  | _, [] => true
  | last, x :: xs => decide (last < x) && decide (x ≤ 9) && chain x xs
def rightS (xs : List Int) : Bool := chain 0 xs && decide (1 ≤ xs.length) && decide (xs.length ≤ 7)

theorem chain_iff (xs : List Int) : ∀ last : Int, chain last xs = true ↔ (∀ x ∈ xs, last < x ∧ x ≤ 9) ∧ Strict xs := by
  induction xs with
  | nil => intro last; simp [chain, Strict]
  | cons x xs ih =>
    intro last
    simp only [chain, Bool.and_eq_true, decide_eq_true_eq, ih, List.mem_cons, forall_eq_or_imp, Strict, List.pairwise_cons]
    constructor
    · rintro ⟨⟨h1, h2⟩, h3, h4⟩
      exact ⟨⟨⟨h1, h2⟩, fun y hy => ⟨by have := (h3 y hy).1; omega, (h3 y hy).2⟩⟩, fun y hy => (h3 y hy).1, h4⟩
    · rintro ⟨⟨⟨h1, h2⟩, h3⟩, h4, h5⟩
      exact ⟨⟨h1, h2⟩, fun y hy => ⟨h4 y hy, (h3 y hy).2⟩, h5⟩
theorem right_iff (xs : List Int) : rightS xs = true ↔ (∀ x ∈ xs, inr x = true) ∧ Strict xs ∧ 1 ≤ xs.length ∧ xs.length ≤ 7 := by
  unfold rightS inr
  simp only [Bool.and_eq_true, decide_eq_true_eq, chain_iff]
  constructor
  · rintro ⟨⟨⟨h1, h2⟩, h3⟩, h4⟩; exact ⟨h1, h2, h3, h4⟩
  · rintro ⟨h1, h2, h3, h4⟩; exact ⟨⟨⟨h1, h2⟩, h3⟩, h4⟩

theorem pc_set (xs : List Int) (hs : Strict xs) : pc (setN xs) = xs.countP inr := by
  have := count_bits xs hs (fun _ => true)
  simp only [Bool.and_true] at this
  rw [← this]
  unfold pc
  congr 1
  funext i
  exact setN_bit xs i
theorem pc_and (v w : List Int) (hv : rightS v = true) : pc (setN v &&& setN w) = v.countP fun x => w.contains x := by
  obtain ⟨h1, h2, _, _⟩ := (right_iff v).1 hv
  have := count_bits v h2 (fun i => anyBit w i)
  unfold pc
  rw [show (fun i => (setN v &&& setN w).testBit i) = (fun i => anyBit v i && anyBit w i) from by funext i; rw [Nat.testBit_and, setN_bit, setN_bit], this]
  apply List.countP_congr
  intro x hx
  rw [h1 x hx, anyBit_mem (h1 x hx)]; simp
theorem pc_xor (v w : List Int) (hv : rightS v = true) (hw : rightS w = true) : pc (setN v ^^^ setN w) = (v.countP fun x => !w.contains x) + (w.countP fun x => !v.contains x) := by
  obtain ⟨h1, h2, _, _⟩ := (right_iff v).1 hv
  obtain ⟨k1, k2, _, _⟩ := (right_iff w).1 hw
  have a := count_bits v h2 (fun i => !anyBit w i)
  have b := count_bits w k2 (fun i => !anyBit v i)
  unfold pc
  rw [show (fun i => (setN v ^^^ setN w).testBit i) = (fun i => (anyBit v i && !anyBit w i) || (anyBit w i && !anyBit v i)) from by funext i; rw [Nat.testBit_xor, setN_bit, setN_bit]; cases anyBit v i <;> cases anyBit w i <;> rfl, countP_or, a, b]
  · congr 1
    · apply List.countP_congr
      intro x hx
      rw [h1 x hx, anyBit_mem (h1 x hx)]; simp
    · apply List.countP_congr
      intro x hx
      rw [k1 x hx, anyBit_mem (k1 x hx)]; simp
  · intro i _ ⟨q1, q2⟩
    simp at q1 q2
    rw [q1.1] at q2; simp at q2

/-- Never less than the one before. -/
def Rises (xs : List Int) : Prop := ∀ j, 0 < j → j < xs.length → ¬ xs.getD j 0 < xs.getD (j - 1) 0
def risesB (xs : List Int) : Bool := (List.range xs.length).all fun j => decide (0 < j → ¬ xs.getD j 0 < xs.getD (j - 1) 0)
theorem risesB_iff (xs : List Int) : risesB xs = true ↔ Rises xs := by
  unfold risesB Rises
  simp only [List.all_eq_true, List.mem_range, decide_eq_true_eq]
  exact ⟨fun h j h0 hj => h j hj h0, fun h j hj h0 => h j h0 hj⟩

theorem strict_of_steps {xs : List Int} (h : ∀ j, 0 < j → j < xs.length → xs.getD (j - 1) 0 < xs.getD j 0) : Strict xs := by
  unfold Strict
  rw [List.pairwise_iff_getElem]
  intro i j hi hj hij
  have key : ∀ d, ∀ i, i + d + 1 < xs.length → xs.getD i 0 < xs.getD (i + d + 1) 0 := by
    intro d
    induction d with
    | zero => intro i hi; have := h (i + 1) (by omega) (by omega); simpa using this
    | succ d ih => intro i hi; have h1 := ih i (by omega); have h2 := h (i + (d + 1) + 1) (by omega) (by omega); have e : i + (d + 1) + 1 - 1 = i + d + 1 := by omega
                   rw [e] at h2; omega
  have := key (j - i - 1) i (by omega)
  rw [show i + (j - i - 1) + 1 = j by omega] at this
  simpa [List.getD, List.getElem?_eq_getElem hi, List.getElem?_eq_getElem hj] using this
theorem steps_of_strict {xs : List Int} (h : Strict xs) (j : Nat) (h0 : 0 < j) (hj : j < xs.length) : xs.getD (j - 1) 0 < xs.getD j 0 := by
  have := (List.pairwise_iff_getElem.1 h) (j - 1) j (by omega) hj (by omega)
  simpa [List.getD, List.getElem?_eq_getElem hj, List.getElem?_eq_getElem (show j - 1 < xs.length by omega)] using this

theorem compact_len (xs : List Int) : (Lib.compact xs).length = xs.length ↔ ∀ j, 0 < j → j < xs.length → xs.getD j 0 ≠ xs.getD (j - 1) 0 := by
  unfold Lib.compact Lib.compactUpTo
  rw [List.length_map]
  have e : ((List.range xs.length).filter (Lib.keeps xs.toArray)).length = xs.length ↔ ∀ j, j < xs.length → Lib.keeps xs.toArray j = true := by
    constructor
    · intro h j hj
      have h2 : (List.range xs.length).filter (Lib.keeps xs.toArray) = List.range xs.length := by
        apply List.Sublist.eq_of_length (List.filter_sublist)
        rw [h]; simp
      exact (List.filter_eq_self.1 h2) j (List.mem_range.2 hj)
    · intro h
      rw [List.filter_eq_self.2 (fun j hj => h j (List.mem_range.1 hj))]; simp
  rw [e]
  have g : ∀ j, j < xs.length → xs.toArray[j]! = xs.getD j 0 := fun j hj => by simp [List.getD, List.getElem?_eq_getElem hj]
  constructor
  · intro h j h0 hj hc
    have := h j hj
    rw [Lib.keeps_neg h0 (by rw [g j hj, g (j - 1) (by omega)]; exact hc)] at this
    cases this
  · intro h j hj
    by_cases h0 : j = 0
    · subst h0; simp [Lib.keeps]
    · exact Lib.keeps_pos (by rw [g j hj, g (j - 1) (by omega)]; exact h j (by omega) hj)

/-- What the program asks of voters, is what the document asks. -/
theorem right_eq (xs : List Int) (h0 : 0 < xs.length) (h7 : xs.length ≤ 7) : ((risesB xs && decide ((Lib.compact xs).length = xs.length)) && decide (pc (setN xs) = xs.length)) = rightS xs := by
  rw [Bool.eq_iff_iff, right_iff]
  simp only [Bool.and_eq_true, decide_eq_true_eq, risesB_iff, compact_len]
  constructor
  · rintro ⟨⟨h1, h2⟩, h3⟩
    have hs : Strict xs := strict_of_steps fun j a b => by have := h1 j a b; have := h2 j a b; omega
    rw [pc_set xs hs, List.countP_eq_length] at h3
    exact ⟨h3, hs, h0, h7⟩
  · rintro ⟨h1, h2, _, _⟩
    refine ⟨⟨fun j a b => ?_, fun j a b => ?_⟩, ?_⟩
    · have := steps_of_strict h2 j a b; omega
    · have := steps_of_strict h2 j a b; omega
    · rw [pc_set xs h2, List.countP_eq_length]; exact h1

def commonS (v w : List Int) : Nat := v.countP fun x => hasB w x
def enoughS (v w : List Int) : Bool := rightS v && decide (v.length < 2 * commonS v w)
def moreS (a b : List Int) : Nat := a.countP fun x => !hasB b x
def stepS (v w : List Int) : Bool := rightS v && rightS w && decide (moreS v w + moreS w v = 1)
theorem pc_and' (v w : List Int) (hv : rightS v = true) : pc (setN v &&& setN w) = commonS v w := pc_and v w hv
theorem pc_xor' (v w : List Int) (hv : rightS v = true) (hw : rightS w = true) : pc (setN v ^^^ setN w) = moreS v w + moreS w v := pc_xor v w hv hw
theorem countP_take {p : Int → Bool} {xs : List Int} {k : Nat} (h : k < xs.length) : (xs.take (k + 1)).countP p = (xs.take k).countP p + (if p (xs.getD k 0) = true then 1 else 0) := by
  rw [List.take_succ_eq_append_getElem h, List.countP_append]
  simp [List.getD, List.getElem?_eq_getElem h, List.countP_cons]
theorem commonS_take {v u : List Int} {k : Nat} (h : k < v.length) : commonS (v.take (k + 1)) u = commonS (v.take k) u + (if hasB u (v.getD k 0) = true then 1 else 0) := countP_take h
theorem moreS_take {v u : List Int} {k : Nat} (h : k < v.length) : moreS (v.take (k + 1)) u = moreS (v.take k) u + (if hasB u (v.getD k 0) = true then 0 else 1) := by
  unfold moreS
  rw [countP_take h]
  cases hasB u (v.getD k 0) <;> simp
theorem moreS_le (v u : List Int) : moreS v u ≤ v.length := List.countP_le_length
theorem commonS_le (v u : List Int) : commonS v u ≤ v.length := List.countP_le_length
/-- Of the first k all is right so far; the last one of them. -/
def chainUpto (xs : List Int) (k : Nat) : Prop := chain 0 (xs.take k) = true
def lastOf (xs : List Int) (k : Nat) : Int := if k = 0 then 0 else xs.getD (k - 1) 0
theorem chain_append (l : List Int) (y : Int) : ∀ a : Int, chain a (l ++ [y]) = (chain a l && (decide ((l.getLast?).getD a < y) && decide (y ≤ 9))) := by
  induction l with
  | nil => intro a; show (decide (a < y) && decide (y ≤ 9) && true) = (true && (decide (a < y) && decide (y ≤ 9))); rw [Bool.and_true, Bool.true_and]
  | cons x l ih =>
    intro a
    have e : ((x :: l).getLast?).getD a = (l.getLast?).getD x := by
      cases l with
      | nil => rfl
      | cons z l => rw [List.getLast?_cons_cons, List.getLast?_eq_some_getLast (by simp)]; rfl
    rw [List.cons_append, chain, ih, chain, e, Bool.and_assoc, Bool.and_assoc, Bool.and_assoc]
theorem chain_step {xs : List Int} {k : Nat} (h : k < xs.length) : chain 0 (xs.take (k + 1)) = (chain 0 (xs.take k) && (decide (lastOf xs k < xs.getD k 0) && decide (xs.getD k 0 ≤ 9))) := by
  rw [List.take_succ_eq_append_getElem h, chain_append]
  have e1 : xs[k] = xs.getD k 0 := by simp [List.getD, List.getElem?_eq_getElem h]
  have e2 : ((xs.take k).getLast?).getD 0 = lastOf xs k := by
    unfold lastOf
    by_cases h0 : k = 0
    · subst h0; simp
    · rw [if_neg h0, List.getLast?_take, if_neg h0]
      simp [List.getD, List.getElem?_eq_getElem (show k - 1 < xs.length by omega)]
  rw [e1, e2]
theorem chain_mono {xs : List Int} {k : Nat} (h : chain 0 (xs.take k) = false) : chain 0 xs = false := by
  rw [Bool.eq_false_iff] at *
  intro hc
  apply h
  rw [chain_iff] at *
  exact ⟨fun x hx => hc.1 x (List.mem_of_mem_take hx), List.Pairwise.sublist (List.take_sublist _ _) hc.2⟩
end Go.Proofs.Ytidfflippldhjaa
