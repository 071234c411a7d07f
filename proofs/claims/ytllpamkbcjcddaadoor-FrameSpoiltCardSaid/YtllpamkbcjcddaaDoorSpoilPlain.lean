/- Bits that were turned make another sum, in plain Lean: the sum is linear over bits, and 32 bits that stand one behind the other never fall away. No program. Conditions: bytes are below 256, what is turned is below 2 to the 32 and not 0. -/
import Derived.Test.YtllpamkbcjcddaaDoorSumPlain
namespace Go.Proofs.YtllpamkbcjcddaaDoor
open Go

theorem xor_half (a b : Nat) : (a ^^^ b) / 2 = a / 2 ^^^ b / 2 := by
  have := Nat.shiftRight_xor_distrib (a := a) (b := b) (i := 1)
  simpa [Nat.shiftRight_eq_div_pow] using this
theorem xor_odd (a b : Nat) : (a ^^^ b) % 2 = (a % 2 + b % 2) % 2 := by
  have h := Nat.xor_mod_two_pow (a := a) (b := b) (n := 1)
  rw [Nat.pow_one] at h
  rw [h]
  rcases Nat.mod_two_eq_zero_or_one a with ha | ha <;> rcases Nat.mod_two_eq_zero_or_one b with hb | hb <;> rw [ha, hb] <;> rfl
theorem xor_swap (a b c d : Nat) : (a ^^^ b) ^^^ (c ^^^ d) = (a ^^^ c) ^^^ (b ^^^ d) := by
  rw [Nat.xor_assoc, Nat.xor_assoc, ← Nat.xor_assoc b c d, Nat.xor_comm b c, Nat.xor_assoc c b d]
theorem bitN_xor (a b : Nat) : bitN (a ^^^ b) = bitN a ^^^ bitN b := by
  unfold bitN
  rw [xor_half, xor_odd, xor_swap]
  congr 1
  rcases Nat.mod_two_eq_zero_or_one a with ha | ha <;> rcases Nat.mod_two_eq_zero_or_one b with hb | hb <;> rw [ha, hb] <;> simp
theorem bitN_two (a : Nat) : bitN (2 * a) = a := by
  unfold bitN
  rw [if_neg (by omega), Nat.xor_zero]
  omega
theorem itN_xor (j a b : Nat) : itN j (a ^^^ b) = itN j a ^^^ itN j b := by
  induction j with
  | zero => rfl
  | succ j ih => show bitN (itN j (a ^^^ b)) = _; rw [ih, bitN_xor]; rfl
theorem itN_add (i j a : Nat) : itN (i + j) a = itN i (itN j a) := by
  induction i with
  | zero => rw [Nat.zero_add]; rfl
  | succ i ih => rw [Nat.succ_add]; show bitN (itN (i + j) a) = bitN (itN i (itN j a)); rw [ih]
theorem itN_pow (j a : Nat) : itN j (2 ^ j * a) = a := by
  induction j generalizing a with
  | zero => show 2 ^ 0 * a = a; rw [Nat.pow_zero, Nat.one_mul]
  | succ j ih =>
    show bitN (itN j (2 ^ (j + 1) * a)) = a
    rw [Nat.pow_succ, Nat.mul_assoc, ih, bitN_two]
theorem bitN_zero {a : Nat} (h : a < 4294967296) (h0 : bitN a = 0) : a = 0 := by
  unfold bitN at h0
  by_cases h2 : a % 2 = 1
  · rw [if_pos h2] at h0
    have h3 : a / 2 = 3988292384 := by
      have := congrArg (· ^^^ 3988292384) h0
      simpa [Nat.xor_assoc] using this
    omega
  · rw [if_neg h2, Nat.xor_zero] at h0
    omega
theorem itN_zero {a : Nat} (h : a < 4294967296) (j : Nat) (h0 : itN j a = 0) : a = 0 := by
  induction j with
  | zero => exact h0
  | succ j ih => exact ih (bitN_zero (itN_lt h j) h0)

/-- Bytes as one number, the first one lowest. -/
def numN : List Int → Nat
  | [] => 0
  | x :: xs => x.toNat ^^^ 256 * numN xs
theorem sum_num (xs : List Int) (s : Nat) : xs.foldl byteN s = itN (8 * xs.length) (s ^^^ numN xs) := by
  induction xs generalizing s with
  | nil => simp [numN, itN]
  | cons x xs ih =>
    rw [List.foldl_cons, ih, List.length_cons, show 8 * (xs.length + 1) = 8 * xs.length + 8 by omega, itN_add]
    congr 1
    have e : numN (x :: xs) = x.toNat ^^^ 256 * numN xs := rfl
    rw [e]
    unfold byteN
    rw [← Nat.xor_assoc, itN_xor 8 (s ^^^ x.toNat), show 256 * numN xs = 2 ^ 8 * numN xs by rfl, itN_pow]
theorem sum_differs {xs ys : List Int} (hl : xs.length = ys.length) {at' t : Nat} (ht : t < 4294967296) (ht0 : t ≠ 0) (hat : at' ≤ 8 * xs.length) (h : numN ys = numN xs ^^^ 2 ^ at' * t) : sumS xs ≠ sumS ys := by
  intro he
  unfold sumS sumTo at he
  rw [List.take_length, List.take_length] at he
  have h1 : xs.foldl byteN 4294967295 = ys.foldl byteN 4294967295 := by
    have := congrArg (· ^^^ 4294967295) he
    simpa [Nat.xor_assoc] using this
  rw [sum_num, sum_num, ← hl, h, ← Nat.xor_assoc, itN_xor (8 * xs.length) (4294967295 ^^^ numN xs) (2 ^ at' * t)] at h1
  have h2 : itN (8 * xs.length) (2 ^ at' * t) = 0 := by
    have := congrArg (itN (8 * xs.length) (4294967295 ^^^ numN xs) ^^^ ·) h1
    simpa [← Nat.xor_assoc] using this.symm
  rw [show 8 * xs.length = (8 * xs.length - at') + at' by omega, itN_add, itN_pow] at h2
  exact ht0 (itN_zero ht _ h2)
/-- One bit is turned. -/
theorem num_set : ∀ (xs : List Int) (i j : Nat), i < xs.length → numN (xs.set i (((xs.getD i 0).toNat ^^^ 2 ^ j : Nat) : Int)) = numN xs ^^^ 2 ^ (8 * i + j) := by
  intro xs
  induction xs with
  | nil => intro i j h; simp at h
  | cons x xs ih =>
    intro i j h
    cases i with
    | zero =>
      show ((x.toNat ^^^ 2 ^ j : Nat) : Int).toNat ^^^ 256 * numN xs = (x.toNat ^^^ 256 * numN xs) ^^^ 2 ^ (8 * 0 + j)
      rw [Int.toNat_natCast, Nat.mul_zero, Nat.zero_add, Nat.xor_assoc, Nat.xor_comm (2 ^ j), ← Nat.xor_assoc]
    | succ i =>
      have := ih i j (by simpa using h)
      show x.toNat ^^^ 256 * numN (xs.set i _) = (x.toNat ^^^ 256 * numN xs) ^^^ _
      have e : ((x :: xs).getD (i + 1) 0) = xs.getD i 0 := rfl
      rw [e, this, Nat.xor_assoc]
      congr 1
      have h1 := Nat.shiftLeft_xor_distrib (a := numN xs) (b := 2 ^ (8 * i + j)) (i := 8)
      rw [Nat.shiftLeft_eq, Nat.shiftLeft_eq, Nat.shiftLeft_eq] at h1
      rw [Nat.mul_comm 256, Nat.mul_comm 256, show (256 : Nat) = 2 ^ 8 from rfl, h1, ← Nat.pow_add]
      congr 2
      omega
/-- The bits of what is turned, below one of them. -/
theorem turned_succ (t k : Nat) : t % 2 ^ (k + 1) = (t % 2 ^ k) ^^^ (if t / 2 ^ k % 2 = 1 then 2 ^ k else 0) := by
  have h1 : t % 2 ^ (k + 1) = 2 ^ k * (t / 2 ^ k % 2) + t % 2 ^ k := by
    rw [Nat.pow_succ, Nat.mod_mul]; omega
  rw [h1]
  have h2 : t % 2 ^ k < 2 ^ k := Nat.mod_lt _ (Nat.two_pow_pos k)
  rcases Nat.mod_two_eq_zero_or_one (t / 2 ^ k) with h | h
  · rw [h]; simp
  · rw [h, if_pos rfl, Nat.mul_one, Nat.xor_comm]
    have := Nat.two_pow_add_eq_or_of_lt h2 1
    rw [Nat.mul_one] at this
    rw [this]
    apply Nat.eq_of_testBit_eq
    intro i
    rw [Nat.testBit_or, Nat.testBit_xor]
    by_cases hi : i = k
    · subst hi
      rw [Nat.testBit_two_pow_self, Nat.testBit_lt_two_pow h2]; rfl
    · rw [Nat.testBit_two_pow_of_ne (Ne.symm hi)]; simp
theorem turned_at (t k at' : Nat) : 2 ^ at' * (t % 2 ^ (k + 1)) = (2 ^ at' * (t % 2 ^ k)) ^^^ (if t / 2 ^ k % 2 = 1 then 2 ^ (at' + k) else 0) := by
  rw [turned_succ]
  have h1 := Nat.shiftLeft_xor_distrib (a := t % 2 ^ k) (b := if t / 2 ^ k % 2 = 1 then 2 ^ k else 0) (i := at')
  rw [Nat.shiftLeft_eq, Nat.shiftLeft_eq, Nat.shiftLeft_eq] at h1
  rw [Nat.mul_comm, h1, Nat.mul_comm]
  congr 1
  split
  · rw [← Nat.pow_add]; congr 1; omega
  · rw [Nat.zero_mul]
end Go.Proofs.YtllpamkbcjcddaaDoor
