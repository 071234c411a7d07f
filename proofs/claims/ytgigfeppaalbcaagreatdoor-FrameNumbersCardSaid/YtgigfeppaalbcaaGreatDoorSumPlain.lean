/- The sum of bytes, in plain Lean. No program. Conditions: bytes are below 256. -/
import Derived.Laws.BitsAllLaws
namespace Go.Proofs.YtgigfeppaalbcaaGreatDoor
open Go

def bitN (w : Nat) : Nat := (w / 2) ^^^ (if w % 2 = 1 then 3988292384 else 0)
def itN : Nat → Nat → Nat
  | 0, w => w
  | j + 1, w => bitN (itN j w)
def byteN (w : Nat) (x : Int) : Nat := itN 8 (w ^^^ x.toNat)
def sumTo (xs : List Int) (k : Nat) : Nat := (xs.take k).foldl byteN 4294967295
/-- The sum of bytes. -/
def sumS (xs : List Int) : Nat := sumTo xs xs.length ^^^ 4294967295

theorem bitN_lt {w : Nat} (h : w < 4294967296) : bitN w < 4294967296 := by
  unfold bitN
  refine Nat.xor_lt_two_pow (n := 32) (by omega) ?_
  split <;> omega
theorem itN_lt {w : Nat} (h : w < 4294967296) (j : Nat) : itN j w < 4294967296 := by
  induction j with
  | zero => exact h
  | succ j ih => exact bitN_lt ih
theorem byteN_lt {w : Nat} (h : w < 4294967296) {x : Int} (hx : 0 ≤ x ∧ x < 256) : byteN w x < 4294967296 :=
  itN_lt (Nat.xor_lt_two_pow (n := 32) (by omega) (by omega)) 8
theorem sumTo_succ {xs : List Int} {k : Nat} (h : k < xs.length) : sumTo xs (k + 1) = byteN (sumTo xs k) (xs.getD k 0) := by
  unfold sumTo
  rw [List.take_succ_eq_append_getElem h, List.foldl_append]
  simp [List.getD, List.getElem?_eq_getElem h]
theorem sumTo_lt {xs : List Int} (hw : ∀ x ∈ xs, 0 ≤ x ∧ x < 256) (k : Nat) : sumTo xs k < 4294967296 := by
  unfold sumTo
  have : ∀ (l : List Int) (s : Nat), s < 4294967296 → (∀ x ∈ l, 0 ≤ x ∧ x < 256) → l.foldl byteN s < 4294967296 := by
    intro l
    induction l with
    | nil => intro s h _; exact h
    | cons a l ih => intro s h hl; exact ih _ (byteN_lt h (hl a List.mem_cons_self)) (fun x hx => hl x (List.mem_cons_of_mem _ hx))
  exact this _ _ (by decide) (fun x hx => hw x (List.mem_of_mem_take hx))
theorem sumS_lt {xs : List Int} (hw : ∀ x ∈ xs, 0 ≤ x ∧ x < 256) : sumS xs < 4294967296 :=
  Nat.xor_lt_two_pow (n := 32) (sumTo_lt hw _) (by decide)
theorem and_one (w : Nat) (h : w < 4294967296) : bits .and .u32 (w : Int) 1 = ((w % 2 : Nat) : Int) := by
  have := u32_and_nat w 1 h (by decide)
  rw [Nat.and_one_is_mod] at this
  exact this
theorem bit_prog {w : Nat} (h : w < 4294967296) : bits .xor .u32 ((w : Int) / 2) (bits .and .u32 3988292384 (-bits .and .u32 (w : Int) 1 % 4294967296)) = (bitN w : Int) := by
  have e : bits .and .u32 3988292384 (-bits .and .u32 (w : Int) 1 % 4294967296) = ((if w % 2 = 1 then 3988292384 else 0 : Nat) : Int) := by
    rw [and_one w h]
    by_cases h2 : w % 2 = 1
    · rw [if_pos h2, h2]; decide
    · have h3 : w % 2 = 0 := by omega
      rw [if_neg h2, h3]; decide
  rw [e]
  have h3 : ((w : Int) / 2) = ((w / 2 : Nat) : Int) := by omega
  rw [h3]
  exact u32_xor_nat _ _ (by omega) (by split <;> omega)
theorem bit_ref1 {w : Nat} (h : w < 4294967296) (h2 : w % 2 = 1) : bits .xor .u32 ((w : Int) / 2) 3988292384 = (bitN w : Int) := by
  have h3 : ((w : Int) / 2) = ((w / 2 : Nat) : Int) := by omega
  unfold bitN
  rw [h3, if_pos h2]
  exact u32_xor_nat _ 3988292384 (by omega) (by decide)
theorem bit_ref0 {w : Nat} (h2 : w % 2 ≠ 1) : ((w : Int) / 2) = (bitN w : Int) := by
  unfold bitN
  rw [if_neg h2, Nat.xor_zero]
  omega
theorem byte_in {w : Nat} (h : w < 4294967296) {x : Int} (hx : 0 ≤ x ∧ x < 256) : bits .xor .u32 (w : Int) x = ((w ^^^ x.toNat : Nat) : Int) := by
  have := u32_xor_nat w x.toNat h (by omega)
  rw [Int.toNat_of_nonneg hx.1] at this
  exact this
theorem u32_not {z : Nat} (h : z < 4294967296) : bits .xor .u32 IntKind.u32.max (z : Int) = ((z ^^^ 4294967295 : Nat) : Int) := by
  rw [Nat.xor_comm]
  exact u32_xor_nat 4294967295 z (by decide) h
end Go.Proofs.YtgigfeppaalbcaaGreatDoor
