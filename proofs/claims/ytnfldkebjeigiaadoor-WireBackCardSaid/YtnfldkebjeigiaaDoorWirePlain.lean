/- The forms of wire as bytes: plain definitions and laws. No program. Conditions: as each says. -/
import Derived.Test.YtnfldkebjeigiaaDoorEn
namespace Go.Proofs.YtnfldkebjeigiaaDoor

/-- A number in so many bytes, the greatest first. -/
def numB (size : Nat) (n : Int) : List Int := (List.range size).map fun j => n / 2 ^ (8 * (size - 1 - j)) % 256
theorem numB_len (size : Nat) (n : Int) : (numB size n).length = size := by simp [numB]
theorem numB_take (size : Nat) (n : Int) (k : Nat) (hk : k < size) : (numB size n).take (k + 1) = (numB size n).take k ++ [n / 2 ^ (8 * (size - 1 - k)) % 256] := by
  rw [List.take_succ_eq_append_getElem (by rw [numB_len]; exact hk)]
  simp [numB]
theorem numB_wf (size : Nat) (n : Int) : BytesWf (numB size n) := fun x hx => by
  obtain ⟨j, _, rfl⟩ := List.mem_map.1 hx
  omega
/-- A text's bytes, as numbers. -/
def strB (s : ByteArray) : List Int := s.data.toList.map fun c => (c.toNat : Int)
theorem strB_len (s : ByteArray) : (strB s).length = s.size := by simp [strB]
theorem strB_wf (s : ByteArray) : BytesWf (strB s) := fun x hx => by
  obtain ⟨c, _, rfl⟩ := List.mem_map.1 hx
  have := UInt8.toNat_lt c
  omega
def textB (s : ByteArray) : List Int := numB 4 s.size ++ strB s
def valueB (v : Va) : List Int := v.kind :: (if v.kind = 1 then numB 8 v.num else if v.kind = 2 then textB v.text else [])
def valuesB (vs : List Va) : List Int := numB 4 vs.length ++ vs.flatMap valueB
def commandB (ck : Int) (text : ByteArray) (num : Int) (args : List Va) : List Int := ck :: (textB text ++ (numB 8 num ++ valuesB args))
def entryB (e : EnP) : List Int := numB 8 e.term ++ (e.kind :: (numB 8 e.session ++ (numB 8 e.seq ++ (commandB e.ck e.text e.num e.args ++ (numB 4 e.vs.length ++ e.vs.flatMap (numB 8))))))
theorem textB_len (s : ByteArray) : (textB s).length = 4 + s.size := by rw [textB, List.length_append, numB_len, strB_len]
theorem valueB_len (v : Va) : (valueB v).length ≤ 9 + v.text.size := by
  unfold valueB
  rw [List.length_cons]
  split
  · rw [numB_len]; omega
  · split
    · rw [textB_len]; omega
    · simp; omega
theorem valueB_pos (v : Va) : 1 ≤ (valueB v).length := by unfold valueB; rw [List.length_cons]; omega
/-- The number that bytes say. -/
def getN (l : List Int) : Int := l.foldl (fun n c => n * 256 + c) 0
theorem getN_snoc (l : List Int) (c : Int) : getN (l ++ [c]) = getN l * 256 + c := by simp [getN]
theorem getN_numB (size : Nat) (n : Int) : getN (numB size n) = n % 256 ^ size := by
  have key : ∀ k, k ≤ size → getN ((numB size n).take k) = n / 2 ^ (8 * (size - k)) % 256 ^ k := by
    intro k
    induction k with
    | zero => intro _; simp [getN, Int.emod_one]
    | succ k ih =>
      intro hk
      rw [numB_take size n k hk, getN_snoc, ih (by omega)]
      have e1 : size - k = (size - (k + 1)) + 1 := by omega
      have e2 : size - 1 - k = size - (k + 1) := by omega
      rw [e1, e2]
      obtain ⟨m, hm⟩ : ∃ m, m = n / 2 ^ (8 * (size - (k + 1))) := ⟨_, rfl⟩
      have e3 : n / 2 ^ (8 * (size - (k + 1) + 1)) = m / 256 := by
        rw [hm, Int.ediv_ediv_of_nonneg (Int.le_of_lt (Int.pow_pos (by decide)))]
        congr 1
        rw [Nat.mul_add, Int.pow_add]
        rfl
      rw [e3, ← hm, Int.pow_succ]
      have hp : (0 : Int) < 256 ^ k := Int.pow_pos (by decide)
      generalize (256 : Int) ^ k = p at hp
      have h1 := Int.mul_ediv_add_emod m 256
      have h2 := Int.mul_ediv_add_emod (m / 256) p
      have h4 := Int.emod_nonneg (m / 256) (show p ≠ 0 by omega)
      have h5 := Int.emod_lt_of_pos (m / 256) hp
      have h6 := Int.emod_nonneg m (show (256 : Int) ≠ 0 by decide)
      have h7 := Int.emod_lt_of_pos m (show (0 : Int) < 256 by decide)
      have e : m = (m / 256 % p * 256 + m % 256) + (p * 256) * (m / 256 / p) := by
        have : p * 256 * (m / 256 / p) = 256 * (p * (m / 256 / p)) := by rw [Int.mul_comm p 256, Int.mul_assoc]
        rw [this]
        omega
      have hlt : m / 256 % p * 256 + m % 256 < p * 256 := by
        have : m / 256 % p * 256 ≤ (p - 1) * 256 := Int.mul_le_mul_of_nonneg_right (by omega) (by decide)
        have e9 : (p - 1) * 256 = p * 256 - 256 := by rw [Int.sub_mul]; omega
        omega
      have hge : 0 ≤ m / 256 % p * 256 + m % 256 := by
        have := Int.mul_nonneg h4 (show (0 : Int) ≤ 256 by decide)
        omega
      have := Int.add_mul_emod_self_left (m / 256 % p * 256 + m % 256) (p * 256) (m / 256 / p)
      rw [← e, Int.emod_eq_of_lt hge hlt] at this
      exact this.symm
  have := key size (Nat.le_refl _)
  rw [List.take_of_length_le (by rw [numB_len]; exact Nat.le_refl _), Nat.sub_self] at this
  simpa using this
theorem getN_bound (l : List Int) (h : BytesWf l) : 0 ≤ getN l ∧ getN l < 256 ^ l.length := by
  have key : ∀ r : List Int, BytesWf r.reverse → 0 ≤ getN r.reverse ∧ getN r.reverse < 256 ^ r.length := by
    intro r
    induction r with
    | nil => intro _; simp [getN]
    | cons c r ih =>
      intro hw
      rw [List.reverse_cons] at hw ⊢
      have h1 := ih (fun x hx => hw x (List.mem_append_left _ hx))
      have h2 := hw c (by simp)
      rw [getN_snoc, List.length_cons, Int.pow_succ]
      generalize (256 : Int) ^ r.length = p at h1
      generalize getN r.reverse = g at h1
      constructor
      · have := Int.mul_nonneg h1.1 (show (0 : Int) ≤ 256 by decide); omega
      · have : g * 256 ≤ (p - 1) * 256 := Int.mul_le_mul_of_nonneg_right (by omega) (by decide)
        have e9 : (p - 1) * 256 = p * 256 - 256 := by rw [Int.sub_mul]; omega
        omega
  have := key l.reverse (by rwa [List.reverse_reverse])
  rwa [List.reverse_reverse, List.length_reverse] at this
end Go.Proofs.YtnfldkebjeigiaaDoor
