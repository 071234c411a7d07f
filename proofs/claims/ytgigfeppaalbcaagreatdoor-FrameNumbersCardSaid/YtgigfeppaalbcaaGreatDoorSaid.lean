/- What four bytes say, as the program reckons it. Conditions: the slice's cells lie as its reading says; four bytes at least. -/
import Derived.Test.YtgigfeppaalbcaaGreatDoorSub
import Derived.Test.YtgigfeppaalbcaaGreatDoorScanPlain
namespace Go.Proofs.YtgigfeppaalbcaaGreatDoor
open Go.RowKit
set_option maxRecDepth 20000

theorem or_add (i a b : Nat) (hb : b < 2 ^ i) (h : 2 ^ i * a + b < 4294967296) : bits .or .u32 ((2 ^ i * a : Nat) : Int) ((b : Nat) : Int) = ((2 ^ i * a + b : Nat) : Int) := by
  rw [u32_or_nat _ _ (by omega) (by omega), Nat.two_pow_add_eq_or_of_lt hb]
theorem said_bits {a b c d : Int} (ha : 0 ≤ a ∧ a < 256) (hb : 0 ≤ b ∧ b < 256) (hc : 0 ≤ c ∧ c < 256) (hd : 0 ≤ d ∧ d < 256) :
    bits .or .u32 (bits .or .u32 (bits .or .u32 (a * 16777216) (b * 65536)) (c * 256)) d = a * 16777216 + b * 65536 + c * 256 + d := by
  obtain ⟨x, rfl⟩ := Int.eq_ofNat_of_zero_le ha.1
  obtain ⟨y, rfl⟩ := Int.eq_ofNat_of_zero_le hb.1
  obtain ⟨z, rfl⟩ := Int.eq_ofNat_of_zero_le hc.1
  obtain ⟨u, rfl⟩ := Int.eq_ofNat_of_zero_le hd.1
  have e1 := or_add 24 x (65536 * y) (by omega) (by omega)
  have e2 := or_add 16 (256 * x + y) (256 * z) (by omega) (by omega)
  have e3 := or_add 8 (65536 * x + 256 * y + z) u (by omega) (by omega)
  have f1 : (x : Int) * 16777216 = ((2 ^ 24 * x : Nat) : Int) := by omega
  have f2 : (y : Int) * 65536 = ((65536 * y : Nat) : Int) := by omega
  have f3 : (z : Int) * 256 = ((256 * z : Nat) : Int) := by omega
  rw [f1, f2, f3, e1]
  rw [show 2 ^ 24 * x + 65536 * y = 2 ^ 16 * (256 * x + y) by omega, e2]
  rw [show 2 ^ 16 * (256 * x + y) + 256 * z = 2 ^ 8 * (65536 * x + 256 * y + z) by omega, e3]
  omega
theorem said_any (ao : Option Addr) (n cap : Nat) (xs : List Int) (w : World) (B : Nat) (hn : xs.length = n) (hx : BytesIn w B ao xs) (hw : BytesWf xs) (hl : 4 ≤ xs.length) (hm : n ≤ maxLen) :
    Calls Tryz.prog 37 #[.slice ao n cap] w fun e w' => e = .returned (.int .u32 (saidS xs)) ∧ ∃ n, w' = w.drewN n := by
  unfold maxLen at hm
  rcases hx with h0 | ⟨b, off, rfl, _, hc⟩
  · rw [h0] at hl; simp at hl
  have c0 := hc 0 (by omega)
  rw [Nat.add_zero] at c0
  have c1 := hc 1 (by omega)
  have c2 := hc 2 (by omega)
  have c3 := hc 3 (by omega)
  have w0 := hw _ (bytes_mem (k := 0) (xs := xs) (by omega))
  have w1 := hw _ (bytes_mem (k := 1) (xs := xs) (by omega))
  have w2 := hw _ (bytes_mem (k := 2) (xs := xs) (by omega))
  have w3 := hw _ (bytes_mem (k := 3) (xs := xs) (by omega))
  have hs : ((saidS xs : Nat) : Int) = xs.getD 0 0 * 16777216 + xs.getD 1 0 * 65536 + xs.getD 2 0 * 256 + xs.getD 3 0 := by unfold saidS; omega
  generalize xs.getD 0 0 = x0 at c0 w0 hs
  generalize xs.getD 1 0 = x1 at c1 w1 hs
  generalize xs.getD 2 0 = x2 at c2 w2 hs
  generalize xs.getD 3 0 = x3 at c3 w3 hs
  have HB := Lib.hid (said_bits w0 w1 w2 w3)
  have HS := Lib.hid hs
  have l0 : (0 : Int) < n := by omega
  have l1 : (1 : Int) < n := by omega
  have l2 : (2 : Int) < n := by omega
  have l3 : (3 : Int) < n := by omega
  clear hc hs hw hn
  go_enter Tryz.func37, Tryz.ntmps37
  go_wp2_with fail
  go_quiet (fail)
  go_wp2_with fail
  go_ret
  exact ⟨congrArg (fun n => Ending.returned (.int .u32 n)) (by rw [HS.out, ← HB.out]), _, rfl⟩
end Go.Proofs.YtgigfeppaalbcaaGreatDoor
