/- The sum of bytes, of the program and of its reference. Conditions: the slice's cells lie as its reading says. -/
import Derived.Test.YtgigfeppaalbcaaGreatDoorBytes
import Derived.Test.YtgigfeppaalbcaaGreatDoorSumPlain
namespace Go.Proofs.YtgigfeppaalbcaaGreatDoor
open Go.RowKit
set_option maxRecDepth 20000

theorem sum_any (ao : Option Addr) (cap : Nat) (xs : List Int) (w : World) (B : Nat) (hx : BytesIn w B ao xs) (hw : BytesWf xs) (hl : xs.length ≤ 4611686018427387904) :
    Calls Tryz.prog 23 #[.slice ao xs.length cap] w fun e w' => e = .returned (.int .u32 (sumS xs)) ∧ w = w' := by
  have HX := Lib.hid hx
  clear hx
  go_enter Tryz.func23, Tryz.ntmps23
  go_wp2_with fail
  go_loopw [3, 5, 8] (fun v _ i wr => wr = w ∧ ∃ (k : Nat) (z : Nat), k ≤ xs.length ∧ i = .int .i64 k ∧ v = .int .u32 z ∧ z = sumTo xs k ∧ z < 4294967296) (fun _ _ i _ => xs.length - (intOf i).toNat)
  case atStart => exact ⟨rfl, 0, 4294967295, by omega, rfl, rfl, rfl, by decide⟩
  case round =>
    obtain ⟨rfl, k, z, hk, rfl, rfl, hz, h1⟩ := hrel
    have HZ := Lib.hid hz
    clear hz
    by_cases hlt : k < xs.length
    · have i1 : (k : Int) < xs.length := by omega
      rcases HX.out with h0 | ⟨b, off, rfl, hb, hc⟩
      · rw [h0] at hlt; simp at hlt
      have c0 := hc k hlt
      have hxw := hw _ (bytes_mem hlt)
      have hst := sumTo_succ hlt
      obtain ⟨x, hxe⟩ : ∃ x, x = xs.getD k 0 := ⟨_, rfl⟩
      rw [← hxe] at c0 hxw hst
      rw [← HZ.out] at hst
      have HS := Lib.hid hst
      have HB := Lib.hid (byte_in h1 hxw)
      have h2 := Nat.xor_lt_two_pow (n := 32) (x := z) (y := x.toNat) (by omega) (by omega)
      clear hxe hc hst
      go_wp2_with fail
      go_loopw [3, 16] (fun v i wx => wx = wr ∧ ∃ (j : Nat), j ≤ 8 ∧ i = .int .i64 j ∧ v = .int .u32 (itN j (z ^^^ x.toNat))) (fun _ i _ => 8 - (intOf i).toNat)
      case atStart => exact ⟨rfl, 0, by omega, rfl, congrArg (Value.int .u32) HB.out⟩
      case round =>
        obtain ⟨rfl, j, hj, rfl, rfl⟩ := hrel
        by_cases hlj : j < 8
        · have i2 : (j : Int) < 8 := by omega
          have h3 := itN_lt h2 j
          have HQ := Lib.hid (bit_prog h3)
          have HR := Lib.hid (show itN (j + 1) (z ^^^ x.toNat) = bitN (itN j (z ^^^ x.toNat)) from rfl)
          generalize itN j (z ^^^ x.toNat) = u at h3 HQ HR ⊢
          go_wp2_with fail
          go_roundw
          case rel => exact ⟨trivial, j + 1, by omega, by go_num, congrArg (Value.int .u32) (by rw [HR.out]; exact HQ.out)⟩
          case measure => simp [intOf]; omega
        · obtain rfl : j = 8 := by omega
          have h3 := itN_lt h2 8
          have HR := Lib.hid (show byteN z x = itN 8 (z ^^^ x.toNat) from rfl)
          generalize itN 8 (z ^^^ x.toNat) = u at h3 HR ⊢
          go_wp2_with fail
          go_roundw
          case rel => exact ⟨trivial, k + 1, u, by omega, by go_num, rfl, by rw [HS.out, HR.out], h3⟩
          case measure => simp [intOf]; omega
    · obtain rfl : k = xs.length := by omega
      have H5 := Lib.hid (u32_not h1)
      go_wp2_with fail
      go_ret
      exact ⟨congrArg (fun n => Ending.returned (.int .u32 n)) (by rw [H5.out]; unfold sumS; rw [HZ.out]), rfl⟩

theorem rsum_any (ao : Option Addr) (cap : Nat) (xs : List Int) (w : World) (B : Nat) (hx : BytesIn w B ao xs) (hw : BytesWf xs) (hl : xs.length ≤ 4611686018427387904) :
    Calls Tryz.prog 33 #[.slice ao xs.length cap] w fun e w' => e = .returned (.int .u32 (sumS xs)) ∧ w = w' := by
  have HX := Lib.hid hx
  clear hx
  go_enter Tryz.func33, Tryz.ntmps33
  go_wp2_with fail
  go_loopw [3, 4, 5, 6] (fun v i _ _ wr => wr = w ∧ ∃ (k : Nat) (z : Nat), k ≤ xs.length ∧ i = .int .i64 k ∧ v = .int .u32 z ∧ z = sumTo xs k ∧ z < 4294967296) (fun _ i _ _ _ => xs.length - (intOf i).toNat)
  case atStart => exact ⟨rfl, 0, 4294967295, by omega, rfl, rfl, rfl, by decide⟩
  case round =>
    obtain ⟨rfl, k, z, hk, rfl, rfl, hz, h1⟩ := hrel
    have HZ := Lib.hid hz
    clear hz
    by_cases hlt : k < xs.length
    · have i1 : (k : Int) < xs.length := by omega
      rcases HX.out with h0 | ⟨b, off, rfl, hb, hc⟩
      · rw [h0] at hlt; simp at hlt
      have c0 := hc k hlt
      have hxw := hw _ (bytes_mem hlt)
      have hst := sumTo_succ hlt
      obtain ⟨x, hxe⟩ : ∃ x, x = xs.getD k 0 := ⟨_, rfl⟩
      rw [← hxe] at c0 hxw hst
      rw [← HZ.out] at hst
      have HS := Lib.hid hst
      have HB := Lib.hid (byte_in h1 hxw)
      have h2 := Nat.xor_lt_two_pow (n := 32) (x := z) (y := x.toNat) (by omega) (by omega)
      clear hxe hc hst
      go_wp2_with fail
      go_loopw [3, 5, 6] (fun v i _ wx => wx = wr ∧ ∃ (j : Nat), j ≤ 8 ∧ i = .int .i64 j ∧ v = .int .u32 (itN j (z ^^^ x.toNat))) (fun _ i _ _ => 8 - (intOf i).toNat)
      case atStart => exact ⟨rfl, 0, by omega, rfl, congrArg (Value.int .u32) HB.out⟩
      case round =>
        obtain ⟨rfl, j, hj, rfl, rfl⟩ := hrel
        by_cases hlj : j < 8
        · have i2 : (j : Int) < 8 := by omega
          have h3 := itN_lt h2 j
          have HR := Lib.hid (show itN (j + 1) (z ^^^ x.toNat) = bitN (itN j (z ^^^ x.toNat)) from rfl)
          generalize itN j (z ^^^ x.toNat) = u at h3 HR ⊢
          have ha := and_one u h3
          by_cases hu : u % 2 = 1
          · have HQ := Lib.hid (bit_ref1 h3 hu)
            rw [hu] at ha
            go_wp2_with fail
            go_roundw
            case rel => exact ⟨trivial, j + 1, by omega, by go_num, congrArg (Value.int .u32) (by rw [HR.out]; exact HQ.out)⟩
            case measure => simp [intOf]; omega
          · have HQ := Lib.hid (bit_ref0 hu)
            rw [show u % 2 = 0 by omega] at ha
            go_wp2_with fail
            go_roundw
            case rel => exact ⟨trivial, j + 1, by omega, by go_num, congrArg (Value.int .u32) (by rw [HR.out]; exact HQ.out)⟩
            case measure => simp [intOf]; omega
        · obtain rfl : j = 8 := by omega
          have h3 := itN_lt h2 8
          have HR := Lib.hid (show byteN z x = itN 8 (z ^^^ x.toNat) from rfl)
          generalize itN 8 (z ^^^ x.toNat) = u at h3 HR ⊢
          go_wp2_with fail
          go_roundw
          case rel => exact ⟨trivial, k + 1, u, by omega, by go_num, rfl, by rw [HS.out, HR.out], h3⟩
          case measure => simp [intOf]; omega
    · obtain rfl : k = xs.length := by omega
      have H5 := Lib.hid (u32_not h1)
      go_wp2_with fail
      go_ret
      exact ⟨congrArg (fun n => Ending.returned (.int .u32 n)) (by rw [H5.out]; unfold sumS; rw [HZ.out]), rfl⟩
end Go.Proofs.YtgigfeppaalbcaaGreatDoor
