/- SameBytes: bytes that read alike are told to be the same. Conditions: the cells lie as their readings say. -/
import Derived.Test.YtnfldkebjeigiaaDoorFrames0
import Derived.Test.YtnfldkebjeigiaaDoorBytes
import Derived.BigQuiet
namespace Go.Proofs.YtnfldkebjeigiaaDoor
open Go.RowKit
set_option maxRecDepth 20000

theorem sameB_any (ao : Option Addr) (n cap : Nat) (co : Option Addr) (m cap2 : Nat) (xs : List Int) (w : World) (hn : xs.length = n) (hm : xs.length = m) (hx : BytesIn w w.heap.size ao xs) (hy : BytesIn w w.heap.size co xs) (hl : n ≤ 4611686018427387904) :
    Calls Tryd.prog 33 #[.slice ao n cap, .slice co m cap2] w fun e w' => e = .returned (.bool true) ∧ Below w.heap.size w w' := by
  obtain rfl : n = m := by omega
  have HX := Lib.hid hx
  have HY := Lib.hid hy
  have HN := Lib.hid hn
  clear hx hy hn hm
  go_enter Tryd.func33, Tryd.ntmps33
  go_wp2_with fail
  go_loopw [5] (fun i wr => ∃ k : Nat, k ≤ n ∧ i = .int .i64 k ∧ Below w.heap.size w wr) (fun i _ => n - (intOf i).toNat)
  case atStart => exact ⟨0, by omega, rfl, Below.refl _ _⟩
  case round =>
    obtain ⟨k, hk, rfl, hbel⟩ := hrel
    by_cases hlt : k < n
    · have hHN := HN.out
      rcases HX.out with h0 | ⟨b, off, rfl, hb, hc⟩
      · rw [h0] at hHN; simp at hHN; omega
      rcases HY.out with h0 | ⟨b2, off2, rfl, hb2, hc2⟩
      · rw [h0] at hHN; simp at hHN; omega
      have d0 := hc k (by omega)
      have d1 := hc2 k (by omega)
      generalize xs.getD k 0 = x at d0 d1
      clear hc hc2 hHN
      have c0 : ∀ x' : Calm w.heap.size w, x'.1.cell? ⟨b, off + k, none⟩ = some (.int .u8 x) := fun x' => x'.cell d0 hb
      have c1 : ∀ x' : Calm w.heap.size w, x'.1.cell? ⟨b2, off2 + k, none⟩ = some (.int .u8 x) := fun x' => x'.cell d1 hb2
      have i1 : (k : Int) < n := by omega
      clear d0 d1
      go_wp2_with fail
      refine wp_region_calm (B := w.heap.size) (W0 := w) hbel (by kernel_rfl) (by kernel_rfl) ?_
      repeat (go_big_quiet_step (fail))
      refine wpQuiet_nil ?_
      intro w5 hb5
      clear c0 c1
      go_wp2_with fail
      go_roundw
      case rel => exact ⟨k + 1, by omega, by go_num, hb5⟩
      case measure => simp [intOf]; omega
    · obtain rfl : k = n := by omega
      go_wp2_with fail
      go_ret
      exact ⟨rfl, hbel⟩
end Go.Proofs.YtnfldkebjeigiaaDoor
