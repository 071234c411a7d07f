/- The law FrameSpoilt at its arguments as they are handed in. Conditions: the arguments are read as the row reads them. -/
import Derived.Test.YtllpamkbcjcddaaDoorSpoilt
namespace Go.Proofs.YtllpamkbcjcddaaDoor
open Go.RowKit

theorem bytes_frame' : Tryd.prog.bytesOf 39 = 32 := by kernel_rfl
theorem walk_FrameSpoilt {H : Type} {enc : TypeId × Value → H} {d : DataW H} {p : List MemPlace} (W : World) (ao : Option Addr) (n cap : Nat) (h : DataW.Trod enc Tryd.prog W 0 (fun _ => true) true 29 (.slice ao n cap) d p) (hz : n * Tryd.prog.bytesOf 39 ≤ 140737488351232)
    (c0 : Int) (_ : (Lit.int .i64 c0).wf = true) (a0 : Int) (_ : (Lit.int .i64 a0).wf = true) (T : Int) (hT : (Lit.int .u32 T).wf = true) :
    Calls Tryd.prog 5 #[.slice ao n cap, .int .i64 c0, .int .i64 a0, .int .u32 T] W fun e w' => e = .returned (.bool true) ∧ Below W.heap.size W w' := by
  obtain ⟨fs, hl, hx, hq, _, hc, hm⟩ := open_frames h
  rw [bytes_frame'] at hz
  simp [Lit.wf, IntKind.min, IntKind.max, IntKind.signed, IntKind.bits] at hT
  obtain ⟨t, rfl⟩ := Int.eq_ofNat_of_zero_le hT.1
  exact spoilt_any W ao n cap fs hl hx hq hc hm (by omega) c0 a0 t (by omega)
end Go.Proofs.YtllpamkbcjcddaaDoor
