/- The law FrameTorn at its arguments as they are handed in. Conditions: the arguments are read as the row reads them. -/
import Derived.Test.YtllpamkbcjcddaaDoorTorn
namespace Go.Proofs.YtllpamkbcjcddaaDoor
open Go.RowKit

theorem bytes_frame : Tryd.prog.bytesOf 39 = 32 := by kernel_rfl
theorem walk_FrameTorn {H : Type} {enc : TypeId × Value → H} {d : DataW H} {p : List MemPlace} (W : World) (ao : Option Addr) (n cap : Nat) (h : DataW.Trod enc Tryd.prog W 0 (fun _ => true) true 29 (.slice ao n cap) d p) (hz : n * Tryd.prog.bytesOf 39 ≤ 140737488351232)
    (c0 : Int) (_ : (Lit.int .i64 c0).wf = true) (bo : Option Addr) (n2 cap2 : Nat) (xs : List Int) (hn2 : xs.length = n2) (hbx : BytesIn W W.heap.size bo xs) (hbw : BytesWf xs) (hbo : bo = none → cap2 = 0) (hnc2 : n2 ≤ cap2) (hcm2 : cap2 ≤ maxLen) (_ : n2 * Tryd.prog.bytesOf 5 ≤ 140737488351232) :
    Calls Tryd.prog 4 #[.slice ao n cap, .int .i64 c0, .slice bo n2 cap2] W fun e w' => e = .returned (.bool true) ∧ Below W.heap.size W w' := by
  obtain ⟨fs, hl, hx, hq, hao, hc, hm⟩ := open_frames h
  rw [bytes_frame] at hz
  exact torn_any W ao n cap fs hl hx hq hao hc hm (by omega) c0 bo n2 cap2 xs hn2 hbx hbw hbo hnc2 hcm2
end Go.Proofs.YtllpamkbcjcddaaDoor
