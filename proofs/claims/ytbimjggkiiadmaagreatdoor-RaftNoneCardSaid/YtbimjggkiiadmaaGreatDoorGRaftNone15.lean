/- The law RaftNone over a deed among the arguments. Conditions: it is read as the row reads it, its weights are bounded. -/
import Derived.Test.YtbimjggkiiadmaaGreatDoorGRaftNone14
set_option linter.unusedVariables false
set_option linter.unusedSimpArgs false
namespace Go.Proofs.YtbimjggkiiadmaaGreatDoor
open Go.RowKit Go.ChangeShapes
set_option maxRecDepth 20000
theorem walk_RaftNone (W : World) {H : Type} {enc : TypeId × Value → H} {d0 : DataW H} {p0 : List MemPlace} (cs : Array Value) (hc : cs.size = Tryz.prog.cellsOf 38) (h : DataW.Trod enc Tryz.prog W 0 (fun _ => true) true 38 (.agg cs) d0 p0) (hz : DSized Tryz.prog 38 d0) :
    Calls Tryz.prog 3 #[.agg cs] W fun e w' => e = .returned (.bool true) ∧ Below W.heap.size W w' := by
  obtain ⟨n, ht⟩ := h
  rw [cells_dd] at hc
  obtain ⟨d, hd, hs⟩ := dd_el cs.toList n d0 p0 (by rw [Array.length_toList]; exact hc) ht hz
  obtain rfl : cs = (ddCells d).toArray := by rw [hd]
  exact walk_none26 W d hs
end Go.Proofs.YtbimjggkiiadmaaGreatDoor
