/- The law WireJoins: its argument, read; the law, walked. Conditions: the argument is read as the row reads it. -/
import Derived.Test.YtpjaghaapmbanaaDoorJoins2
namespace Go.Proofs.YtpjaghaapmbanaaDoor
open Go.RowKit
set_option maxRecDepth 20000

theorem pt_el {H : Type} {enc : TypeId × Value → H} {W : World} {sp : Nat → Bool} {hd : Bool} (cs : List Value) (n : Nat) (y : DataW H) (pl : List MemPlace) (_ : cs.length = 1) (h : DataW.trod enc Tryd.prog W 0 sp hd n 23 cs = some (y, pl)) :
    ∃ x : Pt, ptCells x = cs ∧ ptSub W W.heap.size x ∧ PtArg x := by
  obtain ⟨ao, len, cap, rfl, ht⟩ := slice_cell Tryd.underlying23 h
  obtain ⟨xs, hl, hx, hw, hn, hc, _⟩ := open_bytes Tryd.underlying23 Tryd.underlying5 (by kernel_rfl) ht
  subst hl
  exact ⟨⟨ao, cap, xs⟩, rfl, hx, hw, hn, hc⟩
theorem bytes_bs : Tryd.prog.bytesOf 23 = 24 := by kernel_rfl
theorem walk_WireJoins {H : Type} {enc : TypeId × Value → H} {d : DataW H} {p : List MemPlace} (W : World) (ao : Option Addr) (n cap : Nat) (h : DataW.Trod enc Tryd.prog W 0 (fun _ => true) true 22 (.slice ao n cap) d p) (hz : n * Tryd.prog.bytesOf 23 ≤ 140737488351232) :
    Calls Tryd.prog 3 #[.slice ao n cap] W fun e w' => e = .returned (.bool true) ∧ Below W.heap.size W w' := by
  obtain ⟨ps, hl, hx, hq, _, _⟩ := open_rows PtArg Tryd.underlying22 (by kernel_rfl) (by decide) pt_el h
  rw [bytes_bs] at hz
  exact walk_joins W ao n cap ps hl.symm hx hq (by omega)
end Go.Proofs.YtpjaghaapmbanaaDoor
