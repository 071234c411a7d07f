/- The law FrameSums, walked: it returns true, and nothing that was there is changed. Conditions: the argument is read as the row reads it. -/
import Derived.Test.YtllpamkbcjcddaaDoorAwake03
import Derived.Test.YtllpamkbcjcddaaDoorOpen
namespace Go.Proofs.YtllpamkbcjcddaaDoor
open Go.RowKit

theorem rsum_at (ao : Option Addr) (n cap : Nat) (xs : List Int) (z : Nat) (w : World) (B : Nat) (hn : xs.length = n) (hz : sumS xs = z) (hx : BytesIn w B ao xs) (hw : BytesWf xs) (hl : n ≤ 4611686018427387904) :
    Calls Tryd.prog 9 #[.slice ao n cap] w fun e w' => e = .returned (.int .u32 z) ∧ w = w' := by
  subst hn hz
  exact rsum_any ao cap xs w B hx hw hl
theorem walk_FrameSums (W : World) (ao : Option Addr) (n cap : Nat) (xs : List Int) (hn : xs.length = n) (hx : BytesIn W W.heap.size ao xs) (hw : BytesWf xs) (hao : ao = none → cap = 0) (_ : n ≤ cap) (_ : cap ≤ maxLen) (hz : n * Tryd.prog.bytesOf 5 ≤ 140737488351232) :
    Calls Tryd.prog 3 #[.slice ao n cap] W fun e w' => e = .returned (.bool true) ∧ Below W.heap.size W w' := by
  have hB : Tryd.prog.bytesOf 5 = 1 := by kernel_rfl
  rw [hB, Nat.mul_one] at hz
  subst hn
  have HX := Lib.hid hx
  have HA := Lib.hid hao
  clear hx hao hB
  by_cases hg : 20000 < xs.length
  · have i1 : (20000 : Int) < xs.length := by omega
    go_enter Tryd.func3, Tryd.ntmps3
    go_wp2_with fail
    refine (awake03_any _).mono ?_
    rintro e w' ⟨rfl, hb⟩
    go_wp2_with fail
    go_ret
    exact ⟨rfl, hb⟩
  · have i1 : ¬ (20000 : Int) < xs.length := by omega
    go_enter Tryd.func3, Tryd.ntmps3
    go_wp2_with fail
    refine (lentB_any ao cap xs _ HX.out HA.out (by omega)).mono ?_
    rintro e w1 ⟨g, rfl, hg1, hg2, hL, hb1⟩
    have hs1 := hb1.size
    go_wp2_with fail
    refine (sum_at _ _ _ xs (sumS xs) w1 _ rfl rfl hL.bytes hw (by omega)).mono ?_
    rintro e w' ⟨rfl, rfl⟩
    go_wp2_with fail
    have hx1 := HX.out.below hb1 (Nat.le_refl _)
    refine (rsum_at _ _ _ xs (sumS xs) w1 _ rfl rfl hx1 hw (by omega)).mono ?_
    rintro e w' ⟨rfl, rfl⟩
    go_wp2_with fail
    refine (keptB_any ao cap g _ xs w1 (hx1.mono hs1) hL (by omega)).mono ?_
    rintro e w2 ⟨rfl, hb2⟩
    have hb3 := hb1.trans (hb2.mono hs1)
    go_wp2_with fail
    refine (awake03_any _).mono ?_
    rintro e w3 ⟨rfl, hb4⟩
    go_wp2_with fail
    go_ret
    exact ⟨rfl, hb3.trans (hb4.mono hb3.size)⟩
end Go.Proofs.YtllpamkbcjcddaaDoor
