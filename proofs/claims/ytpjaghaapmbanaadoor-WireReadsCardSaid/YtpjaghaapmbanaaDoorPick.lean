/- Pick: any number is brought into 0 to n - 1. Condition: n is at least 1. -/
import Derived.Test.YtpjaghaapmbanaaDoorBase
namespace Go.Proofs.YtpjaghaapmbanaaDoor
open Go.RowKit
set_option maxRecDepth 20000

theorem pick_eq (a k : Int) (hk : 1 ≤ k) : a.tmod k = a % k ∨ (a.tmod k < 0 ∧ a.tmod k + k = a % k) := by
  have h4 := Int.emod_lt_of_pos a (show 0 < k by omega)
  rw [Int.tmod_eq_emod]
  split
  · left; omega
  · right; omega

theorem pick_any (a k : Int) (hk : 1 ≤ k) (hk2 : k ≤ 1000000) (w : World) :
    Calls Tryd.prog 46 #[.int .i64 a, .int .i64 k] w fun e w' => e = .returned (.int .i64 (a % k)) ∧ w = w' := by
  have he := pick_eq a k hk
  have hlo : -k < a.tmod k := Int.lt_tmod_of_pos a (by omega)
  have hhi : a.tmod k < k := Int.tmod_lt_of_pos a (by omega)
  have h1 := Int.emod_nonneg a (show k ≠ 0 by omega)
  have HE := Lib.hid he
  clear he
  by_cases hn : a.tmod k < 0
  · go_enter Tryd.func46, Tryd.ntmps46
    go_wp2
    go_ret
    exact ⟨ret_int (by have := HE.out; omega), rfl⟩
  · go_enter Tryd.func46, Tryd.ntmps46
    go_wp2
    go_ret
    exact ⟨ret_int (by have := HE.out; omega), rfl⟩

end Go.Proofs.YtpjaghaapmbanaaDoor
