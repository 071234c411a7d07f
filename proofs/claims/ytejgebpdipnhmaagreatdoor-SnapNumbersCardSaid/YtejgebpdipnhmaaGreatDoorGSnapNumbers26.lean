/- The marks of ropewalkkit/lent.go: snaps. Conditions: the places are not too great. -/
import Derived.Test.YtejgebpdipnhmaaGreatDoorGSnapNumbers16
import Derived.Test.YtejgebpdipnhmaaGreatDoorGSnapNumbers13
set_option linter.unusedVariables false
set_option linter.unusedSimpArgs false
namespace Go.Proofs.YtejgebpdipnhmaaGreatDoor
open Go.RowKit
set_option maxRecDepth 20000
theorem infoSp : (Tryz.prog.info? 26).map (fun i => (i.zero, i.size, i.bytes)) = some (some (.agg #[.int .i64 0, .int .i64 0, .slice none 0 0, .slice none 0 0]), 4, 64) := by kernel_rfl
def mkS (k i : Nat) : List Value := [.int .i64 (markN k i), .int .i64 0, .slice none 0 0, .slice none 0 0]
theorem mkS_len (k i : Nat) : (mkS k i).length = 4 := rfl
theorem markS_at (a b : Int) (k i : Nat) (ha : a = k) (hb : b = i) (hk : k ≤ 1000000) (hi : i ≤ 2000000000000) (w : World) :
    Calls Tryz.prog 157 #[.int .i64 a, .int .i64 b] w fun e w' => e = .returned (.agg #[.int .i64 (markN k i), .int .i64 0, .slice none 0 0, .slice none 0 0]) ∧ Below w.heap.size w w' := by
  have hm : 0 ≤ markN k i ∧ markN k i ≤ 4000000000000 := by unfold markN; omega
  have hc := mark_at a b k i ha hb hk hi
  generalize markN k i = m at hm hc
  have HC := Lib.hid hc
  clear hc ha hb
  go_enter Tryz.func157, Tryz.ntmps157
  go_wp2_with fail
  refine (HC.out _).mono ?_
  rintro e w' ⟨rfl, rfl⟩
  go_wp2_with fail
  exact bodyPost_ret (v := .agg #[.int .i64 m, .int .i64 0, .slice none 0 0, .slice none 0 0]) (by first | (simp [results, Tryz.results157, go_sem]; done) | (simp [results, Tryz.results157, go_sem]; rfl)) rfl ⟨rfl, (Below.refl _ _).alloc (Nat.le_refl _) _⟩
theorem markS_is (a b : Int) (k i : Nat) (m : Int) (hm : markN k i = m) (ha : a = k) (hb : b = i) (hk : k ≤ 1000000) (hi : i ≤ 2000000000000) (w : World) :
    Calls Tryz.prog 157 #[.int .i64 a, .int .i64 b] w fun e w' => e = .returned (.agg #[.int .i64 m, .int .i64 0, .slice none 0 0, .slice none 0 0]) ∧ Below w.heap.size w w' := hm ▸ markS_at a b k i ha hb hk hi w
/-- Equal marks are the same snaps. -/
theorem sameMarkS (n : Int) (w : World) : Calls Tryz.prog 25 #[.agg #[.int .i64 n, .int .i64 0, .slice none 0 0, .slice none 0 0], .agg #[.int .i64 n, .int .i64 0, .slice none 0 0, .slice none 0 0]] w fun e w' => e = .returned (.bool true) ∧ Below w.heap.size w w' :=
  sameSnap_any ⟨n, 0, none, [], 0, none, [], 0⟩ ⟨n, 0, none, [], 0, none, [], 0⟩ w ⟨Or.inl rfl, Or.inl rfl⟩ ⟨Or.inl rfl, Or.inl rfl⟩ rfl (by simp) (by simp)
end Go.Proofs.YtejgebpdipnhmaaGreatDoor
