/- The functions of package vote, of its reference, and the law's own example, each by a contract: what it returns, and that nothing that was there is changed. No condition. -/
import Derived.Test.YthokoihgbionmaaBase
import Derived.ChangeKeysEq
namespace Go.Proofs.Ythokoihgbionmaa
open Go.RowKit

theorem nan_any (a : Int) (w : World) :
    Calls Try.prog 18 #[.int .i64 a] w fun e w' => e = .returned (.bool false) ∧ w = w' := by
  go_enter Try.func18, Try.ntmps18
  go_wp2
  go_ret
  exact ⟨by simp, rfl⟩

def cmpI (a b : Int) : Int := if a < b then -1 else if b < a then 1 else 0

theorem cmp_any (a b : Int) (w : World) :
    Calls Try.prog 17 #[.int .i64 a, .int .i64 b] w fun e w' => e = .returned (.int .i64 (cmpI a b)) ∧ w = w' := by
  go_enter Try.func17, Try.ntmps17
  go_wp2_with (go_at_call 18; refine (nan_any _ _).mono ?_; rintro e w' ⟨rfl, rfl⟩)
  all_goals
    go_ret
    refine ⟨ret_int ?_, rfl⟩
    grind [cmpI]

def cmpP (a b c d : Int) : Int := if (cmpI a c != 0) = true then cmpI a c else if (cmpI b d != 0) = true then cmpI b d else 0
theorem cmpP_1 {a b c d : Int} (h : (cmpI a c != 0) = true) : cmpP a b c d = cmpI a c := by rw [cmpP, if_pos h]
theorem cmpP_2 {a b c d : Int} (h : cmpI a c = 0) (h2 : (cmpI b d != 0) = true) : cmpP a b c d = cmpI b d := by rw [cmpP, if_neg (by simp [h]), if_pos h2]
theorem cmpP_3 {a b c d : Int} (h : cmpI a c = 0) (h2 : cmpI b d = 0) : cmpP a b c d = 0 := by rw [cmpP, if_neg (by simp [h]), if_neg (by simp [h2])]

theorem cmp2_any (p q : Nat) (a b c d : Int) (w : World)
    (ha : w.cell? ⟨p, 0, none⟩ = some (.int .i64 a)) (hb : w.cell? ⟨p, 1, none⟩ = some (.int .i64 b))
    (hc : w.cell? ⟨q, 0, none⟩ = some (.int .i64 c)) (hd : w.cell? ⟨q, 1, none⟩ = some (.int .i64 d)) :
    Calls Try.prog 16 #[.slice (some ⟨p, 0, none⟩) 2 2, .slice (some ⟨q, 0, none⟩) 2 2] w fun e w' => e = .returned (.int .i64 (cmpP a b c d)) ∧ w = w' := by
  go_enter Try.func16, Try.ntmps16
  go_wp2
  go_loop [5, 6, 7, 8, 11] (fun _ _ _ _ i => ∃ k : Nat, k ≤ 2 ∧ i = .int .i64 k ∧ (1 ≤ k → cmpI a c = 0) ∧ (2 ≤ k → cmpI b d = 0)) (fun _ _ _ _ i => 2 - (intOf i).toNat)
  case atStart => exact ⟨0, by omega, rfl, by omega, by omega⟩
  case round =>
    obtain ⟨k, hk, rfl, e1, e2⟩ := hrel
    have E1 := Lib.hid e1
    have E2 := Lib.hid e2
    clear e1 e2
    obtain rfl | rfl | rfl : k = 0 ∨ k = 1 ∨ k = 2 := by omega
    · go_wp2_with (go_at_call 17; refine (cmp_any _ _ _).mono ?_; rintro e w' ⟨rfl, rfl⟩)
      · go_ret
        exact ⟨ret_int (cmpP_1 ‹_›).symm, rfl⟩
      · go_round
        case rel => exact ⟨1, by omega, rfl, fun _ => by simpa using ‹(cmpI a c != 0) = false›, by omega⟩
        case measure => simp [intOf]
    · go_wp2_with (go_at_call 17; refine (cmp_any _ _ _).mono ?_; rintro e w' ⟨rfl, rfl⟩)
      · go_ret
        exact ⟨ret_int (cmpP_2 (E1.out (by omega)) ‹_›).symm, rfl⟩
      · go_round
        case rel => exact ⟨2, by omega, rfl, fun _ => E1.out (by omega), fun _ => by simpa using ‹(cmpI b d != 0) = false›⟩
        case measure => simp [intOf]
    · go_wp2_with fail
      go_ret
      exact ⟨ret_int (cmpP_3 (E1.out (by omega)) (E2.out (by omega))).symm, rfl⟩

theorem below_any (a b c d : Int) (w : World) :
    Calls Try.prog 14 #[.agg #[.int .i64 a, .int .i64 b], .agg #[.int .i64 c, .int .i64 d]] w fun e w' => e = .returned (.bool (decide (cmpP a b c d < 0))) ∧ Below w.heap.size w w' := by
  go_enter Try.func14, Try.ntmps14
  go_wp2
  go_quiet ((go_at_call 16; exact quietly (cmp2_any _ _ a b c d _ (by go_simp) (by go_simp) (by go_simp) (by go_simp))))
  go_wp2
  go_ret
  exact ⟨rfl, by repeat (first | exact Below.refl _ _ | refine below_drewN ?_ _ | refine Below.alloc ?_ (by simp) _)⟩

theorem run_eq_arr2 {P : Program} {t e : TypeId} (hu : P.underlying t = some (.array 2 e)) (hi : (P.info? e).isSome = true) (he : P.underlying e = some (.int .i64)) (hk : P.plainKey e = true) (hc : P.cellsOf e = 1) (w : World) (a b c d : Int) :
    (Op.equal t (.agg #[.int .i64 a, .int .i64 b]) (.agg #[.int .i64 c, .int .i64 d])).run P w = .ok (a == c && b == d) w := by
  obtain ⟨i, hi⟩ := Option.isSome_iff_exists.1 hi
  have e0 : (part e #[.int .i64 a, .int .i64 b] 0).run P w = .ok (.int .i64 a) w := run_part_plain w hk rfl
  have e1 : (part e #[.int .i64 a, .int .i64 b] 1).run P w = .ok (.int .i64 b) w := run_part_plain w hk rfl
  have e2 : (part e #[.int .i64 c, .int .i64 d] 0).run P w = .ok (.int .i64 c) w := run_part_plain w hk rfl
  have e3 : (part e #[.int .i64 c, .int .i64 d] 1).run P w = .ok (.int .i64 d) w := run_part_plain w hk rfl
  rw [Op.equal, Op.maxDepth, run_equalIn_array w 9999 _ _ hu hi, hc]
  simp only [show List.range 2 = [0, 1] from rfl, Op.eqItems, Sem.run_bind, Nat.zero_mul, Nat.one_mul, e0, e2, Result.andThen_ok, run_equalIn_int w 9998 e .i64 .i64 _ _ he]
  cases h : a == c <;> cases h' : b == d <;> simp [h', e1, e3, run_equalIn_int w 9998 e .i64 .i64 _ _ he]
theorem run_eql_arr2 {P : Program} {t e : TypeId} (hu : P.underlying t = some (.array 2 e)) (hi : (P.info? e).isSome = true) (he : P.underlying e = some (.int .i64)) (hk : P.plainKey e = true) (hc : P.cellsOf e = 1) (w : World) (a b c d : Int) :
    (binOp .eql t (.agg #[.int .i64 a, .int .i64 b]) (.agg #[.int .i64 c, .int .i64 d])).run P w = .ok (.bool (a == c && b == d)) w := by
  simp only [binOp, Sem.run_bind, run_eq_arr2 hu hi he hk hc, Result.andThen_ok]; rfl
theorem run_neq_arr2 {P : Program} {t e : TypeId} (hu : P.underlying t = some (.array 2 e)) (hi : (P.info? e).isSome = true) (he : P.underlying e = some (.int .i64)) (hk : P.plainKey e = true) (hc : P.cellsOf e = 1) (w : World) (a b c d : Int) :
    (binOp .neq t (.agg #[.int .i64 a, .int .i64 b]) (.agg #[.int .i64 c, .int .i64 d])).run P w = .ok (.bool !(a == c && b == d)) w := by
  simp only [binOp, Sem.run_bind, run_eq_arr2 hu hi he hk hc, Result.andThen_ok]; rfl

def newerB (a b c d : Int) : Bool := decide (c < a) || decide (a = c) && decide (d ≤ b)
theorem newerB_1 {a b c d : Int} (h : (a == c && b == d) = true) : true = newerB a b c d := by grind [newerB]
theorem newerB_2 {a b c d : Int} (h : (a == c && b == d) = false) : (!decide (cmpP a b c d < 0)) = newerB a b c d := by grind [newerB, cmpP, cmpI]

theorem newer_any (a b c d : Int) (w : World) :
    Calls Try.prog 8 #[.int .i64 a, .int .i64 b, .int .i64 c, .int .i64 d] w fun e w' => e = .returned (.bool (newerB a b c d)) ∧ Below w.heap.size w w' := by
  have heq := fun w => run_eql_arr2 (P := Try.prog) (t := 36) (e := 3) Try.underlying36 (by kernel_rfl) Try.underlying3 (by kernel_rfl) (by kernel_rfl) w a b c d
  by_cases h : (a == c && b == d) = true
  · go_enter Try.func8, Try.ntmps8
    go_wp2_with fail
    go_ret
    exact ⟨ret_bool (newerB_1 h), by repeat (first | exact Below.refl _ _ | refine Below.alloc ?_ (by simp) _)⟩
  · replace h : (a == c && b == d) = false := by simpa using h
    go_enter Try.func8, Try.ntmps8
    go_wp2_with (go_at_call 14; refine (below_any _ _ _ _ _).mono ?_; rintro e w' ⟨rfl, hb⟩)
    go_ret
    exact ⟨ret_bool (newerB_2 h), (((Below.refl _ _).alloc (Nat.le_refl _) _).alloc (by simp) _).trans (hb.mono (by simp; omega))⟩

theorem rnewer_any (a b c d : Int) (w : World) :
    Calls Try.prog 9 #[.int .i64 a, .int .i64 b, .int .i64 c, .int .i64 d] w fun e w' => e = .returned (.bool (newerB a b c d)) ∧ w = w' := by
  go_enter Try.func9, Try.ntmps9
  go_wp2
  all_goals
    go_ret
    refine ⟨ret_bool ?_, rfl⟩
    grind [newerB]

def vOf (term own voted : Int) : Int := if own < term then 0 else voted
def gB (term own voted frm : Int) (newer : Bool) : Bool := if term < own then false else newer && decide (1 ≤ frm) && (vOf term own voted == 0 || vOf term own voted == frm)
def gI (term own voted frm : Int) (newer : Bool) : Int := if term < own then voted else if gB term own voted frm newer then frm else vOf term own voted

theorem grant_any (a b c d : Int) (n : Bool) (w : World) :
    Calls Try.prog 11 #[.int .i64 a, .int .i64 b, .int .i64 c, .int .i64 d, .bool n] w fun e w' => e = .returned (.tuple #[.bool (gB a b c d n), .int .i64 (gI a b c d n)]) ∧ w = w' := by
  go_enter Try.func11, Try.ntmps11
  go_wp2
  all_goals
    go_ret2
    refine ⟨ret_bi ?_ ?_, rfl⟩ <;> grind [gB, gI, vOf]

theorem rgrant_any (a b c d : Int) (n : Bool) (w : World) :
    Calls Try.prog 12 #[.int .i64 a, .int .i64 b, .int .i64 c, .int .i64 d, .bool n] w fun e w' => e = .returned (.tuple #[.bool (gB a b c d n), .int .i64 (gI a b c d n)]) ∧ w = w' := by
  go_enter Try.func12, Try.ntmps12
  go_wp2
  all_goals
    go_ret2
    refine ⟨ret_bi ?_ ?_, rfl⟩ <;> grind [gB, gI, vOf]

theorem told_any (a b c d : Int) (n g : Bool) (i : Int) (w : World) :
    Calls Try.prog 15 #[.int .i64 a, .int .i64 b, .int .i64 c, .int .i64 d, .bool n, .bool g, .int .i64 i] w fun e w' => e = .returned (.bool (gB a b c d n == g && gI a b c d n == i)) ∧ w = w' := by
  go_enter Try.func15, Try.ntmps15
  go_wp2_with (go_at_call 11; refine (grant_any _ _ _ _ _ _).mono ?_; rintro e w' ⟨rfl, rfl⟩)
  all_goals
    go_ret
    refine ⟨ret_bool ?_, rfl⟩
    grind

theorem newer_at (a b c d : Int) (r : Bool) (hr : newerB a b c d = r) (w : World) :
    Calls Try.prog 8 #[.int .i64 a, .int .i64 b, .int .i64 c, .int .i64 d] w fun e w' => e = .returned (.bool r) ∧ Below w.heap.size w w' := by
  rw [← hr]; exact newer_any a b c d w
theorem told_at (a b c d : Int) (n g : Bool) (i : Int) (h : (gB a b c d n == g && gI a b c d n == i) = true) (w : World) :
    Calls Try.prog 15 #[.int .i64 a, .int .i64 b, .int .i64 c, .int .i64 d, .bool n, .bool g, .int .i64 i] w fun e w' => e = .returned (.bool true) ∧ w = w' := by
  rw [← h]; exact told_any a b c d n g i w

theorem awake_any (w : World) : Calls Try.prog 10 #[] w fun e w' => e = .returned (.bool true) ∧ Below w.heap.size w w' := by
  go_enter Try.func10, Try.ntmps10
  go_wp2_with fail
  refine (newer_at _ _ _ _ true (by decide) _).mono ?_
  rintro e w1 ⟨rfl, hb1⟩
  go_wp2_with fail
  refine (newer_at _ _ _ _ false (by decide) _).mono ?_
  rintro e w2 ⟨rfl, hb2⟩
  go_wp2_with fail
  refine (newer_at _ _ _ _ true (by decide) _).mono ?_
  rintro e w3 ⟨rfl, hb3⟩
  go_wp2_with fail
  refine (told_at _ _ _ _ _ _ _ (by decide) _).mono ?_
  rintro e w' ⟨rfl, rfl⟩
  go_wp2_with fail
  refine (told_at _ _ _ _ _ _ _ (by decide) _).mono ?_
  rintro e w' ⟨rfl, rfl⟩
  go_wp2_with fail
  refine (told_at _ _ _ _ _ _ _ (by decide) _).mono ?_
  rintro e w' ⟨rfl, rfl⟩
  go_wp2_with fail
  refine (told_at _ _ _ _ _ _ _ (by decide) _).mono ?_
  rintro e w' ⟨rfl, rfl⟩
  go_wp2_with fail
  refine (told_at _ _ _ _ _ _ _ (by decide) _).mono ?_
  rintro e w' ⟨rfl, rfl⟩
  go_wp2_with fail
  go_ret
  exact ⟨rfl, (hb1.trans (hb2.mono hb1.size)).trans (hb3.mono (Nat.le_trans hb1.size hb2.size))⟩

theorem voteNewer_any (a b c d : Int) (W : World) :
    Calls Try.prog 3 #[.int .i64 a, .int .i64 b, .int .i64 c, .int .i64 d] W fun e w' => e = .returned (.bool true) ∧ Below W.heap.size W w' := by
  go_enter Try.func3, Try.ntmps3
  go_wp2_with fail
  refine (newer_any _ _ _ _ _).mono ?_
  rintro e w1 ⟨rfl, hb1⟩
  go_wp2_with fail
  refine (rnewer_any _ _ _ _ _).mono ?_
  rintro e w' ⟨rfl, rfl⟩
  go_wp2_with fail
  refine (awake_any _).mono ?_
  rintro e w2 ⟨rfl, hb2⟩
  go_wp2_with fail
  go_ret
  exact ⟨rfl, hb1.trans (hb2.mono hb1.size)⟩

theorem voteGrants_any (a b c d : Int) (n : Bool) (W : World) :
    Calls Try.prog 4 #[.int .i64 a, .int .i64 b, .int .i64 c, .int .i64 d, .bool n] W fun e w' => e = .returned (.bool true) ∧ Below W.heap.size W w' := by
  go_enter Try.func4, Try.ntmps4
  go_wp2_with fail
  refine (grant_any _ _ _ _ _ _).mono ?_
  rintro e w' ⟨rfl, rfl⟩
  go_wp2_with fail
  refine (rgrant_any _ _ _ _ _ _).mono ?_
  rintro e w' ⟨rfl, rfl⟩
  go_wp2_with fail
  refine (awake_any _).mono ?_
  rintro e w2 ⟨rfl, hb2⟩
  go_wp2_with fail
  go_ret
  exact ⟨rfl, hb2⟩

theorem walk_VoteNewer (W : World) (a : Int) (_ : (Lit.int .i64 a).wf = true) (b : Int) (_ : (Lit.int .i64 b).wf = true) (c : Int) (_ : (Lit.int .i64 c).wf = true) (d : Int) (_ : (Lit.int .i64 d).wf = true) :
    Calls Try.prog 3 #[.int .i64 a, .int .i64 b, .int .i64 c, .int .i64 d] W fun e w' => e = .returned (.bool true) ∧ Below W.heap.size W w' := voteNewer_any a b c d W
theorem walk_VoteGrants (W : World) (a : Int) (_ : (Lit.int .i64 a).wf = true) (b : Int) (_ : (Lit.int .i64 b).wf = true) (c : Int) (_ : (Lit.int .i64 c).wf = true) (d : Int) (_ : (Lit.int .i64 d).wf = true) (n : Bool) :
    Calls Try.prog 4 #[.int .i64 a, .int .i64 b, .int .i64 c, .int .i64 d, .bool n] W fun e w' => e = .returned (.bool true) ∧ Below W.heap.size W w' := voteGrants_any a b c d n W
end Go.Proofs.Ythokoihgbionmaa
