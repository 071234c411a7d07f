/- The walks of the law functions VoteNumbers and VoteOrder: each returns true, and nothing that was there is changed. No condition. -/
import Derived.Test.YthokoihgbionmaaVote
namespace Go.Proofs.Ythokoihgbionmaa
open Go.RowKit

def sixNs (k : Nat) : Int := [-9223372036854775808, -1, 0, 1, 2, 9223372036854775807].getD k 0
theorem six_cell (W : World) (k : Nat) (hk : k < 6) : (W.alloc (.cells #[.int .i64 (-9223372036854775808), .int .i64 (-1), .int .i64 0, .int .i64 1, .int .i64 2, .int .i64 9223372036854775807] 3)).cell? ⟨W.heap.size, k, none⟩ = some (.int .i64 (sixNs k)) := by
  rw [World.cell?_alloc_at _ _ _ _ rfl]
  match k, hk with
  | 0, _ | 1, _ | 2, _ | 3, _ | 4, _ | 5, _ => rfl

set_option maxRecDepth 100000 in
theorem walk_VoteNumbers (W : World) : Calls Try.prog 5 #[] W fun e w' => e = .returned (.bool true) ∧ Below W.heap.size W w' := by
  have hc := six_cell W
  have hb0 := (Below.refl W.heap.size W).alloc (Nat.le_refl _) (.cells #[.int .i64 (-9223372036854775808), .int .i64 (-1), .int .i64 0, .int .i64 1, .int .i64 2, .int .i64 9223372036854775807] 3)
  have hsz : W.heap.size + 1 ≤ (W.alloc (.cells #[.int .i64 (-9223372036854775808), .int .i64 (-1), .int .i64 0, .int .i64 1, .int .i64 2, .int .i64 9223372036854775807] 3)).heap.size := by simp
  go_enter Try.func5, Try.ntmps5
  go_wp2_with fail
  generalize (W.alloc (.cells #[.int .i64 (-9223372036854775808), .int .i64 (-1), .int .i64 0, .int .i64 1, .int .i64 2, .int .i64 9223372036854775807] 3)) = W0 at hc hb0 hsz ⊢
  have HC := Lib.hid hc
  clear hc
  go_loopw [2] (fun i wr => ∃ k : Nat, k ≤ 6 ∧ i = .int .i64 k ∧ Below (W.heap.size + 1) W0 wr) (fun i _ => 6 - (intOf i).toNat)
  case atStart => exact ⟨0, by omega, rfl, Below.refl _ _⟩
  case round =>
    obtain ⟨a, ha, rfl, hb1⟩ := hrel
    by_cases ha6 : a < 6
    · go_wp2_with fail
      obtain ⟨w1, rfl⟩ : ∃ w1 : World, w1 = wr := ⟨_, rfl⟩
      go_loopw [3] (fun i wr => ∃ k : Nat, k ≤ 6 ∧ i = .int .i64 k ∧ Below (W.heap.size + 1) W0 wr) (fun i _ => 6 - (intOf i).toNat)
      case atStart => exact ⟨0, by omega, rfl, hb1⟩
      case round =>
        obtain ⟨b, hb, rfl, hb2⟩ := hrel
        by_cases hb6 : b < 6
        · go_wp2_with fail
          obtain ⟨w2, rfl⟩ : ∃ w2 : World, w2 = wr := ⟨_, rfl⟩
          go_loopw [4] (fun i wr => ∃ k : Nat, k ≤ 6 ∧ i = .int .i64 k ∧ Below (W.heap.size + 1) W0 wr) (fun i _ => 6 - (intOf i).toNat)
          case atStart => exact ⟨0, by omega, rfl, hb2⟩
          case round =>
            obtain ⟨c, hc, rfl, hb3⟩ := hrel
            by_cases hc6 : c < 6
            · go_wp2_with fail
              obtain ⟨w3, rfl⟩ : ∃ w3 : World, w3 = wr := ⟨_, rfl⟩
              go_loopw [5] (fun i wr => ∃ k : Nat, k ≤ 6 ∧ i = .int .i64 k ∧ Below (W.heap.size + 1) W0 wr) (fun i _ => 6 - (intOf i).toNat)
              case atStart => exact ⟨0, by omega, rfl, hb3⟩
              case round =>
                obtain ⟨d, hd, rfl, hb4⟩ := hrel
                by_cases hd6 : d < 6
                · have ha' : (a : Int) < 6 := by omega
                  have hb' : (b : Int) < 6 := by omega
                  have hc' : (c : Int) < 6 := by omega
                  have hd' : (d : Int) < 6 := by omega
                  go_wp2_with fail
                  have ca : ∀ x : Calm (W.heap.size + 1) W0, x.1.cell? ⟨W.heap.size, a, none⟩ = some (.int .i64 (sixNs a)) := fun x => x.cell (HC.out a ha6) (by omega)
                  have cb : ∀ x : Calm (W.heap.size + 1) W0, x.1.cell? ⟨W.heap.size, b, none⟩ = some (.int .i64 (sixNs b)) := fun x => x.cell (HC.out b hb6) (by omega)
                  have cc : ∀ x : Calm (W.heap.size + 1) W0, x.1.cell? ⟨W.heap.size, c, none⟩ = some (.int .i64 (sixNs c)) := fun x => x.cell (HC.out c hc6) (by omega)
                  have cd : ∀ x : Calm (W.heap.size + 1) W0, x.1.cell? ⟨W.heap.size, d, none⟩ = some (.int .i64 (sixNs d)) := fun x => x.cell (HC.out d hd6) (by omega)
                  refine wp_region_calm (B := W.heap.size + 1) (W0 := W0) hb4 (by kernel_rfl) (by kernel_rfl) ?_
                  repeat (go_big_quiet_step ((first | (go_at_call 3; exact Calm.call hsz (voteNewer_any _ _ _ _ _)) | (go_at_call 4; exact Calm.call hsz (voteGrants_any _ _ _ _ _ _)))))
                  refine wpQuiet_nil ?_
                  intro w5 hb5
                  clear ca cb cc cd
                  go_wp2_with fail
                  go_roundw
                  case rel => exact ⟨d + 1, by omega, by go_num, hb5⟩
                  case measure => simp [intOf]; omega
                · go_wp2_with fail
                  go_roundw
                  case rel => exact ⟨c + 1, by omega, by go_num, hb4⟩
                  case measure => simp [intOf]; omega
            · go_wp2_with fail
              go_roundw
              case rel => exact ⟨b + 1, by omega, by go_num, hb3⟩
              case measure => simp [intOf]; omega
        · go_wp2_with fail
          go_roundw
          case rel => exact ⟨a + 1, by omega, by go_num, hb2⟩
          case measure => simp [intOf]; omega
    · go_wp2_with fail
      refine (awake_any _).mono ?_
      rintro e w2 ⟨rfl, hb2⟩
      go_wp2_with fail
      go_ret
      have hx := hb1.size
      exact ⟨rfl, (hb0.trans (hb1.mono (by omega))).trans (hb2.mono (by omega))⟩

theorem newer_total (a b c d : Int) : newerB a b c d = false → newerB c d a b = true := by grind [newerB]
theorem newer_same {a b c d : Int} : newerB a b c d = true → newerB c d a b = true → (a == c && b == d) = true := by grind [newerB]
theorem newer_trans {a b c d e f : Int} : newerB a b c d = true → newerB c d e f = true → newerB a b e f = true := by grind [newerB]

theorem neq_same {a b c d : Int} (h : (a == c && b == d) = true) (w : World) : (binOp .neq 34 (.agg #[.int .i64 a, .int .i64 b]) (.agg #[.int .i64 c, .int .i64 d])).run Try.prog w = .ok (.bool false) w := by
  have e := run_neq_arr2 (P := Try.prog) (t := 34) (e := 3) Try.underlying34 (by kernel_rfl) Try.underlying3 (by kernel_rfl) (by kernel_rfl) w a b c d
  rw [h] at e
  exact e

set_option maxRecDepth 100000 in
set_option maxHeartbeats 4000000 in
theorem order_core (a b c d e f : Int) (x y z u : Bool) (hx : Hid (newerB a b c d = x)) (hy : Hid (newerB c d a b = y)) (hz : Hid (newerB c d e f = z)) (hu : Hid (newerB a b e f = u)) (h1 : x = false → y = true) (h2 : Hid (x = true → y = true → (a == c && b == d) = true)) (h3 : x = true → z = true → u = true) (W : World) :
    Calls Try.prog 7 #[.agg #[.int .i64 a, .int .i64 b], .agg #[.int .i64 c, .int .i64 d], .agg #[.int .i64 e, .int .i64 f]] W fun e w' => e = .returned (.bool true) ∧ Below W.heap.size W w' := by
  have hb0 := (((Below.refl W.heap.size W).alloc (Nat.le_refl _) (.cells #[.int .i64 a, .int .i64 b] 34)).alloc (by simp) (.cells #[.int .i64 c, .int .i64 d] 34)).alloc (by simp; omega) (.cells #[.int .i64 e, .int .i64 f] 34)
  have hsz : W.heap.size + 3 ≤ (((W.alloc (.cells #[.int .i64 a, .int .i64 b] 34)).alloc (.cells #[.int .i64 c, .int .i64 d] 34)).alloc (.cells #[.int .i64 e, .int .i64 f] 34)).heap.size := by simp
  have c0 : (((W.alloc (.cells #[.int .i64 a, .int .i64 b] 34)).alloc (.cells #[.int .i64 c, .int .i64 d] 34)).alloc (.cells #[.int .i64 e, .int .i64 f] 34)).cell? ⟨W.heap.size, 0, none⟩ = some (.int .i64 a) := by go_simp
  have c1 : (((W.alloc (.cells #[.int .i64 a, .int .i64 b] 34)).alloc (.cells #[.int .i64 c, .int .i64 d] 34)).alloc (.cells #[.int .i64 e, .int .i64 f] 34)).cell? ⟨W.heap.size, 1, none⟩ = some (.int .i64 b) := by go_simp
  have c2 : (((W.alloc (.cells #[.int .i64 a, .int .i64 b] 34)).alloc (.cells #[.int .i64 c, .int .i64 d] 34)).alloc (.cells #[.int .i64 e, .int .i64 f] 34)).cell? ⟨W.heap.size + 1, 0, none⟩ = some (.int .i64 c) := by go_simp
  have c3 : (((W.alloc (.cells #[.int .i64 a, .int .i64 b] 34)).alloc (.cells #[.int .i64 c, .int .i64 d] 34)).alloc (.cells #[.int .i64 e, .int .i64 f] 34)).cell? ⟨W.heap.size + 1, 1, none⟩ = some (.int .i64 d) := by go_simp
  have c4 : (((W.alloc (.cells #[.int .i64 a, .int .i64 b] 34)).alloc (.cells #[.int .i64 c, .int .i64 d] 34)).alloc (.cells #[.int .i64 e, .int .i64 f] 34)).cell? ⟨W.heap.size + 1 + 1, 0, none⟩ = some (.int .i64 e) := by go_simp
  have c5 : (((W.alloc (.cells #[.int .i64 a, .int .i64 b] 34)).alloc (.cells #[.int .i64 c, .int .i64 d] 34)).alloc (.cells #[.int .i64 e, .int .i64 f] 34)).cell? ⟨W.heap.size + 1 + 1, 1, none⟩ = some (.int .i64 f) := by go_simp
  cases x <;> cases y <;> first | (exact absurd (h1 rfl) (by decide)) | skip
  all_goals cases z <;> cases u <;> first | (exact absurd (h3 rfl rfl) (by decide)) | skip
  all_goals
    clear h1 h3
    go_enter Try.func7, Try.ntmps7
    go_wp2_with fail
    generalize (((W.alloc (.cells #[.int .i64 a, .int .i64 b] 34)).alloc (.cells #[.int .i64 c, .int .i64 d] 34)).alloc (.cells #[.int .i64 e, .int .i64 f] 34)) = W0 at hb0 hsz c0 c1 c2 c3 c4 c5 ⊢
    refine (awake_any _).mono ?_
    rintro ew w1 ⟨rfl, hb1⟩
    replace hb1 := hb1.mono (B' := W.heap.size + 3) hsz
    have k0 : ∀ x : Calm (W.heap.size + 3) W0, x.1.cell? ⟨W.heap.size, 0, none⟩ = some (.int .i64 a) := fun x => x.cell c0 (by omega)
    have k1 : ∀ x : Calm (W.heap.size + 3) W0, x.1.cell? ⟨W.heap.size, 1, none⟩ = some (.int .i64 b) := fun x => x.cell c1 (by omega)
    have k2 : ∀ x : Calm (W.heap.size + 3) W0, x.1.cell? ⟨W.heap.size + 1, 0, none⟩ = some (.int .i64 c) := fun x => x.cell c2 (by omega)
    have k3 : ∀ x : Calm (W.heap.size + 3) W0, x.1.cell? ⟨W.heap.size + 1, 1, none⟩ = some (.int .i64 d) := fun x => x.cell c3 (by omega)
    have k4 : ∀ x : Calm (W.heap.size + 3) W0, x.1.cell? ⟨W.heap.size + 1 + 1, 0, none⟩ = some (.int .i64 e) := fun x => x.cell c4 (by omega)
    have k5 : ∀ x : Calm (W.heap.size + 3) W0, x.1.cell? ⟨W.heap.size + 1 + 1, 1, none⟩ = some (.int .i64 f) := fun x => x.cell c5 (by omega)
    clear c0 c1 c2 c3 c4 c5
    go_wp2_with fail
    refine wp_region_calm (B := W.heap.size + 3) (W0 := W0) hb1 (by kernel_rfl) (by kernel_rfl) ?_
    repeat (go_big_quiet_step ((go_at_call 8; first | (with_reducible exact Calm.call hsz (newer_at a b c d _ hx.out _)) | (with_reducible exact Calm.call hsz (newer_at c d a b _ hy.out _)))))
    refine wpQuiet_nil ?_
    intro w5 hb5
    have j0 := k0 ⟨w5, hb5⟩
    have j1 := k1 ⟨w5, hb5⟩
    have j2 := k2 ⟨w5, hb5⟩
    have j3 := k3 ⟨w5, hb5⟩
    dsimp only at j0 j1 j2 j3
    try have hne := fun w => neq_same (h2.out (by trivial) (by trivial)) w
    have j4 := k4 ⟨w5, hb5⟩
    have j5 := k5 ⟨w5, hb5⟩
    dsimp only at j4 j5
    go_wp2_with (first
      | (go_at_call 8; (with_reducible refine (newer_at c d e f _ hz.out _).mono ?_); rintro ew w6 ⟨rfl, hb6⟩; have hb6' : Below (W.heap.size + 3) W0 w6 := hb5.trans (hb6.mono (by have := hb5.size; omega)); have q0 := k0 ⟨w6, hb6'⟩; have q1 := k1 ⟨w6, hb6'⟩; have q4 := k4 ⟨w6, hb6'⟩; have q5 := k5 ⟨w6, hb6'⟩; dsimp only at q0 q1 q4 q5)
      | (go_at_call 8; (with_reducible refine (newer_at a b e f _ hu.out _).mono ?_); rintro ew w7 ⟨rfl, hb7⟩))
    go_ret
    first
      | exact ⟨rfl, hb0.trans ((hb6'.trans (hb7.mono (by have := hb6'.size; omega))).mono (by omega))⟩
      | exact ⟨rfl, hb0.trans (hb6'.mono (by omega))⟩
      | exact ⟨rfl, hb0.trans (hb5.mono (by omega))⟩

theorem walk_VoteOrder (W : World) (a b : Int) (_ : (Lit.int .i64 a).wf = true) (_ : (Lit.int .i64 b).wf = true) (c d : Int) (_ : (Lit.int .i64 c).wf = true) (_ : (Lit.int .i64 d).wf = true) (e f : Int) (_ : (Lit.int .i64 e).wf = true) (_ : (Lit.int .i64 f).wf = true) :
    Calls Try.prog 7 #[.agg #[.int .i64 a, .int .i64 b], .agg #[.int .i64 c, .int .i64 d], .agg #[.int .i64 e, .int .i64 f]] W fun e w' => e = .returned (.bool true) ∧ Below W.heap.size W w' :=
  order_core a b c d e f _ _ _ _ rfl rfl rfl rfl (newer_total a b c d) newer_same newer_trans W
end Go.Proofs.Ythokoihgbionmaa
