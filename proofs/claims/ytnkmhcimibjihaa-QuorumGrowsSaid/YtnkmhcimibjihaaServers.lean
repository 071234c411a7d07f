/- The function servers of the laws of layer 22, and the laws QuorumMeets and QuorumGrows: each returns true, and nothing that was there is changed. No condition. -/
import Derived.Test.YtnkmhcimibjihaaQuorum2
import Derived.Test.YtnkmhcimibjihaaServersPlain
namespace Go.Proofs.Ytnkmhcimibjihaa
open Go.RowKit

theorem i64_and511 (n : Int) : bits .and .i64 n 511 = n % 512 := by
  have h511 : (BitVec.ofInt 64 511).toNat = 2 ^ 9 - 1 := by decide
  have key : (BitVec.ofInt 64 n &&& BitVec.ofInt 64 511).toNat = (n % ((2 ^ 64 : Nat) : Int)).toNat % 2 ^ 9 := by
    rw [BitVec.toNat_and, BitVec.toNat_ofInt, h511, Nat.and_two_pow_sub_one_eq_mod]
  show IntKind.i64.wrap ((BitVec.ofInt 64 n &&& BitVec.ofInt 64 511).toNat : Nat) = n % 512
  rw [key, IntKind.wrap_i64]
  omega
def low (n : Int) : Nat := (n % 512).toNat
theorem low_lt (n : Int) : low n < 512 := by unfold low; omega
theorem low_eq (n : Int) : bits .and .i64 n 511 = (low n : Int) := by rw [i64_and511]; unfold low; omega
theorem low_nat (m : Nat) : (m % 18446744073709551616) % 512 = m % 512 := by omega
theorem low_and (a b : Int) : bits .and .i64 (bits .and .i64 a b) 511 = ((low a &&& low b : Nat) : Int) := by
  rw [i64_and511]
  show IntKind.i64.wrap ((BitVec.ofInt 64 a &&& BitVec.ofInt 64 b).toNat : Nat) % 512 = _
  rw [BitVec.toNat_and, BitVec.toNat_ofInt, BitVec.toNat_ofInt, IntKind.wrap_i64]
  have e : ∀ x : Int, low x = (x % ((2 ^ 64 : Nat) : Int)).toNat % 2 ^ 9 := fun x => by unfold low; omega
  rw [e a, e b, ← Nat.and_mod_two_pow]
  omega
theorem low_or (a b : Int) : bits .and .i64 (bits .or .i64 a b) 511 = ((low a ||| low b : Nat) : Int) := by
  rw [i64_and511]
  show IntKind.i64.wrap ((BitVec.ofInt 64 a ||| BitVec.ofInt 64 b).toNat : Nat) % 512 = _
  rw [BitVec.toNat_or, BitVec.toNat_ofInt, BitVec.toNat_ofInt, IntKind.wrap_i64]
  have e : ∀ x : Int, low x = (x % ((2 ^ 64 : Nat) : Int)).toNat % 2 ^ 9 := fun x => by unfold low; omega
  rw [e a, e b, ← Nat.or_mod_two_pow]
  omega

theorem i64_and1 (n : Int) : bits .and .i64 n 1 = n % 2 := by
  have h1 : (BitVec.ofInt 64 1).toNat = 2 ^ 1 - 1 := by decide
  have key : (BitVec.ofInt 64 n &&& BitVec.ofInt 64 1).toNat = (n % ((2 ^ 64 : Nat) : Int)).toNat % 2 ^ 1 := by
    rw [BitVec.toNat_and, BitVec.toNat_ofInt, h1, Nat.and_two_pow_sub_one_eq_mod]
  show IntKind.i64.wrap ((BitVec.ofInt 64 n &&& BitVec.ofInt 64 1).toNat : Nat) = n % 2
  rw [key, IntKind.wrap_i64]
  omega
theorem bit_test (m k : Nat) : (bits BinOp.and IntKind.i64 ((m : Int) / 2 ^ k) 1 == 1) = m.testBit k := by
  rw [i64_and1, Nat.testBit_eq_decide_div_mod_eq]
  have e : ((m : Int) / 2 ^ k) = ((m / 2 ^ k : Nat) : Int) := by simp
  rw [e]
  generalize m / 2 ^ k = q
  rw [Bool.eq_iff_iff]; simp; omega
theorem own_below {w : World} {base e size n : Nat} {v : Value} {xs : List Value} (h : w.ownsRow base e size v n xs) : ∀ k, v.ownBlock = some k → base ≤ k := by
  intro k hk
  rcases h.2 with ⟨rfl, _⟩ | ⟨g, cap, cur, rfl, h3, _⟩
  · simp [Value.ownBlock] at hk
  · simp [Value.ownBlock] at hk; omega
def SrvPost (m : Nat) (w : World) (e : Ending) (w' : World) : Prop :=
  ∃ ao cap, e = .returned (.slice ao (srv m 9).length cap) ∧ IntsIn w' w'.heap.size ao (srv m 9) ∧ Below w.heap.size w w'
theorem servers_any (m : Nat) (hm : m < 512) (w : World) :
    Calls Try.prog 21 #[.int .i64 m] w (SrvPost m w) := by
  obtain ⟨i0, hi, hz0, hz1, hz2⟩ := info_parts infoInt
  go_enter Try.func21, Try.ntmps21
  go_wp2_with fail
  go_loopw [3, 4] (fun v i wr => ∃ k : Nat, k ≤ 9 ∧ i = .int .i64 ((k : Int) + 1) ∧ wr.ownsRow w.heap.size 3 1 v (srv m k).length ((srv m k).map (Value.int .i64)) ∧ Below w.heap.size w wr) (fun _ i _ => 10 - (intOf i).toNat)
  case atStart => exact ⟨0, by omega, rfl, World.ownsRow_nil _ _ _ _, Below.refl _ _⟩
  case round =>
    obtain ⟨k, hk, rfl, hown, hbel⟩ := hrel
    by_cases hlt : k < 9
    · have i1 : (k : Int) + 1 ≤ 9 := by omega
      have hsu := srv_succ m k
      have hle := srv_len m k
      have hbs := hbel.size
      cases ht : m.testBit k
      · have t1 := bit_test m k
        rw [ht] at t1 hsu
        have HS := Lib.hid hsu
        clear hsu ht
        go_wp2_with fail
        go_roundw
        case rel => exact ⟨k + 1, by omega, by go_num, by rw [HS.out]; simpa using hown, hbel⟩
        case measure => simp [intOf]; omega
      · have t1 := bit_test m k
        rw [ht] at t1 hsu
        have HS := Lib.hid hsu
        clear hsu ht
        go_wp2_with (at_builtin; refine wpList_append_own _ rfl (.tmp 16) (.tmp 18) 22 rfl w.heap.size 3 i0 (.int .i64 0) 1 8 Try.underlying22 hi hz0 hz1 hz2 rfl (by decide) _ _ _ rfl (World.ownsRow.alloc hown _) ⟨wr.heap.size, 0, none⟩ 1 1 [.int .i64 ((k : Int) + 1)] rfl rfl (cell_one_new _ _ _) (by simp [Value.oneCell']) (by unfold maxLen; omega) (by omega) (by simp; omega) ?_)
        intro v' w1 hown' hgrow _
        have hb1 := (hbel.alloc hbs _).grown hgrow (by simp; omega) (own_below hown)
        clear hown hgrow
        go_wp2_with fail
        go_roundw
        case rel => exact ⟨k + 1, by omega, by go_num, by rw [HS.out]; simpa using hown', hb1⟩
        case measure => simp [intOf]; omega
    · obtain rfl : k = 9 := by omega
      rcases Go.Joins.ownsRow_forms hown with ⟨rfl, hz⟩ | ⟨g, cap, rfl⟩
      · have hn : srv m 9 = [] := List.eq_nil_of_length_eq_zero hz
        have HN := Lib.hid hn
        clear hn
        go_wp2_with fail
        go_ret
        exact ⟨none, 0, by rw [HN.out]; rfl, Or.inl HN.out, hbel⟩
      · go_wp2_with fail
        go_ret
        refine ⟨_, _, rfl, Or.inr ⟨g, 0, rfl, ownsRow_lt hown, fun i hi => ?_⟩, hbel⟩
        rw [Nat.zero_add, World.ownsRow.cellAt hown i (by omega)]
        simp [List.getD, List.getElem?_eq_getElem hi]

theorem ints_len {w : World} {B : Nat} {ao : Option Addr} {m : Nat} (_ : IntsIn w B ao (srv m 9)) : (srv m 9).length ≤ 4611686018427387904 := by
  have := srv_len m 9
  omega

set_option maxHeartbeats 1000000 in
theorem walk_QuorumMeets (W : World) (v : Int) (_ : (Lit.int .i64 v).wf = true) (n : Int) (_ : (Lit.int .i64 n).wf = true) (a : Int) (_ : (Lit.int .i64 a).wf = true) (b : Int) (_ : (Lit.int .i64 b).wf = true) :
    Calls Try.prog 4 #[.int .i64 v, .int .i64 n, .int .i64 a, .int .i64 b] W fun e w' => e = .returned (.bool true) ∧ Below W.heap.size W w' := by
  have ev := low_eq v
  have en := low_eq n
  have ea := low_eq a
  have eb := low_eq b
  have eab := low_and a b
  have hv := low_lt v
  have hn := low_lt n
  have ha := low_lt a
  have hb := low_lt b
  have hmeet := @meets (low v) (low n) (low a) (low b)
  generalize low v = v' at ev hv hmeet ⊢
  generalize low n = n' at en hn hmeet ⊢
  generalize low a = a' at ea eab ha hmeet ⊢
  generalize low b = b' at eb eab hb hmeet ⊢
  have HM := Lib.hid hmeet
  clear hmeet
  go_enter Try.func4, Try.ntmps4
  go_wp2_with fail
  refine (awake22_any _).mono ?_
  rintro e w1 ⟨rfl, hb1⟩
  go_wp2_with fail
  refine (servers_any v' hv _).mono ?_
  rintro e w2 ⟨a1, c1, rfl, h1, hb2⟩
  go_wp2_with fail
  refine (servers_any n' hn _).mono ?_
  rintro e w3 ⟨a2, c2, rfl, h2, hb3⟩
  go_wp2_with fail
  refine (servers_any a' ha _).mono ?_
  rintro e w4 ⟨a3, c3, rfl, h3, hb4⟩
  go_wp2_with fail
  refine (servers_any b' hb _).mono ?_
  rintro e w5 ⟨a4, c4, rfl, h4, hb5⟩
  have B2 := hb1.trans (hb2.mono hb1.size)
  have B3 := B2.trans (hb3.mono B2.size)
  have B4 := B3.trans (hb4.mono B3.size)
  have B5 := B4.trans (hb5.mono B4.size)
  have k1 := ((h1.below hb3 (Nat.le_refl _)).below (hb4.mono hb3.size) (Nat.le_refl _)).below (hb5.mono (Nat.le_trans hb3.size hb4.size)) (Nat.le_refl _)
  have k2 := (h2.below hb4 (Nat.le_refl _)).below (hb5.mono hb4.size) (Nat.le_refl _)
  have k3 := h3.below hb5 (Nat.le_refl _)
  go_wp2_with fail
  cases e1 : enoughS (srv v' 9) (srv a' 9)
  · have E1 := Lib.hid e1
    clear e1
    refine (enough_at _ _ _ _ _ _ _ _ false _ rfl rfl E1.out (k1.mono (by have := hb3.size; have := hb4.size; have := hb5.size; omega)) (k3.mono hb5.size) (ints_len k1) (ints_len k3)).mono ?_
    rintro e w6 ⟨rfl, hb6⟩
    go_wp2_with fail
    go_ret
    exact ⟨rfl, B5.trans (hb6.mono B5.size)⟩
  · have E1 := Lib.hid e1
    clear e1
    refine (enough_at _ _ _ _ _ _ _ _ true _ rfl rfl E1.out (k1.mono (by have := hb3.size; have := hb4.size; have := hb5.size; omega)) (k3.mono hb5.size) (ints_len k1) (ints_len k3)).mono ?_
    rintro e w6 ⟨rfl, hb6⟩
    have B6 := B5.trans (hb6.mono B5.size)
    have q1 := k1.below hb6 (by have := hb3.size; have := hb4.size; have := hb5.size; omega)
    have q2 := k2.below hb6 (by have := hb4.size; have := hb5.size; omega)
    have q4 := h4.below hb6 (Nat.le_refl _)
    have z6 := hb6.size
    go_wp2_with fail
    cases e2 : enoughS (srv n' 9) (srv b' 9)
    · have E2 := Lib.hid e2
      clear e2
      refine (enough_at _ _ _ _ _ _ _ _ false _ rfl rfl E2.out (q2.mono (by have := hb4.size; have := hb5.size; omega)) (q4.mono z6) (ints_len q2) (ints_len q4)).mono ?_
      rintro e w7 ⟨rfl, hb7⟩
      go_wp2_with fail
      go_ret
      exact ⟨rfl, B6.trans (hb7.mono B6.size)⟩
    · have E2 := Lib.hid e2
      clear e2
      refine (enough_at _ _ _ _ _ _ _ _ true _ rfl rfl E2.out (q2.mono (by have := hb4.size; have := hb5.size; omega)) (q4.mono z6) (ints_len q2) (ints_len q4)).mono ?_
      rintro e w7 ⟨rfl, hb7⟩
      have B7 := B6.trans (hb7.mono B6.size)
      have z7 := hb7.size
      have r1 := q1.below hb7 (by have := hb3.size; have := hb4.size; have := hb5.size; omega)
      have r2 := q2.below hb7 (by have := hb4.size; have := hb5.size; omega)
      by_cases hvn : v' = n'
      · have t1 : ((v' : Int) != (n' : Int)) = false := by simp [hvn]
        have t2 : (((a' &&& b' : Nat) : Int) != 0) = true := by
          have := HM.out E1.out E2.out (Or.inl hvn)
          simp; omega
        clear hvn
        go_wp2_with fail
        go_ret
        exact ⟨rfl, B7⟩
      · have t1 : ((v' : Int) != (n' : Int)) = true := by simp; omega
        clear hvn
        go_wp2_with fail
        cases e3 : stepS (srv v' 9) (srv n' 9)
        · have E3 := Lib.hid e3
          clear e3
          refine (step_at _ _ _ _ _ _ _ _ false _ rfl rfl E3.out (r1.mono (by have := hb3.size; have := hb4.size; have := hb5.size; omega)) (r2.mono (by have := hb4.size; have := hb5.size; omega)) (ints_len r1) (ints_len r2)).mono ?_
          rintro e w8 ⟨rfl, hb8⟩
          go_wp2_with fail
          go_ret
          exact ⟨rfl, B7.trans (hb8.mono B7.size)⟩
        · have E3 := Lib.hid e3
          clear e3
          have t2 : (((a' &&& b' : Nat) : Int) != 0) = true := by
            have := HM.out E1.out E2.out (Or.inr E3.out)
            simp; omega
          refine (step_at _ _ _ _ _ _ _ _ true _ rfl rfl E3.out (r1.mono (by have := hb3.size; have := hb4.size; have := hb5.size; omega)) (r2.mono (by have := hb4.size; have := hb5.size; omega)) (ints_len r1) (ints_len r2)).mono ?_
          rintro e w8 ⟨rfl, hb8⟩
          go_wp2_with fail
          go_ret
          exact ⟨rfl, B7.trans (hb8.mono B7.size)⟩

set_option maxHeartbeats 1000000 in
theorem walk_QuorumGrows (W : World) (v : Int) (_ : (Lit.int .i64 v).wf = true) (a : Int) (_ : (Lit.int .i64 a).wf = true) (b : Int) (_ : (Lit.int .i64 b).wf = true) :
    Calls Try.prog 5 #[.int .i64 v, .int .i64 a, .int .i64 b] W fun e w' => e = .returned (.bool true) ∧ Below W.heap.size W w' := by
  have ev := low_eq v
  have ea := low_eq a
  have eab := low_or a b
  have hv := low_lt v
  have ha := low_lt a
  have hab : low a ||| low b < 512 := Nat.or_lt_two_pow (n := 9) (low_lt a) (low_lt b)
  have hgrow := @grows (low v) (low a) (low b)
  generalize low v = v' at ev hv hgrow ⊢
  generalize low a ||| low b = o' at eab hab hgrow ⊢
  generalize low a = a' at ea ha hgrow ⊢
  have HG := Lib.hid hgrow
  clear hgrow
  have HR := Lib.hid (right_srv v')
  have HA := Lib.hid (enough_all v')
  have hlen := srv_len v' 9
  go_enter Try.func5, Try.ntmps5
  go_wp2_with fail
  refine (awake22_any _).mono ?_
  rintro e w1 ⟨rfl, hb1⟩
  go_wp2_with fail
  refine (servers_any v' hv _).mono ?_
  rintro e w2 ⟨a1, c1, rfl, h1, hb2⟩
  have B2 := hb1.trans (hb2.mono hb1.size)
  go_wp2_with fail
  have hcase : (rightS (srv v' 9) = true ∧ (1 : Int) ≤ (srv v' 9).length ∧ ((srv v' 9).length : Int) ≤ 7) ∨ (rightS (srv v' 9) = false ∧ (1 : Int) ≤ (srv v' 9).length ∧ ¬ ((srv v' 9).length : Int) ≤ 7) ∨ (rightS (srv v' 9) = false ∧ ¬ (1 : Int) ≤ (srv v' 9).length ∧ ((srv v' 9).length : Int) ≤ 7) := by
    rw [HR.out, Bool.and_eq_true, Bool.and_eq_false_iff]
    simp only [decide_eq_true_eq, decide_eq_false_iff_not]
    omega
  rcases hcase with ⟨hr, hr1, hr2⟩ | ⟨hr, hr1, hr2⟩ | ⟨hr, hr1, hr2⟩
  all_goals
    have HR2 := Lib.hid hr
    clear hr
    refine (right_at _ _ _ _ _ _ rfl HR2.out h1 (ints_len h1)).mono ?_
    rintro e w3 ⟨rfl, hb3⟩
    have B3 := B2.trans (hb3.mono B2.size)
    have k1 := h1.below hb3 (Nat.le_refl _)
    have z3 := hb3.size
    go_wp2_with fail
    refine (servers_any a' ha _).mono ?_
    rintro e w4 ⟨a2, c2, rfl, h2, hb4⟩
    have B4 := B3.trans (hb4.mono B3.size)
    have k2 := k1.below hb4 z3
    have z4 := hb4.size
    go_wp2_with fail
    cases e1 : enoughS (srv v' 9) (srv a' 9)
    · have E1 := Lib.hid e1
      clear e1
      refine (enough_at _ _ _ _ _ _ _ _ _ _ rfl rfl E1.out (k2.mono (by omega)) h2 (ints_len k2) (ints_len h2)).mono ?_
      rintro e w5 ⟨rfl, hb5⟩
      have B5 := B4.trans (hb5.mono B4.size)
      have k3 := k2.below hb5 (by omega)
      have z5 := hb5.size
      go_wp2_with fail
      refine (enough_at _ _ _ _ _ _ _ _ _ _ rfl rfl (HA.out.trans HR2.out) (k3.mono (by omega)) (k3.mono (by omega)) (ints_len k3) (ints_len k3)).mono ?_
      rintro e u1 ⟨rfl, hu1⟩
      have U1 := B5.trans (hu1.mono B5.size)
      have g1 := k3.below hu1 (by omega)
      have y1 := hu1.size
      go_wp2_with fail
      refine (right_at _ _ _ _ _ _ rfl HR2.out (g1.mono (by omega)) (ints_len g1)).mono ?_
      rintro e u2 ⟨rfl, hu2⟩
      have U2 := U1.trans (hu2.mono U1.size)
      have g2 := g1.below hu2 (by omega)
      have y2 := hu2.size
      go_wp2_with fail
      refine (enough_at _ none _ 0 _ _ _ [] false _ rfl rfl (enough_none _) (g2.mono (by omega)) (Or.inl rfl) (ints_len g2) (by decide)).mono ?_
      rintro e u3 ⟨rfl, hu3⟩
      go_wp2_with fail
      go_ret
      exact ⟨rfl, U2.trans (hu3.mono U2.size)⟩
    · have E1 := Lib.hid e1
      clear e1
      refine (enough_at _ _ _ _ _ _ _ _ _ _ rfl rfl E1.out (k2.mono (by omega)) h2 (ints_len k2) (ints_len h2)).mono ?_
      rintro e w5 ⟨rfl, hb5⟩
      have B5 := B4.trans (hb5.mono B4.size)
      have k3 := k2.below hb5 (by omega)
      have z5 := hb5.size
      go_wp2_with fail
      refine (servers_any o' hab _).mono ?_
      rintro e w6 ⟨a3, c3, rfl, h3, hb6⟩
      have B6 := B5.trans (hb6.mono B5.size)
      have k4 := k3.below hb6 (by omega)
      have z6 := hb6.size
      go_wp2_with fail
      refine (enough_at _ _ _ _ _ _ _ _ true _ rfl rfl (HG.out E1.out) (k4.mono (by omega)) h3 (ints_len k4) (ints_len h3)).mono ?_
      rintro e w7 ⟨rfl, hb7⟩
      have B7 := B6.trans (hb7.mono B6.size)
      have k5 := k4.below hb7 (by omega)
      have z7 := hb7.size
      go_wp2_with fail
      refine (enough_at _ _ _ _ _ _ _ _ _ _ rfl rfl (HA.out.trans HR2.out) (k5.mono (by omega)) (k5.mono (by omega)) (ints_len k5) (ints_len k5)).mono ?_
      rintro e u1 ⟨rfl, hu1⟩
      have U1 := B7.trans (hu1.mono B7.size)
      have g1 := k5.below hu1 (by omega)
      have y1 := hu1.size
      go_wp2_with fail
      refine (right_at _ _ _ _ _ _ rfl HR2.out (g1.mono (by omega)) (ints_len g1)).mono ?_
      rintro e u2 ⟨rfl, hu2⟩
      have U2 := U1.trans (hu2.mono U1.size)
      have g2 := g1.below hu2 (by omega)
      have y2 := hu2.size
      go_wp2_with fail
      refine (enough_at _ none _ 0 _ _ _ [] false _ rfl rfl (enough_none _) (g2.mono (by omega)) (Or.inl rfl) (ints_len g2) (by decide)).mono ?_
      rintro e u3 ⟨rfl, hu3⟩
      go_wp2_with fail
      go_ret
      exact ⟨rfl, U2.trans (hu3.mono U2.size)⟩
end Go.Proofs.Ytnkmhcimibjihaa
