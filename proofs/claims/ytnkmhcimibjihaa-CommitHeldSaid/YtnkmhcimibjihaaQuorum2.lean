/- The reference's functions of layer 22, the law's own example, and the law QuorumTells: of any two rows it returns true, and nothing that was there is changed. No condition. -/
import Derived.Test.YtnkmhcimibjihaaQuorum
import Derived.Test.YtnkmhcimibjihaaLent
namespace Go.Proofs.Ytnkmhcimibjihaa
open Go.RowKit

theorem rmore_any (ao co : Option Addr) (cap cap2 : Nat) (v u : List Int) (w : World) (B : Nat) (hx : IntsIn w B ao v) (hy : IntsIn w B co u) (hl : v.length ≤ 4611686018427387904) (hl2 : u.length ≤ 4611686018427387904) :
    Calls Try.prog 37 #[.slice ao v.length cap, .slice co u.length cap2] w fun e w' => e = .returned (.int .i64 (moreS v u)) ∧ w = w' := by
  have HX := Lib.hid hx
  have HY := Lib.hid hy
  clear hx hy
  go_enter Try.func37, Try.ntmps37
  go_wp2_with fail
  go_loop [5, 6] (fun n i => ∃ k : Nat, k ≤ v.length ∧ i = .int .i64 k ∧ n = .int .i64 (moreS (v.take k) u)) (fun _ i => v.length - (intOf i).toNat)
  case atStart => exact ⟨0, by omega, rfl, rfl⟩
  case round =>
    obtain ⟨k, hk, rfl, rfl⟩ := hrel
    by_cases hlt : k < v.length
    · rcases HX.out with h0 | ⟨b, off, rfl, hb, hc⟩
      · rw [h0] at hlt; simp at hlt
      have c0 := hc k hlt
      clear hc
      have hst := moreS_take (u := u) hlt
      have hle := moreS_le (v.take k) u
      have hle2 : (v.take k).length ≤ k := List.length_take_le _ _
      obtain ⟨x, hxe⟩ : ∃ x, x = v.getD k 0 := ⟨_, rfl⟩
      rw [← hxe] at c0 hst
      clear hxe
      generalize moreS (v.take k) u = m at hst hle ⊢
      have HS := Lib.hid hst
      clear hst
      cases hh : hasB u x
      · have HH := Lib.hid hh
        clear hh
        go_wp2_with fail
        refine (rhas_any _ _ u x _ B HY.out hl2).mono ?_
        rw [HH.out]
        rintro e w' ⟨rfl, rfl⟩
        go_wp2_with fail
        go_round
        case rel => exact ⟨k + 1, by omega, by go_num, by rw [HS.out, HH.out]; go_num⟩
        case measure => simp [intOf]; omega
      · have HH := Lib.hid hh
        clear hh
        go_wp2_with fail
        refine (rhas_any _ _ u x _ B HY.out hl2).mono ?_
        rw [HH.out]
        rintro e w' ⟨rfl, rfl⟩
        go_wp2_with fail
        go_round
        case rel => exact ⟨k + 1, by omega, by go_num, by rw [HS.out, HH.out]; go_num⟩
        case measure => simp [intOf]; omega
    · go_wp2_with fail
      go_ret
      refine ⟨?_, rfl⟩
      rw [List.take_of_length_le (by omega)]
      rfl

theorem renough_any (ao co : Option Addr) (cap cap2 : Nat) (v u : List Int) (w : World) (B : Nat) (hx : IntsIn w B ao v) (hy : IntsIn w B co u) (hl : v.length ≤ 4611686018427387904) (hl2 : u.length ≤ 4611686018427387904) :
    Calls Try.prog 17 #[.slice ao v.length cap, .slice co u.length cap2] w fun e w' => e = .returned (.bool (enoughS v u)) ∧ w = w' := by
  have HX := Lib.hid hx
  have HY := Lib.hid hy
  clear hx hy
  cases hr : rightS v
  · have HR := Lib.hid hr
    clear hr
    go_enter Try.func17, Try.ntmps17
    go_wp2_with fail
    refine (rright_any _ _ v _ B HX.out hl).mono ?_
    rw [HR.out]
    rintro e w' ⟨rfl, rfl⟩
    go_wp2_with fail
    go_ret
    exact ⟨ret_bool (by rw [enoughS, HR.out]; rfl), rfl⟩
  · have hvl := ((right_iff v).1 hr).2.2.2
    have HR := Lib.hid hr
    clear hr
    go_enter Try.func17, Try.ntmps17
    go_wp2_with fail
    refine (rright_any _ _ v _ B HX.out hl).mono ?_
    rw [HR.out]
    rintro e w' ⟨rfl, rfl⟩
    go_wp2_with fail
    go_loop [5, 6] (fun n i => ∃ k : Nat, k ≤ v.length ∧ i = .int .i64 k ∧ n = .int .i64 (commonS (v.take k) u)) (fun _ i => v.length - (intOf i).toNat)
    case atStart => exact ⟨0, by omega, rfl, rfl⟩
    case round =>
      obtain ⟨k, hk, rfl, rfl⟩ := hrel
      have hle := commonS_le (v.take k) u
      have hle2 : (v.take k).length ≤ k := List.length_take_le _ _
      by_cases hlt : k < v.length
      · rcases HX.out with h0 | ⟨b, off, rfl, hb, hc⟩
        · rw [h0] at hlt; simp at hlt
        have c0 := hc k hlt
        clear hc
        have hst := commonS_take (u := u) hlt
        obtain ⟨x, hxe⟩ : ∃ x, x = v.getD k 0 := ⟨_, rfl⟩
        rw [← hxe] at c0 hst
        clear hxe
        generalize commonS (v.take k) u = m at hst hle ⊢
        have HS := Lib.hid hst
        clear hst
        cases hh : hasB u x
        all_goals
          have HH := Lib.hid hh
          clear hh
          go_wp2_with fail
          refine (rhas_any _ _ u x _ B HY.out hl2).mono ?_
          rw [HH.out]
          rintro e w' ⟨rfl, rfl⟩
          go_wp2_with fail
          go_round
          case rel => exact ⟨k + 1, by omega, by go_num, by rw [HS.out, HH.out]; go_num⟩
          case measure => simp [intOf]; omega
      · have he : commonS (v.take k) u = commonS v u := by rw [List.take_of_length_le (by omega)]
        rw [he]
        rw [he] at hle
        clear he
        go_wp2_with fail
        go_ret
        refine ⟨ret_bool ?_, rfl⟩
        rw [enoughS, HR.out, Bool.true_and, Bool.eq_iff_iff]
        simp
        omega

theorem rstep_any (ao co : Option Addr) (cap cap2 : Nat) (v u : List Int) (w : World) (B : Nat) (hx : IntsIn w B ao v) (hy : IntsIn w B co u) (hl : v.length ≤ 4611686018427387904) (hl2 : u.length ≤ 4611686018427387904) :
    Calls Try.prog 19 #[.slice ao v.length cap, .slice co u.length cap2] w fun e w' => e = .returned (.bool (stepS v u)) ∧ w = w' := by
  have HX := Lib.hid hx
  have HY := Lib.hid hy
  clear hx hy
  cases hr : rightS v
  · have HR := Lib.hid hr
    clear hr
    go_enter Try.func19, Try.ntmps19
    go_wp2_with fail
    refine (rright_any _ _ v _ B HX.out hl).mono ?_
    rw [HR.out]
    rintro e w' ⟨rfl, rfl⟩
    go_wp2_with fail
    go_ret
    exact ⟨ret_bool (by rw [stepS, HR.out]; rfl), rfl⟩
  · cases hr2 : rightS u
    · have HR := Lib.hid hr
      have HR2 := Lib.hid hr2
      clear hr hr2
      go_enter Try.func19, Try.ntmps19
      go_wp2_with fail
      refine (rright_any _ _ v _ B HX.out hl).mono ?_
      rw [HR.out]
      rintro e w' ⟨rfl, rfl⟩
      go_wp2_with fail
      refine (rright_any _ _ u _ B HY.out hl2).mono ?_
      rw [HR2.out]
      rintro e w' ⟨rfl, rfl⟩
      go_wp2_with fail
      go_ret
      exact ⟨ret_bool (by rw [stepS, HR.out, HR2.out]; rfl), rfl⟩
    · have hvl := ((right_iff v).1 hr).2.2.2
      have hul := ((right_iff u).1 hr2).2.2.2
      have hm1 := moreS_le v u
      have hm2 := moreS_le u v
      have HR := Lib.hid hr
      have HR2 := Lib.hid hr2
      clear hr hr2
      go_enter Try.func19, Try.ntmps19
      go_wp2_with fail
      refine (rright_any _ _ v _ B HX.out hl).mono ?_
      rw [HR.out]
      rintro e w' ⟨rfl, rfl⟩
      go_wp2_with fail
      refine (rright_any _ _ u _ B HY.out hl2).mono ?_
      rw [HR2.out]
      rintro e w' ⟨rfl, rfl⟩
      go_wp2_with fail
      refine (rmore_any _ _ _ _ v u _ B HX.out HY.out hl hl2).mono ?_
      rintro e w' ⟨rfl, rfl⟩
      go_wp2_with fail
      refine (rmore_any _ _ _ _ u v _ B HY.out HX.out hl2 hl).mono ?_
      rintro e w' ⟨rfl, rfl⟩
      go_wp2_with fail
      go_ret
      refine ⟨ret_bool ?_, rfl⟩
      rw [stepS, HR.out, HR2.out, Bool.true_and, Bool.true_and, Bool.eq_iff_iff]
      simp
      omega

/-! ### At numbers that are written out -/
theorem enough_at (ao co : Option Addr) (n m cap cap2 : Nat) (v u : List Int) (r : Bool) (w : World) (hn : v.length = n) (hm : u.length = m) (hr : enoughS v u = r) (hx : IntsIn w w.heap.size ao v) (hy : IntsIn w w.heap.size co u) (hl : v.length ≤ 4611686018427387904) (hl2 : u.length ≤ 4611686018427387904) :
    Calls Try.prog 16 #[.slice ao n cap, .slice co m cap2] w fun e w' => e = .returned (.bool r) ∧ Below w.heap.size w w' := by
  subst hn hm hr; exact enough_any ao co cap cap2 v u w hx hy hl hl2
theorem step_at (ao co : Option Addr) (n m cap cap2 : Nat) (v u : List Int) (r : Bool) (w : World) (hn : v.length = n) (hm : u.length = m) (hr : stepS v u = r) (hx : IntsIn w w.heap.size ao v) (hy : IntsIn w w.heap.size co u) (hl : v.length ≤ 4611686018427387904) (hl2 : u.length ≤ 4611686018427387904) :
    Calls Try.prog 18 #[.slice ao n cap, .slice co m cap2] w fun e w' => e = .returned (.bool r) ∧ Below w.heap.size w w' := by
  subst hn hm hr; exact step_any ao co cap cap2 v u w hx hy hl hl2
theorem right_at (ao : Option Addr) (n cap : Nat) (v : List Int) (r : Bool) (w : World) (hn : v.length = n) (hr : rightS v = r) (hx : IntsIn w w.heap.size ao v) (hl : v.length ≤ 4611686018427387904) :
    Calls Try.prog 12 #[.slice ao n cap] w fun e w' => e = .returned (.bool r) ∧ Below w.heap.size w w' := by
  subst hn hr; exact right_any ao cap v w _ hx (Nat.le_refl _) hl
theorem has_at (ao : Option Addr) (n cap : Nat) (v : List Int) (x : Int) (r : Bool) (w : World) (hn : v.length = n) (hr : hasB v x = r) (hx : IntsIn w w.heap.size ao v) (hl : v.length ≤ 4611686018427387904) :
    Calls Try.prog 14 #[.slice ao n cap, .int .i64 x] w fun e w' => e = .returned (.bool r) ∧ w = w' := by
  subst hn hr; exact has_any ao cap v x w _ hx hl
theorem ints_new (w : World) (T : TypeId) (xs : List Int) (cs : Array Value) (g B : Nat) (hcs : cs = (xs.map (Value.int .i64)).toArray) (hg : g = w.heap.size) (hB : g < B) : IntsIn (w.alloc (.cells cs T)) B (some ⟨g, 0, none⟩) xs := by
  subst hcs hg
  refine Or.inr ⟨w.heap.size, 0, rfl, hB, fun i hi => ?_⟩
  rw [World.cell?_alloc_at _ _ _ _ rfl]
  simp [List.getD, List.getElem?_eq_getElem hi]
theorem IntsIn.alloc {w : World} {B B' : Nat} {ao : Option Addr} {xs : List Int} (h : IntsIn w B ao xs) (hB : B ≤ w.heap.size) (hB' : B ≤ B') (o : Obj) : IntsIn (w.alloc o) B' ao xs :=
  (h.below ((Below.refl w.heap.size w).alloc (Nat.le_refl _) o) hB).mono hB'

theorem keep_alloc {w0 wk w1 : World} {B : Nat} {ao : Option Addr} {xs : List Int} {o : Obj} (hL : IntsIn wk B ao xs) (hB : Below B w0 wk) (hx : B ≤ wk.heap.size) (hb : Below (wk.alloc o).heap.size (wk.alloc o) w1) : IntsIn w1 B ao xs ∧ Below B w0 w1 ∧ B ≤ w1.heap.size := by
  have h1 := hb.size
  simp only [World.size_alloc] at h1
  exact ⟨(hL.alloc hx (Nat.le_refl _) _).below hb (by simp; omega), (hB.alloc hx _).trans (hb.mono (by simp; omega)), by omega⟩
theorem keep_same {w0 wk w1 : World} {B : Nat} {ao : Option Addr} {xs : List Int} (hL : IntsIn wk B ao xs) (hB : Below B w0 wk) (hx : B ≤ wk.heap.size) (hb : Below wk.heap.size wk w1) : IntsIn w1 B ao xs ∧ Below B w0 w1 ∧ B ≤ w1.heap.size :=
  ⟨hL.below hb hx, hB.trans (hb.mono hx), Nat.le_trans hx hb.size⟩

set_option maxHeartbeats 1000000 in
theorem awake22_any (w : World) : Calls Try.prog 10 #[] w fun e w' => e = .returned (.bool true) ∧ Below w.heap.size w w' := by
  go_enter Try.func10, Try.ntmps10
  go_wp2_with fail
  have hL := ints_new w 3 [1, 2, 3, 4] #[.int .i64 1, .int .i64 2, .int .i64 3, .int .i64 4] _ (w.heap.size + 1) rfl rfl (by omega)
  have hb0 := (Below.refl w.heap.size w).alloc (Nat.le_refl _) (.cells #[.int .i64 1, .int .i64 2, .int .i64 3, .int .i64 4] 3)
  have hz : (w.alloc (.cells #[.int .i64 1, .int .i64 2, .int .i64 3, .int .i64 4] 3)).heap.size = w.heap.size + 1 := by simp
  generalize w.alloc (.cells #[.int .i64 1, .int .i64 2, .int .i64 3, .int .i64 4] 3) = w0 at hL hb0 hz ⊢
  have hx0 : w.heap.size + 1 ≤ w0.heap.size := by omega
  have hB0 : Below (w.heap.size + 1) w0 w0 := Below.refl _ _
  refine (enough_at _ _ _ _ _ _ [1, 2, 3, 4] [1, 2] false _ rfl rfl (by decide +kernel) (hL.alloc hx0 (by simp; omega) _) (ints_new _ _ _ _ _ _ rfl (by omega) (by simp; omega)) (by decide) (by decide)).mono ?_
  rintro e w1 ⟨rfl, hb1⟩
  obtain ⟨hL1, hB1, hx1⟩ := keep_alloc hL hB0 hx0 hb1
  go_wp2_with fail
  refine (enough_at _ _ _ _ _ _ [1, 2, 3, 4] [1, 2, 4] true _ rfl rfl (by decide +kernel) (hL1.alloc hx1 (by simp; omega) _) (ints_new _ _ _ _ _ _ rfl rfl (by simp)) (by decide) (by decide)).mono ?_
  rintro e w2 ⟨rfl, hb2⟩
  obtain ⟨hL2, hB2, hx2⟩ := keep_alloc hL1 hB1 hx1 hb2
  go_wp2_with fail
  refine (right_at _ _ _ [1, 2, 3, 4] true _ rfl (by decide +kernel) (hL2.mono hx2) (by decide)).mono ?_
  rintro e w3 ⟨rfl, hb3⟩
  obtain ⟨hL3, hB3, hx3⟩ := keep_same hL2 hB2 hx2 hb3
  go_wp2_with fail
  refine (step_at _ _ _ _ _ _ [1, 2, 3, 4] [1, 2, 4] true _ rfl rfl (by decide +kernel) (hL3.alloc hx3 (by simp; omega) _) (ints_new _ _ _ _ _ _ rfl rfl (by simp)) (by decide) (by decide)).mono ?_
  rintro e w4 ⟨rfl, hb4⟩
  obtain ⟨hL4, hB4, hx4⟩ := keep_alloc hL3 hB3 hx3 hb4
  go_wp2_with fail
  refine (step_at _ _ _ _ _ _ [1, 2, 3, 4] [1, 2, 3, 4] false _ rfl rfl (by decide +kernel) (hL4.mono hx4) (hL4.mono hx4) (by decide) (by decide)).mono ?_
  rintro e w5 ⟨rfl, hb5⟩
  obtain ⟨hL5, hB5, hx5⟩ := keep_same hL4 hB4 hx4 hb5
  go_wp2_with fail
  refine (has_at _ _ _ [1, 2, 3, 4] _ true _ rfl (by decide +kernel) (hL5.mono hx5) (by decide)).mono ?_
  rintro e w' ⟨rfl, rfl⟩
  go_wp2_with fail
  go_ret
  exact ⟨rfl, hb0.trans (hB5.mono (by omega))⟩

/-- What was told, lies as it lay. -/
structure Told (w : World) (B : Nat) (ao co : Option Addr) (xs ys : List Int) (g g' b1 b2 : Nat) : Prop where
  x : IntsIn w B ao xs
  y : IntsIn w B co ys
  hL : Lent w b1 g xs
  hL' : Lent w b2 g' ys
  gB : g < B
  gB' : g' < B
  size : B ≤ w.heap.size
theorem Told.next {w w' : World} {B : Nat} {ao co : Option Addr} {xs ys : List Int} {g g' b1 b2 : Nat} (h : Told w B ao co xs ys g g' b1 b2) (hb : Below w.heap.size w w') : Told w' B ao co xs ys g g' b1 b2 :=
  ⟨h.x.below hb h.size, h.y.below hb h.size, h.hL.below hb (Nat.lt_of_lt_of_le h.gB h.size), h.hL'.below hb (Nat.lt_of_lt_of_le h.gB' h.size), h.gB, h.gB', Nat.le_trans h.size hb.size⟩
theorem Told.lx {w : World} {B : Nat} {ao co : Option Addr} {xs ys : List Int} {g g' b1 b2 : Nat} (h : Told w B ao co xs ys g g' b1 b2) : IntsIn w B (some ⟨g, 0, none⟩) xs := h.hL.ints.mono h.gB
theorem Told.ly {w : World} {B : Nat} {ao co : Option Addr} {xs ys : List Int} {g g' b1 b2 : Nat} (h : Told w B ao co xs ys g g' b1 b2) : IntsIn w B (some ⟨g', 0, none⟩) ys := h.hL'.ints.mono h.gB'

set_option maxHeartbeats 1000000 in
/-- The law. -/
theorem walk_QuorumTells (W : World) (ao : Option Addr) (cap : Nat) (xs : List Int) (hx : IntsIn W W.heap.size ao xs) (hao : ao = none → cap = 0) (_ : ∀ x ∈ xs, (Lit.int .i64 x).wf = true) (hl : xs.length * 8 ≤ 140737488351232) (co : Option Addr) (cap2 : Nat) (ys : List Int) (hy : IntsIn W W.heap.size co ys) (hco : co = none → cap2 = 0) (_ : ∀ x ∈ ys, (Lit.int .i64 x).wf = true) (hl2 : ys.length * 8 ≤ 140737488351232) (n : Int) (_ : (Lit.int .i64 n).wf = true) :
    Calls Try.prog 3 #[.slice ao xs.length cap, .slice co ys.length cap2, .int .i64 n] W fun e w' => e = .returned (.bool true) ∧ Below W.heap.size W w' := by
  have HX := Lib.hid hx
  have HY := Lib.hid hy
  clear hx hy
  by_cases hbig : xs.length + ys.length ≤ 100
  · have i1 : ¬ 100 < (xs.length : Int) + ys.length := by omega
    go_enter Try.func3, Try.ntmps3
    go_wp2_with fail
    refine (awake22_any _).mono ?_
    rintro e w1 ⟨rfl, hb1⟩
    go_wp2_with fail
    refine (lent_any ao cap xs w1 ((HX.out.below hb1 (Nat.le_refl _)).mono hb1.size) hao (by omega)).mono ?_
    rintro e w2 ⟨g, rfl, hg, hg2, hL, hb2⟩
    have hB2 := hb1.trans (hb2.mono hb1.size)
    go_wp2_with fail
    refine (lent_any co cap2 ys w2 ((HY.out.below hB2 (Nat.le_refl _)).mono hB2.size) hco (by omega)).mono ?_
    rintro e w3 ⟨g', rfl, hg', hg2', hL', hb3⟩
    have hB3 := hB2.trans (hb3.mono hB2.size)
    have S3 : Told w3 w3.heap.size ao co xs ys g g' w1.heap.size w2.heap.size := ⟨(HX.out.below hB3 (Nat.le_refl _)).mono hB3.size, (HY.out.below hB3 (Nat.le_refl _)).mono hB3.size, hL.below hb3 hg2, hL', by have := hb3.size; omega, hg2', Nat.le_refl _⟩
    go_wp2_with fail
    refine (right_any _ _ xs _ _ S3.lx (Nat.le_refl _) (by omega)).mono ?_
    rintro e w4 ⟨rfl, hb4⟩
    have S4 := S3.next hb4
    go_wp2_with fail
    refine (rright_any _ _ xs _ _ S4.x (by omega)).mono ?_
    rintro e w' ⟨rfl, rfl⟩
    go_wp2_with fail
    refine (has_any _ _ xs _ _ _ S4.lx (by omega)).mono ?_
    rintro e w' ⟨rfl, rfl⟩
    go_wp2_with fail
    refine (rhas_any _ _ xs _ _ _ S4.x (by omega)).mono ?_
    rintro e w' ⟨rfl, rfl⟩
    go_wp2_with fail
    refine (enough_any _ _ _ _ xs ys _ (S4.lx.mono S4.size) (S4.ly.mono S4.size) (by omega) (by omega)).mono ?_
    rintro e w5 ⟨rfl, hb5⟩
    have S5 := S4.next hb5
    go_wp2_with fail
    refine (renough_any _ _ _ _ xs ys _ _ S5.x S5.y (by omega) (by omega)).mono ?_
    rintro e w' ⟨rfl, rfl⟩
    go_wp2_with fail
    refine (step_any _ _ _ _ xs ys _ (S5.lx.mono S5.size) (S5.ly.mono S5.size) (by omega) (by omega)).mono ?_
    rintro e w6 ⟨rfl, hb6⟩
    have S6 := S5.next hb6
    go_wp2_with fail
    refine (rstep_any _ _ _ _ xs ys _ _ S6.x S6.y (by omega) (by omega)).mono ?_
    rintro e w' ⟨rfl, rfl⟩
    go_wp2_with fail
    refine (kept_any _ _ _ _ xs _ (S6.x.mono S6.size) S6.hL (by omega)).mono ?_
    rintro e w7 ⟨rfl, hb7⟩
    have S7 := S6.next hb7
    go_wp2_with fail
    refine (kept_any _ _ _ _ ys _ (S7.y.mono S7.size) S7.hL' (by omega)).mono ?_
    rintro e w8 ⟨rfl, hb8⟩
    go_wp2_with fail
    go_ret
    exact ⟨rfl, hB3.trans (((((hb4.trans (hb5.mono hb4.size)).trans (hb6.mono S5.size)).trans (hb7.mono S6.size)).trans (hb8.mono S7.size)).mono hB3.size)⟩
  · have i1 : 100 < (xs.length : Int) + ys.length := by omega
    go_enter Try.func3, Try.ntmps3
    go_wp2_with fail
    refine (awake22_any _).mono ?_
    rintro e w1 ⟨rfl, hb1⟩
    go_wp2_with fail
    go_ret
    exact ⟨rfl, hb1⟩
end Go.Proofs.Ytnkmhcimibjihaa
