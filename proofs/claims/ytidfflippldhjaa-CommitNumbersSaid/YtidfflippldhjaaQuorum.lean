/- The functions of package quorum by their contracts. Conditions: the voters' cells lie as their reading says. -/
import Derived.Test.YtidfflippldhjaaInts
import Derived.Test.YtidfflippldhjaaShelf
namespace Go.Proofs.Ytidfflippldhjaa
open Go.RowKit

theorem setStep_lt {s : Nat} {n : Int} (h : s < 1024) : setStep s n < 1024 := by
  unfold setStep
  split
  · exact Nat.or_lt_two_pow (n := 10) h (Nat.pow_lt_pow_right (by omega) (by omega))
  · exact h
theorem setN_lt (xs : List Int) : setN xs < 1024 := by
  unfold setN
  have : ∀ (l : List Int) (s : Nat), s < 1024 → l.foldl setStep s < 1024 := by
    intro l
    induction l with
    | nil => intro s h; exact h
    | cons a l ih => intro s h; exact ih _ (setStep_lt h)
  exact this xs 0 (by omega)
theorem setN_take {xs : List Int} {k : Nat} (h : k < xs.length) : setN (xs.take (k + 1)) = setStep (setN (xs.take k)) (xs.getD k 0) := by
  unfold setN
  rw [List.take_succ_eq_append_getElem h, List.foldl_append]
  simp [List.getD, List.getElem?_eq_getElem h]
theorem or_bit {m : Nat} {x : Int} (hm : m < 1024) (h1 : 0 < x) (h2 : x ≤ 9) : bits BinOp.or IntKind.u64 (m : Int) (IntKind.u64.wrap (2 ^ x.toNat)) = ((setStep m x : Nat) : Int) := by
  have hp : 2 ^ x.toNat < 1024 := by
    have : 2 ^ x.toNat < 2 ^ 10 := Nat.pow_lt_pow_right (by omega) (by omega)
    omega
  have e : IntKind.u64.wrap (2 ^ x.toNat) = ((2 ^ x.toNat : Nat) : Int) := by
    rw [show ((2 : Int) ^ x.toNat) = ((2 ^ x.toNat : Nat) : Int) by simp]
    generalize 2 ^ x.toNat = y at hp ⊢
    exact IntWalk.u64_in _ (by omega)
  rw [e, u64_or_nat _ _ (by omega) (by omega), setStep, if_pos ⟨h1, h2⟩]

theorem set_any (ao : Option Addr) (cap : Nat) (xs : List Int) (w : World) (B : Nat) (hx : IntsIn w B ao xs) (hl : xs.length ≤ 4611686018427387904) :
    Calls Try.prog 21 #[.slice ao xs.length cap] w fun e w' => e = .returned (.int .u64 (setN xs)) ∧ w = w' := by
  have HX := Lib.hid hx
  clear hx
  go_enter Try.func21, Try.ntmps21
  go_wp2
  go_loop [3, 5, 8] (fun s _ i => ∃ k : Nat, k ≤ xs.length ∧ i = .int .i64 k ∧ s = .int .u64 (setN (xs.take k))) (fun _ _ i => xs.length - (intOf i).toNat)
  case atStart => exact ⟨0, by omega, rfl, rfl⟩
  case round =>
    obtain ⟨k, hk, rfl, rfl⟩ := hrel
    by_cases hlt : k < xs.length
    · rcases HX.out with h0 | ⟨b, off, rfl, hb, hc⟩
      · rw [h0] at hlt; simp at hlt
      have c0 := hc k hlt
      clear hc
      have hst := setN_take hlt
      have hm := setN_lt (xs.take k)
      obtain ⟨x, hxe⟩ : ∃ x, x = xs.getD k 0 := ⟨_, rfl⟩
      rw [← hxe] at c0 hst
      clear hxe
      generalize setN (xs.take k) = m at hst hm ⊢
      have HS := Lib.hid hst
      clear hst
      by_cases h1 : 0 < x
      · by_cases h2 : x ≤ 9
        · have ho := Lib.hid (or_bit hm h1 h2)
          go_wp2_with fail
          go_round
          case rel => exact ⟨k + 1, by omega, by go_num, by rw [HS.out, ho.out]⟩
          case measure => simp [intOf]; omega
        · have ho : Hid (setStep m x = m) := by unfold setStep; rw [if_neg (by omega)]; rfl
          go_wp2_with fail
          go_round
          case rel => exact ⟨k + 1, by omega, by go_num, by rw [HS.out, ho.out]⟩
          case measure => simp [intOf]; omega
      · have ho : Hid (setStep m x = m) := by unfold setStep; rw [if_neg (by omega)]; rfl
        go_wp2_with fail
        go_round
        case rel => exact ⟨k + 1, by omega, by go_num, by rw [HS.out, ho.out]⟩
        case measure => simp [intOf]; omega
    · go_wp2_with fail
      go_ret
      refine ⟨?_, rfl⟩
      rw [List.take_of_length_le (by omega)]
      rfl

/-- The library's reckoning of a number's bits. -/
def onesF (n : Int) : Int :=
  let x1 := IntKind.u64.wrap (bits BinOp.and IntKind.u64 (n / 2) 6148914691236517205 + bits BinOp.and IntKind.u64 n 6148914691236517205)
  let x2 := IntKind.u64.wrap (bits BinOp.and IntKind.u64 (x1 / 4) 3689348814741910323 + bits BinOp.and IntKind.u64 x1 3689348814741910323)
  let x3 := bits BinOp.and IntKind.u64 (IntKind.u64.wrap (x2 / 16 + x2)) 1085102592571150095
  let x4 := IntKind.u64.wrap (x3 + x3 / 256)
  let x5 := IntKind.u64.wrap (x4 + x4 / 65536)
  let x6 := IntKind.u64.wrap (x5 + x5 / 4294967296)
  bits BinOp.and IntKind.i64 (wrap64 x6) 127
theorem onesF_eq : ∀ n : Fin 1024, onesF (n.val : Int) = pc n.val := by decide +kernel
theorem onesF_at (n : Nat) (hn : n < 1024) : onesF n = pc n := onesF_eq ⟨n, hn⟩

theorem ones_any (n : Nat) (hn : n < 1024) (w : World) :
    Calls Try.prog 20 #[.int .u64 n] w fun e w' => e = .returned (.int .i64 (pc n)) ∧ w = w' := by
  have H := Lib.hid (onesF_at n hn)
  go_enter Try.func20, Try.ntmps20
  go_wp2
  go_ret
  refine ⟨ret_int ?_, rfl⟩
  rw [← H.out]
  rfl

theorem ownsRow_cap {w : World} {base e size n g c : Nat} {xs : List Value} (h : w.ownsRow base e size (.slice (some ⟨g, 0, none⟩) n c) n xs) : n ≤ c := by
  rcases h.2 with ⟨h', _⟩ | ⟨g', cap', cur, h', _, _, h4, _⟩
  · simp at h'
  · simp only [Value.slice.injEq, Option.some.injEq, Addr.mk.injEq, and_true, true_and] at h'
    obtain ⟨rfl, rfl⟩ := h'
    exact h4
theorem ownsRow_base {w : World} {base e size n g c : Nat} {xs : List Value} (h : w.ownsRow base e size (.slice (some ⟨g, 0, none⟩) n c) n xs) : base ≤ g := by
  rcases h.2 with ⟨h', _⟩ | ⟨g', cap', cur, h', h3, _⟩
  · simp at h'
  · simp only [Value.slice.injEq, Option.some.injEq, Addr.mk.injEq, and_true, true_and] at h'
    obtain ⟨rfl, rfl⟩ := h'
    exact h3
theorem below_setCells {B b : Nat} {a : World} (hb : B ≤ b) : ∀ (vs : List Value) (o : Nat) {w : World}, Below B a w → Below B a (w.setCells b o vs)
  | [], _, _, h => h
  | v :: vs, o, _, h => below_setCells hb vs (o + 1) (h.setCell (p := ⟨b, o, none⟩) hb v)

theorem rises_any (b off cap : Nat) (xs : List Int) (w : World) (hc : ∀ i, i < xs.length → w.cell? ⟨b, off + i, none⟩ = some (.int .i64 (xs.getD i 0))) (hb : b < w.heap.size) (h0 : 0 < xs.length) (hl : xs.length ≤ 4611686018427) :
    Calls Try.prog 23 #[.slice (some ⟨b, off, none⟩) xs.length cap] w fun e w' => e = .returned (.bool (risesB xs && decide ((Lib.compact xs).length = xs.length))) ∧ Below w.heap.size w w' := by
  have HC := Lib.hid hc
  clear hc
  cases hr : risesB xs
  · have HR := Lib.hid hr
    clear hr
    go_enter Try.func23, Try.ntmps23
    go_wp2_with fail
    refine (sorted_any _ _ xs _ (b + 1) (Or.inr ⟨b, off, rfl, by omega, HC.out⟩) (by omega)).mono ?_
    rw [HR.out]
    rintro e w1 ⟨rfl, hb1⟩
    go_wp2_with fail
    go_ret
    exact ⟨rfl, hb1⟩
  · have HR := Lib.hid hr
    clear hr
    go_enter Try.func23, Try.ntmps23
    go_wp2_with fail
    refine (sorted_any _ _ xs _ (b + 1) (Or.inr ⟨b, off, rfl, by omega, HC.out⟩) (by omega)).mono ?_
    rw [HR.out]
    rintro e w1 ⟨rfl, hb1⟩
    go_wp2_with fail
    refine (Try.slices_Clone_int b off xs.length cap xs _ (Nat.le_refl _) (by omega) (fun j hj => by rw [hb1.cell (p := ⟨b, _, none⟩) hb]; exact HC.out j hj)).mono ?_
    rintro e w2 ⟨v', rfl, hown, _, hb2⟩
    obtain ⟨g, c', hv⟩ := Go.Joins.ownsRow_form hown h0
    rw [hv] at hown ⊢
    have hcap : xs.length ≤ c' := ownsRow_cap hown
    have hg : w1.heap.size ≤ g := ownsRow_base hown
    have hcells : ∀ j, j < xs.length → w2.cell? ⟨g, 0 + j, none⟩ = some (.int .i64 (xs.getD j 0)) := fun j hj => by
      rw [Nat.zero_add, hown.cellAt j (by omega)]
      simp [List.getD, List.getElem?_eq_getElem hj]
    have hfr : ∀ j, j < xs.length → w2.frozen? ⟨g, 0 + j, none⟩ = false := fun j hj => by
      rw [Nat.zero_add]; exact hown.frozenAt j
    have HC2 := Lib.hid hcells
    have HF2 := Lib.hid hfr
    clear hcells hfr hown hv
    go_wp2_with fail
    refine (Try.slices_Compact_int_cells g 0 xs.length c' xs _ (Nat.le_refl _) (by omega) hcap HC2.out HF2.out).mono ?_
    rintro e w3 ⟨rfl, q, hw3⟩
    have hb3 : Below w1.heap.size w2 w3 := by rw [hw3]; exact below_setCells hg _ _ (below_drewN (Below.refl _ _) _)
    clear hw3
    rw [List.take_length]
    have hlen : (Lib.compact xs).length ≤ xs.length := Lib.compact_length_le xs
    by_cases he : (Lib.compact xs).length = xs.length
    · have hd : (((Lib.compact xs).length : Int) == (xs.length : Int)) = true := by rw [he]; simp
      have HE := Lib.hid he
      clear he
      go_wp2_with fail
      go_ret
      exact ⟨ret_bool (by rw [HE.out]; simp), hb1.trans ((hb2.trans hb3).mono hb1.size)⟩
    · have hd : (((Lib.compact xs).length : Int) == (xs.length : Int)) = false := by simp; omega
      have HE := Lib.hid he
      clear he
      go_wp2_with fail
      go_ret
      exact ⟨ret_bool (by simp [HE.out]), hb1.trans ((hb2.trans hb3).mono hb1.size)⟩

theorem right_any (ao : Option Addr) (cap : Nat) (xs : List Int) (w : World) (B : Nat) (hx : IntsIn w B ao xs) (hB : B ≤ w.heap.size) (hl : xs.length ≤ 4611686018427387904) :
    Calls Try.prog 19 #[.slice ao xs.length cap] w fun e w' => e = .returned (.bool (rightS xs)) ∧ Below w.heap.size w w' := by
  have HX := Lib.hid hx
  clear hx
  by_cases h0 : 0 < xs.length
  · by_cases h7 : xs.length ≤ 7
    · have he := right_eq xs h0 h7
      rcases HX.out with hn | ⟨b, off, rfl, hb, hc⟩
      · rw [hn] at h0; simp at h0
      have HC := Lib.hid hc
      have HE := Lib.hid he
      clear hc he
      have i0 : (0 : Int) < xs.length := by omega
      have i7 : (xs.length : Int) ≤ 7 := by omega
      cases hr : (risesB xs && decide ((Lib.compact xs).length = xs.length))
      · have HR := Lib.hid hr
        clear hr
        go_enter Try.func19, Try.ntmps19
        go_wp2_with fail
        refine (rises_any b off cap xs _ HC.out (by omega) h0 (by omega)).mono ?_
        rw [HR.out]
        rintro e w1 ⟨rfl, hb1⟩
        go_wp2_with fail
        go_ret
        exact ⟨ret_bool (by rw [← HE.out, HR.out]; rfl), hb1⟩
      · have HR := Lib.hid hr
        clear hr
        go_enter Try.func19, Try.ntmps19
        go_wp2_with fail
        refine (rises_any b off cap xs _ HC.out (by omega) h0 (by omega)).mono ?_
        rw [HR.out]
        rintro e w1 ⟨rfl, hb1⟩
        go_wp2_with fail
        refine (set_any _ _ xs _ B (HX.out.below hb1 hB) hl).mono ?_
        rintro e w' ⟨rfl, rfl⟩
        go_wp2_with fail
        refine (ones_any _ (setN_lt xs) _).mono ?_
        rintro e w' ⟨rfl, rfl⟩
        go_wp2_with fail
        go_ret
        refine ⟨ret_bool ?_, hb1⟩
        rw [← HE.out, HR.out, Bool.true_and, Bool.eq_iff_iff]
        simp
        omega
    · have i7 : ¬ (xs.length : Int) ≤ 7 := by omega
      have i0 : (0 : Int) < xs.length := by omega
      have HE : Hid (rightS xs = false) := by show rightS xs = false; rw [Bool.eq_false_iff]; intro h; have := (right_iff xs).1 h; omega
      go_enter Try.func19, Try.ntmps19
      go_wp2_with fail
      go_ret
      exact ⟨ret_bool HE.out.symm, Below.refl _ _⟩
  · have i0 : ¬ (0 : Int) < xs.length := by omega
    have HE : Hid (rightS xs = false) := by show rightS xs = false; rw [Bool.eq_false_iff]; intro h; have := (right_iff xs).1 h; omega
    go_enter Try.func19, Try.ntmps19
    go_wp2_with fail
    go_ret
    exact ⟨ret_bool HE.out.symm, Below.refl _ _⟩

theorem enough_any (ao co : Option Addr) (cap cap2 : Nat) (v u : List Int) (w : World) (hx : IntsIn w w.heap.size ao v) (hy : IntsIn w w.heap.size co u) (hl : v.length ≤ 4611686018427387904) (hl2 : u.length ≤ 4611686018427387904) :
    Calls Try.prog 16 #[.slice ao v.length cap, .slice co u.length cap2] w fun e w' => e = .returned (.bool (enoughS v u)) ∧ Below w.heap.size w w' := by
  have HX := Lib.hid hx
  have HY := Lib.hid hy
  clear hx hy
  cases hr : rightS v
  · have HR := Lib.hid hr
    clear hr
    go_enter Try.func16, Try.ntmps16
    go_wp2_with fail
    refine (right_any _ _ v _ _ HX.out (Nat.le_refl _) hl).mono ?_
    rw [HR.out]
    rintro e w1 ⟨rfl, hb1⟩
    go_wp2_with fail
    go_ret
    exact ⟨ret_bool (by rw [enoughS, HR.out]; rfl), hb1⟩
  · have hand := pc_and' v u hr
    have hvl := ((right_iff v).1 hr).2.2.2
    have hcl : commonS v u ≤ v.length := List.countP_le_length
    have HR := Lib.hid hr
    have HA := Lib.hid hand
    clear hr hand
    have hm : setN v &&& setN u < 1024 := Nat.and_lt_two_pow _ (n := 10) (setN_lt u)
    have hbits := Lib.hid (u64_and_nat (setN v) (setN u) (by have := setN_lt v; omega) (by have := setN_lt u; omega))
    go_enter Try.func16, Try.ntmps16
    go_wp2_with fail
    refine (right_any _ _ v _ _ HX.out (Nat.le_refl _) hl).mono ?_
    rw [HR.out]
    rintro e w1 ⟨rfl, hb1⟩
    go_wp2_with fail
    refine (set_any _ _ v _ _ (HX.out.below hb1 (Nat.le_refl _)) hl).mono ?_
    rintro e w' ⟨rfl, rfl⟩
    go_wp2_with fail
    refine (set_any _ _ u _ _ (HY.out.below hb1 (Nat.le_refl _)) hl2).mono ?_
    rintro e w' ⟨rfl, rfl⟩
    go_wp2_with fail
    rw [hbits.out]
    refine (ones_any _ hm _).mono ?_
    rintro e w' ⟨rfl, rfl⟩
    rw [HA.out]
    go_wp2_with fail
    go_ret
    refine ⟨ret_bool ?_, hb1⟩
    rw [enoughS, HR.out, Bool.true_and, Bool.eq_iff_iff]
    simp
    omega

theorem rhas_any (ao : Option Addr) (cap : Nat) (xs : List Int) (n : Int) (w : World) (B : Nat) (hx : IntsIn w B ao xs) (hl : xs.length ≤ 4611686018427387904) :
    Calls Try.prog 22 #[.slice ao xs.length cap, .int .i64 n] w fun e w' => e = .returned (.bool (hasB xs n)) ∧ w = w' := by
  have HX := Lib.hid hx
  clear hx
  go_enter Try.func22, Try.ntmps22
  go_wp2
  go_loop [5] (fun i => ∃ k : Nat, k ≤ xs.length ∧ i = .int .i64 k ∧ ∀ j, j < k → xs.getD j 0 ≠ n) (fun i => xs.length - (intOf i).toNat)
  case atStart => exact ⟨0, by omega, rfl, by omega⟩
  case round =>
    obtain ⟨k, hk, rfl, hno⟩ := hrel
    have HN := Lib.hid hno
    clear hno
    by_cases hlt : k < xs.length
    · rcases HX.out with h0 | ⟨b, off, rfl, hb, hc⟩
      · rw [h0] at hlt; simp at hlt
      have c0 := hc k hlt
      clear hc
      obtain ⟨x, hxe⟩ : ∃ x, x = xs.getD k 0 := ⟨_, rfl⟩
      rw [← hxe] at c0
      have HE := Lib.hid hxe
      clear hxe
      by_cases hn : x = n
      · have t0 : (x == n) = true := by simp [hn]
        have HF := Lib.hid hn
        clear hn
        go_wp2_with fail
        go_ret
        refine ⟨ret_bool ?_, rfl⟩
        rw [eq_comm, hasB, List.contains_iff_mem, ← HF.out, HE.out]
        exact getD_mem hlt
      · have t0 : (x == n) = false := by simp [hn]
        have HF := Lib.hid hn
        clear hn
        go_wp2_with fail
        go_round
        case rel =>
          refine ⟨k + 1, by omega, by go_num, fun j hj => ?_⟩
          by_cases h : j = k
          · subst h; rw [← HE.out]; exact HF.out
          · exact HN.out j (by omega)
        case measure => simp [intOf]; omega
    · go_wp2_with fail
      go_ret
      refine ⟨ret_bool ?_, rfl⟩
      rw [eq_comm, Bool.eq_false_iff]
      intro h
      rw [hasB, List.contains_iff_mem] at h
      obtain ⟨j, hj, he⟩ := List.getElem_of_mem h
      exact HN.out j (by omega) (by rw [← he]; simp [List.getD, List.getElem?_eq_getElem hj])

theorem rright_any (ao : Option Addr) (cap : Nat) (xs : List Int) (w : World) (B : Nat) (hx : IntsIn w B ao xs) (hl : xs.length ≤ 4611686018427387904) :
    Calls Try.prog 17 #[.slice ao xs.length cap] w fun e w' => e = .returned (.bool (rightS xs)) ∧ w = w' := by
  have HX := Lib.hid hx
  clear hx
  go_enter Try.func17, Try.ntmps17
  go_wp2
  go_loop [3, 4] (fun l i => ∃ k : Nat, k ≤ xs.length ∧ i = .int .i64 k ∧ l = .int .i64 (lastOf xs k) ∧ chainUpto xs k) (fun _ i => xs.length - (intOf i).toNat)
  case atStart => exact ⟨0, by omega, rfl, rfl, rfl⟩
  case round =>
    obtain ⟨k, hk, rfl, rfl, hch⟩ := hrel
    by_cases hlt : k < xs.length
    · rcases HX.out with h0 | ⟨b, off, rfl, hb, hc⟩
      · rw [h0] at hlt; simp at hlt
      have c0 := hc k hlt
      clear hc
      have hst := chain_step hlt
      have hla : lastOf xs (k + 1) = xs.getD k 0 := by unfold lastOf; rw [if_neg (by omega)]; rfl
      obtain ⟨x, hxe⟩ : ∃ x, x = xs.getD k 0 := ⟨_, rfl⟩
      rw [← hxe] at c0 hst hla
      clear hxe
      have HS := Lib.hid hst
      have HL := Lib.hid hla
      clear hst hla
      generalize lastOf xs k = y at HS ⊢
      by_cases h1 : x ≤ y
      · go_wp2
        go_ret
        refine ⟨ret_bool ?_, rfl⟩
        rw [rightS, chain_mono (k := k + 1) (by rw [HS.out]; simp; omega)]; rfl
      · by_cases h2 : 9 < x
        · go_wp2
          go_ret
          refine ⟨ret_bool ?_, rfl⟩
          rw [rightS, chain_mono (k := k + 1) (by rw [HS.out]; simp; omega)]; rfl
        · go_wp2
          go_round
          case rel => exact ⟨k + 1, by omega, by go_num, by rw [HL.out], by unfold chainUpto; rw [HS.out, hch, decide_eq_true (by omega), decide_eq_true (by omega)]; rfl⟩
          case measure => simp [intOf]; omega
    · have hc : chain 0 xs = true := by have := hch; unfold chainUpto at this; rwa [List.take_of_length_le (by omega)] at this
      have HC := Lib.hid hc
      clear hc
      go_wp2
      all_goals
        go_ret
        refine ⟨ret_bool ?_, rfl⟩
        rw [rightS, HC.out, Bool.true_and]
        first
          | (rw [Bool.eq_iff_iff]; simp; omega)
          | (simp; omega)
end Go.Proofs.Ytidfflippldhjaa
