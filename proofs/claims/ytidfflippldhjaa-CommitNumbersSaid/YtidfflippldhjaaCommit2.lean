/- The reference's Index and both Next by their contracts, and the example of the laws of layer 25. Conditions: the voters' cells and the map lie as their reading says. -/
import Derived.Test.YtidfflippldhjaaCommit
namespace Go.Proofs.Ytidfflippldhjaa
open Go.RowKit Go.Maps

theorem indexS_wrong {vs : List Int} {f : Int → Int} (h : rightS vs = false) : indexS vs f = 0 := by
  have e : ∀ b v, indexStep vs f b v = b := fun b v => by unfold indexStep enoughS; rw [h]; simp
  unfold indexS
  have : ∀ (l : List Int) (b : Int), l.foldl (indexStep vs f) b = b := by
    intro l
    induction l with
    | nil => intro b; rfl
    | cons a l ih => intro b; rw [List.foldl_cons, e, ih]
  exact this vs 0

theorem rindex_any (b : Nat) (ao : Option Addr) (cap : Nat) (vs : List Int) (ps : List (Int × Int)) (w : World)
    (hx : IntsIn w w.heap.size ao vs) (hm : MapIs w b ps) (hw : WfAll vs) (hl : vs.length ≤ 1099511627776) :
    Calls Try.prog 10 #[.slice ao vs.length cap, .map (some b)] w fun e w' => e = .returned (.int .i64 (indexS vs (mget ps))) ∧ Below w.heap.size w w' := by
  obtain ⟨i0, hi, hz0, hz1, hz2⟩ := info_parts infoInt
  have hbm := hm.lt
  have HX := Lib.hid hx
  clear hx
  cases hr : rightS vs
  · have HR := Lib.hid hr
    clear hr
    go_enter Try.func10, Try.ntmps10
    go_wp2_with fail
    go_loopw [5, 6, 7, 8, 9] (fun v i _ _ _ wr => i = .int .i64 0 ∧ v = .int .i64 0 ∧ wr = w) (fun _ _ _ _ _ _ => 0)
    case atStart => exact ⟨rfl, rfl, rfl⟩
    case round =>
      obtain ⟨rfl, rfl, rfl⟩ := hrel
      by_cases hlt : 0 < vs.length
      · have i1 : (0 : Int) < vs.length := by omega
        go_wp2_with fail
        refine (rright_any _ _ vs _ _ HX.out (by omega)).mono ?_
        rw [HR.out]
        rintro e w' ⟨rfl, rfl⟩
        go_wp2_with fail
        go_ret
        exact ⟨ret_int (indexS_wrong HR.out).symm, Below.refl _ _⟩
      · have i1 : ¬ (0 : Int) < vs.length := by omega
        go_wp2_with fail
        go_ret
        exact ⟨ret_int (indexS_wrong HR.out).symm, Below.refl _ _⟩
  · have h7 := ((right_iff vs).1 hr).2.2.2
    have HR := Lib.hid hr
    clear hr
    go_enter Try.func10, Try.ntmps10
    go_wp2_with fail
    go_loopw [5, 6, 7, 8, 9] (fun v i _ _ _ wr => ∃ k : Nat, k ≤ vs.length ∧ i = .int .i64 k ∧ v = .int .i64 (indexUpto vs (mget ps) k) ∧ Below w.heap.size w wr) (fun _ i _ _ _ _ => vs.length - (intOf i).toNat)
    case atStart => exact ⟨0, by omega, rfl, rfl, Below.refl _ _⟩
    case round =>
      obtain ⟨k, hk, rfl, rfl, hB⟩ := hrel
      by_cases hlt : k < vs.length
      · have i1 : (k : Int) < vs.length := by omega
        rcases HX.out with h0 | ⟨bb, off, rfl, hb, hc⟩
        · rw [h0] at hlt; simp at hlt
        have c0 := hc k hlt
        rw [← hB.cell (p := ⟨bb, _, none⟩) hb] at c0
        have HC := Lib.hid hc
        clear hc
        have hst := indexUpto_succ (f := mget ps) hlt
        have hwx := hw _ (getD_mem hlt)
        obtain ⟨x, hxe⟩ : ∃ x, x = vs.getD k 0 := ⟨_, rfl⟩
        rw [← hxe] at c0 hst hwx
        clear hxe
        have hmr := hm.below hB hbm
        have hlk := (hmr.look hwx).1
        generalize indexUpto vs (mget ps) k = best at hst ⊢
        have hif : indexStep vs (mget ps) best x = if best < mget ps x ∧ enoughS vs (haveS (mget ps) (mget ps x) vs) = true then mget ps x else best := rfl
        rw [hif] at hst
        clear hif
        generalize mget ps x = y at hst hlk
        have HS := Lib.hid hst
        clear hst
        have HXr := HX.out.below hB (Nat.le_refl _)
        go_wp2_with fail
        refine (rright_any _ _ vs _ _ HXr (by omega)).mono ?_
        rw [HR.out]
        rintro e w' ⟨rfl, rfl⟩
        go_wp2_with fail
        clear hlk
        obtain ⟨wo, rfl⟩ : ∃ wo : World, wo = wr := ⟨_, rfl⟩
        go_loopw [8, 9] (fun v i wr => ∃ j : Nat, j ≤ vs.length ∧ i = .int .i64 j ∧ wr.ownsRow w.heap.size 3 1 v (haveS (mget ps) y (vs.take j)).length ((haveS (mget ps) y (vs.take j)).map (Value.int .i64)) ∧ Below w.heap.size w wr) (fun _ i _ => vs.length - (intOf i).toNat)
        case atStart => exact ⟨0, by omega, rfl, World.ownsRow_nil _ _ _ _, hB⟩
        case round =>
          obtain ⟨j, hj, rfl, hown, hbel⟩ := hrel
          have hle := haveS_len (mget ps) y vs j
          have hbs := hbel.size
          by_cases hlj : j < vs.length
          · have i2 : (j : Int) < vs.length := by omega
            have c1 := HC.out j hlj
            rw [← hbel.cell (p := ⟨bb, _, none⟩) hb] at c1
            have hst := haveS_take (f := mget ps) (n := y) hlj
            have hwz := hw _ (getD_mem hlj)
            obtain ⟨z, hze⟩ : ∃ z, z = vs.getD j 0 := ⟨_, rfl⟩
            rw [← hze] at c1 hst hwz
            clear hze
            have hlk := ((hm.below hbel hbm).look hwz).1
            generalize mget ps z = u at hst hlk
            by_cases hny : y ≤ u
            · rw [if_pos hny] at hst
              have HT := Lib.hid hst
              clear hst
              go_wp2_with (at_builtin; refine wpList_append_own _ rfl (.tmp 40) (.tmp 45) 22 rfl w.heap.size 3 i0 (.int .i64 0) 1 8 Try.underlying22 hi hz0 hz1 hz2 rfl (by decide) _ _ _ rfl (World.ownsRow.alloc hown _) ⟨wr.heap.size, 0, none⟩ 1 1 [.int .i64 z] rfl rfl (cell_one_new _ _ _) (by simp [Value.oneCell']) (by unfold maxLen; omega) (by omega) (by simp; omega) ?_)
              intro v' w1 hown' hgrow _
              have hb1 := (hbel.alloc hbs _).grown hgrow (by simp; omega) (own_below' hown)
              clear hown hgrow hlk
              go_wp2_with fail
              go_roundw
              case rel => exact ⟨j + 1, by omega, by go_num, by rw [HT.out]; simpa using hown', hb1⟩
              case measure => simp [intOf]; omega
            · rw [if_neg hny, List.append_nil] at hst
              have HT := Lib.hid hst
              clear hst
              go_wp2_with fail
              go_roundw
              case rel => exact ⟨j + 1, by omega, by go_num, by rw [HT.out]; exact hown, hbel⟩
              case measure => simp [intOf]; omega
          · obtain rfl : j = vs.length := by omega
            rw [List.take_length] at hown hle
            have HXs := HX.out.below hbel (Nat.le_refl _)
            obtain ⟨a3, c3, hv3, h3⟩ := own_ints hown
            clear hown
            rw [hv3]
            clear hv3
            by_cases hgt : best < y
            · cases hen : enoughS vs (haveS (mget ps) y vs)
              · have HE := Lib.hid hen
                clear hen
                go_wp2_with fail
                refine (renough_any _ _ _ _ vs _ _ _ (HXs.mono hbs) h3 (by omega) (by omega)).mono ?_
                rw [HE.out]
                rintro e w' ⟨rfl, rfl⟩
                go_wp2_with fail
                go_roundw
                case rel => exact ⟨k + 1, by omega, by go_num, by rw [HS.out, if_neg (by rw [HE.out]; simp)], hbel⟩
                case measure => simp [intOf]; omega
              · have HE := Lib.hid hen
                clear hen
                go_wp2_with fail
                refine (renough_any _ _ _ _ vs _ _ _ (HXs.mono hbs) h3 (by omega) (by omega)).mono ?_
                rw [HE.out]
                rintro e w' ⟨rfl, rfl⟩
                go_wp2_with fail
                go_roundw
                case rel => exact ⟨k + 1, by omega, by go_num, by rw [HS.out, if_pos ⟨hgt, HE.out⟩], hbel⟩
                case measure => simp [intOf]; omega
            · go_wp2_with fail
              go_roundw
              case rel => exact ⟨k + 1, by omega, by go_num, by rw [HS.out, if_neg (by simp; omega)], hbel⟩
              case measure => simp [intOf]; omega
      · obtain rfl : k = vs.length := by omega
        rw [indexUpto_all]
        go_wp2_with fail
        go_ret
        exact ⟨rfl, hB⟩

def nextS (now index term current : Int) : Int := if term = current ∧ now < index then index else now
theorem next_any (a b c d : Int) (w : World) :
    Calls Try.prog 12 #[.int .i64 a, .int .i64 b, .int .i64 c, .int .i64 d] w fun e w' => e = .returned (.int .i64 (nextS a b c d)) ∧ w = w' := by
  go_enter Try.func12, Try.ntmps12
  go_wp2
  all_goals
    go_ret
    refine ⟨ret_int ?_, rfl⟩
    grind [nextS]
theorem rnext_any (a b c d : Int) (w : World) :
    Calls Try.prog 13 #[.int .i64 a, .int .i64 b, .int .i64 c, .int .i64 d] w fun e w' => e = .returned (.int .i64 (nextS a b c d)) ∧ w = w' := by
  go_enter Try.func13, Try.ntmps13
  go_wp2
  all_goals
    go_ret
    refine ⟨ret_int ?_, rfl⟩
    grind [nextS]
end Go.Proofs.Ytidfflippldhjaa
