/- The law CommitNumbers: it returns true, and nothing that was there is changed. No condition. -/
import Derived.Test.YtidfflippldhjaaNumR
import Derived.Deep.Cut
namespace Go.Proofs.Ytidfflippldhjaa
open Go.RowKit Go.Maps

set_option maxHeartbeats 40000000 in
set_option maxRecDepth 20000 in
theorem walk_CommitNumbers (W : World) : Calls Try.prog 3 #[] W fun e w' => e = .returned (.bool true) ∧ Below W.heap.size W w' := by
  go_enter Try.func3, Try.ntmps3
  obtain ⟨i0, hi, hzz, hz1, hz2⟩ := info_parts infoPair
  go_wp2_with fail
  generalize hw0 : World.alloc _ _ = w0
  have hb0 : Below W.heap.size W w0 := by
    rw [← hw0]
    repeat (refine Below.alloc ?_ (by first | omega | (simp only [World.size_alloc]; omega)) _)
    exact Below.refl _ _
  have hz0 : w0.heap.size = W.heap.size + 12 := by rw [← hw0]; simp only [World.size_alloc]
  have hr0 : RowsIn w0 (W.heap.size + 12) (W.heap.size + 11) := by
    rw [← hw0]
    refine ⟨by omega, fun i hi => ?_⟩
    rw [World.cell?_alloc_at _ _ _ _ (by simp only [World.size_alloc])]
    match i, hi with
    | 0, _ => exact ⟨_, rfl, none, [], 0, rfl, Or.inl rfl, fun _ => rfl, fun x hx => (by cases hx), by decide⟩
    | 1, _ => (refine ⟨_, rfl, SomeInts.mono (B := (W.heap.size + 1)) ?_ (by omega)⟩; repeat (first | exact someInts_new _ _ [1] _ _ _ _ rfl (by simp) (by omega) rfl (by unfold WfAll; decide) (by decide) | refine SomeInts.up ?_ (by simp only [World.size_alloc]; omega) _))
    | 2, _ => (refine ⟨_, rfl, SomeInts.mono (B := (W.heap.size + 2)) ?_ (by omega)⟩; repeat (first | exact someInts_new _ _ [1, 2] _ _ _ _ rfl (by simp) (by omega) rfl (by unfold WfAll; decide) (by decide) | refine SomeInts.up ?_ (by simp only [World.size_alloc]; omega) _))
    | 3, _ => (refine ⟨_, rfl, SomeInts.mono (B := (W.heap.size + 3)) ?_ (by omega)⟩; repeat (first | exact someInts_new _ _ [1, 2, 3] _ _ _ _ rfl (by simp) (by omega) rfl (by unfold WfAll; decide) (by decide) | refine SomeInts.up ?_ (by simp only [World.size_alloc]; omega) _))
    | 4, _ => (refine ⟨_, rfl, SomeInts.mono (B := (W.heap.size + 4)) ?_ (by omega)⟩; repeat (first | exact someInts_new _ _ [2, 4, 6, 9] _ _ _ _ rfl (by simp) (by omega) rfl (by unfold WfAll; decide) (by decide) | refine SomeInts.up ?_ (by simp only [World.size_alloc]; omega) _))
    | 5, _ => (refine ⟨_, rfl, SomeInts.mono (B := (W.heap.size + 5)) ?_ (by omega)⟩; repeat (first | exact someInts_new _ _ [1, 2, 3, 4, 5] _ _ _ _ rfl (by simp) (by omega) rfl (by unfold WfAll; decide) (by decide) | refine SomeInts.up ?_ (by simp only [World.size_alloc]; omega) _))
    | 6, _ => (refine ⟨_, rfl, SomeInts.mono (B := (W.heap.size + 6)) ?_ (by omega)⟩; repeat (first | exact someInts_new _ _ [1, 2, 3, 4, 5, 6, 7] _ _ _ _ rfl (by simp) (by omega) rfl (by unfold WfAll; decide) (by decide) | refine SomeInts.up ?_ (by simp only [World.size_alloc]; omega) _))
    | 7, _ => (refine ⟨_, rfl, SomeInts.mono (B := (W.heap.size + 7)) ?_ (by omega)⟩; repeat (first | exact someInts_new _ _ [1, 2, 3, 4, 5, 6, 7, 8] _ _ _ _ rfl (by simp) (by omega) rfl (by unfold WfAll; decide) (by decide) | refine SomeInts.up ?_ (by simp only [World.size_alloc]; omega) _))
    | 8, _ => (refine ⟨_, rfl, SomeInts.mono (B := (W.heap.size + 8)) ?_ (by omega)⟩; repeat (first | exact someInts_new _ _ [2, 1, 3] _ _ _ _ rfl (by simp) (by omega) rfl (by unfold WfAll; decide) (by decide) | refine SomeInts.up ?_ (by simp only [World.size_alloc]; omega) _))
    | 9, _ => (refine ⟨_, rfl, SomeInts.mono (B := (W.heap.size + 9)) ?_ (by omega)⟩; repeat (first | exact someInts_new _ _ [1, 1, 2] _ _ _ _ rfl (by simp) (by omega) rfl (by unfold WfAll; decide) (by decide) | refine SomeInts.up ?_ (by simp only [World.size_alloc]; omega) _))
    | 10, _ => (refine ⟨_, rfl, SomeInts.mono (B := (W.heap.size + 10)) ?_ (by omega)⟩; repeat (first | exact someInts_new _ _ [0, 1, 2] _ _ _ _ rfl (by simp) (by omega) rfl (by unfold WfAll; decide) (by decide) | refine SomeInts.up ?_ (by simp only [World.size_alloc]; omega) _))
    | 11, _ => (refine ⟨_, rfl, SomeInts.mono (B := (W.heap.size + 11)) ?_ (by omega)⟩; repeat (first | exact someInts_new _ _ [8, 9, 10] _ _ _ _ rfl (by simp) (by omega) rfl (by unfold WfAll; decide) (by decide) | refine SomeInts.up ?_ (by simp only [World.size_alloc]; omega) _))
  clear hw0
  go_loopw [2, 3, 4, 5, 6] (fun i _ _ _ _ wr => ∃ k : Nat, k ≤ 12 ∧ i = .int .i64 k ∧ Below (W.heap.size + 12) w0 wr) (fun i _ _ _ _ _ => 12 - (intOf i).toNat)
  case atStart => exact ⟨0, by omega, rfl, Below.refl _ _⟩
  case round =>
    obtain ⟨k, hk, rfl, hB⟩ := hrel
    have hbs := hB.size
    by_cases hlt : k < 12
    · have i1 : (k : Int) < 12 := by omega
      go_wp2_with fail
      obtain ⟨wo, hwo⟩ : ∃ wo : World, wo = wr := ⟨_, rfl⟩
      clear hwo
      go_loopw [3, 4, 5, 6] (fun i _ _ _ wr => ∃ j : Nat, j ≤ 729 ∧ i = .int .i64 j ∧ Below (W.heap.size + 12) w0 wr) (fun i _ _ _ _ => 729 - (intOf i).toNat)
      case atStart => exact ⟨0, by omega, rfl, hB⟩
      case round =>
        clear hB hbs
        obtain ⟨j, hj, rfl, hB⟩ := hrel
        have hbs := hB.size
        by_cases hltj : j < 729
        · have i2 : (j : Int) < 729 := by omega
          go_wp2_with fail
          obtain ⟨wm, rfl⟩ : ∃ wm : World, wm = wr := ⟨_, rfl⟩
          go_loopw [4, 5, 6] (fun v s c wr => ∃ (ps : List (Int × Int)) (kk : Nat), ps.length ≤ 9 ∧ s = .int .i64 ((ps.length : Int) + 1) ∧ c = .int .i64 kk ∧ kk ≤ 729 ∧ PairsWf ps ∧ wr.ownsRow wm.heap.size 26 2 v ps.length (flatP ps) ∧ Below wm.heap.size wm wr) (fun _ s _ _ => 10 - (intOf s).toNat)
          case atStart => exact ⟨[], j, by decide, rfl, rfl, hj, fun x hx => (by cases hx), World.ownsRow_nil _ _ _ _, Below.refl _ _⟩
          case round =>
            obtain ⟨ps, kk, hps, rfl, rfl, hkk, hwp, hown, hbel⟩ := hrel
            have hbs2 := hbel.size
            have HO := Lib.hid hown
            have HW := Lib.hid hwp
            clear hown hwp
            by_cases hlts : ps.length < 9
            · have i3 : (ps.length : Int) + 1 < 10 := by omega
              have HE : (flatP (ps ++ [((ps.length : Int) + 1, (kk : Int) % 3 + ((ps.length : Int) + 1) / 8)])) = flatP ps ++ [.int .i64 ((ps.length : Int) + 1), .int .i64 ((kk : Int) % 3 + ((ps.length : Int) + 1) / 8)] := by simp [flatP]
              go_wp2_with (at_builtin; refine wpList_append_own _ rfl (.tmp 39) (.tmp 47) 24 rfl wm.heap.size 26 i0 (.agg #[.int .i64 0, .int .i64 0]) 2 16 Try.underlying24 hi hzz hz1 hz2 rfl (by decide) _ _ _ rfl (World.ownsRow.alloc HO.out _) ⟨wr.heap.size, 0, none⟩ 1 1 [.int .i64 ((ps.length : Int) + 1), .int .i64 ((kk : Int) % 3 + ((ps.length : Int) + 1) / 8)] rfl rfl (cells_new _ _ _ _ rfl) (by simp [Value.oneCell']) (by unfold maxLen; omega) (by omega) (by simp; omega) ?_)
              intro v' w1 hown' hgrow _
              have hb1 := (hbel.alloc hbs2 _).grown hgrow (by simp; omega) (own_below' HO.out)
              rw [← HE] at hown'
              clear hgrow HE
              go_wp2_with fail
              go_roundw
              case rel => exact ⟨ps ++ [((ps.length : Int) + 1, (kk : Int) % 3 + ((ps.length : Int) + 1) / 8)], kk / 3, by simp; omega, by simp, by simp, by omega, pairs_snoc HW.out (by go_wf) (by go_wf), by simpa using hown', hb1⟩
              case measure => simp [intOf]; omega
            · have i3 : ¬ ((ps.length : Int) + 1 < 10) := by omega
              have i4 : (k : Int) < 12 := i1
              have hB2 := hB.trans (hbel.mono (by omega))
              by_cases h7 : (j : Int) % 7 = 1
              · have HE : flatP (ps ++ [(0, 9), (10, 9)]) = flatP ps ++ [.int .i64 0, .int .i64 9, .int .i64 10, .int .i64 9] := by simp [flatP]
                go_wp2_with (at_builtin; refine wpList_append_own _ rfl (.tmp 52) (.tmp 55) 24 rfl wm.heap.size 26 i0 (.agg #[.int .i64 0, .int .i64 0]) 2 16 Try.underlying24 hi hzz hz1 hz2 rfl (by decide) _ _ _ rfl (World.ownsRow.alloc HO.out _) ⟨wr.heap.size, 0, none⟩ 2 2 [.int .i64 0, .int .i64 9, .int .i64 10, .int .i64 9] rfl rfl (cells_new _ _ _ _ rfl) (by simp [Value.oneCell']) (by unfold maxLen; omega) (by omega) (by simp; omega) ?_)
                intro v' w1 hown' hgrow _
                have hb1 := hB.trans (((hbel.alloc hbs2 _).grown hgrow (by simp; omega) (own_below' HO.out)).mono (by omega))
                rw [← HE] at hown'
                have hwp' := pairs_snoc (pairs_snoc HW.out (a := 0) (b := 9) (by decide) (by decide)) (a := 10) (b := 9) (by decide) (by decide)
                rw [List.append_assoc] at hwp'
                obtain ⟨ao, cap, hv', hPI⟩ := own_pairs (by simp) hown'
                subst hv'
                have hbz1 := hb1.size
                obtain ⟨rv, hrc, ho, xs, rcap, rfl, hIX, hcap0, hwx, hlx⟩ := (hr0.below hb1).2 k hlt
                clear hgrow HE
                go_wp2_with fail
                refine (commitIndex_at w1 ho _ rcap xs rfl (hIX.mono (by omega)) hcap0 hwx (by omega) ao _ cap _ (by simp) hPI hwp' (by simp; omega)).mono ?_
                rintro e w2 ⟨rfl, hW2⟩
                go_wp2_with fail
                go_roundw
                case rel => exact ⟨j + 1, by omega, by go_num, hb1.trans (hW2.mono (by omega))⟩
                case measure => simp [intOf]; omega
              · obtain ⟨ao, cap, hv', hPI⟩ := own_pairs rfl HO.out
                subst hv'
                have hbz1 := hB2.size
                obtain ⟨rv, hrc, ho, xs, rcap, rfl, hIX, hcap0, hwx, hlx⟩ := (hr0.below hB2).2 k hlt
                go_wp2_with fail
                refine (commitIndex_at wr ho _ rcap xs rfl (hIX.mono (by omega)) hcap0 hwx (by omega) ao _ cap _ rfl hPI HW.out (by omega)).mono ?_
                rintro e w2 ⟨rfl, hW2⟩
                go_wp2_with fail
                go_roundw
                case rel => exact ⟨j + 1, by omega, by go_num, hB2.trans (hW2.mono (by omega))⟩
                case measure => simp [intOf]; omega
        · obtain rfl : j = 729 := by omega
          go_wp2_with fail
          go_roundw
          case rel => exact ⟨k + 1, by omega, by go_num, hB⟩
          case measure => simp [intOf]; omega
    · obtain rfl : k = 12 := by omega
      clear hr0
      go_wp2_with fail
      have hb9 := hb0.trans (hB.mono (by omega))
      obtain ⟨wo, rfl⟩ : ∃ wo : World, wo = wr := ⟨_, rfl⟩
      have hzo := hb9.size
      generalize hw9 : World.alloc wo _ = w9
      have hE : EndsIn w9 wo.heap.size := by
        rw [← hw9]
        refine ⟨by simp, fun i hi => ?_⟩
        rw [World.cell?_alloc_at _ _ _ _ rfl]
        match i, hi with
        | 0, _ => exact ⟨_, rfl, by decide⟩
        | 1, _ => exact ⟨_, rfl, by decide⟩
        | 2, _ => exact ⟨_, rfl, by decide⟩
        | 3, _ => exact ⟨_, rfl, by decide⟩
        | 4, _ => exact ⟨_, rfl, by decide⟩
        | 5, _ => exact ⟨_, rfl, by decide⟩
      have hb10 : Below W.heap.size W w9 := by rw [← hw9]; exact hb9.alloc hzo _
      have hz10 : w9.heap.size = wo.heap.size + 1 := by rw [← hw9]; simp
      clear hw9
      go_loopw [8, 9] (fun i _ wr => ∃ k : Nat, k ≤ 6 ∧ i = .int .i64 k ∧ Below (wo.heap.size + 1) w9 wr) (fun i _ _ => 6 - (intOf i).toNat)
      case atStart => exact ⟨0, by omega, rfl, Below.refl _ _⟩
      case round =>
        clear hB
        obtain ⟨i, hi6, rfl, hB⟩ := hrel
        by_cases hlt6 : i < 6
        · have i1 : (i : Int) < 6 := by omega
          go_wp2_with fail
          obtain ⟨wp, hwp⟩ : ∃ wp : World, wp = wr := ⟨_, rfl⟩
          clear hwp
          go_loopw [9] (fun i wr => ∃ k : Nat, k ≤ 6 ∧ i = .int .i64 k ∧ Below (wo.heap.size + 1) w9 wr) (fun i _ => 6 - (intOf i).toNat)
          case atStart => exact ⟨0, by omega, rfl, hB⟩
          case round =>
            clear hB
            obtain ⟨m, hm6, rfl, hB⟩ := hrel
            have hBz := hB.size
            by_cases hltm : m < 6
            · have i2 : (m : Int) < 6 := by omega
              obtain ⟨x, c1, hx⟩ := hE.2 i hlt6
              obtain ⟨y, c2, hy⟩ := hE.2 m hltm
              rw [← hB.cell (p := ⟨wo.heap.size, i, none⟩) (show wo.heap.size < wo.heap.size + 1 by omega)] at c1
              rw [← hB.cell (p := ⟨wo.heap.size, m, none⟩) (show wo.heap.size < wo.heap.size + 1 by omega)] at c2
              have hS : ∀ w', Below (wo.heap.size + 1) wr w' → w'.cell? ⟨wo.heap.size, i, none⟩ = some (.int .i64 x) ∧ w'.cell? ⟨wo.heap.size, m, none⟩ = some (.int .i64 y) := fun w' h => ⟨(h.cell (p := ⟨wo.heap.size, i, none⟩) (show wo.heap.size < wo.heap.size + 1 by omega)).trans c1, (h.cell (p := ⟨wo.heap.size, m, none⟩) (show wo.heap.size < wo.heap.size + 1 by omega)).trans c2⟩
              have hrf : Below (wo.heap.size + 1) wr wr := Below.refl _ _
              have hBw : wo.heap.size + 1 ≤ wr.heap.size := by omega
              go_upto_region 24 with (fail)
              rename_i KK hKK
              refine reg24_any (B := wo.heap.size + 1) (gE := wo.heap.size) hlt6 hltm hx hy hS hBw _ _ _ _ _ _ _ undef undef undef _ _ _ _ _ _ _ _ _ _ _ _ _ _ _ _ _ _ _ _ _ _ _ _ _ _ _ _ _ _ _ _ _ _ _ _ _ _ _ _ _ _ _ _ _ _ _ _ _ _ _ _ _ _ _ _ _ _ _ _ _ _ _ _ _ _ _ _ _ _ _ _ _ _ _ _ _ _ _ _ _ _ _ _ _ _ _ _ _ _ _ _ _ _ _ _ _ _ _ _ _ _ _ _ _ _ _ _ _ _ _ _ _ _ _ _ _ _ _ _ _ _ _ _ _ (fun _ _ _ _ _ h => h) ?_
              intro v73 v74 v75 v76 v77 v78 v79 v80 v81 v82 v83 v84 v85 v86 v87 v88 v89 v90 v91 v92 v93 v94 v95 v96 v97 v98 v99 v100 v101 v102 v103 v104 v105 v106 v107 v108 v109 v110 v111 v112 v113 v114 v115 v116 v117 v118 v119 v120 v121 v122 v123 v124 v125 v126 v127 v128 v129 v130 v131 v132 w7 hS7
              refine hKK _ _ ?_
              go_wp2_with fail
              go_roundw
              case rel => exact ⟨m + 1, by omega, by go_num, hB.trans hS7⟩
              case measure => simp [intOf]; omega
            · obtain rfl : m = 6 := by omega
              go_wp2_with fail
              go_roundw
              case rel => exact ⟨i + 1, by omega, by go_num, hB⟩
              case measure => simp [intOf]; omega
        · obtain rfl : i = 6 := by omega
          go_wp2_with fail
          refine (awake25_any _).mono ?_
          rintro e w10 ⟨rfl, hW10⟩
          have hb11 := hb10.trans (hB.mono (by omega))
          go_wp2_with fail
          go_ret
          exact ⟨rfl, hb11.trans (hW10.mono hb11.size)⟩
end Go.Proofs.Ytidfflippldhjaa
