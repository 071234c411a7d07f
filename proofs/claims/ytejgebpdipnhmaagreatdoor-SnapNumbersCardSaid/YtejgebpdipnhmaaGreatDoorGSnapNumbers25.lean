/- flatInts: rows that lie apart are found to do so. Conditions: each row is the call's own, in a block of its own. -/
import Derived.Test.YtejgebpdipnhmaaGreatDoorGSnapNumbers16
import Derived.Deep.RegionHeld3
set_option linter.unusedVariables false
set_option linter.unusedSimpArgs false
namespace Go.Proofs.YtejgebpdipnhmaaGreatDoor
open Go.RowKit
set_option maxRecDepth 20000
theorem infoRowI : (Tryz.prog.info? 22).map (fun i => (i.zero, i.size, i.bytes)) = some (some (.slice none 0 0), 1, 24) := by kernel_rfl
set_option maxHeartbeats 8000000 in
theorem flatI_any (B K : Nat) (lo : Option Addr) (lc : Nat) (R : Nat → Value) (n : Nat → Nat) (C0 : Nat → List Value) (w : World)
    (hL : w.ownsRow B 22 1 (.slice lo K lc) K ((List.range K).map R)) (hR : RowsAt B 3 1 K R n C0 w) (hsep : SepAll K R) (hK : K ≤ 100000) (hn : ∀ j, j < K → n j ≤ 1099511627776) (hB : B ≤ w.heap.size) :
    Calls Tryz.prog 86 #[.slice lo K lc] w fun e w' => e = .returned (.bool true) ∧ Kb (ofRows K R) B 3 w w' := by
  have HL := Lib.hid hL
  have HR := Lib.hid hR
  have HS := Lib.hid hsep
  have HN := Lib.hid hn
  clear hL hR hsep hn
  go_enter Tryz.func86, Tryz.ntmps86
  go_wp2_with fail
  go_loopw [3, 4] (fun i _ wr => ∃ k : Nat, k ≤ K ∧ i = .int .i64 k ∧ (∃ C, RowsAt B 3 1 K R n C wr ∧ ∀ j, j < k → C j = mks mkI j (n j)) ∧ wr.ownsRow B 22 1 (.slice lo K lc) K ((List.range K).map R) ∧ Kb (ofRows K R) B 3 w wr) (fun i _ _ => K - (intOf i).toNat)
  case atStart => exact ⟨0, by omega, rfl, ⟨C0, HR.out, fun j hj => by omega⟩, HL.out, Kb.refl _ _ _ _⟩
  case round =>
    obtain ⟨k, hk, rfl, hrows, hlw, hbel⟩ := hrel
    have HRW := Lib.hid hrows
    have HLW := Lib.hid hlw
    clear hrows hlw
    by_cases hlt : k < K
    · obtain ⟨C, hC, hCk⟩ := HRW.out
      obtain ⟨a, c, hRk, hanone, hasome, hac⟩ := row_form (hC k hlt)
      have hnk := HN.out k hlt
      obtain ⟨nk, hnk2⟩ : ∃ nk, nk = n k := ⟨_, rfl⟩
      rw [← hnk2] at hRk hanone hnk hac
      obtain ⟨lb, lcc, hlo⟩ := Go.Joins.ownsRow_form HLW.out (by omega)
      cases hlo
      have HRK := Lib.hid hRk
      have HNK := Lib.hid hnk2
      have HC := Lib.hid hC
      have HCK := Lib.hid hCk
      have HAS := Lib.hid hasome
      have i1 : (k : Int) < K := by omega
      clear hRk hnk2 hC hCk hasome hanone
      go_wp2_with fail
      obtain ⟨wo, rfl⟩ : ∃ wo : World, wo = wr := ⟨_, rfl⟩
      go_loopw [4] (fun i wr => ∃ q : Nat, q ≤ nk ∧ i = .int .i64 q ∧ (∃ C, RowsAt B 3 1 K R n C wr ∧ (∀ j, j < k → C j = mks mkI j (n j)) ∧ (C k).take (q * 1) = mks mkI k q) ∧ wr.ownsRow B 22 1 (.slice (some ⟨lb, 0, none⟩) K lc) K ((List.range K).map R) ∧ Kb (ofRows K R) B 3 w wr) (fun i _ => nk - (intOf i).toNat)
      case atStart => exact ⟨0, by omega, rfl, ⟨C, HC.out, HCK.out, by simp [mks]⟩, HLW.out, hbel⟩
      case round =>
        clear hbel
        obtain ⟨q, hq, rfl, hrows, hlw, hbel⟩ := hrel
        have HRW2 := Lib.hid hrows
        have HLW2 := Lib.hid hlw
        have c0 : wr.cell? ⟨lb, k, none⟩ = some (.slice a nk c) := by
          rw [World.ownsRow.cellAt hlw k (by omega), range_get R K k hlt, HRK.out]
        clear hrows hlw
        by_cases hltq : q < nk
        · obtain ⟨g, rfl⟩ := HAS.out (by omega)
          have i2 : (q : Int) < nk := by omega
          obtain ⟨C2, hC2, hCk2, hCq2⟩ := HRW2.out
          have hrow := hC2 k hlt
          rw [HRK.out, ← HNK.out] at hrow
          have HROW := Lib.hid hrow
          have HC2 := Lib.hid hC2
          have hlbz := (HLW2.out.lt lb rfl).2
          have hS : ∀ w', Below wr.heap.size wr w' → w'.cell? ⟨lb, k, none⟩ = some (.slice (some ⟨g, 0, none⟩) nk c) := fun w' h => (h.cell (p := ⟨lb, k, none⟩) hlbz).trans c0
          have HSS := Lib.hid hS
          have HGL := Lib.hid (show g ≠ lb from fun e => by have := own_apart hrow HLW2.out (by decide); rcases this with h | h; cases h; exact h (by simp [Value.ownBlock, e]))
          have hrf : Below wr.heap.size wr wr := Below.refl _ _
          clear hrow hC2 hS
          go_wp2_with fail
          go_region_held3 (fun w' => w'.cell? ⟨lb, k, none⟩ = some (.slice (some ⟨g, 0, none⟩) nk c)) (((repeat (refine Eq.trans (World.cell?_setCell_far _ _ _ _ (show g ≠ lb from HGL.out)) ?_)); refine HSS.out _ ?_; repeat (first | with_reducible assumption | with_reducible exact Below.refl _ _ | refine Below.trans ?_ (by assumption) | with_reducible refine Below.drew ?_))) ((go_at_call 80; refine (markI_at _ _ k q rfl rfl (by omega) (by omega) _).mono ?_; rintro e w3 ⟨rfl, hb3⟩; have hbd : Below wr.heap.size wr w3 := Below.trans (Below.drew hrf) hb3; have hrow3 := own_below HROW.out hbd (Nat.le_refl _); have f0 : w3.frozen? ⟨g, q, none⟩ = false := World.ownsRow.frozenAt hrow3 _; obtain ⟨o0, d0⟩ : ∃ o, w3.cell? ⟨g, q, none⟩ = some o := ⟨_, by rw [World.ownsRow.cellAt hrow3 _ (by omega), List.getElem?_eq_getElem (by have := hrow3.1; omega)]⟩; have HROW3 := Lib.hid hrow3; clear hrow3))
          have hql := HROW3.out.1
          have s0 := World.ownsRow.stored HROW3.out (q) (.int .i64 (markN k q))
          have HSX := Lib.hid s0.1
          have HSG := Lib.hid (s0.2)
          have HL3 := Lib.hid (own_below HLW2.out hbd (Nat.le_refl _))
          have HC3 := Lib.hid (show RowsAt B 3 1 K R n C2 w3 from fun j hj => own_below (HC2.out j hj) hbd (Nat.le_refl _))
          have hb3k := (hbel.trans_below hbd (by have := hbel.size; omega))
          clear s0 c0 hrf
          go_wp2_with fail
          go_roundw
          case rel =>
            have hRb : (R k).ownBlock = some g := by rw [HRK.out]; rfl
            refine ⟨q + 1, by omega, by go_num, ⟨_, RowsAt.upd HC3.out HS.out hlt (by rw [hRb]; exact HSG.out) (by rw [HRK.out, ← HNK.out]; exact HSX.out), fun j hj => ?_, ?_⟩, ?_, ?_⟩
            · have e : ¬ j = k := by omega
              simp only [e, if_false]
              exact hCk2 j hj
            · simp only [if_true]
              rw [show (q + 1) * 1 = q + 1 by omega, take_set_succ (by first | omega | (simp; omega)), show (C2 k).take q = mks mkI k q from by simpa using hCq2, mks_succ]
              simp [mkI, List.append_assoc]
            · exact World.ownsRow.kept HL3.out HSG.out (own_apart HL3.out HROW3.out (by decide))
            · exact hb3k.grownRow HSG.out (by have := hb3k.size; have := hbel.size; omega) HROW3.out (HROW3.out.lt g rfl).1 (Or.inl ⟨k, hlt, hRb⟩)
          case measure => simp [intOf]; omega
        · obtain rfl : q = nk := by omega
          go_wp2_with fail
          go_roundw
          case rel =>
            obtain ⟨C2, hC2, hCk2, hCq2⟩ := HRW2.out
            refine ⟨k + 1, by omega, by go_num, ⟨C2, hC2, fun j hj => ?_⟩, HLW2.out, hbel⟩
            by_cases e : j = k
            · subst e
              rw [← HNK.out, ← hCq2, List.take_of_length_le (by have := (hC2 j hlt).1; rw [← HNK.out] at this; omega)]
            · exact hCk2 j (by omega)
          case measure => simp [intOf]; omega
    · obtain rfl : K = k := by omega
      obtain ⟨wo, rfl⟩ : ∃ wo : World, wo = wr := ⟨_, rfl⟩
      have hP1 : RowsAt B 3 1 K R n (fun j => mks mkI j (n j)) wo := by
        obtain ⟨C, hC, hCk⟩ := HRW.out
        exact hC.congr hCk
      have hmk := run_make_row' (P := Tryz.prog) 77 22 (.slice none 0 0) 24 Tryz.underlying77 infoRowI rfl .i64 .i64 K (by omega) (by omega)
      have hsz := hbel.size
      have hwo : w.heap.size ≤ wo.heap.size := hsz
      have hP2 : RowsAt B 3 1 K R n (fun j => mks mkI j (n j)) (wo.alloc (.cells (madeCells #[.slice none 0 0] K) 22)) := fun j hj => (hP1 j hj).alloc _
      have hl2 := World.ownsRow.alloc HLW.out (.cells (madeCells #[.slice none 0 0] K) 22)
      have hg2 := World.ownsRow_lit (base := B) (e := 22) (size := 1) wo (madeCells #[.slice none 0 0] K) K (by omega) (by unfold maxLen; omega) (by simp [size_madeCells])
      rw [made_list] at hg2
      have hb2 := hbel.alloc (by omega) (.cells (madeCells #[.slice none 0 0] K) 22)
      have hLG : Sep (.slice lo K lc) (.slice (some ⟨wo.heap.size, 0, none⟩) K K) := fun b hb hb' => by
        have := (HLW.out.lt b hb).2
        simp [Value.ownBlock] at hb'
        omega
      have HP2 := Lib.hid hP2
      have HL2 := Lib.hid hl2
      have HG2 := Lib.hid hg2
      have HLG := Lib.hid hLG
      clear hP1 hP2 hl2 hg2 hLG HRW HLW
      obtain ⟨i0, hi, hz0, hz1, hz2⟩ := info_parts infoI
      go_wp2_with fail
      generalize wo.alloc (.cells (madeCells #[.slice none 0 0] K) 22) = w1 at HP2 HL2 HG2 hb2 ⊢
      clear hmk
      go_loopw [6, 7, 8] (fun i _ _ wr => ∃ (k : Nat) (V : Nat → Value), k ≤ K ∧ i = .int .i64 k ∧ RowsAt B 3 1 K R n (fun j => mks mkI j (n j)) wr ∧ (∀ j, j < k → wr.ownsRow B 3 1 (V j) (n j + 64) (mks mkI j (n j + 64))) ∧ (∀ i j, i < k → j < K → i ≠ j → Sep (V i) (R j)) ∧ (∀ i j, i < k → j < k → i ≠ j → Sep (V i) (V j)) ∧
        wr.ownsRow B 22 1 (.slice lo K lc) K ((List.range K).map R) ∧ wr.ownsRow B 22 1 (.slice (some ⟨wo.heap.size, 0, none⟩) K K) K ((List.range K).map fun j => if j < k then V j else .slice none 0 0) ∧ Kb (ofRows K R) B 3 w wr) (fun i _ _ _ => K - (intOf i).toNat)
      case atStart => exact ⟨0, fun _ => .slice none 0 0, by omega, rfl, HP2.out, fun j hj => by omega, fun i j hi => by omega, fun i j hi => by omega, HL2.out, by simpa using HG2.out, hb2⟩
      case round =>
        clear hbel hsz hb2 HP2 HL2 HG2
        obtain ⟨k, V, hk, rfl, hP, hV, hVR, hVV, hlw, hgw, hbel⟩ := hrel
        have HP := Lib.hid hP
        have HV := Lib.hid hV
        have HVR := Lib.hid hVR
        have HVV := Lib.hid hVV
        have HLW := Lib.hid hlw
        have HGW := Lib.hid hgw
        clear hP hV hVR hVV hlw hgw
        by_cases hlt : k < K
        · obtain ⟨a, c, hRk, hanone, hasome, hac⟩ := row_form (HP.out k hlt)
          have hnk := HN.out k hlt
          obtain ⟨nk, hnk2⟩ : ∃ nk, nk = n k := ⟨_, rfl⟩
          rw [← hnk2] at hRk hanone hnk hac
          obtain ⟨lb, lcc, hlo⟩ := Go.Joins.ownsRow_form HLW.out (by omega)
          cases hlo
          have c0 : wr.cell? ⟨lb, k, none⟩ = some (.slice a nk c) := by
            rw [World.ownsRow.cellAt HLW.out k (by omega), range_get R K k hlt, hRk]
          have HRK := Lib.hid hRk
          have HNK := Lib.hid hnk2
          have i1 : (k : Int) < K := by omega
          have hsw := hbel.size
          clear hRk hnk2 hasome hanone
          go_wp2_with fail
          obtain ⟨wi, rfl⟩ : ∃ wi : World, wi = wr := ⟨_, rfl⟩
          have hwi : w.heap.size ≤ wi.heap.size := hbel.size
          clear c0
          go_loopw [7, 8] (fun v i wr => ∃ q : Nat, q ≤ 64 ∧ i = .int .i64 q ∧ GrowAt B 3 1 mkI k wi.heap.size (R k) nk q v wr ∧ (∀ j, j < K → j ≠ k → wr.ownsRow B 3 1 (R j) (n j) (mks mkI j (n j))) ∧ (∀ j, j < k → wr.ownsRow B 3 1 (V j) (n j + 64) (mks mkI j (n j + 64))) ∧
            wr.ownsRow B 22 1 (.slice (some ⟨lb, 0, none⟩) K lc) K ((List.range K).map R) ∧ wr.ownsRow B 22 1 (.slice (some ⟨wo.heap.size, 0, none⟩) K K) K ((List.range K).map fun j => if j < k then V j else .slice none 0 0) ∧ Kb (ofRows K R) B 3 w wr ∧ wi.heap.size ≤ wr.heap.size) (fun _ i _ => 64 - (intOf i).toNat)
          case atStart => exact ⟨0, by omega, rfl, by rw [← HRK.out]; exact grow_start (by rw [HNK.out]; exact HP.out k hlt), fun j hj _ => HP.out j hj, HV.out, HLW.out, HGW.out, hbel, Nat.le_refl _⟩
          case round =>
            clear hbel hsw
            obtain ⟨q, hq, rfl, hgr, hRo, hVo, hlw, hgw, hbel, hsw⟩ := hrel
            have hsb := hbel.size
            have HGR := Lib.hid hgr
            have HRO := Lib.hid hRo
            have HVO := Lib.hid hVo
            have HLW2 := Lib.hid hlw
            have HGW2 := Lib.hid hgw
            clear hgr hRo hVo hlw hgw
            by_cases hltq : q < 64
            · have c0 : wr.cell? ⟨lb, k, none⟩ = some (.slice a nk c) := by
                rw [World.ownsRow.cellAt HLW2.out k (by omega), range_get R K k hlt, HRK.out]
              obtain ⟨va, vc, hv, hvn, hvs, hvc⟩ := row_form HGR.out.1
              subst hv
              have i2 : (q : Int) < 64 := by omega
              have HVS := Lib.hid hvs
              have HVN := Lib.hid hvn
              clear hvs hvn
              have hRb : ∀ j, j < K → ∀ b, (R j).ownBlock = some b → b < wi.heap.size := fun j hj b hb => ((HP.out j hj).lt b hb).2
              have hVb : ∀ j, j < k → ∀ b, (V j).ownBlock = some b → b < wi.heap.size := fun j hj b hb => ((HV.out j hj).lt b hb).2
              have HRB := Lib.hid hRb
              have HVB := Lib.hid hVb
              clear hRb hVb
              go_wp2_with fail
              refine (markI_at _ _ k (nk + q) rfl (by omega) (by omega) (by omega) wr).mono ?_
              rintro e wm ⟨rfl, hbm⟩
              have hsm := hbm.size
              have HGR := Lib.hid (show GrowAt B 3 1 mkI k wi.heap.size (R k) nk q (.slice va (nk + q) vc) wm from ⟨own_below HGR.out.1 hbm (Nat.le_refl _), own_below HGR.out.2.1 hbm (Nat.le_refl _), HGR.out.2.2⟩)
              have HRO := Lib.hid (show ∀ j, j < K → j ≠ k → wm.ownsRow B 3 1 (R j) (n j) (mks mkI j (n j)) from fun j hj hjk => own_below (HRO.out j hj hjk) hbm (Nat.le_refl _))
              have HVO := Lib.hid (show ∀ j, j < k → wm.ownsRow B 3 1 (V j) (n j + 64) (mks mkI j (n j + 64)) from fun j hj => own_below (HVO.out j hj) hbm (Nat.le_refl _))
              have HLW2 := Lib.hid (own_below HLW2.out hbm (Nat.le_refl _))
              have HGW2 := Lib.hid (own_below HGW2.out hbm (Nat.le_refl _))
              have hbel := hbel.trans_below hbm (by omega)
              have hsw : wi.heap.size ≤ wm.heap.size := by omega
              clear c0
              by_cases hfit : nk + q + 1 ≤ vc
              · obtain ⟨g, rfl⟩ := HVS.out (by omega)
                go_wp2_with (at_builtin; refine wpList_append_fits _ rfl (.tmp 57) (.tmp 67) 22 rfl B 3 i0 1 Tryz.underlying22 hi hz1 g (nk + q) vc (mks mkI k (nk + q)) rfl (World.ownsRow.alloc HGR.out.1 _) ⟨wm.heap.size, 0, none⟩ 1 1 [.int .i64 (markN k (nk + q))] rfl rfl (cells_new wm 3 [.int .i64 (markN k (nk + q))]) (by simp [Value.oneCell']) hfit ?_)
                intro w3 hown3 hg3
                have HGA := grow_alloc HGR.out (.cells #[.int .i64 (markN k (nk + q))] 3)
                have hgr3 := grow_fits mkI_len (by decide) HGA (HRB.out k hlt) (by simpa [mkI] using hown3) hg3
                have hR3 : ∀ j, j < K → j ≠ k → w3.ownsRow B 3 1 (R j) (n j) (mks mkI j (n j)) := fun j hj hjk =>
                  World.ownsRow.kept ((HRO.out j hj hjk).alloc _) hg3 (grow_other HGA ((HRO.out j hj hjk).alloc _) (HRB.out j hj) (HS.out j k hj hlt hjk))
                have hV3 : ∀ j, j < k → w3.ownsRow B 3 1 (V j) (n j + 64) (mks mkI j (n j + 64)) := fun j hj =>
                  World.ownsRow.kept ((HVO.out j hj).alloc _) hg3 (grow_other HGA ((HVO.out j hj).alloc _) (HVB.out j hj) (HVR.out j k hj hlt (by omega)))
                have hl3 := World.ownsRow.kept (HLW2.out.alloc (.cells #[.int .i64 (markN k (nk + q))] 3)) hg3 (own_apart (HLW2.out.alloc _) HGA.1 (by decide))
                have hG3 := World.ownsRow.kept (HGW2.out.alloc (.cells #[.int .i64 (markN k (nk + q))] 3)) hg3 (own_apart (HGW2.out.alloc _) HGA.1 (by decide))
                have hb3 : Kb (ofRows K R) B 3 w w3 := (hbel.alloc (by omega) _).grownRow hg3 (by simp; omega) HGA.1 (HGA.1.lt g rfl).1 (HGA.2.2.imp (fun e => ⟨k, hlt, e.symm⟩) (fun h => by have := h g rfl; omega))
                have hs3 : wi.heap.size ≤ w3.heap.size := by have := hg3.size; simp at this; omega
                have HA1 := Lib.hid hgr3
                have HA2 := Lib.hid hR3
                have HA3 := Lib.hid hV3
                have HA4 := Lib.hid hl3
                have HA5 := Lib.hid hG3
                clear hown3 hg3 HGA hgr3 hR3 hV3 hl3 hG3
                go_wp2_with fail
                go_roundw
                case rel => exact ⟨q + 1, by omega, by go_num, by have := HA1.out; rwa [show nk + q + 1 = nk + (q + 1) by omega] at this, HA2.out, HA3.out, HA4.out, HA5.out, hb3, hs3⟩
                case measure => simp [intOf]; omega
              · have HLN := Lib.hid (mks_len mkI_len k (nk + q))
                have HCL := Lib.hid (show ∀ b, va = some b → ∀ (j : Nat) u, (mks mkI k (nk + q))[j]? = some u → (wm.alloc (.cells #[.int .i64 (markN k (nk + q))] 3)).cell? (b.add j) = some u from fun b hb j u hu => by
                  have h1 := HGR.out.1.alloc (.cells #[.int .i64 (markN k (nk + q))] 3)
                  rw [hb] at h1
                  rcases Go.Joins.ownsRow_forms h1 with ⟨h2, _⟩ | ⟨g2, c2, h2⟩
                  · cases h2
                  · injection h2 with h3 _ _
                    injection h3 with h3
                    subst h3
                    exact World.ownsRow.cells h1 rfl j u hu)
                have hcl := HCL.out
                have hln := HLN.out
                have hvn := HVN.out
                go_wp2_with (at_builtin; refine wpList_append_grows _ rfl (.tmp 57) (.tmp 67) 22 rfl 3 i0 (.int .i64 0) 1 8 Tryz.underlying22 hi hz0 hz1 hz2 rfl (by decide) va (nk + q) vc (mks mkI k (nk + q)) rfl hvn hln hcl ⟨wm.heap.size, 0, none⟩ 1 1 [.int .i64 (markN k (nk + q))] rfl rfl (cells_new wm 3 [.int .i64 (markN k (nk + q))]) (by simp [Value.oneCell']) (by omega) (by unfold maxLen; omega) (by omega) ?_)
                intro v3 w3 hown3 hg3
                have HGA := grow_alloc HGR.out (.cells #[.int .i64 (markN k (nk + q))] 3)
                have hgr3 := grow_new HGA (by simp; omega) (by simp; omega) (by rw [World.size_alloc]; simpa [mkI] using hown3) hg3
                have hR3 : ∀ j, j < K → j ≠ k → w3.ownsRow B 3 1 (R j) (n j) (mks mkI j (n j)) := fun j hj hjk =>
                  World.ownsRow.kept ((HRO.out j hj hjk).alloc _) hg3 (by cases (R j).ownBlock <;> simp)
                have hV3 : ∀ j, j < k → w3.ownsRow B 3 1 (V j) (n j + 64) (mks mkI j (n j + 64)) := fun j hj =>
                  World.ownsRow.kept ((HVO.out j hj).alloc _) hg3 (by cases (V j).ownBlock <;> simp)
                have hl3 := World.ownsRow.kept (HLW2.out.alloc (.cells #[.int .i64 (markN k (nk + q))] 3)) hg3 (by simp [Value.ownBlock])
                have hG3 := World.ownsRow.kept (HGW2.out.alloc (.cells #[.int .i64 (markN k (nk + q))] 3)) hg3 (by simp [Value.ownBlock])
                have hb3 : Kb (ofRows K R) B 3 w w3 := (hbel.alloc (by omega) _).grownNone hg3 (by simp; omega)
                have hs3 : wi.heap.size ≤ w3.heap.size := by have := hg3.size; simp at this; omega
                have HA1 := Lib.hid hgr3
                have HA2 := Lib.hid hR3
                have HA3 := Lib.hid hV3
                have HA4 := Lib.hid hl3
                have HA5 := Lib.hid hG3
                clear hown3 hg3 HGA hgr3 hR3 hV3 hl3 hG3 hcl hln hvn
                go_wp2_with fail
                go_roundw
                case rel => exact ⟨q + 1, by omega, by go_num, HA1.out, HA2.out, HA3.out, HA4.out, HA5.out, hb3, hs3⟩
                case measure => simp [intOf]; omega
            · obtain rfl : 64 = q := by omega
              obtain ⟨va, vc, hv, _, _, _⟩ := row_form HGR.out.1
              subst hv
              have c1 : wr.cell? ⟨wo.heap.size, k, none⟩ = some (.slice none 0 0) := by
                rw [World.ownsRow.cellAt HGW2.out k (by omega), range_get _ K k hlt]
                simp
              have f1 : wr.frozen? ⟨wo.heap.size, k, none⟩ = false := World.ownsRow.frozenAt HGW2.out _
              have hst := World.ownsRow.stored HGW2.out k (.slice va (nk + 64) vc)
              rw [range_set] at hst
              have HST := Lib.hid hst
              clear hst
              go_wp2_with fail
              go_roundw
              case rel =>
                have hg := HST.out.2
                have hGB : B ≤ wo.heap.size := (HGW2.out.lt _ rfl).1
                refine ⟨k + 1, fun j => if j = k then .slice va (nk + 64) vc else V j, by omega, by go_num, fun j hj => ?_, fun j hj => ?_, fun i j hi hj hij => ?_, fun i j hi hj hij => ?_, World.ownsRow.kept HLW2.out hg HLG.out.ne, ?_, hbel.grownNew hg (by have := hbel.size; omega) hwo hGB⟩
                · by_cases e : j = k
                  · subst e
                    have h1 := World.ownsRow.kept HGR.out.2.1 hg (own_apart HGR.out.2.1 HGW2.out (by decide))
                    rw [HNK.out] at h1 ⊢
                    exact h1
                  · exact World.ownsRow.kept (HRO.out j hj e) hg (own_apart (HRO.out j hj e) HGW2.out (by decide))
                · by_cases e : j = k
                  · subst e
                    simp only [if_true]
                    have h1 := World.ownsRow.kept HGR.out.1 hg (own_apart HGR.out.1 HGW2.out (by decide))
                    rw [← HNK.out]
                    exact h1
                  · simp only [e, if_false]
                    exact World.ownsRow.kept (HVO.out j (by omega)) hg (own_apart (HVO.out j (by omega)) HGW2.out (by decide))
                · by_cases e : i = k
                  · subst e
                    simp only [if_true]
                    intro b hb hb'
                    rcases HGR.out.2.2 with h1 | h1
                    · exact HS.out i j hlt hj hij b (h1 ▸ hb) hb'
                    · have := h1 b hb
                      have := ((HP.out j hj).lt b hb').2
                      omega
                  · simp only [e, if_false]
                    exact HVR.out i j (by omega) hj hij
                · by_cases e : i = k
                  · have e2 : ¬ j = k := fun h => hij (e.trans h.symm)
                    subst e
                    simp only [if_true, e2, if_false]
                    intro b hb hb'
                    rcases HGR.out.2.2 with h1 | h1
                    · exact HVR.out j i (by omega) hlt (Ne.symm hij) b hb' (h1 ▸ hb)
                    · have := h1 b hb
                      have := ((HV.out j (by omega)).lt b hb').2
                      omega
                  · by_cases e2 : j = k
                    · subst e2
                      simp only [if_true, e, if_false]
                      intro b hb hb'
                      rcases HGR.out.2.2 with h1 | h1
                      · exact HVR.out i j (by omega) hlt hij b hb (h1 ▸ hb')
                      · have := h1 b hb'
                        have := ((HV.out i (by omega)).lt b hb).2
                        omega
                    · simp only [e, e2, if_false]
                      exact HVV.out i j (by omega) (by omega) hij
                · have h1 := HST.out.1
                  have e : (fun j => if j = k then (Value.slice va (nk + 64) vc) else if j < k then V j else .slice none 0 0) = fun j => if j < k + 1 then (if j = k then (Value.slice va (nk + 64) vc) else V j) else .slice none 0 0 := by
                    funext j
                    by_cases e1 : j = k
                    · subst e1; simp
                    · by_cases e2 : j < k
                      · simp [e1, e2, show j < k + 1 by omega]
                      · simp [e1, e2, show ¬ j < k + 1 by omega]
                  rw [e] at h1
                  exact h1
              case measure => simp [intOf]; omega
        · obtain rfl : K = k := by omega
          obtain ⟨wb, rfl⟩ : ∃ wb : World, wb = wr := ⟨_, rfl⟩
          have HGW2 := Lib.hid (show wb.ownsRow B 22 1 (.slice (some ⟨wo.heap.size, 0, none⟩) K K) K ((List.range K).map V) by
            have h1 := HGW.out
            have e : ((List.range K).map fun j => if j < K then V j else .slice none 0 0) = (List.range K).map V := List.map_congr_left fun j hj => by simp [List.mem_range.1 hj]
            rwa [e] at h1)
          clear HGW
          have hsb := hbel.size
          have hgl := (HGW2.out.lt _ rfl).2
          go_wp2_with fail
          go_loopw [9, 10] (fun i _ wr => ∃ k : Nat, k ≤ K ∧ i = .int .i64 k ∧ Below wb.heap.size wb wr) (fun i _ _ => K - (intOf i).toNat)
          case atStart => exact ⟨0, by omega, rfl, Below.refl _ _⟩
          case round =>
            obtain ⟨k, hk, rfl, hb5⟩ := hrel
            by_cases hlt : k < K
            · obtain ⟨a, c, hRk, _, hasome, hac⟩ := row_form (HP.out k hlt)
              obtain ⟨va, vc, hVk, _, hvsome, hvc⟩ := row_form (HV.out k hlt)
              have hnk := HN.out k hlt
              have hVr := HV.out k hlt
              have hRr := HP.out k hlt
              obtain ⟨nk, hnk2⟩ : ∃ nk, nk = n k := ⟨_, rfl⟩
              rw [hRk] at hRr
              rw [hVk] at hVr
              simp only [← hnk2] at hRk hVk hnk hac hvc hVr hRr
              obtain ⟨lb, lcc, hlo⟩ := Go.Joins.ownsRow_form HLW.out (by omega)
              cases hlo
              have cl : wb.cell? ⟨lb, k, none⟩ = some (.slice a nk c) := by
                rw [World.ownsRow.cellAt HLW.out k (by omega), range_get R K k hlt, hRk]
              have cg : wb.cell? ⟨wo.heap.size, k, none⟩ = some (.slice va (nk + 64) vc) := by
                rw [World.ownsRow.cellAt HGW2.out k (by omega), range_get V K k hlt, hVk]
              have hll := (HLW.out.lt lb rfl).2
              have HVR2 := Lib.hid hVr
              have HRR2 := Lib.hid hRr
              have HVS := Lib.hid hvsome
              have HAS := Lib.hid hasome
              have i1 : (k : Int) < K := by omega
              clear hRk hVk hnk2 hVr hRr hvsome hasome
              go_wp2_with fail
              go_loopw [10] (fun i wr => ∃ q : Nat, q ≤ nk + 64 ∧ i = .int .i64 q ∧ Below wb.heap.size wb wr) (fun i _ => nk + 64 - (intOf i).toNat)
              case atStart => exact ⟨0, by omega, rfl, hb5⟩
              case round =>
                clear hb5
                obtain ⟨q, hq, rfl, hb5⟩ := hrel
                have cg5 : wr.cell? ⟨wo.heap.size, k, none⟩ = some (.slice va (nk + 64) vc) := (hb5.cell (p := ⟨wo.heap.size, k, none⟩) hgl).trans cg
                by_cases hltq : q < nk + 64
                · obtain ⟨vg, rfl⟩ := HVS.out (by omega)
                  have hvg := (HVR2.out.lt vg rfl).2
                  obtain ⟨mm, hmm⟩ : ∃ mm, markN k q = mm := ⟨_, rfl⟩
                  have HMM := Lib.hid hmm
                  clear hmm
                  have dv0 : wb.cell? ⟨vg, q, none⟩ = some (.int .i64 (mm)) := by
                    rw [World.ownsRow.cellAt HVR2.out _ (by omega)]
                    have := mks_get mkI_len k (nk + 64) q 0 (by omega) (by decide)
                    simpa [mkI, HMM.out] using this
                  have k0 : ∀ x : Calm wb.heap.size wb, x.1.cell? ⟨wo.heap.size, k, none⟩ = some (.slice (some ⟨vg, 0, none⟩) (nk + 64) vc) := fun x => x.cell cg hgl
                  have k10 : ∀ x : Calm wb.heap.size wb, x.1.cell? ⟨vg, q, none⟩ = some (.int .i64 (mm)) := fun x => x.cell dv0 hvg
                  have k2 : ∀ x : Calm wb.heap.size wb, x.1.cell? ⟨lb, k, none⟩ = some (.slice a nk c) := fun x => x.cell cl hll
                  have i2 : (q : Int) < (nk : Int) + 64 := by omega
                  have i3 : (q : Int) < ((nk + 64 : Nat) : Int) := by omega
                  by_cases hlq : q < nk
                  · obtain ⟨rg, rfl⟩ := HAS.out (by omega)
                    have hrg := (HRR2.out.lt rg rfl).2
                    have dr0 : wb.cell? ⟨rg, q, none⟩ = some (.int .i64 (mm)) := by
                      rw [World.ownsRow.cellAt HRR2.out _ (by omega)]
                      have := mks_get mkI_len k (nk) q 0 (by omega) (by decide)
                      simpa [mkI, HMM.out] using this
                    have k30 : ∀ x : Calm wb.heap.size wb, x.1.cell? ⟨rg, q, none⟩ = some (.int .i64 (mm)) := fun x => x.cell dr0 hrg
                    have i4 : (q : Int) < nk := by omega
                    have d1 : decide ((q : Int) < nk) = true := by simpa using hlq
                    have d2 : decide (q < nk) = true := by simpa using hlq
                    clear dv0 dr0 cl cg
                    go_wp2_with fail
                    clear cg5
                    refine wp_region_calm (B := wb.heap.size) (W0 := wb) hb5 (by kernel_rfl) (by kernel_rfl) ?_
                    repeat (go_big_quiet_step (first | (go_at_call 80; exact Calm.call (Nat.le_refl _) (markI_is _ _ k q mm HMM.out rfl rfl (by omega) (by omega) _))))
                    refine wpQuiet_nil ?_
                    intro w6 hb6
                    clear k0 k10 k2 k30
                    go_wp2_with fail
                    go_roundw
                    case rel => exact ⟨q + 1, by omega, by go_num, hb6⟩
                    case measure => simp [intOf]; omega
                  · have i4 : ¬ (q : Int) < nk := by omega
                    have d1 : decide ((q : Int) < nk) = false := by simp; omega
                    have d2 : decide (q < nk) = false := by simpa using hlq
                    clear dv0 cl cg
                    go_wp2_with fail
                    clear cg5
                    refine wp_region_calm (B := wb.heap.size) (W0 := wb) hb5 (by kernel_rfl) (by kernel_rfl) ?_
                    repeat (go_big_quiet_step (first | (go_at_call 80; exact Calm.call (Nat.le_refl _) (markI_is _ _ k q mm HMM.out rfl rfl (by omega) (by omega) _))))
                    refine wpQuiet_nil ?_
                    intro w6 hb6
                    clear k0 k10 k2
                    go_wp2_with fail
                    go_roundw
                    case rel => exact ⟨q + 1, by omega, by go_num, hb6⟩
                    case measure => simp [intOf]; omega
                · obtain rfl : q = nk + 64 := by omega
                  go_wp2_with fail
                  go_roundw
                  case rel => exact ⟨k + 1, by omega, by go_num, hb5⟩
                  case measure => simp [intOf]; omega
            · obtain rfl : K = k := by omega
              have hV2 : ∀ j, j < K → ∃ ys : List Value, wr.ownsRow B 3 1 (V j) (n j + 64) (mks mkI j (n j) ++ ys) := fun j hj => by
                have h1 := own_below (HV.out j hj) hb5 (Nat.le_refl _)
                refine ⟨(mks mkI j (n j + 64)).drop (n j * 1), ?_⟩
                rw [← mks_take mkI_len j (n j) 64, List.take_append_drop]
                exact h1
              have hP2 : RowsAt B 3 1 K R n (fun j => mks mkI j (n j)) wr := fun j hj => own_below (HP.out j hj) hb5 (Nat.le_refl _)
              have hl2 := own_below HLW.out hb5 (Nat.le_refl _)
              have hg2 := own_below HGW2.out hb5 (Nat.le_refl _)
              have hbw : Kb (ofRows K R) B 3 w wr := hbel.trans_below hb5 (by omega)
              have HV2 := Lib.hid hV2
              have HP2 := Lib.hid hP2
              have HL2 := Lib.hid hl2
              have HG2 := Lib.hid hg2
              have hmk : ∀ w, (Instr.makeSlice 22 (.int .i64 64) (.int .i64 64)).run Tryz.prog w = .ok (.slice (some ⟨w.heap.size, 0, none⟩) 64 64) (w.alloc (.cells (madeCells #[.int .i64 0] 64) 3)) := fun w => run_make_rows (P := Tryz.prog) 22 3 (.int .i64 0) 1 8 Tryz.underlying22 infoI .i64 .i64 64 (by omega) (by omega) w
              clear hV2 hP2 hl2 hg2 hb5 HV HP HLW HGW2
              go_wp2_with fail
              go_loopw [11, 12, 13] (fun i _ _ wr => ∃ (k : Nat) (V : Nat → Value), k ≤ K ∧ i = .int .i64 k ∧ RowsAt B 3 1 K R n (fun j => mks mkI j (n j)) wr ∧ (∀ j, j < K → ∃ ys : List Value, wr.ownsRow B 3 1 (V j) (n j + 64) (mks mkI j (n j) ++ ys)) ∧ (∀ i j, i < K → j < K → i ≠ j → Sep (V i) (R j)) ∧ (∀ i j, i < K → j < K → i ≠ j → Sep (V i) (V j)) ∧
                wr.ownsRow B 22 1 (.slice lo K lc) K ((List.range K).map R) ∧ wr.ownsRow B 22 1 (.slice (some ⟨wo.heap.size, 0, none⟩) K K) K ((List.range K).map V) ∧ Kb (ofRows K R) B 3 w wr) (fun i _ _ _ => K - (intOf i).toNat)
              case atStart => exact ⟨0, V, by omega, rfl, HP2.out, HV2.out, HVR.out, HVV.out, HL2.out, HG2.out, hbw⟩
              case round =>
                clear hbel hsb hbw HV2 HP2 HL2 HG2 HVR HVV hgl
                obtain ⟨k, V, hk, rfl, hP, hV, hVR, hVV, hlw, hgw, hbel⟩ := hrel
                have HP := Lib.hid hP
                have HV := Lib.hid hV
                have HVR := Lib.hid hVR
                have HVV := Lib.hid hVV
                have HLW := Lib.hid hlw
                have HGW := Lib.hid hgw
                clear hP hV hVR hVV hlw hgw
                have hsb := hbel.size
                by_cases hlt : k < K
                · obtain ⟨wi, rfl⟩ : ∃ wi : World, wi = wr := ⟨_, rfl⟩
                  have i1 : (k : Int) < K := by omega
                  have hm0 := World.ownsRow_lit (base := wi.heap.size) (e := 3) (size := 1) wi (madeCells #[.int .i64 0] 64) 64 (Nat.le_refl _) (by unfold maxLen; omega) (by simp [size_madeCells])
                  have hone0 : ∀ u ∈ (madeCells #[.int .i64 0] 64).toList, u.oneCell' = true := made_one _ _ (by decide) (by rfl)
                  have HM1 := Lib.hid hm0
                  have HO1 := Lib.hid hone0
                  clear hm0 hone0
                  have hba : Below wi.heap.size wi (wi.alloc (.cells (madeCells #[.int .i64 0] 64) 3)) := (Below.refl _ _).alloc (Nat.le_refl _) _
                  go_wp2_with fail
                  generalize wi.alloc (.cells (madeCells #[.int .i64 0] 64) 3) = w2 at HM1 hba ⊢
                  go_loopw [13] (fun i wr => ∃ (q : Nat) (zs : List Value), q ≤ 64 ∧ i = .int .i64 q ∧ (∀ u ∈ zs, u.oneCell' = true) ∧ wr.ownsRow wi.heap.size 3 1 (.slice (some ⟨wi.heap.size, 0, none⟩) 64 64) 64 zs ∧ Below wi.heap.size wi wr) (fun i _ => 64 - (intOf i).toNat)
                  case atStart => exact ⟨0, _, by omega, rfl, HO1.out, HM1.out, hba⟩
                  case round =>
                    clear hba HM1
                    obtain ⟨q, zs, hq, rfl, hzl, hmo, hbi⟩ := hrel
                    have HMO := Lib.hid hmo
                    have HZL := Lib.hid hzl
                    clear hmo hzl
                    by_cases hltq : q < 64
                    · have i2 : (q : Int) < 64 := by omega
                      go_wp2_with fail
                      refine (markI_at _ _ (k + K) q (by omega) rfl (by omega) (by omega) wr).mono ?_
                      rintro e w3 ⟨rfl, hb3⟩
                      have hmo3 := own_below HMO.out hb3 (Nat.le_refl _)
                      obtain ⟨o0, d0⟩ : ∃ o, w3.cell? ⟨wi.heap.size, q, none⟩ = some o := ⟨_, by rw [World.ownsRow.cellAt hmo3 _ (by omega), List.getElem?_eq_getElem (by have := hmo3.1; omega)]⟩
                      have f0 : w3.frozen? ⟨wi.heap.size, q, none⟩ = false := World.ownsRow.frozenAt hmo3 _
                      have s0 := World.ownsRow.stored hmo3 (q) (.int .i64 (markN (k + K) q))
                      have HST := Lib.hid s0.1
                      have hbz := (hbi.trans (hb3.mono hbi.size)).setCell (p := ⟨wi.heap.size, q, none⟩) (Nat.le_refl _) (.int .i64 (markN (k + K) q))
                      clear hmo3 s0
                      go_wp2_with fail
                      go_roundw
                      case rel => exact ⟨q + 1, _, by omega, by go_num, one_set (HZL.out) (by rfl), HST.out, hbz⟩
                      case measure => simp [intOf]; omega
                    · obtain rfl : 64 = q := by omega
                      have hP6 : RowsAt B 3 1 K R n (fun j => mks mkI j (n j)) wr := fun j hj => own_below (HP.out j hj) hbi (Nat.le_refl _)
                      have hV6 : ∀ j, j < K → ∃ ys : List Value, wr.ownsRow B 3 1 (V j) (n j + 64) (mks mkI j (n j) ++ ys) := fun j hj => by
                        obtain ⟨ys, hys⟩ := HV.out j hj
                        exact ⟨ys, own_below hys hbi (Nat.le_refl _)⟩
                      have hl6 := own_below HLW.out hbi (Nat.le_refl _)
                      have hg6 := own_below HGW.out hbi (Nat.le_refl _)
                      have hb6 : Kb (ofRows K R) B 3 w wr := hbel.trans_below hbi (by omega)
                      have hs6 := hb6.size
                      obtain ⟨a, c, hRk, hanone, hasome, hac⟩ := row_form (hP6 k hlt)
                      have hRr := hP6 k hlt
                      obtain ⟨ys0, hys0⟩ := hV6 k hlt
                      obtain ⟨va, vc, hVk, _, _, _⟩ := row_form hys0
                      have hnk := HN.out k hlt
                      obtain ⟨nk, hnk2⟩ : ∃ nk, nk = n k := ⟨_, rfl⟩
                      rw [hRk] at hRr
                      simp only [← hnk2] at hRk hVk hnk hac hRr hanone
                      obtain ⟨lb, lcc, hlo⟩ := Go.Joins.ownsRow_form hl6 (by omega)
                      cases hlo
                      have c0 : wr.cell? ⟨lb, k, none⟩ = some (.slice a nk c) := by
                        rw [World.ownsRow.cellAt hl6 k (by omega), range_get R K k hlt, hRk]
                      have hnews : ∀ (j : Nat) u, zs[j]? = some u → wr.cell? ((⟨wi.heap.size, 0, none⟩ : Addr).add j) = some u := fun j u hu => World.ownsRow.cells HMO.out rfl j u hu
                      have hzn : zs.length = 64 * 1 := HMO.out.1
                      have HRK := Lib.hid hRk
                      have HVK := Lib.hid hVk
                      have HNK := Lib.hid hnk2
                      have HP6 := Lib.hid hP6
                      have HV6 := Lib.hid hV6
                      have HL6 := Lib.hid hl6
                      have HG6 := Lib.hid hg6
                      have HRR := Lib.hid hRr
                      have HAS := Lib.hid hasome
                      have HAN := Lib.hid hanone
                      have HNW := Lib.hid hnews
                      have HZN := Lib.hid hzn
                      clear hRk hVk hnk2 hP6 hV6 hl6 hg6 hRr hasome hanone hys0 hnews hzn
                      have hnews := HNW.out
                      have hzn := HZN.out
                      by_cases hfit : nk + 64 ≤ c
                      rotate_left
                      focus
                        have hcl : ∀ b, a = some b → ∀ (j : Nat) u, (mks mkI k nk)[j]? = some u → wr.cell? (b.add j) = some u := fun b hb j u hu => by
                          have h1 := HRR.out
                          rw [hb, HNK.out] at h1
                          rcases Go.Joins.ownsRow_forms h1 with ⟨h2, _⟩ | ⟨g2, c2, h2⟩
                          · cases h2
                          · injection h2 with h3 _ _
                            injection h3 with h3
                            subst h3
                            exact World.ownsRow.cells h1 rfl j u (by rw [← HNK.out]; exact hu)
                        have hln := mks_len mkI_len k nk
                        have hvn := HAN.out
                        have HCL := Lib.hid hcl
                        have HLN := Lib.hid hln
                        go_wp2_with (at_builtin; refine wpList_append_grows _ rfl (.tmp 148) (.tmp 149) 22 rfl 3 i0 (.int .i64 0) 1 8 Tryz.underlying22 hi hz0 hz1 hz2 rfl (by decide) a nk c (mks mkI k nk) rfl hvn hln hcl ⟨wi.heap.size, 0, none⟩ 64 64 zs rfl hzn hnews HZL.out (by omega) (by unfold maxLen; omega) (by omega) ?_)
                        intro v3 w3 hown3 hg3
                        have HF1 := Lib.hid (show RowsAt B 3 1 K R n (fun j => mks mkI j (n j)) w3 from fun j hj => World.ownsRow.kept (HP6.out j hj) hg3 (by cases (R j).ownBlock <;> simp))
                        have HF2 := Lib.hid (show ∀ j, j < K → j ≠ k → ∃ ys : List Value, w3.ownsRow B 3 1 (V j) (n j + 64) (mks mkI j (n j) ++ ys) from fun j hj _ => by
                          obtain ⟨ys, hys⟩ := HV6.out j hj
                          exact ⟨ys, World.ownsRow.kept hys hg3 (by cases (V j).ownBlock <;> simp)⟩)
                        have HF3 := Lib.hid (Go.Joins.ownsRow_le hown3 (show B ≤ wr.heap.size by omega))
                        have HF4 := Lib.hid (show v3.ownBlock = (R k).ownBlock ∨ ∀ b, v3.ownBlock = some b → wr.heap.size ≤ b from Or.inr fun b hb => (hown3.lt b hb).1)
                        have HF5 := Lib.hid (World.ownsRow.kept HL6.out hg3 (by simp [Value.ownBlock]))
                        have HF6 := Lib.hid (World.ownsRow.kept HG6.out hg3 (by simp [Value.ownBlock]))
                        have HF7 := Lib.hid (show Kb (ofRows K R) B 3 w w3 from hb6.grownNone hg3 (by omega))
                        clear hown3 hg3 hcl hln hvn HCL HLN hfit c0 hnews hzn
                      rotate_left
                      focus
                        obtain ⟨rg, rfl⟩ := HAS.out (by omega)
                        have hRr := HRR.out
                        go_wp2_with (at_builtin; refine wpList_append_fits _ rfl (.tmp 148) (.tmp 149) 22 rfl B 3 i0 1 Tryz.underlying22 hi hz1 rg nk c (mks mkI k nk) rfl hRr ⟨wi.heap.size, 0, none⟩ 64 64 zs rfl hzn hnews HZL.out hfit ?_)
                        intro w3 hown3 hg3
                        have hRb : (R k).ownBlock = some rg := by rw [HRK.out]; rfl
                        have HF1 := Lib.hid (show RowsAt B 3 1 K R n (fun j => mks mkI j (n j)) w3 from fun j hj => by
                          by_cases e : j = k
                          · subst e
                            have h3 := own_prefix hown3 (show nk ≤ nk + 64 by omega)
                            rw [List.take_left' (mks_len mkI_len j nk)] at h3
                            show w3.ownsRow B 3 1 (R j) (n j) (mks mkI j (n j))
                            rw [HRK.out, ← HNK.out]
                            exact h3
                          · exact World.ownsRow.kept (HP6.out j hj) hg3 (by rw [← hRb]; exact (HS.out j k hj hlt e).ne))
                        have HF2 := Lib.hid (show ∀ j, j < K → j ≠ k → ∃ ys : List Value, w3.ownsRow B 3 1 (V j) (n j + 64) (mks mkI j (n j) ++ ys) from fun j hj e => by
                          obtain ⟨ys, hys⟩ := HV6.out j hj
                          exact ⟨ys, World.ownsRow.kept hys hg3 (by rw [← hRb]; exact (HVR.out j k hj hlt e).ne)⟩)
                        have HF3 := Lib.hid hown3
                        have HF4 := Lib.hid (show (Value.slice (some ⟨rg, 0, none⟩) (nk + 64) c).ownBlock = (R k).ownBlock ∨ ∀ b, (Value.slice (some ⟨rg, 0, none⟩) (nk + 64) c).ownBlock = some b → wr.heap.size ≤ b from Or.inl hRb.symm)
                        have HF5 := Lib.hid (World.ownsRow.kept HL6.out hg3 (own_apart HL6.out hRr (by decide)))
                        have HF6 := Lib.hid (World.ownsRow.kept HG6.out hg3 (own_apart HG6.out hRr (by decide)))
                        have HF7 := Lib.hid (show Kb (ofRows K R) B 3 w w3 from hb6.grownRow hg3 (by omega) hRr (hRr.lt rg rfl).1 (Or.inl ⟨k, hlt, hRb⟩))
                        clear hown3 hg3 hfit c0 hnews hzn hRr hRb
                        generalize (Value.slice (some ⟨rg, 0, none⟩) (nk + 64) c) = v3 at HF3 HF4 ⊢
                      all_goals
                        obtain ⟨va3, vc3, hv3, _, _, _⟩ := row_form HF3.out
                        subst hv3
                        have e1 : w3.cell? ⟨wo.heap.size, k, none⟩ = some (.slice va (nk + 64) vc) := by
                          rw [World.ownsRow.cellAt HF6.out k (by omega), range_get V K k hlt, HVK.out]
                        have f1 : w3.frozen? ⟨wo.heap.size, k, none⟩ = false := World.ownsRow.frozenAt HF6.out _
                        have hst := World.ownsRow.stored HF6.out k (.slice va3 (nk + 64) vc3)
                        rw [range_set] at hst
                        have HST := Lib.hid hst
                        clear hst
                        go_wp2_with fail
                        go_roundw
                        case rel =>
                          have hg := HST.out.2
                          have hGB : B ≤ wo.heap.size := (HF6.out.lt _ rfl).1
                          refine ⟨k + 1, fun j => if j = k then .slice va3 (nk + 64) vc3 else V j, by omega, by go_num, fun j hj => ?_, fun j hj => ?_, fun i j hi hj hij => ?_, fun i j hi hj hij => ?_, World.ownsRow.kept HF5.out hg HLG.out.ne, HST.out.1, HF7.out.grownNew hg (by have := HF7.out.size; omega) hwo hGB⟩
                          · exact World.ownsRow.kept (HF1.out j hj) hg (own_apart (HF1.out j hj) HF6.out (by decide))
                          · by_cases e : j = k
                            · subst e
                              simp only [if_true]
                              refine ⟨zs, ?_⟩
                              rw [← HNK.out]
                              exact World.ownsRow.kept HF3.out hg (own_apart HF3.out HF6.out (by decide))
                            · simp only [e, if_false]
                              obtain ⟨ys, hys⟩ := HF2.out j hj e
                              exact ⟨ys, World.ownsRow.kept hys hg (own_apart hys HF6.out (by decide))⟩
                          · by_cases e : i = k
                            · subst e
                              simp only [if_true]
                              intro b hb hb'
                              rcases HF4.out with h1 | h1
                              · exact HS.out i j hlt hj hij b (h1 ▸ hb) hb'
                              · have := h1 b hb
                                have := ((HP6.out j hj).lt b hb').2
                                omega
                            · simp only [e, if_false]
                              exact HVR.out i j hi hj hij
                          · by_cases e : i = k
                            · have e2 : ¬ j = k := fun h => hij (e.trans h.symm)
                              subst e
                              simp only [if_true, e2, if_false]
                              intro b hb hb'
                              rcases HF4.out with h1 | h1
                              · exact HVR.out j i hj hlt (Ne.symm hij) b hb' (h1 ▸ hb)
                              · have := h1 b hb
                                obtain ⟨ys, hys⟩ := HV6.out j hj
                                have := (hys.lt b hb').2
                                omega
                            · by_cases e2 : j = k
                              · subst e2
                                simp only [if_true, e, if_false]
                                intro b hb hb'
                                rcases HF4.out with h1 | h1
                                · exact HVR.out i j hi hlt hij b hb (h1 ▸ hb')
                                · have := h1 b hb'
                                  obtain ⟨ys, hys⟩ := HV6.out i hi
                                  have := (hys.lt b hb).2
                                  omega
                              · simp only [e, e2, if_false]
                                exact HVV.out i j hi hj hij
                        case measure => simp [intOf]; omega
                · obtain rfl : K = k := by omega
                  obtain ⟨wc, rfl⟩ : ∃ wc : World, wc = wr := ⟨_, rfl⟩
                  have hgl := (HGW.out.lt _ rfl).2
                  clear hmk
                  go_wp2_with fail
                  go_loopw [14, 15] (fun i _ wr => ∃ k : Nat, k ≤ K ∧ i = .int .i64 k ∧ Below wc.heap.size wc wr) (fun i _ _ => K - (intOf i).toNat)
                  case atStart => exact ⟨0, by omega, rfl, Below.refl _ _⟩
                  case round =>
                    obtain ⟨k, hk, rfl, hb5⟩ := hrel
                    by_cases hlt : k < K
                    · obtain ⟨a, c, hRk, _, hasome, hac⟩ := row_form (HP.out k hlt)
                      obtain ⟨ys, hVr⟩ := HV.out k hlt
                      obtain ⟨va, vc, hVk, _, hvsome, hvc⟩ := row_form hVr
                      have hnk := HN.out k hlt
                      have hRr := HP.out k hlt
                      obtain ⟨nk, hnk2⟩ : ∃ nk, nk = n k := ⟨_, rfl⟩
                      rw [hRk] at hRr
                      rw [hVk] at hVr
                      simp only [← hnk2] at hRk hVk hnk hac hvc hVr hRr
                      obtain ⟨lb, lcc, hlo⟩ := Go.Joins.ownsRow_form HLW.out (by omega)
                      cases hlo
                      have cl : wc.cell? ⟨lb, k, none⟩ = some (.slice a nk c) := by
                        rw [World.ownsRow.cellAt HLW.out k (by omega), range_get R K k hlt, hRk]
                      have cg : wc.cell? ⟨wo.heap.size, k, none⟩ = some (.slice va (nk + 64) vc) := by
                        rw [World.ownsRow.cellAt HGW.out k (by omega), range_get V K k hlt, hVk]
                      have hll := (HLW.out.lt lb rfl).2
                      have HVR2 := Lib.hid hVr
                      have HRR2 := Lib.hid hRr
                      have HVS := Lib.hid hvsome
                      have HAS := Lib.hid hasome
                      have i1 : (k : Int) < K := by omega
                      clear hRk hVk hnk2 hVr hRr hvsome hasome
                      go_wp2_with fail
                      go_loopw [15] (fun i wr => ∃ q : Nat, q ≤ nk ∧ i = .int .i64 q ∧ Below wc.heap.size wc wr) (fun i _ => nk - (intOf i).toNat)
                      case atStart => exact ⟨0, by omega, rfl, hb5⟩
                      case round =>
                        clear hb5
                        obtain ⟨q, hq, rfl, hb5⟩ := hrel
                        have cl5 : wr.cell? ⟨lb, k, none⟩ = some (.slice a nk c) := (hb5.cell (p := ⟨lb, k, none⟩) hll).trans cl
                        by_cases hltq : q < nk
                        · obtain ⟨vg, rfl⟩ := HVS.out (by omega)
                          obtain ⟨rg, rfl⟩ := HAS.out (by omega)
                          have hvg := (HVR2.out.lt vg rfl).2
                          have hrg := (HRR2.out.lt rg rfl).2
                          obtain ⟨mm, hmm⟩ : ∃ mm, markN k q = mm := ⟨_, rfl⟩
                          have HMM := Lib.hid hmm
                          clear hmm
                          have dv0 : wc.cell? ⟨vg, q, none⟩ = some (.int .i64 (mm)) := by
                            rw [World.ownsRow.cellAt HVR2.out _ (by omega), List.getElem?_append_left (by have := mks_len mkI_len k nk; omega)]
                            have := mks_get mkI_len k (nk) q 0 (by omega) (by decide)
                            simpa [mkI, HMM.out] using this
                          have dr0 : wc.cell? ⟨rg, q, none⟩ = some (.int .i64 (mm)) := by
                            rw [World.ownsRow.cellAt HRR2.out _ (by omega)]
                            have := mks_get mkI_len k (nk) q 0 (by omega) (by decide)
                            simpa [mkI, HMM.out] using this
                          have k0 : ∀ x : Calm wc.heap.size wc, x.1.cell? ⟨wo.heap.size, k, none⟩ = some (.slice (some ⟨vg, 0, none⟩) (nk + 64) vc) := fun x => x.cell cg hgl
                          have k10 : ∀ x : Calm wc.heap.size wc, x.1.cell? ⟨vg, q, none⟩ = some (.int .i64 (mm)) := fun x => x.cell dv0 hvg
                          have k2 : ∀ x : Calm wc.heap.size wc, x.1.cell? ⟨lb, k, none⟩ = some (.slice (some ⟨rg, 0, none⟩) nk c) := fun x => x.cell cl hll
                          have k30 : ∀ x : Calm wc.heap.size wc, x.1.cell? ⟨rg, q, none⟩ = some (.int .i64 (mm)) := fun x => x.cell dr0 hrg
                          have i2 : (q : Int) < nk := by omega
                          have i3 : (q : Int) < (nk : Int) + 64 := by omega
                          have i4 : (q : Int) < ((nk + 64 : Nat) : Int) := by omega
                          clear dv0 dr0 cl cg
                          go_wp2_with fail
                          clear cl5
                          refine wp_region_calm (B := wc.heap.size) (W0 := wc) hb5 (by kernel_rfl) (by kernel_rfl) ?_
                          repeat (go_big_quiet_step (first | (go_at_call 80; exact Calm.call (Nat.le_refl _) (markI_is _ _ k q mm HMM.out rfl rfl (by omega) (by omega) _))))
                          refine wpQuiet_nil ?_
                          intro w6 hb6
                          clear k0 k10 k2 k30
                          go_wp2_with fail
                          go_roundw
                          case rel => exact ⟨q + 1, by omega, by go_num, hb6⟩
                          case measure => simp [intOf]; omega
                        · obtain rfl : q = nk := by omega
                          go_wp2_with fail
                          go_roundw
                          case rel => exact ⟨k + 1, by omega, by go_num, hb5⟩
                          case measure => simp [intOf]; omega
                    · obtain rfl : K = k := by omega
                      go_wp2_with fail
                      go_ret
                      exact ⟨rfl, hbel.trans_below hb5 (by omega)⟩
end Go.Proofs.YtejgebpdipnhmaaGreatDoor
