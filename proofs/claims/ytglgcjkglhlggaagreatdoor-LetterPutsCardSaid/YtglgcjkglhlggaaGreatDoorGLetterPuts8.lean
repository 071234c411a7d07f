/- Right of letter. Conditions: the letter's parts are not too great. -/
import Derived.Test.YtglgcjkglhlggaaGreatDoorGLetterPuts7
import Derived.Deep.DeepCutAuto
import Derived.Test.YtglgcjkglhlggaaGreatDoorGLetterPuts2
import Derived.Test.YtglgcjkglhlggaaGreatDoorGLetterPuts1
import Derived.Test.YtglgcjkglhlggaaGreatDoorGLetterPuts0
import Derived.Test.YtglgcjkglhlggaaGreatDoorGLetterPuts6
set_option linter.unusedVariables false
set_option linter.unusedSimpArgs false
namespace Go.Proofs.YtglgcjkglhlggaaGreatDoor
open Go.RowKit
set_option maxRecDepth 20000
theorem leftT_form (l : Lt) : (if l.kind = 1 then (Value.agg #[.int .u8 l.kind, .int .i64 l.fr, .int .i64 l.tov, .int .i64 l.term, .int .i64 0, .int .i64 0, .bool l.ok, .int .i64 l.commit, .int .i64 l.round, .slice l.eo l.es.length l.ecap, .slice l.vo l.vs.length l.vcap, .slice l.io l.im.length l.icap], true)
      else if l.kind = 2 then (.agg #[.int .u8 l.kind, .int .i64 l.fr, .int .i64 l.tov, .int .i64 l.term, .int .i64 l.index, .int .i64 l.was, .bool false, .int .i64 l.commit, .int .i64 l.round, .slice l.eo l.es.length l.ecap, .slice l.vo l.vs.length l.vcap, .slice l.io l.im.length l.icap], true)
      else if l.kind = 3 then (.agg #[.int .u8 l.kind, .int .i64 l.fr, .int .i64 l.tov, .int .i64 l.term, .int .i64 0, .int .i64 0, .bool l.ok, .int .i64 0, .int .i64 0, .slice none 0 0, .slice l.vo l.vs.length l.vcap, .slice l.io l.im.length l.icap], true)
      else if l.kind = 5 then (.agg #[.int .u8 l.kind, .int .i64 l.fr, .int .i64 l.tov, .int .i64 l.term, .int .i64 0, .int .i64 0, .bool l.ok, .int .i64 l.commit, .int .i64 0, .slice l.eo l.es.length l.ecap, .slice none 0 0, .slice none 0 0], true)
      else if l.kind = 4 then (.agg #[.int .u8 l.kind, .int .i64 l.fr, .int .i64 l.tov, .int .i64 l.term, .int .i64 0, .int .i64 l.was, .bool false, .int .i64 l.commit, .int .i64 0, .slice l.eo l.es.length l.ecap, .slice l.vo l.vs.length l.vcap, .slice l.io l.im.length l.icap], true)
      else if l.kind = 6 then (.agg #[.int .u8 l.kind, .int .i64 l.fr, .int .i64 l.tov, .int .i64 l.term, .int .i64 0, .int .i64 l.was, .bool l.ok, .int .i64 l.commit, .int .i64 0, .slice l.eo l.es.length l.ecap, .slice l.vo l.vs.length l.vcap, .slice l.io l.im.length l.icap], true)
      else (.agg #[.int .u8 l.kind, .int .i64 l.fr, .int .i64 l.tov, .int .i64 l.term, .int .i64 l.index, .int .i64 l.was, .bool l.ok, .int .i64 l.commit, .int .i64 l.round, .slice l.eo l.es.length l.ecap, .slice l.vo l.vs.length l.vcap, .slice l.io l.im.length l.icap], false)) = (ltVal (leftT l).1, (leftT l).2) := by
  unfold leftT
  repeat' split
  all_goals rfl
def numsOk (l : LtP) : Bool := [l.term, l.was, l.index, l.commit, l.round].all withinN
/-- What a letter must meet, its kind aside. -/
def partsOk (l : LtP) : Bool := numsOk l && (entriesR l.es && (decide (l.vs.length = 0) || votersB l.vs))
theorem rightL_eq {l : LtP} (h : 1 ≤ l.fr ∧ l.fr ≤ 9 ∧ 1 ≤ l.tov ∧ l.tov ≤ 9) : rightL l = (partsOk l && ((leftL l).2 && noneL (leftL l).1)) := by
  unfold rightL
  rw [if_neg (by omega)]
  show (if partsOk l = false then false else _) = _
  cases partsOk l <;> rfl
theorem rightL_no {l : LtP} (h : l.fr < 1 ∨ 9 < l.fr ∨ l.tov < 1 ∨ 9 < l.tov) : rightL l = false := by
  unfold rightL
  rw [if_pos h]
set_option maxHeartbeats 8000000 in
theorem lright_any (l : Lt) (w : World) (hx : ltSub w w.heap.size l) (hf : LtFine l) (g : Bool) (hg : rightL l.plain = g) :
    Calls Tryz.prog 9 #[ltVal l] w fun e w' => e = .returned (.bool g) ∧ Below w.heap.size w w' := by
  obtain ⟨P, hP⟩ := pair_of g
  rw [hP] at hg ⊢
  have HLF := Lib.hid (leftT_form l)
  have HLP := Lib.hid (leftT_plain l)
  obtain ⟨x, hxx⟩ : ∃ x, (leftT l).1 = x := ⟨_, rfl⟩
  obtain ⟨B, hB⟩ := pair_of (leftT l).2
  rw [hxx, hB] at HLF HLP
  have HG := Lib.hid hg
  have HX := Lib.hid hx
  have HFN := Lib.hid hf
  clear hx hf hg hxx hB hP
  obtain ⟨kd, f, t, tm, ix, ws, ok, cm, rd, eo, es, ec, vo, vs, vc, io, ib, ic⟩ := l
  obtain ⟨OK, hOK⟩ := pair_of ok
  subst hOK
  obtain ⟨en, hen⟩ : ∃ en, es.length = en := ⟨_, rfl⟩
  obtain ⟨vn, hvn⟩ : ∃ vn, vs.length = vn := ⟨_, rfl⟩
  obtain ⟨im, him⟩ : ∃ im, ib.length = im := ⟨_, rfl⟩
  have hval : ltVal ⟨kd, f, t, tm, ix, ws, OK.1, cm, rd, eo, es, ec, vo, vs, vc, io, ib, ic⟩ = .agg #[.int .u8 kd, .int .i64 f, .int .i64 t, .int .i64 tm, .int .i64 ix, .int .i64 ws, .bool OK.1, .int .i64 cm, .int .i64 rd, .slice eo en ec, .slice vo vn vc, .slice io im ic] := by rw [← hen, ← hvn, ← him]; rfl
  rw [hval]
  have hlf := HLF.out
  dsimp only at hlf
  rw [hen, hvn, him] at hlf
  have HLF2 := Lib.hid hlf
  have HEN := Lib.hid hen
  have HVN := Lib.hid hvn
  have HIM := Lib.hid him
  obtain ⟨C, hC⟩ := pair_of (!partsOk (Lt.plain ⟨kd, f, t, tm, ix, ws, OK.1, cm, rd, eo, es, ec, vo, vs, vc, io, ib, ic⟩))
  have HC := Lib.hid hC
  have hbx := (Below.refl w.heap.size w).alloc (Nat.le_refl _) (.cells #[.int .u8 kd, .int .i64 f, .int .i64 t, .int .i64 tm, .int .i64 ix, .int .i64 ws, .bool OK.1, .int .i64 cm, .int .i64 rd, .slice eo en ec, .slice vo vn vc, .slice io im ic] 27)
  have hkx := heap_alloc_new w (.cells #[.int .u8 kd, .int .i64 f, .int .i64 t, .int .i64 tm, .int .i64 ix, .int .i64 ws, .bool OK.1, .int .i64 cm, .int .i64 rd, .slice eo en ec, .slice vo vn vc, .slice io im ic] 27)
  have hs0 : (w.alloc (.cells #[.int .u8 kd, .int .i64 f, .int .i64 t, .int .i64 tm, .int .i64 ix, .int .i64 ws, .bool OK.1, .int .i64 cm, .int .i64 rd, .slice eo en ec, .slice vo vn vc, .slice io im ic] 27)).heap.size = w.heap.size + 1 := by simp
  have HBX := Lib.hid hbx
  have HKX := Lib.hid hkx
  have HS0 := Lib.hid hs0
  clear hen hvn him hC hbx hkx hs0 hval hlf HLF
  go_enter Tryz.func9, Tryz.ntmps9
  by_cases f1 : f < 1
  · have hno := Lib.hid (show P.1 = false by rw [← HG.out]; exact rightL_no (Or.inl f1))
    go_wp2_with fail
    go_ret
    exact ⟨by rw [hno.out]; rfl, HBX.out⟩
  by_cases f2 : 9 < f
  · have hno := Lib.hid (show P.1 = false by rw [← HG.out]; exact rightL_no (Or.inr (Or.inl f2)))
    go_wp2_with fail
    go_ret
    exact ⟨by rw [hno.out]; rfl, HBX.out⟩
  by_cases t1 : t < 1
  · have hno := Lib.hid (show P.1 = false by rw [← HG.out]; exact rightL_no (Or.inr (Or.inr (Or.inl t1))))
    go_wp2_with fail
    go_ret
    exact ⟨by rw [hno.out]; rfl, HBX.out⟩
  by_cases t2 : 9 < t
  · have hno := Lib.hid (show P.1 = false by rw [← HG.out]; exact rightL_no (Or.inr (Or.inr (Or.inr t2))))
    go_wp2_with fail
    go_ret
    exact ⟨by rw [hno.out]; rfl, HBX.out⟩
  have HG2 := Lib.hid (HG.out.symm.trans (rightL_eq (show 1 ≤ f ∧ f ≤ 9 ∧ 1 ≤ t ∧ t ≤ 9 by omega)))
  go_upto_region 3 with fail
  have hbx := HBX.out
  have hkx := HKX.out
  have hs0 := HS0.out
  clear HBX HKX HS0 HG
  generalize w.alloc (.cells #[.int .u8 kd, .int .i64 f, .int .i64 t, .int .i64 tm, .int .i64 ix, .int .i64 ws, .bool OK.1, .int .i64 cm, .int .i64 rd, .slice eo en ec, .slice vo vn vc, .slice io im ic] 27) = w0 at hbx hkx hs0 ⊢
  have HCC := Lib.hid (fun w' (h : Below (w.heap.size + 1) w0 w') (i : Nat) => (h.cell (p := ⟨w.heap.size, i, none⟩) (Nat.lt_succ_self _)).trans (Go.Joins.cell_of_block hkx i))
  have hz0 : w.heap.size + 1 ≤ w0.heap.size := Nat.le_of_eq hs0.symm
  clear hkx hs0
  go_cut [53] (fun c wq => c = .bool C.1 ∧ w.heap.size + 1 ≤ wq.heap.size ∧ Below (w.heap.size + 1) w0 wq)
  case first =>
    have hb0 := Below.refl (w.heap.size + 1) w0
    have c3 : w0.cell? ⟨w.heap.size, 3, none⟩ = some (.int .i64 tm) := HCC.out _ hb0 3
    have c4 : w0.cell? ⟨w.heap.size, 4, none⟩ = some (.int .i64 ix) := HCC.out _ hb0 4
    have c5 : w0.cell? ⟨w.heap.size, 5, none⟩ = some (.int .i64 ws) := HCC.out _ hb0 5
    have c7 : w0.cell? ⟨w.heap.size, 7, none⟩ = some (.int .i64 cm) := HCC.out _ hb0 7
    have c8 : w0.cell? ⟨w.heap.size, 8, none⟩ = some (.int .i64 rd) := HCC.out _ hb0 8
    have hba := (Below.refl w0.heap.size w0).alloc (Nat.le_refl _) (.cells #[.int .i64 tm, .int .i64 ws, .int .i64 ix, .int .i64 cm, .int .i64 rd] 3)
    have HBA := Lib.hid hba
    clear hba hb0
    go_wp2_with fail
    obtain ⟨PW, hPW⟩ := pair_of ([tm, ws, ix, cm, rd].all withinN)
    have HPW := Lib.hid hPW
    refine (lwithin_any (some ⟨w0.heap.size, 0, none⟩) 5 5 [tm, ws, ix, cm, rd] (w0.alloc (.cells #[.int .i64 tm, .int .i64 ws, .int .i64 ix, .int .i64 cm, .int .i64 rd] 3)) (w0.heap.size + 1) rfl (nums_new w0 [tm, ws, ix, cm, rd] _ rfl) (by decide) PW.1 hPW).mono ?_
    clear hPW c3 c4 c5 c7 c8
    rintro e wz ⟨rfl, rfl⟩
    have hbz := (Below.refl (w.heap.size + 1) w0).trans (HBA.out.mono (by omega))
    have hsz : w.heap.size + 1 ≤ (w0.alloc (.cells #[.int .i64 tm, .int .i64 ws, .int .i64 ix, .int .i64 cm, .int .i64 rd] 3)).heap.size := by simp; omega
    clear HBA
    generalize w0.alloc (.cells #[.int .i64 tm, .int .i64 ws, .int .i64 ix, .int .i64 cm, .int .i64 rd] 3) = wz at hbz hsz ⊢
    cases hpw : PW.1 with
    | false =>
      have hcc := Lib.hid (show C.1 = true by
        rw [← HC.out]
        have h1 := HPW.out
        rw [hpw] at h1
        unfold partsOk numsOk Lt.plain
        dsimp only
        rw [h1]
        rfl)
      clear hpw
      go_wp2_with fail
      go_meet
      exact ⟨by first | rfl | rw [hcc.out], hsz, hbz⟩
    | true =>
      have hn1 := Lib.hid (show numsOk (Lt.plain ⟨kd, f, t, tm, ix, ws, OK.1, cm, rd, eo, es, ec, vo, vs, vc, io, ib, ic⟩) = true by
        have h1 := HPW.out
        rw [hpw] at h1
        exact h1)
      have c9 : wz.cell? ⟨w.heap.size, 9, none⟩ = some (.slice eo en ec) := HCC.out _ hbz 9
      clear hpw
      go_wp2_with fail
      obtain ⟨PE, hPE⟩ := pair_of (entriesR (es.map En.plain))
      have HPE := Lib.hid hPE
      refine (lentries_any eo en ec es wz w.heap.size HEN.out (HX.out.1.below enSub_kept (hbx.trans (hbz.mono (Nat.le_succ _))) (Nat.le_refl _)) (by omega) HFN.out.es (by have := HFN.out.en; rw [← HEN.out]; dsimp only at this; omega) PE.1 hPE).mono ?_
      clear hPE c9
      rintro e wy ⟨rfl, hby⟩
      have hbz2 := hbz.trans (hby.mono hsz)
      have hsy := Nat.le_trans hsz hby.size
      clear hby hbz hsz
      cases hpe : PE.1 with
      | false =>
        have hcc := Lib.hid (show C.1 = true by
          rw [← HC.out]
          have h1 := HPE.out
          rw [hpe] at h1
          unfold partsOk
          rw [hn1.out]
          unfold Lt.plain
          dsimp only
          rw [h1]
          rfl)
        clear hpe
        go_wp2_with fail
        go_meet
        exact ⟨by first | rfl | rw [hcc.out], hsy, hbz2⟩
      | true =>
        have c10 : wy.cell? ⟨w.heap.size, 10, none⟩ = some (.slice vo vn vc) := HCC.out _ hbz2 10
        have hcv := Lib.hid (show C.1 = !(decide (vn = 0) || votersB vs) by
          rw [← HC.out, ← HVN.out]
          have h1 := HPE.out
          rw [hpe] at h1
          unfold partsOk
          rw [hn1.out]
          unfold Lt.plain
          dsimp only
          rw [h1]
          rfl)
        clear hpe
        by_cases hv0 : vn = 0
        · have hcc := Lib.hid (show C.1 = false by rw [hcv.out]; simp [hv0])
          subst hv0
          go_wp2_with fail
          go_meet
          exact ⟨by first | rfl | rw [hcc.out], hsy, hbz2⟩
        · have j1 : (0 : Int) < vn := by omega
          have j2 : decide ((0 : Int) < vn) = true := decide_eq_true j1
          have j3 : 0 < vn := by omega
          obtain ⟨PV, hPV⟩ := pair_of (votersB vs)
          have HPV := Lib.hid hPV
          have hcc := Lib.hid (show C.1 = !PV.1 by rw [hcv.out, ← hPV]; simp [hv0])
          clear hPV
          go_wp2_with fail
          refine (lvoters_any vo vn vc vs wy w.heap.size HVN.out (HX.out.2.1.below noSub_kept (hbx.trans (hbz2.mono (Nat.le_succ _))) (Nat.le_refl _)) (by have := HFN.out.vn; rw [← HVN.out]; dsimp only at this; omega) PV.1 HPV.out).mono ?_
          rintro e wv ⟨rfl, rfl⟩
          cases hpv : PV.1 with
          | false =>
            rw [hpv] at hcc
            clear hpv
            go_wp2_with fail
            go_meet
            exact ⟨by first | rfl | (rw [hcc.out]; rfl), hsy, hbz2⟩
          | true =>
            rw [hpv] at hcc
            clear hpv
            go_wp2_with fail
            go_meet
            exact ⟨by first | rfl | (rw [hcc.out]; rfl), hsy, hbz2⟩
  case rest =>
    obtain ⟨rfl, hsq, hbq⟩ := hcut
    cases hc1 : C.1 with
    | true =>
      have hno := Lib.hid (show P.1 = false by
        have h1 := HC.out
        rw [hc1] at h1
        rw [HG2.out]
        have h2 : partsOk (Lt.plain ⟨kd, f, t, tm, ix, ws, OK.1, cm, rd, eo, es, ec, vo, vs, vc, io, ib, ic⟩) = false := by simpa using h1
        rw [h2]
        rfl)
      clear hc1
      go_wp2_with fail
      go_ret
      exact ⟨by rw [hno.out]; rfl, hbx.trans (hbq.mono (Nat.le_succ _))⟩
    | false =>
      have c0 : wc.cell? ⟨w.heap.size, 0, none⟩ = some (.int .u8 kd) := HCC.out _ hbq 0
      have c1 : wc.cell? ⟨w.heap.size, 1, none⟩ = some (.int .i64 f) := HCC.out _ hbq 1
      have c2 : wc.cell? ⟨w.heap.size, 2, none⟩ = some (.int .i64 t) := HCC.out _ hbq 2
      have c3 : wc.cell? ⟨w.heap.size, 3, none⟩ = some (.int .i64 tm) := HCC.out _ hbq 3
      have c4 : wc.cell? ⟨w.heap.size, 4, none⟩ = some (.int .i64 ix) := HCC.out _ hbq 4
      have c5 : wc.cell? ⟨w.heap.size, 5, none⟩ = some (.int .i64 ws) := HCC.out _ hbq 5
      have c6 : wc.cell? ⟨w.heap.size, 6, none⟩ = some (.bool OK.1) := HCC.out _ hbq 6
      have c7 : wc.cell? ⟨w.heap.size, 7, none⟩ = some (.int .i64 cm) := HCC.out _ hbq 7
      have c8 : wc.cell? ⟨w.heap.size, 8, none⟩ = some (.int .i64 rd) := HCC.out _ hbq 8
      have c9 : wc.cell? ⟨w.heap.size, 9, none⟩ = some (.slice eo en ec) := HCC.out _ hbq 9
      have c10 : wc.cell? ⟨w.heap.size, 10, none⟩ = some (.slice vo vn vc) := HCC.out _ hbq 10
      have c11 : wc.cell? ⟨w.heap.size, 11, none⟩ = some (.slice io im ic) := HCC.out _ hbq 11
      have HP2 := Lib.hid (show P.1 = (B.1 && noneL x.plain) by
        have h1 := HC.out
        rw [hc1] at h1
        have h2 : partsOk (Lt.plain ⟨kd, f, t, tm, ix, ws, OK.1, cm, rd, eo, es, ec, vo, vs, vc, io, ib, ic⟩) = true := by simpa using h1
        rw [HG2.out, h2, HLP.out.1, HLP.out.2]
        rfl)
      clear hc1
      go_wp2_with fail
      refine (lleft_any kd f t tm ix ws OK.1 cm rd eo en ec vo vn vc io im ic wc _ _ HLF2.out).mono ?_
      rintro e w2 ⟨rfl, hb2⟩
      have hb3 := Lib.hid ((hbx.trans (hbq.mono (Nat.le_succ _))).trans (hb2.mono (by omega)))
      have hs2 := hb2.size
      clear hb2 c0 c1 c2 c3 c4 c5 c6 c7 c8 c9 c10 c11 HX HFN HG2 HC HCC HLP HLF2 hbq HEN HVN HIM
      obtain ⟨xk, xf, xt, xtm, xi, xw, xo, xc, xr, xeo, xes, xec, xvo, xvs, xvc, xio, xib, xic⟩ := x
      obtain ⟨XO, hXO⟩ := pair_of xo
      subst hXO
      obtain ⟨xe, hxe⟩ : ∃ xe, xes.length = xe := ⟨_, rfl⟩
      obtain ⟨xv, hxv⟩ : ∃ xv, xvs.length = xv := ⟨_, rfl⟩
      obtain ⟨xm, hxm⟩ : ∃ xm, xib.length = xm := ⟨_, rfl⟩
      have HP := Lib.hid (show P.1 = (B.1 && (decide (xi = 0) && (decide (xw = 0) && (!XO.1 && (decide (xc = 0) && (decide (xr = 0) && (decide (xe = 0) && (decide (xv = 0) && decide (xm = 0))))))))) by
        rw [HP2.out, ← hxe, ← hxv, ← hxm]
        unfold noneL Lt.plain
        dsimp only
        rw [List.length_map])
      clear HP2
      simp only [ltVal]
      rw [hxe, hxv, hxm]
      clear hxe hxv hxm
      have hb4 := Lib.hid (hb3.out.trans (((Below.refl w2.heap.size w2).alloc (Nat.le_refl _) (.cells #[.int .u8 xk, .int .i64 xf, .int .i64 xt, .int .i64 xtm, .int .i64 xi, .int .i64 xw, .bool XO.1, .int .i64 xc, .int .i64 xr, .slice xeo xe xec, .slice xvo xv xvc, .slice xio xm xic] 27)).mono (by omega)))
      clear hb3
      cases hB1 : B.1 with
      | false =>
        rw [hB1] at HP
        clear hB1
        have hno := Lib.hid (show P.1 = false by rw [HP.out]; rfl)
        go_wp2_with fail
        go_ret
        exact ⟨by rw [hno.out]; rfl, hb4.out⟩
      | true =>
      rw [hB1] at HP
      clear hB1
      by_cases hxi : xi = 0
      rotate_left
      · have j2 : decide (xi = 0) = false := decide_eq_false hxi
        have hno := Lib.hid (show P.1 = false by rw [HP.out]; simp [hxi])
        go_wp2_with fail
        go_ret
        exact ⟨by rw [hno.out]; rfl, hb4.out⟩
      subst hxi
      by_cases hxw : xw = 0
      rotate_left
      · have j2 : decide (xw = 0) = false := decide_eq_false hxw
        have hno := Lib.hid (show P.1 = false by rw [HP.out]; simp [hxw])
        go_wp2_with fail
        go_ret
        exact ⟨by rw [hno.out]; rfl, hb4.out⟩
      subst hxw
      cases hXO : XO.1 with
      | true =>
        rw [hXO] at hb4
        have hno := Lib.hid (show P.1 = false by rw [HP.out, hXO]; simp)
        clear hXO
        go_wp2_with fail
        go_ret
        exact ⟨by rw [hno.out]; rfl, hb4.out⟩
      | false =>
      rw [hXO] at HP hb4
      clear hXO
      by_cases hxc : xc = 0
      rotate_left
      · have j2 : decide (xc = 0) = false := decide_eq_false hxc
        have hno := Lib.hid (show P.1 = false by rw [HP.out]; simp [hxc])
        go_wp2_with fail
        go_ret
        exact ⟨by rw [hno.out]; rfl, hb4.out⟩
      subst hxc
      by_cases hxr : xr = 0
      rotate_left
      · have j2 : decide (xr = 0) = false := decide_eq_false hxr
        have hno := Lib.hid (show P.1 = false by rw [HP.out]; simp [hxr])
        go_wp2_with fail
        go_ret
        exact ⟨by rw [hno.out]; rfl, hb4.out⟩
      subst hxr
      by_cases hxe : xe = 0
      rotate_left
      · have j1 : ¬ (xe : Int) = 0 := by omega
        have j2 : decide ((xe : Int) = 0) = false := decide_eq_false j1
        have j3 : ((xe : Int) == 0) = false := by simpa using hxe
        have hno := Lib.hid (show P.1 = false by rw [HP.out]; simp [hxe])
        go_wp2_with fail
        go_ret
        exact ⟨by rw [hno.out]; rfl, hb4.out⟩
      subst hxe
      by_cases hxv : xv = 0
      rotate_left
      · have j1 : ¬ (xv : Int) = 0 := by omega
        have j2 : decide ((xv : Int) = 0) = false := decide_eq_false j1
        have j3 : ((xv : Int) == 0) = false := by simpa using hxv
        have hno := Lib.hid (show P.1 = false by rw [HP.out]; simp [hxv])
        go_wp2_with fail
        go_ret
        exact ⟨by rw [hno.out]; rfl, hb4.out⟩
      subst hxv
      by_cases hxm : xm = 0
      rotate_left
      · have j1 : ¬ (xm : Int) = 0 := by omega
        have j2 : decide ((xm : Int) = 0) = false := decide_eq_false j1
        have j3 : ((xm : Int) == 0) = false := by simpa using hxm
        have hno := Lib.hid (show P.1 = false by rw [HP.out]; simp [hxm])
        go_wp2_with fail
        go_ret
        exact ⟨by rw [hno.out]; rfl, hb4.out⟩
      subst hxm
      have hyes := Lib.hid (show P.1 = true by rw [HP.out]; rfl)
      go_wp2_with fail
      go_ret
      exact ⟨by rw [hyes.out]; rfl, hb4.out⟩
end Go.Proofs.YtglgcjkglhlggaaGreatDoor
/- Bytes of a call's own, and an append to them. Conditions: as each says. -/
namespace Go.Proofs.YtglgcjkglhlggaaGreatDoor
open Go.RowKit
set_option maxRecDepth 20000
/-- Bytes of a call's own. -/
structure BOwn (w : World) (base : Nat) (a : Option Addr) (n c : Nat) (L : List Int) : Prop where
  len : L.length = n
  row : w.ownsRow base 5 1 (.slice a n c) n (L.map bv)
theorem BOwn.below {w w' : World} {base n c B : Nat} {a : Option Addr} {L : List Int} (h : BOwn w base a n c L) (hb : Below B w w') (hB : w.heap.size ≤ B) : BOwn w' base a n c L := ⟨h.len, own_below h.row hb hB⟩
theorem BOwn.le {w : World} {base base' n c : Nat} {a : Option Addr} {L : List Int} (h : BOwn w base a n c L) (hB : base' ≤ base) : BOwn w base' a n c L := ⟨h.len, Go.Joins.ownsRow_le h.row hB⟩
theorem BOwn.in {w : World} {base n c : Nat} {a : Option Addr} {L : List Int} (h : BOwn w base a n c L) : BytesIn w w.heap.size a L := own_in h.len h.row
theorem BOwn.nil {w : World} {base n c : Nat} {a : Option Addr} {L : List Int} (h : BOwn w base a n c L) : a = none → c = 0 := by
  intro ha
  rcases Go.Joins.ownsRow_forms h.row with ⟨h1, _⟩ | ⟨g, c', h1⟩
  · cases h1; rfl
  · rw [ha] at h1; cases h1
theorem BOwn.lt {w : World} {base n c : Nat} {a : Option Addr} {L : List Int} (h : BOwn w base a n c L) : ∀ g, (Value.slice a n c).ownBlock = some g → base ≤ g ∧ g < w.heap.size := fun g hg => World.ownsRow.lt h.row g hg
theorem BOwn.lit (w : World) (xs : List Int) (h : xs.length ≤ 1000) : BOwn (w.alloc (.cells (xs.map bv).toArray 5)) w.heap.size (some ⟨w.heap.size, 0, none⟩) xs.length xs.length xs :=
  ⟨rfl, by have h2 : xs.length ≤ maxLen := by (unfold maxLen; omega)
           exact World.ownsRow_lit w (base := w.heap.size) (e := 5) (size := 1) (xs.map bv).toArray xs.length (Nat.le_refl _) h2 (by simp)⟩
def RNew (L : List Int) (w : World) (e : Ending) (w' : World) : Prop := ∃ a n c, e = .returned (.slice a n c) ∧ BOwn w' w.heap.size a n c L ∧ Below w.heap.size w w'
theorem wpList_append_bo {w : World} {ops : Array Oper} {rest : List Oper} {o : Oper} {a : Act} {Q : Exit → Act → World → Prop} (hgd : o.guard = none) (s x : Operand)
    (ho : o.op = .call { callee := .builtin .append, args := #[s, x], argTypes := #[25, 25] })
    (base : Nat) {a1 : Option Addr} {n1 c1 : Nat} {L1 : List Int} (hs : a.eval s = .slice a1 n1 c1) (hown : BOwn w base a1 n1 c1 L1)
    {ao : Option Addr} {n cap : Nat} {xs : List Int} (hx : a.eval x = .slice ao n cap) (hn : xs.length = n) (B : Nat) (hin : BytesIn w B ao xs) (hao : ao = none → cap = 0) (hlim : n1 + n ≤ 140737488351232) (hbase : base ≤ w.heap.size)
    (h : ∀ a2 n2 c2 w', BOwn w' base a2 n2 c2 (L1 ++ xs) → w.grownBy w' (Value.slice a1 n1 c1).ownBlock → n2 = n1 + n → wpList Tryz.prog ops Q rest (a.put o.dst (.slice a2 n2 c2)) w') : wpList Tryz.prog ops Q (o :: rest) a w := by
  obtain ⟨rfl, hrow⟩ := hown
  subst hn
  refine wpList_append_bytes hgd s x ho base _ L1 hs hrow ao cap xs hx B hin hao hlim hbase fun v' w' h1 h2 => ?_
  obtain ⟨a2, c2, rfl⟩ := row_slice h1
  exact h a2 _ c2 w' ⟨rfl, h1⟩ h2 (by rw [List.length_append])
end Go.Proofs.YtglgcjkglhlggaaGreatDoor
/- Counts and numbers of letters, as bytes. Conditions: as each says. -/
namespace Go.Proofs.YtglgcjkglhlggaaGreatDoor
open Go.RowKit
set_option maxRecDepth 20000
theorem numB4 (n : Nat) (h : n < 4294967296) : numB 4 (n : Int) = [(n : Int) / 16777216 % 256, (n : Int) / 65536 % 256, (n : Int) / 256 % 256, (n : Int) % 256] := by
  unfold numB
  simp only [List.range, List.range.loop, List.map_cons, List.map_nil]
  have e0 : (2 : Int) ^ (8 * (4 - 1 - 0)) = 16777216 := by decide
  have e1 : (2 : Int) ^ (8 * (4 - 1 - 1)) = 65536 := by decide
  have e2 : (2 : Int) ^ (8 * (4 - 1 - 2)) = 256 := by decide
  have e3 : (2 : Int) ^ (8 * (4 - 1 - 3)) = 1 := by decide
  rw [e0, e1, e2, e3, Int.ediv_one]
theorem lcount_any (n : Nat) (L : List Int) (w : World) (hL : numB 4 (n : Int) = L) (hn : n ≤ 2000000000) :
    Calls Tryz.prog 37 #[.int .i64 (n : Int)] w (RNew L w) := by
  have hl : L = [(n : Int) / 16777216, (n : Int) / 65536 % 256, (n : Int) / 256 % 256, (n : Int) % 256] := by
    have e : (n : Int) / 16777216 % 256 = (n : Int) / 16777216 := by omega
    rw [← hL, numB4 n (by omega), e]
  have HL := Lib.hid hl
  clear hl hL
  go_enter Tryz.func37, Tryz.ntmps37
  go_wp2_with fail
  go_ret
  have ho := BOwn.lit w [(n : Int) / 16777216, (n : Int) / 65536 % 256, (n : Int) / 256 % 256, (n : Int) % 256] (by simp)
  rw [← HL.out] at ho
  have h4 : L.length = 4 := by rw [HL.out]; rfl
  rw [h4] at ho
  refine ⟨some ⟨w.heap.size, 0, none⟩, 4, 4, rfl, ?_, (Below.refl _ _).alloc (Nat.le_refl _) _⟩
  rw [HL.out] at ho ⊢
  exact ho
theorem lnumbers_any (ao : Option Addr) (n cap : Nat) (xs : List Int) (L : List Int) (w : World) (B : Nat) (hL : xs.flatMap (numB 8) = L) (hn : xs.length = n) (hx : NumsIn w B ao xs) (hB : B ≤ w.heap.size) (hl : n ≤ 1000000) :
    Calls Tryz.prog 36 #[.slice ao n cap] w (RNew L w) := by
  have HX := Lib.hid (hx.mono noSub_rising hB)
  have HN := Lib.hid hn
  have HL := Lib.hid hL
  clear hx hn hL
  go_enter Tryz.func36, Tryz.ntmps36
  go_wp2_with fail
  go_loopw [3, 8] (fun v i wr => ∃ (k : Nat) (a : Option Addr) (c : Nat), k ≤ n ∧ i = .int .i64 k ∧ v = .slice a (8 * k) c ∧ BOwn wr w.heap.size a (8 * k) c ((xs.take k).flatMap (numB 8)) ∧ Below w.heap.size w wr) (fun _ i _ => n - (intOf i).toNat)
  case atStart => exact ⟨0, none, 0, by omega, rfl, rfl, ⟨rfl, World.ownsRow_nil _ _ _ _⟩, Below.refl _ _⟩
  case round =>
    obtain ⟨k, a, c, hk, rfl, rfl, hown, hbel⟩ := hrel
    have HO := Lib.hid hown
    have hsz := hbel.size
    clear hown
    by_cases hlt : k < n
    · have i1 : (k : Int) < n := by omega
      have hkx : xs[k]? = some (xs[k]'(by rw [HN.out]; exact hlt)) := List.getElem?_eq_getElem _
      have htk : xs.take (k + 1) = xs.take k ++ [xs[k]'(by rw [HN.out]; exact hlt)] := List.take_succ_eq_append_getElem _
      obtain ⟨b, off, hao, hb, hc, _⟩ := HX.out.at hkx
      generalize xs[k]'(by rw [HN.out]; exact hlt) = x at hc hkx htk
      have c0 : wr.cell? ⟨b, off + k, none⟩ = some (.int .i64 x) := by
        have := hc 0 (by decide)
        rw [Nat.mul_one, Nat.add_zero] at this
        exact (hbel.cell (p := ⟨b, _, none⟩) hb).trans this
      subst hao
      have HT := Lib.hid htk
      obtain ⟨m, hm⟩ : ∃ m, 8 * k = m := ⟨_, rfl⟩
      have HM := Lib.hid hm
      rw [hm] at HO ⊢
      clear hc hkx htk hm
      go_wp2_with fail
      refine (number_w x _ wr rfl).mono ?_
      rintro e w2 ⟨a1, c1, rfl, ho1, hb1⟩
      have HO1 := Lib.hid ho1
      have hb2 := hbel.trans (hb1.mono hsz)
      have hz1 := hb1.size
      clear ho1 c0
      go_wp2_with (at_builtin; refine wpList_append_bo rfl (.tmp 12) (.tmp 14) rfl w.heap.size rfl (HO.out.below hb1 (Nat.le_refl _)) rfl rfl _ (own_bytes' HO1.out) (own_none HO1.out) (by have := HM.out; rw [numB_len]; omega) (by omega) ?_)
      intro a2 n2 c2 w3 hown hg hn2
      have hb3 := hb2.grown hg (by omega) (fun k hk => (HO.out.lt k hk).1)
      have hn3 : n2 = 8 * (k + 1) := by rw [hn2, numB_len, ← HM.out]; omega
      subst hn3
      have HO2 := Lib.hid (show BOwn w3 w.heap.size a2 (8 * (k + 1)) c2 ((xs.take (k + 1)).flatMap (numB 8)) by
        rw [HT.out, List.flatMap_append, List.flatMap_singleton]; exact hown)
      clear hown hg hn2
      go_wp2_with fail
      go_roundw
      case rel => exact ⟨k + 1, a2, c2, by omega, by go_num, rfl, HO2.out, hb3⟩
      case measure => simp [intOf] <;> omega
    · have i1 : ¬ (k : Int) < n := by omega
      obtain rfl : k = n := by omega
      go_wp2_with fail
      go_ret
      have hown := HO.out
      rw [List.take_of_length_le (by rw [HN.out]; exact Nat.le_refl _), HL.out] at hown
      exact ⟨a, _, c, rfl, hown, hbel⟩
end Go.Proofs.YtglgcjkglhlggaaGreatDoor
/- A region that draws its order, some of whose operations come in whatever order: an invariant over what has come up so far. Any program. Conditions: each operation that may come up next keeps the invariant. -/
namespace Go.Proofs.YtglgcjkglhlggaaGreatDoor
open Go.RowKit
theorem weave {P : Program} {md : Region.Mode} {ops : Array Oper} {Q : Exit → Act → World → Prop} {S : World → Prop} (I : Nat → Array Bool → Act → World → Prop) (m : Nat)
    (hstep : ∀ n listed a w, I (n + 1) listed a w → ∃ rs, Region.ready md ops listed = rs ∧ rs ≠ [] ∧ ∀ i ∈ rs, ∃ oi, ops.toList[i]? = some oi ∧ Region.wanted oi (yielded ops a.tmps) = true ∧ ∀ K' : Act → World → Prop, Shut (∀ a' w', I n (listed.setIfInBounds i true) a' w' → K' a' w') → Oper.wp P oi a w K' Q)
    (hIS : ∀ n listed a w, I n listed a w → S w)
    (hfin : ∀ listed a w, I 0 listed a w → wpAnyH P md ops Q S m listed a w) : ∀ n listed a w, I n listed a w → wpAnyH P md ops Q S (n + m) listed a w := by
  intro n
  induction n with
  | zero => intro listed a w h; rw [Nat.zero_add]; exact hfin listed a w h
  | succ n ih =>
    intro listed a w h
    obtain ⟨rs, hr, hne, hs⟩ := hstep n listed a w h
    rw [Nat.succ_add]
    refine wpAnyH_ready hr hne (fun i hi => ?_)
    obtain ⟨oi, ho, hw, hp⟩ := hs i hi
    refine wpOp_step (by rw [← Array.getElem?_toList]; exact ho) (fun K' hK => ?_)
    rw [if_pos hw]
    exact hp K' (fun a' w' hI => hK a' w' ⟨hIS _ _ _ _ hI, ih _ _ _ hI⟩)
theorem weave_at {P : Program} {md : Region.Mode} {ops : Array Oper} {Q : Exit → Act → World → Prop} {S : World → Prop} (I : Nat → Array Bool → Act → World → Prop) (m n : Nat) (L : Array Bool) (A : Act) {listed : Array Bool} {a : Act} {w : World} (hl : listed = L) (ha : a = A) (h0 : I n L A w)
    (hstep : ∀ n listed a w, I (n + 1) listed a w → ∃ rs, Region.ready md ops listed = rs ∧ rs ≠ [] ∧ ∀ i ∈ rs, ∃ oi, ops.toList[i]? = some oi ∧ Region.wanted oi (yielded ops a.tmps) = true ∧ ∀ K' : Act → World → Prop, Shut (∀ a' w', I n (listed.setIfInBounds i true) a' w' → K' a' w') → Oper.wp P oi a w K' Q)
    (hIS : ∀ n listed a w, I n listed a w → S w)
    (hfin : ∀ listed a w, I 0 listed a w → wpAnyH P md ops Q S m listed a w) : wpAnyH P md ops Q S (n + m) listed a w := by
  subst hl ha
  exact weave I m hstep hIS hfin n _ _ _ h0
end Go.Proofs.YtglgcjkglhlggaaGreatDoor
/- The parts that Put of letter joins: a region that draws its order. Conditions: as each says. -/
namespace Go.Proofs.YtglgcjkglhlggaaGreatDoor
open Go.RowKit
set_option maxRecDepth 20000
/-- What stays in the slots of Put while its parts are made. -/
structure Pf where
  A : Nat
  u0 : Value
  u11 : Value
  u12 : Value
  u13 : Value
  u14 : Value
  u15 : Value
  u45 : Value
  u46 : Value
  kb : Int
  kd : Int
  f : Int
  t : Int
  tm : Int
  ix : Int
  ws : Int
  cm : Int
  rd : Int
  eo : Option Addr
  en : Nat
  ec : Nat
  rest : List Value
def frP (p : Pf) (v24 v31 v32 v34 v39 v40 v44 : Value) : Act := { tmps := (p.u0 :: .pointer (some ⟨p.A, 0, none⟩) :: .slice none 0 0 :: .int .i64 0 :: .int .u8 p.kb :: undef :: undef :: undef :: undef :: undef :: undef :: p.u11 :: p.u12 :: p.u13 :: p.u14 :: p.u15 :: .pointer (some ⟨p.A, 0, none⟩) :: .int .u8 p.kd :: .pointer (some ⟨p.A, 1, none⟩) :: .int .i64 p.f :: .int .u8 (IntKind.u8.wrap p.f) :: .pointer (some ⟨p.A, 2, none⟩) :: .int .i64 p.t :: .int .u8 (IntKind.u8.wrap p.t) :: v24 :: .pointer (some ⟨p.A, 3, none⟩) :: .int .i64 p.tm :: .pointer (some ⟨p.A, 4, none⟩) :: .int .i64 p.ix :: .pointer (some ⟨p.A, 5, none⟩) :: .int .i64 p.ws :: v31 :: v32 :: .int .u8 p.kb :: v34 :: .pointer (some ⟨p.A, 7, none⟩) :: .int .i64 p.cm :: .pointer (some ⟨p.A, 8, none⟩) :: .int .i64 p.rd :: v39 :: v40 :: .pointer (some ⟨p.A, 9, none⟩) :: .slice p.eo p.en p.ec :: .int .i64 (p.en : Int) :: v44 :: p.u45 :: p.u46 :: p.rest).toArray, defers := [] }
def lstP (c : Nat) (y8 y15 y18 y23 : Bool) : Array Bool := #[true, true, true, true, true, true, true, true, y8, true, true, true, true, true, true, y15, decide (1 ≤ c), true, y18, true, true, true, true, y23, decide (2 ≤ c), true, true, true, decide (3 ≤ c), false, false]
def PtAt (w : World) (v : Value) (L : List Int) : Prop := ∃ a c, v = .slice a L.length c ∧ BytesIn w w.heap.size a L ∧ (a = none → c = 0) ∧ L.length ≤ c
theorem PtAt.grow {w w' : World} {v : Value} {L : List Int} (h : PtAt w v L) (hb : Below w.heap.size w w') : PtAt w' v L := by
  obtain ⟨a, c, h1, h2, h3⟩ := h
  exact ⟨a, c, h1, (h2.below hb (Nat.le_refl _)).mono hb.size, h3⟩
def NsAt (w : World) (v : Value) (xs : List Int) : Prop := ∃ g, v = .slice (some ⟨g, 0, none⟩) xs.length xs.length ∧ NumsIn w w.heap.size (some ⟨g, 0, none⟩) xs
theorem NsAt.grow {w w' : World} {v : Value} {xs : List Int} (h : NsAt w v xs) (hb : Below w.heap.size w w') : NsAt w' v xs := by
  obtain ⟨g, h1, h2⟩ := h
  exact ⟨g, h1, (h2.below noSub_kept hb (Nat.le_refl _)).mono noSub_rising hb.size⟩
def noP : Bool → Nat
  | true => 0
  | false => 1
theorem noP_zero {c : Nat} {a b d e : Bool} (hc : c ≤ 3) (h : 0 = 3 - c + noP a + noP b + noP d + noP e) : c = 3 ∧ a = true ∧ b = true ∧ d = true ∧ e = true := by
  cases a <;> cases b <;> cases d <;> cases e <;> simp only [noP] at h <;> first | omega | exact ⟨by omega, rfl, rfl, rfl, rfl⟩
structure PI (p : Pf) (w0 : World) (c : Nat) (y8 y15 y18 y23 : Bool) (v24 v31 v32 v34 v39 v40 v44 : Value) (w : World) : Prop where
  below : Below (p.A + 1) w0 w
  size : p.A + 1 ≤ w.heap.size
  h15 : 1 ≤ c → y15 = true
  h23 : 2 ≤ c → y23 = true
  a8 : y8 = true → PtAt w v24 [p.kd, IntKind.u8.wrap p.f, IntKind.u8.wrap p.t]
  a15 : y15 = true → NsAt w v31 [p.tm, p.ix, p.ws]
  a18 : y18 = true → PtAt w v34 [p.kb]
  a23 : y23 = true → NsAt w v39 [p.cm, p.rd]
  c1 : 1 ≤ c → PtAt w v32 ([p.tm, p.ix, p.ws].flatMap (numB 8))
  c2 : 2 ≤ c → PtAt w v40 ([p.cm, p.rd].flatMap (numB 8))
  c3 : 3 ≤ c → PtAt w v44 (numB 4 (p.en : Int))
theorem PI.grow {p : Pf} {w0 : World} {c : Nat} {y8 y15 y18 y23 : Bool} {v24 v31 v32 v34 v39 v40 v44 : Value} {w w' : World} (h : PI p w0 c y8 y15 y18 y23 v24 v31 v32 v34 v39 v40 v44 w) (hb : Below w.heap.size w w') : PI p w0 c y8 y15 y18 y23 v24 v31 v32 v34 v39 v40 v44 w' :=
  ⟨h.below.trans (hb.mono h.size), Nat.le_trans h.size hb.size, h.h15, h.h23, fun e => (h.a8 e).grow hb, fun e => (h.a15 e).grow hb, fun e => (h.a18 e).grow hb, fun e => (h.a23 e).grow hb, fun e => (h.c1 e).grow hb, fun e => (h.c2 e).grow hb, fun e => (h.c3 e).grow hb⟩
def StP (p : Pf) (w0 : World) (n : Nat) (listed : Array Bool) (a : Act) (w : World) : Prop :=
  ∃ c y8 y15 y18 y23 v24 v31 v32 v34 v39 v40 v44, listed = lstP c y8 y15 y18 y23 ∧ a = frP p v24 v31 v32 v34 v39 v40 v44 ∧ c ≤ 3 ∧ n = 3 - c + noP y8 + noP y15 + noP y18 + noP y23 ∧ PI p w0 c y8 y15 y18 y23 v24 v31 v32 v34 v39 v40 v44 w
theorem pt_new (w : World) (xs : List Int) (cs : Array Value) (hcs : cs = (xs.map bv).toArray) : PtAt (w.alloc (.cells cs 5)) (.slice (some ⟨w.heap.size, 0, none⟩) xs.length xs.length) xs :=
  ⟨some ⟨w.heap.size, 0, none⟩, xs.length, rfl, (bytes_new w _ xs cs _ _ (w.heap.size + 1) hcs rfl (by omega)).mono (by simp), fun h => (by cases h), Nat.le_refl _⟩
theorem ns_new (w : World) (xs : List Int) (cs : Array Value) (hcs : cs = (xs.map (Value.int .i64)).toArray) : NsAt (w.alloc (.cells cs 3)) (.slice (some ⟨w.heap.size, 0, none⟩) xs.length xs.length) xs :=
  ⟨w.heap.size, rfl, (nums_new w xs cs hcs).mono noSub_rising (by simp)⟩
theorem rnew_pt {L : List Int} {w w' : World} {e : Ending} (h : RNew L w e w') : ∃ v, e = .returned v ∧ PtAt w' v L ∧ Below w.heap.size w w' := by
  obtain ⟨a, n, c, h1, h2, h3⟩ := h
  refine ⟨_, h1, ⟨a, c, by rw [h2.len], h2.in, h2.nil, ?_⟩, h3⟩
  rw [h2.len]
  exact own_capG h2.row
set_option maxHeartbeats 1000000 in
theorem pw_op8 {p : Pf} {w0 w : World} {c : Nat} {y15 y18 y23 : Bool} {v24 v31 v32 v34 v39 v40 v44 : Value} {Q : Exit → Act → World → Prop} {K : Act → World → Prop} {ty : TypeId} {ps : String} {af : Array Edge} (h : PI p w0 c false y15 y18 y23 v24 v31 v32 v34 v39 v40 v44 w)
    (hK : ∀ x w', PI p w0 c true y15 y18 y23 x v31 v32 v34 v39 v40 v44 w' → K (frP p x v31 v32 v34 v39 v40 v44) w') : Oper.wp Tryz.prog { dst := some 24, op := .buildSlice 25 3 #[(0, .tmp 17), (1, .tmp 20), (2, .tmp 23)], type := ty, pos := ps, after := af, guard := none } (frP p v24 v31 v32 v34 v39 v40 v44) w K Q := by
  have hb := (Below.refl w.heap.size w).alloc (Nat.le_refl _) (.cells #[.int .u8 p.kd, .int .u8 (IntKind.u8.wrap p.f), .int .u8 (IntKind.u8.wrap p.t)] 5)
  have hn := pt_new w [p.kd, IntKind.u8.wrap p.f, IntKind.u8.wrap p.t] _ rfl
  have HK := Lib.hid hK
  have H := Lib.hid h
  have HB := Lib.hid hb
  have HN := Lib.hid hn
  clear hK h hb hn
  unfold frP
  go_simp
  have h2 := H.out.grow HB.out
  refine HK.out _ _ ⟨h2.below, h2.size, h2.h15, h2.h23, fun _ => HN.out, h2.a15, h2.a18, h2.a23, h2.c1, h2.c2, h2.c3⟩
set_option maxHeartbeats 1000000 in
theorem pw_op15 {p : Pf} {w0 w : World} {c : Nat} {y8 y18 y23 : Bool} {v24 v31 v32 v34 v39 v40 v44 : Value} {Q : Exit → Act → World → Prop} {K : Act → World → Prop} {ty : TypeId} {ps : String} {af : Array Edge} (h : PI p w0 c y8 false y18 y23 v24 v31 v32 v34 v39 v40 v44 w)
    (hK : ∀ x w', PI p w0 c y8 true y18 y23 v24 x v32 v34 v39 v40 v44 w' → K (frP p v24 x v32 v34 v39 v40 v44) w') : Oper.wp Tryz.prog { dst := some 31, op := .buildSlice 24 3 #[(0, .tmp 26), (1, .tmp 28), (2, .tmp 30)], type := ty, pos := ps, after := af, guard := none } (frP p v24 v31 v32 v34 v39 v40 v44) w K Q := by
  have hb := (Below.refl w.heap.size w).alloc (Nat.le_refl _) (.cells #[.int .i64 p.tm, .int .i64 p.ix, .int .i64 p.ws] 3)
  have hn := ns_new w [p.tm, p.ix, p.ws] _ rfl
  have HK := Lib.hid hK
  have H := Lib.hid h
  have HB := Lib.hid hb
  have HN := Lib.hid hn
  clear hK h hb hn
  unfold frP
  go_simp
  have h2 := H.out.grow HB.out
  refine HK.out _ _ ⟨h2.below, h2.size, fun _ => rfl, h2.h23, h2.a8, fun _ => HN.out, h2.a18, h2.a23, h2.c1, h2.c2, h2.c3⟩
set_option maxHeartbeats 1000000 in
theorem pw_op18 {p : Pf} {w0 w : World} {c : Nat} {y8 y15 y23 : Bool} {v24 v31 v32 v34 v39 v40 v44 : Value} {Q : Exit → Act → World → Prop} {K : Act → World → Prop} {ty : TypeId} {ps : String} {af : Array Edge} (h : PI p w0 c y8 y15 false y23 v24 v31 v32 v34 v39 v40 v44 w)
    (hK : ∀ x w', PI p w0 c y8 y15 true y23 v24 v31 v32 x v39 v40 v44 w' → K (frP p v24 v31 v32 x v39 v40 v44) w') : Oper.wp Tryz.prog { dst := some 34, op := .buildSlice 25 1 #[(0, .tmp 33)], type := ty, pos := ps, after := af, guard := none } (frP p v24 v31 v32 v34 v39 v40 v44) w K Q := by
  have hb := (Below.refl w.heap.size w).alloc (Nat.le_refl _) (.cells #[.int .u8 p.kb] 5)
  have hn := pt_new w [p.kb] _ rfl
  have HK := Lib.hid hK
  have H := Lib.hid h
  have HB := Lib.hid hb
  have HN := Lib.hid hn
  clear hK h hb hn
  unfold frP
  go_simp
  have h2 := H.out.grow HB.out
  refine HK.out _ _ ⟨h2.below, h2.size, h2.h15, h2.h23, h2.a8, h2.a15, fun _ => HN.out, h2.a23, h2.c1, h2.c2, h2.c3⟩
set_option maxHeartbeats 1000000 in
theorem pw_op23 {p : Pf} {w0 w : World} {c : Nat} {y8 y15 y18 : Bool} {v24 v31 v32 v34 v39 v40 v44 : Value} {Q : Exit → Act → World → Prop} {K : Act → World → Prop} {ty : TypeId} {ps : String} {af : Array Edge} (h : PI p w0 c y8 y15 y18 false v24 v31 v32 v34 v39 v40 v44 w)
    (hK : ∀ x w', PI p w0 c y8 y15 y18 true v24 v31 v32 v34 x v40 v44 w' → K (frP p v24 v31 v32 v34 x v40 v44) w') : Oper.wp Tryz.prog { dst := some 39, op := .buildSlice 24 2 #[(0, .tmp 36), (1, .tmp 38)], type := ty, pos := ps, after := af, guard := none } (frP p v24 v31 v32 v34 v39 v40 v44) w K Q := by
  have hb := (Below.refl w.heap.size w).alloc (Nat.le_refl _) (.cells #[.int .i64 p.cm, .int .i64 p.rd] 3)
  have hn := ns_new w [p.cm, p.rd] _ rfl
  have HK := Lib.hid hK
  have H := Lib.hid h
  have HB := Lib.hid hb
  have HN := Lib.hid hn
  clear hK h hb hn
  unfold frP
  go_simp
  have h2 := H.out.grow HB.out
  refine HK.out _ _ ⟨h2.below, h2.size, h2.h15, fun _ => rfl, h2.a8, h2.a15, h2.a18, fun _ => HN.out, h2.c1, h2.c2, h2.c3⟩
set_option maxHeartbeats 1000000 in
theorem pw_op16 {p : Pf} {w0 w : World} {y8 y18 y23 : Bool} {v24 v31 v32 v34 v39 v40 v44 : Value} {Q : Exit → Act → World → Prop} {K : Act → World → Prop} {ty : TypeId} {ps : String} {af : Array Edge} (h : PI p w0 0 y8 true y18 y23 v24 v31 v32 v34 v39 v40 v44 w)
    (hK : ∀ x w', PI p w0 1 y8 true y18 y23 v24 v31 x v34 v39 v40 v44 w' → K (frP p v24 v31 x v34 v39 v40 v44) w') : Oper.wp Tryz.prog { dst := some 32, op := .call { callee := .value (.func 36), args := #[.tmp 31], argTypes := #[24] }, type := ty, pos := ps, after := af, guard := none } (frP p v24 v31 v32 v34 v39 v40 v44) w K Q := by
  obtain ⟨g, rfl, hg⟩ := h.a15 rfl
  have hcon := lnumbers_any (some ⟨g, 0, none⟩) 3 3 [p.tm, p.ix, p.ws] _ w w.heap.size rfl rfl hg (Nat.le_refl _) (by decide)
  have HK := Lib.hid hK
  have H := Lib.hid h
  have HCON := Lib.hid hcon
  clear hK h hcon
  unfold frP
  go_simp
  refine HCON.out.mono ?_
  intro e w' hr
  obtain ⟨x, rfl, hx, hb⟩ := rnew_pt hr
  have h2 := H.out.grow hb
  refine HK.out x w' ⟨h2.below, h2.size, fun _ => rfl, fun h => absurd h (by omega), h2.a8, h2.a15, h2.a18, h2.a23, fun _ => hx, fun h => absurd h (by omega), fun h => absurd h (by omega)⟩
set_option maxHeartbeats 1000000 in
theorem pw_op24 {p : Pf} {w0 w : World} {y8 y18 : Bool} {v24 v31 v32 v34 v39 v40 v44 : Value} {Q : Exit → Act → World → Prop} {K : Act → World → Prop} {ty : TypeId} {ps : String} {af : Array Edge} (h : PI p w0 1 y8 true y18 true v24 v31 v32 v34 v39 v40 v44 w)
    (hK : ∀ x w', PI p w0 2 y8 true y18 true v24 v31 v32 v34 v39 x v44 w' → K (frP p v24 v31 v32 v34 v39 x v44) w') : Oper.wp Tryz.prog { dst := some 40, op := .call { callee := .value (.func 36), args := #[.tmp 39], argTypes := #[24] }, type := ty, pos := ps, after := af, guard := none } (frP p v24 v31 v32 v34 v39 v40 v44) w K Q := by
  obtain ⟨g, rfl, hg⟩ := h.a23 rfl
  have hcon := lnumbers_any (some ⟨g, 0, none⟩) 2 2 [p.cm, p.rd] _ w w.heap.size rfl rfl hg (Nat.le_refl _) (by decide)
  have HK := Lib.hid hK
  have H := Lib.hid h
  have HCON := Lib.hid hcon
  clear hK h hcon
  unfold frP
  go_simp
  refine HCON.out.mono ?_
  intro e w' hr
  obtain ⟨x, rfl, hx, hb⟩ := rnew_pt hr
  have h2 := H.out.grow hb
  refine HK.out x w' ⟨h2.below, h2.size, fun _ => rfl, fun _ => rfl, h2.a8, h2.a15, h2.a18, h2.a23, fun _ => h2.c1 (by omega), fun _ => hx, fun h => absurd h (by omega)⟩
set_option maxHeartbeats 1000000 in
theorem pw_op28 {p : Pf} {w0 w : World} {y8 y18 : Bool} {v24 v31 v32 v34 v39 v40 v44 : Value} {Q : Exit → Act → World → Prop} {K : Act → World → Prop} {ty : TypeId} {ps : String} {af : Array Edge} (hen : p.en ≤ 2000000000) (h : PI p w0 2 y8 true y18 true v24 v31 v32 v34 v39 v40 v44 w)
    (hK : ∀ x w', PI p w0 3 y8 true y18 true v24 v31 v32 v34 v39 v40 x w' → K (frP p v24 v31 v32 v34 v39 v40 x) w') : Oper.wp Tryz.prog { dst := some 44, op := .call { callee := .value (.func 37), args := #[.tmp 43], argTypes := #[3] }, type := ty, pos := ps, after := af, guard := none } (frP p v24 v31 v32 v34 v39 v40 v44) w K Q := by
  have hcon := lcount_any p.en _ w rfl hen
  have HK := Lib.hid hK
  have H := Lib.hid h
  have HCON := Lib.hid hcon
  clear hK h hcon
  unfold frP
  go_simp
  refine HCON.out.mono ?_
  intro e w' hr
  obtain ⟨x, rfl, hx, hb⟩ := rnew_pt hr
  have h2 := H.out.grow hb
  refine HK.out x w' ⟨h2.below, h2.size, fun _ => rfl, fun _ => rfl, h2.a8, h2.a15, h2.a18, h2.a23, fun _ => h2.c1 (by omega), fun _ => h2.c2 (by omega), fun _ => hx⟩
end Go.Proofs.YtglgcjkglhlggaaGreatDoor
/- Parts of bytes in a row of a call's own. Conditions: as each says. -/
namespace Go.Proofs.YtglgcjkglhlggaaGreatDoor
open Go.RowKit
set_option maxRecDepth 20000
/-- A part may be written. -/
def PtOk (p : Pt) : Prop := BytesWf p.data ∧ (p.ao = none → p.cap = 0) ∧ p.data.length ≤ p.cap
structure Parts (w : World) (base : Nat) (a : Option Addr) (n c : Nat) (ps : List Pt) : Prop where
  len : ps.length = n
  row : w.ownsRow base 25 1 (.slice a n c) n (ps.flatMap ptCells)
  sub : ∀ p ∈ ps, BytesIn w w.heap.size p.ao p.data
  far : ∀ p ∈ ps, p.data ≠ [] → ∀ ad, p.ao = some ad → (Value.slice a n c).ownBlock ≠ some ad.block
  ok : ∀ p ∈ ps, PtOk p
theorem Parts.below {w w' : World} {base n c : Nat} {a : Option Addr} {ps : List Pt} (h : Parts w base a n c ps) (hb : Below w.heap.size w w') : Parts w' base a n c ps :=
  ⟨h.len, own_below h.row hb (Nat.le_refl _), fun p hp => ((h.sub p hp).below hb (Nat.le_refl _)).mono hb.size, h.far, h.ok⟩
theorem bytes_block {w : World} {B : Nat} {ao : Option Addr} {xs : List Int} (h : BytesIn w B ao xs) (hx : xs ≠ []) {ad : Addr} (ha : ao = some ad) : ad.block < B := by
  rcases h with h | ⟨b, off, h1, h2, _⟩
  · exact absurd h hx
  · rw [h1] at ha
    cases ha
    exact h2
theorem Parts.grow {w w' : World} {base n c m : Nat} {a : Option Addr} {ps qs : List Pt} {v' : Value} (h : Parts w base a n c ps) (hm : qs.length = m) (hq : ∀ q ∈ qs, BytesIn w w.heap.size q.ao q.data ∧ (q.data ≠ [] → ∀ ad, q.ao = some ad → (Value.slice a n c).ownBlock ≠ some ad.block) ∧ PtOk q)
    (hown : w'.ownsRow base 25 1 v' (n + m) (ps.flatMap ptCells ++ qs.flatMap ptCells)) (hg : w.grownBy w' (Value.slice a n c).ownBlock) (hor : v'.ownBlock = (Value.slice a n c).ownBlock ∨ v'.ownBlock = some w.heap.size) :
    ∃ a' c', v' = .slice a' (n + m) c' ∧ Parts w' base a' (n + m) c' (ps ++ qs) := by
  obtain ⟨a', c', rfl⟩ := row_slice hown
  have hall : ∀ p ∈ ps ++ qs, BytesIn w w.heap.size p.ao p.data ∧ (p.data ≠ [] → ∀ ad, p.ao = some ad → (Value.slice a n c).ownBlock ≠ some ad.block) ∧ PtOk p := fun p hp => by
    rcases List.mem_append.1 hp with hp | hp
    · exact ⟨h.sub p hp, h.far p hp, h.ok p hp⟩
    · exact hq p hp
  refine ⟨a', c', rfl, by rw [List.length_append, h.len, hm], by rw [List.flatMap_append]; exact hown, fun p hp => ?_, fun p hp hne ad had => ?_, fun p hp => (hall p hp).2.2⟩
  · obtain ⟨h1, h2, _⟩ := hall p hp
    by_cases hne : p.data = []
    · exact Or.inl hne
    · rcases h1 with h0 | ⟨b, off, e1, e2, e3⟩
      · exact absurd h0 hne
      · refine Or.inr ⟨b, off, e1, Nat.lt_of_lt_of_le e2 hg.size, fun i hi => ?_⟩
        exact (cell_block (hg.block b e2 (fun e => h2 hne _ e1 e.symm))).trans (e3 i hi)
  · obtain ⟨h1, h2, _⟩ := hall p hp
    rcases hor with e | e
    · rw [e]; exact h2 hne ad had
    · rw [e]
      intro e2
      have := bytes_block h1 hne had
      injection e2 with e2
      omega
theorem Parts.in {w : World} {base n c : Nat} {a : Option Addr} {ps : List Pt} (h : Parts w base a n c ps) : RowsIn 1 ptCells ptSub w w.heap.size a ps := own_rowsIn ptCells_len h.len h.row (fun p hp => h.sub p hp)
theorem Parts.cap {w : World} {base n c : Nat} {a : Option Addr} {ps : List Pt} (h : Parts w base a n c ps) : n ≤ c := own_capG h.row
theorem Parts.lt {w : World} {base n c : Nat} {a : Option Addr} {ps : List Pt} (h : Parts w base a n c ps) : ∀ g, (Value.slice a n c).ownBlock = some g → base ≤ g ∧ g < w.heap.size := fun g hg => World.ownsRow.lt h.row g hg
/-- A part of bytes that lie in memory. -/
theorem pt_of {w : World} {v : Value} {L : List Int} (m : Nat) (h : PtAt w v L) (hw : BytesWf L) (hm : L.length = m) : ∃ a c, v = .slice a m c ∧ BytesIn w w.heap.size a L ∧ PtOk ⟨a, c, L⟩ := by
  obtain ⟨a, c, rfl, h1, h2, h3⟩ := h
  exact ⟨a, c, by rw [hm], h1, hw, h2, h3⟩
theorem headL_kb (l : LtP) (kb : Int) (h : (if l.ok = true then (1 : Int) else 0) = kb) : headL l = [l.kind, l.fr, l.tov] ++ ((numB 8 l.term ++ (numB 8 l.index ++ numB 8 l.was)) ++ (kb :: (numB 8 l.commit ++ numB 8 l.round))) := by
  subst h
  rfl
/-- The parts of a literal. -/
theorem parts_lit {w : World} {cs : Array Value} {ps : List Pt} (hcs : cs.toList = ps.flatMap ptCells) (hb : ∀ p ∈ ps, BytesIn w w.heap.size p.ao p.data ∧ PtOk p) (hl : ps.length ≤ 1000) :
    Parts (w.alloc (.cells cs 25)) w.heap.size (some ⟨w.heap.size, 0, none⟩) ps.length ps.length ps := by
  have hsz : cs.size = ps.length := by rw [← Array.length_toList, hcs, flat_len ptCells_len, Nat.mul_one]
  have hba := (Below.refl w.heap.size w).alloc (Nat.le_refl _) (.cells cs 25)
  have h2 : ps.length ≤ maxLen := by unfold maxLen; omega
  refine ⟨rfl, ?_, fun p hp => ((hb p hp).1.below hba (Nat.le_refl _)).mono hba.size, fun p hp hne ad had => ?_, fun p hp => (hb p hp).2⟩
  · have := World.ownsRow_lit w (base := w.heap.size) (e := 25) (size := 1) cs ps.length (Nat.le_refl _) h2 (by rw [hsz, Nat.mul_one])
    rw [hcs] at this
    exact this
  · intro e
    have := bytes_block (hb p hp).1 hne had
    injection e with e
    have e : w.heap.size = ad.block := e
    omega
theorem infoPt : (Tryz.prog.info? 25).map (fun i => (i.zero, i.size, i.bytes)) = some (some (.slice none 0 0), 1, 24) := by kernel_rfl
theorem ptCells_one1 (x : Pt) : ∀ u ∈ ptCells x, u.oneCell' = true := by intro u hu; simp [ptCells] at hu; rw [hu]; rfl
/-- Parts of a literal put behind others. -/
theorem wpList_append_parts {w : World} {ops : Array Oper} {rest : List Oper} {o : Oper} {a : Act} {Q : Exit → Act → World → Prop} (hgd : o.guard = none) (s x : Operand)
    (ho : o.op = .call { callee := .builtin .append, args := #[s, x], argTypes := #[38, 38] })
    (base : Nat) {a1 : Option Addr} {n1 c1 : Nat} {ps : List Pt} (hs : a.eval s = .slice a1 n1 c1) (hown : Parts w base a1 n1 c1 ps)
    (g m : Nat) (cs : Array Value) (qs : List Pt) (hm : qs.length = m) (hk : w.heap[g]? = some (.cells cs 25 (0, 0))) (hcs : cs.toList = qs.flatMap ptCells) (hx : a.eval x = .slice (some ⟨g, 0, none⟩) m m)
    (hq : ∀ q ∈ qs, BytesIn w w.heap.size q.ao q.data ∧ (q.data ≠ [] → ∀ ad, q.ao = some ad → (Value.slice a1 n1 c1).ownBlock ≠ some ad.block) ∧ PtOk q) (hlim : n1 + m ≤ 100000000) (hbase : base ≤ w.heap.size)
    (h : ∀ a2 c2 w', Parts w' base a2 (n1 + m) c2 (ps ++ qs) → w.grownBy w' (Value.slice a1 n1 c1).ownBlock → wpList Tryz.prog ops Q rest (a.put o.dst (.slice a2 (n1 + m) c2)) w') : wpList Tryz.prog ops Q (o :: rest) a w := by
  have hg : g < w.heap.size := (Array.getElem?_eq_some_iff.1 hk).1
  refine wpList_append_rows Tryz.underlying38 infoPt rfl (by decide) ptCells_len ptCells_one1 hgd s x ho base _ n1 (ps.flatMap ptCells) hs hown.row (some ⟨g, 0, none⟩) m m qs hm hx w.heap.size (rowsIn_block (sub := ptSub) ptCells_len qs cs hk hcs hg (fun q hq' => (hq q hq').1)) (fun h => by cases h) (by unfold maxLen; omega) (by omega) hbase ?_
  intro v' w' h1 h2 h3
  obtain ⟨a2, c2, rfl, hp⟩ := hown.grow hm hq h1 h2 h3
  exact h a2 c2 w' hp h2
theorem oper_append_parts {w : World} {o : Oper} {a : Act} {K : Act → World → Prop} {Q : Exit → Act → World → Prop} (s x : Operand)
    (ho : o.op = .call { callee := .builtin .append, args := #[s, x], argTypes := #[38, 38] })
    (base : Nat) {a1 : Option Addr} {n1 c1 : Nat} {ps : List Pt} (hs : a.eval s = .slice a1 n1 c1) (hown : Parts w base a1 n1 c1 ps)
    (g m : Nat) (cs : Array Value) (qs : List Pt) (hm : qs.length = m) (hk : w.heap[g]? = some (.cells cs 25 (0, 0))) (hcs : cs.toList = qs.flatMap ptCells) (hx : a.eval x = .slice (some ⟨g, 0, none⟩) m m)
    (hq : ∀ q ∈ qs, BytesIn w w.heap.size q.ao q.data ∧ (q.data ≠ [] → ∀ ad, q.ao = some ad → (Value.slice a1 n1 c1).ownBlock ≠ some ad.block) ∧ PtOk q) (hlim : n1 + m ≤ 100000000) (hbase : base ≤ w.heap.size)
    (h : ∀ a2 c2 w', Parts w' base a2 (n1 + m) c2 (ps ++ qs) → w.grownBy w' (Value.slice a1 n1 c1).ownBlock → K (a.put o.dst (.slice a2 (n1 + m) c2)) w') : Oper.wp Tryz.prog o a w K Q := by
  have hg : g < w.heap.size := (Array.getElem?_eq_some_iff.1 hk).1
  obtain ⟨i0, hi, hz0, hz1, hz2⟩ := info_parts infoPt
  have hin := rowsIn_block (sub := ptSub) (B := w.heap.size) ptCells_len qs cs hk hcs hg (fun q hq' => (hq q hq').1)
  obtain ⟨v', w', hr, h2, h3, _, h5⟩ := run_append_own_at (P := Tryz.prog) w base 38 o.type 25 i0 (.slice none 0 0) 1 24 Tryz.underlying38 hi hz0 hz1 hz2 rfl (by decide) _ n1 (ps.flatMap ptCells) hown.row ⟨g, 0, none⟩ m m (qs.flatMap ptCells) (by rw [flat_len ptCells_len, hm]) (fun j u hu => cells_of_rows ptCells_len (by decide) hin (Below.refl _ _) rfl hu) (fun u hu => by obtain ⟨y, _, hy⟩ := List.mem_flatMap.1 hu; exact ptCells_one1 y u hy) (by unfold maxLen; omega) (by omega) hbase
  unfold Oper.wp execOp
  simp only [ho, resolve, invoke, builtin, Sem.run_bind, Sem.run_pure, Result.andThen_ok, List.map_toArray, List.map_cons, List.map_nil, hs, hx, hr]
  obtain ⟨a2, c2, rfl, hp⟩ := hown.grow hm hq h2 h3 h5
  exact h a2 c2 w' hp h3
theorem arg_two {w : World} {p q : Pt} {v : Value} (h1 : BytesIn w w.heap.size p.ao p.data) (h2 : BytesIn w w.heap.size q.ao q.data) (hf1 : ∀ ad, p.ao = some ad → v.ownBlock ≠ some ad.block) (hf2 : q.data ≠ [] → ∀ ad, q.ao = some ad → v.ownBlock ≠ some ad.block) (ho1 : PtOk p) (ho2 : PtOk q) :
    ∀ x ∈ [p, q], BytesIn w w.heap.size x.ao x.data ∧ (x.data ≠ [] → ∀ ad, x.ao = some ad → v.ownBlock ≠ some ad.block) ∧ PtOk x := by
  intro x hx
  simp only [List.mem_cons, List.not_mem_nil, or_false] at hx
  rcases hx with rfl | rfl
  · exact ⟨h1, fun _ => hf1, ho1⟩
  · exact ⟨h2, hf2, ho2⟩
theorem pt_own {w' : World} {B c : Nat} {a1 : Option Addr} {L : List Int} (ho : w'.ownsRow B 5 1 (.slice a1 L.length c) L.length (L.map bv)) (hw : BytesWf L) : PtOk ⟨a1, c, L⟩ ∧ BytesIn w' w'.heap.size a1 L :=
  ⟨⟨hw, own_none ho, own_capG ho⟩, own_bytes' ho⟩
theorem far_own {w w' : World} {base n c B m c1 : Nat} {a a1 : Option Addr} {ps : List Pt} {xs : List Value} (hP : Parts w base a n c ps) (ho : w'.ownsRow B 5 1 (.slice a1 m c1) m xs) (hB : w.heap.size ≤ B) : ∀ ad, a1 = some ad → (Value.slice a n c).ownBlock ≠ some ad.block := by
  intro ad had e
  have h1 := (hP.lt _ e).2
  have h2 := (World.ownsRow.lt ho ad.block (by rw [had]; rfl)).1
  omega
theorem nums8_len (xs : List Int) : (xs.flatMap (numB 8)).length = 8 * xs.length := by
  induction xs with
  | nil => rfl
  | cons x xs ih => rw [List.flatMap_cons, List.length_append, numB_len, ih, List.length_cons]; omega
theorem entryB_len (e : EnP) : (entryB e).length = 42 + e.text.size + (valuesB e.args).length + 8 * e.vs.length := by
  have h8 := nums8_len e.vs
  simp only [entryB, List.length_append, List.length_cons, numB_len, commandB_len, h8]
  omega
theorem flat_bound {es : List En} {M : Nat} (h : ∀ e ∈ es, (entryB e.plain).length ≤ M) : ((es.map En.plain).flatMap entryB).length ≤ es.length * M := by
  induction es with
  | nil => simp
  | cons e es ih =>
    rw [List.map_cons, List.flatMap_cons, List.length_append, List.length_cons, Nat.succ_mul]
    have h1 := h e (by simp)
    have h2 := ih (fun x hx => h x (List.mem_cons_of_mem _ hx))
    omega
theorem u8_same {x : Int} (h : 0 ≤ x ∧ x < 256) : IntKind.u8.wrap x = x := by
  unfold IntKind.wrap
  simp [IntKind.signed, IntKind.bits]
  omega
end Go.Proofs.YtglgcjkglhlggaaGreatDoor
