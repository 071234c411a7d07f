/- A snap's reading. Conditions: the bytes lie as they read. -/
import Derived.Test.YtejgebpdipnhmaaGreatDoorGSnapNumbers9
import Derived.Deep.DeepCutAuto
set_option linter.unusedVariables false
set_option linter.unusedSimpArgs false
namespace Go.Proofs.YtejgebpdipnhmaaGreatDoor
open Go.RowKit
set_option maxRecDepth 20000
set_option maxHeartbeats 8000000 in
/-- snap.Get. -/
theorem sget_any (ao : Option Addr) (n cap : Nat) (b : List Int) (w : World) (hn : b.length = n) (hx : BytesIn w w.heap.size ao b) (hw : BytesWf b) (hnil : ao = none → cap = 0) (hcap : n ≤ cap) (hl : n ≤ 3000000) (r : SnP × Int) (hr : snGet b = r) :
    Calls Tryz.prog 9 #[.slice ao n cap] w (SGetAt r w) := by
  have hb1 := (Below.refl w.heap.size w).alloc (Nat.le_refl _) (.cells #[.int .i64 0, .int .i64 0, .slice none 0 0, .slice none 0 0] 26)
  have hk1 := heap_alloc_new w (.cells #[.int .i64 0, .int .i64 0, .slice none 0 0, .slice none 0 0] 26)
  have hs1 : (w.alloc (.cells #[.int .i64 0, .int .i64 0, .slice none 0 0, .slice none 0 0] 26)).heap.size = w.heap.size + 1 := by simp
  obtain ⟨⟨ps, used, sp⟩, hsc⟩ : ∃ r, scanS b = r := ⟨_, rfl⟩
  have hsp := scanS_put hw
  have hfn := snGet_fine hw
  have hr2 : snBy b n ps used = r := by rw [← snGet_by hn hsc]; exact hr
  rw [hr] at hfn
  rw [hsc] at hsp
  rw [hn] at hfn
  have HB1 := Lib.hid hb1
  have HK1 := Lib.hid hk1
  have HS1 : w.heap.size + 1 ≤ (w.alloc (.cells #[.int .i64 0, .int .i64 0, .slice none 0 0, .slice none 0 0] 26)).heap.size := Nat.le_of_eq hs1.symm
  have HN := Lib.hid hn
  have HX := Lib.hid hx
  have HW := Lib.hid hw
  have HSC := Lib.hid hsc
  have HR := Lib.hid hr2
  have HFN := Lib.hid hfn
  have HSP := Lib.hid hsp
  clear hb1 hk1 hs1 hn hx hw hsc hr hr2 hfn hsp
  obtain ⟨pl, hpl⟩ : ∃ k, ps.length = k := ⟨_, rfl⟩
  go_enter Tryz.func9, Tryz.ntmps9
  go_wp2_with fail
  generalize w.alloc (.cells #[.int .i64 0, .int .i64 0, .slice none 0 0, .slice none 0 0] 26) = w1 at HB1 HK1 HS1 ⊢
  refine (scan_by ao n cap b ps used sp w1 HN.out HSC.out ((HX.out.below HB1.out (Nat.le_refl _)).mono HB1.out.size) HW.out hnil hcap (by omega)).mono ?_
  rintro e w2 ⟨a2, c2, frs, rfl, hfp, hfr, hfc, hb2⟩
  have hz2 := hb2.size
  have HK2 := Lib.hid ((hb2.block w.heap.size (by omega)).trans HK1.out)
  have HB2 := Lib.hid (HB1.out.trans (hb2.mono (by omega)))
  have HX2 := Lib.hid ((HX.out.below HB2.out (Nat.le_refl _)).mono HB2.out.size)
  have hz02 := HB2.out.size
  have HFP := Lib.hid hfp
  have HFR := Lib.hid hfr
  have HFC := Lib.hid hfc
  clear hb2 hfp hfr hfc HX
  rw [hpl]
  have HPL := Lib.hid hpl
  clear hpl
  have hu0 := Go.Joins.unfrozen_of_block HK2.out 0
  have hu1 := Go.Joins.unfrozen_of_block HK2.out 1
  have hu2 := Go.Joins.unfrozen_of_block HK2.out 2
  have hu3 := Go.Joins.unfrozen_of_block HK2.out 3
  have hc0 := Go.Joins.cell_of_block HK2.out 0
  have hc1 := Go.Joins.cell_of_block HK2.out 1
  have hc2 := Go.Joins.cell_of_block HK2.out 2
  have hc3 := Go.Joins.cell_of_block HK2.out 3
  by_cases h1 : pl = 1
  · subst h1
    obtain ⟨p, hps⟩ : ∃ p, ps = [p] := by
      have h := HPL.out
      match ps, h with
      | [p], _ => exact ⟨p, rfl⟩
    subst hps
    obtain ⟨pk, d⟩ := p
    obtain ⟨fa, fc, hfs⟩ := pair_one HFP.out
    by_cases hun : used = n
    · have hr3 : snRead b d = r := by
        have h := HR.out
        rw [hun, snBy_one] at h
        exact h
      have HR3 := Lib.hid hr3
      have hfr := HFR.out
      rw [hfs] at hfr
      have hfc := HFC.out ⟨pk, fa, fc, d⟩ (by rw [hfs]; simp)
      dsimp only at hfc
      rcases hfr with h0 | ⟨fb, off, ha2, hfb, hfi⟩
      · cases h0
      obtain ⟨_, k1, hd⟩ := hfi 0 (by simp)
      simp only [List.getD_cons_zero, Nat.zero_mul, Nat.add_zero] at k1 hd
      have hdw : BytesWf d := (HSP.out.2.2 (pk, d) (by simp)).2.2.2
      have hdl : d.length ≤ b.length := by
        have e := HSP.out.2.1
        have := congrArg List.length e
        rw [List.length_take] at this
        simp only [putP, List.flatMap_cons, List.flatMap_nil, List.append_nil, frameB_len] at this
        omega
      rw [HN.out] at hdl
      obtain ⟨dl, hdlq⟩ : ∃ k, d.length = k := ⟨_, rfl⟩
      rw [hdlq] at k1 hdl hfc
      have HDL := Lib.hid hdlq
      have HD := Lib.hid hd
      have HDW := Lib.hid hdw
      have HFC2 := Lib.hid hfc
      subst ha2
      subst hun
      clear hr3 hfs hfc hfi hd hdw hdlq HR HFR HFC HFP HPL
      go_wp2_with fail
      refine (newReader_any fa dl fc d w2 w2.heap.size HDL.out HD.out (Nat.le_refl _) HFC2.out.2 (by omega)).mono ?_
      rintro e w3 ⟨rb, rfl, hrb2, hrd, hb3⟩
      have hrbl := hrd.lt
      have hb4 := (Below.refl w3.heap.size w3).alloc (Nat.le_refl _) (.cells #[.pointer (some ⟨rb, 0, none⟩)] 62)
      have bx4 := heap_alloc_new w3 (.cells #[.pointer (some ⟨rb, 0, none⟩)] 62)
      have HB4 := Lib.hid hb4
      have HBX4 := Lib.hid bx4
      have HRD := Lib.hid hrd
      have HB3 := Lib.hid hb3
      clear hb4 bx4 hrd hb3
      go_upto_region 6 with fail
      generalize w3.alloc (.cells #[.pointer (some ⟨rb, 0, none⟩)] 62) = w4 at HB4 HBX4 ⊢
      obtain ⟨r8, hr8⟩ : ∃ k, w3.heap.size = k := ⟨_, rfl⟩
      rw [hr8] at HBX4 hrbl ⊢
      have hz23 := HB3.out.size
      have rx4 := HRD.out.below HB4.out
      have cx4 := HB3.out.trans (HB4.out.mono hz23)
      have bx4 := HBX4.out
      have gz4 := (Array.getElem?_eq_some_iff.1 bx4).1
      have hr82 : w2.heap.size ≤ r8 := by omega
      clear hr8 HB4 HBX4 HRD HB3 hz23
      obtain ⟨⟨ni, bi, li⟩, hni⟩ : ∃ q, numS false d = q := ⟨_, rfl⟩
      obtain ⟨⟨nt, bt, lt⟩, hnt⟩ : ∃ q, numS bi li = q := ⟨_, rfl⟩
      obtain ⟨⟨nn, bn, ln⟩, hnn⟩ : ∃ q, numS bt lt = q := ⟨_, rfl⟩
      have q0 := numS_shrinks false d HDW.out
      rw [hni] at q0
      have q1 := numS_shrinks bi li q0.1
      rw [hnt] at q1
      have q2 := numS_shrinks bt lt q1.1
      rw [hnn] at q2
      dsimp only at q0 q1 q2
      have HS0 := Lib.hid hni
      have HS1 := Lib.hid hnt
      have HS2 := Lib.hid hnn
      have HW0 := HDW
      have HW1 := Lib.hid q0.1
      have HW2 := Lib.hid q1.1
      have HW3 := Lib.hid q2.1
      have HL0 : d.length ≤ 140737488351232 := by rw [HDL.out]; omega
      have HL1 : li.length ≤ 140737488351232 := Nat.le_trans q0.2 HL0
      have HL2 : lt.length ≤ 140737488351232 := Nat.le_trans q1.2 HL1
      have HL3 : ln.length ≤ 140737488351232 := Nat.le_trans q2.2 HL2
      clear hni hnt hnn q0 q1 q2
      go_cut [9] (fun v wq => ∃ g, v = .pointer (some ⟨g, 0, none⟩) ∧ r8 < g ∧ Rdr wq rb rb bt lt ∧ wq.heap[r8]? = some (.cells #[.pointer (some ⟨rb, 0, none⟩)] 62 (0, 0)) ∧ wq.heap[g]? = some (.cells #[.int .i64 ni, .int .i64 nt, .slice none 0 0, .slice none 0 0] 26 (0, 0)) ∧ Below w2.heap.size w2 wq)
      case first =>
        refine heldS_begin (fun w' => w'.heap[r8]? = some (.cells #[.pointer (some ⟨rb, 0, none⟩)] 62 (0, 0))) (by kernel_rfl) (bx4) ?_
        intro hS0
        (first | (refine takeS_no 0 rfl (by kernel_rfl) (by kernel_rfl) (by kernel_rfl) (fun _ _ _ h => h) (by rfl) (by assumption) ?_) | (refine takeS_yes (v := ?_) 0 rfl (by kernel_rfl) (by kernel_rfl) (by kernel_rfl) (fun _ _ _ h => h) (by rfl) (by assumption) ?_ ?_; rotate_left; focus (intro wS hSw; have hq8 := Go.Joins.cell_of_block hSw 0; go_simp; first | done | with_reducible rfl)))
        (try simp only [Act.put, List.setIfInBounds_toArray, List.set_cons_zero, List.set_cons_succ])
        (first | (refine takeS_no 2 rfl (by kernel_rfl) (by kernel_rfl) (by kernel_rfl) (fun _ _ _ h => h) (by rfl) (by assumption) ?_) | (refine takeS_yes (v := ?_) 2 rfl (by kernel_rfl) (by kernel_rfl) (by kernel_rfl) (fun _ _ _ h => h) (by rfl) (by assumption) ?_ ?_; rotate_left; focus (intro wS hSw; have hq8 := Go.Joins.cell_of_block hSw 0; go_simp; first | done | with_reducible rfl)))
        (try simp only [Act.put, List.setIfInBounds_toArray, List.set_cons_zero, List.set_cons_succ])
        have hbd : Below w4.heap.size w4 w4.drew := (Below.refl _ _).drew
        have bxw5 := (hbd.block r8 gz4).trans bx4
        have rxw5 := rx4.below hbd
        have cxw5 := cx4.trans (hbd.mono cx4.size)
        have gzw5 := Nat.lt_of_lt_of_le gz4 hbd.size
        generalize w4.drew = w5 at hS0 bxw5 rxw5 cxw5 gzw5 ⊢
        refine takeS_two 1 5 rfl rfl (by kernel_rfl) (by rfl) (by rfl) (fun K hK => ?_) (fun K hK => ?_)
        rotate_left
        focus
          go_simp
          (have kgw6 := heap_alloc_new w5 (.cells #[.int .i64 0, .int .i64 0, .slice none 0 0, .slice none 0 0] 26); have bbw6 := (Below.refl w5.heap.size w5).alloc (Nat.le_refl _) (.cells #[.int .i64 0, .int .i64 0, .slice none 0 0, .slice none 0 0] 26); generalize w5.alloc (.cells #[.int .i64 0, .int .i64 0, .slice none 0 0, .slice none 0 0] 26) = w6 at kgw6 bbw6 ⊢; obtain ⟨g, hg⟩ : ∃ g, w5.heap.size = g := ⟨_, rfl⟩; rw [hg] at kgw6 ⊢; have hgl : r8 < g := (by omega); have rxw6 := rxw5.below bbw6; have bxw6 := (bbw6.block r8 gzw5).trans bxw5; have cxw6 := cxw5.trans (bbw6.mono (by omega)); have gzw6 := Nat.lt_of_lt_of_le gzw5 bbw6.size; have hzw6 := bbw6.size; clear hg)
          refine hK.out _ _ (by assumption) ?_
          clear hK K
          (try simp only [Act.put, List.setIfInBounds_toArray, List.set_cons_zero, List.set_cons_succ])
          refine takeS_alone 1 rfl (by kernel_rfl) (by rfl) (fun K hK => ?_)
          go_simp
          (refine (snumber_any rb rb false d ni bi li w6 HS0.out rxw6 HW0.out HL0).mono ?_; rintro e w7 ⟨rfl, rxw7, ow7⟩; have bxw7 := (ow7.2 r8 gzw6 (by omega)).trans bxw6; have cxw7 := cxw6.trans (ow7.toBelow (by omega) hrb2); have gzw7 := Nat.lt_of_lt_of_le gzw6 ow7.1; have hzw7 := ow7.1; have kgw7 := (ow7.2 g (Array.getElem?_eq_some_iff.1 kgw6).1 (by omega)).trans kgw6; skip)
          refine hK.out _ _ (by assumption) ?_
          clear hK K
          (try simp only [Act.put, List.setIfInBounds_toArray, List.set_cons_zero, List.set_cons_succ])
          refine takeS_alone 3 rfl (by kernel_rfl) (by rfl) (fun K hK => ?_)
          go_simp
          (refine (snumber_any rb rb bi li nt bt lt w7 HS1.out rxw7 HW1.out HL1).mono ?_; rintro e w8 ⟨rfl, rxw8, ow8⟩; have bxw8 := (ow8.2 r8 gzw7 (by omega)).trans bxw7; have cxw8 := cxw7.trans (ow8.toBelow (by omega) hrb2); have gzw8 := Nat.lt_of_lt_of_le gzw7 ow8.1; have hzw8 := ow8.1; have kgw8 := (ow8.2 g (Array.getElem?_eq_some_iff.1 kgw7).1 (by omega)).trans kgw7; skip)
          refine hK.out _ _ (by assumption) ?_
          clear hK K
          (try simp only [Act.put, List.setIfInBounds_toArray, List.set_cons_zero, List.set_cons_succ])
          (first | (refine takeS_no 4 rfl (by kernel_rfl) (by kernel_rfl) (by kernel_rfl) (fun _ _ _ h => h) (by rfl) (by assumption) ?_) | (refine takeS_yes (v := ?_) 4 rfl (by kernel_rfl) (by kernel_rfl) (by kernel_rfl) (fun _ _ _ h => h) (by rfl) (by assumption) ?_ ?_; rotate_left; focus (intro wS hSw; go_simp; first | done | with_reducible rfl)))
          (try simp only [Act.put, List.setIfInBounds_toArray, List.set_cons_zero, List.set_cons_succ])
          have hu0 := Go.Joins.unfrozen_of_block kgw8 0
          have hu1 := Go.Joins.unfrozen_of_block kgw8 1
          have hu2 := Go.Joins.unfrozen_of_block kgw8 2
          have hu3 := Go.Joins.unfrozen_of_block kgw8 3
          have hc0 := Go.Joins.cell_of_block kgw8 0
          have hc1 := Go.Joins.cell_of_block kgw8 1
          have hc2 := Go.Joins.cell_of_block kgw8 2
          have hc3 := Go.Joins.cell_of_block kgw8 3
          refine takeS_alone 6 rfl (by kernel_rfl) (by rfl) (fun K hK => ?_)
          go_simp
          have hk5 := block_four (a := .int .i64 ni) (b := .int .i64 nt) (c := .slice none 0 0) (d := .slice none 0 0) kgw8
          have hg5 := grown_four (w := w8) (g := g) (a := .int .i64 ni) (b := .int .i64 nt) (c := .slice none 0 0) (d := .slice none 0 0)
          have hrx := ((rxw8.other (g := g) (i := 0) (by omega) (by omega) (.int .i64 ni)).other (g := g) (i := 1) (by omega) (by omega) (.int .i64 nt)).other (g := g) (i := 2) (by omega) (by omega) (.slice none 0 0) |>.other (g := g) (i := 3) (by omega) (by omega) (.slice none 0 0)
          generalize (((w8.setCell ⟨g, 0, none⟩ (.int .i64 ni)).setCell ⟨g, 1, none⟩ (.int .i64 nt)).setCell ⟨g, 2, none⟩ (.slice none 0 0)).setCell ⟨g, 3, none⟩ (.slice none 0 0) = w9 at hk5 hg5 hrx ⊢
          have bx9 := (hg5.block r8 gzw8 (by simp; omega)).trans bxw8
          have cx9 := cxw8.grown hg5 cxw8.size (fun k hk => by cases hk; omega)
          refine hK.out _ _ (by assumption) ?_
          clear hK K
          (try simp only [Act.put, List.setIfInBounds_toArray, List.set_cons_zero, List.set_cons_succ])
          refine wpAnyH_done (by kernel_rfl) ?_ _
          go_wp2_with fail
          go_meet
          exact ⟨g, rfl, hgl, hrx, bx9, hk5, cx9⟩
        rotate_left
        focus
          go_simp
          (refine (snumber_any rb rb false d ni bi li w5 HS0.out rxw5 HW0.out HL0).mono ?_; rintro e w6 ⟨rfl, rxw6, ow6⟩; have bxw6 := (ow6.2 r8 gzw5 (by omega)).trans bxw5; have cxw6 := cxw5.trans (ow6.toBelow (by omega) hrb2); have gzw6 := Nat.lt_of_lt_of_le gzw5 ow6.1; have hzw6 := ow6.1; skip)
          refine hK.out _ _ (by assumption) ?_
          clear hK K
          (try simp only [Act.put, List.setIfInBounds_toArray, List.set_cons_zero, List.set_cons_succ])
          refine takeS_two 3 5 rfl rfl (by kernel_rfl) (by rfl) (by rfl) (fun K hK => ?_) (fun K hK => ?_)
          rotate_left
          focus
            go_simp
            (have kgw7 := heap_alloc_new w6 (.cells #[.int .i64 0, .int .i64 0, .slice none 0 0, .slice none 0 0] 26); have bbw7 := (Below.refl w6.heap.size w6).alloc (Nat.le_refl _) (.cells #[.int .i64 0, .int .i64 0, .slice none 0 0, .slice none 0 0] 26); generalize w6.alloc (.cells #[.int .i64 0, .int .i64 0, .slice none 0 0, .slice none 0 0] 26) = w7 at kgw7 bbw7 ⊢; obtain ⟨g, hg⟩ : ∃ g, w6.heap.size = g := ⟨_, rfl⟩; rw [hg] at kgw7 ⊢; have hgl : r8 < g := (by omega); have rxw7 := rxw6.below bbw7; have bxw7 := (bbw7.block r8 gzw6).trans bxw6; have cxw7 := cxw6.trans (bbw7.mono (by omega)); have gzw7 := Nat.lt_of_lt_of_le gzw6 bbw7.size; have hzw7 := bbw7.size; clear hg)
            refine hK.out _ _ (by assumption) ?_
            clear hK K
            (try simp only [Act.put, List.setIfInBounds_toArray, List.set_cons_zero, List.set_cons_succ])
            refine takeS_alone 3 rfl (by kernel_rfl) (by rfl) (fun K hK => ?_)
            go_simp
            (refine (snumber_any rb rb bi li nt bt lt w7 HS1.out rxw7 HW1.out HL1).mono ?_; rintro e w8 ⟨rfl, rxw8, ow8⟩; have bxw8 := (ow8.2 r8 gzw7 (by omega)).trans bxw7; have cxw8 := cxw7.trans (ow8.toBelow (by omega) hrb2); have gzw8 := Nat.lt_of_lt_of_le gzw7 ow8.1; have hzw8 := ow8.1; have kgw8 := (ow8.2 g (Array.getElem?_eq_some_iff.1 kgw7).1 (by omega)).trans kgw7; skip)
            refine hK.out _ _ (by assumption) ?_
            clear hK K
            (try simp only [Act.put, List.setIfInBounds_toArray, List.set_cons_zero, List.set_cons_succ])
            (first | (refine takeS_no 4 rfl (by kernel_rfl) (by kernel_rfl) (by kernel_rfl) (fun _ _ _ h => h) (by rfl) (by assumption) ?_) | (refine takeS_yes (v := ?_) 4 rfl (by kernel_rfl) (by kernel_rfl) (by kernel_rfl) (fun _ _ _ h => h) (by rfl) (by assumption) ?_ ?_; rotate_left; focus (intro wS hSw; go_simp; first | done | with_reducible rfl)))
            (try simp only [Act.put, List.setIfInBounds_toArray, List.set_cons_zero, List.set_cons_succ])
            have hu0 := Go.Joins.unfrozen_of_block kgw8 0
            have hu1 := Go.Joins.unfrozen_of_block kgw8 1
            have hu2 := Go.Joins.unfrozen_of_block kgw8 2
            have hu3 := Go.Joins.unfrozen_of_block kgw8 3
            have hc0 := Go.Joins.cell_of_block kgw8 0
            have hc1 := Go.Joins.cell_of_block kgw8 1
            have hc2 := Go.Joins.cell_of_block kgw8 2
            have hc3 := Go.Joins.cell_of_block kgw8 3
            refine takeS_alone 6 rfl (by kernel_rfl) (by rfl) (fun K hK => ?_)
            go_simp
            have hk5 := block_four (a := .int .i64 ni) (b := .int .i64 nt) (c := .slice none 0 0) (d := .slice none 0 0) kgw8
            have hg5 := grown_four (w := w8) (g := g) (a := .int .i64 ni) (b := .int .i64 nt) (c := .slice none 0 0) (d := .slice none 0 0)
            have hrx := ((rxw8.other (g := g) (i := 0) (by omega) (by omega) (.int .i64 ni)).other (g := g) (i := 1) (by omega) (by omega) (.int .i64 nt)).other (g := g) (i := 2) (by omega) (by omega) (.slice none 0 0) |>.other (g := g) (i := 3) (by omega) (by omega) (.slice none 0 0)
            generalize (((w8.setCell ⟨g, 0, none⟩ (.int .i64 ni)).setCell ⟨g, 1, none⟩ (.int .i64 nt)).setCell ⟨g, 2, none⟩ (.slice none 0 0)).setCell ⟨g, 3, none⟩ (.slice none 0 0) = w9 at hk5 hg5 hrx ⊢
            have bx9 := (hg5.block r8 gzw8 (by simp; omega)).trans bxw8
            have cx9 := cxw8.grown hg5 cxw8.size (fun k hk => by cases hk; omega)
            refine hK.out _ _ (by assumption) ?_
            clear hK K
            (try simp only [Act.put, List.setIfInBounds_toArray, List.set_cons_zero, List.set_cons_succ])
            refine wpAnyH_done (by kernel_rfl) ?_ _
            go_wp2_with fail
            go_meet
            exact ⟨g, rfl, hgl, hrx, bx9, hk5, cx9⟩
          rotate_left
          focus
            go_simp
            (refine (snumber_any rb rb bi li nt bt lt w6 HS1.out rxw6 HW1.out HL1).mono ?_; rintro e w7 ⟨rfl, rxw7, ow7⟩; have bxw7 := (ow7.2 r8 gzw6 (by omega)).trans bxw6; have cxw7 := cxw6.trans (ow7.toBelow (by omega) hrb2); have gzw7 := Nat.lt_of_lt_of_le gzw6 ow7.1; have hzw7 := ow7.1; skip)
            refine hK.out _ _ (by assumption) ?_
            clear hK K
            (try simp only [Act.put, List.setIfInBounds_toArray, List.set_cons_zero, List.set_cons_succ])
            (first | (refine takeS_no 4 rfl (by kernel_rfl) (by kernel_rfl) (by kernel_rfl) (fun _ _ _ h => h) (by rfl) (by assumption) ?_) | (refine takeS_yes (v := ?_) 4 rfl (by kernel_rfl) (by kernel_rfl) (by kernel_rfl) (fun _ _ _ h => h) (by rfl) (by assumption) ?_ ?_; rotate_left; focus (intro wS hSw; go_simp; first | done | with_reducible rfl)))
            (try simp only [Act.put, List.setIfInBounds_toArray, List.set_cons_zero, List.set_cons_succ])
            refine takeS_alone 5 rfl (by kernel_rfl) (by rfl) (fun K hK => ?_)
            go_simp
            (have kgw8 := heap_alloc_new w7 (.cells #[.int .i64 0, .int .i64 0, .slice none 0 0, .slice none 0 0] 26); have bbw8 := (Below.refl w7.heap.size w7).alloc (Nat.le_refl _) (.cells #[.int .i64 0, .int .i64 0, .slice none 0 0, .slice none 0 0] 26); generalize w7.alloc (.cells #[.int .i64 0, .int .i64 0, .slice none 0 0, .slice none 0 0] 26) = w8 at kgw8 bbw8 ⊢; obtain ⟨g, hg⟩ : ∃ g, w7.heap.size = g := ⟨_, rfl⟩; rw [hg] at kgw8 ⊢; have hgl : r8 < g := (by omega); have rxw8 := rxw7.below bbw8; have bxw8 := (bbw8.block r8 gzw7).trans bxw7; have cxw8 := cxw7.trans (bbw8.mono (by omega)); have gzw8 := Nat.lt_of_lt_of_le gzw7 bbw8.size; have hzw8 := bbw8.size; clear hg)
            refine hK.out _ _ (by assumption) ?_
            clear hK K
            (try simp only [Act.put, List.setIfInBounds_toArray, List.set_cons_zero, List.set_cons_succ])
            have hu0 := Go.Joins.unfrozen_of_block kgw8 0
            have hu1 := Go.Joins.unfrozen_of_block kgw8 1
            have hu2 := Go.Joins.unfrozen_of_block kgw8 2
            have hu3 := Go.Joins.unfrozen_of_block kgw8 3
            have hc0 := Go.Joins.cell_of_block kgw8 0
            have hc1 := Go.Joins.cell_of_block kgw8 1
            have hc2 := Go.Joins.cell_of_block kgw8 2
            have hc3 := Go.Joins.cell_of_block kgw8 3
            refine takeS_alone 6 rfl (by kernel_rfl) (by rfl) (fun K hK => ?_)
            go_simp
            have hk5 := block_four (a := .int .i64 ni) (b := .int .i64 nt) (c := .slice none 0 0) (d := .slice none 0 0) kgw8
            have hg5 := grown_four (w := w8) (g := g) (a := .int .i64 ni) (b := .int .i64 nt) (c := .slice none 0 0) (d := .slice none 0 0)
            have hrx := ((rxw8.other (g := g) (i := 0) (by omega) (by omega) (.int .i64 ni)).other (g := g) (i := 1) (by omega) (by omega) (.int .i64 nt)).other (g := g) (i := 2) (by omega) (by omega) (.slice none 0 0) |>.other (g := g) (i := 3) (by omega) (by omega) (.slice none 0 0)
            generalize (((w8.setCell ⟨g, 0, none⟩ (.int .i64 ni)).setCell ⟨g, 1, none⟩ (.int .i64 nt)).setCell ⟨g, 2, none⟩ (.slice none 0 0)).setCell ⟨g, 3, none⟩ (.slice none 0 0) = w9 at hk5 hg5 hrx ⊢
            have bx9 := (hg5.block r8 gzw8 (by simp; omega)).trans bxw8
            have cx9 := cxw8.grown hg5 cxw8.size (fun k hk => by cases hk; omega)
            refine hK.out _ _ (by assumption) ?_
            clear hK K
            (try simp only [Act.put, List.setIfInBounds_toArray, List.set_cons_zero, List.set_cons_succ])
            refine wpAnyH_done (by kernel_rfl) ?_ _
            go_wp2_with fail
            go_meet
            exact ⟨g, rfl, hgl, hrx, bx9, hk5, cx9⟩
      case rest =>
      obtain ⟨g, rfl, hgl, rx, bx, kg, cx⟩ := hcut
      have hr5 := HR3.out
      rw [snRead_by HS0.out HS1.out HS2.out] at hr5
      have HR5 := Lib.hid hr5
      have q8 := Go.Joins.cell_of_block bx 0
      have RX := Lib.hid rx
      have BX := Lib.hid bx
      have KG := Lib.hid kg
      have CX := Lib.hid cx
      clear hr5 rx bx kg cx HR3 rx4 cx4 bx4 gz4
      go_wp2_with fail
      refine (snumber_any rb rb bt lt nn bn ln wc HS2.out RX.out HW2.out HL2).mono ?_
      rintro e w5 ⟨rfl, rx5, o5⟩
      have hgw := (Array.getElem?_eq_some_iff.1 KG.out).1
      have BX5 := Lib.hid ((o5.2 r8 (by omega) (by omega)).trans BX.out)
      have KG5 := Lib.hid ((o5.2 g hgw (by omega)).trans KG.out)
      have CX5 := Lib.hid (CX.out.trans (o5.toBelow CX.out.size hrb2))
      have RX5 := Lib.hid rx5
      have hgw5 := (Array.getElem?_eq_some_iff.1 KG5.out).1
      have hk25 := (CX5.out.block w.heap.size (by omega)).trans HK2.out
      have HK5 := Lib.hid hk25
      have HB5 := Lib.hid (HB2.out.trans (CX5.out.mono hz02))
      have q8 := Go.Joins.cell_of_block BX5.out 0
      have hu0 := Go.Joins.unfrozen_of_block HK5.out 0
      have hu1 := Go.Joins.unfrozen_of_block HK5.out 1
      have hu2 := Go.Joins.unfrozen_of_block HK5.out 2
      have hu3 := Go.Joins.unfrozen_of_block HK5.out 3
      have hc0 := Go.Joins.cell_of_block HK5.out 0
      have hc1 := Go.Joins.cell_of_block HK5.out 1
      have hc2 := Go.Joins.cell_of_block HK5.out 2
      have hc3 := Go.Joins.cell_of_block HK5.out 3
      clear rx5 o5 RX BX KG CX hk25
      by_cases hlow : nn < 0
      · go_wp2_with fail
        exact sget_no rfl HK5.out HB5.out rfl rfl (by rw [← HR5.out, if_pos (Or.inl hlow)])
      by_cases hbig : 7 < nn
      · go_wp2_with fail
        exact sget_no rfl HK5.out HB5.out rfl rfl (by rw [← HR5.out, if_pos (Or.inr hbig)])
      have hr5 := HR5.out
      rw [if_neg (by omega)] at hr5
      obtain ⟨N, rfl⟩ : ∃ N : Nat, nn = N := ⟨nn.toNat, by omega⟩
      rw [Int.toNat_natCast] at hr5
      have hN : N ≤ 7 := by omega
      obtain ⟨⟨vT, bT, lT⟩, hT⟩ : ∃ R, numsS N bn ln = R := ⟨_, rfl⟩
      have hhd := head_len HS0.out HS1.out HS2.out N
      have hvN := numsS_N64 N bn ln
      rw [hT] at hr5 hhd hvN
      dsimp only at hr5 hhd hvN
      have HR6 := Lib.hid hr5
      have HT := Lib.hid hT
      have HHD := Lib.hid hhd
      have HVN := Lib.hid hvN
      clear hr5 hT hhd hvN HR5 hlow hbig
      clear hu0 hu1 hu2 hu3 hc0 hc1 hc2 hc3 q8
      have i0 : ¬ ((N : Int) < 0) := by omega
      have i7 : ¬ ((7 : Int) < N) := by omega
      go_wp2_with fail
      go_loopw [51] (fun i wr => ∃ (k : Nat) (va : Option Addr) (vc : Nat) (acc : List Int) (bd : Bool) (lf : List Int), k ≤ N ∧ i = .int .i64 k ∧ acc.length = k ∧ (acc ++ (numsS (N - k) bd lf).1, (numsS (N - k) bd lf).2) = (vT, bT, lT) ∧ IntsOwn wr w5.heap.size va k vc acc ∧ Rdr wr rb rb bd lf ∧ BytesWf lf ∧ lf.length ≤ 140737488351232 ∧
        wr.heap[r8]? = some (.cells #[.pointer (some ⟨rb, 0, none⟩)] 62 (0, 0)) ∧ wr.heap[g]? = some (.cells #[.int .i64 ni, .int .i64 nt, .slice va k vc, .slice none 0 0] 26 (0, 0)) ∧ Below w2.heap.size w2 wr ∧ w5.heap.size ≤ wr.heap.size) (fun i _ => N - (intOf i).toNat)
      case atStart => exact ⟨0, none, 0, [], bn, ln, by omega, rfl, rfl, by rw [Nat.sub_zero, HT.out]; rfl, IntsOwn.nil _ _, RX5.out, HW3.out, HL3, BX5.out, KG5.out, CX5.out, Nat.le_refl _⟩
      case round =>
        clear RX5 BX5 KG5 CX5 HT
        obtain ⟨k, va, vc, acc, bd, lf, hk, rfl, hacc, heq, hown, hrx, hlw, hll, hbx, hkg, hcx, hz5⟩ := hrel
        by_cases hlt : k < N
        · have i1 : (k : Int) < N := by omega
          obtain ⟨m, hm⟩ : ∃ m, N - k = m + 1 := ⟨N - k - 1, by omega⟩
          have hm2 : N - (k + 1) = m := by omega
          obtain ⟨⟨x, b2, l2⟩, hx2⟩ : ∃ q, numS bd lf = q := ⟨_, rfl⟩
          have hsh := numS_shrinks bd lf hlw
          rw [hx2] at hsh
          have heq2 : ((acc ++ [x]) ++ (numsS (N - (k + 1)) b2 l2).1, (numsS (N - (k + 1)) b2 l2).2) = (vT, bT, lT) := by
            rw [hm2, ← heq, hm, numsS, hx2]
            simp
          have HEQ := Lib.hid heq2
          have HX2' := Lib.hid hx2
          have HSH := Lib.hid hsh
          have HA := Lib.hid hacc
          have HLW := Lib.hid hlw
          have HOWN := Lib.hid hown
          have HRX := Lib.hid hrx
          have HBX := Lib.hid hbx
          have HKG := Lib.hid hkg
          have HCX := Lib.hid hcx
          have hgwr := (Array.getElem?_eq_some_iff.1 hkg).1
          have hrwr := (Array.getElem?_eq_some_iff.1 hbx).1
          clear heq heq2 hx2 hsh hacc hlw hown hrx hcx
          go_wp2_with fail
          refine heldS_begin (fun w' => w'.heap[r8]? = some (.cells #[.pointer (some ⟨rb, 0, none⟩)] 62 (0, 0))) (by kernel_rfl) (hbx) ?_
          intro hS0
          (first | (refine takeS_no 0 rfl (by kernel_rfl) (by kernel_rfl) (by kernel_rfl) (fun _ _ _ h => h) (by rfl) (by assumption) ?_) | (refine takeS_yes (v := ?_) 0 rfl (by kernel_rfl) (by kernel_rfl) (by kernel_rfl) (fun _ _ _ h => h) (by rfl) (by assumption) ?_ ?_; rotate_left; focus (intro wS hSw; (have hq8 := Go.Joins.cell_of_block hSw 0); go_simp; first | done | with_reducible rfl)))
          (try simp only [Act.put, List.setIfInBounds_toArray, List.set_cons_zero, List.set_cons_succ])
          (first | (refine takeS_no 2 rfl (by kernel_rfl) (by kernel_rfl) (by kernel_rfl) (fun _ _ _ h => h) (by rfl) (by assumption) ?_) | (refine takeS_yes (v := ?_) 2 rfl (by kernel_rfl) (by kernel_rfl) (by kernel_rfl) (fun _ _ _ h => h) (by rfl) (by assumption) ?_ ?_; rotate_left; focus (intro wS hSw; (have hq8 := Go.Joins.cell_of_block hSw 0); go_simp; first | done | with_reducible rfl)))
          (try simp only [Act.put, List.setIfInBounds_toArray, List.set_cons_zero, List.set_cons_succ])
          have hbd : Below wr.heap.size wr wr.drew := (Below.refl _ _).drew
          have rxa := HRX.out.below hbd
          have owa := HOWN.out.below hbd (Nat.le_refl _)
          have cxa := HCX.out.trans (hbd.mono HCX.out.size)
          have kga : wr.drew.heap[g]? = some (.cells #[.int .i64 ni, .int .i64 nt, .slice va k vc, .slice none 0 0] 26 (0, 0)) := (hbd.block g hgwr).trans hkg
          generalize wr.drew = wa at hS0 rxa owa cxa hbd kga ⊢
          have hza := hbd.size
          have cga := Go.Joins.cell_of_block kga 2
          refine takeS_two 1 3 rfl rfl (by kernel_rfl) (by rfl) (by rfl) (fun K hK => ?_) (fun K hK => ?_)
          rotate_left
          focus
            go_simp
            (refine (snumber_any rb rb bd lf x b2 l2 wa HX2'.out rxa HLW.out hll).mono ?_; rintro e wb ⟨rfl, rxb, ob⟩; have sb : wb.heap[r8]? = some (.cells #[.pointer (some ⟨rb, 0, none⟩)] 62 (0, 0)) := (ob.2 r8 (by omega) (by omega)).trans hS0; have kgb : wb.heap[g]? = some (.cells #[.int .i64 ni, .int .i64 nt, .slice va k vc, .slice none 0 0] 26 (0, 0)) := (ob.2 g (by omega) (by omega)).trans kga; have owb := owa.only ob (by omega); have cxb := cxa.trans (ob.toBelow cxa.size hrb2); have hzb := ob.1; have cgb := Go.Joins.cell_of_block kgb 2)
            refine hK.out _ _ (by assumption) ?_
            clear hK K
            (try simp only [Act.put, List.setIfInBounds_toArray, List.set_cons_zero, List.set_cons_succ])
            refine takeS_two 1 4 rfl rfl (by kernel_rfl) (by rfl) (by rfl) (fun K hK => ?_) (fun K hK => ?_)
            rotate_left
            focus
              go_simp
              (have bb := (Below.refl wb.heap.size wb).alloc (Nat.le_refl _) (.cells #[.int .i64 x] 3); have kc := heap_alloc_new wb (.cells #[.int .i64 x] 3); generalize wb.alloc (.cells #[.int .i64 x] 3) = wd at bb kc ⊢; have sd : wd.heap[r8]? = some (.cells #[.pointer (some ⟨rb, 0, none⟩)] 62 (0, 0)) := (bb.block r8 (by omega)).trans sb; have kgd : wd.heap[g]? = some (.cells #[.int .i64 ni, .int .i64 nt, .slice va k vc, .slice none 0 0] 26 (0, 0)) := (bb.block g (by omega)).trans kgb; have rxd := rxb.below bb; have owd := owb.below bb (Nat.le_refl _); have cxd := cxb.trans (bb.mono cxb.size); have hzd := bb.size; have cgd := Go.Joins.cell_of_block kgd 2)
              refine hK.out _ _ (by assumption) ?_
              clear hK K
              (try simp only [Act.put, List.setIfInBounds_toArray, List.set_cons_zero, List.set_cons_succ])
              refine takeS_alone 1 rfl (by kernel_rfl) (by rfl) (fun K hK => ?_)
              go_simp
              skip
              refine hK.out _ _ (by assumption) ?_
              clear hK K
              (try simp only [Act.put, List.setIfInBounds_toArray, List.set_cons_zero, List.set_cons_succ])
            rotate_left
            focus
              go_simp
              skip
              refine hK.out _ _ (by assumption) ?_
              clear hK K
              (try simp only [Act.put, List.setIfInBounds_toArray, List.set_cons_zero, List.set_cons_succ])
              refine takeS_alone 4 rfl (by kernel_rfl) (by rfl) (fun K hK => ?_)
              go_simp
              (have bb := (Below.refl wb.heap.size wb).alloc (Nat.le_refl _) (.cells #[.int .i64 x] 3); have kc := heap_alloc_new wb (.cells #[.int .i64 x] 3); generalize wb.alloc (.cells #[.int .i64 x] 3) = wd at bb kc ⊢; have sd : wd.heap[r8]? = some (.cells #[.pointer (some ⟨rb, 0, none⟩)] 62 (0, 0)) := (bb.block r8 (by omega)).trans sb; have kgd : wd.heap[g]? = some (.cells #[.int .i64 ni, .int .i64 nt, .slice va k vc, .slice none 0 0] 26 (0, 0)) := (bb.block g (by omega)).trans kgb; have rxd := rxb.below bb; have owd := owb.below bb (Nat.le_refl _); have cxd := cxb.trans (bb.mono cxb.size); have hzd := bb.size; have cgd := Go.Joins.cell_of_block kgd 2)
              refine hK.out _ _ (by assumption) ?_
              clear hK K
              (try simp only [Act.put, List.setIfInBounds_toArray, List.set_cons_zero, List.set_cons_succ])
          rotate_left
          rotate_left
          focus
            go_simp
            skip
            refine hK.out _ _ (by assumption) ?_
            clear hK K
            (try simp only [Act.put, List.setIfInBounds_toArray, List.set_cons_zero, List.set_cons_succ])
            refine takeS_alone 3 rfl (by kernel_rfl) (by rfl) (fun K hK => ?_)
            go_simp
            (refine (snumber_any rb rb bd lf x b2 l2 wa HX2'.out rxa HLW.out hll).mono ?_; rintro e wb ⟨rfl, rxb, ob⟩; have sb : wb.heap[r8]? = some (.cells #[.pointer (some ⟨rb, 0, none⟩)] 62 (0, 0)) := (ob.2 r8 (by omega) (by omega)).trans hS0; have kgb : wb.heap[g]? = some (.cells #[.int .i64 ni, .int .i64 nt, .slice va k vc, .slice none 0 0] 26 (0, 0)) := (ob.2 g (by omega) (by omega)).trans kga; have owb := owa.only ob (by omega); have cxb := cxa.trans (ob.toBelow cxa.size hrb2); have hzb := ob.1; have cgb := Go.Joins.cell_of_block kgb 2)
            refine hK.out _ _ (by assumption) ?_
            clear hK K
            (try simp only [Act.put, List.setIfInBounds_toArray, List.set_cons_zero, List.set_cons_succ])
            refine takeS_alone 4 rfl (by kernel_rfl) (by rfl) (fun K hK => ?_)
            go_simp
            (have bb := (Below.refl wb.heap.size wb).alloc (Nat.le_refl _) (.cells #[.int .i64 x] 3); have kc := heap_alloc_new wb (.cells #[.int .i64 x] 3); generalize wb.alloc (.cells #[.int .i64 x] 3) = wd at bb kc ⊢; have sd : wd.heap[r8]? = some (.cells #[.pointer (some ⟨rb, 0, none⟩)] 62 (0, 0)) := (bb.block r8 (by omega)).trans sb; have kgd : wd.heap[g]? = some (.cells #[.int .i64 ni, .int .i64 nt, .slice va k vc, .slice none 0 0] 26 (0, 0)) := (bb.block g (by omega)).trans kgb; have rxd := rxb.below bb; have owd := owb.below bb (Nat.le_refl _); have cxd := cxb.trans (bb.mono cxb.size); have hzd := bb.size; have cgd := Go.Joins.cell_of_block kgd 2)
            refine hK.out _ _ (by assumption) ?_
            clear hK K
            (try simp only [Act.put, List.setIfInBounds_toArray, List.set_cons_zero, List.set_cons_succ])
          all_goals
            refine takeS_alone 5 rfl (by kernel_rfl) (by rfl) (fun K hK => ?_)
            (refine soper_append_int (.tmp 54) (.tmp 57) rfl w5.heap.size (by rfl) owd wb.heap.size x kc (by rfl) (by omega) (by omega) ?_; intro va2 vc2 we owe hge; have hlo : ∀ q, (Value.slice va k vc).ownBlock = some q → w5.heap.size ≤ q := fun q hq => (World.ownsRow.lt owd q hq).1; have bbe : Below w5.heap.size wd we := (Below.refl _ _).grown hge (by omega) hlo; have se : we.heap[r8]? = some (.cells #[.pointer (some ⟨rb, 0, none⟩)] 62 (0, 0)) := (bbe.block r8 (by omega)).trans sd; have kge : we.heap[g]? = some (.cells #[.int .i64 ni, .int .i64 nt, .slice va k vc, .slice none 0 0] 26 (0, 0)) := (bbe.block g (by omega)).trans kgd; have rxe := rdr_grown rxd bbe (by omega) (by omega); have cxe := cxd.trans (bbe.mono (by omega)); have hze := hge.size; have hug := Go.Joins.unfrozen_of_block kge 2; have hcg := Go.Joins.cell_of_block kge 2)
            refine hK.out _ _ (by assumption) ?_
            clear hK K
            (try simp only [Act.put, List.setIfInBounds_toArray, List.set_cons_zero, List.set_cons_succ])
            (first | (refine takeS_no 6 rfl (by kernel_rfl) (by kernel_rfl) (by kernel_rfl) (fun _ _ _ h => h) (by rfl) (by assumption) ?_) | (refine takeS_yes (v := ?_) 6 rfl (by kernel_rfl) (by kernel_rfl) (by kernel_rfl) (fun _ _ _ h => h) (by rfl) (by assumption) ?_ ?_; rotate_left; focus (intro wS hSw; (have hq8 := Go.Joins.cell_of_block hSw 0); go_simp; first | done | with_reducible rfl)))
            (try simp only [Act.put, List.setIfInBounds_toArray, List.set_cons_zero, List.set_cons_succ])
            refine takeS_alone 7 rfl (by kernel_rfl) (by rfl) (fun K hK => ?_)
            go_simp
            (have kf : (we.setCell ⟨g, 2, none⟩ (.slice va2 (k + 1) vc2)).heap[g]? = some (.cells #[.int .i64 ni, .int .i64 nt, .slice va2 (k + 1) vc2, .slice none 0 0] 26 (0, 0)) := (by have h := Go.Joins.block_setCell (i := 2) kge (.slice va2 (k + 1) vc2); simpa using h); have hgf : we.grownBy _ (some g) := grown_set we ⟨g, 2, none⟩ (.slice va2 (k + 1) vc2); have rxf := rxe.other (g := g) (i := 2) (by omega) (by omega) (.slice va2 (k + 1) vc2); generalize we.setCell ⟨g, 2, none⟩ (.slice va2 (k + 1) vc2) = wf at kf hgf rxf ⊢; have bf := (hgf.block r8 (by omega) (by simp; omega)).trans se; have owf := World.ownsRow.kept owe hgf (Or.inr fun e => by have h1 := (World.ownsRow.lt owe g e).1; omega); have cxf := cxe.grown hgf cxe.size (fun q hq => by cases hq; show w2.heap.size ≤ g; omega); have hzf := hgf.size)
            refine hK.out _ _ (by assumption) ?_
            clear hK K
            (try simp only [Act.put, List.setIfInBounds_toArray, List.set_cons_zero, List.set_cons_succ])
            refine wpAnyH_done (by kernel_rfl) ?_ _
            have HOWF := Lib.hid owf
            have HRXF := Lib.hid rxf
            have HKF := Lib.hid kf
            have HBF := Lib.hid bf
            have HCXF := Lib.hid cxf
            have hz5f : w5.heap.size ≤ wf.heap.size := by omega
            clear owf rxf kf bf cxf hgf cxe se rxe bbe hlo owe hge sd rxd owd cxd bb kc sb owb cxb rxb ob hS0 rxa owa cxa hbd hug hcg hkg hbx kga kgb kgd kge cga cgb cgd
            go_wp2_with fail
            go_roundw
            case rel => exact ⟨k + 1, va2, vc2, acc ++ [x], b2, l2, by omega, by go_num, by rw [List.length_append, HA.out]; rfl, HEQ.out, HOWF.out, HRXF.out, HSH.out.1, Nat.le_trans HSH.out.2 hll, HBF.out, HKF.out, HCXF.out, hz5f⟩
            case measure => simp [intOf] <;> omega
        · have i1 : ¬ (k : Int) < N := by omega
          obtain rfl : k = N := by omega
          rw [Nat.sub_self] at heq
          simp only [numsS, List.append_nil, Prod.mk.injEq] at heq
          obtain ⟨rfl, rfl, rfl⟩ := heq
          have HOWN := Lib.hid hown
          have HRX := Lib.hid hrx
          have HBX := Lib.hid hbx
          have HKG := Lib.hid hkg
          have HCX := Lib.hid hcx
          have HA := Lib.hid hacc
          have q8 := Go.Joins.cell_of_block hbx 0
          have hgwr := (Array.getElem?_eq_some_iff.1 hkg).1
          clear hacc hlw hown hrx hcx hbx hkg
          go_wp2_with fail
          refine (bad_rd rb rb bd lf wr HRX.out).mono ?_
          rintro e w6 ⟨rfl, rfl⟩
          have hKW := (HCX.out.block w.heap.size (by omega)).trans HK2.out
          have HKW := Lib.hid hKW
          have HBW := Lib.hid (HB2.out.trans (HCX.out.mono hz02))
          clear hKW
          cases bd with
          | true =>
            have hu0 := Go.Joins.unfrozen_of_block HKW.out 0
            have hu1 := Go.Joins.unfrozen_of_block HKW.out 1
            have hu2 := Go.Joins.unfrozen_of_block HKW.out 2
            have hu3 := Go.Joins.unfrozen_of_block HKW.out 3
            have hc0 := Go.Joins.cell_of_block HKW.out 0
            have hc1 := Go.Joins.cell_of_block HKW.out 1
            have hc2 := Go.Joins.cell_of_block HKW.out 2
            have hc3 := Go.Joins.cell_of_block HKW.out 3
            go_wp2_with fail
            exact sget_no rfl HKW.out HBW.out rfl rfl (by rw [← HR6.out, if_pos trivial])
          | false =>
            have hr7 := HR6.out
            rw [if_neg (by simp)] at hr7
            have hhd := (HHD.out rfl).1
            rw [HDL.out] at hhd
            obtain ⟨k8, hk8⟩ : ∃ k8 : Nat, 8 * k = k8 := ⟨_, rfl⟩
            obtain ⟨K, hK⟩ : ∃ K : Nat, 24 + k8 = K := ⟨_, rfl⟩
            rw [hk8, hK] at hr7 hhd
            have e8 : IntKind.i64.wrap (8 * (k : Int)) = (k8 : Int) := by rw [IntWalk.i64_in _ (by omega)]; omega
            have e24 : IntKind.i64.wrap (24 + (k8 : Int)) = (K : Int) := by rw [IntWalk.i64_in _ (by omega)]; omega
            have hKc : K ≤ fc := Nat.le_trans hhd HFC2.out.1
            have hsl : ∀ w', (Instr.sliceAt 24 (.slice fa dl fc) (some (.int .i64 (K : Int))) none none).run Tryz.prog w' = .ok (.slice (subA fa fc K 1) (dl - K) (fc - K)) w' := fun w' => run_sub_l sliceByte sizeByte fa dl fc K hhd .i64 K rfl w'
            have HR7 := Lib.hid hr7
            have hbd := HD.out.drop (cap := fc) K (by rw [HDL.out]; exact HFC2.out.1)
            have HBD := Lib.hid (hbd.below HCX.out (Nat.le_refl _))
            have hnl : subA fa fc K 1 = none → fc - K = 0 := fun h => by have := HFC2.out.2 (subA_eq_none h); omega
            have HNL := Lib.hid hnl
            have hdd : (d.drop K).length = dl - K := by rw [List.length_drop, HDL.out]
            have HDD := Lib.hid hdd
            have HWD := Lib.hid (HDW.out.drop K)
            generalize subA fa fc K 1 = fa2 at hsl HBD HNL
            obtain ⟨im, him⟩ : ∃ im, d.drop K = im := ⟨_, rfl⟩
            rw [him] at HBD HDD HWD HR7
            obtain ⟨ml, hml⟩ : ∃ ml, dl - K = ml := ⟨_, rfl⟩
            obtain ⟨mc, hmc⟩ : ∃ mc, fc - K = mc := ⟨_, rfl⟩
            have hmll : ml ≤ 3000000 := by omega
            rw [hml, hmc] at hsl
            rw [hml] at HDD
            rw [hmc] at HNL
            clear hr7 hbd hnl hdd him hml hmc hhd hk8 hK hKc
            go_wp2_with fail
            refine (clone_at fa2 ml mc im wr w2.heap.size HDD.out HBD.out HCX.out.size HNL.out (by omega)).mono ?_
            rintro e w7 ⟨v, rfl, hov, hb7⟩
            obtain ⟨ia, il, ic, rfl, ho7⟩ := own_value hov
            obtain rfl : il = ml := ho7.len.symm.trans HDD.out
            have hz7 := hb7.size
            have hkg7 := (hb7.block g hgwr).trans HKG.out
            have HO7 := Lib.hid ho7
            have HKG7 := Lib.hid hkg7
            have HKW7 := Lib.hid ((hb7.block w.heap.size (by omega)).trans HKW.out)
            have HBW7 := Lib.hid (HBW.out.trans (hb7.mono HBW.out.size))
            have HOV7 := Lib.hid (HOWN.out.below hb7 (Nat.le_refl _))
            have hug := Go.Joins.unfrozen_of_block hkg7 3
            have g0 := Go.Joins.cell_of_block hkg7 0
            have g1 := Go.Joins.cell_of_block hkg7 1
            have g2 := Go.Joins.cell_of_block hkg7 2
            have g3 := Go.Joins.cell_of_block hkg7 3
            have HCX7 := Lib.hid (HCX.out.trans (hb7.mono HCX.out.size))
            clear hov ho7 hkg7 hb7 hsl
            go_wp2_with fail
            have hg8 : w7.grownBy _ (some g) := grown_set w7 ⟨g, 3, none⟩ (.slice ia il ic)
            have kg8 : (w7.setCell ⟨g, 3, none⟩ (.slice ia il ic)).heap[g]? = some (.cells #[.int .i64 ni, .int .i64 nt, .slice va k vc, .slice ia il ic] 26 (0, 0)) := by
              have h := Go.Joins.block_setCell (i := 3) HKG7.out (.slice ia il ic)
              simpa using h
            generalize w7.setCell ⟨g, 3, none⟩ (.slice ia il ic) = w8 at hg8 kg8 ⊢
            have hz8 := hg8.size
            have ho8 := HO7.out.kept hg8 (Or.inr fun e => by have h1 := HO7.out.lt _ e; omega)
            have hv8 : IntsOwn w8 w5.heap.size va k vc acc := World.ownsRow.kept HOV7.out hg8 (Or.inr fun e => by have h1 := (World.ownsRow.lt HOV7.out g e).1; omega)
            have hG8 := (hg8.block w.heap.size (by omega) (by simp; omega)).trans HKW7.out
            have hb8 := HBW7.out.grown hg8 HBW7.out.size (fun q hq => by cases hq; omega)
            have hfine : SnFine ⟨ni, nt, va, acc, vc, ia, im, ic⟩ := ⟨by have := numS_N64 false d; rw [HS0.out] at this; exact this, by have := numS_N64 bi li; rw [HS1.out] at this; exact this, HVN.out, by have := HA.out; dsimp only; omega, HWD.out, by have := HDD.out; dsimp only; omega, (ints_nil hv8).1, ho8.nil, by have := (ints_nil hv8).2; have := HA.out; dsimp only; omega, by have := bown_cap ho8; have := HDD.out; dsimp only; omega⟩
            obtain ⟨⟨pb, pe⟩, hpb⟩ : ∃ q, snPut ⟨ni, nt, acc, im⟩ = q := ⟨_, rfl⟩
            have hpw := snPut_wf (s := ⟨ni, nt, acc, im⟩) HWD.out
            rw [hpb] at hpw
            have HFI := Lib.hid hfine
            have HPB := Lib.hid hpb
            have HPW := Lib.hid hpw
            clear g0 g1 g2 g3 hug
            refine (sput_at ⟨ni, nt, va, acc, vc, ia, im, ic⟩ k il HA.out HDD.out w8 ⟨ints_in HA.out hv8, ho8.in⟩ hfine (pb, pe) hpb).mono ?_
            rintro e w9 ⟨a5, n5, c5, rfl, ho5, hb9⟩
            have hz9 := hb9.size
            have hgw8 := (Array.getElem?_eq_some_iff.1 kg8).1
            have HKG9 := Lib.hid ((hb9.block g hgw8).trans kg8)
            have HO5 := Lib.hid ho5
            have HO9 := Lib.hid (ho8.below hb9 (Nat.le_refl _))
            have HV9 := Lib.hid (hv8.below hb9 (Nat.le_refl _))
            have HG9 := Lib.hid ((hb9.block w.heap.size (by omega)).trans hG8)
            have HB9 := Lib.hid (hb8.trans (hb9.mono hb8.size))
            have HX9 := Lib.hid (HX2.out.below ((HCX7.out.trans ((below_at hg8 (by omega)).mono (by omega))).trans (hb9.mono (by omega))) (Nat.le_refl _))
            clear hfine hpb hpw ho5 hb9 ho8 hv8 hG8 hb8 hg8 kg8
            have g0 := Go.Joins.cell_of_block HKG9.out 0
            have g1 := Go.Joins.cell_of_block HKG9.out 1
            have g2 := Go.Joins.cell_of_block HKG9.out 2
            have g3 := Go.Joins.cell_of_block HKG9.out 3
            have hu0 := Go.Joins.unfrozen_of_block HG9.out 0
            have hu1 := Go.Joins.unfrozen_of_block HG9.out 1
            have hu2 := Go.Joins.unfrozen_of_block HG9.out 2
            have hu3 := Go.Joins.unfrozen_of_block HG9.out 3
            have hc0 := Go.Joins.cell_of_block HG9.out 0
            have hc1 := Go.Joins.cell_of_block HG9.out 1
            have hc2 := Go.Joins.cell_of_block HG9.out 2
            have hc3 := Go.Joins.cell_of_block HG9.out 3
            by_cases hpe : pe = 0
            · subst hpe
              go_wp2_with fail
              refine (lequal_any a5 ao n5 c5 used cap pb b w9 w9.heap.size w2.heap.size HO5.out.len HN.out HO5.out.in HX9.out HO5.out.nil hnil HPW.out HW.out).mono ?_
              rintro e w10 ⟨rfl, rfl⟩
              by_cases heq : pb = b
              · have hd1 : decide (pb = b) = true := decide_eq_true heq
                have HEQ := Lib.hid (show snPut ⟨ni, nt, acc, im⟩ = (b, 0) by rw [HPB.out, heq])
                clear heq
                rw [hd1]
                clear hd1
                go_wp2_with fail
                have hk := block_four (a := .int .i64 ni) (b := .int .i64 nt) (c := .slice va k vc) (d := .slice ia il ic) HG9.out
                have hgr := grown_four (w := w10) (g := w.heap.size) (a := .int .i64 ni) (b := .int .i64 nt) (c := .slice va k vc) (d := .slice ia il ic)
                generalize (((w10.setCell ⟨w.heap.size, 0, none⟩ (.int .i64 ni)).setCell ⟨w.heap.size, 1, none⟩ (.int .i64 nt)).setCell ⟨w.heap.size, 2, none⟩ (.slice va k vc)).setCell ⟨w.heap.size, 3, none⟩ (.slice ia il ic) = w11 at hk hgr ⊢
                refine sget_end (x := ⟨ni, nt, va, acc, vc, ia, im, ic⟩) rfl ?_ (HB9.out.grown hgr HB9.out.size (fun q hq => by cases hq; exact Nat.le_refl _)) rfl rfl ?_ ?_ HFI.out ⟨?_, ?_⟩
                · rw [hk]
                  unfold snArr
                  dsimp only
                  rw [HA.out, HDD.out]
                · rw [← HR7.out, sure_yes HEQ.out]
                · rw [← HR7.out, sure_yes HEQ.out]
                  rfl
                · dsimp only
                  rw [HA.out]
                  exact IntsOwn.le (World.ownsRow.kept HV9.out hgr (Or.inr fun e => by have h1 := (World.ownsRow.lt HV9.out _ e).1; omega)) (by omega)
                · dsimp only
                  rw [HDD.out]
                  exact (HO9.out.kept hgr (Or.inr fun e => by have h1 := HO9.out.lt _ e; omega)).le (by omega)
              · have hd1 : decide (pb = b) = false := decide_eq_false heq
                have HNE := Lib.hid (show snPut ⟨ni, nt, acc, im⟩ ≠ (b, 0) by rw [HPB.out]; intro h; exact heq (congrArg Prod.fst h))
                rw [hd1]
                clear hd1
                go_wp2_with fail
                exact sget_no rfl HG9.out HB9.out rfl rfl (by rw [← HR7.out, sure_ne HNE.out])
            · have HNE := Lib.hid (show snPut ⟨ni, nt, acc, im⟩ ≠ (b, 0) by rw [HPB.out]; intro h; exact hpe (congrArg Prod.snd h))
              go_wp2_with fail
              exact sget_no rfl HG9.out HB9.out rfl rfl (by rw [← HR7.out, sure_ne HNE.out])
    · have i1 : ¬ (used : Int) = n := by omega
      have hg : r = (zeroSn, 4) := by
        rw [← HR.out]
        exact snBy_used hun
      go_wp2_with fail
      exact sget_no rfl HK2.out HB2.out rfl rfl hg
  · have i1 : ¬ (pl : Int) = 1 := by omega
    have hg : r = (zeroSn, 4) := by
      rw [← HR.out]
      exact snBy_no (by rw [HPL.out]; exact h1)
    go_wp2_with fail
    exact sget_no rfl HK2.out HB2.out rfl rfl hg
end Go.Proofs.YtejgebpdipnhmaaGreatDoor
