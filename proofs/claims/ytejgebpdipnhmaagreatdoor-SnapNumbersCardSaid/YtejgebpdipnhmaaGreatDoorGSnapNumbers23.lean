/- The document's answer for snaps: Get. Conditions: the bytes lie as they read. -/
import Derived.Test.YtejgebpdipnhmaaGreatDoorGSnapNumbers19
import Derived.Test.YtejgebpdipnhmaaGreatDoorGSnapNumbers22
set_option linter.unusedVariables false
set_option linter.unusedSimpArgs false
namespace Go.Proofs.YtejgebpdipnhmaaGreatDoor
open Go.RowKit
set_option maxRecDepth 20000
theorem rscan_by (ao : Option Addr) (n cap : Nat) (xs : List Int) (r : List (Int × List Int)) (used : Nat) (s : Bool) (w : World) (hn : xs.length = n) (hr : scanS xs = (r, used, s)) (hx : BytesIn w w.heap.size ao xs) (hw : BytesWf xs) (hao : ao = none → cap = 0) (hcap : n ≤ cap) (hl : n ≤ 1099511627776) :
    Calls Tryz.prog 54 #[.slice ao n cap] w fun e w' => ∃ a c frs, e = .returned (.tuple #[.slice a r.length c, .int .i64 used, .bool s]) ∧ frs.map Fr.pair = r ∧ FramesIn w' w'.heap.size a frs ∧ (∀ f ∈ frs, f.data.length ≤ f.cap ∧ (f.ao = none → f.cap = 0)) ∧ Below w.heap.size w w' := by
  subst hn
  refine (rscan_any ao cap xs w hx hw hao hcap hl).mono ?_
  rintro e w' ⟨v, frs, rfl, h1, h2, h3⟩
  rw [hr] at h1 ⊢
  dsimp only at h1 ⊢
  obtain ⟨a, c, rfl, _, _, h5⟩ := h2.lie
  refine ⟨a, c, frs, by rw [← h1, List.length_map], h1, h5, fun f hf => ?_, h3⟩
  have h := h2.2.1 f hf
  obtain ⟨a', c', he, _⟩ := own_bytes h
  have hc := own_cap h
  refine ⟨by simpa using hc, fun h0 => ?_⟩
  rcases Go.Joins.ownsRow_forms h with ⟨h6, _⟩ | ⟨g, c2, h6⟩
  · injection h6
  · injection h6 with e1; rw [h0] at e1; cases e1
def rsnBy (b : List Int) (n : Nat) (ps : List (Int × List Int)) (used : Nat) : SnP × Int := match ps with
  | [p] => if used ≠ n then (zeroSn, 4) else rsnRead b p.2
  | _ => (zeroSn, 4)
theorem rsnGet_by {b : List Int} {n : Nat} {ps : List (Int × List Int)} {used : Nat} {sp : Bool} (hn : b.length = n) (h : scanS b = (ps, used, sp)) : rsnGet b = rsnBy b n ps used := by
  subst hn
  unfold rsnGet rsnBy
  rw [h]
  match ps with
  | [] => rfl
  | [p] => rfl
  | p :: q :: l => rfl
theorem rsnBy_no {b : List Int} {n : Nat} {ps : List (Int × List Int)} {used : Nat} (h : ¬ ps.length = 1) : rsnBy b n ps used = (zeroSn, 4) := by
  match ps, h with
  | [], _ => rfl
  | [p], h => exact absurd rfl h
  | p :: q :: l, _ => rfl
theorem rsnBy_used {b : List Int} {n : Nat} {p : Int × List Int} {used : Nat} (h : ¬ used = n) : rsnBy b n [p] used = (zeroSn, 4) := if_pos h
theorem rsnBy_one {b : List Int} {n : Nat} {p : Int × List Int} : rsnBy b n [p] n = rsnRead b p.2 := if_neg (fun h => h rfl)
/-- How many numbers of voters the document's way reads. -/
def rounds (nn : Int) : Nat := if 0 < nn ∧ nn < 8 then nn.toNat else 0
theorem rsnRead_by {b d li lt ln : List Int} {ni nt nn : Int} {bi bt bn : Bool} (h0 : numS false d = (ni, bi, li)) (h1 : numS bi li = (nt, bt, lt)) (h2 : numS bt lt = (nn, bn, ln)) :
    rsnRead b d = if (numsS (rounds nn) bn ln).2.1 = true then (zeroSn, 4) else sureS b ⟨ni, nt, (numsS (rounds nn) bn ln).1, (numsS (rounds nn) bn ln).2.2⟩ := by
  unfold rsnRead rounds
  rw [h0]
  dsimp only
  rw [h1]
  dsimp only
  rw [h2]
  dsimp only
  by_cases h : 0 < nn ∧ nn < 8
  · rw [if_pos h, if_pos h]
  · rw [if_neg h, if_neg h]; rfl
theorem rnew_any (a : Option Addr) (n c : Nat) (D : List Int) (w : World) (hn : D.length = n) (hx : BytesIn w w.heap.size a D) (hnil : a = none → c = 0) (hc : n ≤ c) (hl : n ≤ 140737488351232) :
    Calls Tryz.prog 55 #[.slice a n c] w fun e w' => e = .returned (.pointer (some ⟨w.heap.size, 0, none⟩)) ∧ Ref ⟨a, n, c, D⟩ w' w.heap.size w.heap.size false D ∧ Below w.heap.size w w' := by
  have hb := (Below.refl w.heap.size w).alloc (Nat.le_refl _) (.cells #[.slice a n c, .int .i64 0, .bool false] 118)
  have hk := heap_alloc_new w (.cells #[.slice a n c, .int .i64 0, .bool false] 118)
  have hr : Ref ⟨a, n, c, D⟩ (w.alloc (.cells #[.slice a n c, .int .i64 0, .bool false] 118)) w.heap.size w.heap.size false D := by
    refine ⟨0, a, n, c, D, ⟨hk, ?_, hn, hc, hnil, Nat.zero_le _, hb.size, hl, rfl⟩, rfl⟩
    rcases hx with h0 | ⟨b, off, h1, h2, h3⟩
    · exact Or.inl h0
    · exact Or.inr ⟨b, off, h1, h2, by omega, fun i hi => (hb.cell (p := ⟨b, off + i, none⟩) h2).trans (h3 i hi)⟩
  have HB := Lib.hid hb
  have HR := Lib.hid hr
  clear hb hk hr hx hn hnil
  go_enter Tryz.func55, Tryz.ntmps55
  go_wp2_with fail
  go_ret
  exact ⟨rfl, HR.out, HB.out⟩
theorem ref_block {Z : RefZ} {w : World} {M db : Nat} {bad : Bool} {left : List Int} (h : Ref Z w M db bad left) :
    ∃ k : Nat, k ≤ Z.m ∧ left = Z.xs.drop k ∧ w.heap[db]? = some (.cells #[.slice Z.ao Z.m Z.cap, .int .i64 k, .bool bad] 118 (0, 0)) := by
  obtain ⟨k, ao, m, cap, xs, h, hl⟩ := h
  obtain rfl := h.z
  exact ⟨k, h.at_, hl, h.blk⟩
theorem rsput_y (x : Sn) (n m : Nat) (hn : x.vs.length = n) (hm : x.im.length = m) (w : World) (hx : snSub w w.heap.size x) (hf : SnFine x) (r : List Int × Int) (hr : snPut x.plain = r) :
    Calls Tryz.prog 14 #[.agg #[.int .i64 x.index, .int .i64 x.term, .slice x.va n x.vc, .slice x.ia m x.ic]] w (BytesE r w) := by
  subst hn hm
  exact rsput_any x w hx hf r hr
set_option maxHeartbeats 8000000 in
theorem rsget_any (ao : Option Addr) (n cap : Nat) (b : List Int) (w : World) (hn : b.length = n) (hx : BytesIn w w.heap.size ao b) (hw : BytesWf b) (hnil : ao = none → cap = 0) (hcap : n ≤ cap) (hl : n ≤ 3000000) (r : SnP × Int) (hr : rsnGet b = r) :
    Calls Tryz.prog 24 #[.slice ao n cap] w (SGetAt r w) := by
  have hb1 := (Below.refl w.heap.size w).alloc (Nat.le_refl _) (.cells #[.int .i64 0, .int .i64 0, .slice none 0 0, .slice none 0 0] 26)
  have hk1 := heap_alloc_new w (.cells #[.int .i64 0, .int .i64 0, .slice none 0 0, .slice none 0 0] 26)
  have hs1 : (w.alloc (.cells #[.int .i64 0, .int .i64 0, .slice none 0 0, .slice none 0 0] 26)).heap.size = w.heap.size + 1 := by simp
  obtain ⟨⟨ps, used, sp⟩, hsc⟩ : ∃ r, scanS b = r := ⟨_, rfl⟩
  have hsp := scanS_put hw
  have hr2 : rsnBy b n ps used = r := by rw [← rsnGet_by hn hsc]; exact hr
  rw [hsc] at hsp
  have HB1 := Lib.hid hb1
  have HK1 := Lib.hid hk1
  have HS1 : w.heap.size + 1 ≤ (w.alloc (.cells #[.int .i64 0, .int .i64 0, .slice none 0 0, .slice none 0 0] 26)).heap.size := Nat.le_of_eq hs1.symm
  have HN := Lib.hid hn
  have HX := Lib.hid hx
  have HW := Lib.hid hw
  have HSC := Lib.hid hsc
  have HR := Lib.hid hr2
  have HSP := Lib.hid hsp
  clear hb1 hk1 hs1 hn hx hw hsc hr hr2 hsp
  obtain ⟨pl, hpl⟩ : ∃ k, ps.length = k := ⟨_, rfl⟩
  go_enter Tryz.func24, Tryz.ntmps24
  go_wp2_with fail
  generalize w.alloc (.cells #[.int .i64 0, .int .i64 0, .slice none 0 0, .slice none 0 0] 26) = w1 at HB1 HK1 HS1 ⊢
  refine (rscan_by ao n cap b ps used sp w1 HN.out HSC.out ((HX.out.below HB1.out (Nat.le_refl _)).mono HB1.out.size) HW.out hnil hcap (by omega)).mono ?_
  rintro e w2 ⟨a2, c2, frs, rfl, hfp, hfr, hfc, hb2⟩
  have hz2 := hb2.size
  have HK2 := Lib.hid ((hb2.block w.heap.size (by omega)).trans HK1.out)
  have HB2 := Lib.hid (HB1.out.trans (hb2.mono (by omega)))
  have HX2 := Lib.hid ((HX.out.below HB2.out (Nat.le_refl _)).mono HB2.out.size)
  have hz02 := HB2.out.size
  have HFP := Lib.hid hfp
  have HFR := Lib.hid hfr
  have HFC := Lib.hid hfc
  clear hb2 hfp hfr hfc HX
  rw [hpl]
  have HPL := Lib.hid hpl
  clear hpl
  have hu0 := Go.Joins.unfrozen_of_block HK2.out 0
  have hu1 := Go.Joins.unfrozen_of_block HK2.out 1
  have hu2 := Go.Joins.unfrozen_of_block HK2.out 2
  have hu3 := Go.Joins.unfrozen_of_block HK2.out 3
  have hc0 := Go.Joins.cell_of_block HK2.out 0
  have hc1 := Go.Joins.cell_of_block HK2.out 1
  have hc2 := Go.Joins.cell_of_block HK2.out 2
  have hc3 := Go.Joins.cell_of_block HK2.out 3
  by_cases h1 : pl = 1
  · subst h1
    obtain ⟨p, hps⟩ : ∃ p, ps = [p] := by
      have h := HPL.out
      match ps, h with
      | [p], _ => exact ⟨p, rfl⟩
    subst hps
    obtain ⟨pk, d⟩ := p
    obtain ⟨fa, fc, hfs⟩ := pair_one HFP.out
    by_cases hun : used = n
    · have hr3 : rsnRead b d = r := by
        have h := HR.out
        rw [hun, rsnBy_one] at h
        exact h
      have HR3 := Lib.hid hr3
      have hfr := HFR.out
      rw [hfs] at hfr
      have hfc := HFC.out ⟨pk, fa, fc, d⟩ (by rw [hfs]; simp)
      dsimp only at hfc
      rcases hfr with h0 | ⟨fb, off, ha2, hfb, hfi⟩
      · cases h0
      obtain ⟨_, k1, hd⟩ := hfi 0 (by simp)
      simp only [List.getD_cons_zero, Nat.zero_mul, Nat.add_zero] at k1 hd
      have hdw : BytesWf d := (HSP.out.2.2 (pk, d) (by simp)).2.2.2
      have hdl : d.length ≤ b.length := by
        have e := HSP.out.2.1
        have := congrArg List.length e
        rw [List.length_take] at this
        simp only [putP, List.flatMap_cons, List.flatMap_nil, List.append_nil, frameB_len] at this
        omega
      rw [HN.out] at hdl
      obtain ⟨dl, hdlq⟩ : ∃ k, d.length = k := ⟨_, rfl⟩
      rw [hdlq] at k1 hdl hfc
      have HDL := Lib.hid hdlq
      have HD := Lib.hid hd
      have HDW := Lib.hid hdw
      have HFC2 := Lib.hid hfc
      subst ha2
      subst hun
      clear hr3 hfs hfc hfi hd hdw hdlq HR HFR HFC HFP HPL
      obtain ⟨⟨ni, bi, li⟩, hni⟩ : ∃ q, numS false d = q := ⟨_, rfl⟩
      obtain ⟨⟨nt, bt, lt⟩, hnt⟩ : ∃ q, numS bi li = q := ⟨_, rfl⟩
      obtain ⟨⟨nn, bn, ln⟩, hnn⟩ : ∃ q, numS bt lt = q := ⟨_, rfl⟩
      have q0 := numS_shrinks false d HDW.out
      rw [hni] at q0
      have q1 := numS_shrinks bi li q0.1
      rw [hnt] at q1
      have q2 := numS_shrinks bt lt q1.1
      rw [hnn] at q2
      dsimp only at q0 q1 q2
      have hr5 := HR3.out
      rw [rsnRead_by hni hnt hnn] at hr5
      have HR5 := Lib.hid hr5
      have HS0 := Lib.hid hni
      have HS1' := Lib.hid hnt
      have HS2 := Lib.hid hnn
      have HW1 := Lib.hid q0.1
      have HW2 := Lib.hid q1.1
      have HW3 := Lib.hid q2.1
      clear hni hnt hnn q0 q1 q2 hr5 HR3
      go_wp2_with fail
      refine (rnew_any fa dl fc d w2 HDL.out HD.out HFC2.out.2 HFC2.out.1 (by omega)).mono ?_
      rintro e w3 ⟨rfl, hrd, b3⟩
      obtain ⟨rb, hrb⟩ : ∃ rb, w2.heap.size = rb := ⟨_, rfl⟩
      have HRB := Lib.hid hrb
      rw [hrb] at hrd hz02 hz2 ⊢
      have hrb3 := hrd.lt
      have HRD3 := Lib.hid hrd
      have HCX3 := Lib.hid b3
      clear hrd b3 hrb
      go_wp2_with fail
      refine (rnum_any rb rb false d ni bi li w3 HS0.out HRD3.out HDW.out).mono ?_
      rintro e w4 ⟨rfl, rx4, o4⟩
      have hz4 := o4.1
      have HRD4 := Lib.hid rx4
      have HCX4 := Lib.hid (HCX3.out.trans (o4.toBelow HCX3.out.size (Nat.le_of_eq HRB.out)))
      have b5 := (Below.refl w4.heap.size w4).alloc (Nat.le_refl _) (.cells #[.int .i64 ni, .int .i64 0, .slice none 0 0, .slice none 0 0] 26)
      have k5 := heap_alloc_new w4 (.cells #[.int .i64 ni, .int .i64 0, .slice none 0 0, .slice none 0 0] 26)
      have HB5 := Lib.hid b5
      have HK5 := Lib.hid k5
      clear rx4 o4 b5 k5 HRD3 HCX3
      go_upto_region 6 with fail
      generalize w4.alloc (.cells #[.int .i64 ni, .int .i64 0, .slice none 0 0, .slice none 0 0] 26) = w5 at HB5 HK5 ⊢
      obtain ⟨G, hG⟩ : ∃ G, w4.heap.size = G := ⟨_, rfl⟩
      have HRD5 := Lib.hid (HRD4.out.below HB5.out)
      have HCX5 := Lib.hid (HCX4.out.trans (HB5.out.mono HCX4.out.size))
      rw [hG] at HK5 hz4 ⊢
      have hgG : rb < G := by omega
      clear hG HB5 HRD4 HCX4
      go_wp2_with fail
      refine (rnum_any rb rb bi li nt bt lt w5 HS1'.out HRD5.out HW1.out).mono ?_
      rintro e w6 ⟨rfl, rx6, o6⟩
      have hlt5 := (Array.getElem?_eq_some_iff.1 HK5.out).1
      have k6 := (o6.2 G hlt5 (by omega)).trans HK5.out
      have HRD6 := Lib.hid rx6
      have HCX6 := Lib.hid (HCX5.out.trans (o6.toBelow HCX5.out.size (Nat.le_of_eq HRB.out)))
      have hz6 := o6.1
      have HK6 := Lib.hid k6
      have u1 := Go.Joins.unfrozen_of_block k6 1
      have d1 := Go.Joins.cell_of_block k6 1
      clear rx6 o6 k6 HRD5 HCX5 HK5
      go_upto_region 7 with fail
      have k7 : (w6.setCell ⟨G, 1, none⟩ (.int .i64 nt)).heap[G]? = some (.cells #[.int .i64 ni, .int .i64 nt, .slice none 0 0, .slice none 0 0] 26 (0, 0)) := by
        have h := Go.Joins.block_setCell (i := 1) HK6.out (.int .i64 nt)
        simpa using h
      have g7 : w6.grownBy _ (some G) := grown_set w6 ⟨G, 1, none⟩ (.int .i64 nt)
      have rx7 := HRD6.out.other (g := G) (i := 1) (by omega) (by omega) (.int .i64 nt)
      clear u1 d1
      generalize w6.setCell ⟨G, 1, none⟩ (.int .i64 nt) = w7 at k7 g7 rx7 ⊢
      have HK7 := Lib.hid k7
      have HRD7 := Lib.hid rx7
      have HCX7 := Lib.hid (HCX6.out.grown g7 HCX6.out.size (fun q hq => by cases hq; have := HRB.out; omega))
      have hz7 := g7.size
      clear k7 g7 rx7 HRD6 HCX6 HK6
      go_wp2_with fail
      refine (rnum_any rb rb bt lt nn bn ln w7 HS2.out HRD7.out HW2.out).mono ?_
      rintro e w8 ⟨rfl, rx8, o8⟩
      have hlt7 := (Array.getElem?_eq_some_iff.1 HK7.out).1
      have HK8 := Lib.hid ((o8.2 G hlt7 (by omega)).trans HK7.out)
      have HRD8 := Lib.hid rx8
      have HCX8 := Lib.hid (HCX7.out.trans (o8.toBelow HCX7.out.size (Nat.le_of_eq HRB.out)))
      have hz8 := o8.1
      clear rx8 o8 HRD7 HCX7 HK7 hu0 hu1 hu2 hu3 hc0 hc1 hc2 hc3
      obtain ⟨N, hNr⟩ : ∃ N, rounds nn = N := ⟨_, rfl⟩
      rw [hNr] at HR5
      have hcase : (0 < nn ∧ nn < 8 ∧ (N : Int) = nn) ∨ (N = 0 ∧ (nn ≤ 0 ∨ 8 ≤ nn)) := by
        unfold rounds at hNr
        split at hNr <;> omega
      have hN : N ≤ 7 := by omega
      obtain ⟨⟨vT, bT, lT⟩, hT⟩ : ∃ R, numsS N bn ln = R := ⟨_, rfl⟩
      have hvN := numsS_N64 N bn ln
      rw [hT] at hvN
      have hr6 := HR5.out
      rw [hT] at hr6
      dsimp only at hvN hr6
      have HR6 := Lib.hid hr6
      have HT := Lib.hid hT
      have HVN := Lib.hid hvN
      have HCASE := Lib.hid hcase
      clear hNr hcase hT hvN hr6 HR5
      go_wp2_with fail
      go_loopw [9, 10] (fun z _ wr => ∃ (k : Nat) (va : Option Addr) (vc : Nat) (acc : List Int) (bd : Bool) (lf : List Int) (zz : Int), k ≤ N ∧ z = .int .i64 zz ∧ zz + k = nn ∧ acc.length = k ∧ (acc ++ (numsS (N - k) bd lf).1, (numsS (N - k) bd lf).2) = (vT, bT, lT) ∧ IntsOwn wr w8.heap.size va k vc acc ∧ Ref ⟨fa, dl, fc, d⟩ wr rb rb bd lf ∧ BytesWf lf ∧
        wr.heap[G]? = some (.cells #[.int .i64 ni, .int .i64 nt, .slice va k vc, .slice none 0 0] 26 (0, 0)) ∧ Below w2.heap.size w2 wr ∧ w8.heap.size ≤ wr.heap.size) (fun z _ _ => (intOf z).toNat)
      case atStart => exact ⟨0, none, 0, [], bn, ln, nn, by omega, rfl, by omega, rfl, by rw [Nat.sub_zero, HT.out]; rfl, IntsOwn.nil _ _, HRD8.out, HW3.out, HK8.out, HCX8.out, Nat.le_refl _⟩
      case round =>
        have hlt8 := (Array.getElem?_eq_some_iff.1 HK8.out).1
        clear HRD8 HK8 HCX8 HT
        obtain ⟨k, va, vc, acc, bd, lf, zz, hk, rfl, hzk, hacc, heq, hown, hrx, hlw, hkg, hcx, hz8r⟩ := hrel
        by_cases hlt : k < N
        · have i1 : 0 < zz := by have := HCASE.out; omega
          have i2 : zz < 8 := by have := HCASE.out; omega
          have ez : IntKind.i64.wrap (zz - 1) = zz - 1 := IntWalk.i64_in _ (by omega)
          obtain ⟨m, hm⟩ : ∃ m, N - k = m + 1 := ⟨N - k - 1, by omega⟩
          have hm2 : N - (k + 1) = m := by omega
          obtain ⟨⟨x, b2, l2⟩, hx2⟩ : ∃ q, numS bd lf = q := ⟨_, rfl⟩
          have hsh := numS_shrinks bd lf hlw
          rw [hx2] at hsh
          have heq2 : ((acc ++ [x]) ++ (numsS (N - (k + 1)) b2 l2).1, (numsS (N - (k + 1)) b2 l2).2) = (vT, bT, lT) := by
            rw [hm2, ← heq, hm, numsS, hx2]
            simp
          have HEQ := Lib.hid heq2
          have HX2' := Lib.hid hx2
          have HSH := Lib.hid hsh
          have HA := Lib.hid hacc
          have HLW := Lib.hid hlw
          have HOWN := Lib.hid hown
          have HRX := Lib.hid hrx
          have HKG := Lib.hid hkg
          have HCX := Lib.hid hcx
          have hgwr := (Array.getElem?_eq_some_iff.1 hkg).1
          clear heq heq2 hx2 hsh hacc hlw hown hrx hcx hkg hm hm2 m
          go_wp2_with fail
          refine (rnum_any rb rb bd lf x b2 l2 wr HX2'.out HRX.out HLW.out).mono ?_
          rintro e wa ⟨rfl, rxa, oa⟩
          have hza := oa.1
          have kga := (oa.2 G hgwr (by omega)).trans HKG.out
          have cga := Go.Joins.cell_of_block kga 2
          have HKA := Lib.hid kga
          have HRA := Lib.hid rxa
          have HOA := Lib.hid (HOWN.out.only oa (by omega))
          have HCA := Lib.hid (HCX.out.trans (oa.toBelow HCX.out.size (Nat.le_of_eq HRB.out)))
          have hba := (Below.refl wa.heap.size wa).alloc (Nat.le_refl _) (.cells #[.int .i64 x] 3)
          have HBA := Lib.hid hba
          clear kga rxa oa HRX HOWN HKG HCX hba
          go_wp2_with (at_builtin; refine wpList_append_rows (sub := noSub) Tryz.underlying22 infoI rfl (by decide) iCells_len iCells_one rfl (.tmp 53) (.tmp 55) rfl w8.heap.size (.slice va k vc) k _ rfl (HOA.out.below HBA.out (Nat.le_refl _)) (some ⟨wa.heap.size, 0, none⟩) 1 1 [x] rfl rfl (wa.heap.size + 1) (snums_new wa [x] _ rfl) (by simp) (by unfold maxLen; omega) (by omega) (by simp; omega) ?_)
          intro v2 we hown hg _
          obtain ⟨va2, vc2, rfl⟩ := row_slice hown
          have hown2 : IntsOwn we w8.heap.size va2 (k + 1) vc2 (acc ++ [x]) := by
            unfold IntsOwn
            rw [List.flatMap_append]
            exact hown
          have hga : wa.grownBy we (Value.slice va k vc).ownBlock := (World.grownBy_alloc wa _ _).trans hg
          have hlo : ∀ q, (Value.slice va k vc).ownBlock = some q → w8.heap.size ≤ q := fun q hq => (World.ownsRow.lt HOA.out q hq).1
          have hze := hga.size
          have kge := (hga.block G (by omega) (fun e => by have := hlo G e.symm; omega)).trans HKA.out
          have rxe := HRA.out.grown hga (fun q hq => by have := hlo q hq; omega)
          have cxe := HCA.out.grown hga HCA.out.size (fun q hq => by have := hlo q hq; have := HRB.out; omega)
          have hug := Go.Joins.unfrozen_of_block kge 2
          have hcg := Go.Joins.cell_of_block kge 2
          have kf : (we.setCell ⟨G, 2, none⟩ (.slice va2 (k + 1) vc2)).heap[G]? = some (.cells #[.int .i64 ni, .int .i64 nt, .slice va2 (k + 1) vc2, .slice none 0 0] 26 (0, 0)) := by
            have h := Go.Joins.block_setCell (i := 2) kge (.slice va2 (k + 1) vc2)
            simpa using h
          have gf : we.grownBy _ (some G) := grown_set we ⟨G, 2, none⟩ (.slice va2 (k + 1) vc2)
          have KF := Lib.hid kf
          have RF := Lib.hid (rxe.other (g := G) (i := 2) (by omega) (by omega) (.slice va2 (k + 1) vc2))
          have OF := Lib.hid (show IntsOwn (we.setCell ⟨G, 2, none⟩ (.slice va2 (k + 1) vc2)) w8.heap.size va2 (k + 1) vc2 (acc ++ [x]) from World.ownsRow.kept hown2 gf (Or.inr fun e => by have h1 := (World.ownsRow.lt hown2 G e).1; omega))
          have CF := Lib.hid (cxe.grown gf cxe.size (fun q hq => by cases hq; have := HRB.out; omega))
          have zf : w8.heap.size ≤ (we.setCell ⟨G, 2, none⟩ (.slice va2 (k + 1) vc2)).heap.size := by have := gf.size; omega
          clear hown hown2 hg hga hlo kge rxe cxe kf gf cga HKA HRA HOA HCA HBA
          go_wp2_with fail
          go_roundw
          case rel => exact ⟨k + 1, va2, vc2, acc ++ [x], b2, l2, zz - 1, by omega, by go_num, by omega, by rw [List.length_append, HA.out]; rfl, HEQ.out, OF.out, RF.out, HSH.out.1, KF.out, CF.out, zf⟩
          case measure => simp [intOf] <;> omega
        · obtain rfl : k = N := by omega
          have hex : ¬ 0 < zz ∨ (0 < zz ∧ ¬ zz < 8) := by have := HCASE.out; omega
          rw [Nat.sub_self] at heq
          simp only [numsS, List.append_nil, Prod.mk.injEq] at heq
          obtain ⟨rfl, rfl, rfl⟩ := heq
          obtain ⟨k0, hk0, hlf, hblk⟩ := ref_block hrx
          dsimp only at hk0 hlf hblk
          have y2 := Go.Joins.cell_of_block hblk 2
          have HOWN := Lib.hid hown
          have HKG := Lib.hid hkg
          have HCX := Lib.hid hcx
          have HA := Lib.hid hacc
          have HBLK := Lib.hid hblk
          have HLF := Lib.hid hlf
          have HLW := Lib.hid hlw
          have hgwr := (Array.getElem?_eq_some_iff.1 hkg).1
          have HKW := Lib.hid ((HCX.out.block w.heap.size (by have := HRB.out; omega)).trans HK2.out)
          have HBW := Lib.hid (HB2.out.trans (HCX.out.mono HB2.out.size))
          clear hacc hown hrx hcx hkg hlw hblk hlf hlt hzk HCASE
          have hu0 := Go.Joins.unfrozen_of_block HKW.out 0
          have hu1 := Go.Joins.unfrozen_of_block HKW.out 1
          have hu2 := Go.Joins.unfrozen_of_block HKW.out 2
          have hu3 := Go.Joins.unfrozen_of_block HKW.out 3
          have hc0 := Go.Joins.cell_of_block HKW.out 0
          have hc1 := Go.Joins.cell_of_block HKW.out 1
          have hc2 := Go.Joins.cell_of_block HKW.out 2
          have hc3 := Go.Joins.cell_of_block HKW.out 3
          cases bd with
          | true =>
            have hg : r = (zeroSn, 4) := by rw [← HR6.out, if_pos rfl]
            have HG := Lib.hid hg
            clear hg
            rcases hex with i1 | ⟨i1, i2⟩
            · go_wp2_with fail
              exact sget_no rfl HKW.out HBW.out rfl rfl HG.out
            · go_wp2_with fail
              exact sget_no rfl HKW.out HBW.out rfl rfl HG.out
          | false =>
          clear hu0 hu1 hu2 hu3 hc0 hc1 hc2 hc3
          have hr7 := HR6.out
          rw [if_neg (by simp)] at hr7
          have hkf : k0 ≤ fc := Nat.le_trans hk0 HFC2.out.1
          have hsl : ∀ w', (Instr.sliceAt 24 (.slice fa dl fc) (some (.int .i64 (k0 : Int))) none none).run Tryz.prog w' = .ok (.slice (subA fa fc k0 1) (dl - k0) (fc - k0)) w' := fun w' => run_sub_l sliceByte sizeByte (fa) dl fc k0 hk0 .i64 k0 rfl w'
          have hbd := HD.out.drop (cap := fc) k0 (by rw [HDL.out]; exact HFC2.out.1)
          rw [← HLF.out] at hbd
          have hdd : lf.length = dl - k0 := by rw [HLF.out, List.length_drop, HDL.out]
          have hnl : subA fa fc k0 1 = none → fc - k0 = 0 := fun h => by have := HFC2.out.2 (subA_eq_none h); omega
          have HBD := Lib.hid hbd
          have HDD := Lib.hid hdd
          have HNL := Lib.hid hnl
          have HR7 := Lib.hid hr7
          generalize subA fa fc k0 1 = fa2 at hsl HBD HNL
          obtain ⟨ml, hml⟩ : ∃ ml, dl - k0 = ml := ⟨_, rfl⟩
          obtain ⟨mc, hmc⟩ : ∃ mc, fc - k0 = mc := ⟨_, rfl⟩
          have hmll : ml ≤ 3000000 := by omega
          rw [hml, hmc] at hsl
          rw [hml] at HDD
          rw [hmc] at HNL
          clear hr7 hbd hnl hdd hml hmc hkf hk0
          rcases hex with i1 | ⟨i1, i2⟩
          all_goals
            go_wp2_with fail
            clear y2
            refine heldS_begin (fun w' => w'.heap[rb]? = some (.cells #[.slice fa dl fc, .int .i64 k0, .bool false] 118 (0, 0))) (by kernel_rfl) (HBLK.out) ?_
            intro hS0
            (first | (refine takeS_no 1 rfl (by kernel_rfl) (by kernel_rfl) (by kernel_rfl) (fun _ _ _ h => h) (by rfl) (by assumption) ?_) | (refine takeS_yes (v := ?_) 1 rfl (by kernel_rfl) (by kernel_rfl) (by kernel_rfl) (fun _ _ _ h => h) (by rfl) (by assumption) ?_ ?_; rotate_left; focus (intro wS hSw; (have q0 := Go.Joins.cell_of_block hSw 0; have q1 := Go.Joins.cell_of_block hSw 1); go_simp; first | done | with_reducible rfl)))
            (try simp only [Act.put, List.setIfInBounds_toArray, List.set_cons_zero, List.set_cons_succ])
            (first | (refine takeS_no 2 rfl (by kernel_rfl) (by kernel_rfl) (by kernel_rfl) (fun _ _ _ h => h) (by rfl) (by assumption) ?_) | (refine takeS_yes (v := ?_) 2 rfl (by kernel_rfl) (by kernel_rfl) (by kernel_rfl) (fun _ _ _ h => h) (by rfl) (by assumption) ?_ ?_; rotate_left; focus (intro wS hSw; (have q0 := Go.Joins.cell_of_block hSw 0; have q1 := Go.Joins.cell_of_block hSw 1); go_simp; first | done | with_reducible rfl)))
            (try simp only [Act.put, List.setIfInBounds_toArray, List.set_cons_zero, List.set_cons_succ])
            (first | (refine takeS_no 3 rfl (by kernel_rfl) (by kernel_rfl) (by kernel_rfl) (fun _ _ _ h => h) (by rfl) (by assumption) ?_) | (refine takeS_yes (v := ?_) 3 rfl (by kernel_rfl) (by kernel_rfl) (by kernel_rfl) (fun _ _ _ h => h) (by rfl) (by assumption) ?_ ?_; rotate_left; focus (intro wS hSw; (have q0 := Go.Joins.cell_of_block hSw 0; have q1 := Go.Joins.cell_of_block hSw 1); go_simp; first | done | with_reducible rfl)))
            (try simp only [Act.put, List.setIfInBounds_toArray, List.set_cons_zero, List.set_cons_succ])
            (first | (refine takeS_no 4 rfl (by kernel_rfl) (by kernel_rfl) (by kernel_rfl) (fun _ _ _ h => h) (by rfl) (by assumption) ?_) | (refine takeS_yes (v := ?_) 4 rfl (by kernel_rfl) (by kernel_rfl) (by kernel_rfl) (fun _ _ _ h => h) (by rfl) (by assumption) ?_ ?_; rotate_left; focus (intro wS hSw; (have q0 := Go.Joins.cell_of_block hSw 0; have q1 := Go.Joins.cell_of_block hSw 1); go_simp; first | done | with_reducible rfl)))
            (try simp only [Act.put, List.setIfInBounds_toArray, List.set_cons_zero, List.set_cons_succ])
            (first | (refine takeS_no 5 rfl (by kernel_rfl) (by kernel_rfl) (by kernel_rfl) (fun _ _ _ h => h) (by rfl) (by assumption) ?_) | (refine takeS_yes (v := ?_) 5 rfl (by kernel_rfl) (by kernel_rfl) (by kernel_rfl) (fun _ _ _ h => h) (by rfl) (by assumption) ?_ ?_; rotate_left; focus (intro wS hSw; (have q0 := Go.Joins.cell_of_block hSw 0; have q1 := Go.Joins.cell_of_block hSw 1); go_simp; first | done | with_reducible rfl)))
            (try simp only [Act.put, List.setIfInBounds_toArray, List.set_cons_zero, List.set_cons_succ])
            (first | (refine takeS_no 6 rfl (by kernel_rfl) (by kernel_rfl) (by kernel_rfl) (fun _ _ _ h => h) (by rfl) (by assumption) ?_) | (refine takeS_yes (v := ?_) 6 rfl (by kernel_rfl) (by kernel_rfl) (by kernel_rfl) (fun _ _ _ h => h) (by rfl) (by assumption) ?_ ?_; rotate_left; focus (intro wS hSw; (have q0 := Go.Joins.cell_of_block hSw 0; have q1 := Go.Joins.cell_of_block hSw 1); go_simp; first | done | with_reducible rfl)))
            (try simp only [Act.put, List.setIfInBounds_toArray, List.set_cons_zero, List.set_cons_succ])
            (first | (refine takeS_no 7 rfl (by kernel_rfl) (by kernel_rfl) (by kernel_rfl) (fun _ _ _ h => h) (by rfl) (by assumption) ?_) | (refine takeS_yes (v := ?_) 7 rfl (by kernel_rfl) (by kernel_rfl) (by kernel_rfl) (fun _ _ _ h => h) (by rfl) (by assumption) ?_ ?_; rotate_left; focus (intro wS hSw; (have q0 := Go.Joins.cell_of_block hSw 0; have q1 := Go.Joins.cell_of_block hSw 1); go_simp; first | done | with_reducible rfl)))
            (try simp only [Act.put, List.setIfInBounds_toArray, List.set_cons_zero, List.set_cons_succ])
            (first | (refine takeS_no 8 rfl (by kernel_rfl) (by kernel_rfl) (by kernel_rfl) (fun _ _ _ h => h) (by rfl) (by assumption) ?_) | (refine takeS_yes (v := ?_) 8 rfl (by kernel_rfl) (by kernel_rfl) (by kernel_rfl) (fun _ _ _ h => h) (by rfl) (by assumption) ?_ ?_; rotate_left; focus (intro wS hSw; (have q0 := Go.Joins.cell_of_block hSw 0; have q1 := Go.Joins.cell_of_block hSw 1); go_simp; first | done | with_reducible rfl)))
            (try simp only [Act.put, List.setIfInBounds_toArray, List.set_cons_zero, List.set_cons_succ])
            (first | (refine takeS_no 9 rfl (by kernel_rfl) (by kernel_rfl) (by kernel_rfl) (fun _ _ _ h => h) (by rfl) (by assumption) ?_) | (refine takeS_yes (v := ?_) 9 rfl (by kernel_rfl) (by kernel_rfl) (by kernel_rfl) (fun _ _ _ h => h) (by rfl) (by assumption) ?_ ?_; rotate_left; focus (intro wS hSw; (have q0 := Go.Joins.cell_of_block hSw 0; have q1 := Go.Joins.cell_of_block hSw 1); go_simp; first | done | with_reducible rfl)))
            (try simp only [Act.put, List.setIfInBounds_toArray, List.set_cons_zero, List.set_cons_succ])
            have hbd : Below wr.heap.size wr wr.drew := (Below.refl _ _).drew
            have kgd : wr.drew.heap[G]? = some (.cells #[.int .i64 ni, .int .i64 nt, .slice va k vc, .slice none 0 0] 26 (0, 0)) := (hbd.block G hgwr).trans HKG.out
            have owd := HOWN.out.below hbd (Nat.le_refl _)
            have cxd := HCX.out.trans (hbd.mono HCX.out.size)
            have hrbl : rb < wr.heap.size := (Array.getElem?_eq_some_iff.1 HBLK.out).1
            generalize wr.drew = wd at hS0 hbd kgd owd cxd ⊢
            have hzd := hbd.size
            refine takeS_alone 0 rfl (by kernel_rfl) (by rfl) (fun K hK => ?_)
            go_simp
            (have bb := (Below.refl wd.heap.size wd).alloc (Nat.le_refl _) (.cells #[] 5); have ob := BOwn.lit wd [] (by simp); simp only [List.map_nil, List.length_nil] at ob; have se : (wd.alloc (.cells #[] 5)).heap[rb]? = some (.cells #[.slice fa dl fc, .int .i64 k0, .bool false] 118 (0, 0)) := (bb.block rb (by omega)).trans hS0; have kge := (bb.block G (by omega)).trans kgd; have owe := owd.below bb (Nat.le_refl _); have cxe := cxd.trans (bb.mono cxd.size); generalize wd.alloc (.cells #[] 5) = we at bb ob se kge owe cxe ⊢; have hze := bb.size)
            refine hK.out _ _ (by assumption) ?_
            clear hK K
            (try simp only [Act.put, List.setIfInBounds_toArray, List.set_cons_zero, List.set_cons_succ])
            refine takeS_alone 10 rfl (by kernel_rfl) (by rfl) (fun K hK => ?_)
            skip
            (refine oper_append_bo (.tmp 63) (.tmp 72) rfl wd.heap.size (by rfl) ob (by rfl) HDD.out w2.heap.size (HBD.out.below cxe (Nat.le_refl _)) HNL.out (by omega) (by omega) ?_; intro ia il ic wf obf hgf hil; obtain rfl : ml = il := (by omega); clear hil; have hlo : ∀ q, (Value.slice (some ⟨wd.heap.size, 0, none⟩) 0 0).ownBlock = some q → wd.heap.size ≤ q := fun q hq => (ob.lt q hq).1; have sf : wf.heap[rb]? = some (.cells #[.slice fa dl fc, .int .i64 k0, .bool false] 118 (0, 0)) := (hgf.block rb (by omega) (fun e => by have := hlo rb e.symm; omega)).trans se; have kgf := (hgf.block G (by omega) (fun e => by have := hlo G e.symm; omega)).trans kge; have owf := World.ownsRow.kept owe hgf (Or.inr fun e => by have h1 := (World.ownsRow.lt owd wd.heap.size e).2; omega); have cxf := cxe.grown hgf cxe.size (fun q hq => by have := hlo q hq; have := HRB.out; omega); have hzf := hgf.size; have hug := Go.Joins.unfrozen_of_block kgf 3; have hcg := Go.Joins.cell_of_block kgf 3)
            refine hK.out _ _ (by assumption) ?_
            clear hK K
            (try simp only [Act.put, List.setIfInBounds_toArray, List.set_cons_zero, List.set_cons_succ])
            (first | (refine takeS_no 11 rfl (by kernel_rfl) (by kernel_rfl) (by kernel_rfl) (fun _ _ _ h => h) (by rfl) (by assumption) ?_) | (refine takeS_yes (v := ?_) 11 rfl (by kernel_rfl) (by kernel_rfl) (by kernel_rfl) (fun _ _ _ h => h) (by rfl) (by assumption) ?_ ?_; rotate_left; focus (intro wS hSw; (have q0 := Go.Joins.cell_of_block hSw 0); go_simp; first | done | with_reducible rfl)))
            (try simp only [Act.put, List.setIfInBounds_toArray, List.set_cons_zero, List.set_cons_succ])
            refine takeS_alone 12 rfl (by kernel_rfl) (by rfl) (fun K hK => ?_)
            go_simp
            (have kgs : (wf.setCell ⟨G, 3, none⟩ (.slice ia ml ic)).heap[G]? = some (.cells #[.int .i64 ni, .int .i64 nt, .slice va k vc, .slice ia ml ic] 26 (0, 0)) := (by have h := Go.Joins.block_setCell (i := 3) kgf (.slice ia ml ic); simpa using h); have gs : wf.grownBy _ (some G) := grown_set wf ⟨G, 3, none⟩ (.slice ia ml ic); generalize wf.setCell ⟨G, 3, none⟩ (.slice ia ml ic) = w9 at kgs gs ⊢; have ss := (gs.block rb (by omega) (by simp; omega)).trans sf)
            refine hK.out _ _ (by assumption) ?_
            clear hK K
            (try simp only [Act.put, List.setIfInBounds_toArray, List.set_cons_zero, List.set_cons_succ])
            refine wpAnyH_done (by kernel_rfl) ?_ _
            have hv9 : IntsOwn w9 w8.heap.size va k vc acc := World.ownsRow.kept owf gs (Or.inr fun e => by have h1 := (World.ownsRow.lt owf G e).1; omega)
            have ho9 : BOwn w9 wd.heap.size ia ml ic lf := BOwn.kept obf gs (Or.inr fun e => by have h1 := (obf.lt G e).1; omega)
            have cx9 := cxf.grown gs cxf.size (fun q hq => by cases hq; have := HRB.out; omega)
            have hG9 := (cx9.block w.heap.size (by have := HRB.out; omega)).trans HK2.out
            have hb9 := HB2.out.trans (cx9.mono HB2.out.size)
            have hz9 := gs.size
            have KG9 := Lib.hid kgs
            have HV9 := Lib.hid hv9
            have HO9 := Lib.hid ho9
            have CX9 := Lib.hid cx9
            have HG9 := Lib.hid hG9
            have HB9 := Lib.hid hb9
            have g0 := Go.Joins.cell_of_block kgs 0
            have g1 := Go.Joins.cell_of_block kgs 1
            have g2 := Go.Joins.cell_of_block kgs 2
            have g3 := Go.Joins.cell_of_block kgs 3
            clear hS0 hbd kgd owd cxd bb ob se kge owe cxe obf hgf hlo sf kgf owf cxf hug hcg kgs gs ss hv9 ho9 cx9 hG9 hb9 hsl
            have hfine : SnFine ⟨ni, nt, va, acc, vc, ia, lf, ic⟩ := ⟨by have := numS_N64 false d; rw [HS0.out] at this; exact this, by have := numS_N64 bi li; rw [HS1'.out] at this; exact this, HVN.out, by have := HA.out; dsimp only; omega, HLW.out, by have := HDD.out; dsimp only; omega, (ints_nil HV9.out).1, HO9.out.nil, by have := (ints_nil HV9.out).2; have := HA.out; dsimp only; omega, by have := bown_cap HO9.out; have := HDD.out; dsimp only; omega⟩
            obtain ⟨⟨pb, pe⟩, hpb⟩ : ∃ q, snPut ⟨ni, nt, acc, lf⟩ = q := ⟨_, rfl⟩
            have hpw := snPut_wf (s := ⟨ni, nt, acc, lf⟩) HLW.out
            rw [hpb] at hpw
            have HFI := Lib.hid hfine
            have HPB := Lib.hid hpb
            have HPW := Lib.hid hpw
            clear hfine hpb hpw
            go_wp2_with fail
            refine (rsput_y ⟨ni, nt, va, acc, vc, ia, lf, ic⟩ k ml HA.out HDD.out w9 ⟨ints_in HA.out HV9.out, HO9.out.in⟩ HFI.out (pb, pe) HPB.out).mono ?_
            rintro e w10 ⟨a5, n5, c5, rfl, ho5, b10⟩
            have hgw9 := (Array.getElem?_eq_some_iff.1 KG9.out).1
            have CX10 := Lib.hid (CX9.out.trans (b10.mono CX9.out.size))
            have KG10 := Lib.hid ((b10.block G hgw9).trans KG9.out)
            have HO10 := Lib.hid (HO9.out.below b10 (Nat.le_refl _))
            have HV10 := Lib.hid (HV9.out.below b10 (Nat.le_refl _))
            have HG10 := Lib.hid ((CX10.out.block w.heap.size (by have := HRB.out; omega)).trans HK2.out)
            have HB10 := Lib.hid (HB2.out.trans (CX10.out.mono HB2.out.size))
            have hz10 := b10.size
            have hc1 : (convert 24 9 (.slice a5 n5 c5)).run Tryz.prog w10 = .ok (.string (strOfNums pb)) w10 := conv_nums ho5.len ho5.in ho5.nil
            have hc2 : (convert 24 9 (.slice ao used cap)).run Tryz.prog w10 = .ok (.string (strOfNums b)) w10 := conv_nums HN.out (HX2.out.below CX10.out (Nat.le_refl _)) hnil
            obtain ⟨s1, hs1⟩ : ∃ s, strOfNums pb = s := ⟨_, rfl⟩
            obtain ⟨s2, hs2⟩ : ∃ s, strOfNums b = s := ⟨_, rfl⟩
            have hsame : pb = b ↔ s1.toList = s2.toList := by
              rw [← hs1, ← hs2, Lib.strOfNums_toList, Lib.strOfNums_toList]
              exact ⟨fun h => by rw [h], bytesOf_inj HPW.out HW.out⟩
            rw [hs1] at hc1
            rw [hs2] at hc2
            have HSM := Lib.hid hsame
            clear hsame hs1 hs2 ho5 b10 g0 g1 g2 g3
            have g0 := Go.Joins.cell_of_block KG10.out 0
            have g1 := Go.Joins.cell_of_block KG10.out 1
            have g2 := Go.Joins.cell_of_block KG10.out 2
            have g3 := Go.Joins.cell_of_block KG10.out 3
            have hu0 := Go.Joins.unfrozen_of_block HG10.out 0
            have hu1 := Go.Joins.unfrozen_of_block HG10.out 1
            have hu2 := Go.Joins.unfrozen_of_block HG10.out 2
            have hu3 := Go.Joins.unfrozen_of_block HG10.out 3
            have hc0' := Go.Joins.cell_of_block HG10.out 0
            have hc1' := Go.Joins.cell_of_block HG10.out 1
            have hc2' := Go.Joins.cell_of_block HG10.out 2
            have hc3' := Go.Joins.cell_of_block HG10.out 3
            by_cases hpe : pe = 0
            · subst hpe
              by_cases hss : s1.toList = s2.toList
              · have q1' : (s1.toList == s2.toList) = true := beq_iff_eq.2 hss
                have HEQ := Lib.hid (show snPut ⟨ni, nt, acc, lf⟩ = (b, 0) by rw [HPB.out, HSM.out.2 hss])
                go_wp2_with fail
                have hk := block_four (a := .int .i64 ni) (b := .int .i64 nt) (c := .slice va k vc) (d := .slice ia ml ic) HG10.out
                have hgr := grown_four (w := w10) (g := w.heap.size) (a := .int .i64 ni) (b := .int .i64 nt) (c := .slice va k vc) (d := .slice ia ml ic)
                generalize (((w10.setCell ⟨w.heap.size, 0, none⟩ (.int .i64 ni)).setCell ⟨w.heap.size, 1, none⟩ (.int .i64 nt)).setCell ⟨w.heap.size, 2, none⟩ (.slice va k vc)).setCell ⟨w.heap.size, 3, none⟩ (.slice ia ml ic) = w11 at hk hgr ⊢
                refine sget_end (x := ⟨ni, nt, va, acc, vc, ia, lf, ic⟩) rfl ?_ (HB10.out.grown hgr HB10.out.size (fun q hq => by cases hq; exact Nat.le_refl _)) rfl rfl ?_ ?_ HFI.out ⟨?_, ?_⟩
                · rw [hk]
                  unfold snArr
                  dsimp only
                  rw [HA.out, HDD.out]
                · rw [← HR7.out, sure_yes HEQ.out]
                · rw [← HR7.out, sure_yes HEQ.out]
                  rfl
                · dsimp only
                  rw [HA.out]
                  exact IntsOwn.le (World.ownsRow.kept HV10.out hgr (Or.inr fun e => by have h1 := (World.ownsRow.lt HV10.out _ e).1; omega)) (by omega)
                · dsimp only
                  rw [HDD.out]
                  exact (HO10.out.kept hgr (Or.inr fun e => by have h1 := HO10.out.lt _ e; omega)).le (by omega)
              · have q1' : (s1.toList == s2.toList) = false := beq_eq_false_iff_ne.2 hss
                have HNE := Lib.hid (show snPut ⟨ni, nt, acc, lf⟩ ≠ (b, 0) by rw [HPB.out]; intro h; exact hss (HSM.out.1 (congrArg Prod.fst h)))
                go_wp2_with fail
                exact sget_no rfl HG10.out HB10.out rfl rfl (by rw [← HR7.out, sure_ne HNE.out])
            · have q1' : (pe == 0) = false := by simpa using hpe
              have q2' : (pe != 0) = true := by simpa using hpe
              have HNE := Lib.hid (show snPut ⟨ni, nt, acc, lf⟩ ≠ (b, 0) by rw [HPB.out]; intro h; exact hpe (congrArg Prod.snd h))
              go_wp2_with fail
              exact sget_no rfl HG10.out HB10.out rfl rfl (by rw [← HR7.out, sure_ne HNE.out])
    · have i1 : ¬ (used : Int) = n := by omega
      have hg : r = (zeroSn, 4) := by
        rw [← HR.out]
        exact rsnBy_used hun
      go_wp2_with fail
      exact sget_no rfl HK2.out HB2.out rfl rfl hg
  · have i1 : ¬ (pl : Int) = 1 := by omega
    have hg : r = (zeroSn, 4) := by
      rw [← HR.out]
      exact rsnBy_no (by rw [HPL.out]; exact h1)
    go_wp2_with fail
    exact sget_no rfl HK2.out HB2.out rfl rfl hg
end Go.Proofs.YtejgebpdipnhmaaGreatDoor
