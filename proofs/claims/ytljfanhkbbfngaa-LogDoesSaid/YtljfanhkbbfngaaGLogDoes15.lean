/- LogDoes: its walk. Conditions: as each says. -/
import Derived.Test.YtljfanhkbbfngaaGLogDoes14
import Derived.Test.YtljfanhkbbfngaaGLogDoes6
import Derived.Deep.DeepCutAuto
import Derived.Deep.CutBlock
set_option linter.unusedVariables false
set_option linter.unusedSimpArgs false
namespace Go.Proofs.Ytljfanhkbbfngaa
open Go.RowKit
set_option maxRecDepth 20000
/-- The two logs as they are made. -/
theorem both_start {W w3 w4 w5 w6 w7 : World} {g0 : Nat} {lb rb : Nat} {base term : Int} {v rv : Value} {es1 es : List En} {Ts : List TypeId} (hW : W.heap.size ≤ g0) (h23 : g0 ≤ w3.heap.size) (h34 : w3.heap.size ≤ w4.heap.size) (hl : LogAt w4 w3.heap.size lb base term v es1) (he : es1.map En.plain = es.map En.plain) (h45 : Below w4.heap.size w4 w5) (hr : RfAt w5 w4.heap.size rb base term rv es)
    (hsub : ∀ e ∈ es, enSub W W.heap.size e) (h56 : Below w5.heap.size w5 w6) (ho : OverK g0 w3.heap.size Ts w6 w7) (hb : 0 ≤ base ∧ base ≤ 1099511627776) (hlen : es.length ≤ 30) (hs : SmallE es) : Both w7 W.heap.size lb rb base term v es1 rv es 1099511627806 30 := by
  have hl6 := (hl.below h45 (Nat.le_refl _)).below h56 (Nat.le_refl _)
  have hr6 := hr.below h56 (Nat.le_refl _)
  have hlk : LogK (AV g0 w3.heap.size) lb v es1 := hl6.beyond fun g h1 _ => Or.inr h1
  have hek : ∀ e ∈ es, enK (fun g => g < W.heap.size) e := fun e he => enK_sub (hsub e he) fun g hg => hg
  have hrk : RfK (AV g0 w3.heap.size) rb rv es := ⟨Or.inr (Nat.le_trans h34 hr.low), fun g hg => Or.inr (Nat.le_trans h34 (World.ownsRow.lt hr.row g hg).1), fun e he => (hek e he).imp fun g hg => Or.inl (Nat.lt_of_lt_of_le hg hW)⟩
  have hlen1 : es1.length = es.length := by have := congrArg List.length he; simpa using this
  have hv : ∀ g, v.ownBlock = some g → w3.heap.size ≤ g ∧ g < w4.heap.size := fun g hg => World.ownsRow.lt hl.ens.row g hg
  have hne : ∀ g, g < W.heap.size ∨ w4.heap.size ≤ g → LK lb v g := fun g hg => ⟨fun e => by have := hl.lt; have := hl.low; omega, fun e => by have := hv g e; omega⟩
  have hl7 := (hl6.keepsK ho.keeps hlk)
  have hr7 := hr6.keeps ho.keeps hrk
  refine ⟨hl7.le (Nat.le_trans hW h23), ⟨hr7.blk, Go.Joins.ownsRow_le hr7.row (by omega), hr7.sub, hr7.nils, Nat.le_trans (by omega) hr7.low, hr7.apart⟩, ⟨hne _ (Or.inr hr.low), fun g hg => hne g (Or.inr (World.ownsRow.lt hr.row g hg).1), fun e he => (hek e he).imp fun g hg => hne g (Or.inl hg)⟩, he, hb.1, by omega, by omega, SmallE.of_same hs he⟩
theorem sub_of {w : World} {B : Nat} {ao : Option Addr} {es : List En} (hx : EnsIn w B ao es) : ∀ e ∈ es, enSub w B e := fun e he => by
  rcases hx with h | ⟨b, off, _, _, h3⟩
  · rw [h] at he; cases he
  · obtain ⟨q, hq⟩ := List.getElem?_of_mem he
    exact (h3 q e hq).2
set_option maxHeartbeats 8000000 in
theorem walk_LogDoes (W : World) (base : Int) (wb : (Lit.int .i64 base).wf = true) (term : Int) (wt : (Lit.int .i64 term).wf = true) (a : Option Addr) (n cap : Nat) (es : List En) (hn : es.length = n) (hx : EnsIn W W.heap.size a es) (hq : ∀ e ∈ es, EnWf e) (hnil : a = none → cap = 0) (hc : n ≤ cap) (hz : n * 112 ≤ 140737488351232)
    (b : Option Addr) (dn dcap : Nat) (ds : List De) (hdn : ds.length = dn) (hdx : DesIn W W.heap.size b ds) (hdq : ∀ d ∈ ds, DeWf d) (hdnil : b = none → dcap = 0) (hdc : dn ≤ dcap) (hdz : dn * 56 ≤ 140737488351232)
    (fo : Option Addr) (fn fcap : Nat) (first : List Int) (hfn : first.length = fn) (hfx : NumsIn W W.heap.size fo first) (hfnil : fo = none → fcap = 0) :
    Calls Try.prog 3 #[.int .i64 base, .int .i64 term, .slice a n cap, .slice b dn dcap, .slice fo fn fcap] W fun e w' => e = .returned (.bool true) ∧ Below W.heap.size W w' := by
  have HN := Lib.hid hn
  have HX := Lib.hid hx
  have HQ := Lib.hid hq
  have HNIL := Lib.hid hnil
  have HDN := Lib.hid hdn
  have HDX := Lib.hid hdx
  have HDQ := Lib.hid hdq
  have HF := Lib.hid (And.intro hfn (And.intro hfx hfnil))
  clear hn hx hq hnil hdn hdx hdq hdnil hdc hfn hfx hfnil hc wb wt
  go_enter Try.func3, Try.ntmps3
  go_wp2_with fail
  refine (awake_any W).mono ?_
  rintro e w1 ⟨rfl, b1⟩
  go_wp2_with fail
  refine (light_any b dn dcap ds w1 HDN.out ((HDX.out.below deSub_kept b1 (Nat.le_refl _)).mono deSub_rising b1.size) HDQ.out hdz).mono ?_
  rintro e w2 ⟨rfl, b2'⟩
  have b2 := b1.trans (b2'.mono b1.size)
  clear b1 b2'
  obtain ⟨LB, hLB⟩ : ∃ LB, lightB ds = LB := ⟨_, rfl⟩
  rw [hLB]
  have HLB := Lib.hid hLB
  clear hLB
  cases LB with
  | false =>
    go_wp2_with fail
    go_ret
    exact ⟨rfl, b2⟩
  | true =>
  by_cases hbig : 30 < n
  · have d1 : (30 : Int) < n := by omega
    go_wp2_with fail
    go_ret
    exact ⟨rfl, b2⟩
  have d1 : ¬ (30 : Int) < n := by omega
  have d2 : (n : Int) ≤ 30 := by omega
  have d3 : decide ((30 : Int) < (n : Int)) = false := by simpa using d2
  go_wp2_with fail
  refine (plain_any a n cap es w2 HN.out ((HX.out.below enSub_kept b2 (Nat.le_refl _)).mono enSub_rising b2.size) HQ.out (by omega)).mono ?_
  rintro e w3 ⟨rfl, b3'⟩
  have b3 := b2.trans (b3'.mono b2.size)
  clear b2 b3'
  obtain ⟨PL, hPL⟩ : ∃ PL, plainB es = PL := ⟨_, rfl⟩
  rw [hPL]
  have HPL := Lib.hid hPL
  clear hPL
  cases PL with
  | false =>
    go_wp2_with fail
    go_ret
    exact ⟨rfl, b3⟩
  | true =>
  by_cases hbig2 : 30 < fn
  · have d4 : (30 : Int) < fn := by omega
    go_wp2_with fail
    go_ret
    exact ⟨rfl, b3⟩
  have d4 : ¬ (30 : Int) < fn := by omega
  have d5 : (fn : Int) ≤ 30 := by omega
  have d6 : decide ((30 : Int) < (fn : Int)) = false := by simpa using d5
  have HSM := Lib.hid (smallE_plain HPL.out)
  go_wp2_with fail
  refine (lentEs_at a n cap es w3 HN.out ((HX.out.below enSub_kept b3 (Nat.le_refl _)).mono enSub_rising b3.size) HQ.out HSM.out (by omega)).mono ?_
  rintro e w4 ⟨frs0, rfl, hmp0, hl0, b4'⟩
  have hs34 := b4'.size
  have b4 := b3.trans (b4'.mono b3.size)
  have hs3 := b3.size
  have HMP0 := Lib.hid hmp0
  have HL0 := Lib.hid (Lent.of hl0)
  have hfl0 : frs0.length = n := by have := congrArg List.length hmp0; simpa [HN.out] using this
  have HFL0 := Lib.hid hfl0
  generalize w3.heap.size = g0 at *
  clear b3 b4' hmp0 hl0 hfl0
  by_cases hr : 0 ≤ base ∧ base ≤ 1099511627776 ∧ 0 ≤ term ∧ term ≤ 1099511627776
  case neg =>
    go_wp2_with fail
    refine (lnew_none base term _ w4 hr).mono ?_
    rintro e w5 ⟨rfl, rfl⟩
    go_wp2_with fail
    refine (rnew_none base term _ w5 hr).mono ?_
    rintro e w6 ⟨rfl, rfl⟩
    go_wp2_with fail
    refine (keptEs_at a n cap (n + 12) g0 g0 es frs0 w6 HN.out rfl ((HX.out.below enSub_kept b4 (Nat.le_refl _)).mono enSub_rising b4.size) HL0.out.lent HMP0.out HSM.out (by omega)).mono ?_
    rintro e w7 ⟨rfl, b7'⟩
    have hs7 := b7'.size
    have b7 := b4.trans (b7'.mono b4.size)
    have HL7 := Lib.hid (HL0.out.below b7')
    clear b4 b7'
    go_wp2_with fail
    refine (overEs_at g0 w6.heap.size g0 n (n + 12) frs0 w7 HFL0.out rfl HL7.out (SmallE.of_same HSM.out HMP0.out) (by omega) hs7).mono ?_
    rintro e w8 ⟨rfl, ho⟩
    have b8 := b7.trans (ho.mid.below.mono hs3)
    clear b7 ho
    go_wp2_with fail
    go_loopw [15, 16, 17, 18, 19, 20, 21, 22, 23, 24] (fun i _ _ _ _ _ _ _ _ _ wr => i = .int .i64 0 ∧ Below W.heap.size W wr) (fun _ _ _ _ _ _ _ _ _ _ _ => 0)
    case atStart => exact ⟨rfl, b8⟩
    case round =>
      clear b8
      obtain ⟨rfl, hbel⟩ := hrel
      by_cases h0 : dn = 0
      · subst h0
        go_wp2_with fail
        go_ret
        exact ⟨rfl, hbel⟩
      · have i1 : (0 : Int) < dn := by omega
        have i2 : decide ((0 : Int) < dn) = true := by simpa using i1
        go_wp2_with fail
        all_goals (go_ret; exact ⟨rfl, hbel⟩)
  case pos =>
    obtain ⟨r1, r2, r3, r4⟩ := hr
    go_wp2_with fail
    refine (new_any base term (some ⟨g0, 0, none⟩) n (n + 12) frs0 w4 w4.heap.size ⟨r1, r2⟩ ⟨r3, r4⟩ HFL0.out (HL0.out.lent.rows HFL0.out) (Nat.le_refl _) (fun h => nomatch h) (by omega) ⟨(SmallE.of_same HSM.out HMP0.out).small, HL0.out.nils⟩).mono ?_
    rintro e w5 ⟨lb, v0, es0, rfl, hla, hmp, b5'⟩
    have b5 := b4.trans (b5'.mono b4.size)
    have hs45 := b5'.size
    have HL5 := Lib.hid (HL0.out.below b5')
    have HLA := Lib.hid hla
    have HMP := Lib.hid (hmp.trans HMP0.out)
    clear b5' hla hmp
    go_wp2_with fail
    refine (rnew_any base term a n cap es w5 ⟨r1, r2, r3, r4⟩ HN.out ((HX.out.below enSub_kept b5 (Nat.le_refl _)).mono enSub_rising b5.size) HNIL.out (by omega) ⟨HSM.out.small, fun e he => ⟨(HQ.out e he).anil, (HQ.out e he).vnil⟩⟩).mono ?_
    rintro e w6 ⟨rb, rv0, rfl, hra, b6'⟩
    have b6 := b5.trans (b6'.mono b5.size)
    have HL6 := Lib.hid (HL5.out.below b6')
    have HRA := Lib.hid hra
    have hs6 := b6'.size
    have H56 := Lib.hid b6'
    clear b6' hra HL5
    go_wp2_with fail
    refine (keptEs_at a n cap (n + 12) g0 g0 es frs0 w6 HN.out rfl ((HX.out.below enSub_kept b6 (Nat.le_refl _)).mono enSub_rising b6.size) HL6.out.lent HMP0.out HSM.out (by omega)).mono ?_
    rintro e w7 ⟨rfl, b7'⟩
    have hs7 := b7'.size
    have b7 := b6.trans (b7'.mono b6.size)
    have HL7 := Lib.hid (HL6.out.below b7')
    have H67 := Lib.hid b7'
    clear b6 b7' HL6
    go_wp2_with fail
    refine (overEs_at g0 w4.heap.size g0 n (n + 12) frs0 w7 HFL0.out rfl HL7.out (SmallE.of_same HSM.out HMP0.out) (by omega) (by omega)).mono ?_
    rintro e w8 ⟨rfl, ho⟩
    have b8 := b7.trans (ho.mid.below.mono hs3)
    have HBOTH := Lib.hid (show Both w8 W.heap.size lb rb base term v0 es0 rv0 es 1099511627806 30 from both_start hs3 hs34 hs45 HLA.out HMP.out H56.out HRA.out (sub_of HX.out) H67.out ho ⟨r1, r2⟩ (by rw [HN.out]; omega) HSM.out)
    clear b7 ho HL7 HL0 HMP0 HFL0 HLA HRA HMP H56 H67 b4 b5 HNIL HX
    go_wp2_with fail
    go_loopw [15, 16, 17, 18, 19, 20, 21, 22, 23, 24] (fun i _ _ _ _ _ _ _ _ _ wr => ∃ (k : Nat) (base' term' : Int) (v : Value) (es : List En) (rv : Value) (fs : List En), k ≤ dn ∧ i = .int .i64 k ∧ Both wr W.heap.size lb rb base' term' v es rv fs (1099511627806 + 30 * k) (30 + 30 * k) ∧ Below W.heap.size W wr) (fun i _ _ _ _ _ _ _ _ _ _ => dn - (intOf i).toNat)
    case atStart => exact ⟨0, base, term, v0, es0, rv0, es, by omega, rfl, HBOTH.out, b8⟩
    case round =>
      clear b8 HBOTH
      obtain ⟨k, ba, te, v, es1, rv, fs, hk, rfl, hboth, hbel⟩ := hrel
      have hsw := hbel.size
      by_cases hlt : k < dn
      · have hlt' : k < ds.length := by rw [HDN.out]; exact hlt
        have hkx : ds[k]? = some (ds[k]'hlt') := List.getElem?_eq_getElem hlt'
        obtain ⟨db, off, hao, hb, hc, hsub⟩ := HDX.out.at hkx
        have hqx := HDQ.out _ (List.getElem_mem hlt')
        have hin : lightD (ds[k]'hlt') = true := by
          have h := HLB.out
          simp only [lightB, Bool.and_eq_true, List.all_eq_true] at h
          exact h.1 _ (List.getElem_mem hlt')
        have hd60 : dn ≤ 60 := by
          have h := HLB.out
          simp only [lightB, Bool.and_eq_true, decide_eq_true_eq, HDN.out] at h
          exact h.2
        generalize ds[k]'hlt' = x at hc hsub hqx hin
        obtain ⟨kd, ix, tm, sm, eo, en, ec⟩ := x
        obtain ⟨m, hm⟩ : ∃ m, en.length = m := ⟨_, rfl⟩
        have hq' : m ≤ 30 ∧ plainB en = true := by rw [← hm]; simpa [lightD] using hin
        obtain ⟨hm30, hpl⟩ := hq'
        have c0 : wr.cell? ⟨db, off + k * 5, none⟩ = some (.int .i64 kd) := (hbel.cell (p := ⟨db, _, none⟩) hb).trans (hc 0 (by decide))
        have c1 : wr.cell? ⟨db, off + k * 5 + 1, none⟩ = some (.int .i64 ix) := (hbel.cell (p := ⟨db, _, none⟩) hb).trans (hc 1 (by decide))
        have c2 : wr.cell? ⟨db, off + k * 5 + 2, none⟩ = some (.int .i64 tm) := (hbel.cell (p := ⟨db, _, none⟩) hb).trans (hc 2 (by decide))
        have c3 : wr.cell? ⟨db, off + k * 5 + 3, none⟩ = some (.bool sm) := (hbel.cell (p := ⟨db, _, none⟩) hb).trans (hc 3 (by decide))
        have c4 : wr.cell? ⟨db, off + k * 5 + 4, none⟩ = some (.slice eo m ec) := by rw [← hm]; exact (hbel.cell (p := ⟨db, _, none⟩) hb).trans (hc 4 (by decide))
        have i1 : (k : Int) < dn := by omega
        have i2 : decide ((k : Int) < dn) = true := by simpa using i1
        subst hao
        obtain ⟨ra, rc, hrv⟩ := hboth.ref.form
        obtain ⟨L, hL⟩ : ∃ L, fs.length = L := ⟨_, rfl⟩
        rw [hL] at hrv
        have hLe : es1.length = L := by rw [← hL]; exact hboth.lens.symm
        have hLk : L ≤ 30 + 30 * k := by rw [← hLe]; exact hboth.len
        have hb0 := hboth.b0
        have hsum : ba + L ≤ 1099511627806 + 30 * k := by have := hboth.sum; rw [hLe] at this; exact this
        have hasd : Aside wr.heap.size lb rb v := ⟨hboth.log.lt, hboth.ref.lt, fun g hg => (World.ownsRow.lt hboth.log.ens.row g hg).2⟩
        have HK := Lib.hid (⟨hqx.ents, hsub, hm, hpl⟩ : (∀ e ∈ en, EnWf e) ∧ EnsIn W W.heap.size eo en ∧ en.length = m ∧ plainB en = true)
        have HENIL := Lib.hid hqx.nil
        have htm := wf_i64 hqx.term
        have hlL := hboth.log.lt
        have hlR := hboth.ref.lt
        clear hc hkx hsub hqx hin hm hpl hL
        have hin1 := (Below.refl wr.heap.size wr).alloc (Nat.le_refl _) (.cells #[.int .i64 kd, .int .i64 ix, .int .i64 tm, .bool sm, .slice eo m ec] 37)
        have hbk := heap_alloc_new wr (.cells #[.int .i64 kd, .int .i64 ix, .int .i64 tm, .bool sm, .slice eo m ec] 37)
        have hgl : wr.heap.size < (wr.alloc (.cells #[.int .i64 kd, .int .i64 ix, .int .i64 tm, .bool sm, .slice eo m ec] 37)).heap.size := by simp
        go_upto_region 15 with fail
        generalize wr.alloc (.cells #[.int .i64 kd, .int .i64 ix, .int .i64 tm, .bool sm, .slice eo m ec] 37) = w1 at hin1 hbk hgl ⊢
        have hb1 := hbel.trans (hin1.mono hsw)
        have hboth1 := hboth.below hin1
        clear c0 c1 c2 c3 c4 hboth hin1 hbel
        generalize wr.heap.size = gd at hsw hasd hbk hgl hlL hlR ⊢
        have e0 : w1.cell? ⟨rb, 0, none⟩ = some (.int .i64 ba) := hboth1.ref.c0
        have e2 : w1.cell? ⟨rb, 2, none⟩ = some (.slice ra L rc) := by rw [← hrv]; exact hboth1.ref.c2
        have x1 := Go.Joins.cell_of_block hbk 1
        have HB1 := Lib.hid hboth1
        have HBK := Lib.hid hbk
        have HAS := Lib.hid hasd
        have HLE := Lib.hid hLe
        clear hboth1 hbk hasd hrv hLe
        obtain ⟨q, hq⟩ : ∃ q, ix % ((L : Int) + 3) = q := ⟨_, rfl⟩
        have hq0 : 0 ≤ q := by rw [← hq]; exact Int.emod_nonneg _ (by omega)
        have hq1 : q < (L : Int) + 3 := by rw [← hq]; exact Int.emod_lt_of_pos _ (by omega)
        have hpick : ∀ w', Calls Try.prog 12 #[.int .i64 ix, .int .i64 ((L : Int) + 3)] w' fun e w'' => e = .returned (.int .i64 q) ∧ w' = w'' := fun w' => by rw [← hq]; exact pick_any ix ((L : Int) + 3) (by omega) (by omega) w'
        have HPK := Lib.hid hpick
        clear hpick hq
        have k1 : IntKind.i64.wrap ((L : Int) + 3) = L + 3 := IntWalk.i64_in _ (by omega)
        have k2 : IntKind.i64.wrap (ba + q) = ba + q := IntWalk.i64_in _ (by omega)
        have k3 : IntKind.i64.wrap (ba + q - 1) = ba + q - 1 := IntWalk.i64_in _ (by omega)
        go_quiet ((go_at_call 12; exact quietly (HPK.out _)))
        have hdr : Below w1.heap.size w1 (w1.drewN nq) := below_drewN (Below.refl _ _) _
        generalize w1.drewN nq = w2 at hdr ⊢
        have hb2 := hb1.trans (hdr.mono (by omega))
        have HB2 := Lib.hid (HB1.out.below hdr)
        have hbk2 := (hdr.block gd hgl).trans HBK.out
        have hg2 : gd < w2.heap.size := Nat.lt_of_lt_of_le hgl hdr.size
        have x4 := Go.Joins.cell_of_block hbk2 4
        have hs2 := hb2.size
        obtain ⟨i, hi⟩ : ∃ i, ba + q - 1 = i := ⟨_, rfl⟩
        rw [hi]
        have hi1 : ba - 1 ≤ i := by omega
        have hi2 : i ≤ ba + L + 1 := by omega
        have hlnm : LogNums ba es1.length i := by rw [HLE.out]; exact ⟨hb0, by omega, by omega, by omega, by omega⟩
        have hlnm0 : LogNums ba es1.length 0 := by rw [HLE.out]; exact ⟨hb0, by omega, by omega, by omega, by omega⟩
        have HNM := Lib.hid hlnm
        have HNM0 := Lib.hid hlnm0
        clear hdr hb1 HB1 HBK e0 e2 x1 HPK k1 k2 k3 hi hlnm hlnm0 hlL hlR hsw hq0 hq1
        go_wp2_with fail
        refine (lentEs_at eo m ec en w2 HK.out.2.2.1 ((HK.out.2.1.below enSub_kept hb2 (Nat.le_refl _)).mono enSub_rising hs2) HK.out.1 (smallE_plain HK.out.2.2.2) (by omega)).mono ?_
        rintro e w3 ⟨frs, rfl, hmp, hle, b3⟩
        have hfl : frs.length = m := by have := congrArg List.length hmp; simpa [HK.out.2.2.1] using this
        have hway : Way w2 w3 W.heap.size lb rb w2.heap.size m gd ba te v es1 rv fs (1099511627806 + 30 * k) (30 + 30 * k) frs #[.int .i64 kd, .int .i64 ix, .int .i64 tm, .bool sm, .slice eo m ec] 37 :=
          ⟨HB2.out, b3, Lent.of hle, (b3.block gd hg2).trans hbk2, HAS.out, hg2, hfl, hm30, SmallE.of_same (smallE_plain HK.out.2.2.2) hmp⟩
        have HW3 := Lib.hid hway
        have HMP := Lib.hid hmp
        have HFL := Lib.hid hfl
        have hb3 := hb2.trans (b3.mono hs2)
        clear hway hmp hle b3 hfl hb2 hbk2 x4
        obtain ⟨T, hT⟩ : ∃ T, termS ba te (es1.map En.plain) i = T := ⟨_, rfl⟩
        have HT := Lib.hid hT
        clear hT
        go_wp2_with fail
        refine (rtermT W.heap.size rb ba te rv fs i T w3 (by rw [← HB2.out.same]; exact HT.out) HW3.out.ref (by rw [HB2.out.lens]; exact HNM.out)).mono ?_
        rintro e w4 ⟨rfl, b4⟩
        have HW4 := Lib.hid (HW3.out.next b4)
        have hb4 := hb3.trans (b4.mono hb3.size)
        have x2 := Go.Joins.cell_of_block HW4.out.box 2
        have x3 := Go.Joins.cell_of_block HW4.out.box 3
        clear HW3 b4 hb3
        go_upto_if 109 with fail
        go_cut [19] (fun v wq => ∃ tt : Int, v = .int .i64 tt ∧ wq = w4)
        case first =>
          cases sm
          · go_wp2_with fail
            go_meet
            exact ⟨_, rfl, rfl⟩
          · go_wp2_with fail
            go_meet
            exact ⟨_, rfl, rfl⟩
        case rest =>
        obtain ⟨tt, rfl, hwq⟩ := hcut
        have hwq' := hwq.symm
        clear hwq
        subst hwq'
        clear x2 x3
        have x0 := Go.Joins.cell_of_block HW4.out.box 0
        go_wp2_with fail
        refine (pick_any kd 5 (by decide) (by decide) w4).mono ?_
        rintro e w' ⟨rfl, rfl⟩
        obtain ⟨p, hp⟩ : ∃ p, kd % 5 = p := ⟨_, rfl⟩
        rw [hp]
        have hs4 := hb4.size
        have hsml := HW4.out.both.small
        have HSML := Lib.hid hsml
        clear hp x0 hsml
        go_upto_block 2 with fail
        go_cut [21, 22, 23, 24] (fun _ _ _ _ wq => ∃ hi, Done wq W.heap.size lb rb w2.heap.size hi w2.heap.size m gd (1099511627806 + 30 * k + 30) (30 + 30 * k + 30) frs #[.int .i64 kd, .int .i64 ix, .int .i64 tm, .bool sm, .slice eo m ec] 37 ∧ Below W.heap.size W wq)
        case first =>
          have HWD := Lib.hid (HW4.out.next (Below.refl w4.heap.size w4).drew)
          have hbd := hb4.drew
          have hsd := hbd.size
          by_cases p0 : p = 0
          · subst p0
            have x4 := Go.Joins.cell_of_block HW4.out.box 4
            obtain ⟨r, hr⟩ : ∃ r : Int, r = if m = 0 then 0 else ba + es1.length + 1 := ⟨_, rfl⟩
            have HR := Lib.hid hr
            clear hr
            go_upto_region 26 with fail
            refine heldS_begin (fun (w' : World) => w'.cell? ⟨gd, 4, none⟩ = some (.slice eo m ec)) (by kernel_rfl) (x4) ?_
            intro hS0
            (first | (refine takeS_no 0 rfl (by kernel_rfl) (by kernel_rfl) (by kernel_rfl) (fun _ _ _ h => h) (by rfl) (by assumption) ?_) | (refine takeS_yes (v := ?_) 0 rfl (by kernel_rfl) (by kernel_rfl) (by kernel_rfl) (fun _ _ _ h => h) (by rfl) (by assumption) ?_ ?_; rotate_left; focus (intro wS hSw; have q0 := hSw; go_simp; first | done | with_reducible rfl)))
            (try simp only [Act.put, List.setIfInBounds_toArray, List.set_cons_zero, List.set_cons_succ])
            (first | (refine takeS_no 1 rfl (by kernel_rfl) (by kernel_rfl) (by kernel_rfl) (fun _ _ _ h => h) (by rfl) (by assumption) ?_) | (refine takeS_yes (v := ?_) 1 rfl (by kernel_rfl) (by kernel_rfl) (by kernel_rfl) (fun _ _ _ h => h) (by rfl) (by assumption) ?_ ?_; rotate_left; focus (intro wS hSw; have q0 := hSw; go_simp; first | done | with_reducible rfl)))
            (try simp only [Act.put, List.setIfInBounds_toArray, List.set_cons_zero, List.set_cons_succ])
            (first | (refine takeS_no 3 rfl (by kernel_rfl) (by kernel_rfl) (by kernel_rfl) (fun _ _ _ h => h) (by rfl) (by assumption) ?_) | (refine takeS_yes (v := ?_) 3 rfl (by kernel_rfl) (by kernel_rfl) (by kernel_rfl) (fun _ _ _ h => h) (by rfl) (by assumption) ?_ ?_; rotate_left; focus (intro wS hSw; have q0 := hSw; go_simp; first | done | with_reducible rfl)))
            (try simp only [Act.put, List.setIfInBounds_toArray, List.set_cons_zero, List.set_cons_succ])
            (first | (refine takeS_no 4 rfl (by kernel_rfl) (by kernel_rfl) (by kernel_rfl) (fun _ _ _ h => h) (by rfl) (by assumption) ?_) | (refine takeS_yes (v := ?_) 4 rfl (by kernel_rfl) (by kernel_rfl) (by kernel_rfl) (fun _ _ _ h => h) (by rfl) (by assumption) ?_ ?_; rotate_left; focus (intro wS hSw; have q0 := hSw; go_simp; first | done | with_reducible rfl)))
            (try simp only [Act.put, List.setIfInBounds_toArray, List.set_cons_zero, List.set_cons_succ])
            (first | (refine takeS_no 5 rfl (by kernel_rfl) (by kernel_rfl) (by kernel_rfl) (fun _ _ _ h => h) (by rfl) (by assumption) ?_) | (refine takeS_yes (v := ?_) 5 rfl (by kernel_rfl) (by kernel_rfl) (by kernel_rfl) (fun _ _ _ h => h) (by rfl) (by assumption) ?_ ?_; rotate_left; focus (intro wS hSw; have q0 := hSw; go_simp; first | done | with_reducible rfl)))
            (try simp only [Act.put, List.setIfInBounds_toArray, List.set_cons_zero, List.set_cons_succ])
            refine takeS_alone 2 rfl (by kernel_rfl) (by rfl) (fun K hK => ?_)
            go_simp
            (refine (lappend_any W.heap.size lb ba te v es1 (some ⟨w2.heap.size, 0, none⟩) m (m + 12) frs r w4.drew HR.out HWD.out.log HNM0.out hsd HFL.out HWD.out.own.1 (fun h => nomatch h) (by omega) (by rw [HLE.out]; omega) HWD.out.own.2).mono ?_; rintro e w5 ⟨v5, es5, rfl, hl5, hm5, hb5, ht5⟩; have hbx5 := HWD.out.boxT ht5; have hS5 := Go.Joins.cell_of_block hbx5 4; have hb5W := hbd.trans hb5; have HT5 := Lib.hid ht5; have HL5 := Lib.hid (And.intro hl5 hm5); clear ht5 hl5 hm5)
            refine hK.out _ _ (by assumption) ?_
            clear hK K
            (try simp only [Act.put, List.setIfInBounds_toArray, List.set_cons_zero, List.set_cons_succ])
            refine takeS_alone 6 rfl (by kernel_rfl) (by rfl) (fun K hK => ?_)
            go_simp
            (refine (lcopyEs_any eo ec m en w5 HK.out.2.2.1 ((HK.out.2.1.below enSub_kept hb5W (Nat.le_refl _)).mono enSub_rising hb5W.size) ⟨(smallE_plain HK.out.2.2.2).small, fun e he => ⟨(HK.out.1 e he).anil, (HK.out.1 e he).vnil⟩⟩ (by omega)).mono ?_; rintro e w6 ⟨a6, c6, cps, rfl, ho6, hm6, hb6⟩; have hbx6 := (hb6.block gd (Array.getElem?_eq_some_iff.1 hbx5).1).trans hbx5; have hS6 := Go.Joins.cell_of_block hbx6 4; have hb6W := hb5W.trans (hb6.mono hb5W.size); have HO6 := Lib.hid (And.intro ho6 hm6); clear ho6 hm6)
            refine hK.out _ _ (by assumption) ?_
            clear hK K
            (try simp only [Act.put, List.setIfInBounds_toArray, List.set_cons_zero, List.set_cons_succ])
            refine takeS_alone 7 rfl (by kernel_rfl) (by rfl) (fun K hK => ?_)
            go_simp
            (refine (HWD.out.doAppend HNM0.out HR.out HL5.out.1 HL5.out.2 HT5.out hb5.size hsd HO6.out.1 (HO6.out.2.trans HMP.out.symm) hb6 (by rw [HLE.out]; omega)).mono ?_; rintro e w7 ⟨rfl, hdone, hb7⟩; have hS7 := Go.Joins.cell_of_block hdone.box 4; have hb7W := hb6W.trans hb7)
            refine hK.out _ _ (by assumption) ?_
            clear hK K
            (try simp only [Act.put, List.setIfInBounds_toArray, List.set_cons_zero, List.set_cons_succ])
            (first | (refine takeS_no 8 rfl (by kernel_rfl) (by kernel_rfl) (by kernel_rfl) (fun _ _ _ h => h) (by rfl) (by assumption) ?_) | (refine takeS_yes (v := ?_) 8 rfl (by kernel_rfl) (by kernel_rfl) (by kernel_rfl) (fun _ _ _ h => h) (by rfl) (by assumption) ?_ ?_; rotate_left; focus (intro wS hSw; have q0 := hSw; go_simp; first | done | with_reducible rfl)))
            (try simp only [Act.put, List.setIfInBounds_toArray, List.set_cons_zero, List.set_cons_succ])
            refine wpAnyH_done (by kernel_rfl) ?_ _
            go_wp2_with fail
            go_meet
            exact ⟨_, hdone, hb7W⟩
          have n0 : (p == 0) = false := by simpa using p0
          have n0' : decide (p = 0) = false := by simpa using p0
          by_cases p3 : p = 3
          · subst p3
            obtain ⟨r, ok⟩ := T
            cases ok
            · go_wp2_with fail
              refine (compact_no W.heap.size lb ba te v es1 i r w4 HT.out HW4.out.log HNM.out).mono ?_
              rintro e w5 ⟨rfl, hb5⟩
              have hb5W := hb4.trans (hb5.mono hs4)
              go_wp2_with fail
              refine (rcompact_no W.heap.size rb ba te rv fs i r w5 (by rw [← HB2.out.same]; exact HT.out) (HW4.out.ref.below hb5 (Nat.le_refl _)) (by rw [HB2.out.lens]; exact HNM.out)).mono ?_
              rintro e w6 ⟨rfl, hb6⟩
              have hb6W := hb5W.trans (hb6.mono hb5W.size)
              have hdone := HW4.out.read (hb5.trans (hb6.mono hb5.size))
              go_wp2_with fail
              go_meet
              exact ⟨_, hdone, hb6W⟩
            · obtain ⟨kk, hik, hkl⟩ : ∃ kk : Nat, i = ba + kk ∧ kk ≤ es1.length := ⟨(i - ba).toNat, by have := termS_true HT.out; omega, by have := termS_true HT.out; omega⟩
              have HIK := Lib.hid hik
              have HKL := Lib.hid hkl
              clear hik hkl
              go_wp2_with fail
              refine (compact_any W.heap.size lb ba te r v es1 kk i w4 HIK.out HKL.out HT.out HW4.out.log HNM.out hs4).mono ?_
              rintro e w5 ⟨v5, rfl, hl5, hb5, ht5⟩
              have hb5W := hb4.trans hb5
              go_wp2_with fail
              refine (rcompact_any W.heap.size rb ba te r rv fs kk i w5 HIK.out (by rw [HB2.out.lens]; exact HKL.out) (by rw [← HB2.out.same]; exact HT.out) (HW4.out.rf ht5 hb5.size (Below.refl _ _)) (by rw [HB2.out.lens]; exact HNM.out) hb5W.size (by rw [HB2.out.lens, HLE.out]; omega)).mono ?_
              rintro e w6 ⟨rv6, rfl, hr6, ht6, hb6⟩
              have hb6W := hb5W.trans hb6
              have hdone := HW4.out.compact HIK.out HKL.out hl5 ht5 hb5.size hr6 ht6
              go_wp2_with fail
              go_meet
              exact ⟨_, hdone, hb6W⟩
          have n3 : (p == 3) = false := by simpa using p3
          have n3' : decide (p = 3) = false := by simpa using p3
          by_cases p4 : p = 4
          · subst p4
            have x2 := Go.Joins.cell_of_block HW4.out.box 2
            obtain ⟨mn, hmn⟩ : ∃ mn, min tm 100000 = mn := ⟨_, rfl⟩
            have HMN := Lib.hid hmn
            clear hmn
            go_upto_region 32 with fail
            refine heldS_begin (fun (w' : World) => w'.cell? ⟨gd, 2, none⟩ = some (.int .i64 tm)) (by kernel_rfl) (x2) ?_
            intro hS0
            (first | (refine takeS_no 0 rfl (by kernel_rfl) (by kernel_rfl) (by kernel_rfl) (fun _ _ _ h => h) (by rfl) (by assumption) ?_) | (refine takeS_yes (v := ?_) 0 rfl (by kernel_rfl) (by kernel_rfl) (by kernel_rfl) (fun _ _ _ h => h) (by rfl) (by assumption) ?_ ?_; rotate_left; focus (intro wS hSw; have q0 := hSw; go_simp; first | done | with_reducible rfl)))
            (try simp only [Act.put, List.setIfInBounds_toArray, List.set_cons_zero, List.set_cons_succ])
            (first | (refine takeS_no 1 rfl (by kernel_rfl) (by kernel_rfl) (by kernel_rfl) (fun _ _ _ h => h) (by rfl) (by assumption) ?_) | (refine takeS_yes (v := ?_) 1 rfl (by kernel_rfl) (by kernel_rfl) (by kernel_rfl) (fun _ _ _ h => h) (by rfl) (by assumption) ?_ ?_; rotate_left; focus (intro wS hSw; have q0 := hSw; go_simp; first | done | with_reducible rfl)))
            (try simp only [Act.put, List.setIfInBounds_toArray, List.set_cons_zero, List.set_cons_succ])
            (first | (refine takeS_no 2 rfl (by kernel_rfl) (by kernel_rfl) (by kernel_rfl) (fun _ _ _ h => h) (by rfl) (by assumption) ?_) | (refine takeS_yes (v := ?_) 2 rfl (by kernel_rfl) (by kernel_rfl) (by kernel_rfl) (fun _ _ _ h => h) (by rfl) (by assumption) ?_ ?_; rotate_left; focus (intro wS hSw; have q0 := hSw; go_simp; first | done | with_reducible rfl)))
            (try simp only [Act.put, List.setIfInBounds_toArray, List.set_cons_zero, List.set_cons_succ])
            (first | (refine takeS_no 3 rfl (by kernel_rfl) (by kernel_rfl) (by kernel_rfl) (fun _ _ _ h => h) (by rfl) (by assumption) ?_) | (refine takeS_yes (v := ?_) 3 rfl (by kernel_rfl) (by kernel_rfl) (by kernel_rfl) (fun _ _ _ h => h) (by rfl) (by assumption) ?_ ?_; rotate_left; focus (intro wS hSw; have q0 := hSw; go_simp; first | done | with_reducible rfl)))
            (try simp only [Act.put, List.setIfInBounds_toArray, List.set_cons_zero, List.set_cons_succ])
            (first | (refine takeS_no 5 rfl (by kernel_rfl) (by kernel_rfl) (by kernel_rfl) (fun _ _ _ h => h) (by rfl) (by assumption) ?_) | (refine takeS_yes (v := ?_) 5 rfl (by kernel_rfl) (by kernel_rfl) (by kernel_rfl) (fun _ _ _ h => h) (by rfl) (by assumption) ?_ ?_; rotate_left; focus (intro wS hSw; have q0 := hSw; go_simp; first | done | with_reducible rfl)))
            (try simp only [Act.put, List.setIfInBounds_toArray, List.set_cons_zero, List.set_cons_succ])
            (first | (refine takeS_no 6 rfl (by kernel_rfl) (by kernel_rfl) (by kernel_rfl) (fun _ _ _ h => h) (by rfl) (by assumption) ?_) | (refine takeS_yes (v := ?_) 6 rfl (by kernel_rfl) (by kernel_rfl) (by kernel_rfl) (fun _ _ _ h => h) (by rfl) (by assumption) ?_ ?_; rotate_left; focus (intro wS hSw; have q0 := hSw; go_simp; first | done | with_reducible rfl)))
            (try simp only [Act.put, List.setIfInBounds_toArray, List.set_cons_zero, List.set_cons_succ])
            (first | (refine takeS_no 7 rfl (by kernel_rfl) (by kernel_rfl) (by kernel_rfl) (fun _ _ _ h => h) (by rfl) (by assumption) ?_) | (refine takeS_yes (v := ?_) 7 rfl (by kernel_rfl) (by kernel_rfl) (by kernel_rfl) (fun _ _ _ h => h) (by rfl) (by assumption) ?_ ?_; rotate_left; focus (intro wS hSw; have q0 := hSw; go_simp; first | done | with_reducible rfl)))
            (try simp only [Act.put, List.setIfInBounds_toArray, List.set_cons_zero, List.set_cons_succ])
            (first | (refine takeS_no 8 rfl (by kernel_rfl) (by kernel_rfl) (by kernel_rfl) (fun _ _ _ h => h) (by rfl) (by assumption) ?_) | (refine takeS_yes (v := ?_) 8 rfl (by kernel_rfl) (by kernel_rfl) (by kernel_rfl) (fun _ _ _ h => h) (by rfl) (by assumption) ?_ ?_; rotate_left; focus (intro wS hSw; have q0 := hSw; go_simp; first | done | with_reducible rfl)))
            (try simp only [Act.put, List.setIfInBounds_toArray, List.set_cons_zero, List.set_cons_succ])
            refine takeS_two 4 9 rfl rfl (by kernel_rfl) (by rfl) (by rfl) (fun K hK => ?_) (fun K hK => ?_)
            rotate_left
            focus
              skip
              (refine oper_min (.tmp 171) (.const (.int .i64 100000)) rfl tm 100000 mn rfl rfl HMN.out ?_)
              refine hK.out _ _ (by assumption) ?_
              clear hK K
              (try simp only [Act.put, List.setIfInBounds_toArray, List.set_cons_zero, List.set_cons_succ])
              refine takeS_alone 4 rfl (by kernel_rfl) (by rfl) (fun K hK => ?_)
              go_simp
              (refine (lfrom_any W.heap.size lb ba te v es1 i tm w4.drew HWD.out.log HNM.out hsd HSML.out htm.2).mono ?_; rintro e w5 ⟨a5, n5, c5, xs, rfl, hn5, ho5, hm5, hb5⟩; have hS5 : w5.cell? ⟨gd, 2, none⟩ = some (.int .i64 tm) := Go.Joins.cell_of_block ((HWD.out.next hb5).box) 2; have hb5W := hbd.trans (hb5.mono hsd); have HO5 := Lib.hid (And.intro hn5 (And.intro ho5 hm5)); clear hn5 ho5 hm5)
              refine hK.out _ _ (by assumption) ?_
              clear hK K
              (try simp only [Act.put, List.setIfInBounds_toArray, List.set_cons_zero, List.set_cons_succ])
            rotate_left
            focus
              go_simp
              (refine (lfrom_any W.heap.size lb ba te v es1 i tm w4.drew HWD.out.log HNM.out hsd HSML.out htm.2).mono ?_; rintro e w5 ⟨a5, n5, c5, xs, rfl, hn5, ho5, hm5, hb5⟩; have hS5 : w5.cell? ⟨gd, 2, none⟩ = some (.int .i64 tm) := Go.Joins.cell_of_block ((HWD.out.next hb5).box) 2; have hb5W := hbd.trans (hb5.mono hsd); have HO5 := Lib.hid (And.intro hn5 (And.intro ho5 hm5)); clear hn5 ho5 hm5)
              refine hK.out _ _ (by assumption) ?_
              clear hK K
              (try simp only [Act.put, List.setIfInBounds_toArray, List.set_cons_zero, List.set_cons_succ])
              refine takeS_alone 9 rfl (by kernel_rfl) (by rfl) (fun K hK => ?_)
              skip
              (refine oper_min (.tmp 171) (.const (.int .i64 100000)) rfl tm 100000 mn rfl rfl HMN.out ?_)
              refine hK.out _ _ (by assumption) ?_
              clear hK K
              (try simp only [Act.put, List.setIfInBounds_toArray, List.set_cons_zero, List.set_cons_succ])
            all_goals
              refine takeS_alone 10 rfl (by kernel_rfl) (by rfl) (fun K hK => ?_)
              go_simp
              (refine (rfrom_any W.heap.size rb ba te rv fs i mn w5 (HWD.out.ref.below hb5 (Nat.le_refl _)) (by rw [HB2.out.lens]; exact HNM.out) (by rw [HB2.out.lens, HLE.out]; omega) (by omega)).mono ?_; rintro e w6 ⟨a6, n6, c6, rfl, hn6, ho6, hb6⟩; have hb56 := hb5.trans (hb6.mono hb5.size); have hS6 : w6.cell? ⟨gd, 2, none⟩ = some (.int .i64 tm) := Go.Joins.cell_of_block ((HWD.out.next hb56).box) 2; have hb6W := hb5W.trans (hb6.mono hb5W.size))
              refine hK.out _ _ (by assumption) ?_
              clear hK K
              (try simp only [Act.put, List.setIfInBounds_toArray, List.set_cons_zero, List.set_cons_succ])
              refine takeS_alone 11 rfl (by kernel_rfl) (by rfl) (fun K hK => ?_)
              go_simp
              (refine (HWD.out.doSame HMN.out HO5.out.1 HO5.out.2.1 HO5.out.2.2 hb5 hn6 ho6 hb6 (by rw [HLE.out]; omega)).mono ?_; rintro e w7 ⟨rfl, hb57, hb7⟩; have hS7 : w7.cell? ⟨gd, 2, none⟩ = some (.int .i64 tm) := Go.Joins.cell_of_block ((HWD.out.next hb57).box) 2; have hb7W := hb6W.trans (hb7.mono hb6W.size); have hdone := HWD.out.read hb57)
              refine hK.out _ _ (by assumption) ?_
              clear hK K
              (try simp only [Act.put, List.setIfInBounds_toArray, List.set_cons_zero, List.set_cons_succ])
              (first | (refine takeS_no 12 rfl (by kernel_rfl) (by kernel_rfl) (by kernel_rfl) (fun _ _ _ h => h) (by rfl) (by assumption) ?_) | (refine takeS_yes (v := ?_) 12 rfl (by kernel_rfl) (by kernel_rfl) (by kernel_rfl) (fun _ _ _ h => h) (by rfl) (by assumption) ?_ ?_; rotate_left; focus (intro wS hSw; have q0 := hSw; go_simp; first | done | with_reducible rfl)))
              (try simp only [Act.put, List.setIfInBounds_toArray, List.set_cons_zero, List.set_cons_succ])
              refine wpAnyH_done (by kernel_rfl) ?_ _
              go_wp2_with fail
              go_meet
              exact ⟨_, hdone, hb7W⟩
          have n4 : (p == 4) = false := by simpa using p4
          have n4' : decide (p = 4) = false := by simpa using p4
          by_cases hf : T = (tt, true)
          · subst hf
            obtain ⟨k0, hk0⟩ := fit_to ba te (es1.map En.plain) i (frs.map En.plain)
            obtain ⟨r, hr⟩ : ∃ r : Int, r = if k0 = m then 0 else i + 1 + k0 := ⟨_, rfl⟩
            have HR := Lib.hid hr
            have HK0 := Lib.hid hk0
            clear hr hk0
            go_wp2_with fail
            refine (fit_at W.heap.size lb ba te v es1 i tt (some ⟨w2.heap.size, 0, none⟩) m (m + 12) frs k0 w4 w4.heap.size HT.out HK0.out HW4.out.log HNM.out (by omega) hs4 HFL.out HW4.out.own.1 (Nat.le_refl _) (fun h => nomatch h) (by omega) (by omega) (by rw [HLE.out]; omega) HW4.out.own.2).mono ?_
            rintro e w5 ⟨v5, es5, hE, hl5, hm5, hb5, ht5⟩
            rw [List.length_map, HFL.out] at hE hm5
            rw [← HR.out] at hE
            subst hE
            have hbx5 := HW4.out.boxT ht5
            have hS5 := Go.Joins.cell_of_block hbx5 4
            have hb5W := hb4.trans hb5
            have HT5 := Lib.hid ht5
            have HL5 := Lib.hid (And.intro hl5 hm5)
            clear ht5 hl5 hm5
            go_wp2_with fail
            refine (lcopyEs_any eo ec m en w5 HK.out.2.2.1 ((HK.out.2.1.below enSub_kept hb5W (Nat.le_refl _)).mono enSub_rising hb5W.size) ⟨(smallE_plain HK.out.2.2.2).small, fun e he => ⟨(HK.out.1 e he).anil, (HK.out.1 e he).vnil⟩⟩ (by omega)).mono ?_
            rintro e w6 ⟨a6, c6, cps, rfl, ho6, hm6, hb6⟩
            have hb6W := hb5W.trans (hb6.mono hb5W.size)
            have HO6 := Lib.hid (And.intro ho6 hm6)
            clear ho6 hm6 hS5
            go_wp2_with fail
            refine (HW4.out.doFit HT.out HK0.out HNM.out (by omega) HR.out HL5.out.1 HL5.out.2 HT5.out hb5.size hs4 HO6.out.1 (HO6.out.2.trans HMP.out.symm) hb6 (by rw [HLE.out]; omega)).mono ?_
            rintro e w7 ⟨rfl, hdone, hb7⟩
            have hb7W := hb6W.trans hb7
            go_wp2_with fail
            go_meet
            exact ⟨_, hdone, hb7W⟩
          · have hno : T.2 = true → T.1 ≠ tt := fun h1 h2 => hf (by rw [← h1, ← h2])
            go_wp2_with fail
            refine (fit_no W.heap.size lb ba te v es1 i tt T.1 T.2 _ w4 HT.out hno HW4.out.log HNM.out).mono ?_
            rintro e w5 ⟨rfl, hb5⟩
            have hbx5 := (HW4.out.next hb5).box
            have hS5 := Go.Joins.cell_of_block hbx5 4
            have hb5W := hb4.trans (hb5.mono hs4)
            go_wp2_with fail
            refine (lcopyEs_any eo ec m en w5 HK.out.2.2.1 ((HK.out.2.1.below enSub_kept hb5W (Nat.le_refl _)).mono enSub_rising hb5W.size) ⟨(smallE_plain HK.out.2.2.2).small, fun e he => ⟨(HK.out.1 e he).anil, (HK.out.1 e he).vnil⟩⟩ (by omega)).mono ?_
            rintro e w6 ⟨a6, c6, cps, rfl, ho6, hm6, hb6⟩
            have hb6W := hb5W.trans (hb6.mono hb5W.size)
            have hb56 := hb5.trans (hb6.mono hb5.size)
            clear ho6 hm6 hS5
            go_wp2_with fail
            refine (rfit_no W.heap.size rb ba te rv fs i tt T.1 T.2 _ w6 (by rw [← HB2.out.same]; exact HT.out) hno (HW4.out.ref.below hb56 (Nat.le_refl _)) (by rw [HB2.out.lens]; exact HNM.out)).mono ?_
            rintro e w7 ⟨rfl, hb7⟩
            have hb7W := hb6W.trans (hb7.mono hb6W.size)
            have hdone := HW4.out.read (hb56.trans (hb7.mono hb56.size))
            go_wp2_with fail
            go_meet
            exact ⟨_, hdone, hb7W⟩
        case rest =>
        obtain ⟨hi, hdone, hbW⟩ := hcut
        have HD := Lib.hid hdone
        have x4 := Go.Joins.cell_of_block hdone.box 4
        have hsW := hbW.size
        clear hdone hb4 hs4 HW4 HB2 HAS HNM HNM0 HT HSML HENIL htm
        go_wp2_with fail
        refine (keptEs_at eo m ec (m + 12) w2.heap.size w2.heap.size en frs wc HK.out.2.2.1 rfl ((HK.out.2.1.below enSub_kept hbW (Nat.le_refl _)).mono enSub_rising hsW) HD.out.lent.lent HMP.out (smallE_plain HK.out.2.2.2) (by omega)).mono ?_
        rintro e w6 ⟨rfl, b6⟩
        have HD6 := Lib.hid (HD.out.next b6)
        have hb6 := hbW.trans (b6.mono hsW)
        clear HD b6 x4 hbW hsW
        go_wp2_with fail
        refine (overEs_at w2.heap.size hi w2.heap.size m (m + 12) frs w6 HFL.out rfl HD6.out.lent (SmallE.of_same (smallE_plain HK.out.2.2.2) HMP.out) (by omega) HD6.out.hi).mono ?_
        rintro e w7 ⟨rfl, ho⟩
        have hb7 := hb6.trans (ho.mid.below.mono hs2)
        obtain ⟨ba2, te2, v2, es2, rv2, fs2, hboth2⟩ := HD6.out.aft.over ho
        have hlen2 := hboth2.len
        have hb02 := hboth2.b0
        have hsum2 := hboth2.sum
        have hps2 : ∀ e ∈ es2, e.vs.length ≤ 1000000 := fun e he => by have := (hboth2.small e he).2; omega
        have HB7 := Lib.hid hboth2
        have hs7 := hb7.size
        clear ho hboth2 HD6 hb6
        go_wp2_with fail
        refine (like_any W.heap.size W.heap.size lb rb ba2 te2 v2 rv2 es2 fs2 fo fn fcap first w7 HB7.out.log HB7.out.ref HB7.out.same ⟨hb02, by omega⟩ (by omega) HB7.out.arg hps2 HF.out.1 ((HF.out.2.1.below noSub_kept hb7 (Nat.le_refl _)).mono noSub_rising hs7) HF.out.2.2 (by omega)).mono ?_
        rintro e w8 ⟨rfl, b8⟩
        have k1 : IntKind.i64.wrap ((k : Int) + 1) = k + 1 := IntWalk.i64_in _ (by omega)
        go_wp2_with fail
        go_roundw
        case rel => exact ⟨k + 1, ba2, te2, v2, es2, rv2, fs2, by omega, by go_num, (HB7.out.below b8).mono (by omega) (by omega), hb7.trans (b8.mono hs7)⟩
        case measure => simp [intOf]; omega
      · obtain rfl : k = dn := by omega
        have i1 : decide ((k : Int) < k) = false := by simp
        have hps : ∀ e ∈ es1, e.vs.length ≤ 1000000 := fun e he => by have := (hboth.small e he).2; omega
        have hd60 : k ≤ 60 := by
          have h := HLB.out
          simp only [lightB, Bool.and_eq_true, decide_eq_true_eq, HDN.out] at h
          exact h.2
        have hlen := hboth.len
        have hb0 := hboth.b0
        have hsum := hboth.sum
        have HB := Lib.hid hboth
        clear hboth
        go_wp2_with fail
        refine (like_any W.heap.size W.heap.size lb rb ba te v rv es1 fs fo fn fcap first wr HB.out.log HB.out.ref HB.out.same ⟨hb0, by omega⟩ (by omega) HB.out.arg hps HF.out.1 ((HF.out.2.1.below noSub_kept hbel (Nat.le_refl _)).mono noSub_rising hsw) HF.out.2.2 (by omega)).mono ?_
        rintro e w9 ⟨rfl, b9⟩
        go_wp2_with fail
        go_ret
        exact ⟨rfl, hbel.trans (b9.mono hsw)⟩
end Go.Proofs.Ytljfanhkbbfngaa
