/- A snap among the arguments. Conditions: it is read as the row reads it, its weights are bounded. -/
import Derived.Test.YthiijbjhgkeikaaDoorGSnapBack3
import Derived.Test.YthiijbjhgkeikaaDoorGSnapBack13
set_option linter.unusedVariables false
set_option linter.unusedSimpArgs false
namespace Go.Proofs.YthiijbjhgkeikaaDoor
open Go.RowKit Go.ChangeShapes
set_option maxRecDepth 20000
theorem scells_bs : Tryd.prog.cellsOf 23 = 1 := by kernel_rfl
theorem scells_b : Tryd.prog.cellsOf 5 = 1 := by kernel_rfl
theorem sbytes_b : Tryd.prog.bytesOf 5 = 1 := by kernel_rfl
def sbCells (x : Int) : List Value := [.int .u8 x]
theorem sb_el {H : Type} {enc : TypeId × Value → H} {W : World} {sp : Nat → Bool} {hd : Bool} (cs : List Value) (n : Nat) (y : DataW H) (pl : List MemPlace) (hl : cs.length = 1) (h : DataW.trod enc Tryd.prog W 0 sp hd n 5 cs = some (y, pl)) (_ : DSized Tryd.prog 5 y) :
    ∃ x : Int, sbCells x = cs ∧ noSub W W.heap.size x ∧ (Lit.int .u8 x).wf = true := by
  obtain ⟨k0, e0, _, w0⟩ := DataW.trod_int Tryd.underlying5 h
  exact ⟨k0, e0.symm, trivial, w0⟩
theorem srows_bytes {w : World} {B : Nat} {ao : Option Addr} {xs : List Int} (h : RowsIn 1 sbCells noSub w B ao xs) : BytesIn w B ao xs := by
  rcases h with h | ⟨b, off, h1, h2, h3⟩
  · exact Or.inl h
  · refine Or.inr ⟨b, off, h1, h2, fun i hi => ?_⟩
    have hx : xs[i]? = some xs[i] := List.getElem?_eq_getElem hi
    have := (h3 i _ hx).1 0 (by decide)
    rw [Nat.mul_one, Nat.add_zero] at this
    rw [this]
    simp [sbCells, List.getD, hx]
/-- What holds of a snap among the arguments. -/
structure SnArg (x : Sn) : Prop where
  index : (Lit.int .i64 x.index).wf = true
  term : (Lit.int .i64 x.term).wf = true
  vs : ∀ v ∈ x.vs, (Lit.int .i64 v).wf = true
  vn : x.vs.length * 8 ≤ 140737488351232
  im : BytesWf x.im
  ln : x.im.length ≤ 140737488351232
  vnil : x.va = none → x.vc = 0
  inil : x.ia = none → x.ic = 0
  vcap : x.vs.length ≤ x.vc
  icap : x.im.length ≤ x.ic
theorem SnArg.fine {x : Sn} (h : SnArg x) (h1 : x.vs.length ≤ 1000000) (h2 : x.im.length ≤ 4000000) : SnFine x :=
  ⟨of_lit h.index, of_lit h.term, fun v hv => of_lit (h.vs v hv), h1, h.im, h2, h.vnil, h.inil, h.vcap, h.icap⟩
theorem sn_el {H : Type} {enc : TypeId × Value → H} {W : World} {sp : Nat → Bool} {hd : Bool} (cs : List Value) (n : Nat) (y : DataW H) (pl : List MemPlace) (hl : cs.length = 4) (h : DataW.trod enc Tryd.prog W 0 sp hd n 25 cs = some (y, pl)) (hz : DSized Tryd.prog 25 y) :
    ∃ x : Sn, snVal x = .agg cs.toArray ∧ snSub W W.heap.size x ∧ SnArg x := by
  obtain ⟨c0, c1, c2, c3, rfl⟩ : ∃ c0 c1 c2 c3, cs = [c0, c1, c2, c3] := by
    match cs, hl with
    | [c0, c1, c2, c3], _ => exact ⟨c0, c1, c2, c3, rfl⟩
  obtain ⟨xs, m, _, hx, _, hlen, hf⟩ := DataW.trod_struct Tryd.underlying25 h
  simp only [Prod.mk.injEq] at hx
  obtain ⟨rfl, _⟩ := hx
  match xs, hlen with
  | [y0, y1, y2, y3], _ =>
    have h0 := hf 0 _ rfl
    have h1 := hf 1 _ rfl
    have h2 := hf 2 _ rfl
    have h3 := hf 3 _ rfl
    have z2 := DSized.field Tryd.underlying25 hz (i := 2) (y := y2) rfl rfl
    have z3 := DSized.field Tryd.underlying25 hz (i := 3) (y := y3) rfl rfl
    simp [cells_i64, cells_ints, scells_bs] at h0 h1 h2 h3
    obtain ⟨k0, e0, _, w0⟩ := DataW.trod_int Tryd.underlying3 h0
    obtain ⟨k1, e1, _, w1⟩ := DataW.trod_int Tryd.underlying3 h1
    obtain ⟨va, vl, vc, e2, t2⟩ := slice_cell Tryd.underlying22 h2
    obtain ⟨ia, il, ic, e3, t3⟩ := slice_cell Tryd.underlying23 h3
    obtain ⟨vs, rfl, vx, vq, vnil, vcap, vlen⟩ := open_sized (k := 1) (cells := iCells) (sub := noSub) (fun x => (Lit.int .i64 x).wf = true) Tryd.underlying22 cells_i64 (by decide) i_el t2 z2
    obtain ⟨im, rfl, ix, iq, inil, icap, ilen⟩ := open_sized (k := 1) (cells := sbCells) (sub := noSub) (fun x => (Lit.int .u8 x).wf = true) Tryd.underlying23 scells_b (by decide) sb_el t3 z3
    simp at e0 e1 e2 e3
    subst e0 e1 e2 e3
    rw [bytes_i] at vlen
    rw [sbytes_b, Nat.mul_one] at ilen
    exact ⟨⟨k0, k1, va, vs, vc, ia, im, ic⟩, rfl, ⟨vx, srows_bytes ix⟩, ⟨w0, w1, vq, vlen, fun x hx => u8_of (iq x hx), ilen, vnil, inil, vcap, icap⟩⟩
theorem open_snap {H : Type} {enc : TypeId × Value → H} {W : World} {sp : Nat → Bool} {hd : Bool} {cs : Array Value} {d : DataW H} {p : List MemPlace} (hc : cs.size = Tryd.prog.cellsOf 25) (h : DataW.Trod enc Tryd.prog W 0 sp hd 25 (.agg cs) d p) (hz : DSized Tryd.prog 25 d) :
    ∃ x : Sn, .agg cs = snVal x ∧ snSub W W.heap.size x ∧ SnArg x := by
  have h12 : Tryd.prog.cellsOf 25 = 4 := by kernel_rfl
  obtain ⟨n, hn⟩ := h
  obtain ⟨t, e, x, w⟩ := sn_el cs.toList n d p (by rw [Array.length_toList, hc, h12]) (by simpa [Value.cells] using hn) hz
  exact ⟨t, by rw [e], x, w⟩
end Go.Proofs.YthiijbjhgkeikaaDoor
/- A snap's bytes are got as it; what is got of any bytes is put as just these. Conditions: as the law's statement. -/
namespace Go.Proofs.YthiijbjhgkeikaaDoor
open Go.RowKit Go.ChangeShapes
set_option maxRecDepth 20000
theorem sget_as (ao : Option Addr) (n cap : Nat) (b : List Int) (w : World) (hn : b.length = n) (hx : BytesIn w w.heap.size ao b) (hw : BytesWf b) (hnil : ao = none → cap = 0) (hcap : n ≤ cap) (hl : n ≤ 3000000) (r : SnP × Int) (hr : snGet b = r) :
    Calls Tryd.prog 18 #[.slice ao n cap] w fun e w' => ∃ (i t : Int) (va : Option Addr) (xs : List Int) (vc : Nat) (ia : Option Addr) (im : List Int) (ic : Nat), e = .returned (.tuple #[.agg #[.int .i64 i, .int .i64 t, .slice va xs.length vc, .slice ia im.length ic], .int .i64 r.2]) ∧ (⟨i, t, xs, im⟩ : SnP) = r.1 ∧ SnFine ⟨i, t, va, xs, vc, ia, im, ic⟩ ∧ OwnSn w' w.heap.size ⟨i, t, va, xs, vc, ia, im, ic⟩ ∧ Below w.heap.size w w' := by
  refine (sget_any ao n cap b w hn hx hw hnil hcap hl r hr).mono ?_
  rintro e w' ⟨⟨i, t, va, xs, vc, ia, im, ic⟩, rfl, h1, h2, h3, h4⟩
  exact ⟨i, t, va, xs, vc, ia, im, ic, rfl, h1, h2, h3, h4⟩
theorem own_sub {w : World} {base : Nat} {x : Sn} (h : OwnSn w base x) : snSub w w.heap.size x := ⟨ints_in rfl h.1, h.2.in⟩
theorem sameSnap_at (x y : Sn) (n m : Nat) (hn : x.vs.length = n) (hmm : x.im.length = m) (w : World) (hx : snSub w w.heap.size x) (hy : snSub w w.heap.size y) (hp : x.plain = y.plain) (hl : x.vs.length ≤ 1000000) (hm : x.im.length ≤ 4000000) :
    Calls Tryd.prog 8 #[.agg #[.int .i64 x.index, .int .i64 x.term, .slice x.va n x.vc, .slice x.ia m x.ic], snVal y] w fun e w' => e = .returned (.bool true) ∧ Below w.heap.size w w' := by
  subst hn hmm
  exact sameSnap_any x y w hx hy hp hl hm
set_option maxHeartbeats 8000000 in
theorem snapBack_any (x : Sn) (w : World) (hx : snSub w w.heap.size x) (hq : SnArg x) (ao : Option Addr) (n cap : Nat) (b : List Int) (hn : b.length = n) (hb : BytesIn w w.heap.size ao b) (hw : BytesWf b) (hao : ao = none → cap = 0) (hcap : n ≤ cap) :
    Calls Tryd.prog 5 #[snVal x, .slice ao n cap] w fun e w' => e = .returned (.bool true) ∧ Below w.heap.size w w' := by
  have hb0 := (Below.refl w.heap.size w).alloc (Nat.le_refl _) (.cells (snArr x) 25)
  have hk0 := heap_alloc_new w (.cells (snArr x) 25)
  have HB0 := Lib.hid hb0
  have HK0 := Lib.hid hk0
  have HX := Lib.hid hx
  have HQ := Lib.hid hq
  have HN := Lib.hid hn
  have HB := Lib.hid hb
  have HW := Lib.hid hw
  clear hb0 hk0 hx hq hn hb hw
  obtain ⟨si, st, va, xs, vc, ia, im, ic⟩ := x
  dsimp only [snVal, snArr] at HB0 HK0 ⊢
  obtain ⟨k, hk⟩ : ∃ k, xs.length = k := ⟨_, rfl⟩
  obtain ⟨m, hm⟩ : ∃ m, im.length = m := ⟨_, rfl⟩
  rw [hk, hm] at HB0 HK0 ⊢
  have HKL := Lib.hid hk
  have HML := Lib.hid hm
  clear hk hm
  go_enter Tryd.func5, Tryd.ntmps5
  go_upto_region 1 with fail
  generalize w.alloc (.cells #[.int .i64 si, .int .i64 st, .slice va k vc, .slice ia m ic] 25) = w1 at HB0 HK0 ⊢
  go_wp2_with fail
  refine (awake19_any w1).mono ?_
  rintro e w2 ⟨rfl, hb2⟩
  have HK2 := Lib.hid ((hb2.block _ (Array.getElem?_eq_some_iff.1 HK0.out).1).trans HK0.out)
  have HB2 := Lib.hid (HB0.out.trans (hb2.mono HB0.out.size))
  have g0 := Go.Joins.cell_of_block HK2.out 0
  have g1 := Go.Joins.cell_of_block HK2.out 1
  have g2 := Go.Joins.cell_of_block HK2.out 2
  have g3 := Go.Joins.cell_of_block HK2.out 3
  clear hb2 HB0 HK0
  by_cases hm1 : 30000 < m
  · have i1 : (30000 : Int) < m := by omega
    go_wp2_with fail
    go_ret
    exact ⟨rfl, HB2.out⟩
  have i1 : ¬ (30000 : Int) < m := by omega
  have l1 : (m : Int) ≤ 30000 := by omega
  have d1 : decide ((30000 : Int) < (m : Int)) = false := decide_eq_false i1
  by_cases hk1 : 2000 < k
  · have i2 : (2000 : Int) < k := by omega
    go_wp2_with fail
    go_ret
    exact ⟨rfl, HB2.out⟩
  have i2 : ¬ (2000 : Int) < k := by omega
  have l2 : (k : Int) ≤ 2000 := by omega
  have d2 : decide ((2000 : Int) < (k : Int)) = false := decide_eq_false i2
  by_cases hn1 : 30000 < n
  · have i3 : (30000 : Int) < n := by omega
    go_wp2_with fail
    go_ret
    exact ⟨rfl, HB2.out⟩
  have i3 : ¬ (30000 : Int) < n := by omega
  have l3 : (n : Int) ≤ 30000 := by omega
  have d3 : decide ((30000 : Int) < (n : Int)) = false := decide_eq_false i3
  have hfine : SnFine ⟨si, st, va, xs, vc, ia, im, ic⟩ := HQ.out.fine (by have := HKL.out; dsimp only; omega) (by have := HML.out; dsimp only; omega)
  have HFI := Lib.hid hfine
  have hsub : snSub w2 w2.heap.size ⟨si, st, va, xs, vc, ia, im, ic⟩ := snSub_mono (snSub_below HX.out HB2.out (Nat.le_refl _)) HB2.out.size
  have HSUB := Lib.hid hsub
  obtain ⟨⟨pb, pe⟩, hpb⟩ : ∃ q, snPut ⟨si, st, xs, im⟩ = q := ⟨_, rfl⟩
  have hpw := snPut_wf (s := ⟨si, st, xs, im⟩) hfine.im
  have hpl := snPut_len ⟨si, st, xs, im⟩
  rw [hpb] at hpw hpl
  have HPB := Lib.hid hpb
  have HPW := Lib.hid hpw
  have HPL := Lib.hid hpl
  clear hfine hsub hpb hpw hpl
  go_wp2_with fail
  refine (sput_at ⟨si, st, va, xs, vc, ia, im, ic⟩ k m HKL.out HML.out w2 HSUB.out HFI.out (pb, pe) HPB.out).mono ?_
  rintro e w3 ⟨a3, n3, c3, rfl, ho3, hb3⟩
  have HK3 := Lib.hid ((hb3.block _ (Array.getElem?_eq_some_iff.1 HK2.out).1).trans HK2.out)
  have HB3 := Lib.hid (HB2.out.trans (hb3.mono HB2.out.size))
  have HS3 := Lib.hid (snSub_mono (snSub_below HSUB.out hb3 (Nat.le_refl _)) hb3.size)
  have HO3 := Lib.hid ho3
  have hn3 : n3 ≤ 1048585 := by rw [← ho3.len]; exact HPL.out
  clear ho3 hb3 g0 g1 g2 g3
  dsimp only
  go_upto_if 36 with fail
  -- the second half: what is got of any bytes
  go_cut [] (fun wq => Below w.heap.size w wq)
  case first =>
    by_cases hpe : pe = 0
    · subst hpe
      go_wp2_with fail
      refine (sget_as a3 n3 c3 pb w3 HO3.out.len HO3.out.in HPW.out HO3.out.nil (bown_cap HO3.out) (by omega) (⟨si, st, xs, im⟩, 0) (snGet_back (s := ⟨si, st, xs, im⟩) HFI.out.im HPB.out)).mono ?_
      rintro e w4 ⟨yi, yt, yva, yxs, yvc, yia, yim, yic, rfl, hyp, hyf, hyo, hb4⟩
      simp only [SnP.mk.injEq] at hyp
      obtain ⟨rfl, rfl, rfl, rfl⟩ := hyp
      have hz4 := hb4.size
      have hlt3 := (Array.getElem?_eq_some_iff.1 HK3.out).1
      have hb45 := (Below.refl w4.heap.size w4).alloc (Nat.le_refl _) (.cells #[.int .i64 yi, .int .i64 yt, .slice yva yxs.length yvc, .slice yia yim.length yic] 25)
      have hk5 := heap_alloc_new w4 (.cells #[.int .i64 yi, .int .i64 yt, .slice yva yxs.length yvc, .slice yia yim.length yic] 25)
      have hb35 := hb4.trans (hb45.mono hz4)
      have HKS := Lib.hid ((hb35.block _ hlt3).trans HK3.out)
      have HKY := Lib.hid hk5
      have HB5 := Lib.hid (HB3.out.trans (hb35.mono HB3.out.size))
      have HSS := Lib.hid (snSub_mono (snSub_below HS3.out hb35 (Nat.le_refl _)) hb35.size)
      have HSY := Lib.hid (snSub_mono (snSub_below (own_sub hyo) hb45 (Nat.le_refl _)) hb45.size)
      clear hb4 hb45 hk5 hb35 hyo
      dsimp only
      go_upto_region 8 with fail
      generalize w4.alloc (.cells #[.int .i64 yi, .int .i64 yt, .slice yva yxs.length yvc, .slice yia yim.length yic] 25) = w5 at HKS HKY HB5 HSS HSY ⊢
      have g0 := Go.Joins.cell_of_block HKS.out 0
      have g1 := Go.Joins.cell_of_block HKS.out 1
      have g2 := Go.Joins.cell_of_block HKS.out 2
      have g3 := Go.Joins.cell_of_block HKS.out 3
      have y0 := Go.Joins.cell_of_block HKY.out 0
      have y1 := Go.Joins.cell_of_block HKY.out 1
      have y2 := Go.Joins.cell_of_block HKY.out 2
      have y3 := Go.Joins.cell_of_block HKY.out 3
      go_wp2_with fail
      refine (sameSnap_at ⟨yi, yt, va, yxs, vc, ia, yim, ic⟩ ⟨yi, yt, yva, yxs, yvc, yia, yim, yic⟩ k m HKL.out HML.out w5 HSS.out HSY.out rfl HFI.out.vn HFI.out.ln).mono ?_
      rintro e w6 ⟨rfl, hb6⟩
      have hb := HB5.out.trans (hb6.mono HB5.out.size)
      clear g0 g1 g2 g3 y0 y1 y2 y3 hb6
      go_wp2_with fail
      go_meet
      exact hb
    · go_wp2_with fail
      go_meet
      exact HB3.out
  case rest =>
  have HBC := Lib.hid hcut
  have hxb := (HB.out.below hcut (Nat.le_refl _)).mono hcut.size
  have HXB := Lib.hid hxb
  obtain ⟨⟨gs, ge⟩, hgr⟩ : ∃ q, snGet b = q := ⟨_, rfl⟩
  have hone := snGet_one b
  rw [hgr] at hone
  have HGR := Lib.hid hgr
  have HONE := Lib.hid hone
  clear hcut hxb hgr hone HK3 HB3 HS3 HO3
  go_wp2_with fail
  refine (sget_as ao n cap b wc HN.out HXB.out HW.out hao hcap (by omega) (gs, ge) HGR.out).mono ?_
  rintro e w4 ⟨yi, yt, yva, yxs, yvc, yia, yim, yic, rfl, hyp, hyf, hyo, hb4⟩
  have hz4 := hb4.size
  have hb45 := (Below.refl w4.heap.size w4).alloc (Nat.le_refl _) (.cells #[.int .i64 yi, .int .i64 yt, .slice yva yxs.length yvc, .slice yia yim.length yic] 25)
  have hk5 := heap_alloc_new w4 (.cells #[.int .i64 yi, .int .i64 yt, .slice yva yxs.length yvc, .slice yia yim.length yic] 25)
  have hb35 := hb4.trans (hb45.mono hz4)
  have HKY := Lib.hid hk5
  have HB5 := Lib.hid (HBC.out.trans (hb35.mono HBC.out.size))
  have HSY := Lib.hid (snSub_mono (snSub_below (own_sub hyo) hb45 (Nat.le_refl _)) hb45.size)
  have HXB5 := Lib.hid ((HXB.out.below hb35 (Nat.le_refl _)).mono hb35.size)
  have HYP := Lib.hid hyp
  have HYF := Lib.hid hyf
  clear hb4 hb45 hk5 hb35 hyo hyp hyf
  dsimp only
  go_upto_region 11 with fail
  generalize w4.alloc (.cells #[.int .i64 yi, .int .i64 yt, .slice yva yxs.length yvc, .slice yia yim.length yic] 25) = w5 at HKY HB5 HSY HXB5 ⊢
  have y0 := Go.Joins.cell_of_block HKY.out 0
  have y1 := Go.Joins.cell_of_block HKY.out 1
  have y2 := Go.Joins.cell_of_block HKY.out 2
  have y3 := Go.Joins.cell_of_block HKY.out 3
  rcases HONE.out with ⟨hge, hput⟩ | hno
  · (try dsimp only at hge hput)
    subst hge
    have HPT := Lib.hid (show snPut ⟨yi, yt, yxs, yim⟩ = (b, 0) by rw [HYP.out]; exact hput)
    clear hput
    go_wp2_with fail
    refine (sput_as ⟨yi, yt, yva, yxs, yvc, yia, yim, yic⟩ w5 HSY.out HYF.out (b, 0) HPT.out).mono ?_
    rintro e w6 ⟨a6, n6, c6, rfl, ho6, hb6⟩
    have HXB6 := Lib.hid ((HXB5.out.below hb6 (Nat.le_refl _)).mono hb6.size)
    have HO6 := Lib.hid ho6
    have HB6 := Lib.hid (HB5.out.trans (hb6.mono HB5.out.size))
    clear hb6 ho6 y0 y1 y2 y3
    (try dsimp only)
    go_wp2_with fail
    refine (sameB_any ao n cap a6 n6 c6 b w6 HN.out HO6.out.len HXB6.out HO6.out.in (by omega)).mono ?_
    rintro e w7 ⟨rfl, hb7⟩
    have hb := HB6.out.trans (hb7.mono HB6.out.size)
    clear hb7
    go_wp2_with fail
    go_ret
    exact ⟨rfl, hb⟩
  · simp only [Prod.mk.injEq] at hno
    obtain ⟨rfl, rfl⟩ := hno
    go_wp2_with fail
    refine (sameSnap_any ⟨yi, yt, yva, yxs, yvc, yia, yim, yic⟩ zeroSx w5 HSY.out ⟨Or.inl rfl, Or.inl rfl⟩ HYP.out HYF.out.vn HYF.out.ln).mono ?_
    rintro e w6 ⟨rfl, hb6⟩
    have hb := HB5.out.trans (hb6.mono HB5.out.size)
    clear y0 y1 y2 y3 hb6
    go_wp2_with fail
    go_ret
    exact ⟨rfl, hb⟩
theorem walk_SnapBack {H : Type} {enc : TypeId × Value → H} {d : DataW H} {p : List MemPlace} (W : World) (cs : Array Value) (hc : cs.size = Tryd.prog.cellsOf 25) (h : DataW.Trod enc Tryd.prog W 0 (fun _ => true) true 25 (.agg cs) d p) (hz : DSized Tryd.prog 25 d)
    (ao : Option Addr) (n cap : Nat) (xs : List Int) (hn : xs.length = n) (hx : BytesIn W W.heap.size ao xs) (hw : BytesWf xs) (hao : ao = none → cap = 0) (hcap : n ≤ cap) (hz0 : cap ≤ maxLen) (hz1 : n * Tryd.prog.bytesOf 5 ≤ 140737488351232) :
    Calls Tryd.prog 5 #[.agg cs, .slice ao n cap] W fun e w' => e = .returned (.bool true) ∧ Below W.heap.size W w' := by
  obtain ⟨x, he, hxs, hxq⟩ := open_snap hc h hz
  rw [he]
  exact snapBack_any x W hxs hxq ao n cap xs hn hx hw hao hcap
end Go.Proofs.YthiijbjhgkeikaaDoor
