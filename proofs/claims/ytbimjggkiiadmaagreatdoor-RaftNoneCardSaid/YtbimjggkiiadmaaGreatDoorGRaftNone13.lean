/- A deed among the arguments, and whether it is plain. Conditions: it is read as the row reads it, its weights are bounded. -/
import Derived.Test.YtbimjggkiiadmaaGreatDoorGRaftNone12
import Derived.Test.YtbimjggkiiadmaaGreatDoorGRaftNone2
import Derived.Test.YtbimjggkiiadmaaGreatDoorGRaftNone3
set_option linter.unusedVariables false
set_option linter.unusedSimpArgs false
namespace Go.Proofs.YtbimjggkiiadmaaGreatDoor
open Go.RowKit Go.ChangeShapes
set_option maxRecDepth 20000
/-- A deed, by its cells. -/
structure Dd where
  (kind n own : Int)
  (lk fr tgt tm ix was cm rd : Int)
  ok : Bool
  eo : Option Addr
  ents : List En
  ec : Nat
  (vo io : Option Addr)
  (vn vc im ic : Nat)
  en : En
  (si st : Int)
  (so sio : Option Addr)
  (sn sc sm sic : Nat)
def lt26 (d : Dd) : List Value := [.int .u8 d.lk, .int .i64 d.fr, .int .i64 d.tgt, .int .i64 d.tm, .int .i64 d.ix, .int .i64 d.was, .bool d.ok, .int .i64 d.cm, .int .i64 d.rd, .slice d.eo d.ents.length d.ec, .slice d.vo d.vn d.vc, .slice d.io d.im d.ic]
def sn26 (d : Dd) : List Value := [.int .i64 d.si, .int .i64 d.st, .slice d.so d.sn d.sc, .slice d.sio d.sm d.sic]
def ddCells (d : Dd) : List Value := [.int .i64 d.kind, .int .i64 d.n, .int .i64 d.own] ++ lt26 d ++ enCells d.en ++ sn26 d
structure DdOk (W : World) (d : Dd) : Prop where
  ents : EnsIn W W.heap.size d.eo d.ents
  len : d.ents.length ≤ 4398046511104
theorem cells_dd : Tryz.prog.cellsOf 38 = 28 := by kernel_rfl
theorem dcells_i : Tryz.prog.cellsOf 3 = 1 := by kernel_rfl
theorem dcells_lk : Tryz.prog.cellsOf 22 = 1 := by kernel_rfl
theorem dcells_b : Tryz.prog.cellsOf 4 = 1 := by kernel_rfl
theorem dcells_es : Tryz.prog.cellsOf 23 = 1 := by kernel_rfl
theorem dcells_is : Tryz.prog.cellsOf 24 = 1 := by kernel_rfl
theorem dcells_bs : Tryz.prog.cellsOf 25 = 1 := by kernel_rfl
theorem dcells_lt : Tryz.prog.cellsOf 27 = 12 := by kernel_rfl
theorem dcells_sn : Tryz.prog.cellsOf 36 = 4 := by kernel_rfl
theorem dcells_en : Tryz.prog.cellsOf 34 = 9 := by kernel_rfl
theorem dd_el {H : Type} {enc : TypeId × Value → H} {W : World} {sp : Nat → Bool} {hd : Bool} (cs : List Value) (n : Nat) (y : DataW H) (pl : List MemPlace) (hl : cs.length = 28) (h : DataW.trod enc Tryz.prog W 0 sp hd n 38 cs = some (y, pl)) (hz : DSized Tryz.prog 38 y) :
    ∃ d : Dd, ddCells d = cs ∧ DdOk W d := by
  obtain ⟨c0, c1, c2, c3, c4, c5, c6, c7, c8, c9, c10, c11, c12, c13, c14, c15, c16, c17, c18, c19, c20, c21, c22, c23, c24, c25, c26, c27, rfl⟩ : ∃ c0 c1 c2 c3 c4 c5 c6 c7 c8 c9 c10 c11 c12 c13 c14 c15 c16 c17 c18 c19 c20 c21 c22 c23 c24 c25 c26 c27, cs = [c0, c1, c2, c3, c4, c5, c6, c7, c8, c9, c10, c11, c12, c13, c14, c15, c16, c17, c18, c19, c20, c21, c22, c23, c24, c25, c26, c27] := by
    match cs, hl with
    | [c0, c1, c2, c3, c4, c5, c6, c7, c8, c9, c10, c11, c12, c13, c14, c15, c16, c17, c18, c19, c20, c21, c22, c23, c24, c25, c26, c27], _ => exact ⟨c0, c1, c2, c3, c4, c5, c6, c7, c8, c9, c10, c11, c12, c13, c14, c15, c16, c17, c18, c19, c20, c21, c22, c23, c24, c25, c26, c27, rfl⟩
  obtain ⟨xs, m, _, hx, _, hlen, hf⟩ := DataW.trod_struct Tryz.underlying38 h
  simp only [Prod.mk.injEq] at hx
  obtain ⟨rfl, _⟩ := hx
  match xs, hlen with
  | [y0, y1, y2, y3, y4, y5], _ =>
    have h0 := hf 0 _ rfl
    have h1 := hf 1 _ rfl
    have h2 := hf 2 _ rfl
    have h3 := hf 3 _ rfl
    have h4 := hf 4 _ rfl
    have h5 := hf 5 _ rfl
    have z3 := DSized.field Tryz.underlying38 hz (i := 3) (y := y3) rfl rfl
    have z4 := DSized.field Tryz.underlying38 hz (i := 4) (y := y4) rfl rfl
    clear hf
    simp [dcells_i, dcells_lt, dcells_en, dcells_sn] at h0 h1 h2 h3 h4 h5
    obtain ⟨k0, e0, _, _⟩ := DataW.trod_int Tryz.underlying3 h0
    obtain ⟨k1, e1, _, _⟩ := DataW.trod_int Tryz.underlying3 h1
    obtain ⟨k2, e2, _, _⟩ := DataW.trod_int Tryz.underlying3 h2
    obtain ⟨en, hen, _, _⟩ := en_el _ _ _ _ rfl h4 z4
    obtain ⟨ys, m3, _, hy, _, hlen3, hf3⟩ := DataW.trod_struct Tryz.underlying27 h3
    obtain ⟨d3, p3⟩ := y3
    simp only [Prod.mk.injEq] at hy
    obtain ⟨rfl, _⟩ := hy
    obtain ⟨us, m5, _, hu, _, hlen5, hf5⟩ := DataW.trod_struct Tryz.underlying36 h5
    obtain ⟨d5, p5⟩ := y5
    simp only [Prod.mk.injEq] at hu
    obtain ⟨rfl, _⟩ := hu
    match ys, hlen3 with
    | [a0, a1, a2, a3, a4, a5, a6, a7, a8, a9, a10, a11], _ =>
    match us, hlen5 with
    | [b0, b1, b2, b3], _ =>
      have g0 := hf3 0 _ rfl
      have g1 := hf3 1 _ rfl
      have g2 := hf3 2 _ rfl
      have g3 := hf3 3 _ rfl
      have g4 := hf3 4 _ rfl
      have g5 := hf3 5 _ rfl
      have g6 := hf3 6 _ rfl
      have g7 := hf3 7 _ rfl
      have g8 := hf3 8 _ rfl
      have g9 := hf3 9 _ rfl
      have g10 := hf3 10 _ rfl
      have g11 := hf3 11 _ rfl
      have j0 := hf5 0 _ rfl
      have j1 := hf5 1 _ rfl
      have j2 := hf5 2 _ rfl
      have j3 := hf5 3 _ rfl
      have z9 := DSized.field Tryz.underlying27 z3 (i := 9) (y := a9) rfl rfl
      clear hf3 hf5
      simp [dcells_i, dcells_lk, dcells_b, dcells_es, dcells_is, dcells_bs] at g0 g1 g2 g3 g4 g5 g6 g7 g8 g9 g10 g11 j0 j1 j2 j3
      obtain ⟨l0, f0, _, _⟩ := DataW.trod_int Tryz.underlying22 g0
      obtain ⟨l1, f1, _, _⟩ := DataW.trod_int Tryz.underlying3 g1
      obtain ⟨l2, f2, _, _⟩ := DataW.trod_int Tryz.underlying3 g2
      obtain ⟨l3, f3, _, _⟩ := DataW.trod_int Tryz.underlying3 g3
      obtain ⟨l4, f4, _, _⟩ := DataW.trod_int Tryz.underlying3 g4
      obtain ⟨l5, f5, _, _⟩ := DataW.trod_int Tryz.underlying3 g5
      obtain ⟨l6, f6, _⟩ := DataW.trod_bool Tryz.underlying4 g6
      obtain ⟨l7, f7, _, _⟩ := DataW.trod_int Tryz.underlying3 g7
      obtain ⟨l8, f8, _, _⟩ := DataW.trod_int Tryz.underlying3 g8
      obtain ⟨va, vl, vc, f9, t9⟩ := slice_cell Tryz.underlying23 g9
      obtain ⟨es, rfl, x1, _, _, _, z1⟩ := open_entries t9 z9
      obtain ⟨wa, wl, wc, f10, _⟩ := slice_cell Tryz.underlying24 g10
      obtain ⟨ua, ul, uc, f11, _⟩ := slice_cell Tryz.underlying25 g11
      obtain ⟨q0, r0, _, _⟩ := DataW.trod_int Tryz.underlying3 j0
      obtain ⟨q1, r1, _, _⟩ := DataW.trod_int Tryz.underlying3 j1
      obtain ⟨qa, ql, qc, r2, _⟩ := slice_cell Tryz.underlying24 j2
      obtain ⟨ra, rl, rc, r3, _⟩ := slice_cell Tryz.underlying25 j3
      simp at e0 e1 e2 f0 f1 f2 f3 f4 f5 f6 f7 f8 f9 f10 f11 r0 r1 r2 r3
      subst e0 e1 e2 f0 f1 f2 f3 f4 f5 f6 f7 f8 f9 f10 f11 r0 r1 r2 r3
      refine ⟨⟨k0, k1, k2, l0, l1, l2, l3, l4, l5, l7, l8, l6, va, es, vc, wa, ua, wl, wc, ul, uc, en, q0, q1, qa, ra, ql, qc, rl, rc⟩, ?_, ⟨x1, ?_⟩⟩
      · show _ ++ _ ++ enCells en ++ _ = _
        rw [hen]
        rfl
      · show es.length ≤ _
        omega
theorem wdrewN26 {B : Nat} {w w' : World} (h : Below B w w') (n : Nat) : Below B w (w'.drewN n) := below_drewN h n
def SomeB (w : World) (e : Ending) (w' : World) : Prop := (∃ b : Bool, e = .returned (.bool b)) ∧ Below w.heap.size w w'
set_option maxHeartbeats 2000000 in
theorem plain26_any (d : Dd) (w : World) (hx : EnsIn w w.heap.size d.eo d.ents) (hl : d.ents.length ≤ 4398046511104) :
    Calls Tryz.prog 5 #[.agg #[.int .i64 d.kind, .int .i64 d.n, .int .i64 d.own, .int .u8 d.lk, .int .i64 d.fr, .int .i64 d.tgt, .int .i64 d.tm, .int .i64 d.ix, .int .i64 d.was, .bool d.ok, .int .i64 d.cm, .int .i64 d.rd, .slice d.eo d.ents.length d.ec, .slice d.vo d.vn d.vc, .slice d.io d.im d.ic, .int .i64 d.en.term, .int .u8 d.en.kind, .int .i64 d.en.session, .int .i64 d.en.seq, .int .u8 d.en.ck, .string d.en.text, .slice d.en.aao d.en.args.length d.en.acap, .int .i64 d.en.num, .slice d.en.vao d.en.vs.length d.en.vcap, .int .i64 d.si, .int .i64 d.st, .slice d.so d.sn d.sc, .slice d.sio d.sm d.sic]] w (SomeB w) := by
  have hb0 := (Below.refl w.heap.size w).alloc (Nat.le_refl _) (.cells #[.int .i64 d.kind, .int .i64 d.n, .int .i64 d.own, .int .u8 d.lk, .int .i64 d.fr, .int .i64 d.tgt, .int .i64 d.tm, .int .i64 d.ix, .int .i64 d.was, .bool d.ok, .int .i64 d.cm, .int .i64 d.rd, .slice d.eo d.ents.length d.ec, .slice d.vo d.vn d.vc, .slice d.io d.im d.ic, .int .i64 d.en.term, .int .u8 d.en.kind, .int .i64 d.en.session, .int .i64 d.en.seq, .int .u8 d.en.ck, .string d.en.text, .slice d.en.aao d.en.args.length d.en.acap, .int .i64 d.en.num, .slice d.en.vao d.en.vs.length d.en.vcap, .int .i64 d.si, .int .i64 d.st, .slice d.so d.sn d.sc, .slice d.sio d.sm d.sic] 38)
  have hk0 := heap_alloc_new w (.cells #[.int .i64 d.kind, .int .i64 d.n, .int .i64 d.own, .int .u8 d.lk, .int .i64 d.fr, .int .i64 d.tgt, .int .i64 d.tm, .int .i64 d.ix, .int .i64 d.was, .bool d.ok, .int .i64 d.cm, .int .i64 d.rd, .slice d.eo d.ents.length d.ec, .slice d.vo d.vn d.vc, .slice d.io d.im d.ic, .int .i64 d.en.term, .int .u8 d.en.kind, .int .i64 d.en.session, .int .i64 d.en.seq, .int .u8 d.en.ck, .string d.en.text, .slice d.en.aao d.en.args.length d.en.acap, .int .i64 d.en.num, .slice d.en.vao d.en.vs.length d.en.vcap, .int .i64 d.si, .int .i64 d.st, .slice d.so d.sn d.sc, .slice d.sio d.sm d.sic] 38)
  have HX := Lib.hid hx
  clear hx
  go_enter Tryz.func5, Tryz.ntmps5
  go_upto_region 1 with fail
  generalize w.alloc (.cells #[.int .i64 d.kind, .int .i64 d.n, .int .i64 d.own, .int .u8 d.lk, .int .i64 d.fr, .int .i64 d.tgt, .int .i64 d.tm, .int .i64 d.ix, .int .i64 d.was, .bool d.ok, .int .i64 d.cm, .int .i64 d.rd, .slice d.eo d.ents.length d.ec, .slice d.vo d.vn d.vc, .slice d.io d.im d.ic, .int .i64 d.en.term, .int .u8 d.en.kind, .int .i64 d.en.session, .int .i64 d.en.seq, .int .u8 d.en.ck, .string d.en.text, .slice d.en.aao d.en.args.length d.en.acap, .int .i64 d.en.num, .slice d.en.vao d.en.vs.length d.en.vcap, .int .i64 d.si, .int .i64 d.st, .slice d.so d.sn d.sc, .slice d.sio d.sm d.sic] 38) = w0 at hb0 hk0 ⊢
  obtain ⟨n, hn⟩ : ∃ n, d.ents.length = n := ⟨_, rfl⟩
  have x12 : w0.cell? ⟨w.heap.size, 12, none⟩ = some (.slice d.eo n d.ec) := hn ▸ Go.Joins.cell_of_block hk0 12
  have x13 := Go.Joins.cell_of_block hk0 13
  have x14 := Go.Joins.cell_of_block hk0 14
  have x23 := Go.Joins.cell_of_block hk0 23
  have x21 := Go.Joins.cell_of_block hk0 21
  have x20 := Go.Joins.cell_of_block hk0 20
  have x26 := Go.Joins.cell_of_block hk0 26
  have x27 := Go.Joins.cell_of_block hk0 27
  have HB0 := Lib.hid hb0
  have HX12 := Lib.hid x12
  have hl0 := (Array.getElem?_eq_some_iff.1 hk0).1
  rw [hn] at hl
  have HN := Lib.hid hn
  clear hb0 hk0 hn
  go_wp2_with fail
  clear x12 x13 x14 x23 x21 x20 x26 x27
  go_loopw [3, 4] (fun x i wr => ∃ (k : Nat) (y : Int), k ≤ n ∧ i = .int .i64 k ∧ x = .int .i64 y ∧ Below w0.heap.size w0 wr) (fun _ i _ => n - (intOf i).toNat)
  case atStart => exact ⟨0, _, by omega, rfl, rfl, Below.refl _ _⟩
  case round =>
    obtain ⟨k, y, hk, rfl, rfl, hbel⟩ := hrel
    have x12 : wr.cell? ⟨w.heap.size, 12, none⟩ = some (.slice d.eo n d.ec) := (hbel.cell (p := ⟨w.heap.size, 12, none⟩) hl0).trans HX12.out
    by_cases hlt : k < n
    · have dk : decide ((k : Int) < n) = true := by simp; omega
      by_cases h4 : y < 400
      · have d4 : decide (y < 400) = true := by simpa using h4
        have hkl : k < d.ents.length := by rw [HN.out]; exact hlt
        have hkx : d.ents[k]? = some d.ents[k] := List.getElem?_eq_getElem hkl
        obtain ⟨b, off, hao, hb, hc, _⟩ := HX.out.at hkx
        generalize d.ents[k] = x at hc
        obtain ⟨t, kd, s, q, ck, text, aao, args, acap, num, vao, vs, vcap⟩ := x
        obtain ⟨an, han⟩ : ∃ an, args.length = an := ⟨_, rfl⟩
        obtain ⟨vn, hvn⟩ : ∃ vn, vs.length = vn := ⟨_, rfl⟩
        have hbw := HB0.out.trans (hbel.mono HB0.out.size)
        have c5 : wr.cell? ⟨b, off + k * 9 + 4 + 1, none⟩ = some (.string text) := (hbw.cell (p := ⟨b, _, none⟩) hb).trans (hc 5 (by decide))
        have c6 : wr.cell? ⟨b, off + k * 9 + 4 + 2, none⟩ = some (.slice aao an acap) := (hbw.cell (p := ⟨b, _, none⟩) hb).trans (han ▸ hc 6 (by decide))
        have c8 : wr.cell? ⟨b, off + k * 9 + 8, none⟩ = some (.slice vao vn vcap) := (hbw.cell (p := ⟨b, _, none⟩) hb).trans (hvn ▸ hc 8 (by decide))
        have i1 : (k : Int) < n := by omega
        rw [hao] at x12
        have HBE := Lib.hid hbel
        clear hc hkx han hvn hbw hao hbel
        go_upto_region 5 with fail
        go_quiet (fail)
        go_wp2_with fail
        go_roundw
        case rel => exact ⟨k + 1, _, by omega, by go_num, rfl, wdrewN26 HBE.out _⟩
        case measure => simp [intOf]; omega
      · have d4 : decide (y < 400) = false := by simpa using h4
        have HBE := Lib.hid (HB0.out.trans (hbel.mono HB0.out.size))
        go_wp2_with fail
        go_ret
        exact ⟨⟨_, rfl⟩, HBE.out⟩
    · obtain rfl : k = n := by omega
      have HBE := Lib.hid (HB0.out.trans (hbel.mono HB0.out.size))
      go_wp2_with fail
      go_ret
      exact ⟨⟨_, rfl⟩, HBE.out⟩
end Go.Proofs.YtbimjggkiiadmaaGreatDoor
/- Two operations of a region that may come up in either order. Any program. Conditions: as each says. -/
namespace Go.Proofs.YtbimjggkiiadmaaGreatDoor
open Go.RowKit
theorem takeS_two {P : Program} {md : Region.Mode} {ops : Array Oper} {Q : Exit → Act → World → Prop} {S : World → Prop} (i j : Nat) {oi oj : Oper} {fuel : Nat} {listed : Array Bool} {a : Act} {w : World} (hi : ops.toList[i]? = some oi) (hj : ops.toList[j]? = some oj) (hr : Region.ready md ops listed = [i, j]) (hwi : Region.wanted oi (yielded ops a.tmps) = true) (hwj : Region.wanted oj (yielded ops a.tmps) = true)
    (h1 : ∀ K' : Act → World → Prop, Shut (∀ a w, S w → wpAnyH P md ops Q S fuel (listed.setIfInBounds i true) a w → K' a w) → Oper.wp P oi a w K' Q)
    (h2 : ∀ K' : Act → World → Prop, Shut (∀ a w, S w → wpAnyH P md ops Q S fuel (listed.setIfInBounds j true) a w → K' a w) → Oper.wp P oj a w K' Q) : wpAnyH P md ops Q S (fuel + 1) listed a w :=
  wpAnyH_ready (rs := [i, j]) hr (by simp) (AllReadyH.cons (by rw [← Array.getElem?_toList]; exact hi) (fun K hK => by rw [if_pos hwi]; exact h1 K (fun a w hS hW => hK.out a w hS (fun _ => hW)))
    (AllReadyH.cons (by rw [← Array.getElem?_toList]; exact hj) (fun K hK => by rw [if_pos hwj]; exact h2 K (fun a w hS hW => hK.out a w hS (fun _ => hW))) AllReadyH.nil))
end Go.Proofs.YtbimjggkiiadmaaGreatDoor
