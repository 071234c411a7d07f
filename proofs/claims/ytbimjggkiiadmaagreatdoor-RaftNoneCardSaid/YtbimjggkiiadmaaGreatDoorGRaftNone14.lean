/- The law RaftNone, walked. Conditions: the deed lies as it reads. -/
import Derived.Test.YtbimjggkiiadmaaGreatDoorGRaftNone12
import Derived.Test.YtbimjggkiiadmaaGreatDoorGRaftNone13
set_option linter.unusedVariables false
set_option linter.unusedSimpArgs false
namespace Go.Proofs.YtbimjggkiiadmaaGreatDoor
open Go.RowKit
set_option maxRecDepth 20000
theorem takeS_three {P : Program} {md : Region.Mode} {ops : Array Oper} {Q : Exit → Act → World → Prop} {S : World → Prop} (i j l : Nat) {oi oj ol : Oper} {fuel : Nat} {listed : Array Bool} {a : Act} {w : World} (hi : ops.toList[i]? = some oi) (hj : ops.toList[j]? = some oj) (hl : ops.toList[l]? = some ol) (hr : Region.ready md ops listed = [i, j, l]) (hwi : Region.wanted oi (yielded ops a.tmps) = true) (hwj : Region.wanted oj (yielded ops a.tmps) = true) (hwl : Region.wanted ol (yielded ops a.tmps) = true)
    (h1 : ∀ K' : Act → World → Prop, Shut (∀ a w, S w → wpAnyH P md ops Q S fuel (listed.setIfInBounds i true) a w → K' a w) → Oper.wp P oi a w K' Q)
    (h2 : ∀ K' : Act → World → Prop, Shut (∀ a w, S w → wpAnyH P md ops Q S fuel (listed.setIfInBounds j true) a w → K' a w) → Oper.wp P oj a w K' Q)
    (h3 : ∀ K' : Act → World → Prop, Shut (∀ a w, S w → wpAnyH P md ops Q S fuel (listed.setIfInBounds l true) a w → K' a w) → Oper.wp P ol a w K' Q) : wpAnyH P md ops Q S (fuel + 1) listed a w :=
  wpAnyH_ready (rs := [i, j, l]) hr (by simp) (AllReadyH.cons (by rw [← Array.getElem?_toList]; exact hi) (fun K hK => by rw [if_pos hwi]; exact h1 K (fun a w hS hW => hK.out a w hS (fun _ => hW)))
    (AllReadyH.cons (by rw [← Array.getElem?_toList]; exact hj) (fun K hK => by rw [if_pos hwj]; exact h2 K (fun a w hS hW => hK.out a w hS (fun _ => hW)))
      (AllReadyH.cons (by rw [← Array.getElem?_toList]; exact hl) (fun K hK => by rw [if_pos hwl]; exact h3 K (fun a w hS hW => hK.out a w hS (fun _ => hW))) AllReadyH.nil)))
theorem merge26 {G : Prop} {F C : Nat → Nat → World → Prop} (h1 : (∀ a b w, F a b w → C a b w) → G) (h2 : ∀ a b w, F a b w → C a b w) : G := h1 h2
theorem merge26a {G : Prop} {F C : Nat → World → Prop} (h1 : (∀ a w, F a w → C a w) → G) (h2 : ∀ a w, F a w → C a w) : G := h1 h2
theorem wpAnyH_listed {P : Program} {md : Region.Mode} {ops : Array Oper} {Q : Exit → Act → World → Prop} {S : World → Prop} {fuel : Nat} {l l' : Array Bool} {a : Act} {w : World} (e : l = l') (h : wpAnyH P md ops Q S fuel l a w) : wpAnyH P md ops Q S fuel l' a w := e ▸ h
def OutAt (a : Nat) (w : World) : Prop := w.heap[a]? = some (.cells #[.int .i64 0, .int .i64 0, .int .i64 0, .slice none 0 0, .int .i64 0, .pointer none, .int .i64 0, .bool false] 45 (0, 0))
theorem OutAt.cells {a : Nat} {w : World} (h : OutAt a w) : w.cell? ⟨a, 0, none⟩ = some (.int .i64 0) ∧ w.cell? ⟨a, 1, none⟩ = some (.int .i64 0) ∧ w.cell? ⟨a, 2, none⟩ = some (.int .i64 0) ∧ w.cell? ⟨a, 3, none⟩ = some (.slice none 0 0) ∧ w.cell? ⟨a, 4, none⟩ = some (.int .i64 0) ∧ w.cell? ⟨a, 5, none⟩ = some (.pointer none) ∧ w.cell? ⟨a, 6, none⟩ = some (.int .i64 0) ∧ w.cell? ⟨a, 7, none⟩ = some (.bool false) :=
  ⟨Go.Joins.cell_of_block h 0, Go.Joins.cell_of_block h 1, Go.Joins.cell_of_block h 2, Go.Joins.cell_of_block h 3, Go.Joins.cell_of_block h 4, Go.Joins.cell_of_block h 5, Go.Joins.cell_of_block h 6, Go.Joins.cell_of_block h 7⟩
def NS (w5 : World) (a b : Nat) (w : World) : Prop := Below w5.heap.size w5 w ∧ OutAt a w ∧ OutAt b w
theorem NS.below {w5 w w' : World} {a b : Nat} (h : NS w5 a b w) (hb : Below w.heap.size w w') : NS w5 a b w' :=
  ⟨h.1.trans (hb.mono h.1.size), (hb.block _ (Array.getElem?_eq_some_iff.1 h.2.1).1).trans h.2.1, (hb.block _ (Array.getElem?_eq_some_iff.1 h.2.2).1).trans h.2.2⟩
def DAt (d : Dd) (g : Nat) (wS : World) : Prop := wS.heap[g]? = some (.cells #[.int .i64 d.kind, .int .i64 d.n, .int .i64 d.own, .int .u8 d.lk, .int .i64 d.fr, .int .i64 d.tgt, .int .i64 d.tm, .int .i64 d.ix, .int .i64 d.was, .bool d.ok, .int .i64 d.cm, .int .i64 d.rd, .slice d.eo d.ents.length d.ec, .slice d.vo d.vn d.vc, .slice d.io d.im d.ic, .int .i64 d.en.term, .int .u8 d.en.kind, .int .i64 d.en.session, .int .i64 d.en.seq, .int .u8 d.en.ck, .string d.en.text, .slice d.en.aao d.en.args.length d.en.acap, .int .i64 d.en.num, .slice d.en.vao d.en.vs.length d.en.vcap, .int .i64 d.si, .int .i64 d.st, .slice d.so d.sn d.sc, .slice d.sio d.sm d.sic] 38 (0, 0))
theorem DAt.en {d : Dd} {g : Nat} {wS : World} (h : DAt d g wS) : wS.cell? ⟨g, 15, none⟩ = some (.int .i64 d.en.term) ∧ wS.cell? ⟨g, 16, none⟩ = some (.int .u8 d.en.kind) ∧ wS.cell? ⟨g, 17, none⟩ = some (.int .i64 d.en.session) ∧ wS.cell? ⟨g, 18, none⟩ = some (.int .i64 d.en.seq) ∧ wS.cell? ⟨g, 19, none⟩ = some (.int .u8 d.en.ck) ∧ wS.cell? ⟨g, 20, none⟩ = some (.string d.en.text) ∧ wS.cell? ⟨g, 21, none⟩ = some (.slice d.en.aao d.en.args.length d.en.acap) ∧ wS.cell? ⟨g, 22, none⟩ = some (.int .i64 d.en.num) ∧ wS.cell? ⟨g, 23, none⟩ = some (.slice d.en.vao d.en.vs.length d.en.vcap) :=
  ⟨Go.Joins.cell_of_block h 15, Go.Joins.cell_of_block h 16, Go.Joins.cell_of_block h 17, Go.Joins.cell_of_block h 18, Go.Joins.cell_of_block h 19, Go.Joins.cell_of_block h 20, Go.Joins.cell_of_block h 21, Go.Joins.cell_of_block h 22, Go.Joins.cell_of_block h 23⟩
theorem DAt.lt {d : Dd} {g : Nat} {wS : World} (h : DAt d g wS) : wS.cell? ⟨g, 1, none⟩ = some (.int .i64 d.n) ∧ wS.cell? ⟨g, 3, none⟩ = some (.int .u8 d.lk) ∧ wS.cell? ⟨g, 4, none⟩ = some (.int .i64 d.fr) ∧ wS.cell? ⟨g, 5, none⟩ = some (.int .i64 d.tgt) ∧ wS.cell? ⟨g, 6, none⟩ = some (.int .i64 d.tm) ∧ wS.cell? ⟨g, 7, none⟩ = some (.int .i64 d.ix) ∧ wS.cell? ⟨g, 8, none⟩ = some (.int .i64 d.was) ∧ wS.cell? ⟨g, 9, none⟩ = some (.bool d.ok) ∧ wS.cell? ⟨g, 10, none⟩ = some (.int .i64 d.cm) ∧ wS.cell? ⟨g, 11, none⟩ = some (.int .i64 d.rd) ∧ wS.cell? ⟨g, 12, none⟩ = some (.slice d.eo d.ents.length d.ec) ∧ wS.cell? ⟨g, 13, none⟩ = some (.slice d.vo d.vn d.vc) ∧ wS.cell? ⟨g, 14, none⟩ = some (.slice d.io d.im d.ic) :=
  ⟨Go.Joins.cell_of_block h 1, Go.Joins.cell_of_block h 3, Go.Joins.cell_of_block h 4, Go.Joins.cell_of_block h 5, Go.Joins.cell_of_block h 6, Go.Joins.cell_of_block h 7, Go.Joins.cell_of_block h 8, Go.Joins.cell_of_block h 9, Go.Joins.cell_of_block h 10, Go.Joins.cell_of_block h 11, Go.Joins.cell_of_block h 12, Go.Joins.cell_of_block h 13, Go.Joins.cell_of_block h 14⟩
theorem DAt.sn {d : Dd} {g : Nat} {wS : World} (h : DAt d g wS) : wS.cell? ⟨g, 24, none⟩ = some (.int .i64 d.si) ∧ wS.cell? ⟨g, 25, none⟩ = some (.int .i64 d.st) ∧ wS.cell? ⟨g, 26, none⟩ = some (.slice d.so d.sn d.sc) ∧ wS.cell? ⟨g, 27, none⟩ = some (.slice d.sio d.sm d.sic) :=
  ⟨Go.Joins.cell_of_block h 24, Go.Joins.cell_of_block h 25, Go.Joins.cell_of_block h 26, Go.Joins.cell_of_block h 27⟩
theorem DAt.range {d : Dd} {g : Nat} {wS : World} (h : DAt d g wS) : wS.rangeAt g 0 [.int .i64 d.kind, .int .i64 d.n, .int .i64 d.own, .int .u8 d.lk, .int .i64 d.fr, .int .i64 d.tgt, .int .i64 d.tm, .int .i64 d.ix, .int .i64 d.was, .bool d.ok, .int .i64 d.cm, .int .i64 d.rd, .slice d.eo d.ents.length d.ec, .slice d.vo d.vn d.vc, .slice d.io d.im d.ic, .int .i64 d.en.term, .int .u8 d.en.kind, .int .i64 d.en.session, .int .i64 d.en.seq, .int .u8 d.en.ck, .string d.en.text, .slice d.en.aao d.en.args.length d.en.acap, .int .i64 d.en.num, .slice d.en.vao d.en.vs.length d.en.vcap, .int .i64 d.si, .int .i64 d.st, .slice d.so d.sn d.sc, .slice d.sio d.sm d.sic] := by
  have := World.rangeAt_of_block h 0 28
  simpa [Array.toList_extract] using this
theorem info_dd : (Tryz.prog.info? 38).map (·.size) = some 28 := by kernel_rfl
set_option maxHeartbeats 8000000 in
theorem walk_none26 (W : World) (d : Dd) (hx : DdOk W d) :
    Calls Tryz.prog 3 #[.agg #[.int .i64 d.kind, .int .i64 d.n, .int .i64 d.own, .int .u8 d.lk, .int .i64 d.fr, .int .i64 d.tgt, .int .i64 d.tm, .int .i64 d.ix, .int .i64 d.was, .bool d.ok, .int .i64 d.cm, .int .i64 d.rd, .slice d.eo d.ents.length d.ec, .slice d.vo d.vn d.vc, .slice d.io d.im d.ic, .int .i64 d.en.term, .int .u8 d.en.kind, .int .i64 d.en.session, .int .i64 d.en.seq, .int .u8 d.en.ck, .string d.en.text, .slice d.en.aao d.en.args.length d.en.acap, .int .i64 d.en.num, .slice d.en.vao d.en.vs.length d.en.vcap, .int .i64 d.si, .int .i64 d.st, .slice d.so d.sn d.sc, .slice d.sio d.sm d.sic]] W fun e w' => e = .returned (.bool true) ∧ Below W.heap.size W w' := by
  have hb0 := (Below.refl W.heap.size W).alloc (Nat.le_refl _) (.cells #[.int .i64 d.kind, .int .i64 d.n, .int .i64 d.own, .int .u8 d.lk, .int .i64 d.fr, .int .i64 d.tgt, .int .i64 d.tm, .int .i64 d.ix, .int .i64 d.was, .bool d.ok, .int .i64 d.cm, .int .i64 d.rd, .slice d.eo d.ents.length d.ec, .slice d.vo d.vn d.vc, .slice d.io d.im d.ic, .int .i64 d.en.term, .int .u8 d.en.kind, .int .i64 d.en.session, .int .i64 d.en.seq, .int .u8 d.en.ck, .string d.en.text, .slice d.en.aao d.en.args.length d.en.acap, .int .i64 d.en.num, .slice d.en.vao d.en.vs.length d.en.vcap, .int .i64 d.si, .int .i64 d.st, .slice d.so d.sn d.sc, .slice d.sio d.sm d.sic] 38)
  have hk0 := heap_alloc_new W (.cells #[.int .i64 d.kind, .int .i64 d.n, .int .i64 d.own, .int .u8 d.lk, .int .i64 d.fr, .int .i64 d.tgt, .int .i64 d.tm, .int .i64 d.ix, .int .i64 d.was, .bool d.ok, .int .i64 d.cm, .int .i64 d.rd, .slice d.eo d.ents.length d.ec, .slice d.vo d.vn d.vc, .slice d.io d.im d.ic, .int .i64 d.en.term, .int .u8 d.en.kind, .int .i64 d.en.session, .int .i64 d.en.seq, .int .u8 d.en.ck, .string d.en.text, .slice d.en.aao d.en.args.length d.en.acap, .int .i64 d.en.num, .slice d.en.vao d.en.vs.length d.en.vcap, .int .i64 d.si, .int .i64 d.st, .slice d.so d.sn d.sc, .slice d.sio d.sm d.sic] 38)
  have HX := Lib.hid hx
  clear hx
  go_enter Tryz.func3, Tryz.ntmps3
  go_upto_region 1 with fail
  generalize W.alloc (.cells #[.int .i64 d.kind, .int .i64 d.n, .int .i64 d.own, .int .u8 d.lk, .int .i64 d.fr, .int .i64 d.tgt, .int .i64 d.tm, .int .i64 d.ix, .int .i64 d.was, .bool d.ok, .int .i64 d.cm, .int .i64 d.rd, .slice d.eo d.ents.length d.ec, .slice d.vo d.vn d.vc, .slice d.io d.im d.ic, .int .i64 d.en.term, .int .u8 d.en.kind, .int .i64 d.en.session, .int .i64 d.en.seq, .int .u8 d.en.ck, .string d.en.text, .slice d.en.aao d.en.args.length d.en.acap, .int .i64 d.en.num, .slice d.en.vao d.en.vs.length d.en.vcap, .int .i64 d.si, .int .i64 d.st, .slice d.so d.sn d.sc, .slice d.sio d.sm d.sic] 38) = w0 at hb0 hk0 ⊢
  go_wp2_with fail
  refine (awake26_any w0).mono ?_
  rintro e w1 ⟨rfl, hb1⟩
  have hk1 := (hb1.block _ (Array.getElem?_eq_some_iff.1 hk0).1).trans hk0
  have HB1 := Lib.hid (hb0.trans (hb1.mono hb0.size))
  have HK1 := Lib.hid hk1
  have hrg := DAt.range (d := d) hk1
  clear hb0 hb1 hk0 hk1
  go_wp2_with (refine wpList_load_mid rfl 38 (.tmp 1) rfl W.heap.size 0 rfl [.int .i64 d.kind, .int .i64 d.n, .int .i64 d.own, .int .u8 d.lk, .int .i64 d.fr, .int .i64 d.tgt, .int .i64 d.tm, .int .i64 d.ix, .int .i64 d.was, .bool d.ok, .int .i64 d.cm, .int .i64 d.rd, .slice d.eo d.ents.length d.ec, .slice d.vo d.vn d.vc, .slice d.io d.im d.ic, .int .i64 d.en.term, .int .u8 d.en.kind, .int .i64 d.en.session, .int .i64 d.en.seq, .int .u8 d.en.ck, .string d.en.text, .slice d.en.aao d.en.args.length d.en.acap, .int .i64 d.en.num, .slice d.en.vao d.en.vs.length d.en.vcap, .int .i64 d.si, .int .i64 d.st, .slice d.so d.sn d.sc, .slice d.sio d.sm d.sic] _ hrg Tryz.underlying38 rfl info_dd ?_)
  refine (plain26_any d w1 ((HX.out.ents.below enSub_kept HB1.out (Nat.le_refl _)).mono enSub_rising HB1.out.size) HX.out.len).mono ?_
  rintro e w3 ⟨⟨lt, rfl⟩, hb3⟩
  have HB3 := Lib.hid (HB1.out.trans (hb3.mono HB1.out.size))
  have hk3 := (hb3.block _ (Array.getElem?_eq_some_iff.1 HK1.out).1).trans HK1.out
  clear hb3 hrg HK1
  cases lt with
  | false =>
    go_wp2_with fail
    go_ret
    exact ⟨rfl, HB3.out⟩
  | true =>
  have hb4 := (Below.refl w3.heap.size w3).alloc (Nat.le_refl _) (.cells #[.int .i64 0, .int .i64 0, .int .i64 0, .slice none 0 0, .int .i64 0, .pointer none, .int .i64 0, .bool false, .int .i64 0, .int .i64 0, .int .i64 0, .int .i64 0, .int .i64 0, .int .i64 0, .int .i64 0, .int .i64 0, .int .i64 0, .int .i64 0, .int .i64 0, .int .i64 0, .int .i64 0, .int .i64 0, .int .i64 0, .int .i64 0, .int .i64 0, .int .i64 0, .int .i64 0, .int .i64 0, .int .i64 0, .int .i64 0, .int .i64 0, .int .i64 0, .int .i64 0, .int .i64 0, .int .i64 0, .int .i64 0, .int .i64 0, .int .i64 0, .int .i64 0, .slice none 0 0, .pointer none, .int .u8 0, .int .i64 0, .int .i64 0, .int .i64 0, .slice none 0 0, .int .i64 0, .int .i64 0, .int .i64 0, .slice none 0 0, .slice none 0 0] 52)
  have hk4 := heap_alloc_new w3 (.cells #[.int .i64 0, .int .i64 0, .int .i64 0, .slice none 0 0, .int .i64 0, .pointer none, .int .i64 0, .bool false, .int .i64 0, .int .i64 0, .int .i64 0, .int .i64 0, .int .i64 0, .int .i64 0, .int .i64 0, .int .i64 0, .int .i64 0, .int .i64 0, .int .i64 0, .int .i64 0, .int .i64 0, .int .i64 0, .int .i64 0, .int .i64 0, .int .i64 0, .int .i64 0, .int .i64 0, .int .i64 0, .int .i64 0, .int .i64 0, .int .i64 0, .int .i64 0, .int .i64 0, .int .i64 0, .int .i64 0, .int .i64 0, .int .i64 0, .int .i64 0, .int .i64 0, .slice none 0 0, .pointer none, .int .u8 0, .int .i64 0, .int .i64 0, .int .i64 0, .slice none 0 0, .int .i64 0, .int .i64 0, .int .i64 0, .slice none 0 0, .slice none 0 0] 52)
  have hz4 : (w3.alloc (.cells #[.int .i64 0, .int .i64 0, .int .i64 0, .slice none 0 0, .int .i64 0, .pointer none, .int .i64 0, .bool false, .int .i64 0, .int .i64 0, .int .i64 0, .int .i64 0, .int .i64 0, .int .i64 0, .int .i64 0, .int .i64 0, .int .i64 0, .int .i64 0, .int .i64 0, .int .i64 0, .int .i64 0, .int .i64 0, .int .i64 0, .int .i64 0, .int .i64 0, .int .i64 0, .int .i64 0, .int .i64 0, .int .i64 0, .int .i64 0, .int .i64 0, .int .i64 0, .int .i64 0, .int .i64 0, .int .i64 0, .int .i64 0, .int .i64 0, .int .i64 0, .int .i64 0, .slice none 0 0, .pointer none, .int .u8 0, .int .i64 0, .int .i64 0, .int .i64 0, .slice none 0 0, .int .i64 0, .int .i64 0, .int .i64 0, .slice none 0 0, .slice none 0 0] 52)).heap.size = w3.heap.size + 1 := by simp
  have hb5 := (Below.refl (w3.alloc (.cells #[.int .i64 0, .int .i64 0, .int .i64 0, .slice none 0 0, .int .i64 0, .pointer none, .int .i64 0, .bool false, .int .i64 0, .int .i64 0, .int .i64 0, .int .i64 0, .int .i64 0, .int .i64 0, .int .i64 0, .int .i64 0, .int .i64 0, .int .i64 0, .int .i64 0, .int .i64 0, .int .i64 0, .int .i64 0, .int .i64 0, .int .i64 0, .int .i64 0, .int .i64 0, .int .i64 0, .int .i64 0, .int .i64 0, .int .i64 0, .int .i64 0, .int .i64 0, .int .i64 0, .int .i64 0, .int .i64 0, .int .i64 0, .int .i64 0, .int .i64 0, .int .i64 0, .slice none 0 0, .pointer none, .int .u8 0, .int .i64 0, .int .i64 0, .int .i64 0, .slice none 0 0, .int .i64 0, .int .i64 0, .int .i64 0, .slice none 0 0, .slice none 0 0] 52)).heap.size (w3.alloc (.cells #[.int .i64 0, .int .i64 0, .int .i64 0, .slice none 0 0, .int .i64 0, .pointer none, .int .i64 0, .bool false, .int .i64 0, .int .i64 0, .int .i64 0, .int .i64 0, .int .i64 0, .int .i64 0, .int .i64 0, .int .i64 0, .int .i64 0, .int .i64 0, .int .i64 0, .int .i64 0, .int .i64 0, .int .i64 0, .int .i64 0, .int .i64 0, .int .i64 0, .int .i64 0, .int .i64 0, .int .i64 0, .int .i64 0, .int .i64 0, .int .i64 0, .int .i64 0, .int .i64 0, .int .i64 0, .int .i64 0, .int .i64 0, .int .i64 0, .int .i64 0, .int .i64 0, .slice none 0 0, .pointer none, .int .u8 0, .int .i64 0, .int .i64 0, .int .i64 0, .slice none 0 0, .int .i64 0, .int .i64 0, .int .i64 0, .slice none 0 0, .slice none 0 0] 52))).alloc (Nat.le_refl _) (.cells #[.pointer none, .pointer (some ⟨w3.heap.size, 0, none⟩)] 41)
  have hk5 := heap_alloc_new (w3.alloc (.cells #[.int .i64 0, .int .i64 0, .int .i64 0, .slice none 0 0, .int .i64 0, .pointer none, .int .i64 0, .bool false, .int .i64 0, .int .i64 0, .int .i64 0, .int .i64 0, .int .i64 0, .int .i64 0, .int .i64 0, .int .i64 0, .int .i64 0, .int .i64 0, .int .i64 0, .int .i64 0, .int .i64 0, .int .i64 0, .int .i64 0, .int .i64 0, .int .i64 0, .int .i64 0, .int .i64 0, .int .i64 0, .int .i64 0, .int .i64 0, .int .i64 0, .int .i64 0, .int .i64 0, .int .i64 0, .int .i64 0, .int .i64 0, .int .i64 0, .int .i64 0, .int .i64 0, .slice none 0 0, .pointer none, .int .u8 0, .int .i64 0, .int .i64 0, .int .i64 0, .slice none 0 0, .int .i64 0, .int .i64 0, .int .i64 0, .slice none 0 0, .slice none 0 0] 52)) (.cells #[.pointer none, .pointer (some ⟨w3.heap.size, 0, none⟩)] 41)
  go_upto_region 6 with fail
  generalize w3.alloc (.cells #[.int .i64 0, .int .i64 0, .int .i64 0, .slice none 0 0, .int .i64 0, .pointer none, .int .i64 0, .bool false, .int .i64 0, .int .i64 0, .int .i64 0, .int .i64 0, .int .i64 0, .int .i64 0, .int .i64 0, .int .i64 0, .int .i64 0, .int .i64 0, .int .i64 0, .int .i64 0, .int .i64 0, .int .i64 0, .int .i64 0, .int .i64 0, .int .i64 0, .int .i64 0, .int .i64 0, .int .i64 0, .int .i64 0, .int .i64 0, .int .i64 0, .int .i64 0, .int .i64 0, .int .i64 0, .int .i64 0, .int .i64 0, .int .i64 0, .int .i64 0, .int .i64 0, .slice none 0 0, .pointer none, .int .u8 0, .int .i64 0, .int .i64 0, .int .i64 0, .slice none 0 0, .int .i64 0, .int .i64 0, .int .i64 0, .slice none 0 0, .slice none 0 0] 52) = w4 at hb4 hk4 hz4 hb5 hk5 ⊢
  generalize w4.alloc (.cells #[.pointer none, .pointer (some ⟨w3.heap.size, 0, none⟩)] 41) = w5 at hb5 hk5 ⊢
  rw [hz4] at hk5
  have hz34 : w3.heap.size < w4.heap.size := by omega
  have hkw := (hb5.block w3.heap.size hz34).trans hk4
  have hk5b := (hb5.block _ (by have := HB3.out.size; have := (Array.getElem?_eq_some_iff.1 hk3).1; omega)).trans ((hb4.block _ (Array.getElem?_eq_some_iff.1 hk3).1).trans hk3)
  have HB5 := Lib.hid (HB3.out.trans ((hb4.mono HB3.out.size).trans (hb5.mono (Nat.le_trans HB3.out.size hb4.size))))
  have HGO := Lib.hid (show ∀ k : Nat, k < 2 → ∃ p, w5.cell? ⟨w3.heap.size + 1, k, none⟩ = some (.pointer p) ∧ RGone w5 p from fun k hk => by
    match k, hk with
    | 0, _ => exact ⟨none, Go.Joins.cell_of_block hk5 0, Or.inl rfl⟩
    | 1, _ => exact ⟨_, Go.Joins.cell_of_block hk5 1, Or.inr ⟨w3.heap.size, rfl, (Array.getElem?_eq_some_iff.1 hkw).1, Go.Joins.cell_of_block hkw 38⟩⟩)
  have HKB := Lib.hid (show DAt d W.heap.size w5 from hk5b)
  have hl5 : w3.heap.size + 1 < w5.heap.size := (Array.getElem?_eq_some_iff.1 hk5).1
  have hl6 : W.heap.size < w5.heap.size := (Array.getElem?_eq_some_iff.1 hk5b).1
  generalize w3.heap.size + 1 = lb at HGO hl5 ⊢
  clear hb4 hk4 hz4 hb5 hk5 hz34 hkw hk5b hk3
  go_wp2_with fail
  go_loopw [4, 5, 6, 7, 8, 9, 10, 11, 12] (fun i _ _ _ _ _ _ _ _ wr => ∃ k : Nat, k ≤ 2 ∧ i = .int .i64 k ∧ Below w5.heap.size w5 wr) (fun i _ _ _ _ _ _ _ _ _ => 2 - (intOf i).toNat)
  case atStart => exact ⟨0, by omega, rfl, Below.refl _ _⟩
  case round =>
    obtain ⟨k, hk, rfl, hbel⟩ := hrel
    have HBEL := Lib.hid hbel
    clear hbel
    by_cases hlt : k < 2
    · obtain ⟨p, hp, hgone⟩ := HGO.out k hlt
      have hcell : ∀ w', Below w5.heap.size w5 w' → w'.cell? ⟨lb, k, none⟩ = some (.pointer p) := fun w' hb => (hb.cell (p := ⟨lb, k, none⟩) hl5).trans hp
      have HCE := Lib.hid hcell
      have HGN := Lib.hid (fun (w' : World) (hb : Below w5.heap.size w5 w') => hgone.below hb)
      have HDA := Lib.hid (fun (w' : World) (hb : Below w5.heap.size w5 w') => (show DAt d W.heap.size w' from (hb.block _ hl6).trans HKB.out))
      have i1 : (k : Int) < 2 := by omega
      have dk : decide ((k : Int) < 2) = true := by simp; omega
      clear hp hgone hcell
      go_upto_region 9 with fail
      have hS_v0 : Below w5.heap.size w5 wr.drew := HBEL.out.drew
      have HC := Lib.hid (fun (wS : World) (hb : Below w5.heap.size w5 wS) => And.intro (HCE.out wS hb) (HDA.out wS hb).en)
      refine heldS_begin (fun w' => Below w5.heap.size w5 w') (by kernel_rfl) (hS_v0) ?_
      intro hS0
      (first | (refine takeS_no 0 rfl (by kernel_rfl) (by kernel_rfl) (by kernel_rfl) (fun _ _ _ h => h) (by rfl) (by assumption) ?_) | (refine takeS_yes (v := ?_) 0 rfl (by kernel_rfl) (by kernel_rfl) (by kernel_rfl) (fun _ _ _ h => h) (by rfl) (by assumption) ?_ ?_; rotate_left; focus (intro wS hSw; obtain ⟨q0, d0, d1, d2, d3, d4, d5, d6, d7, d8⟩ := HC.out wS hSw; go_simp; first | done | with_reducible rfl)))
      (try simp only [Act.put, List.setIfInBounds_toArray, List.set_cons_zero, List.set_cons_succ])
      (first | (refine takeS_no 1 rfl (by kernel_rfl) (by kernel_rfl) (by kernel_rfl) (fun _ _ _ h => h) (by rfl) (by assumption) ?_) | (refine takeS_yes (v := ?_) 1 rfl (by kernel_rfl) (by kernel_rfl) (by kernel_rfl) (fun _ _ _ h => h) (by rfl) (by assumption) ?_ ?_; rotate_left; focus (intro wS hSw; obtain ⟨q0, d0, d1, d2, d3, d4, d5, d6, d7, d8⟩ := HC.out wS hSw; go_simp; first | done | with_reducible rfl)))
      (try simp only [Act.put, List.setIfInBounds_toArray, List.set_cons_zero, List.set_cons_succ])
      (first | (refine takeS_no 2 rfl (by kernel_rfl) (by kernel_rfl) (by kernel_rfl) (fun _ _ _ h => h) (by rfl) (by assumption) ?_) | (refine takeS_yes (v := ?_) 2 rfl (by kernel_rfl) (by kernel_rfl) (by kernel_rfl) (fun _ _ _ h => h) (by rfl) (by assumption) ?_ ?_; rotate_left; focus (intro wS hSw; obtain ⟨q0, d0, d1, d2, d3, d4, d5, d6, d7, d8⟩ := HC.out wS hSw; go_simp; first | done | with_reducible rfl)))
      (try simp only [Act.put, List.setIfInBounds_toArray, List.set_cons_zero, List.set_cons_succ])
      (first | (refine takeS_no 3 rfl (by kernel_rfl) (by kernel_rfl) (by kernel_rfl) (fun _ _ _ h => h) (by rfl) (by assumption) ?_) | (refine takeS_yes (v := ?_) 3 rfl (by kernel_rfl) (by kernel_rfl) (by kernel_rfl) (fun _ _ _ h => h) (by rfl) (by assumption) ?_ ?_; rotate_left; focus (intro wS hSw; obtain ⟨q0, d0, d1, d2, d3, d4, d5, d6, d7, d8⟩ := HC.out wS hSw; go_simp; first | done | with_reducible rfl)))
      (try simp only [Act.put, List.setIfInBounds_toArray, List.set_cons_zero, List.set_cons_succ])
      (first | (refine takeS_no 4 rfl (by kernel_rfl) (by kernel_rfl) (by kernel_rfl) (fun _ _ _ h => h) (by rfl) (by assumption) ?_) | (refine takeS_yes (v := ?_) 4 rfl (by kernel_rfl) (by kernel_rfl) (by kernel_rfl) (fun _ _ _ h => h) (by rfl) (by assumption) ?_ ?_; rotate_left; focus (intro wS hSw; obtain ⟨q0, d0, d1, d2, d3, d4, d5, d6, d7, d8⟩ := HC.out wS hSw; go_simp; first | done | with_reducible rfl)))
      (try simp only [Act.put, List.setIfInBounds_toArray, List.set_cons_zero, List.set_cons_succ])
      (first | (refine takeS_no 5 rfl (by kernel_rfl) (by kernel_rfl) (by kernel_rfl) (fun _ _ _ h => h) (by rfl) (by assumption) ?_) | (refine takeS_yes (v := ?_) 5 rfl (by kernel_rfl) (by kernel_rfl) (by kernel_rfl) (fun _ _ _ h => h) (by rfl) (by assumption) ?_ ?_; rotate_left; focus (intro wS hSw; obtain ⟨q0, d0, d1, d2, d3, d4, d5, d6, d7, d8⟩ := HC.out wS hSw; go_simp; first | done | with_reducible rfl)))
      (try simp only [Act.put, List.setIfInBounds_toArray, List.set_cons_zero, List.set_cons_succ])
      clear hS0
      generalize wr.drew = v0 at hS_v0 ⊢
      apply merge26a (F := fun a wz => Below w5.heap.size w5 wz ∧ OutAt a wz)
      case h1 =>
        intro hC
        refine takeS_two 6 11 rfl rfl (by kernel_rfl) (by rfl) (by rfl) (fun K hK => ?_) (fun K hK => ?_)
        · go_simp
          refine (rpropose_gone p d.en.term d.en.kind d.en.session d.en.seq d.en.ck d.en.num d.en.text d.en.aao d.en.vao d.en.args.length d.en.acap d.en.vs.length d.en.vcap v0 (HGN.out v0 hS_v0)).mono ?_
          rintro e v1 ⟨rfl, hbx⟩
          have hS_v1 : Below w5.heap.size w5 v1 := hS_v0.trans (hbx.mono hS_v0.size)
          clear hbx
          refine hK.out _ _ (by assumption) ?_
          clear hK K
          (try simp only [Act.put, List.setIfInBounds_toArray, List.set_cons_zero, List.set_cons_succ])
          (first | (refine takeS_no 7 rfl (by kernel_rfl) (by kernel_rfl) (by kernel_rfl) (fun _ _ _ h => h) (by rfl) (by assumption) ?_) | (refine takeS_yes (v := ?_) 7 rfl (by kernel_rfl) (by kernel_rfl) (by kernel_rfl) (fun _ _ _ h => h) (by rfl) (by assumption) ?_ ?_; rotate_left; focus (intro wS hSw; obtain ⟨q0, d0, d1, d2, d3, d4, d5, d6, d7, d8⟩ := HC.out wS hSw; go_simp; first | done | with_reducible rfl)))
          (try simp only [Act.put, List.setIfInBounds_toArray, List.set_cons_zero, List.set_cons_succ])
          (first | (refine takeS_no 8 rfl (by kernel_rfl) (by kernel_rfl) (by kernel_rfl) (fun _ _ _ h => h) (by rfl) (by assumption) ?_) | (refine takeS_yes (v := ?_) 8 rfl (by kernel_rfl) (by kernel_rfl) (by kernel_rfl) (fun _ _ _ h => h) (by rfl) (by assumption) ?_ ?_; rotate_left; focus (intro wS hSw; obtain ⟨q0, d0, d1, d2, d3, d4, d5, d6, d7, d8⟩ := HC.out wS hSw; go_simp; first | done | with_reducible rfl)))
          (try simp only [Act.put, List.setIfInBounds_toArray, List.set_cons_zero, List.set_cons_succ])
          (first | (refine takeS_no 9 rfl (by kernel_rfl) (by kernel_rfl) (by kernel_rfl) (fun _ _ _ h => h) (by rfl) (by assumption) ?_) | (refine takeS_yes (v := ?_) 9 rfl (by kernel_rfl) (by kernel_rfl) (by kernel_rfl) (fun _ _ _ h => h) (by rfl) (by assumption) ?_ ?_; rotate_left; focus (intro wS hSw; obtain ⟨q0, d0, d1, d2, d3, d4, d5, d6, d7, d8⟩ := HC.out wS hSw; go_simp; first | done | with_reducible rfl)))
          (try simp only [Act.put, List.setIfInBounds_toArray, List.set_cons_zero, List.set_cons_succ])
          (first | (refine takeS_no 10 rfl (by kernel_rfl) (by kernel_rfl) (by kernel_rfl) (fun _ _ _ h => h) (by rfl) (by assumption) ?_) | (refine takeS_yes (v := ?_) 10 rfl (by kernel_rfl) (by kernel_rfl) (by kernel_rfl) (fun _ _ _ h => h) (by rfl) (by assumption) ?_ ?_; rotate_left; focus (intro wS hSw; obtain ⟨q0, d0, d1, d2, d3, d4, d5, d6, d7, d8⟩ := HC.out wS hSw; go_simp; first | done | with_reducible rfl)))
          (try simp only [Act.put, List.setIfInBounds_toArray, List.set_cons_zero, List.set_cons_succ])
          refine takeS_alone 11 rfl (by kernel_rfl) (by rfl) (fun K hK => ?_)
          · go_simp
            have hbx := (Below.refl v1.heap.size v1).alloc (Nat.le_refl _) (.cells #[.int .i64 0, .int .i64 0, .int .i64 0, .slice none 0 0, .int .i64 0, .pointer none, .int .i64 0, .bool false] 45)
            have ko11_v2 := heap_alloc_new v1 (.cells #[.int .i64 0, .int .i64 0, .int .i64 0, .slice none 0 0, .int .i64 0, .pointer none, .int .i64 0, .bool false] 45)
            obtain ⟨o11, ho11⟩ : ∃ o, o = v1.heap.size := ⟨_, rfl⟩
            rw [← ho11] at ko11_v2 ⊢
            clear ho11
            generalize v1.alloc (.cells #[.int .i64 0, .int .i64 0, .int .i64 0, .slice none 0 0, .int .i64 0, .pointer none, .int .i64 0, .bool false] 45) = v2 at hbx ko11_v2 ⊢
            have hS_v2 : Below w5.heap.size w5 v2 := hS_v1.trans (hbx.mono hS_v1.size)
            clear hbx
            refine hK.out _ _ (by assumption) ?_
            clear hK K
            (try simp only [Act.put, List.setIfInBounds_toArray, List.set_cons_zero, List.set_cons_succ])
            first | exact hC o11 v2 ⟨by assumption, ko11_v2⟩ | exact wpAnyH_listed (by kernel_rfl) (hC o11 v2 ⟨by assumption, ko11_v2⟩)
        · go_simp
          have hbx := (Below.refl v0.heap.size v0).alloc (Nat.le_refl _) (.cells #[.int .i64 0, .int .i64 0, .int .i64 0, .slice none 0 0, .int .i64 0, .pointer none, .int .i64 0, .bool false] 45)
          have ko11_v1 := heap_alloc_new v0 (.cells #[.int .i64 0, .int .i64 0, .int .i64 0, .slice none 0 0, .int .i64 0, .pointer none, .int .i64 0, .bool false] 45)
          obtain ⟨o11, ho11⟩ : ∃ o, o = v0.heap.size := ⟨_, rfl⟩
          rw [← ho11] at ko11_v1 ⊢
          clear ho11
          generalize v0.alloc (.cells #[.int .i64 0, .int .i64 0, .int .i64 0, .slice none 0 0, .int .i64 0, .pointer none, .int .i64 0, .bool false] 45) = v1 at hbx ko11_v1 ⊢
          have hS_v1 : Below w5.heap.size w5 v1 := hS_v0.trans (hbx.mono hS_v0.size)
          clear hbx
          refine hK.out _ _ (by assumption) ?_
          clear hK K
          (try simp only [Act.put, List.setIfInBounds_toArray, List.set_cons_zero, List.set_cons_succ])
          refine takeS_alone 6 rfl (by kernel_rfl) (by rfl) (fun K hK => ?_)
          · go_simp
            refine (rpropose_gone p d.en.term d.en.kind d.en.session d.en.seq d.en.ck d.en.num d.en.text d.en.aao d.en.vao d.en.args.length d.en.acap d.en.vs.length d.en.vcap v1 (HGN.out v1 hS_v1)).mono ?_
            rintro e v2 ⟨rfl, hbx⟩
            have hS_v2 : Below w5.heap.size w5 v2 := hS_v1.trans (hbx.mono hS_v1.size)
            have ko11_v2 := (hbx.block _ (Array.getElem?_eq_some_iff.1 ko11_v1).1).trans ko11_v1
            clear hbx
            refine hK.out _ _ (by assumption) ?_
            clear hK K
            (try simp only [Act.put, List.setIfInBounds_toArray, List.set_cons_zero, List.set_cons_succ])
            (first | (refine takeS_no 7 rfl (by kernel_rfl) (by kernel_rfl) (by kernel_rfl) (fun _ _ _ h => h) (by rfl) (by assumption) ?_) | (refine takeS_yes (v := ?_) 7 rfl (by kernel_rfl) (by kernel_rfl) (by kernel_rfl) (fun _ _ _ h => h) (by rfl) (by assumption) ?_ ?_; rotate_left; focus (intro wS hSw; obtain ⟨q0, d0, d1, d2, d3, d4, d5, d6, d7, d8⟩ := HC.out wS hSw; go_simp; first | done | with_reducible rfl)))
            (try simp only [Act.put, List.setIfInBounds_toArray, List.set_cons_zero, List.set_cons_succ])
            (first | (refine takeS_no 8 rfl (by kernel_rfl) (by kernel_rfl) (by kernel_rfl) (fun _ _ _ h => h) (by rfl) (by assumption) ?_) | (refine takeS_yes (v := ?_) 8 rfl (by kernel_rfl) (by kernel_rfl) (by kernel_rfl) (fun _ _ _ h => h) (by rfl) (by assumption) ?_ ?_; rotate_left; focus (intro wS hSw; obtain ⟨q0, d0, d1, d2, d3, d4, d5, d6, d7, d8⟩ := HC.out wS hSw; go_simp; first | done | with_reducible rfl)))
            (try simp only [Act.put, List.setIfInBounds_toArray, List.set_cons_zero, List.set_cons_succ])
            (first | (refine takeS_no 9 rfl (by kernel_rfl) (by kernel_rfl) (by kernel_rfl) (fun _ _ _ h => h) (by rfl) (by assumption) ?_) | (refine takeS_yes (v := ?_) 9 rfl (by kernel_rfl) (by kernel_rfl) (by kernel_rfl) (fun _ _ _ h => h) (by rfl) (by assumption) ?_ ?_; rotate_left; focus (intro wS hSw; obtain ⟨q0, d0, d1, d2, d3, d4, d5, d6, d7, d8⟩ := HC.out wS hSw; go_simp; first | done | with_reducible rfl)))
            (try simp only [Act.put, List.setIfInBounds_toArray, List.set_cons_zero, List.set_cons_succ])
            (first | (refine takeS_no 10 rfl (by kernel_rfl) (by kernel_rfl) (by kernel_rfl) (fun _ _ _ h => h) (by rfl) (by assumption) ?_) | (refine takeS_yes (v := ?_) 10 rfl (by kernel_rfl) (by kernel_rfl) (by kernel_rfl) (fun _ _ _ h => h) (by rfl) (by assumption) ?_ ?_; rotate_left; focus (intro wS hSw; obtain ⟨q0, d0, d1, d2, d3, d4, d5, d6, d7, d8⟩ := HC.out wS hSw; go_simp; first | done | with_reducible rfl)))
            (try simp only [Act.put, List.setIfInBounds_toArray, List.set_cons_zero, List.set_cons_succ])
            first | exact hC o11 v2 ⟨by assumption, ko11_v2⟩ | exact wpAnyH_listed (by kernel_rfl) (hC o11 v2 ⟨by assumption, ko11_v2⟩)
      intro o6 wz hF
      obtain ⟨hS_z, k6z⟩ := hF
      (first | (refine takeS_no 12 rfl (by kernel_rfl) (by kernel_rfl) (by kernel_rfl) (fun _ _ _ h => h) (by rfl) (by assumption) ?_) | (refine takeS_yes (v := ?_) 12 rfl (by kernel_rfl) (by kernel_rfl) (by kernel_rfl) (fun _ _ _ h => h) (by rfl) (by assumption) ?_ ?_; rotate_left; focus (intro wS hSw; obtain ⟨q0, d0, d1, d2, d3, d4, d5, d6, d7, d8⟩ := HC.out wS hSw; go_simp; first | done | with_reducible rfl)))
      (try simp only [Act.put, List.setIfInBounds_toArray, List.set_cons_zero, List.set_cons_succ])
      refine takeS_alone 13 rfl (by kernel_rfl) (by rfl) (fun K hK => ?_)
      skip
      (refine wp_store_row 45 (.tmp 6) (.tmp 34) rfl o6 #[.int .i64 0, .int .i64 0, .int .i64 0, .slice none 0 0, .int .i64 0, .pointer none, .int .i64 0, .bool false] rfl rfl 45 _ k6z info_out rfl oz_one ?_; rw [setRow_sameL k6z])
      refine hK.out _ _ (by assumption) ?_
      clear hK K
      (try simp only [Act.put, List.setIfInBounds_toArray, List.set_cons_zero, List.set_cons_succ])
      (first | (refine takeS_no 14 rfl (by kernel_rfl) (by kernel_rfl) (by kernel_rfl) (fun _ _ _ h => h) (by rfl) (by assumption) ?_) | (refine takeS_yes (v := ?_) 14 rfl (by kernel_rfl) (by kernel_rfl) (by kernel_rfl) (fun _ _ _ h => h) (by rfl) (by assumption) ?_ ?_; rotate_left; focus (intro wS hSw; obtain ⟨q0, d0, d1, d2, d3, d4, d5, d6, d7, d8⟩ := HC.out wS hSw; go_simp; first | done | with_reducible rfl)))
      (try simp only [Act.put, List.setIfInBounds_toArray, List.set_cons_zero, List.set_cons_succ])
      refine wpAnyH_done (by kernel_rfl) ?_ _
      (try simp only [Exit.then])
      (try (rename (∀ (_ : Act) (_ : World), _ → _) => hK0; refine hK0 _ _ ?_; clear hK0))
      have HZ9 := Lib.hid hS_z
      clear hS_z k6z HC
      have c0 := HCE.out wz HZ9.out
      go_wp2_with fail
      refine (rread_gone p wz (HGN.out wz HZ9.out)).mono ?_
      rintro e wa ⟨rfl, hba⟩
      have hbb := (Below.refl wa.heap.size wa).alloc (Nat.le_refl _) (.cells #[.int .i64 0, .int .i64 0, .int .i64 0, .slice none 0 0, .int .i64 0, .pointer none, .int .i64 0, .bool false] 45)
      have kb := heap_alloc_new wa (.cells #[.int .i64 0, .int .i64 0, .int .i64 0, .slice none 0 0, .int .i64 0, .pointer none, .int .i64 0, .bool false] 45)
      have HZ10 := Lib.hid ((HZ9.out.trans (hba.mono HZ9.out.size)).trans (hbb.mono (Nat.le_trans HZ9.out.size hba.size)))
      clear hba hbb c0 HZ9
      go_upto_region 11 with (refine wpList_store_row rfl 45 (.tmp 9) (.tmp 43) rfl wa.heap.size #[.int .i64 0, .int .i64 0, .int .i64 0, .slice none 0 0, .int .i64 0, .pointer none, .int .i64 0, .bool false] rfl rfl 45 _ kb info_out rfl oz_one ?_)
      rw [setRow_sameL kb]
      generalize wa.alloc (.cells #[.int .i64 0, .int .i64 0, .int .i64 0, .slice none 0 0, .int .i64 0, .pointer none, .int .i64 0, .bool false] 45) = wb at HZ10 kb ⊢
      clear kb
      have hS_v0 : Below w5.heap.size w5 wb.drew := HZ10.out.drew
      have HC := Lib.hid (fun (wS : World) (hb : Below w5.heap.size w5 wS) => And.intro (HCE.out wS hb) (HDA.out wS hb).lt)
      refine heldS_begin (fun w' => Below w5.heap.size w5 w') (by kernel_rfl) (hS_v0) ?_
      intro hS0
      (first | (refine takeS_no 0 rfl (by kernel_rfl) (by kernel_rfl) (by kernel_rfl) (fun _ _ _ h => h) (by rfl) (by assumption) ?_) | (refine takeS_yes (v := ?_) 0 rfl (by kernel_rfl) (by kernel_rfl) (by kernel_rfl) (fun _ _ _ h => h) (by rfl) (by assumption) ?_ ?_; rotate_left; focus (intro wS hSw; obtain ⟨q0, d0, d1, d2, d3, d4, d5, d6, d7, d8, d9, d10, d11, d12⟩ := HC.out wS hSw; go_simp; first | done | with_reducible rfl)))
      (try simp only [Act.put, List.setIfInBounds_toArray, List.set_cons_zero, List.set_cons_succ])
      (first | (refine takeS_no 1 rfl (by kernel_rfl) (by kernel_rfl) (by kernel_rfl) (fun _ _ _ h => h) (by rfl) (by assumption) ?_) | (refine takeS_yes (v := ?_) 1 rfl (by kernel_rfl) (by kernel_rfl) (by kernel_rfl) (fun _ _ _ h => h) (by rfl) (by assumption) ?_ ?_; rotate_left; focus (intro wS hSw; obtain ⟨q0, d0, d1, d2, d3, d4, d5, d6, d7, d8, d9, d10, d11, d12⟩ := HC.out wS hSw; go_simp; first | done | with_reducible rfl)))
      (try simp only [Act.put, List.setIfInBounds_toArray, List.set_cons_zero, List.set_cons_succ])
      (first | (refine takeS_no 2 rfl (by kernel_rfl) (by kernel_rfl) (by kernel_rfl) (fun _ _ _ h => h) (by rfl) (by assumption) ?_) | (refine takeS_yes (v := ?_) 2 rfl (by kernel_rfl) (by kernel_rfl) (by kernel_rfl) (fun _ _ _ h => h) (by rfl) (by assumption) ?_ ?_; rotate_left; focus (intro wS hSw; obtain ⟨q0, d0, d1, d2, d3, d4, d5, d6, d7, d8, d9, d10, d11, d12⟩ := HC.out wS hSw; go_simp; first | done | with_reducible rfl)))
      (try simp only [Act.put, List.setIfInBounds_toArray, List.set_cons_zero, List.set_cons_succ])
      (first | (refine takeS_no 3 rfl (by kernel_rfl) (by kernel_rfl) (by kernel_rfl) (fun _ _ _ h => h) (by rfl) (by assumption) ?_) | (refine takeS_yes (v := ?_) 3 rfl (by kernel_rfl) (by kernel_rfl) (by kernel_rfl) (fun _ _ _ h => h) (by rfl) (by assumption) ?_ ?_; rotate_left; focus (intro wS hSw; obtain ⟨q0, d0, d1, d2, d3, d4, d5, d6, d7, d8, d9, d10, d11, d12⟩ := HC.out wS hSw; go_simp; first | done | with_reducible rfl)))
      (try simp only [Act.put, List.setIfInBounds_toArray, List.set_cons_zero, List.set_cons_succ])
      (first | (refine takeS_no 4 rfl (by kernel_rfl) (by kernel_rfl) (by kernel_rfl) (fun _ _ _ h => h) (by rfl) (by assumption) ?_) | (refine takeS_yes (v := ?_) 4 rfl (by kernel_rfl) (by kernel_rfl) (by kernel_rfl) (fun _ _ _ h => h) (by rfl) (by assumption) ?_ ?_; rotate_left; focus (intro wS hSw; obtain ⟨q0, d0, d1, d2, d3, d4, d5, d6, d7, d8, d9, d10, d11, d12⟩ := HC.out wS hSw; go_simp; first | done | with_reducible rfl)))
      (try simp only [Act.put, List.setIfInBounds_toArray, List.set_cons_zero, List.set_cons_succ])
      (first | (refine takeS_no 5 rfl (by kernel_rfl) (by kernel_rfl) (by kernel_rfl) (fun _ _ _ h => h) (by rfl) (by assumption) ?_) | (refine takeS_yes (v := ?_) 5 rfl (by kernel_rfl) (by kernel_rfl) (by kernel_rfl) (fun _ _ _ h => h) (by rfl) (by assumption) ?_ ?_; rotate_left; focus (intro wS hSw; obtain ⟨q0, d0, d1, d2, d3, d4, d5, d6, d7, d8, d9, d10, d11, d12⟩ := HC.out wS hSw; go_simp; first | done | with_reducible rfl)))
      (try simp only [Act.put, List.setIfInBounds_toArray, List.set_cons_zero, List.set_cons_succ])
      (first | (refine takeS_no 7 rfl (by kernel_rfl) (by kernel_rfl) (by kernel_rfl) (fun _ _ _ h => h) (by rfl) (by assumption) ?_) | (refine takeS_yes (v := ?_) 7 rfl (by kernel_rfl) (by kernel_rfl) (by kernel_rfl) (fun _ _ _ h => h) (by rfl) (by assumption) ?_ ?_; rotate_left; focus (intro wS hSw; obtain ⟨q0, d0, d1, d2, d3, d4, d5, d6, d7, d8, d9, d10, d11, d12⟩ := HC.out wS hSw; go_simp; first | done | with_reducible rfl)))
      (try simp only [Act.put, List.setIfInBounds_toArray, List.set_cons_zero, List.set_cons_succ])
      (first | (refine takeS_no 8 rfl (by kernel_rfl) (by kernel_rfl) (by kernel_rfl) (fun _ _ _ h => h) (by rfl) (by assumption) ?_) | (refine takeS_yes (v := ?_) 8 rfl (by kernel_rfl) (by kernel_rfl) (by kernel_rfl) (fun _ _ _ h => h) (by rfl) (by assumption) ?_ ?_; rotate_left; focus (intro wS hSw; obtain ⟨q0, d0, d1, d2, d3, d4, d5, d6, d7, d8, d9, d10, d11, d12⟩ := HC.out wS hSw; go_simp; first | done | with_reducible rfl)))
      (try simp only [Act.put, List.setIfInBounds_toArray, List.set_cons_zero, List.set_cons_succ])
      (first | (refine takeS_no 9 rfl (by kernel_rfl) (by kernel_rfl) (by kernel_rfl) (fun _ _ _ h => h) (by rfl) (by assumption) ?_) | (refine takeS_yes (v := ?_) 9 rfl (by kernel_rfl) (by kernel_rfl) (by kernel_rfl) (fun _ _ _ h => h) (by rfl) (by assumption) ?_ ?_; rotate_left; focus (intro wS hSw; obtain ⟨q0, d0, d1, d2, d3, d4, d5, d6, d7, d8, d9, d10, d11, d12⟩ := HC.out wS hSw; go_simp; first | done | with_reducible rfl)))
      (try simp only [Act.put, List.setIfInBounds_toArray, List.set_cons_zero, List.set_cons_succ])
      (first | (refine takeS_no 10 rfl (by kernel_rfl) (by kernel_rfl) (by kernel_rfl) (fun _ _ _ h => h) (by rfl) (by assumption) ?_) | (refine takeS_yes (v := ?_) 10 rfl (by kernel_rfl) (by kernel_rfl) (by kernel_rfl) (fun _ _ _ h => h) (by rfl) (by assumption) ?_ ?_; rotate_left; focus (intro wS hSw; obtain ⟨q0, d0, d1, d2, d3, d4, d5, d6, d7, d8, d9, d10, d11, d12⟩ := HC.out wS hSw; go_simp; first | done | with_reducible rfl)))
      (try simp only [Act.put, List.setIfInBounds_toArray, List.set_cons_zero, List.set_cons_succ])
      (first | (refine takeS_no 11 rfl (by kernel_rfl) (by kernel_rfl) (by kernel_rfl) (fun _ _ _ h => h) (by rfl) (by assumption) ?_) | (refine takeS_yes (v := ?_) 11 rfl (by kernel_rfl) (by kernel_rfl) (by kernel_rfl) (fun _ _ _ h => h) (by rfl) (by assumption) ?_ ?_; rotate_left; focus (intro wS hSw; obtain ⟨q0, d0, d1, d2, d3, d4, d5, d6, d7, d8, d9, d10, d11, d12⟩ := HC.out wS hSw; go_simp; first | done | with_reducible rfl)))
      (try simp only [Act.put, List.setIfInBounds_toArray, List.set_cons_zero, List.set_cons_succ])
      (first | (refine takeS_no 12 rfl (by kernel_rfl) (by kernel_rfl) (by kernel_rfl) (fun _ _ _ h => h) (by rfl) (by assumption) ?_) | (refine takeS_yes (v := ?_) 12 rfl (by kernel_rfl) (by kernel_rfl) (by kernel_rfl) (fun _ _ _ h => h) (by rfl) (by assumption) ?_ ?_; rotate_left; focus (intro wS hSw; obtain ⟨q0, d0, d1, d2, d3, d4, d5, d6, d7, d8, d9, d10, d11, d12⟩ := HC.out wS hSw; go_simp; first | done | with_reducible rfl)))
      (try simp only [Act.put, List.setIfInBounds_toArray, List.set_cons_zero, List.set_cons_succ])
      clear hS0
      generalize wb.drew = v0 at hS_v0 ⊢
      apply merge26 (F := fun a b wz => Below w5.heap.size w5 wz ∧ OutAt a wz ∧ OutAt b wz)
      case h1 =>
        intro hC
        refine takeS_three 6 14 15 rfl rfl rfl (by kernel_rfl) (by rfl) (by rfl) (by rfl) (fun K hK => ?_) (fun K hK => ?_) (fun K hK => ?_)
        · go_simp
          refine (rtick_gone p d.n v0 (HGN.out v0 hS_v0)).mono ?_
          rintro e v1 ⟨rfl, hbx⟩
          have hS_v1 : Below w5.heap.size w5 v1 := hS_v0.trans (hbx.mono hS_v0.size)
          clear hbx
          refine hK.out _ _ (by assumption) ?_
          clear hK K
          (try simp only [Act.put, List.setIfInBounds_toArray, List.set_cons_zero, List.set_cons_succ])
          refine takeS_three 13 14 15 rfl rfl rfl (by kernel_rfl) (by rfl) (by rfl) (by rfl) (fun K hK => ?_) (fun K hK => ?_) (fun K hK => ?_)
          · go_simp
            refine (rletter_gone p d.lk d.fr d.tgt d.tm d.ix d.was d.cm d.rd d.ok d.eo d.vo d.io d.ents.length d.ec d.vn d.vc d.im d.ic v1 (HGN.out v1 hS_v1)).mono ?_
            rintro e v2 ⟨rfl, hbx⟩
            have hS_v2 : Below w5.heap.size w5 v2 := hS_v1.trans (hbx.mono hS_v1.size)
            clear hbx
            refine hK.out _ _ (by assumption) ?_
            clear hK K
            (try simp only [Act.put, List.setIfInBounds_toArray, List.set_cons_zero, List.set_cons_succ])
            refine takeS_two 14 15 rfl rfl (by kernel_rfl) (by rfl) (by rfl) (fun K hK => ?_) (fun K hK => ?_)
            · go_simp
              have hbx := (Below.refl v2.heap.size v2).alloc (Nat.le_refl _) (.cells #[.int .i64 0, .int .i64 0, .int .i64 0, .slice none 0 0, .int .i64 0, .pointer none, .int .i64 0, .bool false] 45)
              have ko14_v3 := heap_alloc_new v2 (.cells #[.int .i64 0, .int .i64 0, .int .i64 0, .slice none 0 0, .int .i64 0, .pointer none, .int .i64 0, .bool false] 45)
              obtain ⟨o14, ho14⟩ : ∃ o, o = v2.heap.size := ⟨_, rfl⟩
              rw [← ho14] at ko14_v3 ⊢
              clear ho14
              generalize v2.alloc (.cells #[.int .i64 0, .int .i64 0, .int .i64 0, .slice none 0 0, .int .i64 0, .pointer none, .int .i64 0, .bool false] 45) = v3 at hbx ko14_v3 ⊢
              have hS_v3 : Below w5.heap.size w5 v3 := hS_v2.trans (hbx.mono hS_v2.size)
              clear hbx
              refine hK.out _ _ (by assumption) ?_
              clear hK K
              (try simp only [Act.put, List.setIfInBounds_toArray, List.set_cons_zero, List.set_cons_succ])
              refine takeS_alone 15 rfl (by kernel_rfl) (by rfl) (fun K hK => ?_)
              · go_simp
                have hbx := (Below.refl v3.heap.size v3).alloc (Nat.le_refl _) (.cells #[.int .i64 0, .int .i64 0, .int .i64 0, .slice none 0 0, .int .i64 0, .pointer none, .int .i64 0, .bool false] 45)
                have ko15_v4 := heap_alloc_new v3 (.cells #[.int .i64 0, .int .i64 0, .int .i64 0, .slice none 0 0, .int .i64 0, .pointer none, .int .i64 0, .bool false] 45)
                obtain ⟨o15, ho15⟩ : ∃ o, o = v3.heap.size := ⟨_, rfl⟩
                rw [← ho15] at ko15_v4 ⊢
                clear ho15
                generalize v3.alloc (.cells #[.int .i64 0, .int .i64 0, .int .i64 0, .slice none 0 0, .int .i64 0, .pointer none, .int .i64 0, .bool false] 45) = v4 at hbx ko15_v4 ⊢
                have hS_v4 : Below w5.heap.size w5 v4 := hS_v3.trans (hbx.mono hS_v3.size)
                have ko14_v4 := (hbx.block _ (Array.getElem?_eq_some_iff.1 ko14_v3).1).trans ko14_v3
                clear hbx
                refine hK.out _ _ (by assumption) ?_
                clear hK K
                (try simp only [Act.put, List.setIfInBounds_toArray, List.set_cons_zero, List.set_cons_succ])
                first | exact hC o14 o15 v4 ⟨by assumption, ko14_v4, ko15_v4⟩ | exact wpAnyH_listed (by kernel_rfl) (hC o14 o15 v4 ⟨by assumption, ko14_v4, ko15_v4⟩)
            · go_simp
              have hbx := (Below.refl v2.heap.size v2).alloc (Nat.le_refl _) (.cells #[.int .i64 0, .int .i64 0, .int .i64 0, .slice none 0 0, .int .i64 0, .pointer none, .int .i64 0, .bool false] 45)
              have ko15_v3 := heap_alloc_new v2 (.cells #[.int .i64 0, .int .i64 0, .int .i64 0, .slice none 0 0, .int .i64 0, .pointer none, .int .i64 0, .bool false] 45)
              obtain ⟨o15, ho15⟩ : ∃ o, o = v2.heap.size := ⟨_, rfl⟩
              rw [← ho15] at ko15_v3 ⊢
              clear ho15
              generalize v2.alloc (.cells #[.int .i64 0, .int .i64 0, .int .i64 0, .slice none 0 0, .int .i64 0, .pointer none, .int .i64 0, .bool false] 45) = v3 at hbx ko15_v3 ⊢
              have hS_v3 : Below w5.heap.size w5 v3 := hS_v2.trans (hbx.mono hS_v2.size)
              clear hbx
              refine hK.out _ _ (by assumption) ?_
              clear hK K
              (try simp only [Act.put, List.setIfInBounds_toArray, List.set_cons_zero, List.set_cons_succ])
              refine takeS_alone 14 rfl (by kernel_rfl) (by rfl) (fun K hK => ?_)
              · go_simp
                have hbx := (Below.refl v3.heap.size v3).alloc (Nat.le_refl _) (.cells #[.int .i64 0, .int .i64 0, .int .i64 0, .slice none 0 0, .int .i64 0, .pointer none, .int .i64 0, .bool false] 45)
                have ko14_v4 := heap_alloc_new v3 (.cells #[.int .i64 0, .int .i64 0, .int .i64 0, .slice none 0 0, .int .i64 0, .pointer none, .int .i64 0, .bool false] 45)
                obtain ⟨o14, ho14⟩ : ∃ o, o = v3.heap.size := ⟨_, rfl⟩
                rw [← ho14] at ko14_v4 ⊢
                clear ho14
                generalize v3.alloc (.cells #[.int .i64 0, .int .i64 0, .int .i64 0, .slice none 0 0, .int .i64 0, .pointer none, .int .i64 0, .bool false] 45) = v4 at hbx ko14_v4 ⊢
                have hS_v4 : Below w5.heap.size w5 v4 := hS_v3.trans (hbx.mono hS_v3.size)
                have ko15_v4 := (hbx.block _ (Array.getElem?_eq_some_iff.1 ko15_v3).1).trans ko15_v3
                clear hbx
                refine hK.out _ _ (by assumption) ?_
                clear hK K
                (try simp only [Act.put, List.setIfInBounds_toArray, List.set_cons_zero, List.set_cons_succ])
                first | exact hC o14 o15 v4 ⟨by assumption, ko14_v4, ko15_v4⟩ | exact wpAnyH_listed (by kernel_rfl) (hC o14 o15 v4 ⟨by assumption, ko14_v4, ko15_v4⟩)
          · go_simp
            have hbx := (Below.refl v1.heap.size v1).alloc (Nat.le_refl _) (.cells #[.int .i64 0, .int .i64 0, .int .i64 0, .slice none 0 0, .int .i64 0, .pointer none, .int .i64 0, .bool false] 45)
            have ko14_v2 := heap_alloc_new v1 (.cells #[.int .i64 0, .int .i64 0, .int .i64 0, .slice none 0 0, .int .i64 0, .pointer none, .int .i64 0, .bool false] 45)
            obtain ⟨o14, ho14⟩ : ∃ o, o = v1.heap.size := ⟨_, rfl⟩
            rw [← ho14] at ko14_v2 ⊢
            clear ho14
            generalize v1.alloc (.cells #[.int .i64 0, .int .i64 0, .int .i64 0, .slice none 0 0, .int .i64 0, .pointer none, .int .i64 0, .bool false] 45) = v2 at hbx ko14_v2 ⊢
            have hS_v2 : Below w5.heap.size w5 v2 := hS_v1.trans (hbx.mono hS_v1.size)
            clear hbx
            refine hK.out _ _ (by assumption) ?_
            clear hK K
            (try simp only [Act.put, List.setIfInBounds_toArray, List.set_cons_zero, List.set_cons_succ])
            refine takeS_two 13 15 rfl rfl (by kernel_rfl) (by rfl) (by rfl) (fun K hK => ?_) (fun K hK => ?_)
            · go_simp
              refine (rletter_gone p d.lk d.fr d.tgt d.tm d.ix d.was d.cm d.rd d.ok d.eo d.vo d.io d.ents.length d.ec d.vn d.vc d.im d.ic v2 (HGN.out v2 hS_v2)).mono ?_
              rintro e v3 ⟨rfl, hbx⟩
              have hS_v3 : Below w5.heap.size w5 v3 := hS_v2.trans (hbx.mono hS_v2.size)
              have ko14_v3 := (hbx.block _ (Array.getElem?_eq_some_iff.1 ko14_v2).1).trans ko14_v2
              clear hbx
              refine hK.out _ _ (by assumption) ?_
              clear hK K
              (try simp only [Act.put, List.setIfInBounds_toArray, List.set_cons_zero, List.set_cons_succ])
              refine takeS_alone 15 rfl (by kernel_rfl) (by rfl) (fun K hK => ?_)
              · go_simp
                have hbx := (Below.refl v3.heap.size v3).alloc (Nat.le_refl _) (.cells #[.int .i64 0, .int .i64 0, .int .i64 0, .slice none 0 0, .int .i64 0, .pointer none, .int .i64 0, .bool false] 45)
                have ko15_v4 := heap_alloc_new v3 (.cells #[.int .i64 0, .int .i64 0, .int .i64 0, .slice none 0 0, .int .i64 0, .pointer none, .int .i64 0, .bool false] 45)
                obtain ⟨o15, ho15⟩ : ∃ o, o = v3.heap.size := ⟨_, rfl⟩
                rw [← ho15] at ko15_v4 ⊢
                clear ho15
                generalize v3.alloc (.cells #[.int .i64 0, .int .i64 0, .int .i64 0, .slice none 0 0, .int .i64 0, .pointer none, .int .i64 0, .bool false] 45) = v4 at hbx ko15_v4 ⊢
                have hS_v4 : Below w5.heap.size w5 v4 := hS_v3.trans (hbx.mono hS_v3.size)
                have ko14_v4 := (hbx.block _ (Array.getElem?_eq_some_iff.1 ko14_v3).1).trans ko14_v3
                clear hbx
                refine hK.out _ _ (by assumption) ?_
                clear hK K
                (try simp only [Act.put, List.setIfInBounds_toArray, List.set_cons_zero, List.set_cons_succ])
                first | exact hC o14 o15 v4 ⟨by assumption, ko14_v4, ko15_v4⟩ | exact wpAnyH_listed (by kernel_rfl) (hC o14 o15 v4 ⟨by assumption, ko14_v4, ko15_v4⟩)
            · go_simp
              have hbx := (Below.refl v2.heap.size v2).alloc (Nat.le_refl _) (.cells #[.int .i64 0, .int .i64 0, .int .i64 0, .slice none 0 0, .int .i64 0, .pointer none, .int .i64 0, .bool false] 45)
              have ko15_v3 := heap_alloc_new v2 (.cells #[.int .i64 0, .int .i64 0, .int .i64 0, .slice none 0 0, .int .i64 0, .pointer none, .int .i64 0, .bool false] 45)
              obtain ⟨o15, ho15⟩ : ∃ o, o = v2.heap.size := ⟨_, rfl⟩
              rw [← ho15] at ko15_v3 ⊢
              clear ho15
              generalize v2.alloc (.cells #[.int .i64 0, .int .i64 0, .int .i64 0, .slice none 0 0, .int .i64 0, .pointer none, .int .i64 0, .bool false] 45) = v3 at hbx ko15_v3 ⊢
              have hS_v3 : Below w5.heap.size w5 v3 := hS_v2.trans (hbx.mono hS_v2.size)
              have ko14_v3 := (hbx.block _ (Array.getElem?_eq_some_iff.1 ko14_v2).1).trans ko14_v2
              clear hbx
              refine hK.out _ _ (by assumption) ?_
              clear hK K
              (try simp only [Act.put, List.setIfInBounds_toArray, List.set_cons_zero, List.set_cons_succ])
              refine takeS_alone 13 rfl (by kernel_rfl) (by rfl) (fun K hK => ?_)
              · go_simp
                refine (rletter_gone p d.lk d.fr d.tgt d.tm d.ix d.was d.cm d.rd d.ok d.eo d.vo d.io d.ents.length d.ec d.vn d.vc d.im d.ic v3 (HGN.out v3 hS_v3)).mono ?_
                rintro e v4 ⟨rfl, hbx⟩
                have hS_v4 : Below w5.heap.size w5 v4 := hS_v3.trans (hbx.mono hS_v3.size)
                have ko14_v4 := (hbx.block _ (Array.getElem?_eq_some_iff.1 ko14_v3).1).trans ko14_v3
                have ko15_v4 := (hbx.block _ (Array.getElem?_eq_some_iff.1 ko15_v3).1).trans ko15_v3
                clear hbx
                refine hK.out _ _ (by assumption) ?_
                clear hK K
                (try simp only [Act.put, List.setIfInBounds_toArray, List.set_cons_zero, List.set_cons_succ])
                first | exact hC o14 o15 v4 ⟨by assumption, ko14_v4, ko15_v4⟩ | exact wpAnyH_listed (by kernel_rfl) (hC o14 o15 v4 ⟨by assumption, ko14_v4, ko15_v4⟩)
          · go_simp
            have hbx := (Below.refl v1.heap.size v1).alloc (Nat.le_refl _) (.cells #[.int .i64 0, .int .i64 0, .int .i64 0, .slice none 0 0, .int .i64 0, .pointer none, .int .i64 0, .bool false] 45)
            have ko15_v2 := heap_alloc_new v1 (.cells #[.int .i64 0, .int .i64 0, .int .i64 0, .slice none 0 0, .int .i64 0, .pointer none, .int .i64 0, .bool false] 45)
            obtain ⟨o15, ho15⟩ : ∃ o, o = v1.heap.size := ⟨_, rfl⟩
            rw [← ho15] at ko15_v2 ⊢
            clear ho15
            generalize v1.alloc (.cells #[.int .i64 0, .int .i64 0, .int .i64 0, .slice none 0 0, .int .i64 0, .pointer none, .int .i64 0, .bool false] 45) = v2 at hbx ko15_v2 ⊢
            have hS_v2 : Below w5.heap.size w5 v2 := hS_v1.trans (hbx.mono hS_v1.size)
            clear hbx
            refine hK.out _ _ (by assumption) ?_
            clear hK K
            (try simp only [Act.put, List.setIfInBounds_toArray, List.set_cons_zero, List.set_cons_succ])
            refine takeS_two 13 14 rfl rfl (by kernel_rfl) (by rfl) (by rfl) (fun K hK => ?_) (fun K hK => ?_)
            · go_simp
              refine (rletter_gone p d.lk d.fr d.tgt d.tm d.ix d.was d.cm d.rd d.ok d.eo d.vo d.io d.ents.length d.ec d.vn d.vc d.im d.ic v2 (HGN.out v2 hS_v2)).mono ?_
              rintro e v3 ⟨rfl, hbx⟩
              have hS_v3 : Below w5.heap.size w5 v3 := hS_v2.trans (hbx.mono hS_v2.size)
              have ko15_v3 := (hbx.block _ (Array.getElem?_eq_some_iff.1 ko15_v2).1).trans ko15_v2
              clear hbx
              refine hK.out _ _ (by assumption) ?_
              clear hK K
              (try simp only [Act.put, List.setIfInBounds_toArray, List.set_cons_zero, List.set_cons_succ])
              refine takeS_alone 14 rfl (by kernel_rfl) (by rfl) (fun K hK => ?_)
              · go_simp
                have hbx := (Below.refl v3.heap.size v3).alloc (Nat.le_refl _) (.cells #[.int .i64 0, .int .i64 0, .int .i64 0, .slice none 0 0, .int .i64 0, .pointer none, .int .i64 0, .bool false] 45)
                have ko14_v4 := heap_alloc_new v3 (.cells #[.int .i64 0, .int .i64 0, .int .i64 0, .slice none 0 0, .int .i64 0, .pointer none, .int .i64 0, .bool false] 45)
                obtain ⟨o14, ho14⟩ : ∃ o, o = v3.heap.size := ⟨_, rfl⟩
                rw [← ho14] at ko14_v4 ⊢
                clear ho14
                generalize v3.alloc (.cells #[.int .i64 0, .int .i64 0, .int .i64 0, .slice none 0 0, .int .i64 0, .pointer none, .int .i64 0, .bool false] 45) = v4 at hbx ko14_v4 ⊢
                have hS_v4 : Below w5.heap.size w5 v4 := hS_v3.trans (hbx.mono hS_v3.size)
                have ko15_v4 := (hbx.block _ (Array.getElem?_eq_some_iff.1 ko15_v3).1).trans ko15_v3
                clear hbx
                refine hK.out _ _ (by assumption) ?_
                clear hK K
                (try simp only [Act.put, List.setIfInBounds_toArray, List.set_cons_zero, List.set_cons_succ])
                first | exact hC o14 o15 v4 ⟨by assumption, ko14_v4, ko15_v4⟩ | exact wpAnyH_listed (by kernel_rfl) (hC o14 o15 v4 ⟨by assumption, ko14_v4, ko15_v4⟩)
            · go_simp
              have hbx := (Below.refl v2.heap.size v2).alloc (Nat.le_refl _) (.cells #[.int .i64 0, .int .i64 0, .int .i64 0, .slice none 0 0, .int .i64 0, .pointer none, .int .i64 0, .bool false] 45)
              have ko14_v3 := heap_alloc_new v2 (.cells #[.int .i64 0, .int .i64 0, .int .i64 0, .slice none 0 0, .int .i64 0, .pointer none, .int .i64 0, .bool false] 45)
              obtain ⟨o14, ho14⟩ : ∃ o, o = v2.heap.size := ⟨_, rfl⟩
              rw [← ho14] at ko14_v3 ⊢
              clear ho14
              generalize v2.alloc (.cells #[.int .i64 0, .int .i64 0, .int .i64 0, .slice none 0 0, .int .i64 0, .pointer none, .int .i64 0, .bool false] 45) = v3 at hbx ko14_v3 ⊢
              have hS_v3 : Below w5.heap.size w5 v3 := hS_v2.trans (hbx.mono hS_v2.size)
              have ko15_v3 := (hbx.block _ (Array.getElem?_eq_some_iff.1 ko15_v2).1).trans ko15_v2
              clear hbx
              refine hK.out _ _ (by assumption) ?_
              clear hK K
              (try simp only [Act.put, List.setIfInBounds_toArray, List.set_cons_zero, List.set_cons_succ])
              refine takeS_alone 13 rfl (by kernel_rfl) (by rfl) (fun K hK => ?_)
              · go_simp
                refine (rletter_gone p d.lk d.fr d.tgt d.tm d.ix d.was d.cm d.rd d.ok d.eo d.vo d.io d.ents.length d.ec d.vn d.vc d.im d.ic v3 (HGN.out v3 hS_v3)).mono ?_
                rintro e v4 ⟨rfl, hbx⟩
                have hS_v4 : Below w5.heap.size w5 v4 := hS_v3.trans (hbx.mono hS_v3.size)
                have ko15_v4 := (hbx.block _ (Array.getElem?_eq_some_iff.1 ko15_v3).1).trans ko15_v3
                have ko14_v4 := (hbx.block _ (Array.getElem?_eq_some_iff.1 ko14_v3).1).trans ko14_v3
                clear hbx
                refine hK.out _ _ (by assumption) ?_
                clear hK K
                (try simp only [Act.put, List.setIfInBounds_toArray, List.set_cons_zero, List.set_cons_succ])
                first | exact hC o14 o15 v4 ⟨by assumption, ko14_v4, ko15_v4⟩ | exact wpAnyH_listed (by kernel_rfl) (hC o14 o15 v4 ⟨by assumption, ko14_v4, ko15_v4⟩)
        · go_simp
          have hbx := (Below.refl v0.heap.size v0).alloc (Nat.le_refl _) (.cells #[.int .i64 0, .int .i64 0, .int .i64 0, .slice none 0 0, .int .i64 0, .pointer none, .int .i64 0, .bool false] 45)
          have ko14_v1 := heap_alloc_new v0 (.cells #[.int .i64 0, .int .i64 0, .int .i64 0, .slice none 0 0, .int .i64 0, .pointer none, .int .i64 0, .bool false] 45)
          obtain ⟨o14, ho14⟩ : ∃ o, o = v0.heap.size := ⟨_, rfl⟩
          rw [← ho14] at ko14_v1 ⊢
          clear ho14
          generalize v0.alloc (.cells #[.int .i64 0, .int .i64 0, .int .i64 0, .slice none 0 0, .int .i64 0, .pointer none, .int .i64 0, .bool false] 45) = v1 at hbx ko14_v1 ⊢
          have hS_v1 : Below w5.heap.size w5 v1 := hS_v0.trans (hbx.mono hS_v0.size)
          clear hbx
          refine hK.out _ _ (by assumption) ?_
          clear hK K
          (try simp only [Act.put, List.setIfInBounds_toArray, List.set_cons_zero, List.set_cons_succ])
          refine takeS_two 6 15 rfl rfl (by kernel_rfl) (by rfl) (by rfl) (fun K hK => ?_) (fun K hK => ?_)
          · go_simp
            refine (rtick_gone p d.n v1 (HGN.out v1 hS_v1)).mono ?_
            rintro e v2 ⟨rfl, hbx⟩
            have hS_v2 : Below w5.heap.size w5 v2 := hS_v1.trans (hbx.mono hS_v1.size)
            have ko14_v2 := (hbx.block _ (Array.getElem?_eq_some_iff.1 ko14_v1).1).trans ko14_v1
            clear hbx
            refine hK.out _ _ (by assumption) ?_
            clear hK K
            (try simp only [Act.put, List.setIfInBounds_toArray, List.set_cons_zero, List.set_cons_succ])
            refine takeS_two 13 15 rfl rfl (by kernel_rfl) (by rfl) (by rfl) (fun K hK => ?_) (fun K hK => ?_)
            · go_simp
              refine (rletter_gone p d.lk d.fr d.tgt d.tm d.ix d.was d.cm d.rd d.ok d.eo d.vo d.io d.ents.length d.ec d.vn d.vc d.im d.ic v2 (HGN.out v2 hS_v2)).mono ?_
              rintro e v3 ⟨rfl, hbx⟩
              have hS_v3 : Below w5.heap.size w5 v3 := hS_v2.trans (hbx.mono hS_v2.size)
              have ko14_v3 := (hbx.block _ (Array.getElem?_eq_some_iff.1 ko14_v2).1).trans ko14_v2
              clear hbx
              refine hK.out _ _ (by assumption) ?_
              clear hK K
              (try simp only [Act.put, List.setIfInBounds_toArray, List.set_cons_zero, List.set_cons_succ])
              refine takeS_alone 15 rfl (by kernel_rfl) (by rfl) (fun K hK => ?_)
              · go_simp
                have hbx := (Below.refl v3.heap.size v3).alloc (Nat.le_refl _) (.cells #[.int .i64 0, .int .i64 0, .int .i64 0, .slice none 0 0, .int .i64 0, .pointer none, .int .i64 0, .bool false] 45)
                have ko15_v4 := heap_alloc_new v3 (.cells #[.int .i64 0, .int .i64 0, .int .i64 0, .slice none 0 0, .int .i64 0, .pointer none, .int .i64 0, .bool false] 45)
                obtain ⟨o15, ho15⟩ : ∃ o, o = v3.heap.size := ⟨_, rfl⟩
                rw [← ho15] at ko15_v4 ⊢
                clear ho15
                generalize v3.alloc (.cells #[.int .i64 0, .int .i64 0, .int .i64 0, .slice none 0 0, .int .i64 0, .pointer none, .int .i64 0, .bool false] 45) = v4 at hbx ko15_v4 ⊢
                have hS_v4 : Below w5.heap.size w5 v4 := hS_v3.trans (hbx.mono hS_v3.size)
                have ko14_v4 := (hbx.block _ (Array.getElem?_eq_some_iff.1 ko14_v3).1).trans ko14_v3
                clear hbx
                refine hK.out _ _ (by assumption) ?_
                clear hK K
                (try simp only [Act.put, List.setIfInBounds_toArray, List.set_cons_zero, List.set_cons_succ])
                first | exact hC o14 o15 v4 ⟨by assumption, ko14_v4, ko15_v4⟩ | exact wpAnyH_listed (by kernel_rfl) (hC o14 o15 v4 ⟨by assumption, ko14_v4, ko15_v4⟩)
            · go_simp
              have hbx := (Below.refl v2.heap.size v2).alloc (Nat.le_refl _) (.cells #[.int .i64 0, .int .i64 0, .int .i64 0, .slice none 0 0, .int .i64 0, .pointer none, .int .i64 0, .bool false] 45)
              have ko15_v3 := heap_alloc_new v2 (.cells #[.int .i64 0, .int .i64 0, .int .i64 0, .slice none 0 0, .int .i64 0, .pointer none, .int .i64 0, .bool false] 45)
              obtain ⟨o15, ho15⟩ : ∃ o, o = v2.heap.size := ⟨_, rfl⟩
              rw [← ho15] at ko15_v3 ⊢
              clear ho15
              generalize v2.alloc (.cells #[.int .i64 0, .int .i64 0, .int .i64 0, .slice none 0 0, .int .i64 0, .pointer none, .int .i64 0, .bool false] 45) = v3 at hbx ko15_v3 ⊢
              have hS_v3 : Below w5.heap.size w5 v3 := hS_v2.trans (hbx.mono hS_v2.size)
              have ko14_v3 := (hbx.block _ (Array.getElem?_eq_some_iff.1 ko14_v2).1).trans ko14_v2
              clear hbx
              refine hK.out _ _ (by assumption) ?_
              clear hK K
              (try simp only [Act.put, List.setIfInBounds_toArray, List.set_cons_zero, List.set_cons_succ])
              refine takeS_alone 13 rfl (by kernel_rfl) (by rfl) (fun K hK => ?_)
              · go_simp
                refine (rletter_gone p d.lk d.fr d.tgt d.tm d.ix d.was d.cm d.rd d.ok d.eo d.vo d.io d.ents.length d.ec d.vn d.vc d.im d.ic v3 (HGN.out v3 hS_v3)).mono ?_
                rintro e v4 ⟨rfl, hbx⟩
                have hS_v4 : Below w5.heap.size w5 v4 := hS_v3.trans (hbx.mono hS_v3.size)
                have ko14_v4 := (hbx.block _ (Array.getElem?_eq_some_iff.1 ko14_v3).1).trans ko14_v3
                have ko15_v4 := (hbx.block _ (Array.getElem?_eq_some_iff.1 ko15_v3).1).trans ko15_v3
                clear hbx
                refine hK.out _ _ (by assumption) ?_
                clear hK K
                (try simp only [Act.put, List.setIfInBounds_toArray, List.set_cons_zero, List.set_cons_succ])
                first | exact hC o14 o15 v4 ⟨by assumption, ko14_v4, ko15_v4⟩ | exact wpAnyH_listed (by kernel_rfl) (hC o14 o15 v4 ⟨by assumption, ko14_v4, ko15_v4⟩)
          · go_simp
            have hbx := (Below.refl v1.heap.size v1).alloc (Nat.le_refl _) (.cells #[.int .i64 0, .int .i64 0, .int .i64 0, .slice none 0 0, .int .i64 0, .pointer none, .int .i64 0, .bool false] 45)
            have ko15_v2 := heap_alloc_new v1 (.cells #[.int .i64 0, .int .i64 0, .int .i64 0, .slice none 0 0, .int .i64 0, .pointer none, .int .i64 0, .bool false] 45)
            obtain ⟨o15, ho15⟩ : ∃ o, o = v1.heap.size := ⟨_, rfl⟩
            rw [← ho15] at ko15_v2 ⊢
            clear ho15
            generalize v1.alloc (.cells #[.int .i64 0, .int .i64 0, .int .i64 0, .slice none 0 0, .int .i64 0, .pointer none, .int .i64 0, .bool false] 45) = v2 at hbx ko15_v2 ⊢
            have hS_v2 : Below w5.heap.size w5 v2 := hS_v1.trans (hbx.mono hS_v1.size)
            have ko14_v2 := (hbx.block _ (Array.getElem?_eq_some_iff.1 ko14_v1).1).trans ko14_v1
            clear hbx
            refine hK.out _ _ (by assumption) ?_
            clear hK K
            (try simp only [Act.put, List.setIfInBounds_toArray, List.set_cons_zero, List.set_cons_succ])
            refine takeS_alone 6 rfl (by kernel_rfl) (by rfl) (fun K hK => ?_)
            · go_simp
              refine (rtick_gone p d.n v2 (HGN.out v2 hS_v2)).mono ?_
              rintro e v3 ⟨rfl, hbx⟩
              have hS_v3 : Below w5.heap.size w5 v3 := hS_v2.trans (hbx.mono hS_v2.size)
              have ko14_v3 := (hbx.block _ (Array.getElem?_eq_some_iff.1 ko14_v2).1).trans ko14_v2
              have ko15_v3 := (hbx.block _ (Array.getElem?_eq_some_iff.1 ko15_v2).1).trans ko15_v2
              clear hbx
              refine hK.out _ _ (by assumption) ?_
              clear hK K
              (try simp only [Act.put, List.setIfInBounds_toArray, List.set_cons_zero, List.set_cons_succ])
              refine takeS_alone 13 rfl (by kernel_rfl) (by rfl) (fun K hK => ?_)
              · go_simp
                refine (rletter_gone p d.lk d.fr d.tgt d.tm d.ix d.was d.cm d.rd d.ok d.eo d.vo d.io d.ents.length d.ec d.vn d.vc d.im d.ic v3 (HGN.out v3 hS_v3)).mono ?_
                rintro e v4 ⟨rfl, hbx⟩
                have hS_v4 : Below w5.heap.size w5 v4 := hS_v3.trans (hbx.mono hS_v3.size)
                have ko14_v4 := (hbx.block _ (Array.getElem?_eq_some_iff.1 ko14_v3).1).trans ko14_v3
                have ko15_v4 := (hbx.block _ (Array.getElem?_eq_some_iff.1 ko15_v3).1).trans ko15_v3
                clear hbx
                refine hK.out _ _ (by assumption) ?_
                clear hK K
                (try simp only [Act.put, List.setIfInBounds_toArray, List.set_cons_zero, List.set_cons_succ])
                first | exact hC o14 o15 v4 ⟨by assumption, ko14_v4, ko15_v4⟩ | exact wpAnyH_listed (by kernel_rfl) (hC o14 o15 v4 ⟨by assumption, ko14_v4, ko15_v4⟩)
        · go_simp
          have hbx := (Below.refl v0.heap.size v0).alloc (Nat.le_refl _) (.cells #[.int .i64 0, .int .i64 0, .int .i64 0, .slice none 0 0, .int .i64 0, .pointer none, .int .i64 0, .bool false] 45)
          have ko15_v1 := heap_alloc_new v0 (.cells #[.int .i64 0, .int .i64 0, .int .i64 0, .slice none 0 0, .int .i64 0, .pointer none, .int .i64 0, .bool false] 45)
          obtain ⟨o15, ho15⟩ : ∃ o, o = v0.heap.size := ⟨_, rfl⟩
          rw [← ho15] at ko15_v1 ⊢
          clear ho15
          generalize v0.alloc (.cells #[.int .i64 0, .int .i64 0, .int .i64 0, .slice none 0 0, .int .i64 0, .pointer none, .int .i64 0, .bool false] 45) = v1 at hbx ko15_v1 ⊢
          have hS_v1 : Below w5.heap.size w5 v1 := hS_v0.trans (hbx.mono hS_v0.size)
          clear hbx
          refine hK.out _ _ (by assumption) ?_
          clear hK K
          (try simp only [Act.put, List.setIfInBounds_toArray, List.set_cons_zero, List.set_cons_succ])
          refine takeS_two 6 14 rfl rfl (by kernel_rfl) (by rfl) (by rfl) (fun K hK => ?_) (fun K hK => ?_)
          · go_simp
            refine (rtick_gone p d.n v1 (HGN.out v1 hS_v1)).mono ?_
            rintro e v2 ⟨rfl, hbx⟩
            have hS_v2 : Below w5.heap.size w5 v2 := hS_v1.trans (hbx.mono hS_v1.size)
            have ko15_v2 := (hbx.block _ (Array.getElem?_eq_some_iff.1 ko15_v1).1).trans ko15_v1
            clear hbx
            refine hK.out _ _ (by assumption) ?_
            clear hK K
            (try simp only [Act.put, List.setIfInBounds_toArray, List.set_cons_zero, List.set_cons_succ])
            refine takeS_two 13 14 rfl rfl (by kernel_rfl) (by rfl) (by rfl) (fun K hK => ?_) (fun K hK => ?_)
            · go_simp
              refine (rletter_gone p d.lk d.fr d.tgt d.tm d.ix d.was d.cm d.rd d.ok d.eo d.vo d.io d.ents.length d.ec d.vn d.vc d.im d.ic v2 (HGN.out v2 hS_v2)).mono ?_
              rintro e v3 ⟨rfl, hbx⟩
              have hS_v3 : Below w5.heap.size w5 v3 := hS_v2.trans (hbx.mono hS_v2.size)
              have ko15_v3 := (hbx.block _ (Array.getElem?_eq_some_iff.1 ko15_v2).1).trans ko15_v2
              clear hbx
              refine hK.out _ _ (by assumption) ?_
              clear hK K
              (try simp only [Act.put, List.setIfInBounds_toArray, List.set_cons_zero, List.set_cons_succ])
              refine takeS_alone 14 rfl (by kernel_rfl) (by rfl) (fun K hK => ?_)
              · go_simp
                have hbx := (Below.refl v3.heap.size v3).alloc (Nat.le_refl _) (.cells #[.int .i64 0, .int .i64 0, .int .i64 0, .slice none 0 0, .int .i64 0, .pointer none, .int .i64 0, .bool false] 45)
                have ko14_v4 := heap_alloc_new v3 (.cells #[.int .i64 0, .int .i64 0, .int .i64 0, .slice none 0 0, .int .i64 0, .pointer none, .int .i64 0, .bool false] 45)
                obtain ⟨o14, ho14⟩ : ∃ o, o = v3.heap.size := ⟨_, rfl⟩
                rw [← ho14] at ko14_v4 ⊢
                clear ho14
                generalize v3.alloc (.cells #[.int .i64 0, .int .i64 0, .int .i64 0, .slice none 0 0, .int .i64 0, .pointer none, .int .i64 0, .bool false] 45) = v4 at hbx ko14_v4 ⊢
                have hS_v4 : Below w5.heap.size w5 v4 := hS_v3.trans (hbx.mono hS_v3.size)
                have ko15_v4 := (hbx.block _ (Array.getElem?_eq_some_iff.1 ko15_v3).1).trans ko15_v3
                clear hbx
                refine hK.out _ _ (by assumption) ?_
                clear hK K
                (try simp only [Act.put, List.setIfInBounds_toArray, List.set_cons_zero, List.set_cons_succ])
                first | exact hC o14 o15 v4 ⟨by assumption, ko14_v4, ko15_v4⟩ | exact wpAnyH_listed (by kernel_rfl) (hC o14 o15 v4 ⟨by assumption, ko14_v4, ko15_v4⟩)
            · go_simp
              have hbx := (Below.refl v2.heap.size v2).alloc (Nat.le_refl _) (.cells #[.int .i64 0, .int .i64 0, .int .i64 0, .slice none 0 0, .int .i64 0, .pointer none, .int .i64 0, .bool false] 45)
              have ko14_v3 := heap_alloc_new v2 (.cells #[.int .i64 0, .int .i64 0, .int .i64 0, .slice none 0 0, .int .i64 0, .pointer none, .int .i64 0, .bool false] 45)
              obtain ⟨o14, ho14⟩ : ∃ o, o = v2.heap.size := ⟨_, rfl⟩
              rw [← ho14] at ko14_v3 ⊢
              clear ho14
              generalize v2.alloc (.cells #[.int .i64 0, .int .i64 0, .int .i64 0, .slice none 0 0, .int .i64 0, .pointer none, .int .i64 0, .bool false] 45) = v3 at hbx ko14_v3 ⊢
              have hS_v3 : Below w5.heap.size w5 v3 := hS_v2.trans (hbx.mono hS_v2.size)
              have ko15_v3 := (hbx.block _ (Array.getElem?_eq_some_iff.1 ko15_v2).1).trans ko15_v2
              clear hbx
              refine hK.out _ _ (by assumption) ?_
              clear hK K
              (try simp only [Act.put, List.setIfInBounds_toArray, List.set_cons_zero, List.set_cons_succ])
              refine takeS_alone 13 rfl (by kernel_rfl) (by rfl) (fun K hK => ?_)
              · go_simp
                refine (rletter_gone p d.lk d.fr d.tgt d.tm d.ix d.was d.cm d.rd d.ok d.eo d.vo d.io d.ents.length d.ec d.vn d.vc d.im d.ic v3 (HGN.out v3 hS_v3)).mono ?_
                rintro e v4 ⟨rfl, hbx⟩
                have hS_v4 : Below w5.heap.size w5 v4 := hS_v3.trans (hbx.mono hS_v3.size)
                have ko15_v4 := (hbx.block _ (Array.getElem?_eq_some_iff.1 ko15_v3).1).trans ko15_v3
                have ko14_v4 := (hbx.block _ (Array.getElem?_eq_some_iff.1 ko14_v3).1).trans ko14_v3
                clear hbx
                refine hK.out _ _ (by assumption) ?_
                clear hK K
                (try simp only [Act.put, List.setIfInBounds_toArray, List.set_cons_zero, List.set_cons_succ])
                first | exact hC o14 o15 v4 ⟨by assumption, ko14_v4, ko15_v4⟩ | exact wpAnyH_listed (by kernel_rfl) (hC o14 o15 v4 ⟨by assumption, ko14_v4, ko15_v4⟩)
          · go_simp
            have hbx := (Below.refl v1.heap.size v1).alloc (Nat.le_refl _) (.cells #[.int .i64 0, .int .i64 0, .int .i64 0, .slice none 0 0, .int .i64 0, .pointer none, .int .i64 0, .bool false] 45)
            have ko14_v2 := heap_alloc_new v1 (.cells #[.int .i64 0, .int .i64 0, .int .i64 0, .slice none 0 0, .int .i64 0, .pointer none, .int .i64 0, .bool false] 45)
            obtain ⟨o14, ho14⟩ : ∃ o, o = v1.heap.size := ⟨_, rfl⟩
            rw [← ho14] at ko14_v2 ⊢
            clear ho14
            generalize v1.alloc (.cells #[.int .i64 0, .int .i64 0, .int .i64 0, .slice none 0 0, .int .i64 0, .pointer none, .int .i64 0, .bool false] 45) = v2 at hbx ko14_v2 ⊢
            have hS_v2 : Below w5.heap.size w5 v2 := hS_v1.trans (hbx.mono hS_v1.size)
            have ko15_v2 := (hbx.block _ (Array.getElem?_eq_some_iff.1 ko15_v1).1).trans ko15_v1
            clear hbx
            refine hK.out _ _ (by assumption) ?_
            clear hK K
            (try simp only [Act.put, List.setIfInBounds_toArray, List.set_cons_zero, List.set_cons_succ])
            refine takeS_alone 6 rfl (by kernel_rfl) (by rfl) (fun K hK => ?_)
            · go_simp
              refine (rtick_gone p d.n v2 (HGN.out v2 hS_v2)).mono ?_
              rintro e v3 ⟨rfl, hbx⟩
              have hS_v3 : Below w5.heap.size w5 v3 := hS_v2.trans (hbx.mono hS_v2.size)
              have ko15_v3 := (hbx.block _ (Array.getElem?_eq_some_iff.1 ko15_v2).1).trans ko15_v2
              have ko14_v3 := (hbx.block _ (Array.getElem?_eq_some_iff.1 ko14_v2).1).trans ko14_v2
              clear hbx
              refine hK.out _ _ (by assumption) ?_
              clear hK K
              (try simp only [Act.put, List.setIfInBounds_toArray, List.set_cons_zero, List.set_cons_succ])
              refine takeS_alone 13 rfl (by kernel_rfl) (by rfl) (fun K hK => ?_)
              · go_simp
                refine (rletter_gone p d.lk d.fr d.tgt d.tm d.ix d.was d.cm d.rd d.ok d.eo d.vo d.io d.ents.length d.ec d.vn d.vc d.im d.ic v3 (HGN.out v3 hS_v3)).mono ?_
                rintro e v4 ⟨rfl, hbx⟩
                have hS_v4 : Below w5.heap.size w5 v4 := hS_v3.trans (hbx.mono hS_v3.size)
                have ko15_v4 := (hbx.block _ (Array.getElem?_eq_some_iff.1 ko15_v3).1).trans ko15_v3
                have ko14_v4 := (hbx.block _ (Array.getElem?_eq_some_iff.1 ko14_v3).1).trans ko14_v3
                clear hbx
                refine hK.out _ _ (by assumption) ?_
                clear hK K
                (try simp only [Act.put, List.setIfInBounds_toArray, List.set_cons_zero, List.set_cons_succ])
                first | exact hC o14 o15 v4 ⟨by assumption, ko14_v4, ko15_v4⟩ | exact wpAnyH_listed (by kernel_rfl) (hC o14 o15 v4 ⟨by assumption, ko14_v4, ko15_v4⟩)
      intro o11 o12 wz hF
      obtain ⟨hS_z, k11z, k12z⟩ := hF
      refine takeS_alone 16 rfl (by kernel_rfl) (by rfl) (fun K hK => ?_)
      skip
      (refine wp_store_row 45 (.tmp 11) (.tmp 51) rfl o11 #[.int .i64 0, .int .i64 0, .int .i64 0, .slice none 0 0, .int .i64 0, .pointer none, .int .i64 0, .bool false] rfl rfl 45 _ k11z info_out rfl oz_one ?_; rw [setRow_sameL k11z])
      refine hK.out _ _ (by assumption) ?_
      clear hK K
      (try simp only [Act.put, List.setIfInBounds_toArray, List.set_cons_zero, List.set_cons_succ])
      refine takeS_alone 17 rfl (by kernel_rfl) (by rfl) (fun K hK => ?_)
      skip
      (refine wp_store_row 45 (.tmp 12) (.tmp 58) rfl o12 #[.int .i64 0, .int .i64 0, .int .i64 0, .slice none 0 0, .int .i64 0, .pointer none, .int .i64 0, .bool false] rfl rfl 45 _ k12z info_out rfl oz_one ?_; rw [setRow_sameL k12z])
      refine hK.out _ _ (by assumption) ?_
      clear hK K
      (try simp only [Act.put, List.setIfInBounds_toArray, List.set_cons_zero, List.set_cons_succ])
      refine wpAnyH_done (by kernel_rfl) ?_ _
      (try simp only [Exit.then])
      (try (rename (∀ (_ : Act) (_ : World), _ → _) => hK0; refine hK0 _ _ ?_; clear hK0))
      have hN0 : NS w5 o11 o12 wz := ⟨hS_z, k11z, k12z⟩
      clear hS_z k11z k12z HC HZ10
      go_upto_region 12 with fail
      have hS_n : NS w5 o11 o12 wz.drew := hN0.below (Below.refl wz.heap.size wz).drew
      have HC := Lib.hid (fun (wS : World) (hb : NS w5 o11 o12 wS) => And.intro (HCE.out wS hb.1) (And.intro (HDA.out wS hb.1).sn (And.intro hb.2.1.cells hb.2.2.cells)))
      clear hN0
      refine heldS_begin (fun w' => NS w5 o11 o12 w') (by kernel_rfl) (hS_n) ?_
      intro hS0
      (first | (refine takeS_no 0 rfl (by kernel_rfl) (by kernel_rfl) (by kernel_rfl) (fun _ _ _ h => h) (by rfl) (by assumption) ?_) | (refine takeS_yes (v := ?_) 0 rfl (by kernel_rfl) (by kernel_rfl) (by kernel_rfl) (fun _ _ _ h => h) (by rfl) (by assumption) ?_ ?_; rotate_left; focus (intro wS hSw; obtain ⟨q0, ⟨s0, s1, s2, s3⟩, ⟨x0, x1, x2, x3, x4, x5, x6, x7⟩, ⟨y0, y1, y2, y3, y4, y5, y6, y7⟩⟩ := HC.out wS hSw; go_simp; first | done | with_reducible rfl)))
      (try simp only [Act.put, List.setIfInBounds_toArray, List.set_cons_zero, List.set_cons_succ])
      (first | (refine takeS_no 1 rfl (by kernel_rfl) (by kernel_rfl) (by kernel_rfl) (fun _ _ _ h => h) (by rfl) (by assumption) ?_) | (refine takeS_yes (v := ?_) 1 rfl (by kernel_rfl) (by kernel_rfl) (by kernel_rfl) (fun _ _ _ h => h) (by rfl) (by assumption) ?_ ?_; rotate_left; focus (intro wS hSw; obtain ⟨q0, ⟨s0, s1, s2, s3⟩, ⟨x0, x1, x2, x3, x4, x5, x6, x7⟩, ⟨y0, y1, y2, y3, y4, y5, y6, y7⟩⟩ := HC.out wS hSw; go_simp; first | done | with_reducible rfl)))
      (try simp only [Act.put, List.setIfInBounds_toArray, List.set_cons_zero, List.set_cons_succ])
      (first | (refine takeS_no 2 rfl (by kernel_rfl) (by kernel_rfl) (by kernel_rfl) (fun _ _ _ h => h) (by rfl) (by assumption) ?_) | (refine takeS_yes (v := ?_) 2 rfl (by kernel_rfl) (by kernel_rfl) (by kernel_rfl) (fun _ _ _ h => h) (by rfl) (by assumption) ?_ ?_; rotate_left; focus (intro wS hSw; obtain ⟨q0, ⟨s0, s1, s2, s3⟩, ⟨x0, x1, x2, x3, x4, x5, x6, x7⟩, ⟨y0, y1, y2, y3, y4, y5, y6, y7⟩⟩ := HC.out wS hSw; go_simp; first | done | with_reducible rfl)))
      (try simp only [Act.put, List.setIfInBounds_toArray, List.set_cons_zero, List.set_cons_succ])
      (first | (refine takeS_no 3 rfl (by kernel_rfl) (by kernel_rfl) (by kernel_rfl) (fun _ _ _ h => h) (by rfl) (by assumption) ?_) | (refine takeS_yes (v := ?_) 3 rfl (by kernel_rfl) (by kernel_rfl) (by kernel_rfl) (fun _ _ _ h => h) (by rfl) (by assumption) ?_ ?_; rotate_left; focus (intro wS hSw; obtain ⟨q0, ⟨s0, s1, s2, s3⟩, ⟨x0, x1, x2, x3, x4, x5, x6, x7⟩, ⟨y0, y1, y2, y3, y4, y5, y6, y7⟩⟩ := HC.out wS hSw; go_simp; first | done | with_reducible rfl)))
      (try simp only [Act.put, List.setIfInBounds_toArray, List.set_cons_zero, List.set_cons_succ])
      (first | (refine takeS_no 4 rfl (by kernel_rfl) (by kernel_rfl) (by kernel_rfl) (fun _ _ _ h => h) (by rfl) (by assumption) ?_) | (refine takeS_yes (v := ?_) 4 rfl (by kernel_rfl) (by kernel_rfl) (by kernel_rfl) (fun _ _ _ h => h) (by rfl) (by assumption) ?_ ?_; rotate_left; focus (intro wS hSw; obtain ⟨q0, ⟨s0, s1, s2, s3⟩, ⟨x0, x1, x2, x3, x4, x5, x6, x7⟩, ⟨y0, y1, y2, y3, y4, y5, y6, y7⟩⟩ := HC.out wS hSw; go_simp; first | done | with_reducible rfl)))
      (try simp only [Act.put, List.setIfInBounds_toArray, List.set_cons_zero, List.set_cons_succ])
      (first | (refine takeS_no 5 rfl (by kernel_rfl) (by kernel_rfl) (by kernel_rfl) (fun _ _ _ h => h) (by rfl) (by assumption) ?_) | (refine takeS_yes (v := ?_) 5 rfl (by kernel_rfl) (by kernel_rfl) (by kernel_rfl) (fun _ _ _ h => h) (by rfl) (by assumption) ?_ ?_; rotate_left; focus (intro wS hSw; obtain ⟨q0, ⟨s0, s1, s2, s3⟩, ⟨x0, x1, x2, x3, x4, x5, x6, x7⟩, ⟨y0, y1, y2, y3, y4, y5, y6, y7⟩⟩ := HC.out wS hSw; go_simp; first | done | with_reducible rfl)))
      (try simp only [Act.put, List.setIfInBounds_toArray, List.set_cons_zero, List.set_cons_succ])
      (first | (refine takeS_no 6 rfl (by kernel_rfl) (by kernel_rfl) (by kernel_rfl) (fun _ _ _ h => h) (by rfl) (by assumption) ?_) | (refine takeS_yes (v := ?_) 6 rfl (by kernel_rfl) (by kernel_rfl) (by kernel_rfl) (fun _ _ _ h => h) (by rfl) (by assumption) ?_ ?_; rotate_left; focus (intro wS hSw; obtain ⟨q0, ⟨s0, s1, s2, s3⟩, ⟨x0, x1, x2, x3, x4, x5, x6, x7⟩, ⟨y0, y1, y2, y3, y4, y5, y6, y7⟩⟩ := HC.out wS hSw; go_simp; first | done | with_reducible rfl)))
      (try simp only [Act.put, List.setIfInBounds_toArray, List.set_cons_zero, List.set_cons_succ])
      (first | (refine takeS_no 7 rfl (by kernel_rfl) (by kernel_rfl) (by kernel_rfl) (fun _ _ _ h => h) (by rfl) (by assumption) ?_) | (refine takeS_yes (v := ?_) 7 rfl (by kernel_rfl) (by kernel_rfl) (by kernel_rfl) (fun _ _ _ h => h) (by rfl) (by assumption) ?_ ?_; rotate_left; focus (intro wS hSw; obtain ⟨q0, ⟨s0, s1, s2, s3⟩, ⟨x0, x1, x2, x3, x4, x5, x6, x7⟩, ⟨y0, y1, y2, y3, y4, y5, y6, y7⟩⟩ := HC.out wS hSw; go_simp; first | done | with_reducible rfl)))
      (try simp only [Act.put, List.setIfInBounds_toArray, List.set_cons_zero, List.set_cons_succ])
      (first | (refine takeS_no 8 rfl (by kernel_rfl) (by kernel_rfl) (by kernel_rfl) (fun _ _ _ h => h) (by rfl) (by assumption) ?_) | (refine takeS_yes (v := ?_) 8 rfl (by kernel_rfl) (by kernel_rfl) (by kernel_rfl) (fun _ _ _ h => h) (by rfl) (by assumption) ?_ ?_; rotate_left; focus (intro wS hSw; obtain ⟨q0, ⟨s0, s1, s2, s3⟩, ⟨x0, x1, x2, x3, x4, x5, x6, x7⟩, ⟨y0, y1, y2, y3, y4, y5, y6, y7⟩⟩ := HC.out wS hSw; go_simp; first | done | with_reducible rfl)))
      (try simp only [Act.put, List.setIfInBounds_toArray, List.set_cons_zero, List.set_cons_succ])
      (first | (refine takeS_no 9 rfl (by kernel_rfl) (by kernel_rfl) (by kernel_rfl) (fun _ _ _ h => h) (by rfl) (by assumption) ?_) | (refine takeS_yes (v := ?_) 9 rfl (by kernel_rfl) (by kernel_rfl) (by kernel_rfl) (fun _ _ _ h => h) (by rfl) (by assumption) ?_ ?_; rotate_left; focus (intro wS hSw; obtain ⟨q0, ⟨s0, s1, s2, s3⟩, ⟨x0, x1, x2, x3, x4, x5, x6, x7⟩, ⟨y0, y1, y2, y3, y4, y5, y6, y7⟩⟩ := HC.out wS hSw; go_simp; first | done | with_reducible rfl)))
      (try simp only [Act.put, List.setIfInBounds_toArray, List.set_cons_zero, List.set_cons_succ])
      (first | (refine takeS_no 10 rfl (by kernel_rfl) (by kernel_rfl) (by kernel_rfl) (fun _ _ _ h => h) (by rfl) (by assumption) ?_) | (refine takeS_yes (v := ?_) 10 rfl (by kernel_rfl) (by kernel_rfl) (by kernel_rfl) (fun _ _ _ h => h) (by rfl) (by assumption) ?_ ?_; rotate_left; focus (intro wS hSw; obtain ⟨q0, ⟨s0, s1, s2, s3⟩, ⟨x0, x1, x2, x3, x4, x5, x6, x7⟩, ⟨y0, y1, y2, y3, y4, y5, y6, y7⟩⟩ := HC.out wS hSw; go_simp; first | done | with_reducible rfl)))
      (try simp only [Act.put, List.setIfInBounds_toArray, List.set_cons_zero, List.set_cons_succ])
      (first | (refine takeS_no 11 rfl (by kernel_rfl) (by kernel_rfl) (by kernel_rfl) (fun _ _ _ h => h) (by rfl) (by assumption) ?_) | (refine takeS_yes (v := ?_) 11 rfl (by kernel_rfl) (by kernel_rfl) (by kernel_rfl) (fun _ _ _ h => h) (by rfl) (by assumption) ?_ ?_; rotate_left; focus (intro wS hSw; obtain ⟨q0, ⟨s0, s1, s2, s3⟩, ⟨x0, x1, x2, x3, x4, x5, x6, x7⟩, ⟨y0, y1, y2, y3, y4, y5, y6, y7⟩⟩ := HC.out wS hSw; go_simp; first | done | with_reducible rfl)))
      (try simp only [Act.put, List.setIfInBounds_toArray, List.set_cons_zero, List.set_cons_succ])
      (first | (refine takeS_no 12 rfl (by kernel_rfl) (by kernel_rfl) (by kernel_rfl) (fun _ _ _ h => h) (by rfl) (by assumption) ?_) | (refine takeS_yes (v := ?_) 12 rfl (by kernel_rfl) (by kernel_rfl) (by kernel_rfl) (fun _ _ _ h => h) (by rfl) (by assumption) ?_ ?_; rotate_left; focus (intro wS hSw; obtain ⟨q0, ⟨s0, s1, s2, s3⟩, ⟨x0, x1, x2, x3, x4, x5, x6, x7⟩, ⟨y0, y1, y2, y3, y4, y5, y6, y7⟩⟩ := HC.out wS hSw; go_simp; first | done | with_reducible rfl)))
      (try simp only [Act.put, List.setIfInBounds_toArray, List.set_cons_zero, List.set_cons_succ])
      refine takeS_alone 13 rfl (by kernel_rfl) (by rfl) (fun K hK => ?_)
      go_simp
      (refine (rkeep_gone p d.si d.st d.so d.sio d.sn d.sc d.sm d.sic wz.drew (HGN.out _ hS_n.1)).mono ?_; rintro e va ⟨rfl, hbx⟩; have hS_a := hS_n.below hbx; clear hbx)
      refine hK.out _ _ (by assumption) ?_
      clear hK K
      (try simp only [Act.put, List.setIfInBounds_toArray, List.set_cons_zero, List.set_cons_succ])
      (first | (refine takeS_no 14 rfl (by kernel_rfl) (by kernel_rfl) (by kernel_rfl) (fun _ _ _ h => h) (by rfl) (by assumption) ?_) | (refine takeS_yes (v := ?_) 14 rfl (by kernel_rfl) (by kernel_rfl) (by kernel_rfl) (fun _ _ _ h => h) (by rfl) (by assumption) ?_ ?_; rotate_left; focus (intro wS hSw; obtain ⟨q0, ⟨s0, s1, s2, s3⟩, ⟨x0, x1, x2, x3, x4, x5, x6, x7⟩, ⟨y0, y1, y2, y3, y4, y5, y6, y7⟩⟩ := HC.out wS hSw; go_simp; first | done | with_reducible rfl)))
      (try simp only [Act.put, List.setIfInBounds_toArray, List.set_cons_zero, List.set_cons_succ])
      (first | (refine takeS_no 15 rfl (by kernel_rfl) (by kernel_rfl) (by kernel_rfl) (fun _ _ _ h => h) (by rfl) (by assumption) ?_) | (refine takeS_yes (v := ?_) 15 rfl (by kernel_rfl) (by kernel_rfl) (by kernel_rfl) (fun _ _ _ h => h) (by rfl) (by assumption) ?_ ?_; rotate_left; focus (intro wS hSw; obtain ⟨q0, ⟨s0, s1, s2, s3⟩, ⟨x0, x1, x2, x3, x4, x5, x6, x7⟩, ⟨y0, y1, y2, y3, y4, y5, y6, y7⟩⟩ := HC.out wS hSw; go_simp; first | done | with_reducible rfl)))
      (try simp only [Act.put, List.setIfInBounds_toArray, List.set_cons_zero, List.set_cons_succ])
      (first | (refine takeS_no 16 rfl (by kernel_rfl) (by kernel_rfl) (by kernel_rfl) (fun _ _ _ h => h) (by rfl) (by assumption) ?_) | (refine takeS_yes (v := ?_) 16 rfl (by kernel_rfl) (by kernel_rfl) (by kernel_rfl) (fun _ _ _ h => h) (by rfl) (by assumption) ?_ ?_; rotate_left; focus (intro wS hSw; obtain ⟨q0, ⟨s0, s1, s2, s3⟩, ⟨x0, x1, x2, x3, x4, x5, x6, x7⟩, ⟨y0, y1, y2, y3, y4, y5, y6, y7⟩⟩ := HC.out wS hSw; go_simp; first | done | with_reducible rfl)))
      (try simp only [Act.put, List.setIfInBounds_toArray, List.set_cons_zero, List.set_cons_succ])
      (first | (refine takeS_no 17 rfl (by kernel_rfl) (by kernel_rfl) (by kernel_rfl) (fun _ _ _ h => h) (by rfl) (by assumption) ?_) | (refine takeS_yes (v := ?_) 17 rfl (by kernel_rfl) (by kernel_rfl) (by kernel_rfl) (fun _ _ _ h => h) (by rfl) (by assumption) ?_ ?_; rotate_left; focus (intro wS hSw; obtain ⟨q0, ⟨s0, s1, s2, s3⟩, ⟨x0, x1, x2, x3, x4, x5, x6, x7⟩, ⟨y0, y1, y2, y3, y4, y5, y6, y7⟩⟩ := HC.out wS hSw; go_simp; first | done | with_reducible rfl)))
      (try simp only [Act.put, List.setIfInBounds_toArray, List.set_cons_zero, List.set_cons_succ])
      (first | (refine takeS_no 18 rfl (by kernel_rfl) (by kernel_rfl) (by kernel_rfl) (fun _ _ _ h => h) (by rfl) (by assumption) ?_) | (refine takeS_yes (v := ?_) 18 rfl (by kernel_rfl) (by kernel_rfl) (by kernel_rfl) (fun _ _ _ h => h) (by rfl) (by assumption) ?_ ?_; rotate_left; focus (intro wS hSw; obtain ⟨q0, ⟨s0, s1, s2, s3⟩, ⟨x0, x1, x2, x3, x4, x5, x6, x7⟩, ⟨y0, y1, y2, y3, y4, y5, y6, y7⟩⟩ := HC.out wS hSw; go_simp; first | done | with_reducible rfl)))
      (try simp only [Act.put, List.setIfInBounds_toArray, List.set_cons_zero, List.set_cons_succ])
      refine takeS_alone 19 rfl (by kernel_rfl) (by rfl) (fun K hK => ?_)
      go_simp
      (refine (sameOut_zero va).mono ?_; rintro e vb ⟨rfl, hbx⟩; have hS_b := hS_a.below hbx; clear hbx)
      refine hK.out _ _ (by assumption) ?_
      clear hK K
      (try simp only [Act.put, List.setIfInBounds_toArray, List.set_cons_zero, List.set_cons_succ])
      (first | (refine takeS_no 20 rfl (by kernel_rfl) (by kernel_rfl) (by kernel_rfl) (fun _ _ _ h => h) (by rfl) (by assumption) ?_) | (refine takeS_yes (v := ?_) 20 rfl (by kernel_rfl) (by kernel_rfl) (by kernel_rfl) (fun _ _ _ h => h) (by rfl) (by assumption) ?_ ?_; rotate_left; focus (intro wS hSw; obtain ⟨q0, ⟨s0, s1, s2, s3⟩, ⟨x0, x1, x2, x3, x4, x5, x6, x7⟩, ⟨y0, y1, y2, y3, y4, y5, y6, y7⟩⟩ := HC.out wS hSw; go_simp; first | done | with_reducible rfl)))
      (try simp only [Act.put, List.setIfInBounds_toArray, List.set_cons_zero, List.set_cons_succ])
      (first | (refine takeS_no 21 rfl (by kernel_rfl) (by kernel_rfl) (by kernel_rfl) (fun _ _ _ h => h) (by rfl) (by assumption) ?_) | (refine takeS_yes (v := ?_) 21 rfl (by kernel_rfl) (by kernel_rfl) (by kernel_rfl) (fun _ _ _ h => h) (by rfl) (by assumption) ?_ ?_; rotate_left; focus (intro wS hSw; obtain ⟨q0, ⟨s0, s1, s2, s3⟩, ⟨x0, x1, x2, x3, x4, x5, x6, x7⟩, ⟨y0, y1, y2, y3, y4, y5, y6, y7⟩⟩ := HC.out wS hSw; go_simp; first | done | with_reducible rfl)))
      (try simp only [Act.put, List.setIfInBounds_toArray, List.set_cons_zero, List.set_cons_succ])
      (first | (refine takeS_no 22 rfl (by kernel_rfl) (by kernel_rfl) (by kernel_rfl) (fun _ _ _ h => h) (by rfl) (by assumption) ?_) | (refine takeS_yes (v := ?_) 22 rfl (by kernel_rfl) (by kernel_rfl) (by kernel_rfl) (fun _ _ _ h => h) (by rfl) (by assumption) ?_ ?_; rotate_left; focus (intro wS hSw; obtain ⟨q0, ⟨s0, s1, s2, s3⟩, ⟨x0, x1, x2, x3, x4, x5, x6, x7⟩, ⟨y0, y1, y2, y3, y4, y5, y6, y7⟩⟩ := HC.out wS hSw; go_simp; first | done | with_reducible rfl)))
      (try simp only [Act.put, List.setIfInBounds_toArray, List.set_cons_zero, List.set_cons_succ])
      (first | (refine takeS_no 23 rfl (by kernel_rfl) (by kernel_rfl) (by kernel_rfl) (fun _ _ _ h => h) (by rfl) (by assumption) ?_) | (refine takeS_yes (v := ?_) 23 rfl (by kernel_rfl) (by kernel_rfl) (by kernel_rfl) (fun _ _ _ h => h) (by rfl) (by assumption) ?_ ?_; rotate_left; focus (intro wS hSw; obtain ⟨q0, ⟨s0, s1, s2, s3⟩, ⟨x0, x1, x2, x3, x4, x5, x6, x7⟩, ⟨y0, y1, y2, y3, y4, y5, y6, y7⟩⟩ := HC.out wS hSw; go_simp; first | done | with_reducible rfl)))
      (try simp only [Act.put, List.setIfInBounds_toArray, List.set_cons_zero, List.set_cons_succ])
      (first | (refine takeS_no 24 rfl (by kernel_rfl) (by kernel_rfl) (by kernel_rfl) (fun _ _ _ h => h) (by rfl) (by assumption) ?_) | (refine takeS_yes (v := ?_) 24 rfl (by kernel_rfl) (by kernel_rfl) (by kernel_rfl) (fun _ _ _ h => h) (by rfl) (by assumption) ?_ ?_; rotate_left; focus (intro wS hSw; obtain ⟨q0, ⟨s0, s1, s2, s3⟩, ⟨x0, x1, x2, x3, x4, x5, x6, x7⟩, ⟨y0, y1, y2, y3, y4, y5, y6, y7⟩⟩ := HC.out wS hSw; go_simp; first | done | with_reducible rfl)))
      (try simp only [Act.put, List.setIfInBounds_toArray, List.set_cons_zero, List.set_cons_succ])
      refine takeS_alone 25 rfl (by kernel_rfl) (by rfl) (fun K hK => ?_)
      go_simp
      (refine (sameOut_zero vb).mono ?_; rintro e vc ⟨rfl, hbx⟩; have hS_c := hS_b.below hbx; clear hbx)
      refine hK.out _ _ (by assumption) ?_
      clear hK K
      (try simp only [Act.put, List.setIfInBounds_toArray, List.set_cons_zero, List.set_cons_succ])
      (first | (refine takeS_no 26 rfl (by kernel_rfl) (by kernel_rfl) (by kernel_rfl) (fun _ _ _ h => h) (by rfl) (by assumption) ?_) | (refine takeS_yes (v := ?_) 26 rfl (by kernel_rfl) (by kernel_rfl) (by kernel_rfl) (fun _ _ _ h => h) (by rfl) (by assumption) ?_ ?_; rotate_left; focus (intro wS hSw; obtain ⟨q0, ⟨s0, s1, s2, s3⟩, ⟨x0, x1, x2, x3, x4, x5, x6, x7⟩, ⟨y0, y1, y2, y3, y4, y5, y6, y7⟩⟩ := HC.out wS hSw; go_simp; first | done | with_reducible rfl)))
      (try simp only [Act.put, List.setIfInBounds_toArray, List.set_cons_zero, List.set_cons_succ])
      (first | (refine takeS_no 27 rfl (by kernel_rfl) (by kernel_rfl) (by kernel_rfl) (fun _ _ _ h => h) (by rfl) (by assumption) ?_) | (refine takeS_yes (v := ?_) 27 rfl (by kernel_rfl) (by kernel_rfl) (by kernel_rfl) (fun _ _ _ h => h) (by rfl) (by assumption) ?_ ?_; rotate_left; focus (intro wS hSw; obtain ⟨q0, ⟨s0, s1, s2, s3⟩, ⟨x0, x1, x2, x3, x4, x5, x6, x7⟩, ⟨y0, y1, y2, y3, y4, y5, y6, y7⟩⟩ := HC.out wS hSw; go_simp; first | done | with_reducible rfl)))
      (try simp only [Act.put, List.setIfInBounds_toArray, List.set_cons_zero, List.set_cons_succ])
      (first | (refine takeS_no 28 rfl (by kernel_rfl) (by kernel_rfl) (by kernel_rfl) (fun _ _ _ h => h) (by rfl) (by assumption) ?_) | (refine takeS_yes (v := ?_) 28 rfl (by kernel_rfl) (by kernel_rfl) (by kernel_rfl) (fun _ _ _ h => h) (by rfl) (by assumption) ?_ ?_; rotate_left; focus (intro wS hSw; obtain ⟨q0, ⟨s0, s1, s2, s3⟩, ⟨x0, x1, x2, x3, x4, x5, x6, x7⟩, ⟨y0, y1, y2, y3, y4, y5, y6, y7⟩⟩ := HC.out wS hSw; go_simp; first | done | with_reducible rfl)))
      (try simp only [Act.put, List.setIfInBounds_toArray, List.set_cons_zero, List.set_cons_succ])
      (first | (refine takeS_no 29 rfl (by kernel_rfl) (by kernel_rfl) (by kernel_rfl) (fun _ _ _ h => h) (by rfl) (by assumption) ?_) | (refine takeS_yes (v := ?_) 29 rfl (by kernel_rfl) (by kernel_rfl) (by kernel_rfl) (fun _ _ _ h => h) (by rfl) (by assumption) ?_ ?_; rotate_left; focus (intro wS hSw; obtain ⟨q0, ⟨s0, s1, s2, s3⟩, ⟨x0, x1, x2, x3, x4, x5, x6, x7⟩, ⟨y0, y1, y2, y3, y4, y5, y6, y7⟩⟩ := HC.out wS hSw; go_simp; first | done | with_reducible rfl)))
      (try simp only [Act.put, List.setIfInBounds_toArray, List.set_cons_zero, List.set_cons_succ])
      (first | (refine takeS_no 30 rfl (by kernel_rfl) (by kernel_rfl) (by kernel_rfl) (fun _ _ _ h => h) (by rfl) (by assumption) ?_) | (refine takeS_yes (v := ?_) 30 rfl (by kernel_rfl) (by kernel_rfl) (by kernel_rfl) (fun _ _ _ h => h) (by rfl) (by assumption) ?_ ?_; rotate_left; focus (intro wS hSw; obtain ⟨q0, ⟨s0, s1, s2, s3⟩, ⟨x0, x1, x2, x3, x4, x5, x6, x7⟩, ⟨y0, y1, y2, y3, y4, y5, y6, y7⟩⟩ := HC.out wS hSw; go_simp; first | done | with_reducible rfl)))
      (try simp only [Act.put, List.setIfInBounds_toArray, List.set_cons_zero, List.set_cons_succ])
      (first | (refine takeS_no 31 rfl (by kernel_rfl) (by kernel_rfl) (by kernel_rfl) (fun _ _ _ h => h) (by rfl) (by assumption) ?_) | (refine takeS_yes (v := ?_) 31 rfl (by kernel_rfl) (by kernel_rfl) (by kernel_rfl) (fun _ _ _ h => h) (by rfl) (by assumption) ?_ ?_; rotate_left; focus (intro wS hSw; obtain ⟨q0, ⟨s0, s1, s2, s3⟩, ⟨x0, x1, x2, x3, x4, x5, x6, x7⟩, ⟨y0, y1, y2, y3, y4, y5, y6, y7⟩⟩ := HC.out wS hSw; go_simp; first | done | with_reducible rfl)))
      (try simp only [Act.put, List.setIfInBounds_toArray, List.set_cons_zero, List.set_cons_succ])
      (first | (refine takeS_no 32 rfl (by kernel_rfl) (by kernel_rfl) (by kernel_rfl) (fun _ _ _ h => h) (by rfl) (by assumption) ?_) | (refine takeS_yes (v := ?_) 32 rfl (by kernel_rfl) (by kernel_rfl) (by kernel_rfl) (fun _ _ _ h => h) (by rfl) (by assumption) ?_ ?_; rotate_left; focus (intro wS hSw; obtain ⟨q0, ⟨s0, s1, s2, s3⟩, ⟨x0, x1, x2, x3, x4, x5, x6, x7⟩, ⟨y0, y1, y2, y3, y4, y5, y6, y7⟩⟩ := HC.out wS hSw; go_simp; first | done | with_reducible rfl)))
      (try simp only [Act.put, List.setIfInBounds_toArray, List.set_cons_zero, List.set_cons_succ])
      refine takeS_alone 33 rfl (by kernel_rfl) (by rfl) (fun K hK => ?_)
      go_simp
      (refine (rleads_gone p vc (HGN.out vc hS_c.1)).mono ?_; rintro e w' ⟨rfl, rfl⟩)
      refine hK.out _ _ (by assumption) ?_
      clear hK K
      (try simp only [Act.put, List.setIfInBounds_toArray, List.set_cons_zero, List.set_cons_succ])
      (first | (refine takeS_no 34 rfl (by kernel_rfl) (by kernel_rfl) (by kernel_rfl) (fun _ _ _ h => h) (by rfl) (by assumption) ?_) | (refine takeS_yes (v := ?_) 34 rfl (by kernel_rfl) (by kernel_rfl) (by kernel_rfl) (fun _ _ _ h => h) (by rfl) (by assumption) ?_ ?_; rotate_left; focus (intro wS hSw; obtain ⟨q0, ⟨s0, s1, s2, s3⟩, ⟨x0, x1, x2, x3, x4, x5, x6, x7⟩, ⟨y0, y1, y2, y3, y4, y5, y6, y7⟩⟩ := HC.out wS hSw; go_simp; first | done | with_reducible rfl)))
      (try simp only [Act.put, List.setIfInBounds_toArray, List.set_cons_zero, List.set_cons_succ])
      (first | (refine takeS_no 35 rfl (by kernel_rfl) (by kernel_rfl) (by kernel_rfl) (fun _ _ _ h => h) (by rfl) (by assumption) ?_) | (refine takeS_yes (v := ?_) 35 rfl (by kernel_rfl) (by kernel_rfl) (by kernel_rfl) (fun _ _ _ h => h) (by rfl) (by assumption) ?_ ?_; rotate_left; focus (intro wS hSw; obtain ⟨q0, ⟨s0, s1, s2, s3⟩, ⟨x0, x1, x2, x3, x4, x5, x6, x7⟩, ⟨y0, y1, y2, y3, y4, y5, y6, y7⟩⟩ := HC.out wS hSw; go_simp; first | done | with_reducible rfl)))
      (try simp only [Act.put, List.setIfInBounds_toArray, List.set_cons_zero, List.set_cons_succ])
      (first | (refine takeS_no 36 rfl (by kernel_rfl) (by kernel_rfl) (by kernel_rfl) (fun _ _ _ h => h) (by rfl) (by assumption) ?_) | (refine takeS_yes (v := ?_) 36 rfl (by kernel_rfl) (by kernel_rfl) (by kernel_rfl) (fun _ _ _ h => h) (by rfl) (by assumption) ?_ ?_; rotate_left; focus (intro wS hSw; obtain ⟨q0, ⟨s0, s1, s2, s3⟩, ⟨x0, x1, x2, x3, x4, x5, x6, x7⟩, ⟨y0, y1, y2, y3, y4, y5, y6, y7⟩⟩ := HC.out wS hSw; go_simp; first | done | with_reducible rfl)))
      (try simp only [Act.put, List.setIfInBounds_toArray, List.set_cons_zero, List.set_cons_succ])
      (first | (refine takeS_no 37 rfl (by kernel_rfl) (by kernel_rfl) (by kernel_rfl) (fun _ _ _ h => h) (by rfl) (by assumption) ?_) | (refine takeS_yes (v := ?_) 37 rfl (by kernel_rfl) (by kernel_rfl) (by kernel_rfl) (fun _ _ _ h => h) (by rfl) (by assumption) ?_ ?_; rotate_left; focus (intro wS hSw; obtain ⟨q0, ⟨s0, s1, s2, s3⟩, ⟨x0, x1, x2, x3, x4, x5, x6, x7⟩, ⟨y0, y1, y2, y3, y4, y5, y6, y7⟩⟩ := HC.out wS hSw; go_simp; first | done | with_reducible rfl)))
      (try simp only [Act.put, List.setIfInBounds_toArray, List.set_cons_zero, List.set_cons_succ])
      (first | (refine takeS_no 38 rfl (by kernel_rfl) (by kernel_rfl) (by kernel_rfl) (fun _ _ _ h => h) (by rfl) (by assumption) ?_) | (refine takeS_yes (v := ?_) 38 rfl (by kernel_rfl) (by kernel_rfl) (by kernel_rfl) (fun _ _ _ h => h) (by rfl) (by assumption) ?_ ?_; rotate_left; focus (intro wS hSw; obtain ⟨q0, ⟨s0, s1, s2, s3⟩, ⟨x0, x1, x2, x3, x4, x5, x6, x7⟩, ⟨y0, y1, y2, y3, y4, y5, y6, y7⟩⟩ := HC.out wS hSw; go_simp; first | done | with_reducible rfl)))
      (try simp only [Act.put, List.setIfInBounds_toArray, List.set_cons_zero, List.set_cons_succ])
      (first | (refine takeS_no 39 rfl (by kernel_rfl) (by kernel_rfl) (by kernel_rfl) (fun _ _ _ h => h) (by rfl) (by assumption) ?_) | (refine takeS_yes (v := ?_) 39 rfl (by kernel_rfl) (by kernel_rfl) (by kernel_rfl) (fun _ _ _ h => h) (by rfl) (by assumption) ?_ ?_; rotate_left; focus (intro wS hSw; obtain ⟨q0, ⟨s0, s1, s2, s3⟩, ⟨x0, x1, x2, x3, x4, x5, x6, x7⟩, ⟨y0, y1, y2, y3, y4, y5, y6, y7⟩⟩ := HC.out wS hSw; go_simp; first | done | with_reducible rfl)))
      (try simp only [Act.put, List.setIfInBounds_toArray, List.set_cons_zero, List.set_cons_succ])
      refine takeS_alone 40 rfl (by kernel_rfl) (by rfl) (fun K hK => ?_)
      go_simp
      (refine (rleader_gone p vc (HGN.out vc hS_c.1)).mono ?_; rintro e w' ⟨rfl, rfl⟩)
      refine hK.out _ _ (by assumption) ?_
      clear hK K
      (try simp only [Act.put, List.setIfInBounds_toArray, List.set_cons_zero, List.set_cons_succ])
      (first | (refine takeS_no 41 rfl (by kernel_rfl) (by kernel_rfl) (by kernel_rfl) (fun _ _ _ h => h) (by rfl) (by assumption) ?_) | (refine takeS_yes (v := ?_) 41 rfl (by kernel_rfl) (by kernel_rfl) (by kernel_rfl) (fun _ _ _ h => h) (by rfl) (by assumption) ?_ ?_; rotate_left; focus (intro wS hSw; obtain ⟨q0, ⟨s0, s1, s2, s3⟩, ⟨x0, x1, x2, x3, x4, x5, x6, x7⟩, ⟨y0, y1, y2, y3, y4, y5, y6, y7⟩⟩ := HC.out wS hSw; go_simp; first | done | with_reducible rfl)))
      (try simp only [Act.put, List.setIfInBounds_toArray, List.set_cons_zero, List.set_cons_succ])
      (first | (refine takeS_no 42 rfl (by kernel_rfl) (by kernel_rfl) (by kernel_rfl) (fun _ _ _ h => h) (by rfl) (by assumption) ?_) | (refine takeS_yes (v := ?_) 42 rfl (by kernel_rfl) (by kernel_rfl) (by kernel_rfl) (fun _ _ _ h => h) (by rfl) (by assumption) ?_ ?_; rotate_left; focus (intro wS hSw; obtain ⟨q0, ⟨s0, s1, s2, s3⟩, ⟨x0, x1, x2, x3, x4, x5, x6, x7⟩, ⟨y0, y1, y2, y3, y4, y5, y6, y7⟩⟩ := HC.out wS hSw; go_simp; first | done | with_reducible rfl)))
      (try simp only [Act.put, List.setIfInBounds_toArray, List.set_cons_zero, List.set_cons_succ])
      (first | (refine takeS_no 43 rfl (by kernel_rfl) (by kernel_rfl) (by kernel_rfl) (fun _ _ _ h => h) (by rfl) (by assumption) ?_) | (refine takeS_yes (v := ?_) 43 rfl (by kernel_rfl) (by kernel_rfl) (by kernel_rfl) (fun _ _ _ h => h) (by rfl) (by assumption) ?_ ?_; rotate_left; focus (intro wS hSw; obtain ⟨q0, ⟨s0, s1, s2, s3⟩, ⟨x0, x1, x2, x3, x4, x5, x6, x7⟩, ⟨y0, y1, y2, y3, y4, y5, y6, y7⟩⟩ := HC.out wS hSw; go_simp; first | done | with_reducible rfl)))
      (try simp only [Act.put, List.setIfInBounds_toArray, List.set_cons_zero, List.set_cons_succ])
      (first | (refine takeS_no 44 rfl (by kernel_rfl) (by kernel_rfl) (by kernel_rfl) (fun _ _ _ h => h) (by rfl) (by assumption) ?_) | (refine takeS_yes (v := ?_) 44 rfl (by kernel_rfl) (by kernel_rfl) (by kernel_rfl) (fun _ _ _ h => h) (by rfl) (by assumption) ?_ ?_; rotate_left; focus (intro wS hSw; obtain ⟨q0, ⟨s0, s1, s2, s3⟩, ⟨x0, x1, x2, x3, x4, x5, x6, x7⟩, ⟨y0, y1, y2, y3, y4, y5, y6, y7⟩⟩ := HC.out wS hSw; go_simp; first | done | with_reducible rfl)))
      (try simp only [Act.put, List.setIfInBounds_toArray, List.set_cons_zero, List.set_cons_succ])
      (first | (refine takeS_no 45 rfl (by kernel_rfl) (by kernel_rfl) (by kernel_rfl) (fun _ _ _ h => h) (by rfl) (by assumption) ?_) | (refine takeS_yes (v := ?_) 45 rfl (by kernel_rfl) (by kernel_rfl) (by kernel_rfl) (fun _ _ _ h => h) (by rfl) (by assumption) ?_ ?_; rotate_left; focus (intro wS hSw; obtain ⟨q0, ⟨s0, s1, s2, s3⟩, ⟨x0, x1, x2, x3, x4, x5, x6, x7⟩, ⟨y0, y1, y2, y3, y4, y5, y6, y7⟩⟩ := HC.out wS hSw; go_simp; first | done | with_reducible rfl)))
      (try simp only [Act.put, List.setIfInBounds_toArray, List.set_cons_zero, List.set_cons_succ])
      (first | (refine takeS_no 46 rfl (by kernel_rfl) (by kernel_rfl) (by kernel_rfl) (fun _ _ _ h => h) (by rfl) (by assumption) ?_) | (refine takeS_yes (v := ?_) 46 rfl (by kernel_rfl) (by kernel_rfl) (by kernel_rfl) (fun _ _ _ h => h) (by rfl) (by assumption) ?_ ?_; rotate_left; focus (intro wS hSw; obtain ⟨q0, ⟨s0, s1, s2, s3⟩, ⟨x0, x1, x2, x3, x4, x5, x6, x7⟩, ⟨y0, y1, y2, y3, y4, y5, y6, y7⟩⟩ := HC.out wS hSw; go_simp; first | done | with_reducible rfl)))
      (try simp only [Act.put, List.setIfInBounds_toArray, List.set_cons_zero, List.set_cons_succ])
      (first | (refine takeS_no 47 rfl (by kernel_rfl) (by kernel_rfl) (by kernel_rfl) (fun _ _ _ h => h) (by rfl) (by assumption) ?_) | (refine takeS_yes (v := ?_) 47 rfl (by kernel_rfl) (by kernel_rfl) (by kernel_rfl) (fun _ _ _ h => h) (by rfl) (by assumption) ?_ ?_; rotate_left; focus (intro wS hSw; obtain ⟨q0, ⟨s0, s1, s2, s3⟩, ⟨x0, x1, x2, x3, x4, x5, x6, x7⟩, ⟨y0, y1, y2, y3, y4, y5, y6, y7⟩⟩ := HC.out wS hSw; go_simp; first | done | with_reducible rfl)))
      (try simp only [Act.put, List.setIfInBounds_toArray, List.set_cons_zero, List.set_cons_succ])
      refine takeS_alone 48 rfl (by kernel_rfl) (by rfl) (fun K hK => ?_)
      go_simp
      (refine (rterm_gone p vc (HGN.out vc hS_c.1)).mono ?_; rintro e w' ⟨rfl, rfl⟩)
      refine hK.out _ _ (by assumption) ?_
      clear hK K
      (try simp only [Act.put, List.setIfInBounds_toArray, List.set_cons_zero, List.set_cons_succ])
      (first | (refine takeS_no 49 rfl (by kernel_rfl) (by kernel_rfl) (by kernel_rfl) (fun _ _ _ h => h) (by rfl) (by assumption) ?_) | (refine takeS_yes (v := ?_) 49 rfl (by kernel_rfl) (by kernel_rfl) (by kernel_rfl) (fun _ _ _ h => h) (by rfl) (by assumption) ?_ ?_; rotate_left; focus (intro wS hSw; obtain ⟨q0, ⟨s0, s1, s2, s3⟩, ⟨x0, x1, x2, x3, x4, x5, x6, x7⟩, ⟨y0, y1, y2, y3, y4, y5, y6, y7⟩⟩ := HC.out wS hSw; go_simp; first | done | with_reducible rfl)))
      (try simp only [Act.put, List.setIfInBounds_toArray, List.set_cons_zero, List.set_cons_succ])
      (first | (refine takeS_no 50 rfl (by kernel_rfl) (by kernel_rfl) (by kernel_rfl) (fun _ _ _ h => h) (by rfl) (by assumption) ?_) | (refine takeS_yes (v := ?_) 50 rfl (by kernel_rfl) (by kernel_rfl) (by kernel_rfl) (fun _ _ _ h => h) (by rfl) (by assumption) ?_ ?_; rotate_left; focus (intro wS hSw; obtain ⟨q0, ⟨s0, s1, s2, s3⟩, ⟨x0, x1, x2, x3, x4, x5, x6, x7⟩, ⟨y0, y1, y2, y3, y4, y5, y6, y7⟩⟩ := HC.out wS hSw; go_simp; first | done | with_reducible rfl)))
      (try simp only [Act.put, List.setIfInBounds_toArray, List.set_cons_zero, List.set_cons_succ])
      (first | (refine takeS_no 51 rfl (by kernel_rfl) (by kernel_rfl) (by kernel_rfl) (fun _ _ _ h => h) (by rfl) (by assumption) ?_) | (refine takeS_yes (v := ?_) 51 rfl (by kernel_rfl) (by kernel_rfl) (by kernel_rfl) (fun _ _ _ h => h) (by rfl) (by assumption) ?_ ?_; rotate_left; focus (intro wS hSw; obtain ⟨q0, ⟨s0, s1, s2, s3⟩, ⟨x0, x1, x2, x3, x4, x5, x6, x7⟩, ⟨y0, y1, y2, y3, y4, y5, y6, y7⟩⟩ := HC.out wS hSw; go_simp; first | done | with_reducible rfl)))
      (try simp only [Act.put, List.setIfInBounds_toArray, List.set_cons_zero, List.set_cons_succ])
      (first | (refine takeS_no 52 rfl (by kernel_rfl) (by kernel_rfl) (by kernel_rfl) (fun _ _ _ h => h) (by rfl) (by assumption) ?_) | (refine takeS_yes (v := ?_) 52 rfl (by kernel_rfl) (by kernel_rfl) (by kernel_rfl) (fun _ _ _ h => h) (by rfl) (by assumption) ?_ ?_; rotate_left; focus (intro wS hSw; obtain ⟨q0, ⟨s0, s1, s2, s3⟩, ⟨x0, x1, x2, x3, x4, x5, x6, x7⟩, ⟨y0, y1, y2, y3, y4, y5, y6, y7⟩⟩ := HC.out wS hSw; go_simp; first | done | with_reducible rfl)))
      (try simp only [Act.put, List.setIfInBounds_toArray, List.set_cons_zero, List.set_cons_succ])
      (first | (refine takeS_no 53 rfl (by kernel_rfl) (by kernel_rfl) (by kernel_rfl) (fun _ _ _ h => h) (by rfl) (by assumption) ?_) | (refine takeS_yes (v := ?_) 53 rfl (by kernel_rfl) (by kernel_rfl) (by kernel_rfl) (fun _ _ _ h => h) (by rfl) (by assumption) ?_ ?_; rotate_left; focus (intro wS hSw; obtain ⟨q0, ⟨s0, s1, s2, s3⟩, ⟨x0, x1, x2, x3, x4, x5, x6, x7⟩, ⟨y0, y1, y2, y3, y4, y5, y6, y7⟩⟩ := HC.out wS hSw; go_simp; first | done | with_reducible rfl)))
      (try simp only [Act.put, List.setIfInBounds_toArray, List.set_cons_zero, List.set_cons_succ])
      (first | (refine takeS_no 54 rfl (by kernel_rfl) (by kernel_rfl) (by kernel_rfl) (fun _ _ _ h => h) (by rfl) (by assumption) ?_) | (refine takeS_yes (v := ?_) 54 rfl (by kernel_rfl) (by kernel_rfl) (by kernel_rfl) (fun _ _ _ h => h) (by rfl) (by assumption) ?_ ?_; rotate_left; focus (intro wS hSw; obtain ⟨q0, ⟨s0, s1, s2, s3⟩, ⟨x0, x1, x2, x3, x4, x5, x6, x7⟩, ⟨y0, y1, y2, y3, y4, y5, y6, y7⟩⟩ := HC.out wS hSw; go_simp; first | done | with_reducible rfl)))
      (try simp only [Act.put, List.setIfInBounds_toArray, List.set_cons_zero, List.set_cons_succ])
      (first | (refine takeS_no 55 rfl (by kernel_rfl) (by kernel_rfl) (by kernel_rfl) (fun _ _ _ h => h) (by rfl) (by assumption) ?_) | (refine takeS_yes (v := ?_) 55 rfl (by kernel_rfl) (by kernel_rfl) (by kernel_rfl) (fun _ _ _ h => h) (by rfl) (by assumption) ?_ ?_; rotate_left; focus (intro wS hSw; obtain ⟨q0, ⟨s0, s1, s2, s3⟩, ⟨x0, x1, x2, x3, x4, x5, x6, x7⟩, ⟨y0, y1, y2, y3, y4, y5, y6, y7⟩⟩ := HC.out wS hSw; go_simp; first | done | with_reducible rfl)))
      (try simp only [Act.put, List.setIfInBounds_toArray, List.set_cons_zero, List.set_cons_succ])
      refine takeS_alone 56 rfl (by kernel_rfl) (by rfl) (fun K hK => ?_)
      go_simp
      (refine (rlog_gone p vc (HGN.out vc hS_c.1)).mono ?_; rintro e w' ⟨rfl, rfl⟩)
      refine hK.out _ _ (by assumption) ?_
      clear hK K
      (try simp only [Act.put, List.setIfInBounds_toArray, List.set_cons_zero, List.set_cons_succ])
      (first | (refine takeS_no 57 rfl (by kernel_rfl) (by kernel_rfl) (by kernel_rfl) (fun _ _ _ h => h) (by rfl) (by assumption) ?_) | (refine takeS_yes (v := ?_) 57 rfl (by kernel_rfl) (by kernel_rfl) (by kernel_rfl) (fun _ _ _ h => h) (by rfl) (by assumption) ?_ ?_; rotate_left; focus (intro wS hSw; obtain ⟨q0, ⟨s0, s1, s2, s3⟩, ⟨x0, x1, x2, x3, x4, x5, x6, x7⟩, ⟨y0, y1, y2, y3, y4, y5, y6, y7⟩⟩ := HC.out wS hSw; go_simp; first | done | with_reducible rfl)))
      (try simp only [Act.put, List.setIfInBounds_toArray, List.set_cons_zero, List.set_cons_succ])
      (first | (refine takeS_no 58 rfl (by kernel_rfl) (by kernel_rfl) (by kernel_rfl) (fun _ _ _ h => h) (by rfl) (by assumption) ?_) | (refine takeS_yes (v := ?_) 58 rfl (by kernel_rfl) (by kernel_rfl) (by kernel_rfl) (fun _ _ _ h => h) (by rfl) (by assumption) ?_ ?_; rotate_left; focus (intro wS hSw; obtain ⟨q0, ⟨s0, s1, s2, s3⟩, ⟨x0, x1, x2, x3, x4, x5, x6, x7⟩, ⟨y0, y1, y2, y3, y4, y5, y6, y7⟩⟩ := HC.out wS hSw; go_simp; first | done | with_reducible rfl)))
      (try simp only [Act.put, List.setIfInBounds_toArray, List.set_cons_zero, List.set_cons_succ])
      (first | (refine takeS_no 59 rfl (by kernel_rfl) (by kernel_rfl) (by kernel_rfl) (fun _ _ _ h => h) (by rfl) (by assumption) ?_) | (refine takeS_yes (v := ?_) 59 rfl (by kernel_rfl) (by kernel_rfl) (by kernel_rfl) (fun _ _ _ h => h) (by rfl) (by assumption) ?_ ?_; rotate_left; focus (intro wS hSw; obtain ⟨q0, ⟨s0, s1, s2, s3⟩, ⟨x0, x1, x2, x3, x4, x5, x6, x7⟩, ⟨y0, y1, y2, y3, y4, y5, y6, y7⟩⟩ := HC.out wS hSw; go_simp; first | done | with_reducible rfl)))
      (try simp only [Act.put, List.setIfInBounds_toArray, List.set_cons_zero, List.set_cons_succ])
      (first | (refine takeS_no 60 rfl (by kernel_rfl) (by kernel_rfl) (by kernel_rfl) (fun _ _ _ h => h) (by rfl) (by assumption) ?_) | (refine takeS_yes (v := ?_) 60 rfl (by kernel_rfl) (by kernel_rfl) (by kernel_rfl) (fun _ _ _ h => h) (by rfl) (by assumption) ?_ ?_; rotate_left; focus (intro wS hSw; obtain ⟨q0, ⟨s0, s1, s2, s3⟩, ⟨x0, x1, x2, x3, x4, x5, x6, x7⟩, ⟨y0, y1, y2, y3, y4, y5, y6, y7⟩⟩ := HC.out wS hSw; go_simp; first | done | with_reducible rfl)))
      (try simp only [Act.put, List.setIfInBounds_toArray, List.set_cons_zero, List.set_cons_succ])
      (first | (refine takeS_no 61 rfl (by kernel_rfl) (by kernel_rfl) (by kernel_rfl) (fun _ _ _ h => h) (by rfl) (by assumption) ?_) | (refine takeS_yes (v := ?_) 61 rfl (by kernel_rfl) (by kernel_rfl) (by kernel_rfl) (fun _ _ _ h => h) (by rfl) (by assumption) ?_ ?_; rotate_left; focus (intro wS hSw; obtain ⟨q0, ⟨s0, s1, s2, s3⟩, ⟨x0, x1, x2, x3, x4, x5, x6, x7⟩, ⟨y0, y1, y2, y3, y4, y5, y6, y7⟩⟩ := HC.out wS hSw; go_simp; first | done | with_reducible rfl)))
      (try simp only [Act.put, List.setIfInBounds_toArray, List.set_cons_zero, List.set_cons_succ])
      (first | (refine takeS_no 62 rfl (by kernel_rfl) (by kernel_rfl) (by kernel_rfl) (fun _ _ _ h => h) (by rfl) (by assumption) ?_) | (refine takeS_yes (v := ?_) 62 rfl (by kernel_rfl) (by kernel_rfl) (by kernel_rfl) (fun _ _ _ h => h) (by rfl) (by assumption) ?_ ?_; rotate_left; focus (intro wS hSw; obtain ⟨q0, ⟨s0, s1, s2, s3⟩, ⟨x0, x1, x2, x3, x4, x5, x6, x7⟩, ⟨y0, y1, y2, y3, y4, y5, y6, y7⟩⟩ := HC.out wS hSw; go_simp; first | done | with_reducible rfl)))
      (try simp only [Act.put, List.setIfInBounds_toArray, List.set_cons_zero, List.set_cons_succ])
      (first | (refine takeS_no 63 rfl (by kernel_rfl) (by kernel_rfl) (by kernel_rfl) (fun _ _ _ h => h) (by rfl) (by assumption) ?_) | (refine takeS_yes (v := ?_) 63 rfl (by kernel_rfl) (by kernel_rfl) (by kernel_rfl) (fun _ _ _ h => h) (by rfl) (by assumption) ?_ ?_; rotate_left; focus (intro wS hSw; obtain ⟨q0, ⟨s0, s1, s2, s3⟩, ⟨x0, x1, x2, x3, x4, x5, x6, x7⟩, ⟨y0, y1, y2, y3, y4, y5, y6, y7⟩⟩ := HC.out wS hSw; go_simp; first | done | with_reducible rfl)))
      (try simp only [Act.put, List.setIfInBounds_toArray, List.set_cons_zero, List.set_cons_succ])
      refine takeS_alone 64 rfl (by kernel_rfl) (by rfl) (fun K hK => ?_)
      go_simp
      (refine (rvoters_gone p vc (HGN.out vc hS_c.1)).mono ?_; rintro e w' ⟨rfl, rfl⟩)
      refine hK.out _ _ (by assumption) ?_
      clear hK K
      (try simp only [Act.put, List.setIfInBounds_toArray, List.set_cons_zero, List.set_cons_succ])
      (first | (refine takeS_no 65 rfl (by kernel_rfl) (by kernel_rfl) (by kernel_rfl) (fun _ _ _ h => h) (by rfl) (by assumption) ?_) | (refine takeS_yes (v := ?_) 65 rfl (by kernel_rfl) (by kernel_rfl) (by kernel_rfl) (fun _ _ _ h => h) (by rfl) (by assumption) ?_ ?_; rotate_left; focus (intro wS hSw; obtain ⟨q0, ⟨s0, s1, s2, s3⟩, ⟨x0, x1, x2, x3, x4, x5, x6, x7⟩, ⟨y0, y1, y2, y3, y4, y5, y6, y7⟩⟩ := HC.out wS hSw; go_simp; first | done | with_reducible rfl)))
      (try simp only [Act.put, List.setIfInBounds_toArray, List.set_cons_zero, List.set_cons_succ])
      (first | (refine takeS_no 66 rfl (by kernel_rfl) (by kernel_rfl) (by kernel_rfl) (fun _ _ _ h => h) (by rfl) (by assumption) ?_) | (refine takeS_yes (v := ?_) 66 rfl (by kernel_rfl) (by kernel_rfl) (by kernel_rfl) (fun _ _ _ h => h) (by rfl) (by assumption) ?_ ?_; rotate_left; focus (intro wS hSw; obtain ⟨q0, ⟨s0, s1, s2, s3⟩, ⟨x0, x1, x2, x3, x4, x5, x6, x7⟩, ⟨y0, y1, y2, y3, y4, y5, y6, y7⟩⟩ := HC.out wS hSw; go_simp; first | done | with_reducible rfl)))
      (try simp only [Act.put, List.setIfInBounds_toArray, List.set_cons_zero, List.set_cons_succ])
      (first | (refine takeS_no 67 rfl (by kernel_rfl) (by kernel_rfl) (by kernel_rfl) (fun _ _ _ h => h) (by rfl) (by assumption) ?_) | (refine takeS_yes (v := ?_) 67 rfl (by kernel_rfl) (by kernel_rfl) (by kernel_rfl) (fun _ _ _ h => h) (by rfl) (by assumption) ?_ ?_; rotate_left; focus (intro wS hSw; obtain ⟨q0, ⟨s0, s1, s2, s3⟩, ⟨x0, x1, x2, x3, x4, x5, x6, x7⟩, ⟨y0, y1, y2, y3, y4, y5, y6, y7⟩⟩ := HC.out wS hSw; go_simp; first | done | with_reducible rfl)))
      (try simp only [Act.put, List.setIfInBounds_toArray, List.set_cons_zero, List.set_cons_succ])
      refine wpAnyH_done (by kernel_rfl) ?_ _
      (try simp only [Exit.then])
      (try (rename (∀ (_ : Act) (_ : World), _ → _) => hK0; refine hK0 _ _ ?_; clear hK0))
      have HZ14 := Lib.hid hS_c.1
      clear hS0 hS_n hS_a hS_b hS_c HC
      go_wp2_with fail
      go_roundw
      case rel => exact ⟨k + 1, by omega, by go_num, HZ14.out⟩
      case measure => simp [intOf]; omega
    · obtain rfl : k = 2 := by omega
      have HBR := Lib.hid (HB5.out.trans (HBEL.out.mono HB5.out.size))
      clear hl5 hl6
      go_wp2_with fail
      go_ret
      exact ⟨rfl, HBR.out⟩
end Go.Proofs.YtbimjggkiiadmaaGreatDoor
