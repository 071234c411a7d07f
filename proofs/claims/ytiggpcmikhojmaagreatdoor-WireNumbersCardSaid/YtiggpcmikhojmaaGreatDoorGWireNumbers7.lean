/- A thing of each form among the arguments, with the bounds of what hangs on it. Conditions: it is read as the row reads it, its weights are bounded. -/
import Derived.Test.YtiggpcmikhojmaaGreatDoorGWireNumbers1
import Derived.Test.YtiggpcmikhojmaaGreatDoorGWireNumbers6
import Derived.Test.YtiggpcmikhojmaaGreatDoorGWireNumbers2
import Derived.Test.YtiggpcmikhojmaaGreatDoorGWireNumbers5
import Derived.Lib.Bytes
set_option linter.unusedVariables false
namespace Go.Proofs.YtiggpcmikhojmaaGreatDoor
open Go.RowKit Go.ChangeShapes
set_option maxRecDepth 20000
def cmCells (c : Cm) : List Value := [.int .u8 c.kind, .string c.text, .slice c.ao c.args.length c.cap, .int .i64 c.num]
def rpCells (r : Rp) : List Value := [.int .i64 r.err, .int .i64 r.num, .slice r.fo r.facts.length r.fcap, .slice r.so r.said.length r.scap]
/-- A row of values among the arguments. -/
structure VasWf (ao : Option Addr) (xs : List Va) (cap : Nat) : Prop where
  all : ∀ v ∈ xs, VaArg v
  len : xs.length * 32 ≤ 140737488351232
  nil : ao = none → cap = 0
  cap : xs.length ≤ cap
structure FaWf (f : Fa) : Prop where
  id : (Lit.int .i64 f.id).wf = true
  ty : (Lit.int .i64 f.ty).wf = true
  args : VasWf f.ao f.args f.cap
structure CmWf (c : Cm) : Prop where
  kind : (Lit.int .u8 c.kind).wf = true
  text : c.text.size ≤ 140737488351232
  args : VasWf c.ao c.args c.cap
  num : (Lit.int .i64 c.num).wf = true
structure RpWf (r : Rp) : Prop where
  err : (Lit.int .i64 r.err).wf = true
  num : (Lit.int .i64 r.num).wf = true
  facts : ∀ f ∈ r.facts, FaWf f
  flen : r.facts.length * 40 ≤ 140737488351232
  fnil : r.fo = none → r.fcap = 0
  fcap : r.facts.length ≤ r.fcap
  said : VasWf r.so r.said r.scap
theorem cells_fa : Tryz.prog.cellsOf 27 = 3 := by kernel_rfl
theorem cells_rp : Tryz.prog.cellsOf 34 = 4 := by kernel_rfl
theorem cells_fas : Tryz.prog.cellsOf 32 = 1 := by kernel_rfl
theorem cells_er : Tryz.prog.cellsOf 31 = 1 := by kernel_rfl
theorem bytes_fa : Tryz.prog.bytesOf 27 = 40 := by kernel_rfl
theorem vas_el {H : Type} {enc : TypeId × Value → H} {W : World} {sp : Nat → Bool} {hd : Bool} (c : Value) (n : Nat) (y : DataW H) (pl : List MemPlace) (h : DataW.trod enc Tryz.prog W 0 sp hd n 25 [c] = some (y, pl)) (hz : DSized Tryz.prog 25 y) :
    ∃ ao xs cap, c = .slice ao (xs : List Va).length cap ∧ ValsIn W W.heap.size ao xs ∧ VasWf ao xs cap := by
  obtain ⟨ao, al, cap, e, t⟩ := slice_cell Tryz.underlying25 h
  obtain ⟨xs, rfl, ax, aq, anil, acap, alen⟩ := open_sized (k := 3) (cells := vaCells) (sub := noSub) VaArg Tryz.underlying25 cells_va (by decide) va_el t hz
  rw [bytes_va] at alen
  simp at e
  exact ⟨ao, xs, cap, e, ax, ⟨aq, alen, anil, acap⟩⟩
theorem fa_el {H : Type} {enc : TypeId × Value → H} {W : World} {sp : Nat → Bool} {hd : Bool} (cs : List Value) (n : Nat) (y : DataW H) (pl : List MemPlace) (hl : cs.length = 3) (h : DataW.trod enc Tryz.prog W 0 sp hd n 27 cs = some (y, pl)) (hz : DSized Tryz.prog 27 y) :
    ∃ x : Fa, faCells x = cs ∧ faSub W W.heap.size x ∧ FaWf x := by
  obtain ⟨c0, c1, c2, rfl⟩ : ∃ c0 c1 c2, cs = [c0, c1, c2] := by
    match cs, hl with
    | [c0, c1, c2], _ => exact ⟨c0, c1, c2, rfl⟩
  obtain ⟨xs, m, _, hx, _, hlen, hf⟩ := DataW.trod_struct Tryz.underlying27 h
  simp only [Prod.mk.injEq] at hx
  obtain ⟨rfl, _⟩ := hx
  match xs, hlen with
  | [y0, y1, y2], _ =>
    have h0 := hf 0 _ rfl
    have h1 := hf 1 _ rfl
    have h2 := hf 2 _ rfl
    have z2 := DSized.field Tryz.underlying27 hz (i := 2) (y := y2) rfl rfl
    simp [cells_i64, cells_vas] at h0 h1 h2
    obtain ⟨k0, e0, _, w0⟩ := DataW.trod_int Tryz.underlying3 h0
    obtain ⟨k1, e1, _, w1⟩ := DataW.trod_int Tryz.underlying3 h1
    obtain ⟨d2, p2⟩ := y2
    obtain ⟨ao, args, cap, e2, ax, aw⟩ := vas_el c2 _ _ _ h2 z2
    simp at e0 e1
    subst e0 e1 e2
    exact ⟨⟨k0, k1, ao, args, cap⟩, rfl, ax, ⟨w0, w1, aw⟩⟩
theorem cm_el {H : Type} {enc : TypeId × Value → H} {W : World} {sp : Nat → Bool} {hd : Bool} (cs : List Value) (n : Nat) (y : DataW H) (pl : List MemPlace) (hl : cs.length = 4) (h : DataW.trod enc Tryz.prog W 0 sp hd n 30 cs = some (y, pl)) (hz : DSized Tryz.prog 30 y) :
    ∃ x : Cm, cmCells x = cs ∧ ValsIn W W.heap.size x.ao x.args ∧ CmWf x := by
  obtain ⟨c0, c1, c2, c3, rfl⟩ : ∃ c0 c1 c2 c3, cs = [c0, c1, c2, c3] := by
    match cs, hl with
    | [c0, c1, c2, c3], _ => exact ⟨c0, c1, c2, c3, rfl⟩
  obtain ⟨xs, m, _, hx, _, hlen, hf⟩ := DataW.trod_struct Tryz.underlying30 h
  simp only [Prod.mk.injEq] at hx
  obtain ⟨rfl, _⟩ := hx
  match xs, hlen with
  | [y0, y1, y2, y3], _ =>
    have h0 := hf 0 _ rfl
    have h1 := hf 1 _ rfl
    have h2 := hf 2 _ rfl
    have h3 := hf 3 _ rfl
    have z1 := DSized.field Tryz.underlying30 hz (i := 1) (y := y1) rfl rfl
    have z2 := DSized.field Tryz.underlying30 hz (i := 2) (y := y2) rfl rfl
    simp [cells_i64, cells_ck, cells_str, cells_vas] at h0 h1 h2 h3
    obtain ⟨k0, e0, _, w0⟩ := DataW.trod_int Tryz.underlying28 h0
    obtain ⟨s, e1, d1, _⟩ := DataW.trod_string Tryz.underlying9 h1
    obtain ⟨d2, p2⟩ := y2
    obtain ⟨ao, args, cap, e2, ax, aw⟩ := vas_el c2 _ _ _ h2 z2
    obtain ⟨k3, e3, _, w3⟩ := DataW.trod_int Tryz.underlying3 h3
    rw [d1] at z1
    simp at e0 e1 e3
    subst e0 e1 e2 e3
    exact ⟨⟨k0, s, ao, args, cap, k3⟩, rfl, ax, ⟨w0, DSized.str z1, aw, w3⟩⟩
theorem rp_el {H : Type} {enc : TypeId × Value → H} {W : World} {sp : Nat → Bool} {hd : Bool} (cs : List Value) (n : Nat) (y : DataW H) (pl : List MemPlace) (hl : cs.length = 4) (h : DataW.trod enc Tryz.prog W 0 sp hd n 34 cs = some (y, pl)) (hz : DSized Tryz.prog 34 y) :
    ∃ x : Rp, rpCells x = cs ∧ rpSub W W.heap.size x ∧ RpWf x := by
  obtain ⟨c0, c1, c2, c3, rfl⟩ : ∃ c0 c1 c2 c3, cs = [c0, c1, c2, c3] := by
    match cs, hl with
    | [c0, c1, c2, c3], _ => exact ⟨c0, c1, c2, c3, rfl⟩
  obtain ⟨xs, m, _, hx, _, hlen, hf⟩ := DataW.trod_struct Tryz.underlying34 h
  simp only [Prod.mk.injEq] at hx
  obtain ⟨rfl, _⟩ := hx
  match xs, hlen with
  | [y0, y1, y2, y3], _ =>
    have h0 := hf 0 _ rfl
    have h1 := hf 1 _ rfl
    have h2 := hf 2 _ rfl
    have h3 := hf 3 _ rfl
    have z2 := DSized.field Tryz.underlying34 hz (i := 2) (y := y2) rfl rfl
    have z3 := DSized.field Tryz.underlying34 hz (i := 3) (y := y3) rfl rfl
    simp [cells_i64, cells_er, cells_fas, cells_vas] at h0 h1 h2 h3
    obtain ⟨k0, e0, _, w0⟩ := DataW.trod_int Tryz.underlying31 h0
    obtain ⟨k1, e1, _, w1⟩ := DataW.trod_int Tryz.underlying3 h1
    obtain ⟨fo, fl, fcap, e2, t2⟩ := slice_cell Tryz.underlying32 h2
    obtain ⟨facts, rfl, fx, fq, fnil, fc, flen⟩ := open_sized (k := 3) (cells := faCells) (sub := faSub) FaWf Tryz.underlying32 cells_fa (by decide) fa_el t2 z2
    rw [bytes_fa] at flen
    obtain ⟨d3, p3⟩ := y3
    obtain ⟨so, said, scap, e3, sx, sw⟩ := vas_el c3 _ _ _ h3 z3
    simp at e0 e1 e2
    subst e0 e1 e2 e3
    exact ⟨⟨k0, k1, fo, facts, fcap, so, said, scap⟩, rfl, ⟨fx, sx⟩, ⟨w0, w1, fq, flen, fnil, fc, sw⟩⟩
/-- A thing: one of each form. -/
structure Th where
  number : Int
  text : ByteArray
  value : Va
  vo : Option Addr
  values : List Va
  vcap : Nat
  fact : Fa
  command : Cm
  reply : Rp
  entry : En
def thCells (t : Th) : List Value := .int .i64 t.number :: .string t.text :: (vaCells t.value ++ (.slice t.vo t.values.length t.vcap :: (faCells t.fact ++ (cmCells t.command ++ (rpCells t.reply ++ enCells t.entry)))))
structure ThIn (W : World) (B : Nat) (t : Th) : Prop where
  values : ValsIn W B t.vo t.values
  fact : faSub W B t.fact
  command : ValsIn W B t.command.ao t.command.args
  reply : rpSub W B t.reply
  entry : enSub W B t.entry
structure ThWf (t : Th) : Prop where
  number : (Lit.int .i64 t.number).wf = true
  text : t.text.size ≤ 140737488351232
  value : VaArg t.value
  values : VasWf t.vo t.values t.vcap
  fact : FaWf t.fact
  command : CmWf t.command
  reply : RpWf t.reply
  entry : EnWf t.entry
theorem th_el {H : Type} {enc : TypeId × Value → H} {W : World} {sp : Nat → Bool} {hd : Bool} (cs : List Value) (n : Nat) (y : DataW H) (pl : List MemPlace) (hl : cs.length = 26) (h : DataW.trod enc Tryz.prog W 0 sp hd n 40 cs = some (y, pl)) (hz : DSized Tryz.prog 40 y) :
    ∃ x : Th, thCells x = cs ∧ ThIn W W.heap.size x ∧ ThWf x := by
  obtain ⟨c0, c1, c2, c3, c4, c5, c6, c7, c8, c9, c10, c11, c12, c13, c14, c15, c16, c17, c18, c19, c20, c21, c22, c23, c24, c25, rfl⟩ : ∃ c0 c1 c2 c3 c4 c5 c6 c7 c8 c9 c10 c11 c12 c13 c14 c15 c16 c17 c18 c19 c20 c21 c22 c23 c24 c25, cs = [c0, c1, c2, c3, c4, c5, c6, c7, c8, c9, c10, c11, c12, c13, c14, c15, c16, c17, c18, c19, c20, c21, c22, c23, c24, c25] := by
    match cs, hl with
    | [c0, c1, c2, c3, c4, c5, c6, c7, c8, c9, c10, c11, c12, c13, c14, c15, c16, c17, c18, c19, c20, c21, c22, c23, c24, c25], _ => exact ⟨c0, c1, c2, c3, c4, c5, c6, c7, c8, c9, c10, c11, c12, c13, c14, c15, c16, c17, c18, c19, c20, c21, c22, c23, c24, c25, rfl⟩
  obtain ⟨xs, m, _, hx, _, hlen, hf⟩ := DataW.trod_struct Tryz.underlying40 h
  simp only [Prod.mk.injEq] at hx
  obtain ⟨rfl, _⟩ := hx
  match xs, hlen with
  | [y0, y1, y2, y3, y4, y5, y6, y7], _ =>
    have h0 := hf 0 _ rfl
    have h1 := hf 1 _ rfl
    have h2 := hf 2 _ rfl
    have h3 := hf 3 _ rfl
    have h4 := hf 4 _ rfl
    have h5 := hf 5 _ rfl
    have h6 := hf 6 _ rfl
    have h7 := hf 7 _ rfl
    have z1 := DSized.field Tryz.underlying40 hz (i := 1) (y := y1) rfl rfl
    have z2 := DSized.field Tryz.underlying40 hz (i := 2) (y := y2) rfl rfl
    have z3 := DSized.field Tryz.underlying40 hz (i := 3) (y := y3) rfl rfl
    have z4 := DSized.field Tryz.underlying40 hz (i := 4) (y := y4) rfl rfl
    have z5 := DSized.field Tryz.underlying40 hz (i := 5) (y := y5) rfl rfl
    have z6 := DSized.field Tryz.underlying40 hz (i := 6) (y := y6) rfl rfl
    have z7 := DSized.field Tryz.underlying40 hz (i := 7) (y := y7) rfl rfl
    simp [cells_int64, cells_str, cells_va, cells_vas, cells_fa, cells_cm, cells_rp, cells_en] at h0 h1 h2 h3 h4 h5 h6 h7
    obtain ⟨k0, e0, _, w0⟩ := DataW.trod_int Tryz.underlying2 h0
    obtain ⟨s, e1, d1, _⟩ := DataW.trod_string Tryz.underlying9 h1
    rw [d1] at z1
    simp at e0 e1
    obtain ⟨d2, p2⟩ := y2
    obtain ⟨d3, p3⟩ := y3
    obtain ⟨d4, p4⟩ := y4
    obtain ⟨d5, p5⟩ := y5
    obtain ⟨d6, p6⟩ := y6
    obtain ⟨d7, p7⟩ := y7
    obtain ⟨v, e2, _, w2⟩ := va_el _ _ _ _ rfl h2 z2
    obtain ⟨vo, vs, vcap, e3, x3, w3⟩ := vas_el _ _ _ _ h3 z3
    obtain ⟨f, e4, x4, w4⟩ := fa_el _ _ _ _ rfl h4 z4
    obtain ⟨c, e5, x5, w5⟩ := cm_el _ _ _ _ rfl h5 z5
    obtain ⟨r, e6, x6, w6⟩ := rp_el _ _ _ _ rfl h6 z6
    obtain ⟨e, e7, x7, w7⟩ := en_el _ _ _ _ rfl h7 z7
    refine ⟨⟨k0, s, v, vo, vs, vcap, f, c, r, e⟩, ?_, ⟨x3, x4, x5, x6, x7⟩, ⟨w0, DSized.str z1, w2, w3, w4, w5, w6, w7⟩⟩
    unfold thCells
    dsimp only
    rw [e2, e4, e5, e6, e7, ← e0, ← e1, ← e3]
    rfl
theorem open_thing {H : Type} {enc : TypeId × Value → H} {W : World} {sp : Nat → Bool} {hd : Bool} {cs : Array Value} {d : DataW H} {p : List MemPlace} (hc : cs.size = Tryz.prog.cellsOf 40) (h : DataW.Trod enc Tryz.prog W 0 sp hd 40 (.agg cs) d p) (hz : DSized Tryz.prog 40 d) :
    ∃ t : Th, cs = (thCells t).toArray ∧ ThIn W W.heap.size t ∧ ThWf t := by
  have h26 : Tryz.prog.cellsOf 40 = 26 := by kernel_rfl
  obtain ⟨n, hn⟩ := h
  obtain ⟨t, e, x, w⟩ := th_el cs.toList n d p (by rw [Array.length_toList, hc, h26]) (by simpa [Value.cells] using hn) hz
  exact ⟨t, by rw [e], x, w⟩
end Go.Proofs.YtiggpcmikhojmaaGreatDoor
/- The writer's facts, commands; Fact, Command, Reply, Entry of wire. Conditions: what is written is not too long. -/
namespace Go.Proofs.YtiggpcmikhojmaaGreatDoor
open Go.RowKit
set_option maxRecDepth 20000
def factB (f : FaP) : List Int := numB 8 f.id ++ (numB 8 f.ty ++ valuesB f.args)
def replyB (r : RpP) : List Int := numB 8 r.err ++ (numB 8 r.num ++ (numB 4 r.facts.length ++ (r.facts.flatMap factB ++ valuesB r.said)))
/-- A block that is no row of bytes stays where the writer writes. -/
theorem Wrote.sits {B b g : Nat} {bs : List Int} {w w' : World} {cs : Array Value} {T : TypeId} (h : Wrote B b bs w w') (hs : w.heap[g]? = some (.cells cs T (0, 0))) (hn : g ≠ b) (hT : T ≠ 5) : w'.heap[g]? = some (.cells cs T (0, 0)) :=
  h.2.2 g _ hs (by simpa using hn) (by intro c fz hh; injection hh with _ h2 _; exact hT h2)
set_option maxHeartbeats 1000000 in
theorem fact_any (B b : Nat) (bs : List Int) (id ty : Int) (ao : Option Addr) (n cap : Nat) (args : List Va) (w : World) (hn : args.length = n) (hx : ValsIn w B ao args) (htx : ∀ v ∈ args, v.text.size ≤ 1099511627776) (h : BufIs w B b bs) (hBw : B ≤ w.heap.size) (hnl : n ≤ 1099511627776) (hlim : bs.length + (valuesB args).length + 20 ≤ 100000000000) :
    Calls Tryz.prog 69 #[.pointer (some ⟨b, 0, none⟩), .agg #[.int .i64 id, .int .i64 ty, .slice ao n cap]] w fun e w' => e = .returned (.tuple #[]) ∧ Wrote B b (bs ++ factB ⟨id, ty, args⟩) w w' := by
  have h1 := (Wrote.start h).alloc hBw (.cells #[.int .i64 id, .int .i64 ty, .slice ao n cap] 27)
  have hblk := heap_alloc_new w (.cells #[.int .i64 id, .int .i64 ty, .slice ao n cap] 27)
  have hbl := h.lt
  have hs0 : (w.alloc (.cells #[.int .i64 id, .int .i64 ty, .slice ao n cap] 27)).heap.size = w.heap.size + 1 := by simp
  have HS0 := Lib.hid hs0
  have H1 := Lib.hid h1
  have HBLK := Lib.hid hblk
  have HX := Lib.hid hx
  have HN := Lib.hid hn
  have HTX := Lib.hid htx
  clear h h1 hblk hx hn htx hs0
  go_enter Tryz.func69, Tryz.ntmps69
  go_wp2_with fail
  have h1 := H1.out
  have hd := HBLK.out
  have hs0 := HS0.out
  generalize (w.alloc (.cells #[.int .i64 id, .int .i64 ty, .slice ao n cap] 27)) = w0 at h1 hd hs0 ⊢
  have H1 := Lib.hid h1
  have HD := Lib.hid hd
  clear h1 hd
  refine (put2_any B b 8 _ bs id ty w0 hs0 (by omega) (by omega) H1.out.1 (Nat.le_trans hBw H1.out.2.1.size) (by omega)).mono ?_
  rintro e w2 ⟨rfl, hw2⟩
  have hd := hw2.sits HD.out (by omega) (by decide)
  have d2 : w2.cell? ⟨w.heap.size, 2, none⟩ = some (.slice ao n cap) := Go.Joins.cell_of_block hd 2
  have H2 := Lib.hid (H1.out.trans hw2)
  clear hw2 hd H1 HD HBLK HS0 hs0
  go_wp2_with fail
  refine (values_any B b _ ao n cap args w2 HN.out (HX.out.below noSub_kept H2.out.2.1 (Nat.le_refl _)) HTX.out H2.out.1 (Nat.le_trans hBw H2.out.2.1.size) (by simp only [List.length_append, numB_len]; omega) hnl (by simp only [List.length_append, numB_len]; omega)).mono ?_
  rintro e w3 ⟨rfl, hw3⟩
  have hw4 := H2.out.trans hw3
  rw [List.append_assoc, List.append_assoc] at hw4
  have H4 := Lib.hid hw4
  clear hw3 hw4 d2
  go_wp2_with fail
  go_end0
  exact ⟨rfl, H4.out⟩
set_option maxHeartbeats 1000000 in
theorem command_any (B b : Nat) (bs : List Int) (ck : Int) (text : ByteArray) (ao : Option Addr) (n cap : Nat) (num : Int) (args : List Va) (w : World) (hn : args.length = n) (hx : ValsIn w B ao args) (htx : ∀ v ∈ args, v.text.size ≤ 1099511627776) (h : BufIs w B b bs) (hBw : B ≤ w.heap.size) (hnl : n ≤ 1099511627776) (hlim : bs.length + text.size + (valuesB args).length + 40 ≤ 100000000000) :
    Calls Tryz.prog 70 #[.pointer (some ⟨b, 0, none⟩), .agg #[.int .u8 ck, .string text, .slice ao n cap, .int .i64 num]] w fun e w' => e = .returned (.tuple #[]) ∧ Wrote B b (bs ++ commandB ck text num args) w w' := by
  have h1 := (Wrote.start h).alloc hBw (.cells #[.int .u8 ck, .string text, .slice ao n cap, .int .i64 num] 30)
  have hblk := heap_alloc_new w (.cells #[.int .u8 ck, .string text, .slice ao n cap, .int .i64 num] 30)
  have hbl := h.lt
  have H1 := Lib.hid h1
  have HBLK := Lib.hid hblk
  have HX := Lib.hid hx
  have HN := Lib.hid hn
  have HTX := Lib.hid htx
  clear h h1 hblk hx hn htx
  go_enter Tryz.func70, Tryz.ntmps70
  go_wp2_with fail
  have h1 := H1.out
  have hd := HBLK.out
  generalize (w.alloc (.cells #[.int .u8 ck, .string text, .slice ao n cap, .int .i64 num] 30)) = w0 at h1 hd ⊢
  have d0 : w0.cell? ⟨w.heap.size, 0, none⟩ = some (.int .u8 ck) := Go.Joins.cell_of_block hd 0
  have H1' := Lib.hid h1.drew
  have HD := Lib.hid (show w0.drew.heap[w.heap.size]? = some (.cells #[.int .u8 ck, .string text, .slice ao n cap, .int .i64 num] 30 (0, 0)) from hd)
  clear h1 hd H1 HBLK
  go_still_tail 5, (by kernel_rfl)
  change wpList _ _ _ _ _ w0.drew
  generalize w0.drew = w1 at H1' HD ⊢
  clear d0
  go_wp2_with fail
  refine (writeByte_any B b bs ck w1 H1'.out.1 (Nat.le_trans hBw H1'.out.2.1.size) (by omega)).mono ?_
  rintro e w2 ⟨rfl, hw2⟩
  have hd := hw2.sits HD.out (by omega) (by decide)
  have d1 : w2.cell? ⟨w.heap.size, 1, none⟩ = some (.string text) := Go.Joins.cell_of_block hd 1
  have H2 := Lib.hid (H1'.out.trans hw2)
  have HD2 := Lib.hid hd
  clear hw2 hd H1' HD
  go_wp2_with fail
  refine (text_any B b _ text w2 H2.out.1 (Nat.le_trans hBw H2.out.2.1.size) (by simp only [List.length_append, List.length_singleton]; omega)).mono ?_
  rintro e w3 ⟨rfl, hw3⟩
  have hd := hw3.sits HD2.out (by omega) (by decide)
  have d3 : w3.cell? ⟨w.heap.size, 3, none⟩ = some (.int .i64 num) := Go.Joins.cell_of_block hd 3
  have H3 := Lib.hid (H2.out.trans hw3)
  have HD3 := Lib.hid hd
  clear hw3 hd H2 HD2 d1
  go_wp2_with fail
  refine (put1_any B b 8 _ _ num w3 rfl (by omega) (by omega) H3.out.1 (Nat.le_trans hBw H3.out.2.1.size) (by simp only [List.length_append, List.length_singleton, textB_len]; omega)).mono ?_
  rintro e w4 ⟨rfl, hw4⟩
  have hd := hw4.sits HD3.out (by omega) (by decide)
  have d2 : w4.cell? ⟨w.heap.size, 2, none⟩ = some (.slice ao n cap) := Go.Joins.cell_of_block hd 2
  have H4 := Lib.hid (H3.out.trans hw4)
  clear hw4 hd H3 HD3 d3
  go_wp2_with fail
  refine (values_any B b _ ao n cap args w4 HN.out (HX.out.below noSub_kept H4.out.2.1 (Nat.le_refl _)) HTX.out H4.out.1 (Nat.le_trans hBw H4.out.2.1.size) (by simp only [List.length_append, List.length_singleton, textB_len, numB_len]; omega) hnl (by simp only [List.length_append, List.length_singleton, textB_len, numB_len]; omega)).mono ?_
  rintro e w5 ⟨rfl, hw5⟩
  have hw6 := H4.out.trans hw5
  have hbs : bs ++ [ck] ++ textB text ++ numB 8 num ++ valuesB args = bs ++ commandB ck text num args := by simp [commandB]
  rw [hbs] at hw6
  have H6 := Lib.hid hw6
  clear hw5 hw6 d2 hbs
  go_wp2_with fail
  go_end0
  exact ⟨rfl, H6.out⟩
end Go.Proofs.YtiggpcmikhojmaaGreatDoor
/- What is written in any form, with whatever behind it, is read as it was. No program. Conditions: as each says. -/
namespace Go.Proofs.YtiggpcmikhojmaaGreatDoor
open Go.RowKit
set_option maxRecDepth 20000
theorem takeS_back (n : Nat) (a rest : List Int) (h : a.length = n) : takeS n false (a ++ rest) = (a, false, rest) := by
  subst h
  unfold takeS
  rw [if_neg (by simp)]
  simp
def N64 (n : Int) : Prop := -9223372036854775808 ≤ n ∧ n ≤ 9223372036854775807
theorem numS_back (n : Int) (rest : List Int) (h : N64 n) : numS false (numB 8 n ++ rest) = (n, false, rest) := by
  unfold numS
  rw [takeS_back 8 _ _ (numB_len 8 n)]
  dsimp only
  rw [getN_numB]
  have h1 := h.1
  have h2 := h.2
  have e : IntKind.i64.wrap (n % 256 ^ 8) = n := by
    show (if (true && decide (n % 256 ^ 8 % 2 ^ 64 ≥ (2 ^ 63 : Int))) = true then n % 256 ^ 8 % 2 ^ 64 - 2 ^ 64 else n % 256 ^ 8 % 2 ^ 64) = n
    have e1 : (256 : Int) ^ 8 = 18446744073709551616 := by decide
    have e2 : (2 : Int) ^ 64 = 18446744073709551616 := by decide
    have e3 : (2 : Int) ^ 63 = 9223372036854775808 := by decide
    rw [e1, e2, e3]
    split
    · rename_i hc
      have hc : n % 18446744073709551616 % 18446744073709551616 ≥ 9223372036854775808 := by simpa using hc
      omega
    · rename_i hc
      have hc : ¬ n % 18446744073709551616 % 18446744073709551616 ≥ 9223372036854775808 := by simpa using hc
      omega
  rw [e]
theorem kindS_back (k : Int) (rest : List Int) : kindS false (k :: rest) = (k, false, rest) := by
  unfold kindS
  have := takeS_back 1 [k] rest rfl
  rw [List.singleton_append] at this
  rw [this]
  simp [getN]
theorem countS_back (n : Nat) (rest : List Int) (h : n ≤ 65536) : countS false (numB 4 n ++ rest) = ((n : Int), false, rest) := by
  unfold countS
  rw [takeS_back 4 _ _ (numB_len 4 n)]
  dsimp only
  rw [getN_numB]
  have e1 : (256 : Int) ^ 4 = 4294967296 := by decide
  have e : (n : Int) % 256 ^ 4 = n := by rw [e1]; omega
  rw [e, if_neg (by simp; omega)]
theorem strN_strB (s : ByteArray) : strN (strB s) = s := by
  unfold strN strB strOfNums
  rw [List.map_map]
  have : (fun n : Int => UInt8.ofNat n.toNat) ∘ (fun c : UInt8 => (c.toNat : Int)) = id := by
    funext c
    simp
  rw [this, List.map_id]
theorem textS_back (s : ByteArray) (rest : List Int) (h : s.size ≤ 65536) : textS false (textB s ++ rest) = (s, false, rest) := by
  unfold textS textB
  rw [List.append_assoc, countS_back _ _ h]
  dsimp only
  rw [takeS_back _ _ _ (by rw [strB_len]; omega)]
  dsimp only
  rw [strN_strB]
/-- A value that its bytes say wholly. -/
def Bare (v : Va) : Prop := v.kind = 1 ∧ v.text = ByteArray.empty ∨ v.kind = 2 ∧ v.num = 0
/-- Short enough to be counted, its number one of 64 bits. -/
def VaFit (v : Va) : Prop := N64 v.num ∧ v.text.size ≤ 65536
theorem valueS_back (v : Va) (rest : List Int) (hb : Bare v) (hf : VaFit v) : valueS false (valueB v ++ rest) = (v, false, rest) := by
  obtain ⟨kd, num, text⟩ := v
  rcases hb with ⟨h1, h2⟩ | ⟨h1, h2⟩
  · dsimp only at h1 h2
    subst h1
    subst h2
    have e : valueB ⟨1, num, ByteArray.empty⟩ = 1 :: numB 8 num := by unfold valueB; dsimp only; rw [if_pos rfl]
    rw [e]
    unfold valueS
    dsimp only
    have := takeS_back 1 [1] (numB 8 num ++ rest) rfl
    rw [List.singleton_append] at this
    rw [List.cons_append, this]
    dsimp only
    rw [if_pos (by simp [getN])]
    have h8 := numS_back num rest hf.1
    unfold numS at h8
    simp only [Prod.mk.injEq] at h8
    rw [h8.2]
    rw [h8.1]
    rfl
  · dsimp only at h1 h2
    subst h1
    subst h2
    have e : valueB ⟨2, 0, text⟩ = 2 :: textB text := by unfold valueB; dsimp only; rw [if_neg (by decide), if_pos rfl]
    rw [e]
    unfold valueS
    dsimp only
    have := takeS_back 1 [2] (textB text ++ rest) rfl
    rw [List.singleton_append] at this
    rw [List.cons_append, this]
    dsimp only
    rw [if_neg (by simp [getN]), if_pos (by simp [getN]), textS_back text rest hf.2]
    rfl
theorem rowS_back {α : Type} {one : Bool → List Int → α × Bool × List Int} {oneB : α → List Int} (xs : List α) (h : ∀ x ∈ xs, ∀ rest, one false (oneB x ++ rest) = (x, false, rest)) (rest : List Int) : rowS one xs.length false (xs.flatMap oneB ++ rest) = (xs, false, rest) := by
  induction xs with
  | nil => simp [rowS]
  | cons x xs ih =>
    rw [List.length_cons, List.flatMap_cons, List.append_assoc]
    unfold rowS
    rw [if_neg (by simp), h x (by simp)]
    dsimp only
    rw [ih (fun y hy => h y (List.mem_cons_of_mem _ hy))]
theorem rowsS_back {α : Type} {one : Bool → List Int → α × Bool × List Int} {oneB : α → List Int} (xs : List α) (h : ∀ x ∈ xs, ∀ rest, one false (oneB x ++ rest) = (x, false, rest)) (hl : xs.length ≤ 65536) (rest : List Int) : rowsS one false (numB 4 xs.length ++ (xs.flatMap oneB ++ rest)) = (xs, false, rest) := by
  unfold rowsS
  dsimp only
  rw [countS_back _ _ hl]
  dsimp only
  rw [Int.toNat_natCast, rowS_back xs h]
  rfl
/-- A row of values that is wholly said, and short enough. -/
def VasFit (l : List Va) : Prop := l.length ≤ 65536 ∧ ∀ v ∈ l, Bare v ∧ VaFit v
theorem valuesS_back (l : List Va) (rest : List Int) (h : VasFit l) : valuesS false (valuesB l ++ rest) = (l, false, rest) := by
  unfold valuesS valuesB
  rw [List.append_assoc]
  exact rowsS_back l (fun v hv rest => valueS_back v rest (h.2 v hv).1 (h.2 v hv).2) h.1 rest
theorem intsS_back (l : List Int) (rest : List Int) (hl : l.length ≤ 65536) (h : ∀ n ∈ l, N64 n) : intsS false (numB 4 l.length ++ (l.flatMap (numB 8) ++ rest)) = (l, false, rest) :=
  rowsS_back l (fun v hv rest => numS_back v rest (h v hv)) hl rest
def FaFit (f : FaP) : Prop := N64 f.id ∧ N64 f.ty ∧ VasFit f.args
theorem factS_back (f : FaP) (rest : List Int) (h : FaFit f) : factS false (factB f ++ rest) = (f, false, rest) := by
  unfold factS factB
  simp only [List.append_assoc]
  rw [numS_back _ _ h.1]
  dsimp only
  rw [numS_back _ _ h.2.1]
  dsimp only
  rw [valuesS_back _ _ h.2.2]
  rfl
def CmFit (c : CmP) : Prop := c.text.size ≤ 65536 ∧ N64 c.num ∧ VasFit c.args
theorem commandS_back (c : CmP) (rest : List Int) (h : CmFit c) : commandS false (commandB c.kind c.text c.num c.args ++ rest) = (c, false, rest) := by
  unfold commandS commandB
  simp only [List.append_assoc, List.cons_append]
  rw [kindS_back]
  dsimp only
  rw [textS_back _ _ h.1]
  dsimp only
  rw [numS_back _ _ h.2.1]
  dsimp only
  rw [valuesS_back _ _ h.2.2]
  rfl
def RpFit (r : RpP) : Prop := N64 r.err ∧ N64 r.num ∧ (r.facts.length ≤ 65536 ∧ ∀ f ∈ r.facts, FaFit f) ∧ VasFit r.said
theorem replyS_back (r : RpP) (rest : List Int) (h : RpFit r) : replyS false (replyB r ++ rest) = (r, false, rest) := by
  unfold replyS replyB
  simp only [List.append_assoc]
  rw [numS_back _ _ h.1]
  dsimp only
  rw [numS_back _ _ h.2.1]
  dsimp only
  unfold factsS
  rw [rowsS_back (one := factS) r.facts (fun f hf rest => factS_back f rest (h.2.2.1.2 f hf)) h.2.2.1.1]
  dsimp only
  rw [valuesS_back _ _ h.2.2.2]
  rfl
def EnFit (e : EnP) : Prop := N64 e.term ∧ N64 e.session ∧ N64 e.seq ∧ CmFit ⟨e.ck, e.text, e.args, e.num⟩ ∧ e.vs.length ≤ 65536 ∧ ∀ v ∈ e.vs, N64 v
theorem entryS_back (e : EnP) (rest : List Int) (h : EnFit e) : entryS false (entryB e ++ rest) = (e, false, rest) := by
  obtain ⟨h1, h2, h3, h4, h5, h6⟩ := h
  have hc := commandS_back ⟨e.ck, e.text, e.args, e.num⟩ (numB 4 e.vs.length ++ (e.vs.flatMap (numB 8) ++ rest)) h4
  dsimp only at hc
  unfold entryS entryB
  simp only [List.append_assoc, List.cons_append]
  rw [numS_back _ _ h1]
  dsimp only
  rw [kindS_back]
  dsimp only
  rw [numS_back _ _ h2]
  dsimp only
  rw [numS_back _ _ h3]
  dsimp only
  rw [hc]
  dsimp only
  rw [intsS_back _ _ h5 h6]
  rfl
theorem numS_end : numS false [] = (0, true, []) := by
  unfold numS takeS
  rw [if_pos (by simp)]
  rfl
end Go.Proofs.YtiggpcmikhojmaaGreatDoor
/- How much a thing is: plain definitions and laws. No program. Conditions: as each says. -/
namespace Go.Proofs.YtiggpcmikhojmaaGreatDoor
open Go.RowKit
set_option maxRecDepth 20000
def costV (v : Va) : Int := 1 + (v.text.size : Int) / 20
def costs : Int → List Va → Int
  | n, [] => n
  | n, v :: l => if n ≤ 2000 then costs (n + costV v) l else n
def valuesN (l : List Va) : Int := costs l.length l
theorem costV_pos (v : Va) : 1 ≤ costV v := by unfold costV; omega
theorem costs_big (n : Int) (l : List Va) (h : 2000 < n) : costs n l = n := by
  cases l with
  | nil => rfl
  | cons v l => unfold costs; rw [if_neg (by omega)]
theorem costs_ge : ∀ (l : List Va) (n : Int), n ≤ costs n l := by
  intro l
  induction l with
  | nil => intro n; exact Int.le_refl _
  | cons v l ih =>
    intro n
    unfold costs
    split
    · have := ih (n + costV v)
      have := costV_pos v
      omega
    · exact Int.le_refl _
theorem costs_le : ∀ (l : List Va) (n : Int), (∀ v ∈ l, v.text.size ≤ 140737488351232) → costs n l ≤ n ∨ costs n l ≤ 7036874420000 := by
  intro l
  induction l with
  | nil => intro n _; exact Or.inl (Int.le_refl _)
  | cons v l ih =>
    intro n h
    unfold costs
    split
    · right
      have h1 := h v (by simp)
      have h2 : costV v ≤ 7036874417563 := by unfold costV; omega
      rcases ih (n + costV v) (fun u hu => h u (List.mem_cons_of_mem _ hu)) with h3 | h3 <;> omega
    · left; exact Int.le_refl _
theorem costs_small : ∀ (l : List Va) (n : Int), costs n l ≤ 2000 → n ≤ 2000 ∧ ∀ v ∈ l, (n + costV v ≤ 2000 ∨ n < 0 ∨ costV v ≤ 2000) := by
  intro l
  induction l with
  | nil => intro n h; exact ⟨h, by intro v hv; cases hv⟩
  | cons v l ih =>
    intro n h
    unfold costs at h
    split at h
    · rename_i hn
      obtain ⟨h1, h2⟩ := ih _ h
      refine ⟨hn, fun u hu => ?_⟩
      rcases List.mem_cons.1 hu with rfl | hu
      · exact Or.inl h1
      · have := costV_pos v
        rcases h2 u hu with h3 | h3 | h3
        · left; omega
        · right; left; omega
        · exact Or.inr (Or.inr h3)
    · exact ⟨h, fun u hu => by omega⟩
theorem costs_bytes : ∀ (l : List Va) (n : Int), costs n l ≤ 2000 → ((l.flatMap valueB).length : Int) ≤ 29 * (costs n l - n) := by
  intro l
  induction l with
  | nil => intro n h; simp [costs]
  | cons v l ih =>
    intro n h
    have h1 := (costs_small _ _ h).1
    unfold costs at h ⊢
    rw [if_pos h1] at h ⊢
    have h2 := ih _ h
    have h3 := valueB_len v
    have h4 : (v.text.size : Int) ≤ 20 * costV v := by unfold costV; omega
    have h5 := costV_pos v
    rw [List.flatMap_cons, List.length_append]
    omega
def SmallV (l : List Va) : Prop := l.length ≤ 2000 ∧ (∀ v ∈ l, v.text.size ≤ 60000) ∧ (valuesB l).length ≤ 60004
theorem valuesN_nn (l : List Va) : 0 ≤ valuesN l := by
  have := costs_ge l l.length
  unfold valuesN
  omega
theorem valuesN_le (l : List Va) (hl : l.length ≤ 4398046511104) (h : ∀ v ∈ l, v.text.size ≤ 140737488351232) : valuesN l ≤ 7036874420000 := by
  unfold valuesN
  rcases costs_le l l.length h with h | h <;> omega
theorem valuesN_small (l : List Va) (h : valuesN l ≤ 2000) : SmallV l := by
  obtain ⟨h1, h2⟩ := costs_small l l.length h
  refine ⟨by omega, fun v hv => ?_, ?_⟩
  · have h3 := h2 v hv
    unfold costV at h3
    omega
  · have h3 := costs_bytes l l.length h
    unfold valuesN at h
    unfold valuesB
    rw [List.length_append, numB_len]
    omega
def costsF : Int → List Fa → Int
  | n, [] => n
  | n, f :: l => if n ≤ 2000 then costsF (n + valuesN f.args) l else n
theorem costsF_big (n : Int) (l : List Fa) (h : 2000 < n) : costsF n l = n := by
  cases l with
  | nil => rfl
  | cons v l => unfold costsF; rw [if_neg (by omega)]
theorem costsF_small : ∀ (l : List Fa) (n : Int), 0 ≤ n → costsF n l ≤ 2000 → n ≤ 2000 ∧ ∀ f ∈ l, SmallV f.args := by
  intro l
  induction l with
  | nil => intro n _ h; exact ⟨h, by intro v hv; cases hv⟩
  | cons f l ih =>
    intro n h0 h
    unfold costsF at h
    split at h
    · rename_i hn
      have hv := valuesN_nn f.args
      obtain ⟨h1, h2⟩ := ih _ (by omega) h
      refine ⟨hn, fun u hu => ?_⟩
      rcases List.mem_cons.1 hu with rfl | hu
      · exact valuesN_small _ (by omega)
      · exact h2 u hu
    · exact absurd h (by omega)
def great0 (t : Th) : Int := (t.text.size : Int) / 20 + costV t.value + valuesN t.values + valuesN t.fact.args + (t.command.text.size : Int) / 20 + valuesN t.command.args + valuesN t.reply.said
def great1 (t : Th) : Int := great0 t + (t.entry.text.size : Int) / 20 + valuesN t.entry.args + t.entry.vs.length + t.reply.facts.length
def greatN (t : Th) : Int := costsF (great1 t) t.reply.facts
structure ThSmall (t : Th) : Prop where
  text : t.text.size ≤ 60000
  value : t.value.text.size ≤ 60000
  values : SmallV t.values
  fact : SmallV t.fact.args
  ctext : t.command.text.size ≤ 60000
  command : SmallV t.command.args
  facts : t.reply.facts.length ≤ 2000 ∧ ∀ f ∈ t.reply.facts, SmallV f.args
  said : SmallV t.reply.said
  etext : t.entry.text.size ≤ 60000
  eargs : SmallV t.entry.args
  voters : t.entry.vs.length ≤ 2000
theorem great_small (t : Th) (h : greatN t ≤ 2000) : ThSmall t := by
  have a0 := valuesN_nn t.values
  have a1 := valuesN_nn t.fact.args
  have a2 := valuesN_nn t.command.args
  have a3 := valuesN_nn t.reply.said
  have a4 := valuesN_nn t.entry.args
  have a5 := costV_pos t.value
  have h0 : 0 ≤ great1 t := by unfold great1 great0; omega
  obtain ⟨h1, h2⟩ := costsF_small _ _ h0 h
  unfold great1 great0 at h1
  refine ⟨by omega, ?_, valuesN_small _ (by omega), valuesN_small _ (by omega), by omega, valuesN_small _ (by omega), ⟨by omega, h2⟩, valuesN_small _ (by omega), by omega, valuesN_small _ (by omega), by omega⟩
  have h3 : costV t.value ≤ 2000 := by omega
  unfold costV at h3
  omega
def bareB (v : Va) : Bool := (v.kind == 1 && decide (v.text = ByteArray.empty)) || (v.kind == 2 && v.num == 0)
theorem bareB_true (v : Va) (h : bareB v = true) : Bare v := by
  simp [bareB] at h
  exact h
theorem n64_of {n : Int} (h : (Lit.int .i64 n).wf = true) : N64 n := by
  have h : (decide (IntKind.i64.min ≤ n) && decide (n ≤ IntKind.i64.max)) = true := h
  have e1 : IntKind.i64.min = -9223372036854775808 := by decide
  have e2 : IntKind.i64.max = 9223372036854775807 := by decide
  rw [e1, e2] at h
  simpa [N64] using h
theorem SmallV.fit {l : List Va} (h : SmallV l) (hb : l.all bareB = true) (hw : ∀ v ∈ l, VaArg v) : VasFit l := by
  refine ⟨by have := h.1; omega, fun v hv => ⟨bareB_true v (List.all_eq_true.1 hb v hv), n64_of (hw v hv).2.1, ?_⟩⟩
  have := h.2.1 v hv
  omega
theorem factB_small (f : FaP) (h : SmallV f.args) : (factB f).length ≤ 60020 := by
  have := h.2.2
  unfold factB
  simp only [List.length_append, numB_len]
  omega
theorem factsB_small (l : List FaP) (h : ∀ f ∈ l, SmallV f.args) : (l.flatMap factB).length ≤ 60020 * l.length := by
  induction l with
  | nil => simp
  | cons f l ih =>
    have h1 := factB_small f (h f (by simp))
    have h2 := ih (fun g hg => h g (List.mem_cons_of_mem _ hg))
    rw [List.flatMap_cons, List.length_append, List.length_cons]
    omega
end Go.Proofs.YtiggpcmikhojmaaGreatDoor
/- How much values are, and whether they are wholly said: the law's own helpers, walked. Conditions: memory bounds lengths. -/
namespace Go.Proofs.YtiggpcmikhojmaaGreatDoor
open Go.RowKit
set_option maxRecDepth 20000
theorem lvalue_any (kd num : Int) (text : ByteArray) (w : World) (hl : text.size ≤ 140737488351232) :
    Calls Tryz.prog 59 #[.agg #[.int .u8 kd, .int .i64 num, .string text]] w fun e w' => e = .returned (.int .i64 (costV ⟨kd, num, text⟩)) ∧ Below w.heap.size w w' := by
  have hb := (Below.refl w.heap.size w).alloc (Nat.le_refl _) (.cells #[.int .u8 kd, .int .i64 num, .string text] 24)
  go_enter Tryz.func59, Tryz.ntmps59
  go_wp2_with fail
  go_ret
  exact ⟨by simp [costV]; try omega, hb⟩
set_option maxHeartbeats 1000000 in
theorem lvalues_any (ao : Option Addr) (n cap : Nat) (xs : List Va) (w : World) (B : Nat) (hn : xs.length = n) (hx : ValsIn w B ao xs) (hB : B ≤ w.heap.size) (htx : ∀ v ∈ xs, v.text.size ≤ 140737488351232) (hl : n ≤ 4398046511104) :
    Calls Tryz.prog 60 #[.slice ao n cap] w fun e w' => e = .returned (.int .i64 (valuesN xs)) ∧ Below w.heap.size w w' := by
  have HX := Lib.hid (hx.mono noSub_rising hB)
  have HN := Lib.hid hn
  have HTX := Lib.hid htx
  have hv : costs n xs = valuesN xs := by rw [← hn]; rfl
  have hle := valuesN_le xs (by omega) htx
  have HV := Lib.hid hv
  clear hx hn htx hv
  go_enter Tryz.func60, Tryz.ntmps60
  go_wp2_with fail
  go_loopw [3, 4] (fun m i wr => ∃ (k : Nat) (c : Int), k ≤ n ∧ i = .int .i64 k ∧ m = .int .i64 c ∧ 0 ≤ c ∧ c ≤ 7036874420000 ∧ costs c (xs.drop k) = valuesN xs ∧ Below w.heap.size w wr) (fun _ i _ => n - (intOf i).toNat)
  case atStart => exact ⟨0, n, by omega, rfl, rfl, by omega, by omega, by simpa using HV.out, Below.refl _ _⟩
  case round =>
    clear HV
    obtain ⟨k, c, hk, rfl, rfl, hc0, hc1, hcs, hbel⟩ := hrel
    have HC := Lib.hid hcs
    clear hcs
    by_cases hlt : k < n
    · have i1 : (k : Int) < n := by omega
      by_cases hc2 : c ≤ 2000
      · have hkx : xs[k]? = some (xs[k]'(by rw [HN.out]; exact hlt)) := List.getElem?_eq_getElem _
        have hdr : xs.drop k = (xs[k]'(by rw [HN.out]; exact hlt)) :: xs.drop (k + 1) := List.drop_eq_getElem_cons _
        have htx := HTX.out _ (List.getElem_mem (l := xs) (n := k) (by rw [HN.out]; exact hlt))
        obtain ⟨b, off, hao, hb, hc, _⟩ := HX.out.at hkx
        generalize xs[k]'(by rw [HN.out]; exact hlt) = x at hc hkx hdr htx
        have hnew : costs (c + costV x) (xs.drop (k + 1)) = valuesN xs := by
          have := HC.out
          rw [hdr] at this
          unfold costs at this
          rwa [if_pos hc2] at this
        have hcp := costV_pos x
        have hcu : costV x ≤ 7036874417563 := by unfold costV; omega
        obtain ⟨kd, num, text⟩ := x
        dsimp only at htx
        have hcall := lvalue_any kd num text wr htx
        generalize costV ⟨kd, num, text⟩ = q at hcall hcp hcu hnew
        have HCALL := Lib.hid hcall
        have HNEW := Lib.hid hnew
        have c0 : wr.cell? ⟨b, off + k * 3, none⟩ = some (.int .u8 kd) := (hbel.cell (p := ⟨b, _, none⟩) hb).trans (hc 0 (by decide))
        have c1 : wr.cell? ⟨b, off + k * 3 + 1, none⟩ = some (.int .i64 num) := (hbel.cell (p := ⟨b, _, none⟩) hb).trans (hc 1 (by decide))
        have c2 : wr.cell? ⟨b, off + k * 3 + 1 + 1, none⟩ = some (.string text) := (hbel.cell (p := ⟨b, _, none⟩) hb).trans (hc 2 (by decide))
        have c3 : wr.cell? ⟨b, off + k * 3 + 2, none⟩ = some (.string text) := c2
        have w1 : IntKind.i64.wrap (c + q) = c + q := IntWalk.i64_in _ (by omega)
        have i2 : decide (c ≤ 2000) = true := by simpa using hc2
        subst hao
        clear hc hkx hdr hcall hnew htx
        go_wp2_with fail
        refine HCALL.out.mono ?_
        rintro e w2 ⟨rfl, hb2⟩
        have hb3 := hbel.trans (hb2.mono hbel.size)
        clear c0 c1 c2 c3 hb2
        go_wp2_with fail
        go_roundw
        case rel => exact ⟨k + 1, c + q, by omega, by go_num, by first | rfl | go_num, by omega, by omega, HNEW.out, hb3⟩
        case measure => simp [intOf]; omega
      · have hfin : valuesN xs = c := by rw [← HC.out]; exact costs_big _ _ (by omega)
        have i2 : decide (c ≤ 2000) = false := by simpa using hc2
        have i3 : 2000 < c := by omega
        have HF := Lib.hid hfin
        clear hfin
        go_wp2_with fail
        go_ret
        exact ⟨by (rw [HF.out]); first | done | rfl, hbel⟩
    · obtain rfl : k = n := by omega
      have hfin : valuesN xs = c := by
        rw [← HC.out, List.drop_eq_nil_of_le (by rw [HN.out]; exact Nat.le_refl _)]
        rfl
      have HF := Lib.hid hfin
      clear hfin
      go_wp2_with fail
      go_ret
      exact ⟨by (rw [HF.out]); first | done | rfl, hbel⟩
theorem not_empty {text : ByteArray} (h : ¬ text = ByteArray.empty) : text.toList.isEmpty = false := by
  cases hh : strB text with
  | nil =>
    have h1 := strN_strB text
    rw [hh] at h1
    exact absurd (h1.symm.trans rfl) h
  | cons c l =>
    have h1 : text = strOfNums (c :: l) := by rw [← hh]; exact (strN_strB text).symm
    rw [h1, Lib.strOfNums_toList]
    rfl
end Go.Proofs.YtiggpcmikhojmaaGreatDoor
