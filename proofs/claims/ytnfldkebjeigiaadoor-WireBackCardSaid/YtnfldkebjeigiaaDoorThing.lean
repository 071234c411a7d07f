/- A thing of each form among the arguments, with the bounds of what hangs on it. Conditions: it is read as the row reads it, its weights are bounded. -/
import Derived.Test.YtnfldkebjeigiaaDoorEnts
import Derived.Test.YtnfldkebjeigiaaDoorRdrF
namespace Go.Proofs.YtnfldkebjeigiaaDoor
open Go.RowKit Go.ChangeShapes
set_option maxRecDepth 20000

def cmCells (c : Cm) : List Value := [.int .u8 c.kind, .string c.text, .slice c.ao c.args.length c.cap, .int .i64 c.num]
def rpCells (r : Rp) : List Value := [.int .i64 r.err, .int .i64 r.num, .slice r.fo r.facts.length r.fcap, .slice r.so r.said.length r.scap]
/-- A row of values among the arguments. -/
structure VasWf (ao : Option Addr) (xs : List Va) (cap : Nat) : Prop where
  all : ∀ v ∈ xs, VaArg v
  len : xs.length * 32 ≤ 140737488351232
  nil : ao = none → cap = 0
  cap : xs.length ≤ cap
structure FaWf (f : Fa) : Prop where
  id : (Lit.int .i64 f.id).wf = true
  ty : (Lit.int .i64 f.ty).wf = true
  args : VasWf f.ao f.args f.cap
structure CmWf (c : Cm) : Prop where
  kind : (Lit.int .u8 c.kind).wf = true
  text : c.text.size ≤ 140737488351232
  args : VasWf c.ao c.args c.cap
  num : (Lit.int .i64 c.num).wf = true
structure RpWf (r : Rp) : Prop where
  err : (Lit.int .i64 r.err).wf = true
  num : (Lit.int .i64 r.num).wf = true
  facts : ∀ f ∈ r.facts, FaWf f
  flen : r.facts.length * 40 ≤ 140737488351232
  fnil : r.fo = none → r.fcap = 0
  fcap : r.facts.length ≤ r.fcap
  said : VasWf r.so r.said r.scap
theorem cells_fa : Tryd.prog.cellsOf 27 = 3 := by kernel_rfl
theorem cells_rp : Tryd.prog.cellsOf 34 = 4 := by kernel_rfl
theorem cells_fas : Tryd.prog.cellsOf 32 = 1 := by kernel_rfl
theorem cells_er : Tryd.prog.cellsOf 31 = 1 := by kernel_rfl
theorem bytes_fa : Tryd.prog.bytesOf 27 = 40 := by kernel_rfl
theorem vas_el {H : Type} {enc : TypeId × Value → H} {W : World} {sp : Nat → Bool} {hd : Bool} (c : Value) (n : Nat) (y : DataW H) (pl : List MemPlace) (h : DataW.trod enc Tryd.prog W 0 sp hd n 25 [c] = some (y, pl)) (hz : DSized Tryd.prog 25 y) :
    ∃ ao xs cap, c = .slice ao (xs : List Va).length cap ∧ ValsIn W W.heap.size ao xs ∧ VasWf ao xs cap := by
  obtain ⟨ao, al, cap, e, t⟩ := slice_cell Tryd.underlying25 h
  obtain ⟨xs, rfl, ax, aq, anil, acap, alen⟩ := open_sized (k := 3) (cells := vaCells) (sub := noSub) VaArg Tryd.underlying25 cells_va (by decide) va_el t hz
  rw [bytes_va] at alen
  simp at e
  exact ⟨ao, xs, cap, e, ax, ⟨aq, alen, anil, acap⟩⟩
theorem fa_el {H : Type} {enc : TypeId × Value → H} {W : World} {sp : Nat → Bool} {hd : Bool} (cs : List Value) (n : Nat) (y : DataW H) (pl : List MemPlace) (hl : cs.length = 3) (h : DataW.trod enc Tryd.prog W 0 sp hd n 27 cs = some (y, pl)) (hz : DSized Tryd.prog 27 y) :
    ∃ x : Fa, faCells x = cs ∧ faSub W W.heap.size x ∧ FaWf x := by
  obtain ⟨c0, c1, c2, rfl⟩ : ∃ c0 c1 c2, cs = [c0, c1, c2] := by
    match cs, hl with
    | [c0, c1, c2], _ => exact ⟨c0, c1, c2, rfl⟩
  obtain ⟨xs, m, _, hx, _, hlen, hf⟩ := DataW.trod_struct Tryd.underlying27 h
  simp only [Prod.mk.injEq] at hx
  obtain ⟨rfl, _⟩ := hx
  match xs, hlen with
  | [y0, y1, y2], _ =>
    have h0 := hf 0 _ rfl
    have h1 := hf 1 _ rfl
    have h2 := hf 2 _ rfl
    have z2 := DSized.field Tryd.underlying27 hz (i := 2) (y := y2) rfl rfl
    simp [cells_i64, cells_vas] at h0 h1 h2
    obtain ⟨k0, e0, _, w0⟩ := DataW.trod_int Tryd.underlying3 h0
    obtain ⟨k1, e1, _, w1⟩ := DataW.trod_int Tryd.underlying3 h1
    obtain ⟨d2, p2⟩ := y2
    obtain ⟨ao, args, cap, e2, ax, aw⟩ := vas_el c2 _ _ _ h2 z2
    simp at e0 e1
    subst e0 e1 e2
    exact ⟨⟨k0, k1, ao, args, cap⟩, rfl, ax, ⟨w0, w1, aw⟩⟩
theorem cm_el {H : Type} {enc : TypeId × Value → H} {W : World} {sp : Nat → Bool} {hd : Bool} (cs : List Value) (n : Nat) (y : DataW H) (pl : List MemPlace) (hl : cs.length = 4) (h : DataW.trod enc Tryd.prog W 0 sp hd n 30 cs = some (y, pl)) (hz : DSized Tryd.prog 30 y) :
    ∃ x : Cm, cmCells x = cs ∧ ValsIn W W.heap.size x.ao x.args ∧ CmWf x := by
  obtain ⟨c0, c1, c2, c3, rfl⟩ : ∃ c0 c1 c2 c3, cs = [c0, c1, c2, c3] := by
    match cs, hl with
    | [c0, c1, c2, c3], _ => exact ⟨c0, c1, c2, c3, rfl⟩
  obtain ⟨xs, m, _, hx, _, hlen, hf⟩ := DataW.trod_struct Tryd.underlying30 h
  simp only [Prod.mk.injEq] at hx
  obtain ⟨rfl, _⟩ := hx
  match xs, hlen with
  | [y0, y1, y2, y3], _ =>
    have h0 := hf 0 _ rfl
    have h1 := hf 1 _ rfl
    have h2 := hf 2 _ rfl
    have h3 := hf 3 _ rfl
    have z1 := DSized.field Tryd.underlying30 hz (i := 1) (y := y1) rfl rfl
    have z2 := DSized.field Tryd.underlying30 hz (i := 2) (y := y2) rfl rfl
    simp [cells_i64, cells_ck, cells_str, cells_vas] at h0 h1 h2 h3
    obtain ⟨k0, e0, _, w0⟩ := DataW.trod_int Tryd.underlying28 h0
    obtain ⟨s, e1, d1, _⟩ := DataW.trod_string Tryd.underlying9 h1
    obtain ⟨d2, p2⟩ := y2
    obtain ⟨ao, args, cap, e2, ax, aw⟩ := vas_el c2 _ _ _ h2 z2
    obtain ⟨k3, e3, _, w3⟩ := DataW.trod_int Tryd.underlying3 h3
    rw [d1] at z1
    simp at e0 e1 e3
    subst e0 e1 e2 e3
    exact ⟨⟨k0, s, ao, args, cap, k3⟩, rfl, ax, ⟨w0, DSized.str z1, aw, w3⟩⟩
theorem rp_el {H : Type} {enc : TypeId × Value → H} {W : World} {sp : Nat → Bool} {hd : Bool} (cs : List Value) (n : Nat) (y : DataW H) (pl : List MemPlace) (hl : cs.length = 4) (h : DataW.trod enc Tryd.prog W 0 sp hd n 34 cs = some (y, pl)) (hz : DSized Tryd.prog 34 y) :
    ∃ x : Rp, rpCells x = cs ∧ rpSub W W.heap.size x ∧ RpWf x := by
  obtain ⟨c0, c1, c2, c3, rfl⟩ : ∃ c0 c1 c2 c3, cs = [c0, c1, c2, c3] := by
    match cs, hl with
    | [c0, c1, c2, c3], _ => exact ⟨c0, c1, c2, c3, rfl⟩
  obtain ⟨xs, m, _, hx, _, hlen, hf⟩ := DataW.trod_struct Tryd.underlying34 h
  simp only [Prod.mk.injEq] at hx
  obtain ⟨rfl, _⟩ := hx
  match xs, hlen with
  | [y0, y1, y2, y3], _ =>
    have h0 := hf 0 _ rfl
    have h1 := hf 1 _ rfl
    have h2 := hf 2 _ rfl
    have h3 := hf 3 _ rfl
    have z2 := DSized.field Tryd.underlying34 hz (i := 2) (y := y2) rfl rfl
    have z3 := DSized.field Tryd.underlying34 hz (i := 3) (y := y3) rfl rfl
    simp [cells_i64, cells_er, cells_fas, cells_vas] at h0 h1 h2 h3
    obtain ⟨k0, e0, _, w0⟩ := DataW.trod_int Tryd.underlying31 h0
    obtain ⟨k1, e1, _, w1⟩ := DataW.trod_int Tryd.underlying3 h1
    obtain ⟨fo, fl, fcap, e2, t2⟩ := slice_cell Tryd.underlying32 h2
    obtain ⟨facts, rfl, fx, fq, fnil, fc, flen⟩ := open_sized (k := 3) (cells := faCells) (sub := faSub) FaWf Tryd.underlying32 cells_fa (by decide) fa_el t2 z2
    rw [bytes_fa] at flen
    obtain ⟨d3, p3⟩ := y3
    obtain ⟨so, said, scap, e3, sx, sw⟩ := vas_el c3 _ _ _ h3 z3
    simp at e0 e1 e2
    subst e0 e1 e2 e3
    exact ⟨⟨k0, k1, fo, facts, fcap, so, said, scap⟩, rfl, ⟨fx, sx⟩, ⟨w0, w1, fq, flen, fnil, fc, sw⟩⟩
/-- A thing: one of each form. -/
structure Th where
  number : Int
  text : ByteArray
  value : Va
  vo : Option Addr
  values : List Va
  vcap : Nat
  fact : Fa
  command : Cm
  reply : Rp
  entry : En
def thCells (t : Th) : List Value := .int .i64 t.number :: .string t.text :: (vaCells t.value ++ (.slice t.vo t.values.length t.vcap :: (faCells t.fact ++ (cmCells t.command ++ (rpCells t.reply ++ enCells t.entry)))))
structure ThIn (W : World) (B : Nat) (t : Th) : Prop where
  values : ValsIn W B t.vo t.values
  fact : faSub W B t.fact
  command : ValsIn W B t.command.ao t.command.args
  reply : rpSub W B t.reply
  entry : enSub W B t.entry
structure ThWf (t : Th) : Prop where
  number : (Lit.int .i64 t.number).wf = true
  text : t.text.size ≤ 140737488351232
  value : VaArg t.value
  values : VasWf t.vo t.values t.vcap
  fact : FaWf t.fact
  command : CmWf t.command
  reply : RpWf t.reply
  entry : EnWf t.entry
theorem th_el {H : Type} {enc : TypeId × Value → H} {W : World} {sp : Nat → Bool} {hd : Bool} (cs : List Value) (n : Nat) (y : DataW H) (pl : List MemPlace) (hl : cs.length = 26) (h : DataW.trod enc Tryd.prog W 0 sp hd n 40 cs = some (y, pl)) (hz : DSized Tryd.prog 40 y) :
    ∃ x : Th, thCells x = cs ∧ ThIn W W.heap.size x ∧ ThWf x := by
  obtain ⟨c0, c1, c2, c3, c4, c5, c6, c7, c8, c9, c10, c11, c12, c13, c14, c15, c16, c17, c18, c19, c20, c21, c22, c23, c24, c25, rfl⟩ : ∃ c0 c1 c2 c3 c4 c5 c6 c7 c8 c9 c10 c11 c12 c13 c14 c15 c16 c17 c18 c19 c20 c21 c22 c23 c24 c25, cs = [c0, c1, c2, c3, c4, c5, c6, c7, c8, c9, c10, c11, c12, c13, c14, c15, c16, c17, c18, c19, c20, c21, c22, c23, c24, c25] := by
    match cs, hl with
    | [c0, c1, c2, c3, c4, c5, c6, c7, c8, c9, c10, c11, c12, c13, c14, c15, c16, c17, c18, c19, c20, c21, c22, c23, c24, c25], _ => exact ⟨c0, c1, c2, c3, c4, c5, c6, c7, c8, c9, c10, c11, c12, c13, c14, c15, c16, c17, c18, c19, c20, c21, c22, c23, c24, c25, rfl⟩
  obtain ⟨xs, m, _, hx, _, hlen, hf⟩ := DataW.trod_struct Tryd.underlying40 h
  simp only [Prod.mk.injEq] at hx
  obtain ⟨rfl, _⟩ := hx
  match xs, hlen with
  | [y0, y1, y2, y3, y4, y5, y6, y7], _ =>
    have h0 := hf 0 _ rfl
    have h1 := hf 1 _ rfl
    have h2 := hf 2 _ rfl
    have h3 := hf 3 _ rfl
    have h4 := hf 4 _ rfl
    have h5 := hf 5 _ rfl
    have h6 := hf 6 _ rfl
    have h7 := hf 7 _ rfl
    have z1 := DSized.field Tryd.underlying40 hz (i := 1) (y := y1) rfl rfl
    have z2 := DSized.field Tryd.underlying40 hz (i := 2) (y := y2) rfl rfl
    have z3 := DSized.field Tryd.underlying40 hz (i := 3) (y := y3) rfl rfl
    have z4 := DSized.field Tryd.underlying40 hz (i := 4) (y := y4) rfl rfl
    have z5 := DSized.field Tryd.underlying40 hz (i := 5) (y := y5) rfl rfl
    have z6 := DSized.field Tryd.underlying40 hz (i := 6) (y := y6) rfl rfl
    have z7 := DSized.field Tryd.underlying40 hz (i := 7) (y := y7) rfl rfl
    simp [cells_int64, cells_str, cells_va, cells_vas, cells_fa, cells_cm, cells_rp, cells_en] at h0 h1 h2 h3 h4 h5 h6 h7
    obtain ⟨k0, e0, _, w0⟩ := DataW.trod_int Tryd.underlying2 h0
    obtain ⟨s, e1, d1, _⟩ := DataW.trod_string Tryd.underlying9 h1
    rw [d1] at z1
    simp at e0 e1
    obtain ⟨d2, p2⟩ := y2
    obtain ⟨d3, p3⟩ := y3
    obtain ⟨d4, p4⟩ := y4
    obtain ⟨d5, p5⟩ := y5
    obtain ⟨d6, p6⟩ := y6
    obtain ⟨d7, p7⟩ := y7
    obtain ⟨v, e2, _, w2⟩ := va_el _ _ _ _ rfl h2 z2
    obtain ⟨vo, vs, vcap, e3, x3, w3⟩ := vas_el _ _ _ _ h3 z3
    obtain ⟨f, e4, x4, w4⟩ := fa_el _ _ _ _ rfl h4 z4
    obtain ⟨c, e5, x5, w5⟩ := cm_el _ _ _ _ rfl h5 z5
    obtain ⟨r, e6, x6, w6⟩ := rp_el _ _ _ _ rfl h6 z6
    obtain ⟨e, e7, x7, w7⟩ := en_el _ _ _ _ rfl h7 z7
    refine ⟨⟨k0, s, v, vo, vs, vcap, f, c, r, e⟩, ?_, ⟨x3, x4, x5, x6, x7⟩, ⟨w0, DSized.str z1, w2, w3, w4, w5, w6, w7⟩⟩
    unfold thCells
    dsimp only
    rw [e2, e4, e5, e6, e7, ← e0, ← e1, ← e3]
    rfl
theorem open_thing {H : Type} {enc : TypeId × Value → H} {W : World} {sp : Nat → Bool} {hd : Bool} {cs : Array Value} {d : DataW H} {p : List MemPlace} (hc : cs.size = Tryd.prog.cellsOf 40) (h : DataW.Trod enc Tryd.prog W 0 sp hd 40 (.agg cs) d p) (hz : DSized Tryd.prog 40 d) :
    ∃ t : Th, cs = (thCells t).toArray ∧ ThIn W W.heap.size t ∧ ThWf t := by
  have h26 : Tryd.prog.cellsOf 40 = 26 := by kernel_rfl
  obtain ⟨n, hn⟩ := h
  obtain ⟨t, e, x, w⟩ := th_el cs.toList n d p (by rw [Array.length_toList, hc, h26]) (by simpa [Value.cells] using hn) hz
  exact ⟨t, by rw [e], x, w⟩
end Go.Proofs.YtnfldkebjeigiaaDoor
