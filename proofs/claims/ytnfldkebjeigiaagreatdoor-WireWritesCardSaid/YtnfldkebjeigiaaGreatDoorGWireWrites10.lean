/- Entries among the arguments, with the bounds of what hangs on them. Conditions: they are read as the row reads them, their weights are bounded. -/
import Derived.Test.YtnfldkebjeigiaaGreatDoorGWireWrites4
import Derived.Test.YtnfldkebjeigiaaGreatDoorGWireWrites8
import Derived.Test.YtnfldkebjeigiaaGreatDoorGWireWrites5
set_option linter.unusedVariables false
namespace Go.Proofs.YtnfldkebjeigiaaGreatDoor
open Go.RowKit Go.ChangeShapes
set_option maxRecDepth 20000
/-- No part of a datum is heavier than memory may be. -/
def DSized {H : Type} (P : Program) (t : TypeId) (d : DataW H) : Prop := ∀ n ∈ d.weights P t, n ≤ reachBytes
/-- A struct among the arguments. -/
theorem okWide_struct {P : Program} {W : World} {b0 : Nat} {t : TypeId} {fs : Array Field} {v : Value} (ht : P.underlying t = some (.struct fs)) (hv : Value.okWide P W .any b0 t v) : ∃ cs, v = .agg cs ∧ cs.size = P.cellsOf t := by
  simp only [Value.okWide, ht] at hv
  obtain ⟨cs, rfl, hsz, _⟩ := hv
  exact ⟨cs, rfl, hsz⟩
theorem DSized.arg {H : Type} {P : Program} {ts : List TypeId} {ds : List (DataW H)} (hsz : (DataW.weightsEach P ts ds).all (· ≤ reachBytes) = true) (j : Nat) {t : TypeId} {d : DataW H} (hj : ts[j]? = some t) (hd : ds[j]? = some d) : DSized P t d := fun n hn => by
  have := List.all_eq_true.1 hsz n (DataW.weights_mem_each hj hd n hn)
  simpa using this
theorem DSized.field {H : Type} {P : Program} {t : TypeId} {fs : Array Field} {xs : List (DataW H × List MemPlace)} (ht : P.underlying t = some (.struct fs)) (h : DSized P t (.agg (xs.map (·.1)))) {i : Nat} {f : Field} {y : DataW H × List MemPlace} (hf : fs[i]? = some f) (hy : xs[i]? = some y) : DSized P f.type y.1 := fun n hn => by
  refine h n ?_
  simp only [DataW.weights, ht]
  exact DataW.weights_mem_each (j := i) (by simp [hf]) (by simp [hy]) n hn
theorem weights_mem_all {H : Type} {P : Program} {e : TypeId} : ∀ {ds : List (DataW H)} {d : DataW H}, d ∈ ds → ∀ n ∈ d.weights P e, n ∈ DataW.weightsAll P e ds
  | d0 :: ds, d, h, n, hn => by
    simp only [DataW.weightsAll, List.mem_append]
    rcases List.mem_cons.1 h with rfl | h
    · exact Or.inl hn
    · exact Or.inr (weights_mem_all h n hn)
theorem DSized.elem {H : Type} {P : Program} {t e : TypeId} {elems sp : List (DataW H)} (ht : P.underlying t = some (.slice e)) (h : DSized P t (.slice elems sp)) {x : DataW H} (hx : x ∈ elems) : DSized P e x := fun n hn => by
  refine h n ?_
  simp only [DataW.weights, ht, List.mem_cons, List.mem_append]
  exact Or.inr (Or.inl (weights_mem_all hx n hn))
theorem DSized.len {H : Type} {P : Program} {t e : TypeId} {elems sp : List (DataW H)} (ht : P.underlying t = some (.slice e)) (h : DSized P t (.slice elems sp)) : elems.length * P.bytesOf e ≤ reachBytes := by
  have := h ((elems.length + sp.length) * P.bytesOf e) (by simp [DataW.weights, ht])
  exact Nat.le_trans (Nat.mul_le_mul_right _ (Nat.le_add_right _ _)) this
theorem DSized.str {H : Type} {P : Program} {t : TypeId} {s : ByteArray} (h : DSized (H := H) P t (.lit (.string s.data.toList))) : s.size ≤ reachBytes := by
  have := h s.data.toList.length (by simp [DataW.weights])
  simpa using this
/-- A slice's elements: none, or at an address, each by its cells and its own reading, with the bounds. -/
theorem slice_sized {H : Type} {enc : TypeId × Value → H} {P : Program} {W : World} {base : Nat} {sp : Nat → Bool} {hd : Bool} {t e : TypeId} {ao : Option Addr} {len cap C : Nat} {d : DataW H} {p : List MemPlace}
    (ht : P.underlying t = some (.slice e)) (hC : P.cellsOf e = C) (hC0 : 0 < C) (h : DataW.Trod enc P W base sp hd t (.slice ao len cap) d p) (hz : DSized P t d) :
    len * P.bytesOf e ≤ reachBytes ∧ (len = 0 ∨ ∃ (b off n : Nat) (D : Nat → DataW H) (Pl : Nat → List MemPlace), ao = some ⟨b, off, none⟩ ∧ base ≤ b ∧ b < W.heap.size ∧
      ∀ i, i < len → DSized P e (D i) ∧ ∃ cs : List Value, cs.length = C ∧ (∀ j, j < C → W.cell? ⟨b, off + i * C + j, none⟩ = cs[j]?) ∧ DataW.trod enc P W base sp hd n e cs = some (D i, Pl i)) := by
  obtain ⟨fuel, hf⟩ := h
  rcases Go.Deep.open_slice ht hf with ⟨h0, _⟩ | ⟨a, len', cap', m, n, D, Pl, h0, hb, hl, hm, hmm, hd, hx⟩
  · simp [Value.cells] at h0
    obtain ⟨rfl, rfl, rfl⟩ := h0
    exact ⟨by simp, Or.inl rfl⟩
  · simp [Value.cells] at h0
    obtain ⟨rfl, rfl, rfl⟩ := h0
    simp only [Prod.mk.injEq] at hd
    obtain ⟨rfl, _⟩ := hd
    have hlen := DSized.len ht hz
    rw [List.length_map, List.length_range] at hlen
    refine ⟨hlen, ?_⟩
    by_cases hz0 : len = 0
    · exact Or.inl hz0
    · right
      have hlm : len ≤ m := by rw [hmm]; split <;> omega
      rw [hC] at hx
      obtain ⟨b, off, spot⟩ := a
      have hs : spot = none := by
        obtain ⟨cs', h1, _⟩ := hx 0 (by omega)
        have h2 := (World.cells?_some h1).2.2 0 hC0
        have h3 : cs'.length = C := (World.cells?_some h1).2.1
        rw [List.getElem?_eq_getElem (by omega)] at h2
        simpa [Addr.add] using World.cell?_spot h2
      subst hs
      refine ⟨b, off, n, D, Pl, rfl, hb, ?_, fun i hi => ⟨DSized.elem ht hz (List.mem_map.2 ⟨i, List.mem_range.2 hi, rfl⟩), ?_⟩⟩
      · obtain ⟨cs', h1, _⟩ := hx 0 (by omega)
        have h2 := World.cells?_block h1 hC0
        simpa [Addr.add] using h2
      · obtain ⟨cs', h1, h2⟩ := hx i (by omega)
        obtain ⟨_, h3, h4⟩ := World.cells?_some h1
        refine ⟨cs', h3, fun j hj => ?_, h2⟩
        have := h4 j hj
        rw [Go.Deep.add_add, Go.WideShapes.add_plain] at this
        rw [← this, Nat.add_assoc]
/-- A slice among the arguments, whose things are read one by one, with the bounds. -/
theorem open_sized {α : Type} {k : Nat} {cells : α → List Value} {sub : World → Nat → α → Prop} {H : Type} {enc : TypeId × Value → H} {P : Program} {W : World} {sp : Nat → Bool} {hd : Bool} {t e : TypeId} {ao : Option Addr} {len cap : Nat} {d : DataW H} {p : List MemPlace} (Q : α → Prop)
    (ht : P.underlying t = some (.slice e)) (hC : P.cellsOf e = k) (hk : 0 < k)
    (hel : ∀ (cs : List Value) (n : Nat) (y : DataW H) (pl : List MemPlace), cs.length = k → DataW.trod enc P W 0 sp hd n e cs = some (y, pl) → DSized P e y → ∃ x : α, cells x = cs ∧ sub W W.heap.size x ∧ Q x)
    (h : DataW.Trod enc P W 0 sp hd t (.slice ao len cap) d p) (hz : DSized P t d) :
    ∃ xs : List α, xs.length = len ∧ RowsIn k cells sub W W.heap.size ao xs ∧ (∀ x ∈ xs, Q x) ∧ (ao = none → cap = 0) ∧ len ≤ cap ∧ len * P.bytesOf e ≤ reachBytes := by
  obtain ⟨h1, h2, h3⟩ := slice_shape ht h
  obtain ⟨hm, h0 | ⟨b, off, n, D, Pl, e1, _, hb, hx⟩⟩ := slice_sized ht hC hk h hz
  · exact ⟨[], h0.symm, Or.inl rfl, (by intro x hx; cases hx), h3, h1, hm⟩
  · have hne : ∀ i, i < len → ∃ x : α, (∀ j, j < k → W.cell? ⟨b, off + i * k + j, none⟩ = (cells x)[j]?) ∧ sub W W.heap.size x ∧ Q x := by
      intro i hi
      obtain ⟨hzi, cs, hl, hc, ht'⟩ := hx i hi
      obtain ⟨x, rfl, hs, hq⟩ := hel cs n _ _ hl ht' hzi
      exact ⟨x, hc, hs, hq⟩
    have key : ∀ m, m ≤ len → ∃ xs : List α, xs.length = m ∧ (∀ x ∈ xs, Q x) ∧ ∀ (i : Nat) (x : α), xs[i]? = some x → (∀ j, j < k → W.cell? ⟨b, off + i * k + j, none⟩ = (cells x)[j]?) ∧ sub W W.heap.size x := by
      intro m
      induction m with
      | zero => intro _; exact ⟨[], rfl, (by intro x hx; cases hx), (by intro i x hx; simp at hx)⟩
      | succ m ih =>
        intro hm'
        obtain ⟨xs, e1, e2, e3⟩ := ih (by omega)
        obtain ⟨x, g1, g2, g3⟩ := hne m (by omega)
        refine ⟨xs ++ [x], by simp [e1], fun y hy => ?_, fun i y hy => ?_⟩
        · rcases List.mem_append.1 hy with hy | hy
          · exact e2 y hy
          · rw [List.mem_singleton.1 hy]; exact g3
        · by_cases hi : i < m
          · rw [List.getElem?_append_left (by omega)] at hy; exact e3 i y hy
          · rw [List.getElem?_append_right (by omega)] at hy
            have hi' : i = m := by
              rcases Nat.lt_or_ge (i - xs.length) 1 with hh | hh
              · omega
              · rw [List.getElem?_eq_none (by simpa using hh)] at hy; cases hy
            subst hi'
            rw [e1, Nat.sub_self] at hy
            obtain rfl : x = y := by simpa using hy
            exact ⟨g1, g2⟩
    obtain ⟨xs, q1, q2, q3⟩ := key len (Nat.le_refl _)
    exact ⟨xs, q1, Or.inr ⟨b, off, e1, hb, q3⟩, q2, h3, h1, hm⟩
/-- A value among the arguments. -/
def VaArg (v : Va) : Prop := (Lit.int .u8 v.kind).wf = true ∧ (Lit.int .i64 v.num).wf = true ∧ v.text.size ≤ reachBytes
theorem cells_va : Tryz.prog.cellsOf 24 = 3 := by kernel_rfl
theorem cells_en : Tryz.prog.cellsOf 38 = 9 := by kernel_rfl
theorem cells_cm : Tryz.prog.cellsOf 30 = 4 := by kernel_rfl
theorem cells_i64 : Tryz.prog.cellsOf 3 = 1 := by kernel_rfl
theorem cells_int64 : Tryz.prog.cellsOf 2 = 1 := by kernel_rfl
theorem cells_str : Tryz.prog.cellsOf 9 = 1 := by kernel_rfl
theorem cells_ek : Tryz.prog.cellsOf 35 = 1 := by kernel_rfl
theorem cells_vk : Tryz.prog.cellsOf 22 = 1 := by kernel_rfl
theorem cells_ck : Tryz.prog.cellsOf 28 = 1 := by kernel_rfl
theorem cells_vas : Tryz.prog.cellsOf 25 = 1 := by kernel_rfl
theorem cells_ints : Tryz.prog.cellsOf 36 = 1 := by kernel_rfl
theorem va_el {H : Type} {enc : TypeId × Value → H} {W : World} {sp : Nat → Bool} {hd : Bool} (cs : List Value) (n : Nat) (y : DataW H) (pl : List MemPlace) (hl : cs.length = 3) (h : DataW.trod enc Tryz.prog W 0 sp hd n 24 cs = some (y, pl)) (hz : DSized Tryz.prog 24 y) :
    ∃ x : Va, vaCells x = cs ∧ noSub W W.heap.size x ∧ VaArg x := by
  obtain ⟨c0, c1, c2, rfl⟩ : ∃ c0 c1 c2, cs = [c0, c1, c2] := by
    match cs, hl with
    | [c0, c1, c2], _ => exact ⟨c0, c1, c2, rfl⟩
  obtain ⟨xs, m, _, hx, _, hlen, hf⟩ := DataW.trod_struct Tryz.underlying24 h
  simp only [Prod.mk.injEq] at hx
  obtain ⟨rfl, _⟩ := hx
  match xs, hlen with
  | [y0, y1, y2], _ =>
    have h0 := hf 0 _ rfl
    have h1 := hf 1 _ rfl
    have h2 := hf 2 _ rfl
    simp [cells_vk, cells_int64, cells_str] at h0 h1 h2
    obtain ⟨k0, e0, _, w0⟩ := DataW.trod_int Tryz.underlying22 h0
    obtain ⟨k1, e1, _, w1⟩ := DataW.trod_int Tryz.underlying2 h1
    obtain ⟨s, e2, d2, _⟩ := DataW.trod_string Tryz.underlying9 h2
    have z2 := DSized.field Tryz.underlying24 hz (i := 2) (y := y2) rfl rfl
    rw [d2] at z2
    simp at e0 e1 e2
    subst e0 e1 e2
    exact ⟨⟨k0, k1, s⟩, rfl, trivial, w0, w1, DSized.str z2⟩
theorem i_el {H : Type} {enc : TypeId × Value → H} {W : World} {sp : Nat → Bool} {hd : Bool} (cs : List Value) (n : Nat) (y : DataW H) (pl : List MemPlace) (hl : cs.length = 1) (h : DataW.trod enc Tryz.prog W 0 sp hd n 3 cs = some (y, pl)) (_ : DSized Tryz.prog 3 y) :
    ∃ x : Int, iCells x = cs ∧ noSub W W.heap.size x ∧ (Lit.int .i64 x).wf = true := by
  obtain ⟨k0, e0, _, w0⟩ := DataW.trod_int Tryz.underlying3 h
  exact ⟨k0, e0.symm, trivial, w0⟩
/-- An entry among the arguments. -/
structure EnWf (e : En) : Prop where
  term : (Lit.int .i64 e.term).wf = true
  kind : (Lit.int .u8 e.kind).wf = true
  session : (Lit.int .i64 e.session).wf = true
  seq : (Lit.int .i64 e.seq).wf = true
  ck : (Lit.int .u8 e.ck).wf = true
  text : e.text.size ≤ 140737488351232
  args : ∀ v ∈ e.args, VaArg v
  num : (Lit.int .i64 e.num).wf = true
  vs : ∀ v ∈ e.vs, (Lit.int .i64 v).wf = true
  argn : e.args.length * 32 ≤ 140737488351232
  vn : e.vs.length * 8 ≤ 140737488351232
  anil : e.aao = none → e.acap = 0
  vnil : e.vao = none → e.vcap = 0
  acap : e.args.length ≤ e.acap
  vcap : e.vs.length ≤ e.vcap
theorem bytes_va : Tryz.prog.bytesOf 24 = 32 := by kernel_rfl
theorem bytes_i : Tryz.prog.bytesOf 3 = 8 := by kernel_rfl
theorem bytes_en : Tryz.prog.bytesOf 38 = 112 := by kernel_rfl
theorem en_el {H : Type} {enc : TypeId × Value → H} {W : World} {sp : Nat → Bool} {hd : Bool} (cs : List Value) (n : Nat) (y : DataW H) (pl : List MemPlace) (hl : cs.length = 9) (h : DataW.trod enc Tryz.prog W 0 sp hd n 38 cs = some (y, pl)) (hz : DSized Tryz.prog 38 y) :
    ∃ x : En, enCells x = cs ∧ enSub W W.heap.size x ∧ EnWf x := by
  obtain ⟨c0, c1, c2, c3, c4, c5, c6, c7, c8, rfl⟩ : ∃ c0 c1 c2 c3 c4 c5 c6 c7 c8, cs = [c0, c1, c2, c3, c4, c5, c6, c7, c8] := by
    match cs, hl with
    | [c0, c1, c2, c3, c4, c5, c6, c7, c8], _ => exact ⟨c0, c1, c2, c3, c4, c5, c6, c7, c8, rfl⟩
  obtain ⟨xs, m, _, hx, _, hlen, hf⟩ := DataW.trod_struct Tryz.underlying38 h
  simp only [Prod.mk.injEq] at hx
  obtain ⟨rfl, _⟩ := hx
  match xs, hlen with
  | [y0, y1, y2, y3, y4, y5], _ =>
    have h0 := hf 0 _ rfl
    have h1 := hf 1 _ rfl
    have h2 := hf 2 _ rfl
    have h3 := hf 3 _ rfl
    have h4 := hf 4 _ rfl
    have h5 := hf 5 _ rfl
    have z4 := DSized.field Tryz.underlying38 hz (i := 4) (y := y4) rfl rfl
    have z5 := DSized.field Tryz.underlying38 hz (i := 5) (y := y5) rfl rfl
    simp [cells_i64, cells_ek, cells_cm, cells_ints] at h0 h1 h2 h3 h4 h5
    obtain ⟨k0, e0, _, w0⟩ := DataW.trod_int Tryz.underlying3 h0
    obtain ⟨k1, e1, _, w1⟩ := DataW.trod_int Tryz.underlying35 h1
    obtain ⟨k2, e2, _, w2⟩ := DataW.trod_int Tryz.underlying3 h2
    obtain ⟨k3, e3, _, w3⟩ := DataW.trod_int Tryz.underlying3 h3
    obtain ⟨va, vl, vc, e5, t5⟩ := slice_cell Tryz.underlying36 h5
    obtain ⟨vs, rfl, vx, vq, vnil, vcap, vlen⟩ := open_sized (k := 1) (cells := iCells) (sub := noSub) (fun x => (Lit.int .i64 x).wf = true) Tryz.underlying36 cells_i64 (by decide) i_el t5 z5
    obtain ⟨ys, m4, _, hy, _, hlen4, hf4⟩ := DataW.trod_struct Tryz.underlying30 h4
    obtain ⟨d4, p4⟩ := y4
    simp only [Prod.mk.injEq] at hy
    obtain ⟨rfl, _⟩ := hy
    match ys, hlen4 with
    | [u0, u1, u2, u3], _ =>
      have g0 := hf4 0 _ rfl
      have g1 := hf4 1 _ rfl
      have g2 := hf4 2 _ rfl
      have g3 := hf4 3 _ rfl
      have q1 := DSized.field Tryz.underlying30 z4 (i := 1) (y := u1) rfl rfl
      have q2 := DSized.field Tryz.underlying30 z4 (i := 2) (y := u2) rfl rfl
      simp [cells_i64, cells_ck, cells_str, cells_vas] at g0 g1 g2 g3
      obtain ⟨k4, e4, _, w4⟩ := DataW.trod_int Tryz.underlying28 g0
      obtain ⟨s, e6, d6, _⟩ := DataW.trod_string Tryz.underlying9 g1
      obtain ⟨aa, al, ac, e7, t7⟩ := slice_cell Tryz.underlying25 g2
      obtain ⟨args, rfl, ax, aq, anil, acap, alen⟩ := open_sized (k := 3) (cells := vaCells) (sub := noSub) VaArg Tryz.underlying25 cells_va (by decide) va_el t7 q2
      obtain ⟨k8, e8, _, w8⟩ := DataW.trod_int Tryz.underlying3 g3
      rw [d6] at q1
      simp at e0 e1 e2 e3 e4 e5 e6 e7 e8
      subst e0 e1 e2 e3 e4 e5 e6 e7 e8
      rw [bytes_va] at alen
      rw [bytes_i] at vlen
      exact ⟨⟨k0, k1, k2, k3, k4, s, aa, args, ac, k8, va, vs, vc⟩, rfl, ⟨ax, vx⟩, ⟨w0, w1, w2, w3, w4, DSized.str q1, aq, w8, vq, alen, vlen, anil, vnil, acap, vcap⟩⟩
/-- Entries among the arguments. -/
theorem open_entries {H : Type} {enc : TypeId × Value → H} {W : World} {sp : Nat → Bool} {hd : Bool} {ao : Option Addr} {len cap : Nat} {d : DataW H} {p : List MemPlace} (h : DataW.Trod enc Tryz.prog W 0 sp hd 72 (.slice ao len cap) d p) (hz : DSized Tryz.prog 72 d) :
    ∃ es : List En, es.length = len ∧ EnsIn W W.heap.size ao es ∧ (∀ e ∈ es, EnWf e) ∧ (ao = none → cap = 0) ∧ len ≤ cap ∧ len * 112 ≤ 140737488351232 := by
  obtain ⟨es, h1, h2, h3, h4, h5, h6⟩ := open_sized (k := 9) (cells := enCells) (sub := enSub) EnWf Tryz.underlying72 cells_en (by decide) en_el h hz
  rw [bytes_en] at h6
  exact ⟨es, h1, h2, h3, h4, h5, h6⟩
end Go.Proofs.YtnfldkebjeigiaaGreatDoor
/- A thing of each form among the arguments, with the bounds of what hangs on it. Conditions: it is read as the row reads it, its weights are bounded. -/
namespace Go.Proofs.YtnfldkebjeigiaaGreatDoor
open Go.RowKit Go.ChangeShapes
set_option maxRecDepth 20000
def cmCells (c : Cm) : List Value := [.int .u8 c.kind, .string c.text, .slice c.ao c.args.length c.cap, .int .i64 c.num]
def rpCells (r : Rp) : List Value := [.int .i64 r.err, .int .i64 r.num, .slice r.fo r.facts.length r.fcap, .slice r.so r.said.length r.scap]
/-- A row of values among the arguments. -/
structure VasWf (ao : Option Addr) (xs : List Va) (cap : Nat) : Prop where
  all : ∀ v ∈ xs, VaArg v
  len : xs.length * 32 ≤ 140737488351232
  nil : ao = none → cap = 0
  cap : xs.length ≤ cap
structure FaWf (f : Fa) : Prop where
  id : (Lit.int .i64 f.id).wf = true
  ty : (Lit.int .i64 f.ty).wf = true
  args : VasWf f.ao f.args f.cap
structure CmWf (c : Cm) : Prop where
  kind : (Lit.int .u8 c.kind).wf = true
  text : c.text.size ≤ 140737488351232
  args : VasWf c.ao c.args c.cap
  num : (Lit.int .i64 c.num).wf = true
structure RpWf (r : Rp) : Prop where
  err : (Lit.int .i64 r.err).wf = true
  num : (Lit.int .i64 r.num).wf = true
  facts : ∀ f ∈ r.facts, FaWf f
  flen : r.facts.length * 40 ≤ 140737488351232
  fnil : r.fo = none → r.fcap = 0
  fcap : r.facts.length ≤ r.fcap
  said : VasWf r.so r.said r.scap
theorem cells_fa : Tryz.prog.cellsOf 27 = 3 := by kernel_rfl
theorem cells_rp : Tryz.prog.cellsOf 34 = 4 := by kernel_rfl
theorem cells_fas : Tryz.prog.cellsOf 32 = 1 := by kernel_rfl
theorem cells_er : Tryz.prog.cellsOf 31 = 1 := by kernel_rfl
theorem bytes_fa : Tryz.prog.bytesOf 27 = 40 := by kernel_rfl
theorem vas_el {H : Type} {enc : TypeId × Value → H} {W : World} {sp : Nat → Bool} {hd : Bool} (c : Value) (n : Nat) (y : DataW H) (pl : List MemPlace) (h : DataW.trod enc Tryz.prog W 0 sp hd n 25 [c] = some (y, pl)) (hz : DSized Tryz.prog 25 y) :
    ∃ ao xs cap, c = .slice ao (xs : List Va).length cap ∧ ValsIn W W.heap.size ao xs ∧ VasWf ao xs cap := by
  obtain ⟨ao, al, cap, e, t⟩ := slice_cell Tryz.underlying25 h
  obtain ⟨xs, rfl, ax, aq, anil, acap, alen⟩ := open_sized (k := 3) (cells := vaCells) (sub := noSub) VaArg Tryz.underlying25 cells_va (by decide) va_el t hz
  rw [bytes_va] at alen
  simp at e
  exact ⟨ao, xs, cap, e, ax, ⟨aq, alen, anil, acap⟩⟩
theorem fa_el {H : Type} {enc : TypeId × Value → H} {W : World} {sp : Nat → Bool} {hd : Bool} (cs : List Value) (n : Nat) (y : DataW H) (pl : List MemPlace) (hl : cs.length = 3) (h : DataW.trod enc Tryz.prog W 0 sp hd n 27 cs = some (y, pl)) (hz : DSized Tryz.prog 27 y) :
    ∃ x : Fa, faCells x = cs ∧ faSub W W.heap.size x ∧ FaWf x := by
  obtain ⟨c0, c1, c2, rfl⟩ : ∃ c0 c1 c2, cs = [c0, c1, c2] := by
    match cs, hl with
    | [c0, c1, c2], _ => exact ⟨c0, c1, c2, rfl⟩
  obtain ⟨xs, m, _, hx, _, hlen, hf⟩ := DataW.trod_struct Tryz.underlying27 h
  simp only [Prod.mk.injEq] at hx
  obtain ⟨rfl, _⟩ := hx
  match xs, hlen with
  | [y0, y1, y2], _ =>
    have h0 := hf 0 _ rfl
    have h1 := hf 1 _ rfl
    have h2 := hf 2 _ rfl
    have z2 := DSized.field Tryz.underlying27 hz (i := 2) (y := y2) rfl rfl
    simp [cells_i64, cells_vas] at h0 h1 h2
    obtain ⟨k0, e0, _, w0⟩ := DataW.trod_int Tryz.underlying3 h0
    obtain ⟨k1, e1, _, w1⟩ := DataW.trod_int Tryz.underlying3 h1
    obtain ⟨d2, p2⟩ := y2
    obtain ⟨ao, args, cap, e2, ax, aw⟩ := vas_el c2 _ _ _ h2 z2
    simp at e0 e1
    subst e0 e1 e2
    exact ⟨⟨k0, k1, ao, args, cap⟩, rfl, ax, ⟨w0, w1, aw⟩⟩
theorem cm_el {H : Type} {enc : TypeId × Value → H} {W : World} {sp : Nat → Bool} {hd : Bool} (cs : List Value) (n : Nat) (y : DataW H) (pl : List MemPlace) (hl : cs.length = 4) (h : DataW.trod enc Tryz.prog W 0 sp hd n 30 cs = some (y, pl)) (hz : DSized Tryz.prog 30 y) :
    ∃ x : Cm, cmCells x = cs ∧ ValsIn W W.heap.size x.ao x.args ∧ CmWf x := by
  obtain ⟨c0, c1, c2, c3, rfl⟩ : ∃ c0 c1 c2 c3, cs = [c0, c1, c2, c3] := by
    match cs, hl with
    | [c0, c1, c2, c3], _ => exact ⟨c0, c1, c2, c3, rfl⟩
  obtain ⟨xs, m, _, hx, _, hlen, hf⟩ := DataW.trod_struct Tryz.underlying30 h
  simp only [Prod.mk.injEq] at hx
  obtain ⟨rfl, _⟩ := hx
  match xs, hlen with
  | [y0, y1, y2, y3], _ =>
    have h0 := hf 0 _ rfl
    have h1 := hf 1 _ rfl
    have h2 := hf 2 _ rfl
    have h3 := hf 3 _ rfl
    have z1 := DSized.field Tryz.underlying30 hz (i := 1) (y := y1) rfl rfl
    have z2 := DSized.field Tryz.underlying30 hz (i := 2) (y := y2) rfl rfl
    simp [cells_i64, cells_ck, cells_str, cells_vas] at h0 h1 h2 h3
    obtain ⟨k0, e0, _, w0⟩ := DataW.trod_int Tryz.underlying28 h0
    obtain ⟨s, e1, d1, _⟩ := DataW.trod_string Tryz.underlying9 h1
    obtain ⟨d2, p2⟩ := y2
    obtain ⟨ao, args, cap, e2, ax, aw⟩ := vas_el c2 _ _ _ h2 z2
    obtain ⟨k3, e3, _, w3⟩ := DataW.trod_int Tryz.underlying3 h3
    rw [d1] at z1
    simp at e0 e1 e3
    subst e0 e1 e2 e3
    exact ⟨⟨k0, s, ao, args, cap, k3⟩, rfl, ax, ⟨w0, DSized.str z1, aw, w3⟩⟩
theorem rp_el {H : Type} {enc : TypeId × Value → H} {W : World} {sp : Nat → Bool} {hd : Bool} (cs : List Value) (n : Nat) (y : DataW H) (pl : List MemPlace) (hl : cs.length = 4) (h : DataW.trod enc Tryz.prog W 0 sp hd n 34 cs = some (y, pl)) (hz : DSized Tryz.prog 34 y) :
    ∃ x : Rp, rpCells x = cs ∧ rpSub W W.heap.size x ∧ RpWf x := by
  obtain ⟨c0, c1, c2, c3, rfl⟩ : ∃ c0 c1 c2 c3, cs = [c0, c1, c2, c3] := by
    match cs, hl with
    | [c0, c1, c2, c3], _ => exact ⟨c0, c1, c2, c3, rfl⟩
  obtain ⟨xs, m, _, hx, _, hlen, hf⟩ := DataW.trod_struct Tryz.underlying34 h
  simp only [Prod.mk.injEq] at hx
  obtain ⟨rfl, _⟩ := hx
  match xs, hlen with
  | [y0, y1, y2, y3], _ =>
    have h0 := hf 0 _ rfl
    have h1 := hf 1 _ rfl
    have h2 := hf 2 _ rfl
    have h3 := hf 3 _ rfl
    have z2 := DSized.field Tryz.underlying34 hz (i := 2) (y := y2) rfl rfl
    have z3 := DSized.field Tryz.underlying34 hz (i := 3) (y := y3) rfl rfl
    simp [cells_i64, cells_er, cells_fas, cells_vas] at h0 h1 h2 h3
    obtain ⟨k0, e0, _, w0⟩ := DataW.trod_int Tryz.underlying31 h0
    obtain ⟨k1, e1, _, w1⟩ := DataW.trod_int Tryz.underlying3 h1
    obtain ⟨fo, fl, fcap, e2, t2⟩ := slice_cell Tryz.underlying32 h2
    obtain ⟨facts, rfl, fx, fq, fnil, fc, flen⟩ := open_sized (k := 3) (cells := faCells) (sub := faSub) FaWf Tryz.underlying32 cells_fa (by decide) fa_el t2 z2
    rw [bytes_fa] at flen
    obtain ⟨d3, p3⟩ := y3
    obtain ⟨so, said, scap, e3, sx, sw⟩ := vas_el c3 _ _ _ h3 z3
    simp at e0 e1 e2
    subst e0 e1 e2 e3
    exact ⟨⟨k0, k1, fo, facts, fcap, so, said, scap⟩, rfl, ⟨fx, sx⟩, ⟨w0, w1, fq, flen, fnil, fc, sw⟩⟩
/-- A thing: one of each form. -/
structure Th where
  number : Int
  text : ByteArray
  value : Va
  vo : Option Addr
  values : List Va
  vcap : Nat
  fact : Fa
  command : Cm
  reply : Rp
  entry : En
def thCells (t : Th) : List Value := .int .i64 t.number :: .string t.text :: (vaCells t.value ++ (.slice t.vo t.values.length t.vcap :: (faCells t.fact ++ (cmCells t.command ++ (rpCells t.reply ++ enCells t.entry)))))
structure ThIn (W : World) (B : Nat) (t : Th) : Prop where
  values : ValsIn W B t.vo t.values
  fact : faSub W B t.fact
  command : ValsIn W B t.command.ao t.command.args
  reply : rpSub W B t.reply
  entry : enSub W B t.entry
structure ThWf (t : Th) : Prop where
  number : (Lit.int .i64 t.number).wf = true
  text : t.text.size ≤ 140737488351232
  value : VaArg t.value
  values : VasWf t.vo t.values t.vcap
  fact : FaWf t.fact
  command : CmWf t.command
  reply : RpWf t.reply
  entry : EnWf t.entry
theorem th_el {H : Type} {enc : TypeId × Value → H} {W : World} {sp : Nat → Bool} {hd : Bool} (cs : List Value) (n : Nat) (y : DataW H) (pl : List MemPlace) (hl : cs.length = 26) (h : DataW.trod enc Tryz.prog W 0 sp hd n 40 cs = some (y, pl)) (hz : DSized Tryz.prog 40 y) :
    ∃ x : Th, thCells x = cs ∧ ThIn W W.heap.size x ∧ ThWf x := by
  obtain ⟨c0, c1, c2, c3, c4, c5, c6, c7, c8, c9, c10, c11, c12, c13, c14, c15, c16, c17, c18, c19, c20, c21, c22, c23, c24, c25, rfl⟩ : ∃ c0 c1 c2 c3 c4 c5 c6 c7 c8 c9 c10 c11 c12 c13 c14 c15 c16 c17 c18 c19 c20 c21 c22 c23 c24 c25, cs = [c0, c1, c2, c3, c4, c5, c6, c7, c8, c9, c10, c11, c12, c13, c14, c15, c16, c17, c18, c19, c20, c21, c22, c23, c24, c25] := by
    match cs, hl with
    | [c0, c1, c2, c3, c4, c5, c6, c7, c8, c9, c10, c11, c12, c13, c14, c15, c16, c17, c18, c19, c20, c21, c22, c23, c24, c25], _ => exact ⟨c0, c1, c2, c3, c4, c5, c6, c7, c8, c9, c10, c11, c12, c13, c14, c15, c16, c17, c18, c19, c20, c21, c22, c23, c24, c25, rfl⟩
  obtain ⟨xs, m, _, hx, _, hlen, hf⟩ := DataW.trod_struct Tryz.underlying40 h
  simp only [Prod.mk.injEq] at hx
  obtain ⟨rfl, _⟩ := hx
  match xs, hlen with
  | [y0, y1, y2, y3, y4, y5, y6, y7], _ =>
    have h0 := hf 0 _ rfl
    have h1 := hf 1 _ rfl
    have h2 := hf 2 _ rfl
    have h3 := hf 3 _ rfl
    have h4 := hf 4 _ rfl
    have h5 := hf 5 _ rfl
    have h6 := hf 6 _ rfl
    have h7 := hf 7 _ rfl
    have z1 := DSized.field Tryz.underlying40 hz (i := 1) (y := y1) rfl rfl
    have z2 := DSized.field Tryz.underlying40 hz (i := 2) (y := y2) rfl rfl
    have z3 := DSized.field Tryz.underlying40 hz (i := 3) (y := y3) rfl rfl
    have z4 := DSized.field Tryz.underlying40 hz (i := 4) (y := y4) rfl rfl
    have z5 := DSized.field Tryz.underlying40 hz (i := 5) (y := y5) rfl rfl
    have z6 := DSized.field Tryz.underlying40 hz (i := 6) (y := y6) rfl rfl
    have z7 := DSized.field Tryz.underlying40 hz (i := 7) (y := y7) rfl rfl
    simp [cells_int64, cells_str, cells_va, cells_vas, cells_fa, cells_cm, cells_rp, cells_en] at h0 h1 h2 h3 h4 h5 h6 h7
    obtain ⟨k0, e0, _, w0⟩ := DataW.trod_int Tryz.underlying2 h0
    obtain ⟨s, e1, d1, _⟩ := DataW.trod_string Tryz.underlying9 h1
    rw [d1] at z1
    simp at e0 e1
    obtain ⟨d2, p2⟩ := y2
    obtain ⟨d3, p3⟩ := y3
    obtain ⟨d4, p4⟩ := y4
    obtain ⟨d5, p5⟩ := y5
    obtain ⟨d6, p6⟩ := y6
    obtain ⟨d7, p7⟩ := y7
    obtain ⟨v, e2, _, w2⟩ := va_el _ _ _ _ rfl h2 z2
    obtain ⟨vo, vs, vcap, e3, x3, w3⟩ := vas_el _ _ _ _ h3 z3
    obtain ⟨f, e4, x4, w4⟩ := fa_el _ _ _ _ rfl h4 z4
    obtain ⟨c, e5, x5, w5⟩ := cm_el _ _ _ _ rfl h5 z5
    obtain ⟨r, e6, x6, w6⟩ := rp_el _ _ _ _ rfl h6 z6
    obtain ⟨e, e7, x7, w7⟩ := en_el _ _ _ _ rfl h7 z7
    refine ⟨⟨k0, s, v, vo, vs, vcap, f, c, r, e⟩, ?_, ⟨x3, x4, x5, x6, x7⟩, ⟨w0, DSized.str z1, w2, w3, w4, w5, w6, w7⟩⟩
    unfold thCells
    dsimp only
    rw [e2, e4, e5, e6, e7, ← e0, ← e1, ← e3]
    rfl
theorem open_thing {H : Type} {enc : TypeId × Value → H} {W : World} {sp : Nat → Bool} {hd : Bool} {cs : Array Value} {d : DataW H} {p : List MemPlace} (hc : cs.size = Tryz.prog.cellsOf 40) (h : DataW.Trod enc Tryz.prog W 0 sp hd 40 (.agg cs) d p) (hz : DSized Tryz.prog 40 d) :
    ∃ t : Th, cs = (thCells t).toArray ∧ ThIn W W.heap.size t ∧ ThWf t := by
  have h26 : Tryz.prog.cellsOf 40 = 26 := by kernel_rfl
  obtain ⟨n, hn⟩ := h
  obtain ⟨t, e, x, w⟩ := th_el cs.toList n d p (by rw [Array.length_toList, hc, h26]) (by simpa [Value.cells] using hn) hz
  exact ⟨t, by rw [e], x, w⟩
end Go.Proofs.YtnfldkebjeigiaaGreatDoor
/- The writer's facts, commands; Fact, Command, Reply, Entry of wire. Conditions: what is written is not too long. -/
namespace Go.Proofs.YtnfldkebjeigiaaGreatDoor
open Go.RowKit
set_option maxRecDepth 20000
def factB (f : FaP) : List Int := numB 8 f.id ++ (numB 8 f.ty ++ valuesB f.args)
def replyB (r : RpP) : List Int := numB 8 r.err ++ (numB 8 r.num ++ (numB 4 r.facts.length ++ (r.facts.flatMap factB ++ valuesB r.said)))
/-- A block that is no row of bytes stays where the writer writes. -/
theorem Wrote.sits {B b g : Nat} {bs : List Int} {w w' : World} {cs : Array Value} {T : TypeId} (h : Wrote B b bs w w') (hs : w.heap[g]? = some (.cells cs T (0, 0))) (hn : g ≠ b) (hT : T ≠ 5) : w'.heap[g]? = some (.cells cs T (0, 0)) :=
  h.2.2 g _ hs (by simpa using hn) (by intro c fz hh; injection hh with _ h2 _; exact hT h2)
set_option maxHeartbeats 1000000 in
theorem fact_any (B b : Nat) (bs : List Int) (id ty : Int) (ao : Option Addr) (n cap : Nat) (args : List Va) (w : World) (hn : args.length = n) (hx : ValsIn w B ao args) (htx : ∀ v ∈ args, v.text.size ≤ 1099511627776) (h : BufIs w B b bs) (hBw : B ≤ w.heap.size) (hnl : n ≤ 1099511627776) (hlim : bs.length + (valuesB args).length + 20 ≤ 100000000000) :
    Calls Tryz.prog 65 #[.pointer (some ⟨b, 0, none⟩), .agg #[.int .i64 id, .int .i64 ty, .slice ao n cap]] w fun e w' => e = .returned (.tuple #[]) ∧ Wrote B b (bs ++ factB ⟨id, ty, args⟩) w w' := by
  have h1 := (Wrote.start h).alloc hBw (.cells #[.int .i64 id, .int .i64 ty, .slice ao n cap] 27)
  have hblk := heap_alloc_new w (.cells #[.int .i64 id, .int .i64 ty, .slice ao n cap] 27)
  have hbl := h.lt
  have hs0 : (w.alloc (.cells #[.int .i64 id, .int .i64 ty, .slice ao n cap] 27)).heap.size = w.heap.size + 1 := by simp
  have HS0 := Lib.hid hs0
  have H1 := Lib.hid h1
  have HBLK := Lib.hid hblk
  have HX := Lib.hid hx
  have HN := Lib.hid hn
  have HTX := Lib.hid htx
  clear h h1 hblk hx hn htx hs0
  go_enter Tryz.func65, Tryz.ntmps65
  go_wp2_with fail
  have h1 := H1.out
  have hd := HBLK.out
  have hs0 := HS0.out
  generalize (w.alloc (.cells #[.int .i64 id, .int .i64 ty, .slice ao n cap] 27)) = w0 at h1 hd hs0 ⊢
  have H1 := Lib.hid h1
  have HD := Lib.hid hd
  clear h1 hd
  refine (put2_any B b 8 _ bs id ty w0 hs0 (by omega) (by omega) H1.out.1 (Nat.le_trans hBw H1.out.2.1.size) (by omega)).mono ?_
  rintro e w2 ⟨rfl, hw2⟩
  have hd := hw2.sits HD.out (by omega) (by decide)
  have d2 : w2.cell? ⟨w.heap.size, 2, none⟩ = some (.slice ao n cap) := Go.Joins.cell_of_block hd 2
  have H2 := Lib.hid (H1.out.trans hw2)
  clear hw2 hd H1 HD HBLK HS0 hs0
  go_wp2_with fail
  refine (values_any B b _ ao n cap args w2 HN.out (HX.out.below noSub_kept H2.out.2.1 (Nat.le_refl _)) HTX.out H2.out.1 (Nat.le_trans hBw H2.out.2.1.size) (by simp only [List.length_append, numB_len]; omega) hnl (by simp only [List.length_append, numB_len]; omega)).mono ?_
  rintro e w3 ⟨rfl, hw3⟩
  have hw4 := H2.out.trans hw3
  rw [List.append_assoc, List.append_assoc] at hw4
  have H4 := Lib.hid hw4
  clear hw3 hw4 d2
  go_wp2_with fail
  go_end0
  exact ⟨rfl, H4.out⟩
set_option maxHeartbeats 1000000 in
theorem command_any (B b : Nat) (bs : List Int) (ck : Int) (text : ByteArray) (ao : Option Addr) (n cap : Nat) (num : Int) (args : List Va) (w : World) (hn : args.length = n) (hx : ValsIn w B ao args) (htx : ∀ v ∈ args, v.text.size ≤ 1099511627776) (h : BufIs w B b bs) (hBw : B ≤ w.heap.size) (hnl : n ≤ 1099511627776) (hlim : bs.length + text.size + (valuesB args).length + 40 ≤ 100000000000) :
    Calls Tryz.prog 66 #[.pointer (some ⟨b, 0, none⟩), .agg #[.int .u8 ck, .string text, .slice ao n cap, .int .i64 num]] w fun e w' => e = .returned (.tuple #[]) ∧ Wrote B b (bs ++ commandB ck text num args) w w' := by
  have h1 := (Wrote.start h).alloc hBw (.cells #[.int .u8 ck, .string text, .slice ao n cap, .int .i64 num] 30)
  have hblk := heap_alloc_new w (.cells #[.int .u8 ck, .string text, .slice ao n cap, .int .i64 num] 30)
  have hbl := h.lt
  have H1 := Lib.hid h1
  have HBLK := Lib.hid hblk
  have HX := Lib.hid hx
  have HN := Lib.hid hn
  have HTX := Lib.hid htx
  clear h h1 hblk hx hn htx
  go_enter Tryz.func66, Tryz.ntmps66
  go_wp2_with fail
  have h1 := H1.out
  have hd := HBLK.out
  generalize (w.alloc (.cells #[.int .u8 ck, .string text, .slice ao n cap, .int .i64 num] 30)) = w0 at h1 hd ⊢
  have d0 : w0.cell? ⟨w.heap.size, 0, none⟩ = some (.int .u8 ck) := Go.Joins.cell_of_block hd 0
  have H1' := Lib.hid h1.drew
  have HD := Lib.hid (show w0.drew.heap[w.heap.size]? = some (.cells #[.int .u8 ck, .string text, .slice ao n cap, .int .i64 num] 30 (0, 0)) from hd)
  clear h1 hd H1 HBLK
  go_still_tail 5, (by kernel_rfl)
  change wpList _ _ _ _ _ w0.drew
  generalize w0.drew = w1 at H1' HD ⊢
  clear d0
  go_wp2_with fail
  refine (writeByte_any B b bs ck w1 H1'.out.1 (Nat.le_trans hBw H1'.out.2.1.size) (by omega)).mono ?_
  rintro e w2 ⟨rfl, hw2⟩
  have hd := hw2.sits HD.out (by omega) (by decide)
  have d1 : w2.cell? ⟨w.heap.size, 1, none⟩ = some (.string text) := Go.Joins.cell_of_block hd 1
  have H2 := Lib.hid (H1'.out.trans hw2)
  have HD2 := Lib.hid hd
  clear hw2 hd H1' HD
  go_wp2_with fail
  refine (text_any B b _ text w2 H2.out.1 (Nat.le_trans hBw H2.out.2.1.size) (by simp only [List.length_append, List.length_singleton]; omega)).mono ?_
  rintro e w3 ⟨rfl, hw3⟩
  have hd := hw3.sits HD2.out (by omega) (by decide)
  have d3 : w3.cell? ⟨w.heap.size, 3, none⟩ = some (.int .i64 num) := Go.Joins.cell_of_block hd 3
  have H3 := Lib.hid (H2.out.trans hw3)
  have HD3 := Lib.hid hd
  clear hw3 hd H2 HD2 d1
  go_wp2_with fail
  refine (put1_any B b 8 _ _ num w3 rfl (by omega) (by omega) H3.out.1 (Nat.le_trans hBw H3.out.2.1.size) (by simp only [List.length_append, List.length_singleton, textB_len]; omega)).mono ?_
  rintro e w4 ⟨rfl, hw4⟩
  have hd := hw4.sits HD3.out (by omega) (by decide)
  have d2 : w4.cell? ⟨w.heap.size, 2, none⟩ = some (.slice ao n cap) := Go.Joins.cell_of_block hd 2
  have H4 := Lib.hid (H3.out.trans hw4)
  clear hw4 hd H3 HD3 d3
  go_wp2_with fail
  refine (values_any B b _ ao n cap args w4 HN.out (HX.out.below noSub_kept H4.out.2.1 (Nat.le_refl _)) HTX.out H4.out.1 (Nat.le_trans hBw H4.out.2.1.size) (by simp only [List.length_append, List.length_singleton, textB_len, numB_len]; omega) hnl (by simp only [List.length_append, List.length_singleton, textB_len, numB_len]; omega)).mono ?_
  rintro e w5 ⟨rfl, hw5⟩
  have hw6 := H4.out.trans hw5
  have hbs : bs ++ [ck] ++ textB text ++ numB 8 num ++ valuesB args = bs ++ commandB ck text num args := by simp [commandB]
  rw [hbs] at hw6
  have H6 := Lib.hid hw6
  clear hw5 hw6 d2 hbs
  go_wp2_with fail
  go_end0
  exact ⟨rfl, H6.out⟩
end Go.Proofs.YtnfldkebjeigiaaGreatDoor
/- What is written in any form, with whatever behind it, is read as it was. No program. Conditions: as each says. -/
namespace Go.Proofs.YtnfldkebjeigiaaGreatDoor
open Go.RowKit
set_option maxRecDepth 20000
theorem takeS_back (n : Nat) (a rest : List Int) (h : a.length = n) : takeS n false (a ++ rest) = (a, false, rest) := by
  subst h
  unfold takeS
  rw [if_neg (by simp)]
  simp
def N64 (n : Int) : Prop := -9223372036854775808 ≤ n ∧ n ≤ 9223372036854775807
theorem numS_back (n : Int) (rest : List Int) (h : N64 n) : numS false (numB 8 n ++ rest) = (n, false, rest) := by
  unfold numS
  rw [takeS_back 8 _ _ (numB_len 8 n)]
  dsimp only
  rw [getN_numB]
  have h1 := h.1
  have h2 := h.2
  have e : IntKind.i64.wrap (n % 256 ^ 8) = n := by
    show (if (true && decide (n % 256 ^ 8 % 2 ^ 64 ≥ (2 ^ 63 : Int))) = true then n % 256 ^ 8 % 2 ^ 64 - 2 ^ 64 else n % 256 ^ 8 % 2 ^ 64) = n
    have e1 : (256 : Int) ^ 8 = 18446744073709551616 := by decide
    have e2 : (2 : Int) ^ 64 = 18446744073709551616 := by decide
    have e3 : (2 : Int) ^ 63 = 9223372036854775808 := by decide
    rw [e1, e2, e3]
    split
    · rename_i hc
      have hc : n % 18446744073709551616 % 18446744073709551616 ≥ 9223372036854775808 := by simpa using hc
      omega
    · rename_i hc
      have hc : ¬ n % 18446744073709551616 % 18446744073709551616 ≥ 9223372036854775808 := by simpa using hc
      omega
  rw [e]
theorem kindS_back (k : Int) (rest : List Int) : kindS false (k :: rest) = (k, false, rest) := by
  unfold kindS
  have := takeS_back 1 [k] rest rfl
  rw [List.singleton_append] at this
  rw [this]
  simp [getN]
theorem countS_back (n : Nat) (rest : List Int) (h : n ≤ 65536) : countS false (numB 4 n ++ rest) = ((n : Int), false, rest) := by
  unfold countS
  rw [takeS_back 4 _ _ (numB_len 4 n)]
  dsimp only
  rw [getN_numB]
  have e1 : (256 : Int) ^ 4 = 4294967296 := by decide
  have e : (n : Int) % 256 ^ 4 = n := by rw [e1]; omega
  rw [e, if_neg (by simp; omega)]
theorem strN_strB (s : ByteArray) : strN (strB s) = s := by
  unfold strN strB strOfNums
  rw [List.map_map]
  have : (fun n : Int => UInt8.ofNat n.toNat) ∘ (fun c : UInt8 => (c.toNat : Int)) = id := by
    funext c
    simp
  rw [this, List.map_id]
theorem textS_back (s : ByteArray) (rest : List Int) (h : s.size ≤ 65536) : textS false (textB s ++ rest) = (s, false, rest) := by
  unfold textS textB
  rw [List.append_assoc, countS_back _ _ h]
  dsimp only
  rw [takeS_back _ _ _ (by rw [strB_len]; omega)]
  dsimp only
  rw [strN_strB]
/-- A value that its bytes say wholly. -/
def Bare (v : Va) : Prop := v.kind = 1 ∧ v.text = ByteArray.empty ∨ v.kind = 2 ∧ v.num = 0
/-- Short enough to be counted, its number one of 64 bits. -/
def VaFit (v : Va) : Prop := N64 v.num ∧ v.text.size ≤ 65536
theorem valueS_back (v : Va) (rest : List Int) (hb : Bare v) (hf : VaFit v) : valueS false (valueB v ++ rest) = (v, false, rest) := by
  obtain ⟨kd, num, text⟩ := v
  rcases hb with ⟨h1, h2⟩ | ⟨h1, h2⟩
  · dsimp only at h1 h2
    subst h1
    subst h2
    have e : valueB ⟨1, num, ByteArray.empty⟩ = 1 :: numB 8 num := by unfold valueB; dsimp only; rw [if_pos rfl]
    rw [e]
    unfold valueS
    dsimp only
    have := takeS_back 1 [1] (numB 8 num ++ rest) rfl
    rw [List.singleton_append] at this
    rw [List.cons_append, this]
    dsimp only
    rw [if_pos (by simp [getN])]
    have h8 := numS_back num rest hf.1
    unfold numS at h8
    simp only [Prod.mk.injEq] at h8
    rw [h8.2]
    rw [h8.1]
    rfl
  · dsimp only at h1 h2
    subst h1
    subst h2
    have e : valueB ⟨2, 0, text⟩ = 2 :: textB text := by unfold valueB; dsimp only; rw [if_neg (by decide), if_pos rfl]
    rw [e]
    unfold valueS
    dsimp only
    have := takeS_back 1 [2] (textB text ++ rest) rfl
    rw [List.singleton_append] at this
    rw [List.cons_append, this]
    dsimp only
    rw [if_neg (by simp [getN]), if_pos (by simp [getN]), textS_back text rest hf.2]
    rfl
theorem rowS_back {α : Type} {one : Bool → List Int → α × Bool × List Int} {oneB : α → List Int} (xs : List α) (h : ∀ x ∈ xs, ∀ rest, one false (oneB x ++ rest) = (x, false, rest)) (rest : List Int) : rowS one xs.length false (xs.flatMap oneB ++ rest) = (xs, false, rest) := by
  induction xs with
  | nil => simp [rowS]
  | cons x xs ih =>
    rw [List.length_cons, List.flatMap_cons, List.append_assoc]
    unfold rowS
    rw [if_neg (by simp), h x (by simp)]
    dsimp only
    rw [ih (fun y hy => h y (List.mem_cons_of_mem _ hy))]
theorem rowsS_back {α : Type} {one : Bool → List Int → α × Bool × List Int} {oneB : α → List Int} (xs : List α) (h : ∀ x ∈ xs, ∀ rest, one false (oneB x ++ rest) = (x, false, rest)) (hl : xs.length ≤ 65536) (rest : List Int) : rowsS one false (numB 4 xs.length ++ (xs.flatMap oneB ++ rest)) = (xs, false, rest) := by
  unfold rowsS
  dsimp only
  rw [countS_back _ _ hl]
  dsimp only
  rw [Int.toNat_natCast, rowS_back xs h]
  rfl
/-- A row of values that is wholly said, and short enough. -/
def VasFit (l : List Va) : Prop := l.length ≤ 65536 ∧ ∀ v ∈ l, Bare v ∧ VaFit v
theorem valuesS_back (l : List Va) (rest : List Int) (h : VasFit l) : valuesS false (valuesB l ++ rest) = (l, false, rest) := by
  unfold valuesS valuesB
  rw [List.append_assoc]
  exact rowsS_back l (fun v hv rest => valueS_back v rest (h.2 v hv).1 (h.2 v hv).2) h.1 rest
theorem intsS_back (l : List Int) (rest : List Int) (hl : l.length ≤ 65536) (h : ∀ n ∈ l, N64 n) : intsS false (numB 4 l.length ++ (l.flatMap (numB 8) ++ rest)) = (l, false, rest) :=
  rowsS_back l (fun v hv rest => numS_back v rest (h v hv)) hl rest
def FaFit (f : FaP) : Prop := N64 f.id ∧ N64 f.ty ∧ VasFit f.args
theorem factS_back (f : FaP) (rest : List Int) (h : FaFit f) : factS false (factB f ++ rest) = (f, false, rest) := by
  unfold factS factB
  simp only [List.append_assoc]
  rw [numS_back _ _ h.1]
  dsimp only
  rw [numS_back _ _ h.2.1]
  dsimp only
  rw [valuesS_back _ _ h.2.2]
  rfl
def CmFit (c : CmP) : Prop := c.text.size ≤ 65536 ∧ N64 c.num ∧ VasFit c.args
theorem commandS_back (c : CmP) (rest : List Int) (h : CmFit c) : commandS false (commandB c.kind c.text c.num c.args ++ rest) = (c, false, rest) := by
  unfold commandS commandB
  simp only [List.append_assoc, List.cons_append]
  rw [kindS_back]
  dsimp only
  rw [textS_back _ _ h.1]
  dsimp only
  rw [numS_back _ _ h.2.1]
  dsimp only
  rw [valuesS_back _ _ h.2.2]
  rfl
def RpFit (r : RpP) : Prop := N64 r.err ∧ N64 r.num ∧ (r.facts.length ≤ 65536 ∧ ∀ f ∈ r.facts, FaFit f) ∧ VasFit r.said
theorem replyS_back (r : RpP) (rest : List Int) (h : RpFit r) : replyS false (replyB r ++ rest) = (r, false, rest) := by
  unfold replyS replyB
  simp only [List.append_assoc]
  rw [numS_back _ _ h.1]
  dsimp only
  rw [numS_back _ _ h.2.1]
  dsimp only
  unfold factsS
  rw [rowsS_back (one := factS) r.facts (fun f hf rest => factS_back f rest (h.2.2.1.2 f hf)) h.2.2.1.1]
  dsimp only
  rw [valuesS_back _ _ h.2.2.2]
  rfl
def EnFit (e : EnP) : Prop := N64 e.term ∧ N64 e.session ∧ N64 e.seq ∧ CmFit ⟨e.ck, e.text, e.args, e.num⟩ ∧ e.vs.length ≤ 65536 ∧ ∀ v ∈ e.vs, N64 v
theorem entryS_back (e : EnP) (rest : List Int) (h : EnFit e) : entryS false (entryB e ++ rest) = (e, false, rest) := by
  obtain ⟨h1, h2, h3, h4, h5, h6⟩ := h
  have hc := commandS_back ⟨e.ck, e.text, e.args, e.num⟩ (numB 4 e.vs.length ++ (e.vs.flatMap (numB 8) ++ rest)) h4
  dsimp only at hc
  unfold entryS entryB
  simp only [List.append_assoc, List.cons_append]
  rw [numS_back _ _ h1]
  dsimp only
  rw [kindS_back]
  dsimp only
  rw [numS_back _ _ h2]
  dsimp only
  rw [numS_back _ _ h3]
  dsimp only
  rw [hc]
  dsimp only
  rw [intsS_back _ _ h5 h6]
  rfl
theorem numS_end : numS false [] = (0, true, []) := by
  unfold numS takeS
  rw [if_pos (by simp)]
  rfl
end Go.Proofs.YtnfldkebjeigiaaGreatDoor
