/- Entries among the arguments, with the bounds of what hangs on them. Conditions: they are read as the row reads them, their weights are bounded. -/
import Derived.Test.YtnfldkebjeigiaaDoorCopied
namespace Go.Proofs.YtnfldkebjeigiaaDoor
open Go.RowKit Go.ChangeShapes
set_option maxRecDepth 20000

/-- No part of a datum is heavier than memory may be. -/
def DSized {H : Type} (P : Program) (t : TypeId) (d : DataW H) : Prop := ∀ n ∈ d.weights P t, n ≤ reachBytes
/-- A struct among the arguments. -/
theorem okWide_struct {P : Program} {W : World} {b0 : Nat} {t : TypeId} {fs : Array Field} {v : Value} (ht : P.underlying t = some (.struct fs)) (hv : Value.okWide P W .any b0 t v) : ∃ cs, v = .agg cs ∧ cs.size = P.cellsOf t := by
  simp only [Value.okWide, ht] at hv
  obtain ⟨cs, rfl, hsz, _⟩ := hv
  exact ⟨cs, rfl, hsz⟩
theorem DSized.arg {H : Type} {P : Program} {ts : List TypeId} {ds : List (DataW H)} (hsz : (DataW.weightsEach P ts ds).all (· ≤ reachBytes) = true) (j : Nat) {t : TypeId} {d : DataW H} (hj : ts[j]? = some t) (hd : ds[j]? = some d) : DSized P t d := fun n hn => by
  have := List.all_eq_true.1 hsz n (DataW.weights_mem_each hj hd n hn)
  simpa using this
theorem DSized.field {H : Type} {P : Program} {t : TypeId} {fs : Array Field} {xs : List (DataW H × List MemPlace)} (ht : P.underlying t = some (.struct fs)) (h : DSized P t (.agg (xs.map (·.1)))) {i : Nat} {f : Field} {y : DataW H × List MemPlace} (hf : fs[i]? = some f) (hy : xs[i]? = some y) : DSized P f.type y.1 := fun n hn => by
  refine h n ?_
  simp only [DataW.weights, ht]
  exact DataW.weights_mem_each (j := i) (by simp [hf]) (by simp [hy]) n hn
theorem weights_mem_all {H : Type} {P : Program} {e : TypeId} : ∀ {ds : List (DataW H)} {d : DataW H}, d ∈ ds → ∀ n ∈ d.weights P e, n ∈ DataW.weightsAll P e ds
  | d0 :: ds, d, h, n, hn => by
    simp only [DataW.weightsAll, List.mem_append]
    rcases List.mem_cons.1 h with rfl | h
    · exact Or.inl hn
    · exact Or.inr (weights_mem_all h n hn)
theorem DSized.elem {H : Type} {P : Program} {t e : TypeId} {elems sp : List (DataW H)} (ht : P.underlying t = some (.slice e)) (h : DSized P t (.slice elems sp)) {x : DataW H} (hx : x ∈ elems) : DSized P e x := fun n hn => by
  refine h n ?_
  simp only [DataW.weights, ht, List.mem_cons, List.mem_append]
  exact Or.inr (Or.inl (weights_mem_all hx n hn))
theorem DSized.len {H : Type} {P : Program} {t e : TypeId} {elems sp : List (DataW H)} (ht : P.underlying t = some (.slice e)) (h : DSized P t (.slice elems sp)) : elems.length * P.bytesOf e ≤ reachBytes := by
  have := h ((elems.length + sp.length) * P.bytesOf e) (by simp [DataW.weights, ht])
  exact Nat.le_trans (Nat.mul_le_mul_right _ (Nat.le_add_right _ _)) this
theorem DSized.str {H : Type} {P : Program} {t : TypeId} {s : ByteArray} (h : DSized (H := H) P t (.lit (.string s.data.toList))) : s.size ≤ reachBytes := by
  have := h s.data.toList.length (by simp [DataW.weights])
  simpa using this

/-- A slice's elements: none, or at an address, each by its cells and its own reading, with the bounds. -/
theorem slice_sized {H : Type} {enc : TypeId × Value → H} {P : Program} {W : World} {base : Nat} {sp : Nat → Bool} {hd : Bool} {t e : TypeId} {ao : Option Addr} {len cap C : Nat} {d : DataW H} {p : List MemPlace}
    (ht : P.underlying t = some (.slice e)) (hC : P.cellsOf e = C) (hC0 : 0 < C) (h : DataW.Trod enc P W base sp hd t (.slice ao len cap) d p) (hz : DSized P t d) :
    len * P.bytesOf e ≤ reachBytes ∧ (len = 0 ∨ ∃ (b off n : Nat) (D : Nat → DataW H) (Pl : Nat → List MemPlace), ao = some ⟨b, off, none⟩ ∧ base ≤ b ∧ b < W.heap.size ∧
      ∀ i, i < len → DSized P e (D i) ∧ ∃ cs : List Value, cs.length = C ∧ (∀ j, j < C → W.cell? ⟨b, off + i * C + j, none⟩ = cs[j]?) ∧ DataW.trod enc P W base sp hd n e cs = some (D i, Pl i)) := by
  obtain ⟨fuel, hf⟩ := h
  rcases Go.Deep.open_slice ht hf with ⟨h0, _⟩ | ⟨a, len', cap', m, n, D, Pl, h0, hb, hl, hm, hmm, hd, hx⟩
  · simp [Value.cells] at h0
    obtain ⟨rfl, rfl, rfl⟩ := h0
    exact ⟨by simp, Or.inl rfl⟩
  · simp [Value.cells] at h0
    obtain ⟨rfl, rfl, rfl⟩ := h0
    simp only [Prod.mk.injEq] at hd
    obtain ⟨rfl, _⟩ := hd
    have hlen := DSized.len ht hz
    rw [List.length_map, List.length_range] at hlen
    refine ⟨hlen, ?_⟩
    by_cases hz0 : len = 0
    · exact Or.inl hz0
    · right
      have hlm : len ≤ m := by rw [hmm]; split <;> omega
      rw [hC] at hx
      obtain ⟨b, off, spot⟩ := a
      have hs : spot = none := by
        obtain ⟨cs', h1, _⟩ := hx 0 (by omega)
        have h2 := (World.cells?_some h1).2.2 0 hC0
        have h3 : cs'.length = C := (World.cells?_some h1).2.1
        rw [List.getElem?_eq_getElem (by omega)] at h2
        simpa [Addr.add] using World.cell?_spot h2
      subst hs
      refine ⟨b, off, n, D, Pl, rfl, hb, ?_, fun i hi => ⟨DSized.elem ht hz (List.mem_map.2 ⟨i, List.mem_range.2 hi, rfl⟩), ?_⟩⟩
      · obtain ⟨cs', h1, _⟩ := hx 0 (by omega)
        have h2 := World.cells?_block h1 hC0
        simpa [Addr.add] using h2
      · obtain ⟨cs', h1, h2⟩ := hx i (by omega)
        obtain ⟨_, h3, h4⟩ := World.cells?_some h1
        refine ⟨cs', h3, fun j hj => ?_, h2⟩
        have := h4 j hj
        rw [Go.Deep.add_add, Go.WideShapes.add_plain] at this
        rw [← this, Nat.add_assoc]
/-- A slice among the arguments, whose things are read one by one, with the bounds. -/
theorem open_sized {α : Type} {k : Nat} {cells : α → List Value} {sub : World → Nat → α → Prop} {H : Type} {enc : TypeId × Value → H} {P : Program} {W : World} {sp : Nat → Bool} {hd : Bool} {t e : TypeId} {ao : Option Addr} {len cap : Nat} {d : DataW H} {p : List MemPlace} (Q : α → Prop)
    (ht : P.underlying t = some (.slice e)) (hC : P.cellsOf e = k) (hk : 0 < k)
    (hel : ∀ (cs : List Value) (n : Nat) (y : DataW H) (pl : List MemPlace), cs.length = k → DataW.trod enc P W 0 sp hd n e cs = some (y, pl) → DSized P e y → ∃ x : α, cells x = cs ∧ sub W W.heap.size x ∧ Q x)
    (h : DataW.Trod enc P W 0 sp hd t (.slice ao len cap) d p) (hz : DSized P t d) :
    ∃ xs : List α, xs.length = len ∧ RowsIn k cells sub W W.heap.size ao xs ∧ (∀ x ∈ xs, Q x) ∧ (ao = none → cap = 0) ∧ len ≤ cap ∧ len * P.bytesOf e ≤ reachBytes := by
  obtain ⟨h1, h2, h3⟩ := slice_shape ht h
  obtain ⟨hm, h0 | ⟨b, off, n, D, Pl, e1, _, hb, hx⟩⟩ := slice_sized ht hC hk h hz
  · exact ⟨[], h0.symm, Or.inl rfl, (by intro x hx; cases hx), h3, h1, hm⟩
  · have hne : ∀ i, i < len → ∃ x : α, (∀ j, j < k → W.cell? ⟨b, off + i * k + j, none⟩ = (cells x)[j]?) ∧ sub W W.heap.size x ∧ Q x := by
      intro i hi
      obtain ⟨hzi, cs, hl, hc, ht'⟩ := hx i hi
      obtain ⟨x, rfl, hs, hq⟩ := hel cs n _ _ hl ht' hzi
      exact ⟨x, hc, hs, hq⟩
    have key : ∀ m, m ≤ len → ∃ xs : List α, xs.length = m ∧ (∀ x ∈ xs, Q x) ∧ ∀ (i : Nat) (x : α), xs[i]? = some x → (∀ j, j < k → W.cell? ⟨b, off + i * k + j, none⟩ = (cells x)[j]?) ∧ sub W W.heap.size x := by
      intro m
      induction m with
      | zero => intro _; exact ⟨[], rfl, (by intro x hx; cases hx), (by intro i x hx; simp at hx)⟩
      | succ m ih =>
        intro hm'
        obtain ⟨xs, e1, e2, e3⟩ := ih (by omega)
        obtain ⟨x, g1, g2, g3⟩ := hne m (by omega)
        refine ⟨xs ++ [x], by simp [e1], fun y hy => ?_, fun i y hy => ?_⟩
        · rcases List.mem_append.1 hy with hy | hy
          · exact e2 y hy
          · rw [List.mem_singleton.1 hy]; exact g3
        · by_cases hi : i < m
          · rw [List.getElem?_append_left (by omega)] at hy; exact e3 i y hy
          · rw [List.getElem?_append_right (by omega)] at hy
            have hi' : i = m := by
              rcases Nat.lt_or_ge (i - xs.length) 1 with hh | hh
              · omega
              · rw [List.getElem?_eq_none (by simpa using hh)] at hy; cases hy
            subst hi'
            rw [e1, Nat.sub_self] at hy
            obtain rfl : x = y := by simpa using hy
            exact ⟨g1, g2⟩
    obtain ⟨xs, q1, q2, q3⟩ := key len (Nat.le_refl _)
    exact ⟨xs, q1, Or.inr ⟨b, off, e1, hb, q3⟩, q2, h3, h1, hm⟩
/-- A value among the arguments. -/
def VaArg (v : Va) : Prop := (Lit.int .u8 v.kind).wf = true ∧ (Lit.int .i64 v.num).wf = true ∧ v.text.size ≤ reachBytes
theorem cells_va : Tryd.prog.cellsOf 24 = 3 := by kernel_rfl
theorem cells_en : Tryd.prog.cellsOf 38 = 9 := by kernel_rfl
theorem cells_cm : Tryd.prog.cellsOf 30 = 4 := by kernel_rfl
theorem cells_i64 : Tryd.prog.cellsOf 3 = 1 := by kernel_rfl
theorem cells_int64 : Tryd.prog.cellsOf 2 = 1 := by kernel_rfl
theorem cells_str : Tryd.prog.cellsOf 9 = 1 := by kernel_rfl
theorem cells_ek : Tryd.prog.cellsOf 35 = 1 := by kernel_rfl
theorem cells_vk : Tryd.prog.cellsOf 22 = 1 := by kernel_rfl
theorem cells_ck : Tryd.prog.cellsOf 28 = 1 := by kernel_rfl
theorem cells_vas : Tryd.prog.cellsOf 25 = 1 := by kernel_rfl
theorem cells_ints : Tryd.prog.cellsOf 36 = 1 := by kernel_rfl
theorem va_el {H : Type} {enc : TypeId × Value → H} {W : World} {sp : Nat → Bool} {hd : Bool} (cs : List Value) (n : Nat) (y : DataW H) (pl : List MemPlace) (hl : cs.length = 3) (h : DataW.trod enc Tryd.prog W 0 sp hd n 24 cs = some (y, pl)) (hz : DSized Tryd.prog 24 y) :
    ∃ x : Va, vaCells x = cs ∧ noSub W W.heap.size x ∧ VaArg x := by
  obtain ⟨c0, c1, c2, rfl⟩ : ∃ c0 c1 c2, cs = [c0, c1, c2] := by
    match cs, hl with
    | [c0, c1, c2], _ => exact ⟨c0, c1, c2, rfl⟩
  obtain ⟨xs, m, _, hx, _, hlen, hf⟩ := DataW.trod_struct Tryd.underlying24 h
  simp only [Prod.mk.injEq] at hx
  obtain ⟨rfl, _⟩ := hx
  match xs, hlen with
  | [y0, y1, y2], _ =>
    have h0 := hf 0 _ rfl
    have h1 := hf 1 _ rfl
    have h2 := hf 2 _ rfl
    simp [cells_vk, cells_int64, cells_str] at h0 h1 h2
    obtain ⟨k0, e0, _, w0⟩ := DataW.trod_int Tryd.underlying22 h0
    obtain ⟨k1, e1, _, w1⟩ := DataW.trod_int Tryd.underlying2 h1
    obtain ⟨s, e2, d2, _⟩ := DataW.trod_string Tryd.underlying9 h2
    have z2 := DSized.field Tryd.underlying24 hz (i := 2) (y := y2) rfl rfl
    rw [d2] at z2
    simp at e0 e1 e2
    subst e0 e1 e2
    exact ⟨⟨k0, k1, s⟩, rfl, trivial, w0, w1, DSized.str z2⟩
theorem i_el {H : Type} {enc : TypeId × Value → H} {W : World} {sp : Nat → Bool} {hd : Bool} (cs : List Value) (n : Nat) (y : DataW H) (pl : List MemPlace) (hl : cs.length = 1) (h : DataW.trod enc Tryd.prog W 0 sp hd n 3 cs = some (y, pl)) (_ : DSized Tryd.prog 3 y) :
    ∃ x : Int, iCells x = cs ∧ noSub W W.heap.size x ∧ (Lit.int .i64 x).wf = true := by
  obtain ⟨k0, e0, _, w0⟩ := DataW.trod_int Tryd.underlying3 h
  exact ⟨k0, e0.symm, trivial, w0⟩
/-- An entry among the arguments. -/
structure EnWf (e : En) : Prop where
  term : (Lit.int .i64 e.term).wf = true
  kind : (Lit.int .u8 e.kind).wf = true
  session : (Lit.int .i64 e.session).wf = true
  seq : (Lit.int .i64 e.seq).wf = true
  ck : (Lit.int .u8 e.ck).wf = true
  text : e.text.size ≤ 140737488351232
  args : ∀ v ∈ e.args, VaArg v
  num : (Lit.int .i64 e.num).wf = true
  vs : ∀ v ∈ e.vs, (Lit.int .i64 v).wf = true
  argn : e.args.length * 32 ≤ 140737488351232
  vn : e.vs.length * 8 ≤ 140737488351232
  anil : e.aao = none → e.acap = 0
  vnil : e.vao = none → e.vcap = 0
  acap : e.args.length ≤ e.acap
  vcap : e.vs.length ≤ e.vcap
theorem bytes_va : Tryd.prog.bytesOf 24 = 32 := by kernel_rfl
theorem bytes_i : Tryd.prog.bytesOf 3 = 8 := by kernel_rfl
theorem bytes_en : Tryd.prog.bytesOf 38 = 112 := by kernel_rfl
theorem en_el {H : Type} {enc : TypeId × Value → H} {W : World} {sp : Nat → Bool} {hd : Bool} (cs : List Value) (n : Nat) (y : DataW H) (pl : List MemPlace) (hl : cs.length = 9) (h : DataW.trod enc Tryd.prog W 0 sp hd n 38 cs = some (y, pl)) (hz : DSized Tryd.prog 38 y) :
    ∃ x : En, enCells x = cs ∧ enSub W W.heap.size x ∧ EnWf x := by
  obtain ⟨c0, c1, c2, c3, c4, c5, c6, c7, c8, rfl⟩ : ∃ c0 c1 c2 c3 c4 c5 c6 c7 c8, cs = [c0, c1, c2, c3, c4, c5, c6, c7, c8] := by
    match cs, hl with
    | [c0, c1, c2, c3, c4, c5, c6, c7, c8], _ => exact ⟨c0, c1, c2, c3, c4, c5, c6, c7, c8, rfl⟩
  obtain ⟨xs, m, _, hx, _, hlen, hf⟩ := DataW.trod_struct Tryd.underlying38 h
  simp only [Prod.mk.injEq] at hx
  obtain ⟨rfl, _⟩ := hx
  match xs, hlen with
  | [y0, y1, y2, y3, y4, y5], _ =>
    have h0 := hf 0 _ rfl
    have h1 := hf 1 _ rfl
    have h2 := hf 2 _ rfl
    have h3 := hf 3 _ rfl
    have h4 := hf 4 _ rfl
    have h5 := hf 5 _ rfl
    have z4 := DSized.field Tryd.underlying38 hz (i := 4) (y := y4) rfl rfl
    have z5 := DSized.field Tryd.underlying38 hz (i := 5) (y := y5) rfl rfl
    simp [cells_i64, cells_ek, cells_cm, cells_ints] at h0 h1 h2 h3 h4 h5
    obtain ⟨k0, e0, _, w0⟩ := DataW.trod_int Tryd.underlying3 h0
    obtain ⟨k1, e1, _, w1⟩ := DataW.trod_int Tryd.underlying35 h1
    obtain ⟨k2, e2, _, w2⟩ := DataW.trod_int Tryd.underlying3 h2
    obtain ⟨k3, e3, _, w3⟩ := DataW.trod_int Tryd.underlying3 h3
    obtain ⟨va, vl, vc, e5, t5⟩ := slice_cell Tryd.underlying36 h5
    obtain ⟨vs, rfl, vx, vq, vnil, vcap, vlen⟩ := open_sized (k := 1) (cells := iCells) (sub := noSub) (fun x => (Lit.int .i64 x).wf = true) Tryd.underlying36 cells_i64 (by decide) i_el t5 z5
    obtain ⟨ys, m4, _, hy, _, hlen4, hf4⟩ := DataW.trod_struct Tryd.underlying30 h4
    obtain ⟨d4, p4⟩ := y4
    simp only [Prod.mk.injEq] at hy
    obtain ⟨rfl, _⟩ := hy
    match ys, hlen4 with
    | [u0, u1, u2, u3], _ =>
      have g0 := hf4 0 _ rfl
      have g1 := hf4 1 _ rfl
      have g2 := hf4 2 _ rfl
      have g3 := hf4 3 _ rfl
      have q1 := DSized.field Tryd.underlying30 z4 (i := 1) (y := u1) rfl rfl
      have q2 := DSized.field Tryd.underlying30 z4 (i := 2) (y := u2) rfl rfl
      simp [cells_i64, cells_ck, cells_str, cells_vas] at g0 g1 g2 g3
      obtain ⟨k4, e4, _, w4⟩ := DataW.trod_int Tryd.underlying28 g0
      obtain ⟨s, e6, d6, _⟩ := DataW.trod_string Tryd.underlying9 g1
      obtain ⟨aa, al, ac, e7, t7⟩ := slice_cell Tryd.underlying25 g2
      obtain ⟨args, rfl, ax, aq, anil, acap, alen⟩ := open_sized (k := 3) (cells := vaCells) (sub := noSub) VaArg Tryd.underlying25 cells_va (by decide) va_el t7 q2
      obtain ⟨k8, e8, _, w8⟩ := DataW.trod_int Tryd.underlying3 g3
      rw [d6] at q1
      simp at e0 e1 e2 e3 e4 e5 e6 e7 e8
      subst e0 e1 e2 e3 e4 e5 e6 e7 e8
      rw [bytes_va] at alen
      rw [bytes_i] at vlen
      exact ⟨⟨k0, k1, k2, k3, k4, s, aa, args, ac, k8, va, vs, vc⟩, rfl, ⟨ax, vx⟩, ⟨w0, w1, w2, w3, w4, DSized.str q1, aq, w8, vq, alen, vlen, anil, vnil, acap, vcap⟩⟩
end Go.Proofs.YtnfldkebjeigiaaDoor
