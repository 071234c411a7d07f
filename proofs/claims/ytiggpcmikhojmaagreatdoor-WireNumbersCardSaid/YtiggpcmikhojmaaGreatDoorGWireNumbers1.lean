/- Entries among the arguments, with the bounds of what hangs on them. Conditions: they are read as the row reads them, their weights are bounded. -/
import Derived.Test.YtiggpcmikhojmaaGreatDoorGWireNumbers0
import Derived.Test.YtiggpcmikhojmaaGreatDoorShelf
import Derived.StillTailTactics
set_option linter.unusedVariables false
namespace Go.Proofs.YtiggpcmikhojmaaGreatDoor
open Go.RowKit Go.ChangeShapes
set_option maxRecDepth 20000
/-- No part of a datum is heavier than memory may be. -/
def DSized {H : Type} (P : Program) (t : TypeId) (d : DataW H) : Prop := ∀ n ∈ d.weights P t, n ≤ reachBytes
/-- A struct among the arguments. -/
theorem okWide_struct {P : Program} {W : World} {b0 : Nat} {t : TypeId} {fs : Array Field} {v : Value} (ht : P.underlying t = some (.struct fs)) (hv : Value.okWide P W .any b0 t v) : ∃ cs, v = .agg cs ∧ cs.size = P.cellsOf t := by
  simp only [Value.okWide, ht] at hv
  obtain ⟨cs, rfl, hsz, _⟩ := hv
  exact ⟨cs, rfl, hsz⟩
theorem DSized.arg {H : Type} {P : Program} {ts : List TypeId} {ds : List (DataW H)} (hsz : (DataW.weightsEach P ts ds).all (· ≤ reachBytes) = true) (j : Nat) {t : TypeId} {d : DataW H} (hj : ts[j]? = some t) (hd : ds[j]? = some d) : DSized P t d := fun n hn => by
  have := List.all_eq_true.1 hsz n (DataW.weights_mem_each hj hd n hn)
  simpa using this
theorem DSized.field {H : Type} {P : Program} {t : TypeId} {fs : Array Field} {xs : List (DataW H × List MemPlace)} (ht : P.underlying t = some (.struct fs)) (h : DSized P t (.agg (xs.map (·.1)))) {i : Nat} {f : Field} {y : DataW H × List MemPlace} (hf : fs[i]? = some f) (hy : xs[i]? = some y) : DSized P f.type y.1 := fun n hn => by
  refine h n ?_
  simp only [DataW.weights, ht]
  exact DataW.weights_mem_each (j := i) (by simp [hf]) (by simp [hy]) n hn
theorem weights_mem_all {H : Type} {P : Program} {e : TypeId} : ∀ {ds : List (DataW H)} {d : DataW H}, d ∈ ds → ∀ n ∈ d.weights P e, n ∈ DataW.weightsAll P e ds
  | d0 :: ds, d, h, n, hn => by
    simp only [DataW.weightsAll, List.mem_append]
    rcases List.mem_cons.1 h with rfl | h
    · exact Or.inl hn
    · exact Or.inr (weights_mem_all h n hn)
theorem DSized.elem {H : Type} {P : Program} {t e : TypeId} {elems sp : List (DataW H)} (ht : P.underlying t = some (.slice e)) (h : DSized P t (.slice elems sp)) {x : DataW H} (hx : x ∈ elems) : DSized P e x := fun n hn => by
  refine h n ?_
  simp only [DataW.weights, ht, List.mem_cons, List.mem_append]
  exact Or.inr (Or.inl (weights_mem_all hx n hn))
theorem DSized.len {H : Type} {P : Program} {t e : TypeId} {elems sp : List (DataW H)} (ht : P.underlying t = some (.slice e)) (h : DSized P t (.slice elems sp)) : elems.length * P.bytesOf e ≤ reachBytes := by
  have := h ((elems.length + sp.length) * P.bytesOf e) (by simp [DataW.weights, ht])
  exact Nat.le_trans (Nat.mul_le_mul_right _ (Nat.le_add_right _ _)) this
theorem DSized.str {H : Type} {P : Program} {t : TypeId} {s : ByteArray} (h : DSized (H := H) P t (.lit (.string s.data.toList))) : s.size ≤ reachBytes := by
  have := h s.data.toList.length (by simp [DataW.weights])
  simpa using this
/-- A slice's elements: none, or at an address, each by its cells and its own reading, with the bounds. -/
theorem slice_sized {H : Type} {enc : TypeId × Value → H} {P : Program} {W : World} {base : Nat} {sp : Nat → Bool} {hd : Bool} {t e : TypeId} {ao : Option Addr} {len cap C : Nat} {d : DataW H} {p : List MemPlace}
    (ht : P.underlying t = some (.slice e)) (hC : P.cellsOf e = C) (hC0 : 0 < C) (h : DataW.Trod enc P W base sp hd t (.slice ao len cap) d p) (hz : DSized P t d) :
    len * P.bytesOf e ≤ reachBytes ∧ (len = 0 ∨ ∃ (b off n : Nat) (D : Nat → DataW H) (Pl : Nat → List MemPlace), ao = some ⟨b, off, none⟩ ∧ base ≤ b ∧ b < W.heap.size ∧
      ∀ i, i < len → DSized P e (D i) ∧ ∃ cs : List Value, cs.length = C ∧ (∀ j, j < C → W.cell? ⟨b, off + i * C + j, none⟩ = cs[j]?) ∧ DataW.trod enc P W base sp hd n e cs = some (D i, Pl i)) := by
  obtain ⟨fuel, hf⟩ := h
  rcases Go.Deep.open_slice ht hf with ⟨h0, _⟩ | ⟨a, len', cap', m, n, D, Pl, h0, hb, hl, hm, hmm, hd, hx⟩
  · simp [Value.cells] at h0
    obtain ⟨rfl, rfl, rfl⟩ := h0
    exact ⟨by simp, Or.inl rfl⟩
  · simp [Value.cells] at h0
    obtain ⟨rfl, rfl, rfl⟩ := h0
    simp only [Prod.mk.injEq] at hd
    obtain ⟨rfl, _⟩ := hd
    have hlen := DSized.len ht hz
    rw [List.length_map, List.length_range] at hlen
    refine ⟨hlen, ?_⟩
    by_cases hz0 : len = 0
    · exact Or.inl hz0
    · right
      have hlm : len ≤ m := by rw [hmm]; split <;> omega
      rw [hC] at hx
      obtain ⟨b, off, spot⟩ := a
      have hs : spot = none := by
        obtain ⟨cs', h1, _⟩ := hx 0 (by omega)
        have h2 := (World.cells?_some h1).2.2 0 hC0
        have h3 : cs'.length = C := (World.cells?_some h1).2.1
        rw [List.getElem?_eq_getElem (by omega)] at h2
        simpa [Addr.add] using World.cell?_spot h2
      subst hs
      refine ⟨b, off, n, D, Pl, rfl, hb, ?_, fun i hi => ⟨DSized.elem ht hz (List.mem_map.2 ⟨i, List.mem_range.2 hi, rfl⟩), ?_⟩⟩
      · obtain ⟨cs', h1, _⟩ := hx 0 (by omega)
        have h2 := World.cells?_block h1 hC0
        simpa [Addr.add] using h2
      · obtain ⟨cs', h1, h2⟩ := hx i (by omega)
        obtain ⟨_, h3, h4⟩ := World.cells?_some h1
        refine ⟨cs', h3, fun j hj => ?_, h2⟩
        have := h4 j hj
        rw [Go.Deep.add_add, Go.WideShapes.add_plain] at this
        rw [← this, Nat.add_assoc]
/-- A slice among the arguments, whose things are read one by one, with the bounds. -/
theorem open_sized {α : Type} {k : Nat} {cells : α → List Value} {sub : World → Nat → α → Prop} {H : Type} {enc : TypeId × Value → H} {P : Program} {W : World} {sp : Nat → Bool} {hd : Bool} {t e : TypeId} {ao : Option Addr} {len cap : Nat} {d : DataW H} {p : List MemPlace} (Q : α → Prop)
    (ht : P.underlying t = some (.slice e)) (hC : P.cellsOf e = k) (hk : 0 < k)
    (hel : ∀ (cs : List Value) (n : Nat) (y : DataW H) (pl : List MemPlace), cs.length = k → DataW.trod enc P W 0 sp hd n e cs = some (y, pl) → DSized P e y → ∃ x : α, cells x = cs ∧ sub W W.heap.size x ∧ Q x)
    (h : DataW.Trod enc P W 0 sp hd t (.slice ao len cap) d p) (hz : DSized P t d) :
    ∃ xs : List α, xs.length = len ∧ RowsIn k cells sub W W.heap.size ao xs ∧ (∀ x ∈ xs, Q x) ∧ (ao = none → cap = 0) ∧ len ≤ cap ∧ len * P.bytesOf e ≤ reachBytes := by
  obtain ⟨h1, h2, h3⟩ := slice_shape ht h
  obtain ⟨hm, h0 | ⟨b, off, n, D, Pl, e1, _, hb, hx⟩⟩ := slice_sized ht hC hk h hz
  · exact ⟨[], h0.symm, Or.inl rfl, (by intro x hx; cases hx), h3, h1, hm⟩
  · have hne : ∀ i, i < len → ∃ x : α, (∀ j, j < k → W.cell? ⟨b, off + i * k + j, none⟩ = (cells x)[j]?) ∧ sub W W.heap.size x ∧ Q x := by
      intro i hi
      obtain ⟨hzi, cs, hl, hc, ht'⟩ := hx i hi
      obtain ⟨x, rfl, hs, hq⟩ := hel cs n _ _ hl ht' hzi
      exact ⟨x, hc, hs, hq⟩
    have key : ∀ m, m ≤ len → ∃ xs : List α, xs.length = m ∧ (∀ x ∈ xs, Q x) ∧ ∀ (i : Nat) (x : α), xs[i]? = some x → (∀ j, j < k → W.cell? ⟨b, off + i * k + j, none⟩ = (cells x)[j]?) ∧ sub W W.heap.size x := by
      intro m
      induction m with
      | zero => intro _; exact ⟨[], rfl, (by intro x hx; cases hx), (by intro i x hx; simp at hx)⟩
      | succ m ih =>
        intro hm'
        obtain ⟨xs, e1, e2, e3⟩ := ih (by omega)
        obtain ⟨x, g1, g2, g3⟩ := hne m (by omega)
        refine ⟨xs ++ [x], by simp [e1], fun y hy => ?_, fun i y hy => ?_⟩
        · rcases List.mem_append.1 hy with hy | hy
          · exact e2 y hy
          · rw [List.mem_singleton.1 hy]; exact g3
        · by_cases hi : i < m
          · rw [List.getElem?_append_left (by omega)] at hy; exact e3 i y hy
          · rw [List.getElem?_append_right (by omega)] at hy
            have hi' : i = m := by
              rcases Nat.lt_or_ge (i - xs.length) 1 with hh | hh
              · omega
              · rw [List.getElem?_eq_none (by simpa using hh)] at hy; cases hy
            subst hi'
            rw [e1, Nat.sub_self] at hy
            obtain rfl : x = y := by simpa using hy
            exact ⟨g1, g2⟩
    obtain ⟨xs, q1, q2, q3⟩ := key len (Nat.le_refl _)
    exact ⟨xs, q1, Or.inr ⟨b, off, e1, hb, q3⟩, q2, h3, h1, hm⟩
/-- A value among the arguments. -/
def VaArg (v : Va) : Prop := (Lit.int .u8 v.kind).wf = true ∧ (Lit.int .i64 v.num).wf = true ∧ v.text.size ≤ reachBytes
theorem cells_va : Tryz.prog.cellsOf 24 = 3 := by kernel_rfl
theorem cells_en : Tryz.prog.cellsOf 38 = 9 := by kernel_rfl
theorem cells_cm : Tryz.prog.cellsOf 30 = 4 := by kernel_rfl
theorem cells_i64 : Tryz.prog.cellsOf 3 = 1 := by kernel_rfl
theorem cells_int64 : Tryz.prog.cellsOf 2 = 1 := by kernel_rfl
theorem cells_str : Tryz.prog.cellsOf 9 = 1 := by kernel_rfl
theorem cells_ek : Tryz.prog.cellsOf 35 = 1 := by kernel_rfl
theorem cells_vk : Tryz.prog.cellsOf 22 = 1 := by kernel_rfl
theorem cells_ck : Tryz.prog.cellsOf 28 = 1 := by kernel_rfl
theorem cells_vas : Tryz.prog.cellsOf 25 = 1 := by kernel_rfl
theorem cells_ints : Tryz.prog.cellsOf 36 = 1 := by kernel_rfl
theorem va_el {H : Type} {enc : TypeId × Value → H} {W : World} {sp : Nat → Bool} {hd : Bool} (cs : List Value) (n : Nat) (y : DataW H) (pl : List MemPlace) (hl : cs.length = 3) (h : DataW.trod enc Tryz.prog W 0 sp hd n 24 cs = some (y, pl)) (hz : DSized Tryz.prog 24 y) :
    ∃ x : Va, vaCells x = cs ∧ noSub W W.heap.size x ∧ VaArg x := by
  obtain ⟨c0, c1, c2, rfl⟩ : ∃ c0 c1 c2, cs = [c0, c1, c2] := by
    match cs, hl with
    | [c0, c1, c2], _ => exact ⟨c0, c1, c2, rfl⟩
  obtain ⟨xs, m, _, hx, _, hlen, hf⟩ := DataW.trod_struct Tryz.underlying24 h
  simp only [Prod.mk.injEq] at hx
  obtain ⟨rfl, _⟩ := hx
  match xs, hlen with
  | [y0, y1, y2], _ =>
    have h0 := hf 0 _ rfl
    have h1 := hf 1 _ rfl
    have h2 := hf 2 _ rfl
    simp [cells_vk, cells_int64, cells_str] at h0 h1 h2
    obtain ⟨k0, e0, _, w0⟩ := DataW.trod_int Tryz.underlying22 h0
    obtain ⟨k1, e1, _, w1⟩ := DataW.trod_int Tryz.underlying2 h1
    obtain ⟨s, e2, d2, _⟩ := DataW.trod_string Tryz.underlying9 h2
    have z2 := DSized.field Tryz.underlying24 hz (i := 2) (y := y2) rfl rfl
    rw [d2] at z2
    simp at e0 e1 e2
    subst e0 e1 e2
    exact ⟨⟨k0, k1, s⟩, rfl, trivial, w0, w1, DSized.str z2⟩
theorem i_el {H : Type} {enc : TypeId × Value → H} {W : World} {sp : Nat → Bool} {hd : Bool} (cs : List Value) (n : Nat) (y : DataW H) (pl : List MemPlace) (hl : cs.length = 1) (h : DataW.trod enc Tryz.prog W 0 sp hd n 3 cs = some (y, pl)) (_ : DSized Tryz.prog 3 y) :
    ∃ x : Int, iCells x = cs ∧ noSub W W.heap.size x ∧ (Lit.int .i64 x).wf = true := by
  obtain ⟨k0, e0, _, w0⟩ := DataW.trod_int Tryz.underlying3 h
  exact ⟨k0, e0.symm, trivial, w0⟩
/-- An entry among the arguments. -/
structure EnWf (e : En) : Prop where
  term : (Lit.int .i64 e.term).wf = true
  kind : (Lit.int .u8 e.kind).wf = true
  session : (Lit.int .i64 e.session).wf = true
  seq : (Lit.int .i64 e.seq).wf = true
  ck : (Lit.int .u8 e.ck).wf = true
  text : e.text.size ≤ 140737488351232
  args : ∀ v ∈ e.args, VaArg v
  num : (Lit.int .i64 e.num).wf = true
  vs : ∀ v ∈ e.vs, (Lit.int .i64 v).wf = true
  argn : e.args.length * 32 ≤ 140737488351232
  vn : e.vs.length * 8 ≤ 140737488351232
  anil : e.aao = none → e.acap = 0
  vnil : e.vao = none → e.vcap = 0
  acap : e.args.length ≤ e.acap
  vcap : e.vs.length ≤ e.vcap
theorem bytes_va : Tryz.prog.bytesOf 24 = 32 := by kernel_rfl
theorem bytes_i : Tryz.prog.bytesOf 3 = 8 := by kernel_rfl
theorem bytes_en : Tryz.prog.bytesOf 38 = 112 := by kernel_rfl
theorem en_el {H : Type} {enc : TypeId × Value → H} {W : World} {sp : Nat → Bool} {hd : Bool} (cs : List Value) (n : Nat) (y : DataW H) (pl : List MemPlace) (hl : cs.length = 9) (h : DataW.trod enc Tryz.prog W 0 sp hd n 38 cs = some (y, pl)) (hz : DSized Tryz.prog 38 y) :
    ∃ x : En, enCells x = cs ∧ enSub W W.heap.size x ∧ EnWf x := by
  obtain ⟨c0, c1, c2, c3, c4, c5, c6, c7, c8, rfl⟩ : ∃ c0 c1 c2 c3 c4 c5 c6 c7 c8, cs = [c0, c1, c2, c3, c4, c5, c6, c7, c8] := by
    match cs, hl with
    | [c0, c1, c2, c3, c4, c5, c6, c7, c8], _ => exact ⟨c0, c1, c2, c3, c4, c5, c6, c7, c8, rfl⟩
  obtain ⟨xs, m, _, hx, _, hlen, hf⟩ := DataW.trod_struct Tryz.underlying38 h
  simp only [Prod.mk.injEq] at hx
  obtain ⟨rfl, _⟩ := hx
  match xs, hlen with
  | [y0, y1, y2, y3, y4, y5], _ =>
    have h0 := hf 0 _ rfl
    have h1 := hf 1 _ rfl
    have h2 := hf 2 _ rfl
    have h3 := hf 3 _ rfl
    have h4 := hf 4 _ rfl
    have h5 := hf 5 _ rfl
    have z4 := DSized.field Tryz.underlying38 hz (i := 4) (y := y4) rfl rfl
    have z5 := DSized.field Tryz.underlying38 hz (i := 5) (y := y5) rfl rfl
    simp [cells_i64, cells_ek, cells_cm, cells_ints] at h0 h1 h2 h3 h4 h5
    obtain ⟨k0, e0, _, w0⟩ := DataW.trod_int Tryz.underlying3 h0
    obtain ⟨k1, e1, _, w1⟩ := DataW.trod_int Tryz.underlying35 h1
    obtain ⟨k2, e2, _, w2⟩ := DataW.trod_int Tryz.underlying3 h2
    obtain ⟨k3, e3, _, w3⟩ := DataW.trod_int Tryz.underlying3 h3
    obtain ⟨va, vl, vc, e5, t5⟩ := slice_cell Tryz.underlying36 h5
    obtain ⟨vs, rfl, vx, vq, vnil, vcap, vlen⟩ := open_sized (k := 1) (cells := iCells) (sub := noSub) (fun x => (Lit.int .i64 x).wf = true) Tryz.underlying36 cells_i64 (by decide) i_el t5 z5
    obtain ⟨ys, m4, _, hy, _, hlen4, hf4⟩ := DataW.trod_struct Tryz.underlying30 h4
    obtain ⟨d4, p4⟩ := y4
    simp only [Prod.mk.injEq] at hy
    obtain ⟨rfl, _⟩ := hy
    match ys, hlen4 with
    | [u0, u1, u2, u3], _ =>
      have g0 := hf4 0 _ rfl
      have g1 := hf4 1 _ rfl
      have g2 := hf4 2 _ rfl
      have g3 := hf4 3 _ rfl
      have q1 := DSized.field Tryz.underlying30 z4 (i := 1) (y := u1) rfl rfl
      have q2 := DSized.field Tryz.underlying30 z4 (i := 2) (y := u2) rfl rfl
      simp [cells_i64, cells_ck, cells_str, cells_vas] at g0 g1 g2 g3
      obtain ⟨k4, e4, _, w4⟩ := DataW.trod_int Tryz.underlying28 g0
      obtain ⟨s, e6, d6, _⟩ := DataW.trod_string Tryz.underlying9 g1
      obtain ⟨aa, al, ac, e7, t7⟩ := slice_cell Tryz.underlying25 g2
      obtain ⟨args, rfl, ax, aq, anil, acap, alen⟩ := open_sized (k := 3) (cells := vaCells) (sub := noSub) VaArg Tryz.underlying25 cells_va (by decide) va_el t7 q2
      obtain ⟨k8, e8, _, w8⟩ := DataW.trod_int Tryz.underlying3 g3
      rw [d6] at q1
      simp at e0 e1 e2 e3 e4 e5 e6 e7 e8
      subst e0 e1 e2 e3 e4 e5 e6 e7 e8
      rw [bytes_va] at alen
      rw [bytes_i] at vlen
      exact ⟨⟨k0, k1, k2, k3, k4, s, aa, args, ac, k8, va, vs, vc⟩, rfl, ⟨ax, vx⟩, ⟨w0, w1, w2, w3, w4, DSized.str q1, aq, w8, vq, alen, vlen, anil, vnil, acap, vcap⟩⟩
/-- Entries among the arguments. -/
theorem open_entries {H : Type} {enc : TypeId × Value → H} {W : World} {sp : Nat → Bool} {hd : Bool} {ao : Option Addr} {len cap : Nat} {d : DataW H} {p : List MemPlace} (h : DataW.Trod enc Tryz.prog W 0 sp hd 266 (.slice ao len cap) d p) (hz : DSized Tryz.prog 266 d) :
    ∃ es : List En, es.length = len ∧ EnsIn W W.heap.size ao es ∧ (∀ e ∈ es, EnWf e) ∧ (ao = none → cap = 0) ∧ len ≤ cap ∧ len * 112 ≤ 140737488351232 := by
  obtain ⟨es, h1, h2, h3, h4, h5, h6⟩ := open_sized (k := 9) (cells := enCells) (sub := enSub) EnWf Tryz.underlying266 cells_en (by decide) en_el h hz
  rw [bytes_en] at h6
  exact ⟨es, h1, h2, h3, h4, h5, h6⟩
end Go.Proofs.YtiggpcmikhojmaaGreatDoor
/- The forms of wire as bytes: plain definitions and laws. No program. Conditions: as each says. -/
namespace Go.Proofs.YtiggpcmikhojmaaGreatDoor
/-- A number in so many bytes, the greatest first. -/
def numB (size : Nat) (n : Int) : List Int := (List.range size).map fun j => n / 2 ^ (8 * (size - 1 - j)) % 256
theorem numB_len (size : Nat) (n : Int) : (numB size n).length = size := by simp [numB]
theorem numB_take (size : Nat) (n : Int) (k : Nat) (hk : k < size) : (numB size n).take (k + 1) = (numB size n).take k ++ [n / 2 ^ (8 * (size - 1 - k)) % 256] := by
  rw [List.take_succ_eq_append_getElem (by rw [numB_len]; exact hk)]
  simp [numB]
theorem numB_wf (size : Nat) (n : Int) : BytesWf (numB size n) := fun x hx => by
  obtain ⟨j, _, rfl⟩ := List.mem_map.1 hx
  omega
/-- A text's bytes, as numbers. -/
def strB (s : ByteArray) : List Int := s.data.toList.map fun c => (c.toNat : Int)
theorem strB_len (s : ByteArray) : (strB s).length = s.size := by simp [strB]
theorem strB_wf (s : ByteArray) : BytesWf (strB s) := fun x hx => by
  obtain ⟨c, _, rfl⟩ := List.mem_map.1 hx
  have := UInt8.toNat_lt c
  omega
def textB (s : ByteArray) : List Int := numB 4 s.size ++ strB s
def valueB (v : Va) : List Int := v.kind :: (if v.kind = 1 then numB 8 v.num else if v.kind = 2 then textB v.text else [])
def valuesB (vs : List Va) : List Int := numB 4 vs.length ++ vs.flatMap valueB
def commandB (ck : Int) (text : ByteArray) (num : Int) (args : List Va) : List Int := ck :: (textB text ++ (numB 8 num ++ valuesB args))
def entryB (e : EnP) : List Int := numB 8 e.term ++ (e.kind :: (numB 8 e.session ++ (numB 8 e.seq ++ (commandB e.ck e.text e.num e.args ++ (numB 4 e.vs.length ++ e.vs.flatMap (numB 8))))))
theorem textB_len (s : ByteArray) : (textB s).length = 4 + s.size := by rw [textB, List.length_append, numB_len, strB_len]
theorem valueB_len (v : Va) : (valueB v).length ≤ 9 + v.text.size := by
  unfold valueB
  rw [List.length_cons]
  split
  · rw [numB_len]; omega
  · split
    · rw [textB_len]; omega
    · simp; omega
theorem valueB_pos (v : Va) : 1 ≤ (valueB v).length := by unfold valueB; rw [List.length_cons]; omega
/-- The number that bytes say. -/
def getN (l : List Int) : Int := l.foldl (fun n c => n * 256 + c) 0
theorem getN_snoc (l : List Int) (c : Int) : getN (l ++ [c]) = getN l * 256 + c := by simp [getN]
theorem getN_numB (size : Nat) (n : Int) : getN (numB size n) = n % 256 ^ size := by
  have key : ∀ k, k ≤ size → getN ((numB size n).take k) = n / 2 ^ (8 * (size - k)) % 256 ^ k := by
    intro k
    induction k with
    | zero => intro _; simp [getN, Int.emod_one]
    | succ k ih =>
      intro hk
      rw [numB_take size n k hk, getN_snoc, ih (by omega)]
      have e1 : size - k = (size - (k + 1)) + 1 := by omega
      have e2 : size - 1 - k = size - (k + 1) := by omega
      rw [e1, e2]
      obtain ⟨m, hm⟩ : ∃ m, m = n / 2 ^ (8 * (size - (k + 1))) := ⟨_, rfl⟩
      have e3 : n / 2 ^ (8 * (size - (k + 1) + 1)) = m / 256 := by
        rw [hm, Int.ediv_ediv_of_nonneg (Int.le_of_lt (Int.pow_pos (by decide)))]
        congr 1
        rw [Nat.mul_add, Int.pow_add]
        rfl
      rw [e3, ← hm, Int.pow_succ]
      have hp : (0 : Int) < 256 ^ k := Int.pow_pos (by decide)
      generalize (256 : Int) ^ k = p at hp
      have h1 := Int.mul_ediv_add_emod m 256
      have h2 := Int.mul_ediv_add_emod (m / 256) p
      have h4 := Int.emod_nonneg (m / 256) (show p ≠ 0 by omega)
      have h5 := Int.emod_lt_of_pos (m / 256) hp
      have h6 := Int.emod_nonneg m (show (256 : Int) ≠ 0 by decide)
      have h7 := Int.emod_lt_of_pos m (show (0 : Int) < 256 by decide)
      have e : m = (m / 256 % p * 256 + m % 256) + (p * 256) * (m / 256 / p) := by
        have : p * 256 * (m / 256 / p) = 256 * (p * (m / 256 / p)) := by rw [Int.mul_comm p 256, Int.mul_assoc]
        rw [this]
        omega
      have hlt : m / 256 % p * 256 + m % 256 < p * 256 := by
        have : m / 256 % p * 256 ≤ (p - 1) * 256 := Int.mul_le_mul_of_nonneg_right (by omega) (by decide)
        have e9 : (p - 1) * 256 = p * 256 - 256 := by rw [Int.sub_mul]; omega
        omega
      have hge : 0 ≤ m / 256 % p * 256 + m % 256 := by
        have := Int.mul_nonneg h4 (show (0 : Int) ≤ 256 by decide)
        omega
      have := Int.add_mul_emod_self_left (m / 256 % p * 256 + m % 256) (p * 256) (m / 256 / p)
      rw [← e, Int.emod_eq_of_lt hge hlt] at this
      exact this.symm
  have := key size (Nat.le_refl _)
  rw [List.take_of_length_le (by rw [numB_len]; exact Nat.le_refl _), Nat.sub_self] at this
  simpa using this
theorem getN_bound (l : List Int) (h : BytesWf l) : 0 ≤ getN l ∧ getN l < 256 ^ l.length := by
  have key : ∀ r : List Int, BytesWf r.reverse → 0 ≤ getN r.reverse ∧ getN r.reverse < 256 ^ r.length := by
    intro r
    induction r with
    | nil => intro _; simp [getN]
    | cons c r ih =>
      intro hw
      rw [List.reverse_cons] at hw ⊢
      have h1 := ih (fun x hx => hw x (List.mem_append_left _ hx))
      have h2 := hw c (by simp)
      rw [getN_snoc, List.length_cons, Int.pow_succ]
      generalize (256 : Int) ^ r.length = p at h1
      generalize getN r.reverse = g at h1
      constructor
      · have := Int.mul_nonneg h1.1 (show (0 : Int) ≤ 256 by decide); omega
      · have : g * 256 ≤ (p - 1) * 256 := Int.mul_le_mul_of_nonneg_right (by omega) (by decide)
        have e9 : (p - 1) * 256 = p * 256 - 256 := by rw [Int.sub_mul]; omega
        omega
  have := key l.reverse (by rwa [List.reverse_reverse])
  rwa [List.reverse_reverse, List.length_reverse] at this
end Go.Proofs.YtiggpcmikhojmaaGreatDoor
/- LentBytes, KeptBytes: a row of bytes is copied with marks behind its end; as long as nobody writes there, it is found as it was. Conditions: the row has less than 2 to the 40 bytes. -/
namespace Go.Proofs.YtiggpcmikhojmaaGreatDoor
open Go.RowKit
set_option maxRecDepth 20000
/-- The mark of a place behind a row of bytes. -/
def markB (i : Nat) : Int := IntKind.u64.wrap ((8000024 + (i : Int)) * 11400714819323198485) / 72057594037927936 % 256
theorem markB_byte (i : Nat) : 0 ≤ markB i ∧ markB i < 256 := by unfold markB; omega
theorem markI_any (i : Int) (h0 : 0 ≤ i) (h1 : i ≤ 1000000000) (w : World) :
    Calls Tryz.prog 101 #[.int .i64 1, .int .i64 i] w fun e w' => e = .returned (.int .i64 (8000024 + i)) ∧ w = w' := by
  go_enter Tryz.func101, Tryz.ntmps101
  go_wp2
  go_ret
  exact ⟨rfl, rfl⟩
theorem markByte_any (i : Nat) (h1 : i ≤ 1000000000) (w : World) :
    Calls Tryz.prog 81 #[.int .i64 1, .int .i64 i] w fun e w' => e = .returned (.int .u8 (markB i)) ∧ w = w' := by
  go_enter Tryz.func81, Tryz.ntmps81
  go_wp2_with (go_at_call 101; (with_reducible refine (markI_any i (by omega) (by omega) _).mono ?_); rintro e w' ⟨rfl, rfl⟩)
  go_ret
  exact ⟨rfl, rfl⟩
theorem markByte_at (i : Int) (m : Nat) (h : i = m) (h1 : m ≤ 1000000000) (w : World) :
    Calls Tryz.prog 81 #[.int .i64 1, .int .i64 i] w fun e w' => e = .returned (.int .u8 (markB m)) ∧ w = w' := by
  subst h; exact markByte_any m h1 w
def marksB (k : Nat) : List Int := (List.range k).map markB
theorem marksB_succ (k : Nat) : marksB (k + 1) = marksB k ++ [markB k] := by simp [marksB, List.range_succ]
theorem marksB_len (k : Nat) : (marksB k).length = k := by simp [marksB]
/-- Block g holds the bytes xs and twelve marksB behind them. -/
def LentB (w : World) (B g : Nat) (xs : List Int) : Prop :=
  w.ownsRow B 5 1 (.slice (some ⟨g, 0, none⟩) (xs.length + 12) (xs.length + 12)) (xs.length + 12) ((xs ++ marksB 12).map bv)
theorem own_belowB {w : World} {base e size n : Nat} {v : Value} {xs : List Value} (h : w.ownsRow base e size v n xs) : ∀ k, v.ownBlock = some k → base ≤ k := by
  intro k hk
  rcases h.2 with ⟨rfl, _⟩ | ⟨g, cap, cur, rfl, h3, _⟩
  · simp [Value.ownBlock] at hk
  · simp [Value.ownBlock] at hk; omega
theorem ownsRow_ltB {w : World} {base e size n g c : Nat} {xs : List Value} (h : w.ownsRow base e size (.slice (some ⟨g, 0, none⟩) n c) n xs) : g < w.heap.size := by
  rcases h.2 with ⟨h', _⟩ | ⟨g', cap', cur, h', _, h3, _⟩
  · simp at h'
  · simp only [Value.slice.injEq, Option.some.injEq, Addr.mk.injEq, and_true, true_and] at h'
    obtain ⟨rfl, rfl⟩ := h'
    exact (Array.getElem?_eq_some_iff.1 h3).1
def LentBPost (xs : List Int) (w : World) (e : Ending) (w' : World) : Prop :=
  ∃ g, e = .returned (.slice (some ⟨g, 0, none⟩) xs.length (xs.length + 12)) ∧ w.heap.size ≤ g ∧ g < w'.heap.size ∧ LentB w' w.heap.size g xs ∧ Below w.heap.size w w'
def LentBAt (w : World) (g : Nat) (xs : List Int) (k : Nat) : Prop :=
  w.ownsRow g 5 1 (.slice (some ⟨g, 0, none⟩) (xs.length + k) (xs.length + 12)) (xs.length + k) ((xs ++ marksB k).map bv)
theorem lentBAt_succ {w : World} {g k : Nat} {xs : List Int} (h : w.ownsRow g 5 1 (.slice (some ⟨g, 0, none⟩) (xs.length + k + 1) (xs.length + 12)) (xs.length + k + 1) (xs.map bv ++ ((marksB k).map bv ++ [.int .u8 (markB k)]))) : LentBAt w g xs (k + 1) := by
  unfold LentBAt
  rw [marksB_succ, List.map_append, List.map_append, ← Nat.add_assoc]
  exact h
theorem LentBAt.lt {w : World} {g k : Nat} {xs : List Int} (h : LentBAt w g xs k) : g < w.heap.size := ownsRow_ltB h
theorem lentB_any (ao : Option Addr) (cap : Nat) (xs : List Int) (w : World) (hx : BytesIn w w.heap.size ao xs) (hao : ao = none → cap = 0) (hl : xs.length ≤ 1099511627776) :
    Calls Tryz.prog 44 #[.slice ao xs.length cap] w (LentBPost xs w) := by
  obtain ⟨i0, hi, hz0, hz1, hz2⟩ := info_parts infoByte
  have hm1 : (0 : Int) ≤ (xs.length : Int) + 12 := by omega
  have HX := Lib.hid hx
  clear hx
  go_enter Tryz.func44, Tryz.ntmps44
  go_wp2_with (at_make; refine wpList_make_own _ rfl _ _ 43 rfl w.heap.size 5 i0 (.int .u8 0) 1 Tryz.underlying43 hi hz0 hz1 .i64 .i64 _ (xs.length + 12) rfl rfl (by omega) (by rw [hz2]; omega) (by unfold maxLen; omega) (Nat.le_refl _) ?_)
  intro w1 hown1 hg1
  have hb1 : Below w.heap.size w w1 := (Below.refl _ _).grown hg1 (Nat.le_refl _) (fun k hk => by cases hk)
  have hnone : ao = none → xs.length = 0 ∧ cap = 0 := fun h => ⟨by rcases HX.out with h0 | ⟨b, off, h1, _⟩; (rw [h0]; rfl); (rw [h] at h1; cases h1), hao h⟩
  have hcell : ∀ ad, ao = some ad → ∀ (j : Nat) u, (xs.map bv)[j]? = some u → w1.cell? (ad.add j) = some u := fun ad had j u hu => cells_of_bytes HX.out hb1 had hu
  go_wp2_with (at_builtin; refine wpList_append_fits_any _ rfl (.tmp 9) (.tmp 10) 43 rfl w.heap.size 5 i0 1 Tryz.underlying43 hi hz1 w.heap.size 0 (xs.length + 12) [] rfl hown1 ao xs.length cap (xs.map bv) rfl (by simp) hnone hcell (bytes_oneCell _) (by omega) ?_)
  intro w2 hown2 hg2
  have hb2 : Below w.heap.size w w2 := hb1.grown hg2 (hb1.size) (fun k hk => by cases hk; exact Nat.le_refl _)
  clear hnone hcell hown1 hg1 hg2 hb1
  have hgs : w.heap.size < w2.heap.size := ownsRow_ltB hown2
  go_wp2_with fail
  go_loopw [3, 4] (fun v i wr => ∃ k : Nat, k ≤ 12 ∧ i = .int .i64 k ∧ v = .slice (some ⟨w.heap.size, 0, none⟩) (xs.length + k) (xs.length + 12) ∧ LentBAt wr w.heap.size xs k ∧ Below w.heap.size w wr) (fun _ i _ => 12 - (intOf i).toNat)
  case atStart => exact ⟨0, by omega, rfl, rfl, by simpa [LentBAt, marksB] using hown2, hb2⟩
  case round =>
    obtain ⟨k, hk, rfl, rfl, hown, hbel⟩ := hrel
    clear hown2 hb2 hgs
    by_cases hlt : k < 12
    · have hs := hbel.size
      go_wp2_with (first | (go_at_call 81; (with_reducible refine (markByte_any k (by omega) _).mono ?_); rintro e w' ⟨rfl, rfl⟩) | (at_builtin; refine wpList_append_fits _ rfl (.tmp 16) (.tmp 19) 43 rfl w.heap.size 5 i0 1 Tryz.underlying43 hi hz1 w.heap.size (xs.length + k) (xs.length + 12) ((xs ++ marksB k).map bv) rfl (World.ownsRow.alloc hown _) ⟨wr.heap.size, 0, none⟩ 1 1 [.int .u8 (markB k)] rfl rfl (cell_one_new _ _ _) (by simp [Value.oneCell']) (by omega) ?_))
      intro w3 hown3 hg3
      have hb3 : Below w.heap.size w w3 := (hbel.alloc hs _).grown hg3 (by simp; omega) (fun k hk => by cases hk; exact Nat.le_refl _)
      have hown4 : LentBAt w3 w.heap.size xs (k + 1) := lentBAt_succ hown3
      clear hown hown3 hg3
      go_wp2_with fail
      go_roundw
      case rel => exact ⟨k + 1, by omega, by go_num, by rw [Nat.add_assoc], hown4, hb3⟩
      case measure => simp [intOf]; omega
    · obtain rfl : k = 12 := by omega
      have hx1 := hown.lt
      go_wp2_with fail
      go_ret
      exact ⟨w.heap.size, rfl, Nat.le_refl _, hx1, hown, hbel⟩
theorem LentB.below {w w' : World} {B g B' : Nat} {xs : List Int} (h : LentB w B g xs) (hb : Below B' w w') (hg : g < B') : LentB w' B g xs := by
  refine ⟨h.1, ?_⟩
  rcases h.2 with ⟨h', _⟩ | ⟨g', cap', cur, h', h2, h3, h4⟩
  · simp at h'
  · have e : g' = g := by simp at h'; exact h'.1.symm
    exact Or.inr ⟨g', cap', cur, h', h2, by rw [hb.block g' (by omega)]; exact h3, h4⟩
theorem LentB.bytes {w : World} {B g : Nat} {xs : List Int} (h : LentB w B g xs) : BytesIn w (g + 1) (some ⟨g, 0, none⟩) xs := by
  refine Or.inr ⟨g, 0, rfl, by omega, fun i hi => ?_⟩
  rw [Nat.zero_add, World.ownsRow.cellAt h i (by omega)]
  rw [List.map_append, List.getElem?_append_left (by simpa using hi)]
  simp [bv, List.getD, List.getElem?_eq_getElem hi]
theorem LentB.mark {w : World} {B g : Nat} {xs : List Int} (h : LentB w B g xs) {i : Nat} (hi : i < 12) : w.cell? ⟨g, xs.length + i, none⟩ = some (.int .u8 (markB i)) := by
  rw [World.ownsRow.cellAt h _ (by omega)]
  simp [bv, marksB, hi]
theorem LentB.lt {w : World} {B g : Nat} {xs : List Int} (h : LentB w B g xs) : g < w.heap.size := ownsRow_ltB h
theorem keptB_any (ao : Option Addr) (cap g B : Nat) (xs : List Int) (w : World) (hx : BytesIn w w.heap.size ao xs) (hL : LentB w B g xs) (hl : xs.length ≤ 1099511627776) :
    Calls Tryz.prog 45 #[.slice (some ⟨g, 0, none⟩) xs.length (xs.length + 12 : Nat), .slice ao xs.length cap] w fun e w' => e = .returned (.bool true) ∧ Below w.heap.size w w' := by
  have HX := Lib.hid hx
  clear hx
  go_enter Tryz.func45, Tryz.ntmps45
  go_wp2_with fail
  go_loopw [6] (fun i wr => ∃ k : Nat, k ≤ xs.length + 12 ∧ i = .int .i64 k ∧ Below w.heap.size w wr) (fun i _ => xs.length + 12 - (intOf i).toNat)
  case atStart => exact ⟨0, by omega, rfl, Below.refl _ _⟩
  case round =>
    obtain ⟨k, hk, rfl, hbel⟩ := hrel
    by_cases hlt : k < xs.length
    · rcases HX.out with h0 | ⟨b, off, rfl, hb, hc⟩
      · rw [h0] at hlt; simp at hlt
      obtain ⟨x, hxe⟩ : ∃ x, x = xs.getD k 0 := ⟨_, rfl⟩
      have c0 : ∀ x : Calm w.heap.size w, x.1.cell? ⟨b, off + k, none⟩ = some (.int .u8 (xs.getD k 0)) := fun x => x.cell (hc k hlt) hb
      have c1 : ∀ x : Calm w.heap.size w, x.1.cell? ⟨g, k, none⟩ = some (.int .u8 (xs.getD k 0)) := fun x => x.cell (by
        rcases hL.bytes with h0 | ⟨b', off', h1, _, h3⟩
        · rw [h0] at hlt; simp at hlt
        · cases h1; simpa using h3 k hlt) hL.lt
      rw [← hxe] at c0 c1
      clear hxe hc
      have i1 : (k : Int) < xs.length := by omega
      have d1 : decide (xs.length ≤ k) = false := by simp; omega
      go_wp2_with fail
      refine wp_region_calm (B := w.heap.size) (W0 := w) hbel (by kernel_rfl) (by kernel_rfl) ?_
      repeat (go_big_quiet_step (fail))
      refine wpQuiet_nil ?_
      intro w5 hb5
      clear c0 c1
      go_wp2_with fail
      go_roundw
      case rel => exact ⟨k + 1, by omega, by go_num, hb5⟩
      case measure => simp [intOf]; omega
    · by_cases hlt2 : k < xs.length + 12
      · obtain ⟨m, rfl⟩ : ∃ m, k = xs.length + m := ⟨k - xs.length, by omega⟩
        have c1 : ∀ x : Calm w.heap.size w, x.1.cell? ⟨g, xs.length + m, none⟩ = some (.int .u8 (markB m)) := fun x => x.cell (hL.mark (by omega)) hL.lt
        have i1 : ¬ (xs.length : Int) + m < xs.length := by omega
        have i2 : (xs.length : Int) + m < xs.length + 12 := by omega
        have d1 : decide ((xs.length : Int) + m < xs.length) = false := by simp; omega
        have n1 : ((xs.length : Int) + m).toNat = xs.length + m := by omega
        have n2 : IntKind.i64.wrap (m : Int) = m := IntWalk.i64_in _ (by omega)
        have n3 : (0 : Int) ≤ (xs.length : Int) + m := by omega
        go_wp2_with fail
        refine wp_region_calm (B := w.heap.size) (W0 := w) hbel (by kernel_rfl) (by kernel_rfl) ?_
        repeat (go_big_quiet_step ((go_at_call 81; exact Calm.same (markByte_at _ m (by omega) (by omega) _))))
        refine wpQuiet_nil ?_
        intro w5 hb5
        clear c1
        go_wp2_with fail
        go_roundw
        case rel => exact ⟨xs.length + m + 1, by omega, by go_num, hb5⟩
        case measure => simp [intOf]; omega
      · go_wp2_with fail
        go_ret
        exact ⟨rfl, hbel⟩
end Go.Proofs.YtiggpcmikhojmaaGreatDoor
/- The writer of wire: what it writes stands behind what it held. Conditions: the buffer holds bytes, and has only been written. -/
namespace Go.Proofs.YtiggpcmikhojmaaGreatDoor
open Go.RowKit
set_option maxRecDepth 20000
/-- Block b is a writer that holds these bytes. -/
def BufIs (w : World) (B b : Nat) (bs : List Int) : Prop := LibA.IsBuffer 101 (fun _ => none) 5 B b 0 (bs.map bv) w
/-- What a writing method does. -/
def Wrote (B b : Nat) (bs : List Int) (w w' : World) : Prop := BufIs w' B b bs ∧ Below B w w' ∧ Lib.OthersKept 5 (some b) w w'
theorem Wrote.trans {B b : Nat} {bs cs : List Int} {w w' w'' : World} (h : Wrote B b bs w w') (h2 : Wrote B b cs w' w'') : Wrote B b cs w w'' := ⟨h2.1, h.2.1.trans h2.2.1, h.2.2.trans h2.2.2⟩
theorem Wrote.drew {B b : Nat} {bs : List Int} {w w' : World} (h : Wrote B b bs w w') : Wrote B b bs w w'.drew := ⟨h.1, h.2.1.drew, h.2.2⟩
theorem BufIs.low {w : World} {B b : Nat} {bs : List Int} (h : BufIs w B b bs) : B ≤ b := h.1
theorem writeByte_any (B b : Nat) (bs : List Int) (c : Int) (w : World) (h : BufIs w B b bs) (hBw : B ≤ w.heap.size) (hlim : bs.length + 1 ≤ 140737488355328) :
    Calls Tryz.prog 72 #[.pointer (some ⟨b, 0, none⟩), .int .u8 c] w fun e w' => e = .returned .nilIface ∧ Wrote B b (bs ++ [c]) w w' := by
  refine (Tryz.Buffer_WriteByte_at _ _ B b 0 _ c w h hBw (bytes_oneCell _) (by simpa using hlim)).mono ?_
  rintro e w' ⟨h1, h2, h3, h4⟩
  exact ⟨h1, by unfold BufIs; rw [List.map_append]; exact h2, h3, h4⟩
theorem byteCells_bv (s : ByteArray) : Lib.byteCells s.data.toList = (strB s).map bv := by
  simp [Lib.byteCells, strB, bv]
theorem writeString_any (B b : Nat) (bs : List Int) (s : ByteArray) (w : World) (h : BufIs w B b bs) (hBw : B ≤ w.heap.size) (hlim : bs.length + s.size ≤ 140737488355328) :
    Calls Tryz.prog 104 #[.pointer (some ⟨b, 0, none⟩), .string s] w fun e w' => e = .returned (.tuple #[.int .i64 s.size, .nilIface]) ∧ Wrote B b (bs ++ strB s) w w' := by
  refine (Tryz.Buffer_WriteString_at _ _ B b 0 _ s w h hBw (bytes_oneCell _) (by simpa using hlim)).mono ?_
  rintro e w' ⟨h1, h2, h3, h4⟩
  exact ⟨h1, by unfold BufIs; rw [List.map_append, ← byteCells_bv]; exact h2, h3, h4⟩
theorem flatN_len (size : Nat) (xs : List Int) : (xs.flatMap (numB size)).length = xs.length * size := by
  induction xs with
  | nil => simp
  | cons x xs ih => rw [List.flatMap_cons, List.length_append, ih, numB_len, List.length_cons, Nat.add_mul]; omega
set_option maxHeartbeats 1000000 in
theorem put_any (B b rb m c size : Nat) (bs xs : List Int) (w : World) (hsz : size ≤ 8) (hs0 : 1 ≤ size) (hrb : rb ≠ b) (hm : xs.length = m) (hrow : w.heap[rb]? = some (.cells (xs.map fun x => .int .i64 x).toArray 2 (0, 0))) (h : BufIs w B b bs) (hBw : B ≤ w.heap.size) (hml : m ≤ 1000) (hlim : bs.length + 9000 ≤ 140737488355328) :
    Calls Tryz.prog 64 #[.pointer (some ⟨b, 0, none⟩), .int .i64 size, .slice (some ⟨rb, 0, none⟩) m c] w fun e w' => e = .returned (.tuple #[]) ∧ Wrote B b (bs ++ xs.flatMap (numB size)) w w' := by
  have HM := Lib.hid hm
  have HR := Lib.hid hrow
  have HB := Lib.hid h
  clear hm hrow h
  have hne : some rb ≠ some b := by simpa using hrb
  go_enter Tryz.func64, Tryz.ntmps64
  go_wp2_with fail
  go_loopw [11] (fun i wr => ∃ k : Nat, k ≤ m ∧ i = .int .i64 k ∧ Wrote B b (bs ++ (xs.take k).flatMap (numB size)) w wr) (fun i _ => m - (intOf i).toNat)
  case atStart => exact ⟨0, by omega, rfl, by simpa using HB.out, Below.refl _ _, Lib.OthersKept.refl _ _ _⟩
  case round =>
    obtain ⟨k, hk, rfl, hw⟩ := hrel
    have HW := Lib.hid hw
    clear hw
    by_cases hlt : k < m
    · have hkx : xs[k]? = some (xs[k]'(by rw [HM.out]; exact hlt)) := List.getElem?_eq_getElem _
      have htk : (xs.take (k + 1)).flatMap (numB size) = (xs.take k).flatMap (numB size) ++ numB size (xs[k]'(by rw [HM.out]; exact hlt)) := by
        rw [List.take_succ_eq_append_getElem (by rw [HM.out]; exact hlt), List.flatMap_append]; simp
      have hlen : ((xs.take k).flatMap (numB size)).length ≤ k * 8 := by
        rw [flatN_len, List.length_take]
        exact Nat.mul_le_mul (Nat.min_le_left _ _) hsz
      generalize (xs[k]'(by rw [HM.out]; exact hlt)) = x at hkx htk
      have hrw := HW.out.2.2 rb _ HR.out hne (by intro c fz hh; injection hh with _ h2 _; revert h2; decide)
      have c0 : wr.cell? ⟨rb, k, none⟩ = some (.int .i64 x) := by
        rw [Go.Joins.cell_of_block hrw k, List.getElem?_toArray, List.getElem?_map, hkx]; rfl
      have HT := Lib.hid htk
      have i1 : (k : Int) < m := by omega
      clear hkx htk hrw
      go_wp2_with fail
      obtain ⟨wo, rfl⟩ : ∃ wo : World, wo = wr := ⟨_, rfl⟩
      have w0 : IntKind.i64.wrap ((size : Int) - 1) = (size : Int) - 1 := IntWalk.i64_in _ (by omega)
      go_loopw [8] (fun i wi => ∃ q : Nat, q ≤ size ∧ i = .int .i64 ((size : Int) - 1 - q) ∧ Wrote B b (bs ++ (xs.take k).flatMap (numB size) ++ (numB size x).take q) w wi) (fun i _ => (intOf i + 1).toNat)
      case atStart => exact ⟨0, by omega, by simp, by simpa using HW.out⟩
      case round =>
        obtain ⟨q, hq, rfl, hw2⟩ := hrel
        have HW2 := Lib.hid hw2
        clear hw2 c0
        by_cases hltq : q < size
        · obtain ⟨p, hp⟩ : ∃ p : Nat, p = size - 1 - q := ⟨_, rfl⟩
          have hpe : (size : Int) - 1 - q = p := by omega
          have hnt := numB_take size x q hltq
          rw [← hp] at hnt
          have HNT := Lib.hid hnt
          have hp8 : p ≤ 7 := by omega
          have w3 : IntKind.i64.wrap (8 * (p : Int)) = 8 * p := IntWalk.i64_in _ (by omega)
          have n3 : ((8 : Int) * p).toNat = 8 * p := by omega
          have g3 : (0 : Int) ≤ 8 * p := by omega
          have HPE := Lib.hid hpe
          have hlq : ((numB size x).take q).length ≤ 8 := by rw [List.length_take, numB_len]; omega
          rw [hpe]
          clear hnt hp hpe
          go_wp2_with fail
          go_still_tail 8, (by kernel_rfl)
          change wpList _ _ _ _ _ wr.drew
          have hw4 : Wrote B b (bs ++ (xs.take k).flatMap (numB size) ++ (numB size x).take q) w wr.drew := HW2.out.drew
          generalize wr.drew = w6 at hw4 ⊢
          have HW4 := Lib.hid hw4
          clear hw4
          go_wp2_with fail
          refine (writeByte_any B b _ (x / 2 ^ (8 * p) % 256) w6 HW4.out.1 (Nat.le_trans hBw HW4.out.2.1.size) (by simp only [List.length_append]; omega)).mono ?_
          rintro e w7 ⟨rfl, hw7⟩
          have hw8 := HW4.out.trans hw7
          rw [List.append_assoc, ← HNT.out] at hw8
          have HW8 := Lib.hid hw8
          clear hw7 hw8
          go_wp2_with fail
          go_roundw
          case rel => exact ⟨q + 1, by omega, by have := HPE.out; congr 1; push_cast; omega, HW8.out⟩
          case measure => first | (simp [intOf]; done) | (have := HPE.out; simp [intOf]; omega)
        · have hqe : q = size := by omega
          have hw5 := HW2.out
          rw [hqe, List.take_of_length_le (l := numB size x) (by rw [numB_len]; exact Nat.le_refl _), List.append_assoc, ← HT.out] at hw5
          have HW5 := Lib.hid hw5
          have g5 : (size : Int) - 1 - q < 0 := by omega
          clear hw5 hqe
          go_wp2_with fail
          go_roundw
          case rel => exact ⟨k + 1, by omega, by go_num, HW5.out⟩
          case measure => simp [intOf]; omega
    · obtain rfl : k = m := by omega
      have hw5 := HW.out
      rw [List.take_of_length_le (by rw [HM.out]; exact Nat.le_refl _)] at hw5
      have HW5 := Lib.hid hw5
      clear hw5
      go_wp2_with fail
      go_end0
      exact ⟨rfl, HW5.out⟩
end Go.Proofs.YtiggpcmikhojmaaGreatDoor
