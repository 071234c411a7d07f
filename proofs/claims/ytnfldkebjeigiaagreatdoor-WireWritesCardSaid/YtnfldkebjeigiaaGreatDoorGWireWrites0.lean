/- Small laws over any program that all texts of this seat use: equations of endings, a callee that reads alone, and the end of a law's proof: nothing that was there is changed, and true is returned, so the row's post holds. -/
import Derived.Test.YtnfldkebjeigiaaGreatDoorRows
import Derived.WalkKit
import Derived.WalkSpells
import Derived.WalkLawsBesides
import Derived.ProofKit
import Derived.OpenShut
import Derived.SizedLaws
import Derived.Carry
import Derived.OpenVars
import Derived.Deep.QuietTactic
import Derived.BigQuiet
import Derived.BigGuardPart
import Derived.Lib.Hide
import Derived.Lib.SmallJoins
import Derived.Deep.Slices
import Derived.Laws.AppendOwnNone
import Derived.ArgAppend
import Derived.Deep.OwnRows
set_option linter.unusedVariables false
namespace Go.Proofs.YtnfldkebjeigiaaGreatDoor
open Go.RowKit Go.ChangeShapes Go.WideShapes Go.ChangeAt
theorem ret_int {k : IntKind} {a b : Int} (h : a = b) : Ending.returned (.int k a) = .returned (.int k b) := by rw [h]
theorem ret_bool {a b : Bool} (h : a = b) : Ending.returned (.bool a) = .returned (.bool b) := by rw [h]
theorem ret_bi {k : IntKind} {a b : Bool} {i j : Int} (h : a = b) (h' : i = j) : Ending.returned (.tuple #[.bool a, .int k i]) = .returned (.tuple #[.bool b, .int k j]) := by rw [h, h']
theorem quietly {P : Program} {f : FuncId} {args : Array Value} {w : World} {n : Nat} {v : Value}
    (h : Calls P f args (w.drewN n) fun e w' => e = .returned v ∧ w.drewN n = w') : Calls P f args (w.drewN n) fun e w'' => e = .returned v ∧ ∃ m, w'' = w.drewN m :=
  h.mono fun _ _ ⟨he, hm⟩ => ⟨he, n, hm.symm⟩
theorem trodAll_below {H : Type} {enc : TypeId × Value → H} {P : Program} (hl : laidOutB P = true) {W W' : World} (hb : Below W.heap.size W W') :
    ∀ {ts : List TypeId} {vs : List Value} {ds : List (DataW H)} {ps : List MemPlace}, (ts.all fun t => P.readableRec t && decide (t < P.types.size)) = true →
      DataW.TrodAll enc P W 0 (fun _ => true) true ts vs ds ps → (∀ x ∈ ps, x.block < W.heap.size) → DataW.TrodAll enc P W' 0 (fun b => decide (b < W.heap.size)) true ts vs ds ps
  | [], [], [], _, _, h, _ => h
  | [], _ :: _, _, _, _, h, _ => h.elim
  | [], [], _ :: _, _, _, h, _ => h.elim
  | _ :: _, [], _, _, _, h, _ => h.elim
  | _ :: _, _ :: _, [], _, _, h, _ => h.elim
  | t :: ts, v :: vs, d :: ds, ps, ht, h, hlt => by
    obtain ⟨p, q, h1, h2, rfl⟩ := h
    simp only [List.all_cons, Bool.and_eq_true, decide_eq_true_eq] at ht
    exact ⟨p, q, Below.trod hl ht.1.1 ht.1.2 h1 hb (fun x hx => hlt x (List.mem_append_left _ hx)), trodAll_below hl hb ht.2 h2 (fun x hx => hlt x (List.mem_append_right _ hx)), rfl⟩
/-- The post of a law's row: true is returned, and nothing that was there is changed. -/
theorem law_post {H : Type} {enc : TypeId × Value → H} {P : Program} {f : Func} {s : ChangeSpec} {W W' : World} {args : Array Value} {ds gs : List (DataW H)} {before : List MemPlace} {tb : TypeId}
    (hl : laidOutB P = true) (hts : (f.params.toList.all fun t => P.readableRec t && decide (t < P.types.size)) = true) (hvs : varsRowed P s.vars = true) (hrt : f.resultTypes = #[tb]) (htb : P.underlying tb = some .bool)
    (hres : (s.fn H (ds ++ gs)).results = [.lit (.bool true)]) (hargs : (s.fn H (ds ++ gs)).args = ds) (hvars : (s.fn H (ds ++ gs)).vars = gs)
    (hW : DataW.Whole enc P f.params.toList s.vars false W args.toList ds gs before) (hb : Below W.heap.size W W') :
    s.post enc P f false true false false W args (.bool true) W' := by
  have hW' := hW
  obtain ⟨p, q, hA, hV, rfl, _, _⟩ := hW
  have hlt : ∀ x ∈ p ++ q, x.block < W.heap.size := fun x hx => hW'.lt x hx
  refine ⟨ds, gs, p ++ q, [], p, q, hW', ?_, ?_, ?_, hb.frame _, fun h => by cases h⟩
  · rw [hres, hrt]
    exact trodAll_cons_mk (shut_bool htb _) trodAll_mk0
  · rw [hargs]
    exact trodAll_below hl hb hts hA (fun x hx => hlt x (List.mem_append_left _ hx))
  · rw [hvars]
    exact Below.trodVars hl hb hvs hV
/-! ### A region that draws its order, whose operations read and whose callees make memory at most: one walk in the order of the text, over the worlds that are as W0 was below block B. -/
def Calm (B : Nat) (W0 : World) := { w' : World // Below B W0 w' }
instance {B : Nat} {W0 : World} : Nonempty (Calm B W0) := ⟨⟨W0, Below.refl _ _⟩⟩
theorem wp_region_calm {P : Program} {B : Nat} {W0 : World} {id : Nat} {Q : Exit → Act → World → Prop} {a : Act} {w : World} {l : List Oper} (hw : Below B W0 w) (hm : P.follows .mixedOrders = true) (hB : Region.lexB .any l.toArray = true)
    (h : wpQuiet P l.toArray (fun w' => ∃ x : Calm B W0, w' = x.1) (fun a' => ∀ w1, Below B W0 w1 → Q .normal a' w1) l a) : (Code.region id l.toArray true).wp P Q a w := by
  refine wp_region_quiet (C := fun w' => ∃ x : Calm B W0, w' = x.1) hm hB ⟨⟨_, hw.drew⟩, rfl⟩ ?_
  have e : (fun a' => ∀ w', (∃ x : Calm B W0, w' = x.1) → Q .normal a' w') = (fun a' => ∀ w1, Below B W0 w1 → Q .normal a' w1) := by
    funext a'
    exact propext ⟨fun h w1 hb => h w1 ⟨⟨w1, hb⟩, rfl⟩, fun h w' ⟨x, hx⟩ => hx ▸ h x.1 x.2⟩
  rw [e]
  simpa using h
theorem Calm.cell {B : Nat} {W0 : World} (x : Calm B W0) {b o : Nat} {v : Value} (h : W0.cell? ⟨b, o, none⟩ = some v) (hb : b < B) : x.1.cell? ⟨b, o, none⟩ = some v := by
  rw [x.2.cell hb]; exact h
theorem Calm.call {P : Program} {f : FuncId} {args : Array Value} {B : Nat} {W0 : World} {x : Calm B W0} {v : Value} (hB : B ≤ W0.heap.size)
    (h : Calls P f args x.1 fun e w' => e = .returned v ∧ Below x.1.heap.size x.1 w') : Calls P f args x.1 fun e w'' => e = .returned v ∧ ∃ y : Calm B W0, w'' = y.1 :=
  h.mono fun _ w' ⟨he, hb⟩ => ⟨he, ⟨w', x.2.trans (hb.mono (Nat.le_trans hB x.2.size))⟩, rfl⟩
theorem Calm.same {P : Program} {f : FuncId} {args : Array Value} {B : Nat} {W0 : World} {x : Calm B W0} {v : Value}
    (h : Calls P f args x.1 fun e w' => e = .returned v ∧ x.1 = w') : Calls P f args x.1 fun e w'' => e = .returned v ∧ ∃ y : Calm B W0, w'' = y.1 :=
  h.mono fun _ _ ⟨he, hb⟩ => ⟨he, x, hb.symm⟩
/-- An array of two integers, by value. -/
theorem open_arr2 {H : Type} {enc : TypeId × Value → H} {P : Program} {W : World} {b0 base : Nat} {sp : Nat → Bool} {hd : Bool} {t e : TypeId} {v : Value} {d : DataW H} {p : List MemPlace}
    (ht : P.underlying t = some (.array 2 e)) (he : P.underlying e = some (.int .i64)) (h1 : P.cellsOf t = 2) (h2 : P.cellsOf e = 1) (hv : Value.okWide P W .any b0 t v) (h : DataW.Trod enc P W base sp hd t v d p) :
    ∃ a b, v = .agg #[.int .i64 a, .int .i64 b] ∧ (Lit.int .i64 a).wf = true ∧ (Lit.int .i64 b).wf = true := by
  simp only [Value.okWide, ht] at hv
  obtain ⟨cs, rfl, hsz, _⟩ := hv
  rw [h1] at hsz
  obtain ⟨c0, c1, rfl⟩ := Go.Joins.array2 hsz
  obtain ⟨fuel, hf⟩ := h
  obtain ⟨xs, m, rfl, _, _, hxs, hx⟩ := DataW.trod_array ht hf
  have q0 := hx 0 (by omega)
  have q1 := hx 1 (by omega)
  match xs, hxs with
  | [x0, x1], _ =>
    simp [h2, Value.cells] at q0 q1
    obtain ⟨a, ea, _, wa⟩ := DataW.trod_int he q0
    obtain ⟨b, eb, _, wb⟩ := DataW.trod_int he q1
    simp at ea eb
    exact ⟨a, b, by rw [ea, eb], wa, wb⟩
/-- A slice's elements: none, or at an address, each by its cells and its own reading. -/
theorem slice_cases {H : Type} {enc : TypeId × Value → H} {P : Program} {W : World} {base : Nat} {sp : Nat → Bool} {hd : Bool} {t e : TypeId} {ao : Option Addr} {len cap C : Nat} {d : DataW H} {p : List MemPlace}
    (ht : P.underlying t = some (.slice e)) (hC : P.cellsOf e = C) (hC0 : 0 < C) (h : DataW.Trod enc P W base sp hd t (.slice ao len cap) d p) :
    len ≤ maxLen ∧ (len = 0 ∨ ∃ (b off n : Nat) (D : Nat → DataW H) (Pl : Nat → List MemPlace), ao = some ⟨b, off, none⟩ ∧ base ≤ b ∧ b < W.heap.size ∧
      ∀ i, i < len → ∃ cs : List Value, cs.length = C ∧ (∀ j, j < C → W.cell? ⟨b, off + i * C + j, none⟩ = cs[j]?) ∧ DataW.trod enc P W base sp hd n e cs = some (D i, Pl i)) := by
  obtain ⟨fuel, hf⟩ := h
  rcases Go.Deep.open_slice ht hf with ⟨h0, _⟩ | ⟨a, len', cap', m, n, D, Pl, h0, hb, hl, hm, hmm, _, hx⟩
  · simp [Value.cells] at h0
    obtain ⟨rfl, rfl, rfl⟩ := h0
    exact ⟨by unfold maxLen; omega, Or.inl rfl⟩
  · simp [Value.cells] at h0
    obtain ⟨rfl, rfl, rfl⟩ := h0
    refine ⟨by omega, ?_⟩
    by_cases hz : len = 0
    · exact Or.inl hz
    · right
      have hlm : len ≤ m := by rw [hmm]; split <;> omega
      rw [hC] at hx
      obtain ⟨b, off, spot⟩ := a
      have hs : spot = none := by
        obtain ⟨cs', h1, _⟩ := hx 0 (by omega)
        have h2 := (World.cells?_some h1).2.2 0 hC0
        have h3 : cs'.length = C := (World.cells?_some h1).2.1
        rw [List.getElem?_eq_getElem (by omega)] at h2
        simpa [Addr.add] using World.cell?_spot h2
      subst hs
      refine ⟨b, off, n, D, Pl, rfl, hb, ?_, fun i hi => ?_⟩
      · obtain ⟨cs', h1, _⟩ := hx 0 (by omega)
        have h2 := World.cells?_block h1 hC0
        simpa [Addr.add] using h2
      · obtain ⟨cs', h1, h2⟩ := hx i (by omega)
        obtain ⟨_, h3, h4⟩ := World.cells?_some h1
        refine ⟨cs', h3, fun j hj => ?_, h2⟩
        have := h4 j hj
        rw [Go.Deep.add_add, Go.WideShapes.add_plain] at this
        rw [← this, Nat.add_assoc]
/-- The reach, of a slice among the arguments. -/
theorem sized_len {H : Type} {enc : TypeId × Value → H} {P : Program} {W : World} {base : Nat} {sp : Nat → Bool} {hd : Bool} {ts : List TypeId} {ds : List (DataW H)} {t e : TypeId} {ao : Option Addr} {len cap : Nat} {d : DataW H} {p : List MemPlace}
    (hsz : (DataW.weightsEach P ts ds).all (· ≤ reachBytes) = true) (j : Nat) (hj : ts[j]? = some t) (hdj : ds[j]? = some d) (ht : P.underlying t = some (.slice e)) (h : DataW.Trod enc P W base sp hd t (.slice ao len cap) d p) :
    len * P.bytesOf e ≤ 140737488351232 := by
  obtain ⟨fuel, hf⟩ := h
  rcases Go.Deep.open_slice ht hf with ⟨h0, _⟩ | ⟨a, len', cap', m, n, D, Pl, h0, _, _, _, _, hx, _⟩
  · simp [Value.cells] at h0
    obtain ⟨rfl, rfl, rfl⟩ := h0
    omega
  · simp [Value.cells] at h0
    obtain ⟨rfl, rfl, rfl⟩ := h0
    simp only [Prod.mk.injEq] at hx
    rw [hx.1] at hdj
    have := sized_slice hsz hj hdj ht
    simp only [List.length_map, List.length_range] at this
    have e : reachBytes = 140737488351232 := by decide
    rw [e] at this
    exact Nat.le_trans (Nat.mul_le_mul_right _ (by omega)) this
/-- A nil slice has no room. -/
theorem slice_none {H : Type} {enc : TypeId × Value → H} {P : Program} {W : World} {base : Nat} {sp : Nat → Bool} {hd : Bool} {t e : TypeId} {ao : Option Addr} {len cap : Nat} {d : DataW H} {p : List MemPlace}
    (ht : P.underlying t = some (.slice e)) (h : DataW.Trod enc P W base sp hd t (.slice ao len cap) d p) : ao = none → cap = 0 := by
  obtain ⟨fuel, hf⟩ := h
  rcases Go.Deep.open_slice ht hf with ⟨h0, _⟩ | ⟨a, len', cap', m, n, D, Pl, h0, _⟩
  · simp [Value.cells] at h0
    exact fun _ => h0.2.2
  · simp [Value.cells] at h0
    intro hn; rw [hn] at h0; cases h0.1
end Go.Proofs.YtnfldkebjeigiaaGreatDoor
/- Rows of a call's own. No program. Conditions: as each says. -/
namespace Go.Proofs.YtnfldkebjeigiaaGreatDoor
open Go.RowKit
theorem own_none {w : World} {base e size n m cap : Nat} {ao : Option Addr} {xs : List Value} (h : w.ownsRow base e size (.slice ao m cap) n xs) : ao = none → cap = 0 := by
  rintro rfl
  rcases h.2 with ⟨h', _⟩ | ⟨g, cap', cur, h', _⟩
  · cases h'; rfl
  · cases h'
theorem own_below {w w' : World} {base e size n B : Nat} {v : Value} {xs : List Value} (h : w.ownsRow base e size v n xs) (hb : Below B w w') (hB : w.heap.size ≤ B) : w'.ownsRow base e size v n xs := by
  refine ⟨h.1, ?_⟩
  rcases h.2 with hn | ⟨g, cap, cur, hv, h1, h2, h3⟩
  · exact Or.inl hn
  · have hg := (Array.getElem?_eq_some_iff.1 h2).1
    exact Or.inr ⟨g, cap, cur, hv, h1, by rw [hb.block g (by omega)]; exact h2, h3⟩
theorem own_apart {w : World} {b1 e1 s1 n1 b2 e2 s2 n2 : Nat} {v1 v2 : Value} {xs1 xs2 : List Value} (h1 : w.ownsRow b1 e1 s1 v1 n1 xs1) (h2 : w.ownsRow b2 e2 s2 v2 n2 xs2) (he : e1 ≠ e2) : v1.ownBlock = none ∨ v1.ownBlock ≠ v2.ownBlock := by
  rcases h1.2 with ⟨rfl, _⟩ | ⟨g, cap, cur, rfl, _, g1, _⟩
  · exact Or.inl rfl
  · right
    rcases h2.2 with ⟨rfl, _⟩ | ⟨g', cap', cur', rfl, _, g2, _⟩
    · simp [Value.ownBlock]
    · intro hh
      simp [Value.ownBlock] at hh
      subst hh
      rw [g1] at g2
      simp only [Option.some.injEq, Obj.cells.injEq] at g2
      exact he g2.2.1
theorem own_capG {w : World} {base e size n m cap : Nat} {ao : Option Addr} {xs : List Value} (h : w.ownsRow base e size (.slice ao m cap) n xs) : m ≤ cap := by
  rcases h.2 with ⟨h', _⟩ | ⟨g, cap', cur, h', _, _, h3, _⟩
  · injection h' with _ h1 _; omega
  · injection h' with _ h1 h2; subst h1 h2; exact h3
end Go.Proofs.YtnfldkebjeigiaaGreatDoor
/- Rows of things in memory, each of so many cells, which may themselves hold rows: read below a block's number, or owned. Conditions: the cells lie as the reading says. -/
namespace Go.Proofs.YtnfldkebjeigiaaGreatDoor
open Go.RowKit
/-- The things xs, each of k cells, lie behind the slice's address, in a block below B; what hangs on them as 'sub' says. -/
def RowsIn {α : Type} (k : Nat) (cells : α → List Value) (sub : World → Nat → α → Prop) (w : World) (B : Nat) (ao : Option Addr) (xs : List α) : Prop :=
  xs = [] ∨ ∃ b off, ao = some ⟨b, off, none⟩ ∧ b < B ∧ ∀ (i : Nat) (x : α), xs[i]? = some x → (∀ j, j < k → w.cell? ⟨b, off + i * k + j, none⟩ = (cells x)[j]?) ∧ sub w B x
/-- What hangs on a thing is kept wherever nothing below B is changed. -/
def Kept {α : Type} (sub : World → Nat → α → Prop) : Prop := ∀ w w' B B' x, sub w B x → Below B' w w' → B ≤ B' → sub w' B x
def Rising {α : Type} (sub : World → Nat → α → Prop) : Prop := ∀ w B B' x, sub w B x → B ≤ B' → sub w B' x
theorem RowsIn.below {α : Type} {k : Nat} {cells : α → List Value} {sub : World → Nat → α → Prop} (hs : Kept sub) {w w' : World} {B B' : Nat} {ao : Option Addr} {xs : List α} (h : RowsIn k cells sub w B ao xs) (hb : Below B' w w') (hB : B ≤ B') : RowsIn k cells sub w' B ao xs := by
  rcases h with h | ⟨b, off, h1, h2, h3⟩
  · exact Or.inl h
  · refine Or.inr ⟨b, off, h1, h2, fun i x hx => ⟨fun j hj => ?_, hs _ _ _ _ _ (h3 i x hx).2 hb hB⟩⟩
    rw [hb.cell (p := ⟨b, _, none⟩) (by show b < B'; omega)]; exact (h3 i x hx).1 j hj
theorem RowsIn.mono {α : Type} {k : Nat} {cells : α → List Value} {sub : World → Nat → α → Prop} (hs : Rising sub) {w : World} {B B' : Nat} {ao : Option Addr} {xs : List α} (h : RowsIn k cells sub w B ao xs) (hB : B ≤ B') : RowsIn k cells sub w B' ao xs := by
  rcases h with h | ⟨b, off, h1, h2, h3⟩
  · exact Or.inl h
  · exact Or.inr ⟨b, off, h1, by omega, fun i x hx => ⟨(h3 i x hx).1, hs _ _ _ _ (h3 i x hx).2 hB⟩⟩
theorem RowsIn.at {α : Type} {k : Nat} {cells : α → List Value} {sub : World → Nat → α → Prop} {w : World} {B : Nat} {ao : Option Addr} {xs : List α} (h : RowsIn k cells sub w B ao xs) {i : Nat} {x : α} (hx : xs[i]? = some x) :
    ∃ b off, ao = some ⟨b, off, none⟩ ∧ b < B ∧ (∀ j, j < k → w.cell? ⟨b, off + i * k + j, none⟩ = (cells x)[j]?) ∧ sub w B x := by
  rcases h with h | ⟨b, off, h1, h2, h3⟩
  · rw [h] at hx; simp at hx
  · exact ⟨b, off, h1, h2, h3 i x hx⟩
/-- What lies behind the beginning of a row. -/
theorem RowsIn.drop {α : Type} {k : Nat} {cells : α → List Value} {sub : World → Nat → α → Prop} {w : World} {B b off : Nat} {xs : List α} (n : Nat) (h : RowsIn k cells sub w B (some ⟨b, off, none⟩) xs) : RowsIn k cells sub w B (some ⟨b, off + n * k, none⟩) (xs.drop n) := by
  rcases h with h | ⟨b', off', h1, h2, h3⟩
  · exact Or.inl (by rw [h]; simp)
  · cases h1
    refine Or.inr ⟨b, off + n * k, rfl, h2, fun i x hx => ?_⟩
    rw [List.getElem?_drop] at hx
    obtain ⟨g1, g2⟩ := h3 _ x hx
    refine ⟨fun j hj => ?_, g2⟩
    rw [← g1 j hj, Nat.add_mul]
    congr 2
    omega
theorem RowsIn.take {α : Type} {k : Nat} {cells : α → List Value} {sub : World → Nat → α → Prop} {w : World} {B : Nat} {ao : Option Addr} {xs : List α} (n : Nat) (h : RowsIn k cells sub w B ao xs) : RowsIn k cells sub w B ao (xs.take n) := by
  rcases h with h | ⟨b, off, h1, h2, h3⟩
  · exact Or.inl (by rw [h]; simp)
  · refine Or.inr ⟨b, off, h1, h2, fun i x hx => h3 i x ?_⟩
    rw [List.getElem?_take] at hx
    split at hx
    · exact hx
    · cases hx
/-- A slice among the arguments, whose things are read one by one. -/
theorem open_rows {α : Type} {k : Nat} {cells : α → List Value} {sub : World → Nat → α → Prop} {H : Type} {enc : TypeId × Value → H} {P : Program} {W : World} {sp : Nat → Bool} {hd : Bool} {t e : TypeId} {ao : Option Addr} {len cap : Nat} {d : DataW H} {p : List MemPlace} (Q : α → Prop)
    (ht : P.underlying t = some (.slice e)) (hC : P.cellsOf e = k) (hk : 0 < k)
    (hel : ∀ (cs : List Value) (n : Nat) (y : DataW H) (pl : List MemPlace), cs.length = k → DataW.trod enc P W 0 sp hd n e cs = some (y, pl) → ∃ x : α, cells x = cs ∧ sub W W.heap.size x ∧ Q x)
    (h : DataW.Trod enc P W 0 sp hd t (.slice ao len cap) d p) :
    ∃ xs : List α, len = xs.length ∧ RowsIn k cells sub W W.heap.size ao xs ∧ (∀ x ∈ xs, Q x) ∧ (ao = none → cap = 0) ∧ len ≤ maxLen := by
  obtain ⟨hm, h0 | ⟨b, off, n, D, Pl, h1, _, hb, hx⟩⟩ := slice_cases ht hC hk h
  · exact ⟨[], h0, Or.inl rfl, (by intro x hx; cases hx), slice_none ht h, hm⟩
  · have hne : ∀ i, i < len → ∃ x : α, (∀ j, j < k → W.cell? ⟨b, off + i * k + j, none⟩ = (cells x)[j]?) ∧ sub W W.heap.size x ∧ Q x := by
      intro i hi
      obtain ⟨cs, hl, hc, ht'⟩ := hx i hi
      obtain ⟨x, rfl, hs, hq⟩ := hel cs n _ _ hl ht'
      exact ⟨x, hc, hs, hq⟩
    have key : ∀ m, m ≤ len → ∃ xs : List α, xs.length = m ∧ (∀ x ∈ xs, Q x) ∧ ∀ (i : Nat) (x : α), xs[i]? = some x → (∀ j, j < k → W.cell? ⟨b, off + i * k + j, none⟩ = (cells x)[j]?) ∧ sub W W.heap.size x := by
      intro m
      induction m with
      | zero => intro _; exact ⟨[], rfl, (by intro x hx; cases hx), (by intro i x hx; simp at hx)⟩
      | succ m ih =>
        intro hm'
        obtain ⟨xs, e1, e2, e3⟩ := ih (by omega)
        obtain ⟨x, g1, g2, g3⟩ := hne m (by omega)
        refine ⟨xs ++ [x], by simp [e1], fun y hy => ?_, fun i y hy => ?_⟩
        · rcases List.mem_append.1 hy with hy | hy
          · exact e2 y hy
          · rw [List.mem_singleton.1 hy]; exact g3
        · by_cases hi : i < m
          · rw [List.getElem?_append_left (by omega)] at hy; exact e3 i y hy
          · rw [List.getElem?_append_right (by omega)] at hy
            have hi' : i = m := by
              rcases Nat.lt_or_ge (i - xs.length) 1 with hh | hh
              · omega
              · rw [List.getElem?_eq_none (by simpa using hh)] at hy; cases hy
            subst hi'
            rw [e1, Nat.sub_self] at hy
            obtain rfl : x = y := by simpa using hy
            exact ⟨g1, g2⟩
    obtain ⟨xs, e1, e2, e3⟩ := key len (Nat.le_refl _)
    exact ⟨xs, e1.symm, Or.inr ⟨b, off, h1, hb, e3⟩, e2, slice_none ht h, hm⟩
/-- What is owned, as it lies: the cells of each thing. -/
theorem flat_get {α : Type} {k : Nat} {cells : α → List Value} (hk : ∀ x, (cells x).length = k) : ∀ (xs : List α) (i : Nat) (x : α), xs[i]? = some x → ∀ j, j < k → (xs.flatMap cells)[i * k + j]? = (cells x)[j]? := by
  intro xs
  induction xs with
  | nil => intro i x h; simp at h
  | cons a xs ih =>
    intro i x h j hj
    rw [List.flatMap_cons]
    cases i with
    | zero =>
      obtain rfl : a = x := by simpa using h
      rw [Nat.zero_mul, Nat.zero_add, List.getElem?_append_left (by rw [hk]; exact hj)]
    | succ i =>
      rw [List.getElem?_append_right (by rw [hk, Nat.add_mul]; omega), hk, show (i + 1) * k + j - k = i * k + j by rw [Nat.add_mul]; omega]
      exact ih i x (by simpa using h) j hj
theorem flat_len {α : Type} {k : Nat} {cells : α → List Value} (hk : ∀ x, (cells x).length = k) (xs : List α) : (xs.flatMap cells).length = xs.length * k := by
  induction xs with
  | nil => simp
  | cons a xs ih => rw [List.flatMap_cons, List.length_append, ih, hk, List.length_cons, Nat.add_mul]; omega
theorem ownsRow_lt' {w : World} {base e size n m g o c : Nat} {xs : List Value} (h : w.ownsRow base e size (.slice (some ⟨g, o, none⟩) m c) n xs) : base ≤ g ∧ g < w.heap.size := h.lt g rfl
theorem own_rows {α : Type} {k : Nat} {cells : α → List Value} {sub : World → Nat → α → Prop} (hk : ∀ x, (cells x).length = k) {w : World} {base e n B : Nat} {v : Value} {xs : List α} (hn : xs.length = n) (h : w.ownsRow base e k v n (xs.flatMap cells)) (hs : ∀ x ∈ xs, sub w B x) (hB : w.heap.size ≤ B) :
    ∃ ao cap, v = .slice ao xs.length cap ∧ RowsIn k cells sub w B ao xs ∧ (ao = none → cap = 0) := by
  subst hn
  rcases Go.Joins.ownsRow_forms h with ⟨rfl, hz⟩ | ⟨g, cap', rfl⟩
  · exact ⟨none, 0, by rw [hz], Or.inl (List.eq_nil_of_length_eq_zero hz), fun _ => rfl⟩
  · have hg := (ownsRow_lt' h).2
    refine ⟨_, _, rfl, Or.inr ⟨g, 0, rfl, by omega, fun i x hx => ⟨fun j hj => ?_, hs x (List.mem_of_getElem? hx)⟩⟩, by simp⟩
    have hi : i < xs.length := by
      rcases Nat.lt_or_ge i xs.length with hh | hh
      · exact hh
      · rw [List.getElem?_eq_none hh] at hx; cases hx
    have h2 : i * k + j < xs.length * k := by
      have := Nat.mul_le_mul_right k (show i + 1 ≤ xs.length from hi)
      rw [Nat.add_mul] at this
      omega
    rw [Nat.zero_add, World.ownsRow.cellAt h _ h2]
    exact flat_get hk xs i x hx j hj
/-- Rows that are made here stay: kept by what writes elsewhere. -/
theorem RowsIn.alloc {α : Type} {k : Nat} {cells : α → List Value} {sub : World → Nat → α → Prop} (hs : Kept sub) {w : World} {B : Nat} {ao : Option Addr} {xs : List α} (h : RowsIn k cells sub w B ao xs) (hB : B ≤ w.heap.size) (o : Obj) : RowsIn k cells sub (w.alloc o) B ao xs :=
  h.below hs ((Below.refl w.heap.size w).alloc (Nat.le_refl _) o) hB
end Go.Proofs.YtnfldkebjeigiaaGreatDoor
/- Rows of a call's own: what one of them is where another one grows or is written. No program. Conditions: as each says. -/
namespace Go.Proofs.YtnfldkebjeigiaaGreatDoor
open Go.RowKit
/-- Two slices lie in blocks of their own. -/
def Sep (u v : Value) : Prop := ∀ b, u.ownBlock = some b → v.ownBlock ≠ some b
theorem Sep.symm {u v : Value} (h : Sep u v) : Sep v u := fun b hv hu => h b hu hv
theorem Sep.ne {u v : Value} (h : Sep u v) : u.ownBlock = none ∨ u.ownBlock ≠ v.ownBlock := by
  cases hu : u.ownBlock with
  | none => exact Or.inl rfl
  | some b => exact Or.inr fun he => h b hu he.symm
theorem own_prefix {w : World} {B E SZ g c n m : Nat} {xs : List Value} (h : w.ownsRow B E SZ (.slice (some ⟨g, 0, none⟩) m c) m xs) (hn : n ≤ m) : w.ownsRow B E SZ (.slice (some ⟨g, 0, none⟩) n c) n (xs.take (n * SZ)) := by
  have hm := Nat.mul_le_mul_right SZ hn
  rcases h.2 with ⟨h', _⟩ | ⟨g', c', cur, h', h1, h2, h3, h4, h5, h6⟩
  · cases h'
  · cases h'
    refine ⟨?_, Or.inr ⟨g, c, cur, rfl, h1, h2, by omega, h4, h5, ?_⟩⟩
    · rw [List.length_take, h.1]; omega
    · rw [← h6, List.take_take]; congr 1; omega
theorem own_same {w : World} {B E SZ g c c2 n m : Nat} {xs ys : List Value} (h : w.ownsRow B E SZ (.slice (some ⟨g, 0, none⟩) m c) m xs) (h2 : w.ownsRow B E SZ (.slice (some ⟨g, 0, none⟩) n c2) n ys) (hz : 0 < SZ) : c = c2 := by
  rcases h.2 with ⟨h', _⟩ | ⟨_, _, cur, h', _, k2, _, _, k5, _⟩
  · cases h'
  · cases h'
    rcases h2.2 with ⟨h', _⟩ | ⟨_, _, cur', h', _, l2, _, _, l5, _⟩
    · cases h'
    · cases h'
      rw [k2] at l2
      simp only [Option.some.injEq, Obj.cells.injEq] at l2
      rw [l2.1, l5] at k5
      exact Nat.eq_of_mul_eq_mul_right hz k5.symm
/-- The marks of a row's first places. -/
def mks (mk : Nat → Nat → List Value) (k n : Nat) : List Value := (List.range n).flatMap (mk k)
theorem mks_succ (mk : Nat → Nat → List Value) (k n : Nat) : mks mk k (n + 1) = mks mk k n ++ mk k n := by
  unfold mks; rw [List.range_succ, List.flatMap_append]; simp
theorem mks_len {mk : Nat → Nat → List Value} {SZ : Nat} (h : ∀ k i, (mk k i).length = SZ) (k n : Nat) : (mks mk k n).length = n * SZ := by
  unfold mks; rw [flat_len (h k), List.length_range]
theorem mks_take {mk : Nat → Nat → List Value} {SZ : Nat} (h : ∀ k i, (mk k i).length = SZ) (k n d : Nat) : (mks mk k (n + d)).take (n * SZ) = mks mk k n := by
  induction d with
  | zero => rw [Nat.add_zero, List.take_of_length_le (by rw [mks_len h]; exact Nat.le_refl _)]
  | succ d ih => rw [← Nat.add_assoc, mks_succ, List.take_append_of_le_length (by rw [mks_len h]; exact Nat.mul_le_mul_right _ (by omega)), ih]
theorem mks_get {mk : Nat → Nat → List Value} {SZ : Nat} (h : ∀ k i, (mk k i).length = SZ) (k n i j : Nat) (hi : i < n) (hj : j < SZ) : (mks mk k n)[i * SZ + j]? = (mk k i)[j]? := by
  unfold mks
  exact flat_get (h k) (List.range n) i i (by simp [hi]) j hj
/-- While a row is grown one by one: what has been appended, and the row itself as it was. -/
def GrowAt (B E SZ : Nat) (mk : Nat → Nat → List Value) (k hs : Nat) (r : Value) (n q : Nat) (v : Value) (w : World) : Prop :=
  w.ownsRow B E SZ v (n + q) (mks mk k (n + q)) ∧ w.ownsRow B E SZ r n (mks mk k n) ∧ (v.ownBlock = r.ownBlock ∨ ∀ b, v.ownBlock = some b → hs ≤ b)
theorem grow_start {B E SZ : Nat} {mk : Nat → Nat → List Value} {k hs : Nat} {r : Value} {n : Nat} {w : World} (h : w.ownsRow B E SZ r n (mks mk k n)) : GrowAt B E SZ mk k hs r n 0 r w := ⟨h, h, Or.inl rfl⟩
theorem grow_alloc {B E SZ : Nat} {mk : Nat → Nat → List Value} {k hs : Nat} {r : Value} {n q : Nat} {v : Value} {w : World} (h : GrowAt B E SZ mk k hs r n q v w) (o : Obj) : GrowAt B E SZ mk k hs r n q v (w.alloc o) := ⟨h.1.alloc o, h.2.1.alloc o, h.2.2⟩
theorem grow_fits {B E SZ : Nat} {mk : Nat → Nat → List Value} (hmk : ∀ k i, (mk k i).length = SZ) (hz : 0 < SZ) {k hs : Nat} {r : Value} {n q g c : Nat} {w w' : World} (h : GrowAt B E SZ mk k hs r n q (.slice (some ⟨g, 0, none⟩) (n + q) c) w) (hr : ∀ b, r.ownBlock = some b → b < hs)
    (hown : w'.ownsRow B E SZ (.slice (some ⟨g, 0, none⟩) (n + q + 1) c) (n + q + 1) (mks mk k (n + q) ++ mk k (n + q))) (hg : w.grownBy w' (some g)) : GrowAt B E SZ mk k hs r n (q + 1) (.slice (some ⟨g, 0, none⟩) (n + q + 1) c) w' := by
  have hown' : w'.ownsRow B E SZ (.slice (some ⟨g, 0, none⟩) (n + q + 1) c) (n + q + 1) (mks mk k (n + q + 1)) := by rw [mks_succ]; exact hown
  refine ⟨hown', ?_, ?_⟩
  · rcases h.2.2 with hb | hb
    · have hb' : r.ownBlock = some g := hb.symm
      rcases Go.Joins.ownsRow_forms h.2.1 with ⟨hr0, _⟩ | ⟨g2, c2, hr2⟩
      · rw [hr0] at hb'; simp [Value.ownBlock] at hb'
      · rw [hr2] at hb'
        simp [Value.ownBlock] at hb'
        subst hb'
        have h2 := h.2.1
        rw [hr2] at h2 ⊢
        have hc := own_same h.1 h2 hz
        subst hc
        have h3 := own_prefix hown' (show n ≤ n + q + 1 by omega)
        rwa [show n + q + 1 = n + (q + 1) by omega, mks_take hmk] at h3
    · have hge := hb g rfl
      refine World.ownsRow.kept h.2.1 hg ?_
      cases hrb : r.ownBlock with
      | none => exact Or.inl rfl
      | some b => exact Or.inr fun he => by have := hr b hrb; cases he; omega
  · exact h.2.2
theorem grow_new {B E SZ : Nat} {mk : Nat → Nat → List Value} {k hs : Nat} {r : Value} {n q : Nat} {v v' : Value} {w w' : World} (h : GrowAt B E SZ mk k hs r n q v w) (hw : hs ≤ w.heap.size) (hB : B ≤ w.heap.size)
    (hown : w'.ownsRow w.heap.size E SZ v' (n + q + 1) (mks mk k (n + q) ++ mk k (n + q))) (hg : w.grownBy w' none) : GrowAt B E SZ mk k hs r n (q + 1) v' w' := by
  refine ⟨?_, World.ownsRow.kept h.2.1 hg (by cases r.ownBlock <;> simp), Or.inr fun b hb => ?_⟩
  · show w'.ownsRow B E SZ v' (n + (q + 1)) (mks mk k (n + (q + 1)))
    rw [← Nat.add_assoc, mks_succ]
    exact Go.Joins.ownsRow_le hown hB
  · have := (hown.lt b hb).1; omega
/-- Rows, by their numbers. -/
def RowsAt (B E SZ K : Nat) (R : Nat → Value) (n : Nat → Nat) (C : Nat → List Value) (w : World) : Prop := ∀ j, j < K → w.ownsRow B E SZ (R j) (n j) (C j)
def SepAll (K : Nat) (R : Nat → Value) : Prop := ∀ i j, i < K → j < K → i ≠ j → Sep (R i) (R j)
theorem RowsAt.kept {B E SZ K : Nat} {R : Nat → Value} {n : Nat → Nat} {C : Nat → List Value} {w w' : World} {row : Option Nat} (h : RowsAt B E SZ K R n C w) (hg : w.grownBy w' row) (hne : ∀ j, j < K → (R j).ownBlock = none ∨ (R j).ownBlock ≠ row) : RowsAt B E SZ K R n C w' := fun j hj => World.ownsRow.kept (h j hj) hg (hne j hj)
theorem RowsAt.upd {B E SZ K : Nat} {R : Nat → Value} {n : Nat → Nat} {C : Nat → List Value} {w w' : World} {k : Nat} {x : List Value} (h : RowsAt B E SZ K R n C w) (hs : SepAll K R) (hk : k < K) (hg : w.grownBy w' (R k).ownBlock) (hx : w'.ownsRow B E SZ (R k) (n k) x) : RowsAt B E SZ K R n (fun j => if j = k then x else C j) w' := by
  intro j hj
  by_cases e : j = k
  · subst e; simpa using hx
  · simp only [e, if_false]
    exact World.ownsRow.kept (h j hj) hg (hs j k hj hk e).ne
theorem RowsAt.congr {B E SZ K : Nat} {R : Nat → Value} {n : Nat → Nat} {C C' : Nat → List Value} {w : World} (h : RowsAt B E SZ K R n C w) (e : ∀ j, j < K → C j = C' j) : RowsAt B E SZ K R n C' w := fun j hj => e j hj ▸ h j hj
/-- A list by its places, one of them set. -/
theorem range_set {α : Type} (f : Nat → α) (K k : Nat) (u : α) : ((List.range K).map f).set k u = (List.range K).map fun j => if j = k then u else f j := by
  apply List.ext_getElem?
  intro i
  rw [List.getElem?_set, List.getElem?_map, List.getElem?_map]
  by_cases hi : i < K
  · rw [List.getElem?_range hi]
    by_cases e : k = i
    · subst e; simp [hi]
    · have e' : ¬ i = k := fun h => e h.symm
      simp [e, e']
  · rw [List.getElem?_eq_none (by simpa using hi)]
    simp
    omega
theorem range_get {α : Type} (f : Nat → α) (K k : Nat) (h : k < K) : ((List.range K).map f)[k]? = some (f k) := by
  rw [List.getElem?_map, List.getElem?_range h]; rfl
/-- The blocks of rows. -/
def ofRows (K : Nat) (R : Nat → Value) : Nat → Prop := fun b => ∃ j, j < K ∧ (R j).ownBlock = some b
/-- Below B nothing is changed, and of what was there no block of another type than U, nor one that is not in S. -/
structure Kb (S : Nat → Prop) (B U : Nat) (w w' : World) : Prop where
  below : Below B w w'
  other : ∀ (b : Nat) (cs : Array Value) (e : TypeId) (fz : Nat × Nat), w.heap[b]? = some (Obj.cells cs e fz) → e ≠ U → w'.heap[b]? = some (Obj.cells cs e fz)
  apart : ∀ b, b < w.heap.size → ¬ S b → w'.heap[b]? = w.heap[b]?
theorem Kb.refl (S : Nat → Prop) (B U : Nat) (w : World) : Kb S B U w w := ⟨Below.refl _ _, fun _ _ _ _ h _ => h, fun _ _ _ => rfl⟩
theorem Kb.size {S : Nat → Prop} {B U : Nat} {w w' : World} (h : Kb S B U w w') : w.heap.size ≤ w'.heap.size := h.below.size
theorem Kb.drew {S : Nat → Prop} {B U : Nat} {w w' : World} (h : Kb S B U w w') : Kb S B U w w'.drew := ⟨h.below.drew, h.other, h.apart⟩
theorem Kb.alloc {S : Nat → Prop} {B U : Nat} {w w' : World} (h : Kb S B U w w') (hB : B ≤ w'.heap.size) (o : Obj) : Kb S B U w (w'.alloc o) :=
  ⟨h.below.alloc hB o, fun b cs e fz hb he => by
    have h1 := h.other b cs e fz hb he
    rw [(World.grownBy_alloc w' o none).block b (Array.getElem?_eq_some_iff.1 h1).1 (by simp)]
    exact h1, fun b hb hs => ((World.grownBy_alloc w' o none).block b (Nat.lt_of_lt_of_le hb h.size) (by simp)).trans (h.apart b hb hs)⟩
theorem Kb.grownRow {S : Nat → Prop} {B U B2 SZ m n c g : Nat} {xs : List Value} {w w' w'' : World} (h : Kb S B U w w') (hg : w'.grownBy w'' (some g)) (hB : B ≤ w'.heap.size) (hown : w'.ownsRow B2 U SZ (.slice (some ⟨g, 0, none⟩) m c) n xs) (hB2 : B ≤ g) (hS : S g ∨ w.heap.size ≤ g) : Kb S B U w w'' :=
  ⟨h.below.grown hg hB (fun k hk => by cases hk; exact hB2), fun b cs e fz hb he => by
    have h1 := h.other b cs e fz hb he
    have hlt := (Array.getElem?_eq_some_iff.1 h1).1
    rw [hg.block b hlt ?_]
    · exact h1
    · intro hbg
      cases hbg
      rcases hown.2 with ⟨h', _⟩ | ⟨g', c', cur, h', _, h2, _⟩
      · cases h'
      · cases h'
        rw [h2] at h1
        simp only [Option.some.injEq, Obj.cells.injEq] at h1
        exact he h1.2.1.symm, fun b hb hs => (hg.block b (Nat.lt_of_lt_of_le hb h.size) (by intro e; cases e; rcases hS with h2 | h2; exact hs h2; omega)).trans (h.apart b hb hs)⟩
theorem Kb.grownNone {S : Nat → Prop} {B U : Nat} {w w' w'' : World} (h : Kb S B U w w') (hg : w'.grownBy w'' none) (hB : B ≤ w'.heap.size) : Kb S B U w w'' :=
  ⟨h.below.grown hg hB (fun k hk => by cases hk), fun b cs e fz hb he => by
    have h1 := h.other b cs e fz hb he
    rw [hg.block b (Array.getElem?_eq_some_iff.1 h1).1 (by simp)]
    exact h1, fun b hb hs => (hg.block b (Nat.lt_of_lt_of_le hb h.size) (by simp)).trans (h.apart b hb hs)⟩
theorem Kb.grownNew {S : Nat → Prop} {B U g : Nat} {w w' w'' : World} (h : Kb S B U w w') (hg : w'.grownBy w'' (some g)) (hB : B ≤ w'.heap.size) (hw : w.heap.size ≤ g) (hB2 : B ≤ g) : Kb S B U w w'' :=
  ⟨h.below.grown hg hB (fun k hk => by cases hk; exact hB2), fun b cs e fz hb he => by
    have h1 := h.other b cs e fz hb he
    have hlt := (Array.getElem?_eq_some_iff.1 hb).1
    rw [hg.block b (Array.getElem?_eq_some_iff.1 h1).1 (by intro hbg; cases hbg; omega)]
    exact h1, fun b hb hs => (hg.block b (Nat.lt_of_lt_of_le hb h.size) (by intro e; cases e; omega)).trans (h.apart b hb hs)⟩
theorem Kb.trans_below {S : Nat → Prop} {B U : Nat} {w w' w'' : World} (h : Kb S B U w w') (hb : Below w'.heap.size w' w'') (hB : B ≤ w'.heap.size) : Kb S B U w w'' :=
  ⟨h.below.trans (hb.mono hB), fun b cs e fz hb1 he => by
    have h1 := h.other b cs e fz hb1 he
    rw [hb.block b (Array.getElem?_eq_some_iff.1 h1).1]
    exact h1, fun b hb1 hs => (hb.block b (Nat.lt_of_lt_of_le hb1 h.size)).trans (h.apart b hb1 hs)⟩
end Go.Proofs.YtnfldkebjeigiaaGreatDoor
/- Slices of bytes that are only read. Conditions: the slice's cells lie as its reading says. -/
namespace Go.Proofs.YtnfldkebjeigiaaGreatDoor
open Go.RowKit
/-- A byte's cell. -/
def bv (x : Int) : Value := .int .u8 x
/-- The bytes xs lie behind the slice's address, in a block below B. -/
def BytesIn (w : World) (B : Nat) (ao : Option Addr) (xs : List Int) : Prop :=
  xs = [] ∨ ∃ b off, ao = some ⟨b, off, none⟩ ∧ b < B ∧ ∀ i, i < xs.length → w.cell? ⟨b, off + i, none⟩ = some (.int .u8 (xs.getD i 0))
theorem BytesIn.below {w w' : World} {B B' : Nat} {ao : Option Addr} {xs : List Int} (h : BytesIn w B ao xs) (hb : Below B' w w') (hB : B ≤ B') : BytesIn w' B ao xs := by
  rcases h with h | ⟨b, off, h1, h2, h3⟩
  · exact Or.inl h
  · exact Or.inr ⟨b, off, h1, h2, fun i hi => by rw [hb.cell (p := ⟨b, _, none⟩) (by show b < B'; omega)]; exact h3 i hi⟩
theorem BytesIn.mono {w : World} {B B' : Nat} {ao : Option Addr} {xs : List Int} (h : BytesIn w B ao xs) (hB : B ≤ B') : BytesIn w B' ao xs := by
  rcases h with h | ⟨b, off, h1, h2, h3⟩
  · exact Or.inl h
  · exact Or.inr ⟨b, off, h1, by omega, h3⟩
theorem BytesIn.drewN {w : World} {B : Nat} {ao : Option Addr} {xs : List Int} (h : BytesIn w B ao xs) (n : Nat) : BytesIn (w.drewN n) B ao xs := h
/-- All are bytes. -/
def BytesWf (xs : List Int) : Prop := ∀ x ∈ xs, 0 ≤ x ∧ x < 256
/-- A slice of bytes among the arguments. -/
theorem open_bytesIn {H : Type} {enc : TypeId × Value → H} {P : Program} {W : World} {sp : Nat → Bool} {hd : Bool} {t e : TypeId} {ao : Option Addr} {len cap : Nat} {d : DataW H} {p : List MemPlace}
    (ht : P.underlying t = some (.slice e)) (he : P.underlying e = some (.int .u8)) (hC : P.cellsOf e = 1) (h : DataW.Trod enc P W 0 sp hd t (.slice ao len cap) d p) :
    ∃ xs : List Int, len = xs.length ∧ BytesIn W W.heap.size ao xs ∧ BytesWf xs := by
  obtain ⟨_, h0 | ⟨b, off, n, D, Pl, h1, _, hb, hx⟩⟩ := slice_cases ht hC (by decide) h
  · exact ⟨[], h0, Or.inl rfl, by intro x hx; cases hx⟩
  · obtain ⟨f, hf⟩ := Go.Deep.choose_lt (α := Int) (n := len) (p := fun i z => W.cell? ⟨b, off + i, none⟩ = some (.int .u8 z) ∧ 0 ≤ z ∧ z < 256) (fun i hi => by
      obtain ⟨cs, hl, hc, ht'⟩ := hx i hi
      obtain ⟨z, rfl, _, hw⟩ := DataW.trod_int he ht'
      have hz : 0 ≤ z ∧ z < 256 := by
        simp [Lit.wf, IntKind.min, IntKind.max, IntKind.signed, IntKind.bits] at hw
        omega
      exact ⟨z, by simpa using hc 0 (by decide), hz⟩)
    refine ⟨(List.range len).map f, by simp, Or.inr ⟨b, off, h1, hb, fun i hi => ?_⟩, ?_⟩
    · have hi' : i < len := by simpa using hi
      rw [(hf i hi').1]
      simp [List.getD, hi']
    · intro x hx'
      obtain ⟨i, hi, rfl⟩ := List.mem_map.1 hx'
      exact (hf i (List.mem_range.1 hi)).2
theorem bytes_mem {xs : List Int} {k : Nat} (h : k < xs.length) : xs.getD k 0 ∈ xs := by
  simp [List.getD, List.getElem?_eq_getElem h]
theorem bytes_oneCell (l : List Int) : ∀ u ∈ l.map bv, u.oneCell' = true := by
  intro u hu
  obtain ⟨x, _, rfl⟩ := List.mem_map.1 hu
  rfl
theorem cells_of_bytes {w w1 : World} {B : Nat} {ao : Option Addr} {xs : List Int} (h : BytesIn w B ao xs) (hb : Below B w w1) {ad : Addr} (had : ao = some ad) {j : Nat} {u : Value} (hu : (xs.map bv)[j]? = some u) : w1.cell? (ad.add j) = some u := by
  rcases h with h0 | ⟨b, off, h1, h2, h3⟩
  · rw [h0] at hu; simp at hu
  · rw [h1] at had
    obtain rfl := Option.some.inj had
    have hj : j < xs.length := by
      rcases Nat.lt_or_ge j xs.length with h | h
      · exact h
      · rw [List.getElem?_eq_none (by simpa using h)] at hu; cases hu
    rw [Go.WideShapes.add_plain, hb.cell (p := ⟨b, _, none⟩) h2, h3 j hj]
    simp [List.getElem?_map, List.getElem?_eq_getElem hj] at hu
    rw [← hu]; simp [bv, List.getD, List.getElem?_eq_getElem hj]
/-- What is owned, as bytes that lie. -/
theorem own_bytes {w : World} {base : Nat} {v : Value} {l : List Int} (h : w.ownsRow base 5 1 v l.length (l.map bv)) : ∃ ao cap, v = .slice ao l.length cap ∧ BytesIn w w.heap.size ao l := by
  rcases Go.Joins.ownsRow_forms h with ⟨rfl, hz⟩ | ⟨g, cap', rfl⟩
  · exact ⟨none, 0, by rw [hz], Or.inl (List.eq_nil_of_length_eq_zero hz)⟩
  · have hg : g < w.heap.size := by
      rcases h.2 with ⟨h', _⟩ | ⟨g', cap', cur, h', _, h3, _⟩
      · simp at h'
      · simp only [Value.slice.injEq, Option.some.injEq, Addr.mk.injEq, and_true, true_and] at h'
        obtain ⟨rfl, rfl⟩ := h'
        exact (Array.getElem?_eq_some_iff.1 h3).1
    refine ⟨_, _, rfl, Or.inr ⟨g, 0, rfl, hg, fun i hi => ?_⟩⟩
    rw [Nat.zero_add, World.ownsRow.cellAt h i (by omega)]
    simp [bv, List.getD, List.getElem?_eq_getElem hi]
theorem infoByte : (Tryz.prog.info? 5).map (fun i => (i.zero, i.size, i.bytes)) = some (some (.int .u8 0), 1, 1) := by kernel_rfl
/-- An append to a row of bytes that is owned, whatever is appended, nil or not. -/
theorem wpList_append_bytes {w : World} {ops : Array Oper} {rest : List Oper} {o : Oper} {a : Act} {Q : Exit → Act → World → Prop} (hgd : o.guard = none) (s x : Operand)
    (ho : o.op = .call { callee := .builtin .append, args := #[s, x], argTypes := #[48, 48] })
    (base : Nat) (v : Value) (l : List Int) (hs : a.eval s = v) (hown : w.ownsRow base 5 1 v l.length (l.map bv))
    (ao : Option Addr) (cap : Nat) (xs : List Int) (hx : a.eval x = .slice ao xs.length cap) (B : Nat) (hin : BytesIn w B ao xs) (hao : ao = none → cap = 0) (hlim : l.length + xs.length ≤ 140737488351232) (hbase : base ≤ w.heap.size)
    (h : ∀ v' w', w'.ownsRow base 5 1 v' (l ++ xs).length ((l ++ xs).map bv) → w.grownBy w' v.ownBlock → wpList Tryz.prog ops Q rest (a.put o.dst v') w') : wpList Tryz.prog ops Q (o :: rest) a w := by
  obtain ⟨i0, hi, hz0, hz1, hz2⟩ := info_parts infoByte
  cases ao with
  | none =>
    have hnil : xs = [] := by
      rcases hin with h | ⟨b, off, h1, _⟩
      · exact h
      · cases h1
    subst hnil
    rw [hao rfl] at hx
    refine wpList_append_own_none hgd s x _ ho base 5 i0 1 Tryz.underlying48 hi v l.length _ hs hown hx ?_
    refine h v w (by simpa using hown) ?_
    exact World.grownBy.refl _ _
  | some ad =>
    refine wpList_append_own _ hgd s x _ ho base 5 i0 (.int .u8 0) 1 1 Tryz.underlying48 hi hz0 hz1 hz2 rfl (by decide) v l.length _ hs hown ad xs.length cap (xs.map bv) hx (by simp) ?_ (bytes_oneCell _) (by unfold maxLen; omega) (by omega) hbase ?_
    · intro j u hu
      exact cells_of_bytes hin (Below.refl _ _) rfl hu
    · intro v' w' h1 h2 _
      refine h v' w' ?_ h2
      rw [List.length_append, List.map_append]
      exact h1
end Go.Proofs.YtnfldkebjeigiaaGreatDoor
