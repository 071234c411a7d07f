/- Contracts of library functions, proved once in the kit, laid at this translation by its own tool. Conditions: as each says. -/
import Derived.Shelf.Small.Wraps
import Derived.Shelf.LaysM
import Derived.Shelf.Bytes.Len
import Derived.Shelf.Bytes.TryGrow
import Derived.Shelf.Bytes.GrowSliceCatch
import Derived.Shelf.Bytes.GrowSlice
import Derived.Shelf.Bytes.GrowRow0
import Derived.Shelf.Bytes.GrowRow
import Derived.Shelf.Bytes.GrowNil
import Derived.Shelf.Bytes.Grow
import Derived.Shelf.Bytes.WriteByte
import Derived.Shelf.Bytes.WriteString
import Derived.Shelf.Bytes.Reset
import Derived.Shelf.Bytes.Bytes
import Derived.Shelf.Bytes.GrowRow0Kept
import Derived.Shelf.Bytes.GrowRowKept
import Derived.Shelf.Bytes.GrowNilKept
import Derived.Shelf.Bytes.GrowKept
import Derived.Shelf.Bytes.WriteByteKept
import Derived.Shelf.Bytes.WriteStringKept
import Derived.Shelf.Bytes.ResetKept
import Derived.Shelf.Bytes.LenAt
import Derived.Shelf.Bytes.TryGrowAt
import Derived.Shelf.Bytes.GrowRow0At
import Derived.Shelf.Bytes.GrowRowAt
import Derived.Shelf.Bytes.GrowNilAt
import Derived.Shelf.Bytes.GrowAt
import Derived.Shelf.Bytes.WriteByteAt
import Derived.Shelf.Bytes.WriteStringAt
import Derived.Shelf.Slices.Turned
import Derived.Ground.Names2Prog
import Derived.Shelf.Slices.Clone
import Derived.Shelf.Slices.CompactI
import Derived.Shelf.Slices.SearchI
import Derived.Shelf.Slices.Cells
import Derived.Ground.SlbCloneProg
import Derived.Shelf.Bytes.SlClone
import Derived.Ground.SlgnProg
import Derived.Shelf.SlicesE.Compact
import Derived.Ground.SlgfProg
import Derived.Shelf.SlicesE.IndexFunc
import Derived.Shelf.SlicesE.DeleteFunc
import Derived.Test.YtbimjggkiiadmaaGreatDoorProg
import Derived.Test.YtbimjggkiiadmaaGreatDoorRows
import Derived.WalkKit
import Derived.WalkSpells
import Derived.WalkLawsBesides
import Derived.ProofKit
import Derived.OpenShut
import Derived.SizedLaws
import Derived.Carry
import Derived.OpenVars
import Derived.Deep.QuietTactic
import Derived.BigQuiet
import Derived.BigGuardPart
import Derived.Lib.Hide
import Derived.Lib.SmallJoins
import Derived.Deep.Slices
import Derived.Laws.AppendOwnNone
import Derived.Maps.AppendAt
import Derived.Deep.Strs
set_option linter.unusedVariables false
set_option linter.unusedSimpArgs false
namespace Go.Proofs
open Go.Shelf
def Tryz.laysNm215_ren : Go.Shelf.Ren := ⟨fun | 15 => 47 | n => n, fun | 22 => 24 | 3 => 3 | 4 => 4 | n => n, fun | n => n⟩
theorem Tryz.laysNm215 : Go.Proofs.Lays2.n15 Tryz.prog Tryz.laysNm215_ren := {
  mixed := by kernel_rfl
  f15 := Tryz.func47.trans (congrArg some (by kernel_rfl))
  t3 := Tryz.underlying3
  a3 := Tryz.isAgg3
  z3 := Tryz.sizeOf3
  v3 := Tryz.zeroValue3
  t4 := Tryz.underlying4
  a4 := Tryz.isAgg4
  z4 := Tryz.sizeOf4
  v4 := Tryz.zeroValue4
  t22 := Tryz.underlying24
  a22 := Tryz.isAgg24
  z22 := Tryz.sizeOf24
  v22 := Tryz.zeroValue24
  i3 := by kernel_rfl }
open Go.RowKit Go.Lib in
theorem Tryz.slices_Clone_int (b off n c : Nat) (zs : List Int) (w : World) (hz : n ≤ zs.length) (hbig : n * 8 ≤ 140737488355328) (hc : ∀ j, j < zs.length → w.cell? ⟨b, off + j, none⟩ = some (.int .i64 (zs.getD j 0))) :
    Calls Tryz.prog 47 #[.slice (some ⟨b, off, none⟩) n c] w fun e w' => ∃ v', e = .returned v' ∧ w'.ownsRow w.heap.size 3 1 v' n ((zs.take n).map (Value.int .i64)) ∧ v' ≠ .slice none 0 0 ∧ Below w.heap.size w w' := Any.slices_Clone_int Tryz.laysNm215 b off n c zs w hz hbig hc
def Tryz.laysNm220_ren : Go.Shelf.Ren := ⟨fun | 20 => 77 | n => n, fun | 22 => 24 | 3 => 3 | 4 => 4 | 0 => 0 | n => n, fun | n => n⟩
theorem Tryz.laysNm220 : Go.Proofs.Lays2.n20 Tryz.prog Tryz.laysNm220_ren := {
  mixed := by kernel_rfl
  f20 := Tryz.func77.trans (congrArg some (by kernel_rfl))
  t0 := Tryz.underlying0
  a0 := Tryz.isAgg0
  z0 := Tryz.sizeOf0
  v0 := Tryz.zeroValue0
  t3 := Tryz.underlying3
  a3 := Tryz.isAgg3
  z3 := Tryz.sizeOf3
  v3 := Tryz.zeroValue3
  t4 := Tryz.underlying4
  a4 := Tryz.isAgg4
  z4 := Tryz.sizeOf4
  v4 := Tryz.zeroValue4
  t22 := Tryz.underlying24
  a22 := Tryz.isAgg24
  z22 := Tryz.sizeOf24
  v22 := Tryz.zeroValue24
  i3 := by kernel_rfl }
open Go.RowKit Go.Lib Go.Sort in
theorem Tryz.slices_Compact_int_cells (b off n c : Nat) (zs : List Int) (w : World) (hz : n ≤ zs.length) (hbig : n ≤ 9223372036854775807) (hcap : n ≤ c) (hc : ∀ j, j < zs.length → w.cell? ⟨b, off + j, none⟩ = some (.int .i64 (zs.getD j 0))) (hf : ∀ j, j < n → w.frozen? ⟨b, off + j, none⟩ = false) :
    Calls Tryz.prog 77 #[.slice (some ⟨b, off, none⟩) n c] w fun e w' => e = .returned (.slice (some ⟨b, off, none⟩) (Lib.compact (zs.take n)).length c) ∧ ∃ q, w' = (w.drewN q).setCells b off ((Lib.compact (zs.take n) ++ List.replicate (n - (Lib.compact (zs.take n)).length) 0).map (Value.int .i64)) := Any.slices_Compact_int_cells Tryz.laysNm220 b off n c zs w hz hbig hcap hc hf
def Tryz.laysSlH10_f62_ren : Go.Shelf.Ren := ⟨fun | 10 => 62 | 6 => 88 | n => n, fun | 22 => 24 | 23 => 3 | 25 => 102 | 3 => 3 | 4 => 4 | 0 => 0 | n => n, fun | n => n⟩
theorem Tryz.laysSlH10_f62 : Go.Proofs.SlLaysH.n10 Tryz.prog Tryz.laysSlH10_f62_ren := {
  mixed := by kernel_rfl
  f6 := ⟨Tryz.f88.name, by decide, Tryz.func88.trans (congrArg some (by kernel_rfl))⟩
  f10 := ⟨Tryz.f62.name, by decide, Tryz.func62.trans (congrArg some (by kernel_rfl))⟩
  t0 := Tryz.underlying0
  a0 := Tryz.isAgg0
  z0 := Tryz.sizeOf0
  v0 := Tryz.zeroValue0
  t3 := Tryz.underlying3
  a3 := Tryz.isAgg3
  z3 := Tryz.sizeOf3
  v3 := Tryz.zeroValue3
  t4 := Tryz.underlying4
  a4 := Tryz.isAgg4
  z4 := Tryz.sizeOf4
  v4 := Tryz.zeroValue4
  t22 := Tryz.underlying24
  a22 := Tryz.isAgg24
  z22 := Tryz.sizeOf24
  v22 := Tryz.zeroValue24
  a23 := Tryz.isAgg3
  z23 := Tryz.sizeOf3
  t25 := Tryz.underlying102
  a25 := Tryz.isAgg102
  z25 := Tryz.sizeOf102
  v25 := Tryz.zeroValue102 }
open Go.RowKit Go.Lib Go.Sort in
theorem Tryz.slices_DeleteFunc {α : Type} [Inhabited α] (enc : α → Value) (hO : OneCell enc) (p : α → Bool) (g : Nat) (lb : Array Value) (eg : ∀ args w, (callFunc g args).run Tryz.prog w = .ok (.enter g args) w) (zr : α) (v23 : ∀ w, (zeroValue 3).run Tryz.prog w = .ok (enc zr) w) (blk off cap : Nat) (d : Array α) (w : World) (hp : PredAt Tryz.prog g lb enc p w) (hpo : PredOver Tryz.prog g lb enc p blk off d.size w) (hH : Holds enc w blk off d) (hsz : d.size ≤ 9223372036854775807) (hcap : d.size ≤ cap) :
    Calls Tryz.prog 62 #[.slice (some ⟨blk, off, none⟩) d.size cap, .func (.func g) #[] lb] w fun e w' => e = .returned (.slice (some ⟨blk, off, none⟩) (d.toList.filter fun x => !p x).length cap) ∧ ∃ q, w' = putRow enc (Sort.ahead w q) blk off ((d.toList.filter fun x => !p x) ++ List.replicate (d.size - (d.toList.filter fun x => !p x).length) zr).toArray := AnyE.slices_DeleteFunc Tryz.laysSlH10_f62 enc hO p g lb eg zr v23 blk off cap d w hp hpo hH hsz hcap
end Go.Proofs
/- Small laws over any program that all texts of this seat use: equations of endings, a callee that reads alone, and the end of a law's proof: nothing that was there is changed, and true is returned, so the row's post holds. -/
namespace Go.Proofs.YtbimjggkiiadmaaGreatDoor
open Go.RowKit Go.ChangeShapes Go.WideShapes Go.ChangeAt
theorem ret_int {k : IntKind} {a b : Int} (h : a = b) : Ending.returned (.int k a) = .returned (.int k b) := by rw [h]
theorem ret_bool {a b : Bool} (h : a = b) : Ending.returned (.bool a) = .returned (.bool b) := by rw [h]
theorem quietly {P : Program} {f : FuncId} {args : Array Value} {w : World} {n : Nat} {v : Value}
    (h : Calls P f args (w.drewN n) fun e w' => e = .returned v ∧ w.drewN n = w') : Calls P f args (w.drewN n) fun e w'' => e = .returned v ∧ ∃ m, w'' = w.drewN m :=
  h.mono fun _ _ ⟨he, hm⟩ => ⟨he, n, hm.symm⟩
theorem trodAll_below {H : Type} {enc : TypeId × Value → H} {P : Program} (hl : laidOutB P = true) {W W' : World} (hb : Below W.heap.size W W') :
    ∀ {ts : List TypeId} {vs : List Value} {ds : List (DataW H)} {ps : List MemPlace}, (ts.all fun t => P.readableRec t && decide (t < P.types.size)) = true →
      DataW.TrodAll enc P W 0 (fun _ => true) true ts vs ds ps → (∀ x ∈ ps, x.block < W.heap.size) → DataW.TrodAll enc P W' 0 (fun b => decide (b < W.heap.size)) true ts vs ds ps
  | [], [], [], _, _, h, _ => h
  | [], _ :: _, _, _, _, h, _ => h.elim
  | [], [], _ :: _, _, _, h, _ => h.elim
  | _ :: _, [], _, _, _, h, _ => h.elim
  | _ :: _, _ :: _, [], _, _, h, _ => h.elim
  | t :: ts, v :: vs, d :: ds, ps, ht, h, hlt => by
    obtain ⟨p, q, h1, h2, rfl⟩ := h
    simp only [List.all_cons, Bool.and_eq_true, decide_eq_true_eq] at ht
    exact ⟨p, q, Below.trod hl ht.1.1 ht.1.2 h1 hb (fun x hx => hlt x (List.mem_append_left _ hx)), trodAll_below hl hb ht.2 h2 (fun x hx => hlt x (List.mem_append_right _ hx)), rfl⟩
/-- The post of a law's row: true is returned, and nothing that was there is changed. -/
theorem law_post {H : Type} {enc : TypeId × Value → H} {P : Program} {f : Func} {s : ChangeSpec} {W W' : World} {args : Array Value} {ds gs : List (DataW H)} {before : List MemPlace} {tb : TypeId}
    (hl : laidOutB P = true) (hts : (f.params.toList.all fun t => P.readableRec t && decide (t < P.types.size)) = true) (hvs : varsRowed P s.vars = true) (hrt : f.resultTypes = #[tb]) (htb : P.underlying tb = some .bool)
    (hres : (s.fn H (ds ++ gs)).results = [.lit (.bool true)]) (hargs : (s.fn H (ds ++ gs)).args = ds) (hvars : (s.fn H (ds ++ gs)).vars = gs)
    (hW : DataW.Whole enc P f.params.toList s.vars false W args.toList ds gs before) (hb : Below W.heap.size W W') :
    s.post enc P f false true false false W args (.bool true) W' := by
  have hW' := hW
  obtain ⟨p, q, hA, hV, rfl, _, _⟩ := hW
  have hlt : ∀ x ∈ p ++ q, x.block < W.heap.size := fun x hx => hW'.lt x hx
  refine ⟨ds, gs, p ++ q, [], p, q, hW', ?_, ?_, ?_, hb.frame _, fun h => by cases h⟩
  · rw [hres, hrt]
    exact trodAll_cons_mk (shut_bool htb _) trodAll_mk0
  · rw [hargs]
    exact trodAll_below hl hb hts hA (fun x hx => hlt x (List.mem_append_left _ hx))
  · rw [hvars]
    exact Below.trodVars hl hb hvs hV
/-! ### A region that draws its order, whose operations read and whose callees make memory at most: one walk in the order of the text, over the worlds that are as W0 was below block B. -/
def Calm (B : Nat) (W0 : World) := { w' : World // Below B W0 w' }
instance {B : Nat} {W0 : World} : Nonempty (Calm B W0) := ⟨⟨W0, Below.refl _ _⟩⟩
end Go.Proofs.YtbimjggkiiadmaaGreatDoor
/- Rows of things in memory, each of so many cells, which may themselves hold rows: read below a block's number, or owned. Conditions: the cells lie as the reading says. -/
namespace Go.Proofs.YtbimjggkiiadmaaGreatDoor
open Go.RowKit
/-- The things xs, each of k cells, lie behind the slice's address, in a block below B; what hangs on them as 'sub' says. -/
def RowsIn {α : Type} (k : Nat) (cells : α → List Value) (sub : World → Nat → α → Prop) (w : World) (B : Nat) (ao : Option Addr) (xs : List α) : Prop :=
  xs = [] ∨ ∃ b off, ao = some ⟨b, off, none⟩ ∧ b < B ∧ ∀ (i : Nat) (x : α), xs[i]? = some x → (∀ j, j < k → w.cell? ⟨b, off + i * k + j, none⟩ = (cells x)[j]?) ∧ sub w B x
/-- What hangs on a thing is kept wherever nothing below B is changed. -/
def Kept {α : Type} (sub : World → Nat → α → Prop) : Prop := ∀ w w' B B' x, sub w B x → Below B' w w' → B ≤ B' → sub w' B x
def Rising {α : Type} (sub : World → Nat → α → Prop) : Prop := ∀ w B B' x, sub w B x → B ≤ B' → sub w B' x
theorem RowsIn.below {α : Type} {k : Nat} {cells : α → List Value} {sub : World → Nat → α → Prop} (hs : Kept sub) {w w' : World} {B B' : Nat} {ao : Option Addr} {xs : List α} (h : RowsIn k cells sub w B ao xs) (hb : Below B' w w') (hB : B ≤ B') : RowsIn k cells sub w' B ao xs := by
  rcases h with h | ⟨b, off, h1, h2, h3⟩
  · exact Or.inl h
  · refine Or.inr ⟨b, off, h1, h2, fun i x hx => ⟨fun j hj => ?_, hs _ _ _ _ _ (h3 i x hx).2 hb hB⟩⟩
    rw [hb.cell (p := ⟨b, _, none⟩) (by show b < B'; omega)]; exact (h3 i x hx).1 j hj
theorem RowsIn.mono {α : Type} {k : Nat} {cells : α → List Value} {sub : World → Nat → α → Prop} (hs : Rising sub) {w : World} {B B' : Nat} {ao : Option Addr} {xs : List α} (h : RowsIn k cells sub w B ao xs) (hB : B ≤ B') : RowsIn k cells sub w B' ao xs := by
  rcases h with h | ⟨b, off, h1, h2, h3⟩
  · exact Or.inl h
  · exact Or.inr ⟨b, off, h1, by omega, fun i x hx => ⟨(h3 i x hx).1, hs _ _ _ _ (h3 i x hx).2 hB⟩⟩
theorem RowsIn.at {α : Type} {k : Nat} {cells : α → List Value} {sub : World → Nat → α → Prop} {w : World} {B : Nat} {ao : Option Addr} {xs : List α} (h : RowsIn k cells sub w B ao xs) {i : Nat} {x : α} (hx : xs[i]? = some x) :
    ∃ b off, ao = some ⟨b, off, none⟩ ∧ b < B ∧ (∀ j, j < k → w.cell? ⟨b, off + i * k + j, none⟩ = (cells x)[j]?) ∧ sub w B x := by
  rcases h with h | ⟨b, off, h1, h2, h3⟩
  · rw [h] at hx; simp at hx
  · exact ⟨b, off, h1, h2, h3 i x hx⟩
/-- What lies behind the beginning of a row. -/
theorem RowsIn.drop {α : Type} {k : Nat} {cells : α → List Value} {sub : World → Nat → α → Prop} {w : World} {B b off : Nat} {xs : List α} (n : Nat) (h : RowsIn k cells sub w B (some ⟨b, off, none⟩) xs) : RowsIn k cells sub w B (some ⟨b, off + n * k, none⟩) (xs.drop n) := by
  rcases h with h | ⟨b', off', h1, h2, h3⟩
  · exact Or.inl (by rw [h]; simp)
  · cases h1
    refine Or.inr ⟨b, off + n * k, rfl, h2, fun i x hx => ?_⟩
    rw [List.getElem?_drop] at hx
    obtain ⟨g1, g2⟩ := h3 _ x hx
    refine ⟨fun j hj => ?_, g2⟩
    rw [← g1 j hj, Nat.add_mul]
    congr 2
    omega
theorem RowsIn.take {α : Type} {k : Nat} {cells : α → List Value} {sub : World → Nat → α → Prop} {w : World} {B : Nat} {ao : Option Addr} {xs : List α} (n : Nat) (h : RowsIn k cells sub w B ao xs) : RowsIn k cells sub w B ao (xs.take n) := by
  rcases h with h | ⟨b, off, h1, h2, h3⟩
  · exact Or.inl (by rw [h]; simp)
  · refine Or.inr ⟨b, off, h1, h2, fun i x hx => h3 i x ?_⟩
    rw [List.getElem?_take] at hx
    split at hx
    · exact hx
    · cases hx
/-- What is owned, as it lies: the cells of each thing. -/
theorem flat_get {α : Type} {k : Nat} {cells : α → List Value} (hk : ∀ x, (cells x).length = k) : ∀ (xs : List α) (i : Nat) (x : α), xs[i]? = some x → ∀ j, j < k → (xs.flatMap cells)[i * k + j]? = (cells x)[j]? := by
  intro xs
  induction xs with
  | nil => intro i x h; simp at h
  | cons a xs ih =>
    intro i x h j hj
    rw [List.flatMap_cons]
    cases i with
    | zero =>
      obtain rfl : a = x := by simpa using h
      rw [Nat.zero_mul, Nat.zero_add, List.getElem?_append_left (by rw [hk]; exact hj)]
    | succ i =>
      rw [List.getElem?_append_right (by rw [hk, Nat.add_mul]; omega), hk, show (i + 1) * k + j - k = i * k + j by rw [Nat.add_mul]; omega]
      exact ih i x (by simpa using h) j hj
theorem flat_len {α : Type} {k : Nat} {cells : α → List Value} (hk : ∀ x, (cells x).length = k) (xs : List α) : (xs.flatMap cells).length = xs.length * k := by
  induction xs with
  | nil => simp
  | cons a xs ih => rw [List.flatMap_cons, List.length_append, ih, hk, List.length_cons, Nat.add_mul]; omega
theorem ownsRow_lt' {w : World} {base e size n m g o c : Nat} {xs : List Value} (h : w.ownsRow base e size (.slice (some ⟨g, o, none⟩) m c) n xs) : base ≤ g ∧ g < w.heap.size := h.lt g rfl
theorem own_rows {α : Type} {k : Nat} {cells : α → List Value} {sub : World → Nat → α → Prop} (hk : ∀ x, (cells x).length = k) {w : World} {base e n B : Nat} {v : Value} {xs : List α} (hn : xs.length = n) (h : w.ownsRow base e k v n (xs.flatMap cells)) (hs : ∀ x ∈ xs, sub w B x) (hB : w.heap.size ≤ B) :
    ∃ ao cap, v = .slice ao xs.length cap ∧ RowsIn k cells sub w B ao xs ∧ (ao = none → cap = 0) := by
  subst hn
  rcases Go.Joins.ownsRow_forms h with ⟨rfl, hz⟩ | ⟨g, cap', rfl⟩
  · exact ⟨none, 0, by rw [hz], Or.inl (List.eq_nil_of_length_eq_zero hz), fun _ => rfl⟩
  · have hg := (ownsRow_lt' h).2
    refine ⟨_, _, rfl, Or.inr ⟨g, 0, rfl, by omega, fun i x hx => ⟨fun j hj => ?_, hs x (List.mem_of_getElem? hx)⟩⟩, by simp⟩
    have hi : i < xs.length := by
      rcases Nat.lt_or_ge i xs.length with hh | hh
      · exact hh
      · rw [List.getElem?_eq_none hh] at hx; cases hx
    have h2 : i * k + j < xs.length * k := by
      have := Nat.mul_le_mul_right k (show i + 1 ≤ xs.length from hi)
      rw [Nat.add_mul] at this
      omega
    rw [Nat.zero_add, World.ownsRow.cellAt h _ h2]
    exact flat_get hk xs i x hx j hj
end Go.Proofs.YtbimjggkiiadmaaGreatDoor
/- Slices of bytes that are only read. Conditions: the slice's cells lie as its reading says. -/
namespace Go.Proofs.YtbimjggkiiadmaaGreatDoor
open Go.RowKit
end Go.Proofs.YtbimjggkiiadmaaGreatDoor
/- Bytes and frames among the arguments: their cells, one by one. Conditions: they are read as the row reads them. -/
namespace Go.Proofs.YtbimjggkiiadmaaGreatDoor
open Go.RowKit
theorem slice_shape {H : Type} {enc : TypeId × Value → H} {P : Program} {W : World} {base : Nat} {sp : Nat → Bool} {hd : Bool} {t e : TypeId} {ao : Option Addr} {len cap : Nat} {d : DataW H} {p : List MemPlace}
    (ht : P.underlying t = some (.slice e)) (h : DataW.Trod enc P W base sp hd t (.slice ao len cap) d p) : len ≤ cap ∧ cap ≤ maxLen ∧ (ao = none → cap = 0) := by
  obtain ⟨fuel, hf⟩ := h
  rcases Go.Deep.open_slice ht hf with ⟨h0, _⟩ | ⟨a, len', cap', m, n, D, Pl, h0, _, hl, hm, _⟩
  · simp [Value.cells] at h0
    obtain ⟨rfl, rfl, rfl⟩ := h0
    exact ⟨by omega, by unfold maxLen; omega, fun _ => rfl⟩
  · simp [Value.cells] at h0
    obtain ⟨rfl, rfl, rfl⟩ := h0
    exact ⟨hl, hm, by simp⟩
/-- A cell that holds a slice. -/
theorem slice_cell {H : Type} {enc : TypeId × Value → H} {P : Program} {W : World} {base n : Nat} {sp : Nat → Bool} {hd : Bool} {t e : TypeId} {cs : List Value} {d : DataW H} {p : List MemPlace}
    (ht : P.underlying t = some (.slice e)) (h : DataW.trod enc P W base sp hd n t cs = some (d, p)) : ∃ ao len cap, cs = [.slice ao len cap] ∧ DataW.Trod enc P W base sp hd t (.slice ao len cap) d p := by
  rcases Go.Deep.open_slice ht h with ⟨h0, _⟩ | ⟨a, len', cap', m, n', D, Pl, h0, _⟩
  · subst h0; exact ⟨_, _, _, rfl, n, h⟩
  · subst h0; exact ⟨_, _, _, rfl, n, h⟩
end Go.Proofs.YtbimjggkiiadmaaGreatDoor
/- Entries as they lie in memory; rows that are only read, and their copies. Conditions: as each says. -/
namespace Go.Proofs.YtbimjggkiiadmaaGreatDoor
open Go.RowKit
set_option maxRecDepth 20000
/-- A value: its kind, its number, its text. -/
structure Va where
  kind : Int
  num : Int
  text : ByteArray
def vaCells (v : Va) : List Value := [.int .u8 v.kind, .int .i64 v.num, .string v.text]
theorem vaCells_len (v : Va) : (vaCells v).length = 3 := rfl
def iCells (x : Int) : List Value := [.int .i64 x]
theorem iCells_len (x : Int) : (iCells x).length = 1 := rfl
def noSub {α : Type} (_ : World) (_ : Nat) (_ : α) : Prop := True
theorem noSub_kept {α : Type} : Kept (noSub (α := α)) := fun _ _ _ _ _ _ _ _ => trivial
theorem noSub_rising {α : Type} : Rising (noSub (α := α)) := fun _ _ _ _ _ _ => trivial
/-- An entry: its numbers, its command's kind, text, arguments and number, its voters. -/
structure En where
  term : Int
  kind : Int
  session : Int
  seq : Int
  ck : Int
  text : ByteArray
  aao : Option Addr
  args : List Va
  acap : Nat
  num : Int
  vao : Option Addr
  vs : List Int
  vcap : Nat
def enCells (e : En) : List Value := [.int .i64 e.term, .int .u8 e.kind, .int .i64 e.session, .int .i64 e.seq, .int .u8 e.ck, .string e.text, .slice e.aao e.args.length e.acap, .int .i64 e.num, .slice e.vao e.vs.length e.vcap]
theorem enCells_len (e : En) : (enCells e).length = 9 := rfl
def ValsIn (w : World) (B : Nat) (ao : Option Addr) (xs : List Va) : Prop := RowsIn 3 vaCells noSub w B ao xs
def NumsIn (w : World) (B : Nat) (ao : Option Addr) (xs : List Int) : Prop := RowsIn 1 iCells noSub w B ao xs
def enSub (w : World) (B : Nat) (e : En) : Prop := ValsIn w B e.aao e.args ∧ NumsIn w B e.vao e.vs
def EnsIn (w : World) (B : Nat) (ao : Option Addr) (xs : List En) : Prop := RowsIn 9 enCells enSub w B ao xs
theorem enSub_kept : Kept enSub := fun _ _ _ _ _ h hb hB => ⟨h.1.below noSub_kept hb hB, h.2.below noSub_kept hb hB⟩
theorem enSub_rising : Rising enSub := fun _ _ _ _ h hB => ⟨h.1.mono noSub_rising hB, h.2.mono noSub_rising hB⟩
/-- What an entry says, wherever it lies. -/
structure EnP where
  term : Int
  kind : Int
  session : Int
  seq : Int
  ck : Int
  text : ByteArray
  args : List Va
  num : Int
  vs : List Int
def En.plain (e : En) : EnP := ⟨e.term, e.kind, e.session, e.seq, e.ck, e.text, e.args, e.num, e.vs⟩
def enVal (e : En) : Value := .agg #[.int .i64 e.term, .int .u8 e.kind, .int .i64 e.session, .int .i64 e.seq, .int .u8 e.ck, .string e.text, .slice e.aao e.args.length e.acap, .int .i64 e.num, .slice e.vao e.vs.length e.vcap]
/-- A nil slice has no room. -/
def EnNil (e : En) : Prop := (e.aao = none → e.acap = 0) ∧ (e.vao = none → e.vcap = 0)
theorem cells_of_rows {α : Type} {k : Nat} {cells : α → List Value} {sub : World → Nat → α → Prop} (hk : ∀ x, (cells x).length = k) (h0 : 0 < k) {w w1 : World} {B : Nat} {ao : Option Addr} {xs : List α} (h : RowsIn k cells sub w B ao xs) (hb : Below B w w1) {ad : Addr} (had : ao = some ad) {j : Nat} {u : Value} (hu : (xs.flatMap cells)[j]? = some u) : w1.cell? (ad.add j) = some u := by
  have hj : j < xs.length * k := by
    rcases Nat.lt_or_ge j (xs.length * k) with h | h
    · exact h
    · rw [List.getElem?_eq_none (by rw [flat_len hk]; exact h)] at hu; cases hu
  have hq : j / k < xs.length := Nat.div_lt_of_lt_mul (by rw [Nat.mul_comm]; exact hj)
  have hx : xs[j / k]? = some xs[j / k] := List.getElem?_eq_getElem hq
  obtain ⟨b, off, h1, h2, h3, _⟩ := h.at hx
  have hjk : j = j / k * k + j % k := by rw [Nat.mul_comm]; exact (Nat.div_add_mod j k).symm
  have hm : j % k < k := Nat.mod_lt _ h0
  have hf := flat_get hk xs (j / k) _ hx (j % k) hm
  rw [← hjk] at hf
  have hc := h3 (j % k) hm
  rw [h1] at had
  obtain rfl := Option.some.inj had
  rw [Go.WideShapes.add_plain, hb.cell (p := ⟨b, _, none⟩) h2]
  have e : off + j = off + j / k * k + j % k := by omega
  rw [e, hc, ← hf, hu]
/-- An append to a row of the call's own of rows that are only read. -/
theorem wpList_append_rows {α : Type} {k bytes : Nat} {cells : α → List Value} {sub : World → Nat → α → Prop} {z : Value} {T E : TypeId} {w : World} {ops : Array Oper} {rest : List Oper} {o : Oper} {a : Act} {Q : Exit → Act → World → Prop} (hT : Tryz.prog.underlying T = some (.slice E))
    (hinfo : (Tryz.prog.info? E).map (fun i => (i.zero, i.size, i.bytes)) = some (some z, k, bytes)) (hzs : z.cells.size = k) (h0 : 0 < k) (hk : ∀ x, (cells x).length = k) (hone : ∀ x, ∀ u ∈ cells x, u.oneCell' = true) (hgd : o.guard = none) (s x : Operand)
    (ho : o.op = .call { callee := .builtin .append, args := #[s, x], argTypes := #[T, T] })
    (base : Nat) (v : Value) (n : Nat) (l : List Value) (hs : a.eval s = v) (hown : w.ownsRow base E k v n l)
    (ao : Option Addr) (m cap : Nat) (xs : List α) (hm : xs.length = m) (hx : a.eval x = .slice ao m cap) (B : Nat) (hin : RowsIn k cells sub w B ao xs) (hao : ao = none → cap = 0) (hmax : n + m ≤ maxLen) (hlim : (n + m) * bytes ≤ 140737488355328) (hbase : base ≤ w.heap.size)
    (h : ∀ v' w', w'.ownsRow base E k v' (n + m) (l ++ xs.flatMap cells) → w.grownBy w' v.ownBlock → (v'.ownBlock = v.ownBlock ∨ v'.ownBlock = some w.heap.size) → wpList Tryz.prog ops Q rest (a.put o.dst v') w') : wpList Tryz.prog ops Q (o :: rest) a w := by
  obtain ⟨i0, hi, hz0, hz1, hz2⟩ := info_parts hinfo
  subst hm
  cases ao with
  | none =>
    have hnil : xs = [] := by
      rcases hin with h | ⟨b, off, h1, _⟩
      · exact h
      · cases h1
    subst hnil
    rw [hao rfl] at hx
    refine wpList_append_own_none hgd s x _ ho base E i0 k hT hi v n _ hs hown hx ?_
    exact h v w (by simpa using hown) (World.grownBy.refl _ _) (Or.inl rfl)
  | some ad =>
    refine wpList_append_own_at _ hgd s x _ ho base E i0 z k bytes hT hi hz0 hz1 hz2 hzs h0 v n _ hs hown ad xs.length cap (xs.flatMap cells) hx (flat_len hk xs) ?_ ?_ hmax hlim hbase ?_
    · intro j u hu
      exact cells_of_rows hk h0 hin (Below.refl _ _) rfl hu
    · intro u hu
      obtain ⟨y, _, hy⟩ := List.mem_flatMap.1 hu
      exact hone y u hy
    · intro v' w' h1 h2 _ h3
      exact h v' w' h1 h2 h3
/-- A copy of a row: nil for nil, a row of its own else. -/
def ClonedAs {α : Type} (E : TypeId) (k : Nat) (cells : α → List Value) (xs : List α) (n : Nat) (w : World) (e : Ending) (w' : World) : Prop :=
  ∃ a c, e = .returned (.slice a n c) ∧ w'.ownsRow w.heap.size E k (.slice a n c) n (xs.flatMap cells) ∧ Below w.heap.size w w'
theorem row_slice {w : World} {B E SZ n : Nat} {v : Value} {xs : List Value} (h : w.ownsRow B E SZ v n xs) : ∃ a c, v = .slice a n c := by
  rcases Go.Joins.ownsRow_forms h with ⟨rfl, hz⟩ | ⟨g, c, rfl⟩
  · exact ⟨none, 0, by rw [hz]⟩
  · exact ⟨_, c, rfl⟩
theorem infoVa : (Tryz.prog.info? 126).map (fun i => (i.zero, i.size, i.bytes)) = some (some (.agg #[.int .u8 0, .int .i64 0, .string ByteArray.empty]), 3, 32) := by kernel_rfl
theorem infoEn : (Tryz.prog.info? 34).map (fun i => (i.zero, i.size, i.bytes)) = some (some (.agg #[.int .i64 0, .int .u8 0, .int .i64 0, .int .i64 0, .int .u8 0, .string ByteArray.empty, .slice none 0 0, .int .i64 0, .slice none 0 0]), 9, 112) := by kernel_rfl
theorem infoI : (Tryz.prog.info? 3).map (fun i => (i.zero, i.size, i.bytes)) = some (some (.int .i64 0), 1, 8) := by kernel_rfl
theorem vaCells_one (x : Va) : ∀ u ∈ vaCells x, u.oneCell' = true := by intro u hu; simp [vaCells] at hu; rcases hu with rfl | rfl | rfl <;> rfl
theorem iCells_one (x : Int) : ∀ u ∈ iCells x, u.oneCell' = true := by intro u hu; simp [iCells] at hu; rw [hu]; rfl
theorem enCells_one (x : En) : ∀ u ∈ enCells x, u.oneCell' = true := by intro u hu; simp [enCells] at hu; rcases hu with rfl | rfl | rfl | rfl | rfl | rfl | rfl | rfl | rfl <;> rfl
theorem cloneI_any (sub : World → Nat → Int → Prop) (ao : Option Addr) (n cap : Nat) (xs : List Int) (w : World) (B : Nat) (hn : xs.length = n) (hx : RowsIn 1 iCells sub w B ao xs) (hs : Kept sub) (hB : B ≤ w.heap.size) (hao : ao = none → cap = 0) (hl : n ≤ 1099511627776) :
    Calls Tryz.prog 47 #[.slice ao n cap] w (ClonedAs 3 1 iCells xs n w) := by
  have HX := Lib.hid hx
  have HN := Lib.hid hn
  clear hx hn
  cases ao with
  | none =>
    obtain rfl := hao rfl
    have hnil : xs = [] := by
      rcases HX.out with h | ⟨b, off, h1, _⟩
      · exact h
      · cases h1
    have hn0 : n = 0 := by rw [← HN.out, hnil]; rfl
    subst hn0
    subst hnil
    have he : ∀ w, (binOp .eql 24 (.slice none 0 0) (.slice none 0 0)).run Tryz.prog w = .ok (.bool true) w := fun _ => by kernel_rfl
    go_enter Tryz.func47, Tryz.ntmps47
    go_wp2_with fail
    go_ret
    exact ⟨none, 0, rfl, World.ownsRow_nil _ _ _ _, Below.refl _ _⟩
  | some ad =>
    have he : ∀ w, (binOp .eql 24 (.slice (some ad) n cap) (.slice none 0 0)).run Tryz.prog w = .ok (.bool false) w := fun _ => by kernel_rfl
    go_enter Tryz.func47, Tryz.ntmps47
    go_wp2_with (at_builtin; refine wpList_append_rows Tryz.underlying24 infoI rfl (by decide) iCells_len iCells_one rfl (.tmp 5) (.tmp 6) rfl w.heap.size _ 0 [] rfl (World.ownsRow_lit w #[] 0 (Nat.le_refl _) (by unfold maxLen; omega) rfl) (some ad) n cap xs HN.out rfl B (HX.out.below hs ((Below.refl B w).alloc hB _) (Nat.le_refl _)) (by simp) (by unfold maxLen; omega) (by omega) (by simp) ?_)
    intro v' w' hown hg _
    have hb := ((Below.refl w.heap.size w).alloc (Nat.le_refl _) (.cells #[] 3)).grown hg (by simp) (fun k hk => by cases hk; exact Nat.le_refl _)
    have hown2 : w'.ownsRow w.heap.size 3 1 v' n (xs.flatMap iCells) := by simpa using hown
    obtain ⟨a, c, hv⟩ := row_slice hown2
    subst hv
    have HO := Lib.hid hown2
    clear hg he hown hown2
    go_wp2_with fail
    go_ret
    exact ⟨a, c, rfl, HO.out, hb⟩
theorem cloneV_any (sub : World → Nat → Va → Prop) (ao : Option Addr) (n cap : Nat) (xs : List Va) (w : World) (B : Nat) (hn : xs.length = n) (hx : RowsIn 3 vaCells sub w B ao xs) (hs : Kept sub) (hB : B ≤ w.heap.size) (hao : ao = none → cap = 0) (hl : n ≤ 1099511627776) :
    Calls Tryz.prog 86 #[.slice ao n cap] w (ClonedAs 126 3 vaCells xs n w) := by
  have HX := Lib.hid hx
  have HN := Lib.hid hn
  clear hx hn
  cases ao with
  | none =>
    obtain rfl := hao rfl
    have hnil : xs = [] := by
      rcases HX.out with h | ⟨b, off, h1, _⟩
      · exact h
      · cases h1
    have hn0 : n = 0 := by rw [← HN.out, hnil]; rfl
    subst hn0
    subst hnil
    have he : ∀ w, (binOp .eql 30 (.slice none 0 0) (.slice none 0 0)).run Tryz.prog w = .ok (.bool true) w := fun _ => by kernel_rfl
    go_enter Tryz.func86, Tryz.ntmps86
    go_wp2_with fail
    go_ret
    exact ⟨none, 0, rfl, World.ownsRow_nil _ _ _ _, Below.refl _ _⟩
  | some ad =>
    have he : ∀ w, (binOp .eql 30 (.slice (some ad) n cap) (.slice none 0 0)).run Tryz.prog w = .ok (.bool false) w := fun _ => by kernel_rfl
    go_enter Tryz.func86, Tryz.ntmps86
    go_wp2_with (at_builtin; refine wpList_append_rows Tryz.underlying30 infoVa rfl (by decide) vaCells_len vaCells_one rfl (.tmp 5) (.tmp 6) rfl w.heap.size _ 0 [] rfl (World.ownsRow_lit w #[] 0 (Nat.le_refl _) (by unfold maxLen; omega) rfl) (some ad) n cap xs HN.out rfl B (HX.out.below hs ((Below.refl B w).alloc hB _) (Nat.le_refl _)) (by simp) (by unfold maxLen; omega) (by omega) (by simp) ?_)
    intro v' w' hown hg _
    have hb := ((Below.refl w.heap.size w).alloc (Nat.le_refl _) (.cells #[] 126)).grown hg (by simp) (fun k hk => by cases hk; exact Nat.le_refl _)
    have hown2 : w'.ownsRow w.heap.size 126 3 v' n (xs.flatMap vaCells) := by simpa using hown
    obtain ⟨a, c, hv⟩ := row_slice hown2
    subst hv
    have HO := Lib.hid hown2
    clear hg he hown hown2
    go_wp2_with fail
    go_ret
    exact ⟨a, c, rfl, HO.out, hb⟩
theorem cloneE_any (sub : World → Nat → En → Prop) (ao : Option Addr) (n cap : Nat) (xs : List En) (w : World) (B : Nat) (hn : xs.length = n) (hx : RowsIn 9 enCells sub w B ao xs) (hs : Kept sub) (hB : B ≤ w.heap.size) (hao : ao = none → cap = 0) (hl : n ≤ 1099511627776) :
    Calls Tryz.prog 80 #[.slice ao n cap] w (ClonedAs 34 9 enCells xs n w) := by
  have HX := Lib.hid hx
  have HN := Lib.hid hn
  clear hx hn
  cases ao with
  | none =>
    obtain rfl := hao rfl
    have hnil : xs = [] := by
      rcases HX.out with h | ⟨b, off, h1, _⟩
      · exact h
      · cases h1
    have hn0 : n = 0 := by rw [← HN.out, hnil]; rfl
    subst hn0
    subst hnil
    have he : ∀ w, (binOp .eql 23 (.slice none 0 0) (.slice none 0 0)).run Tryz.prog w = .ok (.bool true) w := fun _ => by kernel_rfl
    go_enter Tryz.func80, Tryz.ntmps80
    go_wp2_with fail
    go_ret
    exact ⟨none, 0, rfl, World.ownsRow_nil _ _ _ _, Below.refl _ _⟩
  | some ad =>
    have he : ∀ w, (binOp .eql 23 (.slice (some ad) n cap) (.slice none 0 0)).run Tryz.prog w = .ok (.bool false) w := fun _ => by kernel_rfl
    go_enter Tryz.func80, Tryz.ntmps80
    go_wp2_with (at_builtin; refine wpList_append_rows Tryz.underlying23 infoEn rfl (by decide) enCells_len enCells_one rfl (.tmp 5) (.tmp 6) rfl w.heap.size _ 0 [] rfl (World.ownsRow_lit w #[] 0 (Nat.le_refl _) (by unfold maxLen; omega) rfl) (some ad) n cap xs HN.out rfl B (HX.out.below hs ((Below.refl B w).alloc hB _) (Nat.le_refl _)) (by simp) (by unfold maxLen; omega) (by omega) (by simp) ?_)
    intro v' w' hown hg _
    have hb := ((Below.refl w.heap.size w).alloc (Nat.le_refl _) (.cells #[] 34)).grown hg (by simp) (fun k hk => by cases hk; exact Nat.le_refl _)
    have hown2 : w'.ownsRow w.heap.size 34 9 v' n (xs.flatMap enCells) := by simpa using hown
    obtain ⟨a, c, hv⟩ := row_slice hown2
    subst hv
    have HO := Lib.hid hown2
    clear hg he hown hown2
    go_wp2_with fail
    go_ret
    exact ⟨a, c, rfl, HO.out, hb⟩
end Go.Proofs.YtbimjggkiiadmaaGreatDoor
/- Rows of a call's own. No program. Conditions: as each says. -/
namespace Go.Proofs.YtbimjggkiiadmaaGreatDoor
open Go.RowKit
theorem own_none {w : World} {base e size n m cap : Nat} {ao : Option Addr} {xs : List Value} (h : w.ownsRow base e size (.slice ao m cap) n xs) : ao = none → cap = 0 := by
  rintro rfl
  rcases h.2 with ⟨h', _⟩ | ⟨g, cap', cur, h', _⟩
  · cases h'; rfl
  · cases h'
theorem own_below {w w' : World} {base e size n B : Nat} {v : Value} {xs : List Value} (h : w.ownsRow base e size v n xs) (hb : Below B w w') (hB : w.heap.size ≤ B) : w'.ownsRow base e size v n xs := by
  refine ⟨h.1, ?_⟩
  rcases h.2 with hn | ⟨g, cap, cur, hv, h1, h2, h3⟩
  · exact Or.inl hn
  · have hg := (Array.getElem?_eq_some_iff.1 h2).1
    exact Or.inr ⟨g, cap, cur, hv, h1, by rw [hb.block g (by omega)]; exact h2, h3⟩
theorem own_apart {w : World} {b1 e1 s1 n1 b2 e2 s2 n2 : Nat} {v1 v2 : Value} {xs1 xs2 : List Value} (h1 : w.ownsRow b1 e1 s1 v1 n1 xs1) (h2 : w.ownsRow b2 e2 s2 v2 n2 xs2) (he : e1 ≠ e2) : v1.ownBlock = none ∨ v1.ownBlock ≠ v2.ownBlock := by
  rcases h1.2 with ⟨rfl, _⟩ | ⟨g, cap, cur, rfl, _, g1, _⟩
  · exact Or.inl rfl
  · right
    rcases h2.2 with ⟨rfl, _⟩ | ⟨g', cap', cur', rfl, _, g2, _⟩
    · simp [Value.ownBlock]
    · intro hh
      simp [Value.ownBlock] at hh
      subst hh
      rw [g1] at g2
      simp only [Option.some.injEq, Obj.cells.injEq] at g2
      exact he g2.2.1
theorem own_capG {w : World} {base e size n m cap : Nat} {ao : Option Addr} {xs : List Value} (h : w.ownsRow base e size (.slice ao m cap) n xs) : m ≤ cap := by
  rcases h.2 with ⟨h', _⟩ | ⟨g, cap', cur, h', _, _, h3, _⟩
  · injection h' with _ h1 _; omega
  · injection h' with _ h1 h2; subst h1 h2; exact h3
end Go.Proofs.YtbimjggkiiadmaaGreatDoor
