/- Entries as they lie in memory; rows that are only read, and their copies. Conditions: as each says. -/
import Derived.Test.YtnfldkebjeigiaaDoorBase
import Derived.Test.YtnfldkebjeigiaaDoorLies
import Derived.Test.YtnfldkebjeigiaaDoorOpen
import Derived.Maps.AppendAt
import Derived.Laws.AppendOwnNone
import Derived.Deep.Strs
namespace Go.Proofs.YtnfldkebjeigiaaDoor
open Go.RowKit
set_option maxRecDepth 20000

/-- A value: its kind, its number, its text. -/
structure Va where
  kind : Int
  num : Int
  text : ByteArray
def vaCells (v : Va) : List Value := [.int .u8 v.kind, .int .i64 v.num, .string v.text]
theorem vaCells_len (v : Va) : (vaCells v).length = 3 := rfl
def iCells (x : Int) : List Value := [.int .i64 x]
theorem iCells_len (x : Int) : (iCells x).length = 1 := rfl
def noSub {α : Type} (_ : World) (_ : Nat) (_ : α) : Prop := True
theorem noSub_kept {α : Type} : Kept (noSub (α := α)) := fun _ _ _ _ _ _ _ _ => trivial
theorem noSub_rising {α : Type} : Rising (noSub (α := α)) := fun _ _ _ _ _ _ => trivial
/-- An entry: its numbers, its command's kind, text, arguments and number, its voters. -/
structure En where
  term : Int
  kind : Int
  session : Int
  seq : Int
  ck : Int
  text : ByteArray
  aao : Option Addr
  args : List Va
  acap : Nat
  num : Int
  vao : Option Addr
  vs : List Int
  vcap : Nat
def enCells (e : En) : List Value := [.int .i64 e.term, .int .u8 e.kind, .int .i64 e.session, .int .i64 e.seq, .int .u8 e.ck, .string e.text, .slice e.aao e.args.length e.acap, .int .i64 e.num, .slice e.vao e.vs.length e.vcap]
theorem enCells_len (e : En) : (enCells e).length = 9 := rfl
def ValsIn (w : World) (B : Nat) (ao : Option Addr) (xs : List Va) : Prop := RowsIn 3 vaCells noSub w B ao xs
def NumsIn (w : World) (B : Nat) (ao : Option Addr) (xs : List Int) : Prop := RowsIn 1 iCells noSub w B ao xs
def enSub (w : World) (B : Nat) (e : En) : Prop := ValsIn w B e.aao e.args ∧ NumsIn w B e.vao e.vs
def EnsIn (w : World) (B : Nat) (ao : Option Addr) (xs : List En) : Prop := RowsIn 9 enCells enSub w B ao xs
theorem enSub_kept : Kept enSub := fun _ _ _ _ _ h hb hB => ⟨h.1.below noSub_kept hb hB, h.2.below noSub_kept hb hB⟩
theorem enSub_rising : Rising enSub := fun _ _ _ _ h hB => ⟨h.1.mono noSub_rising hB, h.2.mono noSub_rising hB⟩
/-- What an entry says, wherever it lies. -/
structure EnP where
  term : Int
  kind : Int
  session : Int
  seq : Int
  ck : Int
  text : ByteArray
  args : List Va
  num : Int
  vs : List Int
def En.plain (e : En) : EnP := ⟨e.term, e.kind, e.session, e.seq, e.ck, e.text, e.args, e.num, e.vs⟩
def enVal (e : En) : Value := .agg #[.int .i64 e.term, .int .u8 e.kind, .int .i64 e.session, .int .i64 e.seq, .int .u8 e.ck, .string e.text, .slice e.aao e.args.length e.acap, .int .i64 e.num, .slice e.vao e.vs.length e.vcap]
/-- A nil slice has no room. -/
def EnNil (e : En) : Prop := (e.aao = none → e.acap = 0) ∧ (e.vao = none → e.vcap = 0)

theorem cells_of_rows {α : Type} {k : Nat} {cells : α → List Value} {sub : World → Nat → α → Prop} (hk : ∀ x, (cells x).length = k) (h0 : 0 < k) {w w1 : World} {B : Nat} {ao : Option Addr} {xs : List α} (h : RowsIn k cells sub w B ao xs) (hb : Below B w w1) {ad : Addr} (had : ao = some ad) {j : Nat} {u : Value} (hu : (xs.flatMap cells)[j]? = some u) : w1.cell? (ad.add j) = some u := by
  have hj : j < xs.length * k := by
    rcases Nat.lt_or_ge j (xs.length * k) with h | h
    · exact h
    · rw [List.getElem?_eq_none (by rw [flat_len hk]; exact h)] at hu; cases hu
  have hq : j / k < xs.length := Nat.div_lt_of_lt_mul (by rw [Nat.mul_comm]; exact hj)
  have hx : xs[j / k]? = some xs[j / k] := List.getElem?_eq_getElem hq
  obtain ⟨b, off, h1, h2, h3, _⟩ := h.at hx
  have hjk : j = j / k * k + j % k := by rw [Nat.mul_comm]; exact (Nat.div_add_mod j k).symm
  have hm : j % k < k := Nat.mod_lt _ h0
  have hf := flat_get hk xs (j / k) _ hx (j % k) hm
  rw [← hjk] at hf
  have hc := h3 (j % k) hm
  rw [h1] at had
  obtain rfl := Option.some.inj had
  rw [Go.WideShapes.add_plain, hb.cell (p := ⟨b, _, none⟩) h2]
  have e : off + j = off + j / k * k + j % k := by omega
  rw [e, hc, ← hf, hu]

/-- An append to a row of the call's own of rows that are only read. -/
theorem wpList_append_rows {α : Type} {k bytes : Nat} {cells : α → List Value} {sub : World → Nat → α → Prop} {z : Value} {T E : TypeId} {w : World} {ops : Array Oper} {rest : List Oper} {o : Oper} {a : Act} {Q : Exit → Act → World → Prop} (hT : Tryd.prog.underlying T = some (.slice E))
    (hinfo : (Tryd.prog.info? E).map (fun i => (i.zero, i.size, i.bytes)) = some (some z, k, bytes)) (hzs : z.cells.size = k) (h0 : 0 < k) (hk : ∀ x, (cells x).length = k) (hone : ∀ x, ∀ u ∈ cells x, u.oneCell' = true) (hgd : o.guard = none) (s x : Operand)
    (ho : o.op = .call { callee := .builtin .append, args := #[s, x], argTypes := #[T, T] })
    (base : Nat) (v : Value) (n : Nat) (l : List Value) (hs : a.eval s = v) (hown : w.ownsRow base E k v n l)
    (ao : Option Addr) (m cap : Nat) (xs : List α) (hm : xs.length = m) (hx : a.eval x = .slice ao m cap) (B : Nat) (hin : RowsIn k cells sub w B ao xs) (hao : ao = none → cap = 0) (hmax : n + m ≤ maxLen) (hlim : (n + m) * bytes ≤ 140737488355328) (hbase : base ≤ w.heap.size)
    (h : ∀ v' w', w'.ownsRow base E k v' (n + m) (l ++ xs.flatMap cells) → w.grownBy w' v.ownBlock → (v'.ownBlock = v.ownBlock ∨ v'.ownBlock = some w.heap.size) → wpList Tryd.prog ops Q rest (a.put o.dst v') w') : wpList Tryd.prog ops Q (o :: rest) a w := by
  obtain ⟨i0, hi, hz0, hz1, hz2⟩ := info_parts hinfo
  subst hm
  cases ao with
  | none =>
    have hnil : xs = [] := by
      rcases hin with h | ⟨b, off, h1, _⟩
      · exact h
      · cases h1
    subst hnil
    rw [hao rfl] at hx
    refine wpList_append_own_none hgd s x _ ho base E i0 k hT hi v n _ hs hown hx ?_
    exact h v w (by simpa using hown) (World.grownBy.refl _ _) (Or.inl rfl)
  | some ad =>
    refine wpList_append_own_at _ hgd s x _ ho base E i0 z k bytes hT hi hz0 hz1 hz2 hzs h0 v n _ hs hown ad xs.length cap (xs.flatMap cells) hx (flat_len hk xs) ?_ ?_ hmax hlim hbase ?_
    · intro j u hu
      exact cells_of_rows hk h0 hin (Below.refl _ _) rfl hu
    · intro u hu
      obtain ⟨y, _, hy⟩ := List.mem_flatMap.1 hu
      exact hone y u hy
    · intro v' w' h1 h2 _ h3
      exact h v' w' h1 h2 h3
/-- A copy of a row: nil for nil, a row of its own else. -/
def ClonedAs {α : Type} (E : TypeId) (k : Nat) (cells : α → List Value) (xs : List α) (n : Nat) (w : World) (e : Ending) (w' : World) : Prop :=
  ∃ a c, e = .returned (.slice a n c) ∧ w'.ownsRow w.heap.size E k (.slice a n c) n (xs.flatMap cells) ∧ Below w.heap.size w w'
theorem row_slice {w : World} {B E SZ n : Nat} {v : Value} {xs : List Value} (h : w.ownsRow B E SZ v n xs) : ∃ a c, v = .slice a n c := by
  rcases Go.Joins.ownsRow_forms h with ⟨rfl, hz⟩ | ⟨g, c, rfl⟩
  · exact ⟨none, 0, by rw [hz]⟩
  · exact ⟨_, c, rfl⟩
theorem infoVa : (Tryd.prog.info? 24).map (fun i => (i.zero, i.size, i.bytes)) = some (some (.agg #[.int .u8 0, .int .i64 0, .string ByteArray.empty]), 3, 32) := by kernel_rfl
theorem infoEn : (Tryd.prog.info? 38).map (fun i => (i.zero, i.size, i.bytes)) = some (some (.agg #[.int .i64 0, .int .u8 0, .int .i64 0, .int .i64 0, .int .u8 0, .string ByteArray.empty, .slice none 0 0, .int .i64 0, .slice none 0 0]), 9, 112) := by kernel_rfl
theorem infoI : (Tryd.prog.info? 3).map (fun i => (i.zero, i.size, i.bytes)) = some (some (.int .i64 0), 1, 8) := by kernel_rfl
theorem vaCells_one (x : Va) : ∀ u ∈ vaCells x, u.oneCell' = true := by intro u hu; simp [vaCells] at hu; rcases hu with rfl | rfl | rfl <;> rfl
theorem iCells_one (x : Int) : ∀ u ∈ iCells x, u.oneCell' = true := by intro u hu; simp [iCells] at hu; rw [hu]; rfl
theorem enCells_one (x : En) : ∀ u ∈ enCells x, u.oneCell' = true := by intro u hu; simp [enCells] at hu; rcases hu with rfl | rfl | rfl | rfl | rfl | rfl | rfl | rfl | rfl <;> rfl

end Go.Proofs.YtnfldkebjeigiaaDoor
