/- Small laws for rows whose elements take several cells. No program. Conditions: as each says. -/
import Derived.Test.YtnfldkebjeigiaaGreatDoorGWireWrites0
import Derived.Maps.AppendAt
import Derived.Laws.AppendOwnNone
import Derived.Deep.Strs
import Derived.Test.YtnfldkebjeigiaaGreatDoorGWireWrites2
set_option linter.unusedVariables false
namespace Go.Proofs.YtnfldkebjeigiaaGreatDoor
open Go.RowKit
theorem run_make_rows {P : Program} (t e : TypeId) (z : Value) (size bytes : Nat) (ht : P.underlying t = some (.slice e)) (hinfo : (P.info? e).map (fun i => (i.zero, i.size, i.bytes)) = some (some z, size, bytes))
    (kl kc : IntKind) (n : Nat) (hbytes : bytes * n ≤ 281474976710656) (h63 : n ≤ 9223372036854775807) (w : World) :
    (Instr.makeSlice t (.int kl (n : Int)) (.int kc (n : Int))).run P w = .ok (.slice (some ⟨w.heap.size, 0, none⟩) n n) (w.alloc (.cells (madeCells z.cells (n * size)) e)) := by
  obtain ⟨i, hi, hzz⟩ := Option.map_eq_some_iff.1 hinfo
  simp only [Prod.mk.injEq] at hzz
  obtain ⟨hz, hs, hb⟩ := hzz
  have hb' : (i.bytes : Int) * (n : Int) ≤ 281474976710656 := by
    have h : ((i.bytes * n : Nat) : Int) ≤ 281474976710656 := by rw [hb]; omega
    rwa [Int.natCast_mul] at h
  have hr := run_make (P := P) w t e i z ht hi hz kl kc n n (by omega) (Int.le_refl _) hb' (by omega)
  simp only [Int.toNat_natCast, hs] at hr
  exact hr
theorem made_one (z : Array Value) (n : Nat) (h0 : 0 < z.size) (h : z.toList.all (fun u => u.oneCell') = true) : ∀ u ∈ (madeCells z n).toList, u.oneCell' = true := by
  intro u hu
  unfold madeCells at hu
  simp only [Array.toList_map, Array.toList_range, List.mem_map, List.mem_range] at hu
  obtain ⟨i, _, rfl⟩ := hu
  have hlt : i % z.size < z.size := Nat.mod_lt _ h0
  rw [getElem!_pos z (i % z.size) hlt]
  exact List.all_eq_true.1 h _ (by simp)
theorem one_set {l : List Value} {q : Nat} {u : Value} (h : ∀ x ∈ l, x.oneCell' = true) (hu : u.oneCell' = true) : ∀ x ∈ l.set q u, x.oneCell' = true := by
  intro x hx
  rcases List.mem_or_eq_of_mem_set hx with hx | hx
  · exact h x hx
  · rw [hx]; exact hu
theorem cells_new (w : World) (T : TypeId) (cs : List Value) : ∀ j u, cs[j]? = some u → (w.alloc (.cells cs.toArray T)).cell? ((⟨w.heap.size, 0, none⟩ : Addr).add j) = some u := by
  intro j u hu
  have hadd : (⟨w.heap.size, 0, none⟩ : Addr).add j = ⟨w.heap.size, j, none⟩ := by unfold Addr.add; split <;> simp_all
  rw [hadd, World.cell?_alloc_at _ _ _ _ rfl]
  simpa using hu
end Go.Proofs.YtnfldkebjeigiaaGreatDoor
/- Bytes and frames among the arguments: their cells, one by one. Conditions: they are read as the row reads them. -/
namespace Go.Proofs.YtnfldkebjeigiaaGreatDoor
open Go.RowKit
theorem slice_shape {H : Type} {enc : TypeId × Value → H} {P : Program} {W : World} {base : Nat} {sp : Nat → Bool} {hd : Bool} {t e : TypeId} {ao : Option Addr} {len cap : Nat} {d : DataW H} {p : List MemPlace}
    (ht : P.underlying t = some (.slice e)) (h : DataW.Trod enc P W base sp hd t (.slice ao len cap) d p) : len ≤ cap ∧ cap ≤ maxLen ∧ (ao = none → cap = 0) := by
  obtain ⟨fuel, hf⟩ := h
  rcases Go.Deep.open_slice ht hf with ⟨h0, _⟩ | ⟨a, len', cap', m, n, D, Pl, h0, _, hl, hm, _⟩
  · simp [Value.cells] at h0
    obtain ⟨rfl, rfl, rfl⟩ := h0
    exact ⟨by omega, by unfold maxLen; omega, fun _ => rfl⟩
  · simp [Value.cells] at h0
    obtain ⟨rfl, rfl, rfl⟩ := h0
    exact ⟨hl, hm, by simp⟩
/-- A cell that holds a slice. -/
theorem slice_cell {H : Type} {enc : TypeId × Value → H} {P : Program} {W : World} {base n : Nat} {sp : Nat → Bool} {hd : Bool} {t e : TypeId} {cs : List Value} {d : DataW H} {p : List MemPlace}
    (ht : P.underlying t = some (.slice e)) (h : DataW.trod enc P W base sp hd n t cs = some (d, p)) : ∃ ao len cap, cs = [.slice ao len cap] ∧ DataW.Trod enc P W base sp hd t (.slice ao len cap) d p := by
  rcases Go.Deep.open_slice ht h with ⟨h0, _⟩ | ⟨a, len', cap', m, n', D, Pl, h0, _⟩
  · subst h0; exact ⟨_, _, _, rfl, n, h⟩
  · subst h0; exact ⟨_, _, _, rfl, n, h⟩
/-- Bytes among the arguments. -/
theorem open_bytes {H : Type} {enc : TypeId × Value → H} {P : Program} {W : World} {sp : Nat → Bool} {hd : Bool} {t e : TypeId} {ao : Option Addr} {len cap : Nat} {d : DataW H} {p : List MemPlace}
    (ht : P.underlying t = some (.slice e)) (he : P.underlying e = some (.int .u8)) (hC : P.cellsOf e = 1) (h : DataW.Trod enc P W 0 sp hd t (.slice ao len cap) d p) :
    ∃ xs : List Int, xs.length = len ∧ BytesIn W W.heap.size ao xs ∧ BytesWf xs ∧ (ao = none → cap = 0) ∧ len ≤ cap ∧ cap ≤ maxLen := by
  obtain ⟨h1, h2, h3⟩ := slice_shape ht h
  obtain ⟨xs, hl, hx, hw⟩ := open_bytesIn ht he hC h
  exact ⟨xs, hl.symm, hx, hw, h3, h1, h2⟩
end Go.Proofs.YtnfldkebjeigiaaGreatDoor
/- Entries as they lie in memory; rows that are only read, and their copies. Conditions: as each says. -/
namespace Go.Proofs.YtnfldkebjeigiaaGreatDoor
open Go.RowKit
set_option maxRecDepth 20000
/-- A value: its kind, its number, its text. -/
structure Va where
  kind : Int
  num : Int
  text : ByteArray
def vaCells (v : Va) : List Value := [.int .u8 v.kind, .int .i64 v.num, .string v.text]
theorem vaCells_len (v : Va) : (vaCells v).length = 3 := rfl
def iCells (x : Int) : List Value := [.int .i64 x]
theorem iCells_len (x : Int) : (iCells x).length = 1 := rfl
def noSub {α : Type} (_ : World) (_ : Nat) (_ : α) : Prop := True
theorem noSub_kept {α : Type} : Kept (noSub (α := α)) := fun _ _ _ _ _ _ _ _ => trivial
theorem noSub_rising {α : Type} : Rising (noSub (α := α)) := fun _ _ _ _ _ _ => trivial
/-- An entry: its numbers, its command's kind, text, arguments and number, its voters. -/
structure En where
  term : Int
  kind : Int
  session : Int
  seq : Int
  ck : Int
  text : ByteArray
  aao : Option Addr
  args : List Va
  acap : Nat
  num : Int
  vao : Option Addr
  vs : List Int
  vcap : Nat
def enCells (e : En) : List Value := [.int .i64 e.term, .int .u8 e.kind, .int .i64 e.session, .int .i64 e.seq, .int .u8 e.ck, .string e.text, .slice e.aao e.args.length e.acap, .int .i64 e.num, .slice e.vao e.vs.length e.vcap]
theorem enCells_len (e : En) : (enCells e).length = 9 := rfl
def ValsIn (w : World) (B : Nat) (ao : Option Addr) (xs : List Va) : Prop := RowsIn 3 vaCells noSub w B ao xs
def NumsIn (w : World) (B : Nat) (ao : Option Addr) (xs : List Int) : Prop := RowsIn 1 iCells noSub w B ao xs
def enSub (w : World) (B : Nat) (e : En) : Prop := ValsIn w B e.aao e.args ∧ NumsIn w B e.vao e.vs
def EnsIn (w : World) (B : Nat) (ao : Option Addr) (xs : List En) : Prop := RowsIn 9 enCells enSub w B ao xs
theorem enSub_kept : Kept enSub := fun _ _ _ _ _ h hb hB => ⟨h.1.below noSub_kept hb hB, h.2.below noSub_kept hb hB⟩
theorem enSub_rising : Rising enSub := fun _ _ _ _ h hB => ⟨h.1.mono noSub_rising hB, h.2.mono noSub_rising hB⟩
/-- What an entry says, wherever it lies. -/
structure EnP where
  term : Int
  kind : Int
  session : Int
  seq : Int
  ck : Int
  text : ByteArray
  args : List Va
  num : Int
  vs : List Int
def En.plain (e : En) : EnP := ⟨e.term, e.kind, e.session, e.seq, e.ck, e.text, e.args, e.num, e.vs⟩
def enVal (e : En) : Value := .agg #[.int .i64 e.term, .int .u8 e.kind, .int .i64 e.session, .int .i64 e.seq, .int .u8 e.ck, .string e.text, .slice e.aao e.args.length e.acap, .int .i64 e.num, .slice e.vao e.vs.length e.vcap]
/-- A nil slice has no room. -/
def EnNil (e : En) : Prop := (e.aao = none → e.acap = 0) ∧ (e.vao = none → e.vcap = 0)
theorem cells_of_rows {α : Type} {k : Nat} {cells : α → List Value} {sub : World → Nat → α → Prop} (hk : ∀ x, (cells x).length = k) (h0 : 0 < k) {w w1 : World} {B : Nat} {ao : Option Addr} {xs : List α} (h : RowsIn k cells sub w B ao xs) (hb : Below B w w1) {ad : Addr} (had : ao = some ad) {j : Nat} {u : Value} (hu : (xs.flatMap cells)[j]? = some u) : w1.cell? (ad.add j) = some u := by
  have hj : j < xs.length * k := by
    rcases Nat.lt_or_ge j (xs.length * k) with h | h
    · exact h
    · rw [List.getElem?_eq_none (by rw [flat_len hk]; exact h)] at hu; cases hu
  have hq : j / k < xs.length := Nat.div_lt_of_lt_mul (by rw [Nat.mul_comm]; exact hj)
  have hx : xs[j / k]? = some xs[j / k] := List.getElem?_eq_getElem hq
  obtain ⟨b, off, h1, h2, h3, _⟩ := h.at hx
  have hjk : j = j / k * k + j % k := by rw [Nat.mul_comm]; exact (Nat.div_add_mod j k).symm
  have hm : j % k < k := Nat.mod_lt _ h0
  have hf := flat_get hk xs (j / k) _ hx (j % k) hm
  rw [← hjk] at hf
  have hc := h3 (j % k) hm
  rw [h1] at had
  obtain rfl := Option.some.inj had
  rw [Go.WideShapes.add_plain, hb.cell (p := ⟨b, _, none⟩) h2]
  have e : off + j = off + j / k * k + j % k := by omega
  rw [e, hc, ← hf, hu]
/-- An append to a row of the call's own of rows that are only read. -/
theorem wpList_append_rows {α : Type} {k bytes : Nat} {cells : α → List Value} {sub : World → Nat → α → Prop} {z : Value} {T E : TypeId} {w : World} {ops : Array Oper} {rest : List Oper} {o : Oper} {a : Act} {Q : Exit → Act → World → Prop} (hT : Tryz.prog.underlying T = some (.slice E))
    (hinfo : (Tryz.prog.info? E).map (fun i => (i.zero, i.size, i.bytes)) = some (some z, k, bytes)) (hzs : z.cells.size = k) (h0 : 0 < k) (hk : ∀ x, (cells x).length = k) (hone : ∀ x, ∀ u ∈ cells x, u.oneCell' = true) (hgd : o.guard = none) (s x : Operand)
    (ho : o.op = .call { callee := .builtin .append, args := #[s, x], argTypes := #[T, T] })
    (base : Nat) (v : Value) (n : Nat) (l : List Value) (hs : a.eval s = v) (hown : w.ownsRow base E k v n l)
    (ao : Option Addr) (m cap : Nat) (xs : List α) (hm : xs.length = m) (hx : a.eval x = .slice ao m cap) (B : Nat) (hin : RowsIn k cells sub w B ao xs) (hao : ao = none → cap = 0) (hmax : n + m ≤ maxLen) (hlim : (n + m) * bytes ≤ 140737488355328) (hbase : base ≤ w.heap.size)
    (h : ∀ v' w', w'.ownsRow base E k v' (n + m) (l ++ xs.flatMap cells) → w.grownBy w' v.ownBlock → (v'.ownBlock = v.ownBlock ∨ v'.ownBlock = some w.heap.size) → wpList Tryz.prog ops Q rest (a.put o.dst v') w') : wpList Tryz.prog ops Q (o :: rest) a w := by
  obtain ⟨i0, hi, hz0, hz1, hz2⟩ := info_parts hinfo
  subst hm
  cases ao with
  | none =>
    have hnil : xs = [] := by
      rcases hin with h | ⟨b, off, h1, _⟩
      · exact h
      · cases h1
    subst hnil
    rw [hao rfl] at hx
    refine wpList_append_own_none hgd s x _ ho base E i0 k hT hi v n _ hs hown hx ?_
    exact h v w (by simpa using hown) (World.grownBy.refl _ _) (Or.inl rfl)
  | some ad =>
    refine wpList_append_own_at _ hgd s x _ ho base E i0 z k bytes hT hi hz0 hz1 hz2 hzs h0 v n _ hs hown ad xs.length cap (xs.flatMap cells) hx (flat_len hk xs) ?_ ?_ hmax hlim hbase ?_
    · intro j u hu
      exact cells_of_rows hk h0 hin (Below.refl _ _) rfl hu
    · intro u hu
      obtain ⟨y, _, hy⟩ := List.mem_flatMap.1 hu
      exact hone y u hy
    · intro v' w' h1 h2 _ h3
      exact h v' w' h1 h2 h3
/-- A copy of a row: nil for nil, a row of its own else. -/
def ClonedAs {α : Type} (E : TypeId) (k : Nat) (cells : α → List Value) (xs : List α) (n : Nat) (w : World) (e : Ending) (w' : World) : Prop :=
  ∃ a c, e = .returned (.slice a n c) ∧ w'.ownsRow w.heap.size E k (.slice a n c) n (xs.flatMap cells) ∧ Below w.heap.size w w'
theorem row_slice {w : World} {B E SZ n : Nat} {v : Value} {xs : List Value} (h : w.ownsRow B E SZ v n xs) : ∃ a c, v = .slice a n c := by
  rcases Go.Joins.ownsRow_forms h with ⟨rfl, hz⟩ | ⟨g, c, rfl⟩
  · exact ⟨none, 0, by rw [hz]⟩
  · exact ⟨_, c, rfl⟩
theorem infoVa : (Tryz.prog.info? 24).map (fun i => (i.zero, i.size, i.bytes)) = some (some (.agg #[.int .u8 0, .int .i64 0, .string ByteArray.empty]), 3, 32) := by kernel_rfl
theorem infoEn : (Tryz.prog.info? 38).map (fun i => (i.zero, i.size, i.bytes)) = some (some (.agg #[.int .i64 0, .int .u8 0, .int .i64 0, .int .i64 0, .int .u8 0, .string ByteArray.empty, .slice none 0 0, .int .i64 0, .slice none 0 0]), 9, 112) := by kernel_rfl
theorem infoI : (Tryz.prog.info? 3).map (fun i => (i.zero, i.size, i.bytes)) = some (some (.int .i64 0), 1, 8) := by kernel_rfl
theorem vaCells_one (x : Va) : ∀ u ∈ vaCells x, u.oneCell' = true := by intro u hu; simp [vaCells] at hu; rcases hu with rfl | rfl | rfl <;> rfl
theorem iCells_one (x : Int) : ∀ u ∈ iCells x, u.oneCell' = true := by intro u hu; simp [iCells] at hu; rw [hu]; rfl
theorem enCells_one (x : En) : ∀ u ∈ enCells x, u.oneCell' = true := by intro u hu; simp [enCells] at hu; rcases hu with rfl | rfl | rfl | rfl | rfl | rfl | rfl | rfl | rfl <;> rfl
end Go.Proofs.YtnfldkebjeigiaaGreatDoor
/- SameInts, SameValues, SameCommand, SameEntry, SameEntries: what reads alike is told to be the same. Conditions: the cells lie as their readings say. -/
namespace Go.Proofs.YtnfldkebjeigiaaGreatDoor
open Go.RowKit
set_option maxRecDepth 20000
theorem same_val (t : TypeId) (h : t = 24) (a b : Int) (s : ByteArray) (w : World) : (binOp .neq t (.agg #[.int .u8 a, .int .i64 b, .string s]) (.agg #[.int .u8 a, .int .i64 b, .string s])).run Tryz.prog w = .ok (.bool false) w := by
  subst h
  simp [go_sem, Tryz.underlying24]
theorem sameI_any (ao : Option Addr) (n cap : Nat) (co : Option Addr) (m cap2 : Nat) (xs : List Int) (w : World) (B : Nat) (hn : xs.length = n) (hm : xs.length = m) (hx : NumsIn w B ao xs) (hy : NumsIn w B co xs) (hB : B ≤ w.heap.size) (hl : n ≤ 4611686018427387904) :
    Calls Tryz.prog 87 #[.slice ao n cap, .slice co m cap2] w fun e w' => e = .returned (.bool true) ∧ Below w.heap.size w w' := by
  obtain rfl : n = m := by omega
  have HX := Lib.hid (hx.mono noSub_rising hB)
  have HY := Lib.hid (hy.mono noSub_rising hB)
  have HN := Lib.hid hn
  clear hx hy hn hm
  go_enter Tryz.func87, Tryz.ntmps87
  go_wp2_with fail
  go_loopw [5] (fun i wr => ∃ k : Nat, k ≤ n ∧ i = .int .i64 k ∧ Below w.heap.size w wr) (fun i _ => n - (intOf i).toNat)
  case atStart => exact ⟨0, by omega, rfl, Below.refl _ _⟩
  case round =>
    obtain ⟨k, hk, rfl, hbel⟩ := hrel
    by_cases hlt : k < n
    · have hkx : xs[k]? = some (xs[k]'(by rw [HN.out]; exact hlt)) := List.getElem?_eq_getElem _
      obtain ⟨b, off, hao, hb, hc, _⟩ := HX.out.at hkx
      obtain ⟨b2, off2, hco, hb2, hc2, _⟩ := HY.out.at hkx
      have d0 := hc 0 (by decide)
      have d1 := hc2 0 (by decide)
      generalize xs[k]'(by rw [HN.out]; exact hlt) = x at d0 d1
      subst hao hco
      have c0 : ∀ x' : Calm w.heap.size w, x'.1.cell? ⟨b, off + k, none⟩ = some (.int .i64 x) := fun x' => x'.cell (by simpa [iCells] using d0) hb
      have c1 : ∀ x' : Calm w.heap.size w, x'.1.cell? ⟨b2, off2 + k, none⟩ = some (.int .i64 x) := fun x' => x'.cell (by simpa [iCells] using d1) hb2
      have i1 : (k : Int) < n := by omega
      clear d0 d1 hc hc2 hkx
      go_wp2_with fail
      refine wp_region_calm (B := w.heap.size) (W0 := w) hbel (by kernel_rfl) (by kernel_rfl) ?_
      repeat (go_big_quiet_step (fail))
      refine wpQuiet_nil ?_
      intro w5 hb5
      clear c0 c1
      go_wp2_with fail
      go_roundw
      case rel => exact ⟨k + 1, by omega, by go_num, hb5⟩
      case measure => simp [intOf]; omega
    · obtain rfl : k = n := by omega
      go_wp2_with fail
      go_ret
      exact ⟨rfl, hbel⟩
theorem sameV_any (ao : Option Addr) (n cap : Nat) (co : Option Addr) (m cap2 : Nat) (xs : List Va) (w : World) (B : Nat) (hn : xs.length = n) (hm : xs.length = m) (hx : ValsIn w B ao xs) (hy : ValsIn w B co xs) (hB : B ≤ w.heap.size) (hl : n ≤ 4611686018427387904) :
    Calls Tryz.prog 89 #[.slice ao n cap, .slice co m cap2] w fun e w' => e = .returned (.bool true) ∧ Below w.heap.size w w' := by
  obtain rfl : n = m := by omega
  have HX := Lib.hid (hx.mono noSub_rising hB)
  have HY := Lib.hid (hy.mono noSub_rising hB)
  have HN := Lib.hid hn
  clear hx hy hn hm
  go_enter Tryz.func89, Tryz.ntmps89
  go_wp2_with fail
  go_loopw [5] (fun i wr => ∃ k : Nat, k ≤ n ∧ i = .int .i64 k ∧ Below w.heap.size w wr) (fun i _ => n - (intOf i).toNat)
  case atStart => exact ⟨0, by omega, rfl, Below.refl _ _⟩
  case round =>
    obtain ⟨k, hk, rfl, hbel⟩ := hrel
    by_cases hlt : k < n
    · have hkx : xs[k]? = some (xs[k]'(by rw [HN.out]; exact hlt)) := List.getElem?_eq_getElem _
      obtain ⟨b, off, hao, hb, hc, _⟩ := HX.out.at hkx
      obtain ⟨b2, off2, hco, hb2, hc2, _⟩ := HY.out.at hkx
      have d0 := hc 0 (by decide)
      have d1 := hc 1 (by decide)
      have d2 := hc 2 (by decide)
      have g0 := hc2 0 (by decide)
      have g1 := hc2 1 (by decide)
      have g2 := hc2 2 (by decide)
      generalize xs[k]'(by rw [HN.out]; exact hlt) = x at d0 d1 d2 g0 g1 g2
      obtain ⟨xk, xn, xt⟩ := x
      subst hao hco
      have c0 : ∀ x' : Calm w.heap.size w, x'.1.cell? ⟨b, off + k * 3, none⟩ = some (.int .u8 xk) := fun x' => x'.cell d0 hb
      have c1 : ∀ x' : Calm w.heap.size w, x'.1.cell? ⟨b, off + k * 3 + 1, none⟩ = some (.int .i64 xn) := fun x' => x'.cell d1 hb
      have c2 : ∀ x' : Calm w.heap.size w, x'.1.cell? ⟨b, off + k * 3 + 2, none⟩ = some (.string xt) := fun x' => x'.cell d2 hb
      have c2' : ∀ x' : Calm w.heap.size w, x'.1.cell? ⟨b, off + k * 3 + 1 + 1, none⟩ = some (.string xt) := c2
      have e0 : ∀ x' : Calm w.heap.size w, x'.1.cell? ⟨b2, off2 + k * 3, none⟩ = some (.int .u8 xk) := fun x' => x'.cell g0 hb2
      have e1 : ∀ x' : Calm w.heap.size w, x'.1.cell? ⟨b2, off2 + k * 3 + 1, none⟩ = some (.int .i64 xn) := fun x' => x'.cell g1 hb2
      have e2 : ∀ x' : Calm w.heap.size w, x'.1.cell? ⟨b2, off2 + k * 3 + 2, none⟩ = some (.string xt) := fun x' => x'.cell g2 hb2
      have e2' : ∀ x' : Calm w.heap.size w, x'.1.cell? ⟨b2, off2 + k * 3 + 1 + 1, none⟩ = some (.string xt) := e2
      have hq := fun w => same_val 24 rfl xk xn xt w
      have i1 : (k : Int) < n := by omega
      clear d0 d1 d2 g0 g1 g2 hc hc2 hkx
      go_wp2_with fail
      refine wp_region_calm (B := w.heap.size) (W0 := w) hbel (by kernel_rfl) (by kernel_rfl) ?_
      repeat (go_big_quiet_step (fail))
      refine wpQuiet_nil ?_
      intro w5 hb5
      clear c0 c1 c2 e0 e1 e2 c2' e2' hq
      go_wp2_with fail
      go_roundw
      case rel => exact ⟨k + 1, by omega, by go_num, hb5⟩
      case measure => simp [intOf]; omega
    · obtain rfl : k = n := by omega
      go_wp2_with fail
      go_ret
      exact ⟨rfl, hbel⟩
theorem sameC_any (ck : Int) (text : ByteArray) (num : Int) (ao : Option Addr) (n cap : Nat) (co : Option Addr) (cap2 : Nat) (xs : List Va) (w : World) (B : Nat) (hn : xs.length = n) (hx : ValsIn w B ao xs) (hy : ValsIn w B co xs) (hB : B ≤ w.heap.size) (hl : n ≤ 4611686018427387904) :
    Calls Tryz.prog 72 #[.agg #[.int .u8 ck, .string text, .slice ao n cap, .int .i64 num], .agg #[.int .u8 ck, .string text, .slice co n cap2, .int .i64 num]] w fun e w' => e = .returned (.bool true) ∧ Below w.heap.size w w' := by
  have HX := Lib.hid hx
  have HY := Lib.hid hy
  have HN := Lib.hid hn
  clear hx hy hn
  have hb := ((Below.refl w.heap.size w).alloc (Nat.le_refl _) (.cells #[.int .u8 ck, .string text, .slice ao n cap, .int .i64 num] 30)).alloc (by simp) (.cells #[.int .u8 ck, .string text, .slice co n cap2, .int .i64 num] 30)
  have hs1 := hb.size
  have k1 : ((w.alloc (.cells #[.int .u8 ck, .string text, .slice ao n cap, .int .i64 num] 30)).alloc (.cells #[.int .u8 ck, .string text, .slice co n cap2, .int .i64 num] 30)).heap[w.heap.size]? = some (.cells #[.int .u8 ck, .string text, .slice ao n cap, .int .i64 num] 30 (0, 0)) :=
    ((World.grownBy_alloc _ _ none).block _ (by simp) (by simp)).trans (heap_alloc_new w _)
  have k2 : ((w.alloc (.cells #[.int .u8 ck, .string text, .slice ao n cap, .int .i64 num] 30)).alloc (.cells #[.int .u8 ck, .string text, .slice co n cap2, .int .i64 num] 30)).heap[w.heap.size + 1]? = some (.cells #[.int .u8 ck, .string text, .slice co n cap2, .int .i64 num] 30 (0, 0)) := by
    have := heap_alloc_new (w.alloc (.cells #[.int .u8 ck, .string text, .slice ao n cap, .int .i64 num] 30)) (.cells #[.int .u8 ck, .string text, .slice co n cap2, .int .i64 num] 30)
    simpa using this
  have K1 := Lib.hid k1
  have K2 := Lib.hid k2
  clear k1 k2
  go_enter Tryz.func72, Tryz.ntmps72
  go_wp2_with fail
  refine (sameV_any ao n cap co n cap2 xs _ B HN.out HN.out (HX.out.below noSub_kept (hb.mono hB) (Nat.le_refl _)) (HY.out.below noSub_kept (hb.mono hB) (Nat.le_refl _)) (Nat.le_trans hB hs1) hl).mono ?_
  rintro e w' ⟨rfl, hb2⟩
  have hlt1 := (Array.getElem?_eq_some_iff.1 K1.out).1
  have hlt2 := (Array.getElem?_eq_some_iff.1 K2.out).1
  have c1 : w'.cell? ⟨w.heap.size, 3, none⟩ = some (.int .i64 num) := Go.Joins.cell_of_block ((hb2.block _ hlt1).trans K1.out) 3
  have c2 : w'.cell? ⟨w.heap.size + 1, 3, none⟩ = some (.int .i64 num) := Go.Joins.cell_of_block ((hb2.block _ hlt2).trans K2.out) 3
  have hb3 := hb.trans (hb2.mono hs1)
  go_wp2_with fail
  go_ret
  exact ⟨rfl, hb3⟩
theorem sameE_any (x y : En) (w : World) (B : Nat) (hp : x.plain = y.plain) (hx : enSub w B x) (hy : enSub w B y) (hB : B ≤ w.heap.size) (hl : x.args.length ≤ 4611686018427387904) (hl2 : x.vs.length ≤ 4611686018427387904) :
    Calls Tryz.prog 42 #[enVal x, enVal y] w fun e w' => e = .returned (.bool true) ∧ Below w.heap.size w w' := by
  obtain ⟨t, k, s, q, ck, text, aao, args, acap, num, vao, vs, vcap⟩ := x
  obtain ⟨t2, k2, s2, q2, ck2, text2, aao2, args2, acap2, num2, vao2, vs2, vcap2⟩ := y
  simp only [En.plain, EnP.mk.injEq] at hp
  obtain ⟨rfl, rfl, rfl, rfl, rfl, rfl, rfl, rfl, rfl⟩ := hp
  unfold enVal
  dsimp only at hl hl2 ⊢
  have HX := Lib.hid hx
  have HY := Lib.hid hy
  clear hx hy
  obtain ⟨n, hn⟩ : ∃ n, args.length = n := ⟨_, rfl⟩
  obtain ⟨m, hm⟩ : ∃ m, vs.length = m := ⟨_, rfl⟩
  rw [hn] at hl ⊢
  rw [hm] at hl2 ⊢
  have HN := Lib.hid hn
  have HM := Lib.hid hm
  clear hn hm
  have hb := ((Below.refl w.heap.size w).alloc (Nat.le_refl _) (.cells #[.int .i64 t, .int .u8 k, .int .i64 s, .int .i64 q, .int .u8 ck, .string text, .slice aao n acap, .int .i64 num, .slice vao m vcap] 38)).alloc (by simp) (.cells #[.int .i64 t, .int .u8 k, .int .i64 s, .int .i64 q, .int .u8 ck, .string text, .slice aao2 n acap2, .int .i64 num, .slice vao2 m vcap2] 38)
  have hs1 := hb.size
  have k1 : ((w.alloc (.cells #[.int .i64 t, .int .u8 k, .int .i64 s, .int .i64 q, .int .u8 ck, .string text, .slice aao n acap, .int .i64 num, .slice vao m vcap] 38)).alloc (.cells #[.int .i64 t, .int .u8 k, .int .i64 s, .int .i64 q, .int .u8 ck, .string text, .slice aao2 n acap2, .int .i64 num, .slice vao2 m vcap2] 38)).heap[w.heap.size]? = some (.cells #[.int .i64 t, .int .u8 k, .int .i64 s, .int .i64 q, .int .u8 ck, .string text, .slice aao n acap, .int .i64 num, .slice vao m vcap] 38 (0, 0)) :=
    ((World.grownBy_alloc _ _ none).block _ (by simp) (by simp)).trans (heap_alloc_new w _)
  have k2 : ((w.alloc (.cells #[.int .i64 t, .int .u8 k, .int .i64 s, .int .i64 q, .int .u8 ck, .string text, .slice aao n acap, .int .i64 num, .slice vao m vcap] 38)).alloc (.cells #[.int .i64 t, .int .u8 k, .int .i64 s, .int .i64 q, .int .u8 ck, .string text, .slice aao2 n acap2, .int .i64 num, .slice vao2 m vcap2] 38)).heap[w.heap.size + 1]? = some (.cells #[.int .i64 t, .int .u8 k, .int .i64 s, .int .i64 q, .int .u8 ck, .string text, .slice aao2 n acap2, .int .i64 num, .slice vao2 m vcap2] 38 (0, 0)) := by
    have := heap_alloc_new (w.alloc (.cells #[.int .i64 t, .int .u8 k, .int .i64 s, .int .i64 q, .int .u8 ck, .string text, .slice aao n acap, .int .i64 num, .slice vao m vcap] 38)) (.cells #[.int .i64 t, .int .u8 k, .int .i64 s, .int .i64 q, .int .u8 ck, .string text, .slice aao2 n acap2, .int .i64 num, .slice vao2 m vcap2] 38)
    simpa using this
  have K1 := Lib.hid k1
  have K2 := Lib.hid k2
  clear k1 k2
  go_enter Tryz.func42, Tryz.ntmps42
  go_wp2_with fail
  refine (sameC_any ck text num aao n acap aao2 acap2 args _ B HN.out (HX.out.1.below noSub_kept (hb.mono hB) (Nat.le_refl _)) (HY.out.1.below noSub_kept (hb.mono hB) (Nat.le_refl _)) (Nat.le_trans hB hs1) hl).mono ?_
  rintro e w' ⟨rfl, hb2⟩
  have hlt1 := (Array.getElem?_eq_some_iff.1 K1.out).1
  have hlt2 := (Array.getElem?_eq_some_iff.1 K2.out).1
  have c1 : w'.cell? ⟨w.heap.size, 8, none⟩ = some (.slice vao m vcap) := Go.Joins.cell_of_block ((hb2.block _ hlt1).trans K1.out) 8
  have c2 : w'.cell? ⟨w.heap.size + 1, 8, none⟩ = some (.slice vao2 m vcap2) := Go.Joins.cell_of_block ((hb2.block _ hlt2).trans K2.out) 8
  have hb3 := hb.trans (hb2.mono hs1)
  have hs3 := hb3.size
  go_wp2_with fail
  refine (sameI_any vao m vcap vao2 m vcap2 vs _ B HM.out HM.out (HX.out.2.below noSub_kept (hb3.mono hB) (Nat.le_refl _)) (HY.out.2.below noSub_kept (hb3.mono hB) (Nat.le_refl _)) (Nat.le_trans hB hs3) hl2).mono ?_
  rintro e w' ⟨rfl, hb4⟩
  clear c1 c2
  go_wp2_with fail
  go_ret
  exact ⟨rfl, hb3.trans (hb4.mono hs3)⟩
/-- An entry's lists have bounded lengths. -/
def EnSmall (e : En) : Prop := e.args.length ≤ 1099511627776 ∧ e.vs.length ≤ 1099511627776
theorem sameEs_any (ao : Option Addr) (n cap : Nat) (co : Option Addr) (m cap2 : Nat) (xs ys : List En) (w : World) (B : Nat) (hn : xs.length = n) (hm : ys.length = m) (he : xs.map En.plain = ys.map En.plain) (hx : EnsIn w B ao xs) (hy : EnsIn w B co ys) (hB : B ≤ w.heap.size) (hl : n ≤ 1099511627776) (hsm : ∀ x ∈ xs, EnSmall x) :
    Calls Tryz.prog 210 #[.slice ao n cap, .slice co m cap2] w fun e w' => e = .returned (.bool true) ∧ Below w.heap.size w w' := by
  have hnm : xs.length = ys.length := by have := congrArg List.length he; simpa using this
  obtain rfl : n = m := by omega
  have HX := Lib.hid (hx.mono enSub_rising hB)
  have HY := Lib.hid (hy.mono enSub_rising hB)
  have HN := Lib.hid hn
  have HM := Lib.hid hm
  have HE := Lib.hid he
  have HS := Lib.hid hsm
  clear hx hy hn hm he hnm hsm
  go_enter Tryz.func210, Tryz.ntmps210
  go_wp2_with fail
  go_loopw [5] (fun i wr => ∃ k : Nat, k ≤ n ∧ i = .int .i64 k ∧ Below w.heap.size w wr) (fun i _ => n - (intOf i).toNat)
  case atStart => exact ⟨0, by omega, rfl, Below.refl _ _⟩
  case round =>
    obtain ⟨k, hk, rfl, hbel⟩ := hrel
    by_cases hlt : k < n
    · have hkx : xs[k]? = some (xs[k]'(by rw [HN.out]; exact hlt)) := List.getElem?_eq_getElem _
      have hky : ys[k]? = some (ys[k]'(by rw [HM.out]; exact hlt)) := List.getElem?_eq_getElem _
      have hsx := HS.out _ (List.getElem_mem (l := xs) (n := k) (by rw [HN.out]; exact hlt))
      have hp : (xs[k]'(by rw [HN.out]; exact hlt)).plain = (ys[k]'(by rw [HM.out]; exact hlt)).plain := by
        have := congrArg (fun l => l[k]?) HE.out
        simp only [List.getElem?_map, hkx, hky] at this
        simpa using this
      obtain ⟨b, off, hao, hb, hc, hcs⟩ := HX.out.at hkx
      obtain ⟨b2, off2, hco, hb2, hc2, hcs2⟩ := HY.out.at hky
      generalize xs[k]'(by rw [HN.out]; exact hlt) = x at hc hcs hp hsx
      generalize ys[k]'(by rw [HM.out]; exact hlt) = y at hc2 hcs2 hp
      have hcall : ∀ x' : Calm w.heap.size w, Calls Tryz.prog 42 #[enVal x, enVal y] x'.1 fun e w' => e = .returned (.bool true) ∧ Below x'.1.heap.size x'.1 w' := fun x' =>
        sameE_any x y x'.1 w.heap.size hp (enSub_kept _ _ _ _ _ hcs x'.2 (Nat.le_refl _)) (enSub_kept _ _ _ _ _ hcs2 x'.2 (Nat.le_refl _)) x'.2.size (by have := hsx.1; omega) (by have := hsx.2; omega)
      obtain ⟨t, kd, s, q, ck, text, aao, args, acap, num, vao, vs, vcap⟩ := x
      obtain ⟨t2, kd2, s2, q2, ck2, text2, aao2, args2, acap2, num2, vao2, vs2, vcap2⟩ := y
      simp only [En.plain, EnP.mk.injEq] at hp
      obtain ⟨rfl, rfl, rfl, rfl, rfl, rfl, rfl, rfl, rfl⟩ := hp
      unfold enVal at hcall
      dsimp only at hcall
      obtain ⟨an, han⟩ : ∃ an, args.length = an := ⟨_, rfl⟩
      obtain ⟨vn, hvn⟩ : ∃ vn, vs.length = vn := ⟨_, rfl⟩
      rw [han, hvn] at hcall
      have HC := Lib.hid hcall
      subst hao hco
      have c0 : ∀ x' : Calm w.heap.size w, x'.1.cell? ⟨b, off + k * 9, none⟩ = some (.int .i64 t) := fun x' => x'.cell (hc 0 (by decide)) hb
      have c1 : ∀ x' : Calm w.heap.size w, x'.1.cell? ⟨b, off + k * 9 + 1, none⟩ = some (.int .u8 kd) := fun x' => x'.cell (hc 1 (by decide)) hb
      have c2 : ∀ x' : Calm w.heap.size w, x'.1.cell? ⟨b, off + k * 9 + 2, none⟩ = some (.int .i64 s) := fun x' => x'.cell (hc 2 (by decide)) hb
      have c3 : ∀ x' : Calm w.heap.size w, x'.1.cell? ⟨b, off + k * 9 + 3, none⟩ = some (.int .i64 q) := fun x' => x'.cell (hc 3 (by decide)) hb
      have c4 : ∀ x' : Calm w.heap.size w, x'.1.cell? ⟨b, off + k * 9 + 4, none⟩ = some (.int .u8 ck) := fun x' => x'.cell (hc 4 (by decide)) hb
      have c5 : ∀ x' : Calm w.heap.size w, x'.1.cell? ⟨b, off + k * 9 + 5, none⟩ = some (.string text) := fun x' => x'.cell (hc 5 (by decide)) hb
      have c6 : ∀ x' : Calm w.heap.size w, x'.1.cell? ⟨b, off + k * 9 + 6, none⟩ = some (.slice aao an acap) := fun x' => x'.cell (han ▸ hc 6 (by decide)) hb
      have c7 : ∀ x' : Calm w.heap.size w, x'.1.cell? ⟨b, off + k * 9 + 7, none⟩ = some (.int .i64 num) := fun x' => x'.cell (hc 7 (by decide)) hb
      have c8 : ∀ x' : Calm w.heap.size w, x'.1.cell? ⟨b, off + k * 9 + 8, none⟩ = some (.slice vao vn vcap) := fun x' => x'.cell (hvn ▸ hc 8 (by decide)) hb
      have e0 : ∀ x' : Calm w.heap.size w, x'.1.cell? ⟨b2, off2 + k * 9, none⟩ = some (.int .i64 t) := fun x' => x'.cell (hc2 0 (by decide)) hb2
      have e1 : ∀ x' : Calm w.heap.size w, x'.1.cell? ⟨b2, off2 + k * 9 + 1, none⟩ = some (.int .u8 kd) := fun x' => x'.cell (hc2 1 (by decide)) hb2
      have e2 : ∀ x' : Calm w.heap.size w, x'.1.cell? ⟨b2, off2 + k * 9 + 2, none⟩ = some (.int .i64 s) := fun x' => x'.cell (hc2 2 (by decide)) hb2
      have e3 : ∀ x' : Calm w.heap.size w, x'.1.cell? ⟨b2, off2 + k * 9 + 3, none⟩ = some (.int .i64 q) := fun x' => x'.cell (hc2 3 (by decide)) hb2
      have e4 : ∀ x' : Calm w.heap.size w, x'.1.cell? ⟨b2, off2 + k * 9 + 4, none⟩ = some (.int .u8 ck) := fun x' => x'.cell (hc2 4 (by decide)) hb2
      have e5 : ∀ x' : Calm w.heap.size w, x'.1.cell? ⟨b2, off2 + k * 9 + 5, none⟩ = some (.string text) := fun x' => x'.cell (hc2 5 (by decide)) hb2
      have e6 : ∀ x' : Calm w.heap.size w, x'.1.cell? ⟨b2, off2 + k * 9 + 6, none⟩ = some (.slice aao2 an acap2) := fun x' => x'.cell (han ▸ hc2 6 (by decide)) hb2
      have e7 : ∀ x' : Calm w.heap.size w, x'.1.cell? ⟨b2, off2 + k * 9 + 7, none⟩ = some (.int .i64 num) := fun x' => x'.cell (hc2 7 (by decide)) hb2
      have e8 : ∀ x' : Calm w.heap.size w, x'.1.cell? ⟨b2, off2 + k * 9 + 8, none⟩ = some (.slice vao2 vn vcap2) := fun x' => x'.cell (hvn ▸ hc2 8 (by decide)) hb2
      have i1 : (k : Int) < n := by omega
      clear hc hc2 hkx hky hcs hcs2 hsx hcall han hvn
      go_wp2_with fail
      refine wp_region_calm (B := w.heap.size) (W0 := w) hbel (by kernel_rfl) (by kernel_rfl) ?_
      repeat (go_big_quiet_step ((go_at_call 42; exact Calm.call (Nat.le_refl _) (HC.out _))))
      refine wpQuiet_nil ?_
      intro w5 hb5
      clear c0 c1 c2 c3 c4 c5 c6 c7 c8 e0 e1 e2 e3 e4 e5 e6 e7 e8
      go_wp2_with fail
      go_roundw
      case rel => exact ⟨k + 1, by omega, by go_num, hb5⟩
      case measure => simp [intOf]; omega
    · obtain rfl : k = n := by omega
      go_wp2_with fail
      go_ret
      exact ⟨rfl, hbel⟩
end Go.Proofs.YtnfldkebjeigiaaGreatDoor
/- The marks of ropewalkkit/lent.go: numbers, values, entries. Conditions: the places are not too great. -/
namespace Go.Proofs.YtnfldkebjeigiaaGreatDoor
open Go.RowKit
set_option maxRecDepth 20000
def mkI (k i : Nat) : List Value := [.int .i64 (markN k i)]
theorem mkI_len (k i : Nat) : (mkI k i).length = 1 := rfl
def mkV (k i : Nat) : List Value := [.int .u8 0, .int .i64 (markN k i), .string ByteArray.empty]
theorem mkV_len (k i : Nat) : (mkV k i).length = 3 := rfl
def mkE (k i : Nat) : List Value := [.int .i64 (markN k i), .int .u8 0, .int .i64 0, .int .i64 0, .int .u8 0, .string ByteArray.empty, .slice none 0 0, .int .i64 0, .slice none 0 0]
theorem mkE_len (k i : Nat) : (mkE k i).length = 9 := rfl
theorem markI_at (a b : Int) (k i : Nat) (ha : a = k) (hb : b = i) (hk : k ≤ 1000000) (hi : i ≤ 2000000000000) (w : World) :
    Calls Tryz.prog 103 #[.int .i64 a, .int .i64 b] w fun e w' => e = .returned (.int .i64 (markN k i)) ∧ Below w.heap.size w w' :=
  (mark_at a b k i ha hb hk hi w).mono fun _ _ ⟨h1, h2⟩ => ⟨h1, h2 ▸ Below.refl _ _⟩
theorem markV_at (a b : Int) (k i : Nat) (ha : a = k) (hb : b = i) (hk : k ≤ 1000000) (hi : i ≤ 2000000000000) (w : World) :
    Calls Tryz.prog 57 #[.int .i64 a, .int .i64 b] w fun e w' => e = .returned (.agg #[.int .u8 0, .int .i64 (markN k i), .string ByteArray.empty]) ∧ Below w.heap.size w w' := by
  have hm : 0 ≤ markN k i ∧ markN k i ≤ 4000000000000 := by unfold markN; omega
  have hc := mark_at a b k i ha hb hk hi
  generalize markN k i = m at hm hc
  have HC := Lib.hid hc
  clear hc ha hb
  go_enter Tryz.func57, Tryz.ntmps57
  go_wp2_with fail
  refine (HC.out _).mono ?_
  rintro e w' ⟨rfl, rfl⟩
  go_wp2_with fail
  exact bodyPost_ret (v := .agg #[.int .u8 0, .int .i64 m, .string ByteArray.empty]) (by simp [results, Tryz.results57, go_sem]; rfl) rfl ⟨rfl, (Below.refl _ _).alloc (Nat.le_refl _) _⟩
theorem markE_at (a b : Int) (k i : Nat) (ha : a = k) (hb : b = i) (hk : k ≤ 1000000) (hi : i ≤ 2000000000000) (w : World) :
    Calls Tryz.prog 178 #[.int .i64 a, .int .i64 b] w fun e w' => e = .returned (.agg #[.int .i64 (markN k i), .int .u8 0, .int .i64 0, .int .i64 0, .int .u8 0, .string ByteArray.empty, .slice none 0 0, .int .i64 0, .slice none 0 0]) ∧ Below w.heap.size w w' := by
  have hm : 0 ≤ markN k i ∧ markN k i ≤ 4000000000000 := by unfold markN; omega
  have hc := mark_at a b k i ha hb hk hi
  generalize markN k i = m at hm hc
  have HC := Lib.hid hc
  clear hc ha hb
  go_enter Tryz.func178, Tryz.ntmps178
  go_wp2_with fail
  refine (HC.out _).mono ?_
  rintro e w' ⟨rfl, rfl⟩
  go_wp2_with fail
  exact bodyPost_ret (v := .agg #[.int .i64 m, .int .u8 0, .int .i64 0, .int .i64 0, .int .u8 0, .string ByteArray.empty, .slice none 0 0, .int .i64 0, .slice none 0 0]) (by simp [results, Tryz.results178, go_sem]; rfl) rfl ⟨rfl, (Below.refl _ _).alloc (Nat.le_refl _) _⟩
theorem markI_is (a b : Int) (k i : Nat) (m : Int) (hm : markN k i = m) (ha : a = k) (hb : b = i) (hk : k ≤ 1000000) (hi : i ≤ 2000000000000) (w : World) :
    Calls Tryz.prog 103 #[.int .i64 a, .int .i64 b] w fun e w' => e = .returned (.int .i64 m) ∧ Below w.heap.size w w' := hm ▸ markI_at a b k i ha hb hk hi w
theorem markV_is (a b : Int) (k i : Nat) (m : Int) (hm : markN k i = m) (ha : a = k) (hb : b = i) (hk : k ≤ 1000000) (hi : i ≤ 2000000000000) (w : World) :
    Calls Tryz.prog 57 #[.int .i64 a, .int .i64 b] w fun e w' => e = .returned (.agg #[.int .u8 0, .int .i64 m, .string ByteArray.empty]) ∧ Below w.heap.size w w' := hm ▸ markV_at a b k i ha hb hk hi w
theorem markE_is (a b : Int) (k i : Nat) (m : Int) (hm : markN k i = m) (ha : a = k) (hb : b = i) (hk : k ≤ 1000000) (hi : i ≤ 2000000000000) (w : World) :
    Calls Tryz.prog 178 #[.int .i64 a, .int .i64 b] w fun e w' => e = .returned (.agg #[.int .i64 m, .int .u8 0, .int .i64 0, .int .i64 0, .int .u8 0, .string ByteArray.empty, .slice none 0 0, .int .i64 0, .slice none 0 0]) ∧ Below w.heap.size w w' := hm ▸ markE_at a b k i ha hb hk hi w
/-- Equal marks are equal values. -/
theorem eql_mark (t : TypeId) (h : t = 24) (n : Int) (w : World) : (binOp .eql t (.agg #[.int .u8 0, .int .i64 n, .string ByteArray.empty]) (.agg #[.int .u8 0, .int .i64 n, .string ByteArray.empty])).run Tryz.prog w = .ok (.bool true) w := by
  subst h
  simp [go_sem, Tryz.underlying24]
/-- Equal marks are the same entries. -/
theorem sameMarkE (n : Int) (w : World) : Calls Tryz.prog 42 #[.agg #[.int .i64 n, .int .u8 0, .int .i64 0, .int .i64 0, .int .u8 0, .string ByteArray.empty, .slice none 0 0, .int .i64 0, .slice none 0 0], .agg #[.int .i64 n, .int .u8 0, .int .i64 0, .int .i64 0, .int .u8 0, .string ByteArray.empty, .slice none 0 0, .int .i64 0, .slice none 0 0]] w fun e w' => e = .returned (.bool true) ∧ Below w.heap.size w w' :=
  sameE_any ⟨n, 0, 0, 0, 0, ByteArray.empty, none, [], 0, 0, none, [], 0⟩ ⟨n, 0, 0, 0, 0, ByteArray.empty, none, [], 0, 0, none, [], 0⟩ w w.heap.size rfl ⟨Or.inl rfl, Or.inl rfl⟩ ⟨Or.inl rfl, Or.inl rfl⟩ (Nat.le_refl _) (by simp) (by simp)
end Go.Proofs.YtnfldkebjeigiaaGreatDoor
