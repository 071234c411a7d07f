/- Entries as they lie in memory; rows that are only read, and their copies. Conditions: as each says. -/
import Derived.Test.YtnhnabcpkaeaaaaGreatDoorGWalNone0
import Derived.Maps.AppendAt
import Derived.Laws.AppendOwnNone
import Derived.Deep.Strs
import Derived.Test.YtnhnabcpkaeaaaaGreatDoorRows
set_option linter.unusedVariables false
set_option linter.unusedSimpArgs false
namespace Go.Proofs.YtnhnabcpkaeaaaaGreatDoor
open Go.RowKit
set_option maxRecDepth 20000
/-- A value: its kind, its number, its text. -/
structure Va where
  kind : Int
  num : Int
  text : ByteArray
def vaCells (v : Va) : List Value := [.int .u8 v.kind, .int .i64 v.num, .string v.text]
theorem vaCells_len (v : Va) : (vaCells v).length = 3 := rfl
def iCells (x : Int) : List Value := [.int .i64 x]
theorem iCells_len (x : Int) : (iCells x).length = 1 := rfl
def noSub {α : Type} (_ : World) (_ : Nat) (_ : α) : Prop := True
theorem noSub_kept {α : Type} : Kept (noSub (α := α)) := fun _ _ _ _ _ _ _ _ => trivial
theorem noSub_rising {α : Type} : Rising (noSub (α := α)) := fun _ _ _ _ _ _ => trivial
/-- An entry: its numbers, its command's kind, text, arguments and number, its voters. -/
structure En where
  term : Int
  kind : Int
  session : Int
  seq : Int
  ck : Int
  text : ByteArray
  aao : Option Addr
  args : List Va
  acap : Nat
  num : Int
  vao : Option Addr
  vs : List Int
  vcap : Nat
def enCells (e : En) : List Value := [.int .i64 e.term, .int .u8 e.kind, .int .i64 e.session, .int .i64 e.seq, .int .u8 e.ck, .string e.text, .slice e.aao e.args.length e.acap, .int .i64 e.num, .slice e.vao e.vs.length e.vcap]
theorem enCells_len (e : En) : (enCells e).length = 9 := rfl
def ValsIn (w : World) (B : Nat) (ao : Option Addr) (xs : List Va) : Prop := RowsIn 3 vaCells noSub w B ao xs
def NumsIn (w : World) (B : Nat) (ao : Option Addr) (xs : List Int) : Prop := RowsIn 1 iCells noSub w B ao xs
def enSub (w : World) (B : Nat) (e : En) : Prop := ValsIn w B e.aao e.args ∧ NumsIn w B e.vao e.vs
def EnsIn (w : World) (B : Nat) (ao : Option Addr) (xs : List En) : Prop := RowsIn 9 enCells enSub w B ao xs
theorem enSub_kept : Kept enSub := fun _ _ _ _ _ h hb hB => ⟨h.1.below noSub_kept hb hB, h.2.below noSub_kept hb hB⟩
theorem enSub_rising : Rising enSub := fun _ _ _ _ h hB => ⟨h.1.mono noSub_rising hB, h.2.mono noSub_rising hB⟩
/-- What an entry says, wherever it lies. -/
structure EnP where
  term : Int
  kind : Int
  session : Int
  seq : Int
  ck : Int
  text : ByteArray
  args : List Va
  num : Int
  vs : List Int
def En.plain (e : En) : EnP := ⟨e.term, e.kind, e.session, e.seq, e.ck, e.text, e.args, e.num, e.vs⟩
def enVal (e : En) : Value := .agg #[.int .i64 e.term, .int .u8 e.kind, .int .i64 e.session, .int .i64 e.seq, .int .u8 e.ck, .string e.text, .slice e.aao e.args.length e.acap, .int .i64 e.num, .slice e.vao e.vs.length e.vcap]
/-- A nil slice has no room. -/
def EnNil (e : En) : Prop := (e.aao = none → e.acap = 0) ∧ (e.vao = none → e.vcap = 0)
theorem cells_of_rows {α : Type} {k : Nat} {cells : α → List Value} {sub : World → Nat → α → Prop} (hk : ∀ x, (cells x).length = k) (h0 : 0 < k) {w w1 : World} {B : Nat} {ao : Option Addr} {xs : List α} (h : RowsIn k cells sub w B ao xs) (hb : Below B w w1) {ad : Addr} (had : ao = some ad) {j : Nat} {u : Value} (hu : (xs.flatMap cells)[j]? = some u) : w1.cell? (ad.add j) = some u := by
  have hj : j < xs.length * k := by
    rcases Nat.lt_or_ge j (xs.length * k) with h | h
    · exact h
    · rw [List.getElem?_eq_none (by rw [flat_len hk]; exact h)] at hu; cases hu
  have hq : j / k < xs.length := Nat.div_lt_of_lt_mul (by rw [Nat.mul_comm]; exact hj)
  have hx : xs[j / k]? = some xs[j / k] := List.getElem?_eq_getElem hq
  obtain ⟨b, off, h1, h2, h3, _⟩ := h.at hx
  have hjk : j = j / k * k + j % k := by rw [Nat.mul_comm]; exact (Nat.div_add_mod j k).symm
  have hm : j % k < k := Nat.mod_lt _ h0
  have hf := flat_get hk xs (j / k) _ hx (j % k) hm
  rw [← hjk] at hf
  have hc := h3 (j % k) hm
  rw [h1] at had
  obtain rfl := Option.some.inj had
  rw [Go.WideShapes.add_plain, hb.cell (p := ⟨b, _, none⟩) h2]
  have e : off + j = off + j / k * k + j % k := by omega
  rw [e, hc, ← hf, hu]
/-- An append to a row of the call's own of rows that are only read. -/
theorem wpList_append_rows {α : Type} {k bytes : Nat} {cells : α → List Value} {sub : World → Nat → α → Prop} {z : Value} {T E : TypeId} {w : World} {ops : Array Oper} {rest : List Oper} {o : Oper} {a : Act} {Q : Exit → Act → World → Prop} (hT : Tryz.prog.underlying T = some (.slice E))
    (hinfo : (Tryz.prog.info? E).map (fun i => (i.zero, i.size, i.bytes)) = some (some z, k, bytes)) (hzs : z.cells.size = k) (h0 : 0 < k) (hk : ∀ x, (cells x).length = k) (hone : ∀ x, ∀ u ∈ cells x, u.oneCell' = true) (hgd : o.guard = none) (s x : Operand)
    (ho : o.op = .call { callee := .builtin .append, args := #[s, x], argTypes := #[T, T] })
    (base : Nat) (v : Value) (n : Nat) (l : List Value) (hs : a.eval s = v) (hown : w.ownsRow base E k v n l)
    (ao : Option Addr) (m cap : Nat) (xs : List α) (hm : xs.length = m) (hx : a.eval x = .slice ao m cap) (B : Nat) (hin : RowsIn k cells sub w B ao xs) (hao : ao = none → cap = 0) (hmax : n + m ≤ maxLen) (hlim : (n + m) * bytes ≤ 140737488355328) (hbase : base ≤ w.heap.size)
    (h : ∀ v' w', w'.ownsRow base E k v' (n + m) (l ++ xs.flatMap cells) → w.grownBy w' v.ownBlock → (v'.ownBlock = v.ownBlock ∨ v'.ownBlock = some w.heap.size) → wpList Tryz.prog ops Q rest (a.put o.dst v') w') : wpList Tryz.prog ops Q (o :: rest) a w := by
  obtain ⟨i0, hi, hz0, hz1, hz2⟩ := info_parts hinfo
  subst hm
  cases ao with
  | none =>
    have hnil : xs = [] := by
      rcases hin with h | ⟨b, off, h1, _⟩
      · exact h
      · cases h1
    subst hnil
    rw [hao rfl] at hx
    refine wpList_append_own_none hgd s x _ ho base E i0 k hT hi v n _ hs hown hx ?_
    exact h v w (by simpa using hown) (World.grownBy.refl _ _) (Or.inl rfl)
  | some ad =>
    refine wpList_append_own_at _ hgd s x _ ho base E i0 z k bytes hT hi hz0 hz1 hz2 hzs h0 v n _ hs hown ad xs.length cap (xs.flatMap cells) hx (flat_len hk xs) ?_ ?_ hmax hlim hbase ?_
    · intro j u hu
      exact cells_of_rows hk h0 hin (Below.refl _ _) rfl hu
    · intro u hu
      obtain ⟨y, _, hy⟩ := List.mem_flatMap.1 hu
      exact hone y u hy
    · intro v' w' h1 h2 _ h3
      exact h v' w' h1 h2 h3
/-- A copy of a row: nil for nil, a row of its own else. -/
def ClonedAs {α : Type} (E : TypeId) (k : Nat) (cells : α → List Value) (xs : List α) (n : Nat) (w : World) (e : Ending) (w' : World) : Prop :=
  ∃ a c, e = .returned (.slice a n c) ∧ w'.ownsRow w.heap.size E k (.slice a n c) n (xs.flatMap cells) ∧ Below w.heap.size w w'
theorem row_slice {w : World} {B E SZ n : Nat} {v : Value} {xs : List Value} (h : w.ownsRow B E SZ v n xs) : ∃ a c, v = .slice a n c := by
  rcases Go.Joins.ownsRow_forms h with ⟨rfl, hz⟩ | ⟨g, c, rfl⟩
  · exact ⟨none, 0, by rw [hz]⟩
  · exact ⟨_, c, rfl⟩
theorem infoVa : (Tryz.prog.info? 132).map (fun i => (i.zero, i.size, i.bytes)) = some (some (.agg #[.int .u8 0, .int .i64 0, .string ByteArray.empty]), 3, 32) := by kernel_rfl
theorem infoEn : (Tryz.prog.info? 60).map (fun i => (i.zero, i.size, i.bytes)) = some (some (.agg #[.int .i64 0, .int .u8 0, .int .i64 0, .int .i64 0, .int .u8 0, .string ByteArray.empty, .slice none 0 0, .int .i64 0, .slice none 0 0]), 9, 112) := by kernel_rfl
theorem infoI : (Tryz.prog.info? 3).map (fun i => (i.zero, i.size, i.bytes)) = some (some (.int .i64 0), 1, 8) := by kernel_rfl
theorem vaCells_one (x : Va) : ∀ u ∈ vaCells x, u.oneCell' = true := by intro u hu; simp [vaCells] at hu; rcases hu with rfl | rfl | rfl <;> rfl
theorem iCells_one (x : Int) : ∀ u ∈ iCells x, u.oneCell' = true := by intro u hu; simp [iCells] at hu; rw [hu]; rfl
theorem enCells_one (x : En) : ∀ u ∈ enCells x, u.oneCell' = true := by intro u hu; simp [enCells] at hu; rcases hu with rfl | rfl | rfl | rfl | rfl | rfl | rfl | rfl | rfl <;> rfl
theorem cloneI_any (sub : World → Nat → Int → Prop) (ao : Option Addr) (n cap : Nat) (xs : List Int) (w : World) (B : Nat) (hn : xs.length = n) (hx : RowsIn 1 iCells sub w B ao xs) (hs : Kept sub) (hB : B ≤ w.heap.size) (hao : ao = none → cap = 0) (hl : n ≤ 1099511627776) :
    Calls Tryz.prog 84 #[.slice ao n cap] w (ClonedAs 3 1 iCells xs n w) := by
  have HX := Lib.hid hx
  have HN := Lib.hid hn
  clear hx hn
  cases ao with
  | none =>
    obtain rfl := hao rfl
    have hnil : xs = [] := by
      rcases HX.out with h | ⟨b, off, h1, _⟩
      · exact h
      · cases h1
    have hn0 : n = 0 := by rw [← HN.out, hnil]; rfl
    subst hn0
    subst hnil
    have he : ∀ w, (binOp .eql 58 (.slice none 0 0) (.slice none 0 0)).run Tryz.prog w = .ok (.bool true) w := fun _ => by kernel_rfl
    go_enter Tryz.func84, Tryz.ntmps84
    go_wp2_with fail
    go_ret
    exact ⟨none, 0, rfl, World.ownsRow_nil _ _ _ _, Below.refl _ _⟩
  | some ad =>
    have he : ∀ w, (binOp .eql 58 (.slice (some ad) n cap) (.slice none 0 0)).run Tryz.prog w = .ok (.bool false) w := fun _ => by kernel_rfl
    go_enter Tryz.func84, Tryz.ntmps84
    go_wp2_with (at_builtin; refine wpList_append_rows Tryz.underlying58 infoI rfl (by decide) iCells_len iCells_one rfl (.tmp 5) (.tmp 6) rfl w.heap.size _ 0 [] rfl (World.ownsRow_lit w #[] 0 (Nat.le_refl _) (by unfold maxLen; omega) rfl) (some ad) n cap xs HN.out rfl B (HX.out.below hs ((Below.refl B w).alloc hB _) (Nat.le_refl _)) (by simp) (by unfold maxLen; omega) (by omega) (by simp) ?_)
    intro v' w' hown hg _
    have hb := ((Below.refl w.heap.size w).alloc (Nat.le_refl _) (.cells #[] 3)).grown hg (by simp) (fun k hk => by cases hk; exact Nat.le_refl _)
    have hown2 : w'.ownsRow w.heap.size 3 1 v' n (xs.flatMap iCells) := by simpa using hown
    obtain ⟨a, c, hv⟩ := row_slice hown2
    subst hv
    have HO := Lib.hid hown2
    clear hg he hown hown2
    go_wp2_with fail
    go_ret
    exact ⟨a, c, rfl, HO.out, hb⟩
theorem cloneV_any (sub : World → Nat → Va → Prop) (ao : Option Addr) (n cap : Nat) (xs : List Va) (w : World) (B : Nat) (hn : xs.length = n) (hx : RowsIn 3 vaCells sub w B ao xs) (hs : Kept sub) (hB : B ≤ w.heap.size) (hao : ao = none → cap = 0) (hl : n ≤ 1099511627776) :
    Calls Tryz.prog 85 #[.slice ao n cap] w (ClonedAs 132 3 vaCells xs n w) := by
  have HX := Lib.hid hx
  have HN := Lib.hid hn
  clear hx hn
  cases ao with
  | none =>
    obtain rfl := hao rfl
    have hnil : xs = [] := by
      rcases HX.out with h | ⟨b, off, h1, _⟩
      · exact h
      · cases h1
    have hn0 : n = 0 := by rw [← HN.out, hnil]; rfl
    subst hn0
    subst hnil
    have he : ∀ w, (binOp .eql 55 (.slice none 0 0) (.slice none 0 0)).run Tryz.prog w = .ok (.bool true) w := fun _ => by kernel_rfl
    go_enter Tryz.func85, Tryz.ntmps85
    go_wp2_with fail
    go_ret
    exact ⟨none, 0, rfl, World.ownsRow_nil _ _ _ _, Below.refl _ _⟩
  | some ad =>
    have he : ∀ w, (binOp .eql 55 (.slice (some ad) n cap) (.slice none 0 0)).run Tryz.prog w = .ok (.bool false) w := fun _ => by kernel_rfl
    go_enter Tryz.func85, Tryz.ntmps85
    go_wp2_with (at_builtin; refine wpList_append_rows Tryz.underlying55 infoVa rfl (by decide) vaCells_len vaCells_one rfl (.tmp 5) (.tmp 6) rfl w.heap.size _ 0 [] rfl (World.ownsRow_lit w #[] 0 (Nat.le_refl _) (by unfold maxLen; omega) rfl) (some ad) n cap xs HN.out rfl B (HX.out.below hs ((Below.refl B w).alloc hB _) (Nat.le_refl _)) (by simp) (by unfold maxLen; omega) (by omega) (by simp) ?_)
    intro v' w' hown hg _
    have hb := ((Below.refl w.heap.size w).alloc (Nat.le_refl _) (.cells #[] 132)).grown hg (by simp) (fun k hk => by cases hk; exact Nat.le_refl _)
    have hown2 : w'.ownsRow w.heap.size 132 3 v' n (xs.flatMap vaCells) := by simpa using hown
    obtain ⟨a, c, hv⟩ := row_slice hown2
    subst hv
    have HO := Lib.hid hown2
    clear hg he hown hown2
    go_wp2_with fail
    go_ret
    exact ⟨a, c, rfl, HO.out, hb⟩
theorem cloneE_any (sub : World → Nat → En → Prop) (ao : Option Addr) (n cap : Nat) (xs : List En) (w : World) (B : Nat) (hn : xs.length = n) (hx : RowsIn 9 enCells sub w B ao xs) (hs : Kept sub) (hB : B ≤ w.heap.size) (hao : ao = none → cap = 0) (hl : n ≤ 1099511627776) :
    Calls Tryz.prog 83 #[.slice ao n cap] w (ClonedAs 60 9 enCells xs n w) := by
  have HX := Lib.hid hx
  have HN := Lib.hid hn
  clear hx hn
  cases ao with
  | none =>
    obtain rfl := hao rfl
    have hnil : xs = [] := by
      rcases HX.out with h | ⟨b, off, h1, _⟩
      · exact h
      · cases h1
    have hn0 : n = 0 := by rw [← HN.out, hnil]; rfl
    subst hn0
    subst hnil
    have he : ∀ w, (binOp .eql 38 (.slice none 0 0) (.slice none 0 0)).run Tryz.prog w = .ok (.bool true) w := fun _ => by kernel_rfl
    go_enter Tryz.func83, Tryz.ntmps83
    go_wp2_with fail
    go_ret
    exact ⟨none, 0, rfl, World.ownsRow_nil _ _ _ _, Below.refl _ _⟩
  | some ad =>
    have he : ∀ w, (binOp .eql 38 (.slice (some ad) n cap) (.slice none 0 0)).run Tryz.prog w = .ok (.bool false) w := fun _ => by kernel_rfl
    go_enter Tryz.func83, Tryz.ntmps83
    go_wp2_with (at_builtin; refine wpList_append_rows Tryz.underlying38 infoEn rfl (by decide) enCells_len enCells_one rfl (.tmp 5) (.tmp 6) rfl w.heap.size _ 0 [] rfl (World.ownsRow_lit w #[] 0 (Nat.le_refl _) (by unfold maxLen; omega) rfl) (some ad) n cap xs HN.out rfl B (HX.out.below hs ((Below.refl B w).alloc hB _) (Nat.le_refl _)) (by simp) (by unfold maxLen; omega) (by omega) (by simp) ?_)
    intro v' w' hown hg _
    have hb := ((Below.refl w.heap.size w).alloc (Nat.le_refl _) (.cells #[] 60)).grown hg (by simp) (fun k hk => by cases hk; exact Nat.le_refl _)
    have hown2 : w'.ownsRow w.heap.size 60 9 v' n (xs.flatMap enCells) := by simpa using hown
    obtain ⟨a, c, hv⟩ := row_slice hown2
    subst hv
    have HO := Lib.hid hown2
    clear hg he hown hown2
    go_wp2_with fail
    go_ret
    exact ⟨a, c, rfl, HO.out, hb⟩
end Go.Proofs.YtnhnabcpkaeaaaaGreatDoor
/- Rows of a call's own. No program. Conditions: as each says. -/
namespace Go.Proofs.YtnhnabcpkaeaaaaGreatDoor
open Go.RowKit
theorem own_none {w : World} {base e size n m cap : Nat} {ao : Option Addr} {xs : List Value} (h : w.ownsRow base e size (.slice ao m cap) n xs) : ao = none → cap = 0 := by
  rintro rfl
  rcases h.2 with ⟨h', _⟩ | ⟨g, cap', cur, h', _⟩
  · cases h'; rfl
  · cases h'
theorem own_below {w w' : World} {base e size n B : Nat} {v : Value} {xs : List Value} (h : w.ownsRow base e size v n xs) (hb : Below B w w') (hB : w.heap.size ≤ B) : w'.ownsRow base e size v n xs := by
  refine ⟨h.1, ?_⟩
  rcases h.2 with hn | ⟨g, cap, cur, hv, h1, h2, h3⟩
  · exact Or.inl hn
  · have hg := (Array.getElem?_eq_some_iff.1 h2).1
    exact Or.inr ⟨g, cap, cur, hv, h1, by rw [hb.block g (by omega)]; exact h2, h3⟩
theorem own_apart {w : World} {b1 e1 s1 n1 b2 e2 s2 n2 : Nat} {v1 v2 : Value} {xs1 xs2 : List Value} (h1 : w.ownsRow b1 e1 s1 v1 n1 xs1) (h2 : w.ownsRow b2 e2 s2 v2 n2 xs2) (he : e1 ≠ e2) : v1.ownBlock = none ∨ v1.ownBlock ≠ v2.ownBlock := by
  rcases h1.2 with ⟨rfl, _⟩ | ⟨g, cap, cur, rfl, _, g1, _⟩
  · exact Or.inl rfl
  · right
    rcases h2.2 with ⟨rfl, _⟩ | ⟨g', cap', cur', rfl, _, g2, _⟩
    · simp [Value.ownBlock]
    · intro hh
      simp [Value.ownBlock] at hh
      subst hh
      rw [g1] at g2
      simp only [Option.some.injEq, Obj.cells.injEq] at g2
      exact he g2.2.1
theorem own_capG {w : World} {base e size n m cap : Nat} {ao : Option Addr} {xs : List Value} (h : w.ownsRow base e size (.slice ao m cap) n xs) : m ≤ cap := by
  rcases h.2 with ⟨h', _⟩ | ⟨g, cap', cur, h', _, _, h3, _⟩
  · injection h' with _ h1 _; omega
  · injection h' with _ h1 h2; subst h1 h2; exact h3
end Go.Proofs.YtnhnabcpkaeaaaaGreatDoor
/- log.copied: entries in memory of their own. Conditions: the entries' cells lie as their readings say. -/
namespace Go.Proofs.YtnhnabcpkaeaaaaGreatDoor
open Go.RowKit
set_option maxRecDepth 20000
def argV (e : En) : Value := .slice e.aao e.args.length e.acap
def votV (e : En) : Value := .slice e.vao e.vs.length e.vcap
/-- An entry's lists are the call's own. -/
def enOwn (w : World) (base : Nat) (e : En) : Prop :=
  w.ownsRow base 132 3 (argV e) e.args.length (e.args.flatMap vaCells) ∧ w.ownsRow base 3 1 (votV e) e.vs.length (e.vs.flatMap iCells)
def sepE (e f : En) : Prop := ((argV e).ownBlock = none ∨ (argV e).ownBlock ≠ (argV f).ownBlock) ∧ ((votV e).ownBlock = none ∨ (votV e).ownBlock ≠ (votV f).ownBlock)
/-- A row of entries of the call's own, their lists, too, each in a block of its own. -/
structure EnsOwn (w : World) (base : Nat) (v : Value) (es : List En) : Prop where
  row : w.ownsRow base 60 9 v es.length (es.flatMap enCells)
  own : ∀ e ∈ es, enOwn w base e
  sep : es.Pairwise sepE
theorem enOwn.below {w w' : World} {base B : Nat} {e : En} (h : enOwn w base e) (hb : Below B w w') (hB : w.heap.size ≤ B) : enOwn w' base e := ⟨own_below h.1 hb hB, own_below h.2 hb hB⟩
theorem enOwn.le {w : World} {base base' : Nat} {e : En} (h : enOwn w base e) (hB : base' ≤ base) : enOwn w base' e := ⟨Go.Joins.ownsRow_le h.1 hB, Go.Joins.ownsRow_le h.2 hB⟩
theorem EnsOwn.below {w w' : World} {base B : Nat} {v : Value} {es : List En} (h : EnsOwn w base v es) (hb : Below B w w') (hB : w.heap.size ≤ B) : EnsOwn w' base v es :=
  ⟨own_below h.row hb hB, fun e he => (h.own e he).below hb hB, h.sep⟩
theorem EnsOwn.nil (w : World) (base : Nat) : EnsOwn w base (.slice none 0 0) [] := ⟨World.ownsRow_nil _ _ _ _, by simp, List.Pairwise.nil⟩
/-- A row of the call's own, as it lies. -/
theorem own_rowsIn {α : Type} {k : Nat} {cells : α → List Value} {sub : World → Nat → α → Prop} (hk : ∀ x, (cells x).length = k) {w : World} {base e n c : Nat} {ao : Option Addr} {xs : List α} (hn : xs.length = n) (h : w.ownsRow base e k (.slice ao n c) n (xs.flatMap cells)) (hs : ∀ x ∈ xs, sub w w.heap.size x) : RowsIn k cells sub w w.heap.size ao xs := by
  subst hn
  obtain ⟨a', c', hv, hin, _⟩ := own_rows hk rfl h hs (Nat.le_refl _)
  cases hv
  exact hin
theorem enOwn.sub {w : World} {base : Nat} {e : En} (h : enOwn w base e) : enSub w w.heap.size e :=
  ⟨own_rowsIn vaCells_len rfl h.1 (fun _ _ => trivial), own_rowsIn iCells_len rfl h.2 (fun _ _ => trivial)⟩
theorem EnsOwn.lie {w : World} {base : Nat} {v : Value} {es : List En} (h : EnsOwn w base v es) : ∃ a c, v = .slice a es.length c ∧ es.length ≤ c ∧ (a = none → c = 0) ∧ EnsIn w w.heap.size a es := by
  obtain ⟨a, c, hv⟩ := row_slice h.row
  subst hv
  exact ⟨a, c, rfl, own_capG h.row, own_none h.row, own_rowsIn enCells_len rfl h.row fun e he => (h.own e he).sub⟩
theorem flat_set {α : Type} {k : Nat} {cells : α → List Value} (hk : ∀ x, (cells x).length = k) (A B : List α) (x : α) (q j : Nat) (hq : A.length = q) (hj : j < k) (u : Value) : ((A ++ x :: B).flatMap cells).set (q * k + j) u = A.flatMap cells ++ ((cells x).set j u ++ B.flatMap cells) := by
  have hA := flat_len hk A
  rw [hq] at hA
  rw [List.flatMap_append, List.flatMap_cons, List.set_append_right _ _ (by omega), hA, show q * k + j - q * k = j by omega, List.set_append_left _ _ (by rw [hk]; exact hj)]
theorem flat_set2 {A : List Value} {c B : List Value} {p j : Nat} (hA : A.length = p) (hj : j < c.length) (u : Value) : (A ++ (c ++ B)).set (p + j) u = A ++ (c.set j u ++ B) := by
  rw [List.set_append_right _ _ (by omega), show p + j - A.length = j by omega, List.set_append_left _ _ hj]
def CopiedAs (xs : List En) (n : Nat) (w : World) (e : Ending) (w' : World) : Prop :=
  ∃ a c es, e = .returned (.slice a n c) ∧ EnsOwn w' w.heap.size (.slice a n c) es ∧ es.map En.plain = xs.map En.plain ∧ Below w.heap.size w w'
end Go.Proofs.YtnhnabcpkaeaaaaGreatDoor
/- Entries among the arguments, with the bounds of what hangs on them. Conditions: they are read as the row reads them, their weights are bounded. -/
namespace Go.Proofs.YtnhnabcpkaeaaaaGreatDoor
open Go.RowKit Go.ChangeShapes
set_option maxRecDepth 20000
/-- A struct among the arguments. -/
theorem okWide_struct {P : Program} {W : World} {b0 : Nat} {t : TypeId} {fs : Array Field} {v : Value} (ht : P.underlying t = some (.struct fs)) (hv : Value.okWide P W .any b0 t v) : ∃ cs, v = .agg cs ∧ cs.size = P.cellsOf t := by
  simp only [Value.okWide, ht] at hv
  obtain ⟨cs, rfl, hsz, _⟩ := hv
  exact ⟨cs, rfl, hsz⟩
/-- A value among the arguments. -/
def VaArg (v : Va) : Prop := (Lit.int .u8 v.kind).wf = true ∧ (Lit.int .i64 v.num).wf = true ∧ v.text.size ≤ reachBytes
theorem cells_va : Tryz.prog.cellsOf 132 = 3 := by kernel_rfl
theorem cells_en : Tryz.prog.cellsOf 60 = 9 := by kernel_rfl
theorem cells_cm : Tryz.prog.cellsOf 57 = 4 := by kernel_rfl
theorem cells_i64 : Tryz.prog.cellsOf 3 = 1 := by kernel_rfl
theorem cells_int64 : Tryz.prog.cellsOf 2 = 1 := by kernel_rfl
theorem cells_str : Tryz.prog.cellsOf 9 = 1 := by kernel_rfl
theorem cells_ek : Tryz.prog.cellsOf 53 = 1 := by kernel_rfl
theorem cells_vk : Tryz.prog.cellsOf 130 = 1 := by kernel_rfl
theorem cells_ck : Tryz.prog.cellsOf 54 = 1 := by kernel_rfl
theorem cells_vas : Tryz.prog.cellsOf 55 = 1 := by kernel_rfl
theorem cells_ints : Tryz.prog.cellsOf 58 = 1 := by kernel_rfl
end Go.Proofs.YtnhnabcpkaeaaaaGreatDoor
/- Entries among the arguments, where all that is handed over is small. Conditions: they are read as the row reads them, their bulk is bounded. -/
namespace Go.Proofs.YtnhnabcpkaeaaaaGreatDoor
open Go.RowKit Go.ChangeShapes
set_option maxRecDepth 20000
/-- All that a datum holds is little. -/
def DBulk {H : Type} (d : DataW H) : Prop := Rows.uptoBulk d ≤ 1048576
theorem bulk_part {H : Type} {d : DataW H} {l : List (DataW H)} (h : d ∈ l) : Rows.uptoBulk d ≤ Rows.uptoBulkAll l := by
  induction l with
  | nil => cases h
  | cons x r ih =>
    simp only [Rows.uptoBulkAll]
    rcases List.mem_cons.1 h with e | e
    · subst e; omega
    · have := ih e; omega
theorem bulk_one {H : Type} (d : DataW H) : 1 ≤ Rows.uptoBulk d := by
  cases d with
  | lit l => cases l <;> simp [Rows.uptoBulk]
  | nil => simp [Rows.uptoBulk]
  | ptr d => simp [Rows.uptoBulk]
  | slice elems spare => simp [Rows.uptoBulk]
  | agg parts => simp [Rows.uptoBulk]
  | iface t d => simp [Rows.uptoBulk]
  | map entries => simp [Rows.uptoBulk]
  | held h => simp [Rows.uptoBulk]
theorem bulk_len {H : Type} (l : List (DataW H)) : l.length ≤ Rows.uptoBulkAll l := by
  induction l with
  | nil => simp [Rows.uptoBulkAll]
  | cons x r ih => have := bulk_one x; simp only [Rows.uptoBulkAll, List.length_cons]; omega
theorem DBulk.field {H : Type} {xs : List (DataW H × List MemPlace)} (h : DBulk (.agg (xs.map (·.1)))) {i : Nat} {y : DataW H × List MemPlace} (hy : xs[i]? = some y) : DBulk y.1 := by
  unfold DBulk at h ⊢
  have := bulk_part (List.mem_map.2 ⟨y, List.mem_of_getElem? hy, rfl⟩ : y.1 ∈ xs.map (·.1))
  simp only [Rows.uptoBulk] at h
  omega
theorem DBulk.elem {H : Type} {elems sp : List (DataW H)} (h : DBulk (.slice elems sp)) {x : DataW H} (hx : x ∈ elems) : DBulk x := by
  unfold DBulk at h ⊢
  have := bulk_part hx
  simp only [Rows.uptoBulk] at h
  omega
theorem DBulk.len {H : Type} {elems sp : List (DataW H)} (h : DBulk (.slice elems sp)) : elems.length ≤ 1048576 := by
  unfold DBulk at h
  have := bulk_len elems
  simp only [Rows.uptoBulk] at h
  omega
theorem DBulk.str {H : Type} {s : ByteArray} (h : DBulk (H := H) (.lit (.string s.data.toList))) : s.size ≤ 1048576 := by
  unfold DBulk at h
  simp only [Rows.uptoBulk] at h
  have : s.data.toList.length = s.size := by simp
  omega
/-- A slice's elements: none, or at an address, each by its cells and its own reading, with the bounds. -/
theorem slice_bulk {H : Type} {enc : TypeId × Value → H} {P : Program} {W : World} {base : Nat} {sp : Nat → Bool} {hd : Bool} {t e : TypeId} {ao : Option Addr} {len cap C : Nat} {d : DataW H} {p : List MemPlace}
    (ht : P.underlying t = some (.slice e)) (hC : P.cellsOf e = C) (hC0 : 0 < C) (h : DataW.Trod enc P W base sp hd t (.slice ao len cap) d p) (hz : DBulk d) :
    len ≤ 1048576 ∧ (len = 0 ∨ ∃ (b off n : Nat) (D : Nat → DataW H) (Pl : Nat → List MemPlace), ao = some ⟨b, off, none⟩ ∧ base ≤ b ∧ b < W.heap.size ∧
      ∀ i, i < len → DBulk (D i) ∧ ∃ cs : List Value, cs.length = C ∧ (∀ j, j < C → W.cell? ⟨b, off + i * C + j, none⟩ = cs[j]?) ∧ DataW.trod enc P W base sp hd n e cs = some (D i, Pl i)) := by
  obtain ⟨fuel, hf⟩ := h
  rcases Go.Deep.open_slice ht hf with ⟨h0, _⟩ | ⟨a, len', cap', m, n, D, Pl, h0, hb, hl, hm, hmm, hd, hx⟩
  · simp [Value.cells] at h0
    obtain ⟨rfl, rfl, rfl⟩ := h0
    exact ⟨by omega, Or.inl rfl⟩
  · simp [Value.cells] at h0
    obtain ⟨rfl, rfl, rfl⟩ := h0
    simp only [Prod.mk.injEq] at hd
    obtain ⟨rfl, _⟩ := hd
    have hlen := DBulk.len hz
    rw [List.length_map, List.length_range] at hlen
    refine ⟨hlen, ?_⟩
    by_cases hz0 : len = 0
    · exact Or.inl hz0
    · right
      have hlm : len ≤ m := by rw [hmm]; split <;> omega
      rw [hC] at hx
      obtain ⟨b, off, spot⟩ := a
      have hs : spot = none := by
        obtain ⟨cs', h1, _⟩ := hx 0 (by omega)
        have h2 := (World.cells?_some h1).2.2 0 hC0
        have h3 : cs'.length = C := (World.cells?_some h1).2.1
        rw [List.getElem?_eq_getElem (by omega)] at h2
        simpa [Addr.add] using World.cell?_spot h2
      subst hs
      refine ⟨b, off, n, D, Pl, rfl, hb, ?_, fun i hi => ⟨DBulk.elem hz (List.mem_map.2 ⟨i, List.mem_range.2 hi, rfl⟩), ?_⟩⟩
      · obtain ⟨cs', h1, _⟩ := hx 0 (by omega)
        have h2 := World.cells?_block h1 hC0
        simpa [Addr.add] using h2
      · obtain ⟨cs', h1, h2⟩ := hx i (by omega)
        obtain ⟨_, h3, h4⟩ := World.cells?_some h1
        refine ⟨cs', h3, fun j hj => ?_, h2⟩
        have := h4 j hj
        rw [Go.Deep.add_add, Go.WideShapes.add_plain] at this
        rw [← this, Nat.add_assoc]
/-- A slice among the arguments, whose things are read one by one, with the bounds. -/
theorem open_bulk {α : Type} {k : Nat} {cells : α → List Value} {sub : World → Nat → α → Prop} {H : Type} {enc : TypeId × Value → H} {P : Program} {W : World} {sp : Nat → Bool} {hd : Bool} {t e : TypeId} {ao : Option Addr} {len cap : Nat} {d : DataW H} {p : List MemPlace} (Q : α → Prop)
    (ht : P.underlying t = some (.slice e)) (hC : P.cellsOf e = k) (hk : 0 < k)
    (hel : ∀ (cs : List Value) (n : Nat) (y : DataW H) (pl : List MemPlace), cs.length = k → DataW.trod enc P W 0 sp hd n e cs = some (y, pl) → DBulk y → ∃ x : α, cells x = cs ∧ sub W W.heap.size x ∧ Q x)
    (h : DataW.Trod enc P W 0 sp hd t (.slice ao len cap) d p) (hz : DBulk d) :
    ∃ xs : List α, xs.length = len ∧ RowsIn k cells sub W W.heap.size ao xs ∧ (∀ x ∈ xs, Q x) ∧ (ao = none → cap = 0) ∧ len ≤ cap ∧ len ≤ 1048576 := by
  obtain ⟨h1, h2, h3⟩ := slice_shape ht h
  obtain ⟨hm, h0 | ⟨b, off, n, D, Pl, e1, _, hb, hx⟩⟩ := slice_bulk ht hC hk h hz
  · exact ⟨[], h0.symm, Or.inl rfl, (by intro x hx; cases hx), h3, h1, hm⟩
  · have hne : ∀ i, i < len → ∃ x : α, (∀ j, j < k → W.cell? ⟨b, off + i * k + j, none⟩ = (cells x)[j]?) ∧ sub W W.heap.size x ∧ Q x := by
      intro i hi
      obtain ⟨hzi, cs, hl, hc, ht'⟩ := hx i hi
      obtain ⟨x, rfl, hs, hq⟩ := hel cs n _ _ hl ht' hzi
      exact ⟨x, hc, hs, hq⟩
    have key : ∀ m, m ≤ len → ∃ xs : List α, xs.length = m ∧ (∀ x ∈ xs, Q x) ∧ ∀ (i : Nat) (x : α), xs[i]? = some x → (∀ j, j < k → W.cell? ⟨b, off + i * k + j, none⟩ = (cells x)[j]?) ∧ sub W W.heap.size x := by
      intro m
      induction m with
      | zero => intro _; exact ⟨[], rfl, (by intro x hx; cases hx), (by intro i x hx; simp at hx)⟩
      | succ m ih =>
        intro hm'
        obtain ⟨xs, e1, e2, e3⟩ := ih (by omega)
        obtain ⟨x, g1, g2, g3⟩ := hne m (by omega)
        refine ⟨xs ++ [x], by simp [e1], fun y hy => ?_, fun i y hy => ?_⟩
        · rcases List.mem_append.1 hy with hy | hy
          · exact e2 y hy
          · rw [List.mem_singleton.1 hy]; exact g3
        · by_cases hi : i < m
          · rw [List.getElem?_append_left (by omega)] at hy; exact e3 i y hy
          · rw [List.getElem?_append_right (by omega)] at hy
            have hi' : i = m := by
              rcases Nat.lt_or_ge (i - xs.length) 1 with hh | hh
              · omega
              · rw [List.getElem?_eq_none (by simpa using hh)] at hy; cases hy
            subst hi'
            rw [e1, Nat.sub_self] at hy
            obtain rfl : x = y := by simpa using hy
            exact ⟨g1, g2⟩
    obtain ⟨xs, q1, q2, q3⟩ := key len (Nat.le_refl _)
    exact ⟨xs, q1, Or.inr ⟨b, off, e1, hb, q3⟩, q2, h3, h1, hm⟩
/-- A value among the arguments. -/
def VaArgU (v : Va) : Prop := (Lit.int .u8 v.kind).wf = true ∧ (Lit.int .i64 v.num).wf = true ∧ v.text.size ≤ 1048576
theorem va_elU {H : Type} {enc : TypeId × Value → H} {W : World} {sp : Nat → Bool} {hd : Bool} (cs : List Value) (n : Nat) (y : DataW H) (pl : List MemPlace) (hl : cs.length = 3) (h : DataW.trod enc Tryz.prog W 0 sp hd n 132 cs = some (y, pl)) (hz : DBulk y) :
    ∃ x : Va, vaCells x = cs ∧ noSub W W.heap.size x ∧ VaArgU x := by
  obtain ⟨c0, c1, c2, rfl⟩ : ∃ c0 c1 c2, cs = [c0, c1, c2] := by
    match cs, hl with
    | [c0, c1, c2], _ => exact ⟨c0, c1, c2, rfl⟩
  obtain ⟨xs, m, _, hx, _, hlen, hf⟩ := DataW.trod_struct Tryz.underlying132 h
  simp only [Prod.mk.injEq] at hx
  obtain ⟨rfl, _⟩ := hx
  match xs, hlen with
  | [y0, y1, y2], _ =>
    have h0 := hf 0 _ rfl
    have h1 := hf 1 _ rfl
    have h2 := hf 2 _ rfl
    simp [cells_vk, cells_int64, cells_str] at h0 h1 h2
    obtain ⟨k0, e0, _, w0⟩ := DataW.trod_int Tryz.underlying130 h0
    obtain ⟨k1, e1, _, w1⟩ := DataW.trod_int Tryz.underlying2 h1
    obtain ⟨s, e2, d2, _⟩ := DataW.trod_string Tryz.underlying9 h2
    have z2 := DBulk.field hz (i := 2) (y := y2) rfl
    rw [d2] at z2
    simp at e0 e1 e2
    subst e0 e1 e2
    exact ⟨⟨k0, k1, s⟩, rfl, trivial, w0, w1, DBulk.str z2⟩
theorem i_elU {H : Type} {enc : TypeId × Value → H} {W : World} {sp : Nat → Bool} {hd : Bool} (cs : List Value) (n : Nat) (y : DataW H) (pl : List MemPlace) (hl : cs.length = 1) (h : DataW.trod enc Tryz.prog W 0 sp hd n 3 cs = some (y, pl)) (_ : DBulk y) :
    ∃ x : Int, iCells x = cs ∧ noSub W W.heap.size x ∧ (Lit.int .i64 x).wf = true := by
  obtain ⟨k0, e0, _, w0⟩ := DataW.trod_int Tryz.underlying3 h
  exact ⟨k0, e0.symm, trivial, w0⟩
/-- An entry among the arguments. -/
structure EnWfU (e : En) : Prop where
  term : (Lit.int .i64 e.term).wf = true
  kind : (Lit.int .u8 e.kind).wf = true
  session : (Lit.int .i64 e.session).wf = true
  seq : (Lit.int .i64 e.seq).wf = true
  ck : (Lit.int .u8 e.ck).wf = true
  text : e.text.size ≤ 1048576
  args : ∀ v ∈ e.args, VaArgU v
  num : (Lit.int .i64 e.num).wf = true
  vs : ∀ v ∈ e.vs, (Lit.int .i64 v).wf = true
  argn : e.args.length ≤ 1048576
  vn : e.vs.length ≤ 1048576
  anil : e.aao = none → e.acap = 0
  vnil : e.vao = none → e.vcap = 0
  acap : e.args.length ≤ e.acap
  vcap : e.vs.length ≤ e.vcap
theorem en_elU {H : Type} {enc : TypeId × Value → H} {W : World} {sp : Nat → Bool} {hd : Bool} (cs : List Value) (n : Nat) (y : DataW H) (pl : List MemPlace) (hl : cs.length = 9) (h : DataW.trod enc Tryz.prog W 0 sp hd n 60 cs = some (y, pl)) (hz : DBulk y) :
    ∃ x : En, enCells x = cs ∧ enSub W W.heap.size x ∧ EnWfU x := by
  obtain ⟨c0, c1, c2, c3, c4, c5, c6, c7, c8, rfl⟩ : ∃ c0 c1 c2 c3 c4 c5 c6 c7 c8, cs = [c0, c1, c2, c3, c4, c5, c6, c7, c8] := by
    match cs, hl with
    | [c0, c1, c2, c3, c4, c5, c6, c7, c8], _ => exact ⟨c0, c1, c2, c3, c4, c5, c6, c7, c8, rfl⟩
  obtain ⟨xs, m, _, hx, _, hlen, hf⟩ := DataW.trod_struct Tryz.underlying60 h
  simp only [Prod.mk.injEq] at hx
  obtain ⟨rfl, _⟩ := hx
  match xs, hlen with
  | [y0, y1, y2, y3, y4, y5], _ =>
    have h0 := hf 0 _ rfl
    have h1 := hf 1 _ rfl
    have h2 := hf 2 _ rfl
    have h3 := hf 3 _ rfl
    have h4 := hf 4 _ rfl
    have h5 := hf 5 _ rfl
    have z4 := DBulk.field hz (i := 4) (y := y4) rfl
    have z5 := DBulk.field hz (i := 5) (y := y5) rfl
    simp [cells_i64, cells_ek, cells_cm, cells_ints] at h0 h1 h2 h3 h4 h5
    obtain ⟨k0, e0, _, w0⟩ := DataW.trod_int Tryz.underlying3 h0
    obtain ⟨k1, e1, _, w1⟩ := DataW.trod_int Tryz.underlying53 h1
    obtain ⟨k2, e2, _, w2⟩ := DataW.trod_int Tryz.underlying3 h2
    obtain ⟨k3, e3, _, w3⟩ := DataW.trod_int Tryz.underlying3 h3
    obtain ⟨va, vl, vc, e5, t5⟩ := slice_cell Tryz.underlying58 h5
    obtain ⟨vs, rfl, vx, vq, vnil, vcap, vlen⟩ := open_bulk (k := 1) (cells := iCells) (sub := noSub) (fun x => (Lit.int .i64 x).wf = true) Tryz.underlying58 cells_i64 (by decide) i_elU t5 z5
    obtain ⟨ys, m4, _, hy, _, hlen4, hf4⟩ := DataW.trod_struct Tryz.underlying57 h4
    obtain ⟨d4, p4⟩ := y4
    simp only [Prod.mk.injEq] at hy
    obtain ⟨rfl, _⟩ := hy
    match ys, hlen4 with
    | [u0, u1, u2, u3], _ =>
      have g0 := hf4 0 _ rfl
      have g1 := hf4 1 _ rfl
      have g2 := hf4 2 _ rfl
      have g3 := hf4 3 _ rfl
      have q1 := DBulk.field z4 (i := 1) (y := u1) rfl
      have q2 := DBulk.field z4 (i := 2) (y := u2) rfl
      simp [cells_i64, cells_ck, cells_str, cells_vas] at g0 g1 g2 g3
      obtain ⟨k4, e4, _, w4⟩ := DataW.trod_int Tryz.underlying54 g0
      obtain ⟨s, e6, d6, _⟩ := DataW.trod_string Tryz.underlying9 g1
      obtain ⟨aa, al, ac, e7, t7⟩ := slice_cell Tryz.underlying55 g2
      obtain ⟨args, rfl, ax, aq, anil, acap, alen⟩ := open_bulk (k := 3) (cells := vaCells) (sub := noSub) VaArgU Tryz.underlying55 cells_va (by decide) va_elU t7 q2
      obtain ⟨k8, e8, _, w8⟩ := DataW.trod_int Tryz.underlying3 g3
      rw [d6] at q1
      simp at e0 e1 e2 e3 e4 e5 e6 e7 e8
      subst e0 e1 e2 e3 e4 e5 e6 e7 e8
      exact ⟨⟨k0, k1, k2, k3, k4, s, aa, args, ac, k8, va, vs, vc⟩, rfl, ⟨ax, vx⟩, ⟨w0, w1, w2, w3, w4, DBulk.str q1, aq, w8, vq, alen, vlen, anil, vnil, acap, vcap⟩⟩
/-- Entries among the arguments. -/
theorem open_entriesU {H : Type} {enc : TypeId × Value → H} {W : World} {sp : Nat → Bool} {hd : Bool} {ao : Option Addr} {len cap : Nat} {d : DataW H} {p : List MemPlace} (h : DataW.Trod enc Tryz.prog W 0 sp hd 38 (.slice ao len cap) d p) (hz : DBulk d) :
    ∃ es : List En, es.length = len ∧ EnsIn W W.heap.size ao es ∧ (∀ e ∈ es, EnWfU e) ∧ (ao = none → cap = 0) ∧ len ≤ cap ∧ len ≤ 1048576 := by
  obtain ⟨es, h1, h2, h3, h4, h5, h6⟩ := open_bulk (k := 9) (cells := enCells) (sub := enSub) EnWfU Tryz.underlying38 cells_en (by decide) en_elU h hz
  exact ⟨es, h1, h2, h3, h4, h5, h6⟩
/-- A deed: its kind, index, term, whether the term is the one there, its entries. -/
structure De where
  kind : Int
  index : Int
  term : Int
  same : Bool
  eo : Option Addr
  ents : List En
  ec : Nat
def deCells (d : De) : List Value := [.int .i64 d.kind, .int .i64 d.index, .int .i64 d.term, .bool d.same, .slice d.eo d.ents.length d.ec]
def deSub (w : World) (B : Nat) (d : De) : Prop := EnsIn w B d.eo d.ents
structure DeWf (d : De) : Prop where
  kind : (Lit.int .i64 d.kind).wf = true
  index : (Lit.int .i64 d.index).wf = true
  term : (Lit.int .i64 d.term).wf = true
  ents : ∀ e ∈ d.ents, EnWfU e
  nil : d.eo = none → d.ec = 0
  cap : d.ents.length ≤ d.ec
  len : d.ents.length ≤ 1048576
theorem cells_de : Tryz.prog.cellsOf 40 = 5 := by kernel_rfl
theorem cells_boolO : Tryz.prog.cellsOf 4 = 1 := by kernel_rfl
theorem cells_ensO : Tryz.prog.cellsOf 38 = 1 := by kernel_rfl
theorem de_el {H : Type} {enc : TypeId × Value → H} {W : World} {sp : Nat → Bool} {hd : Bool} (cs : List Value) (n : Nat) (y : DataW H) (pl : List MemPlace) (hl : cs.length = 5) (h : DataW.trod enc Tryz.prog W 0 sp hd n 40 cs = some (y, pl)) (hz : DBulk y) :
    ∃ d : De, deCells d = cs ∧ deSub W W.heap.size d ∧ DeWf d := by
  obtain ⟨c0, c1, c2, c3, c4, rfl⟩ : ∃ c0 c1 c2 c3 c4, cs = [c0, c1, c2, c3, c4] := by
    match cs, hl with
    | [c0, c1, c2, c3, c4], _ => exact ⟨c0, c1, c2, c3, c4, rfl⟩
  obtain ⟨xs, m, _, hx, _, hlen, hf⟩ := DataW.trod_struct Tryz.underlying40 h
  simp only [Prod.mk.injEq] at hx
  obtain ⟨rfl, _⟩ := hx
  match xs, hlen with
  | [y0, y1, y2, y3, y4], _ =>
    have h0 := hf 0 _ rfl
    have h1 := hf 1 _ rfl
    have h2 := hf 2 _ rfl
    have h3 := hf 3 _ rfl
    have h4 := hf 4 _ rfl
    have z4 := DBulk.field hz (i := 4) (y := y4) rfl
    simp [cells_i64, cells_boolO, cells_ensO] at h0 h1 h2 h3 h4
    obtain ⟨k0, e0, _, w0⟩ := DataW.trod_int Tryz.underlying3 h0
    obtain ⟨k1, e1, _, w1⟩ := DataW.trod_int Tryz.underlying3 h1
    obtain ⟨k2, e2, _, w2⟩ := DataW.trod_int Tryz.underlying3 h2
    obtain ⟨k3, e3, _⟩ := DataW.trod_bool Tryz.underlying4 h3
    obtain ⟨va, vl, vc, e4, t4⟩ := slice_cell Tryz.underlying38 h4
    obtain ⟨es, n1, x1, wf1, nil1, c1', z1⟩ := open_entriesU t4 z4
    simp at e0 e1 e2 e3 e4
    subst e0 e1 e2 e3 e4
    subst n1
    exact ⟨⟨k0, k1, k2, k3, va, es, vc⟩, rfl, x1, ⟨w0, w1, w2, wf1, nil1, c1', z1⟩⟩
end Go.Proofs.YtnhnabcpkaeaaaaGreatDoor
/- The forms of wire as bytes: plain definitions and laws. No program. Conditions: as each says. -/
namespace Go.Proofs.YtnhnabcpkaeaaaaGreatDoor
/-- A number in so many bytes, the greatest first. -/
def numB (size : Nat) (n : Int) : List Int := (List.range size).map fun j => n / 2 ^ (8 * (size - 1 - j)) % 256
theorem numB_len (size : Nat) (n : Int) : (numB size n).length = size := by simp [numB]
theorem numB_take (size : Nat) (n : Int) (k : Nat) (hk : k < size) : (numB size n).take (k + 1) = (numB size n).take k ++ [n / 2 ^ (8 * (size - 1 - k)) % 256] := by
  rw [List.take_succ_eq_append_getElem (by rw [numB_len]; exact hk)]
  simp [numB]
theorem numB_wf (size : Nat) (n : Int) : BytesWf (numB size n) := fun x hx => by
  obtain ⟨j, _, rfl⟩ := List.mem_map.1 hx
  omega
/-- A text's bytes, as numbers. -/
def strB (s : ByteArray) : List Int := s.data.toList.map fun c => (c.toNat : Int)
theorem strB_len (s : ByteArray) : (strB s).length = s.size := by simp [strB]
theorem strB_wf (s : ByteArray) : BytesWf (strB s) := fun x hx => by
  obtain ⟨c, _, rfl⟩ := List.mem_map.1 hx
  have := UInt8.toNat_lt c
  omega
def textB (s : ByteArray) : List Int := numB 4 s.size ++ strB s
def valueB (v : Va) : List Int := v.kind :: (if v.kind = 1 then numB 8 v.num else if v.kind = 2 then textB v.text else [])
def valuesB (vs : List Va) : List Int := numB 4 vs.length ++ vs.flatMap valueB
def commandB (ck : Int) (text : ByteArray) (num : Int) (args : List Va) : List Int := ck :: (textB text ++ (numB 8 num ++ valuesB args))
def entryB (e : EnP) : List Int := numB 8 e.term ++ (e.kind :: (numB 8 e.session ++ (numB 8 e.seq ++ (commandB e.ck e.text e.num e.args ++ (numB 4 e.vs.length ++ e.vs.flatMap (numB 8))))))
theorem textB_len (s : ByteArray) : (textB s).length = 4 + s.size := by rw [textB, List.length_append, numB_len, strB_len]
theorem valueB_len (v : Va) : (valueB v).length ≤ 9 + v.text.size := by
  unfold valueB
  rw [List.length_cons]
  split
  · rw [numB_len]; omega
  · split
    · rw [textB_len]; omega
    · simp; omega
theorem valueB_pos (v : Va) : 1 ≤ (valueB v).length := by unfold valueB; rw [List.length_cons]; omega
/-- The number that bytes say. -/
def getN (l : List Int) : Int := l.foldl (fun n c => n * 256 + c) 0
theorem getN_snoc (l : List Int) (c : Int) : getN (l ++ [c]) = getN l * 256 + c := by simp [getN]
theorem getN_numB (size : Nat) (n : Int) : getN (numB size n) = n % 256 ^ size := by
  have key : ∀ k, k ≤ size → getN ((numB size n).take k) = n / 2 ^ (8 * (size - k)) % 256 ^ k := by
    intro k
    induction k with
    | zero => intro _; simp [getN, Int.emod_one]
    | succ k ih =>
      intro hk
      rw [numB_take size n k hk, getN_snoc, ih (by omega)]
      have e1 : size - k = (size - (k + 1)) + 1 := by omega
      have e2 : size - 1 - k = size - (k + 1) := by omega
      rw [e1, e2]
      obtain ⟨m, hm⟩ : ∃ m, m = n / 2 ^ (8 * (size - (k + 1))) := ⟨_, rfl⟩
      have e3 : n / 2 ^ (8 * (size - (k + 1) + 1)) = m / 256 := by
        rw [hm, Int.ediv_ediv_of_nonneg (Int.le_of_lt (Int.pow_pos (by decide)))]
        congr 1
        rw [Nat.mul_add, Int.pow_add]
        rfl
      rw [e3, ← hm, Int.pow_succ]
      have hp : (0 : Int) < 256 ^ k := Int.pow_pos (by decide)
      generalize (256 : Int) ^ k = p at hp
      have h1 := Int.mul_ediv_add_emod m 256
      have h2 := Int.mul_ediv_add_emod (m / 256) p
      have h4 := Int.emod_nonneg (m / 256) (show p ≠ 0 by omega)
      have h5 := Int.emod_lt_of_pos (m / 256) hp
      have h6 := Int.emod_nonneg m (show (256 : Int) ≠ 0 by decide)
      have h7 := Int.emod_lt_of_pos m (show (0 : Int) < 256 by decide)
      have e : m = (m / 256 % p * 256 + m % 256) + (p * 256) * (m / 256 / p) := by
        have : p * 256 * (m / 256 / p) = 256 * (p * (m / 256 / p)) := by rw [Int.mul_comm p 256, Int.mul_assoc]
        rw [this]
        omega
      have hlt : m / 256 % p * 256 + m % 256 < p * 256 := by
        have : m / 256 % p * 256 ≤ (p - 1) * 256 := Int.mul_le_mul_of_nonneg_right (by omega) (by decide)
        have e9 : (p - 1) * 256 = p * 256 - 256 := by rw [Int.sub_mul]; omega
        omega
      have hge : 0 ≤ m / 256 % p * 256 + m % 256 := by
        have := Int.mul_nonneg h4 (show (0 : Int) ≤ 256 by decide)
        omega
      have := Int.add_mul_emod_self_left (m / 256 % p * 256 + m % 256) (p * 256) (m / 256 / p)
      rw [← e, Int.emod_eq_of_lt hge hlt] at this
      exact this.symm
  have := key size (Nat.le_refl _)
  rw [List.take_of_length_le (by rw [numB_len]; exact Nat.le_refl _), Nat.sub_self] at this
  simpa using this
theorem getN_bound (l : List Int) (h : BytesWf l) : 0 ≤ getN l ∧ getN l < 256 ^ l.length := by
  have key : ∀ r : List Int, BytesWf r.reverse → 0 ≤ getN r.reverse ∧ getN r.reverse < 256 ^ r.length := by
    intro r
    induction r with
    | nil => intro _; simp [getN]
    | cons c r ih =>
      intro hw
      rw [List.reverse_cons] at hw ⊢
      have h1 := ih (fun x hx => hw x (List.mem_append_left _ hx))
      have h2 := hw c (by simp)
      rw [getN_snoc, List.length_cons, Int.pow_succ]
      generalize (256 : Int) ^ r.length = p at h1
      generalize getN r.reverse = g at h1
      constructor
      · have := Int.mul_nonneg h1.1 (show (0 : Int) ≤ 256 by decide); omega
      · have : g * 256 ≤ (p - 1) * 256 := Int.mul_le_mul_of_nonneg_right (by omega) (by decide)
        have e9 : (p - 1) * 256 = p * 256 - 256 := by rw [Int.sub_mul]; omega
        omega
  have := key l.reverse (by rwa [List.reverse_reverse])
  rwa [List.reverse_reverse, List.length_reverse] at this
end Go.Proofs.YtnhnabcpkaeaaaaGreatDoor
/- LentBytes, KeptBytes: a row of bytes is copied with marks behind its end; as long as nobody writes there, it is found as it was. Conditions: the row has less than 2 to the 40 bytes. -/
namespace Go.Proofs.YtnhnabcpkaeaaaaGreatDoor
open Go.RowKit
set_option maxRecDepth 20000
end Go.Proofs.YtnhnabcpkaeaaaaGreatDoor
