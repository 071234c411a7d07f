/- Entries as they lie in memory; rows that are only read, and their copies. Conditions: as each says. -/
import Derived.Test.YtnhnabcpkaeaaaaGreatDoorGWalReads0
import Derived.Maps.AppendAt
import Derived.Laws.AppendOwnNone
import Derived.Deep.Strs
import Derived.StillTailTactics
set_option linter.unusedVariables false
set_option linter.unusedSimpArgs false
namespace Go.Proofs.YtnhnabcpkaeaaaaGreatDoor
open Go.RowKit
set_option maxRecDepth 20000
/-- A value: its kind, its number, its text. -/
structure Va where
  kind : Int
  num : Int
  text : ByteArray
def vaCells (v : Va) : List Value := [.int .u8 v.kind, .int .i64 v.num, .string v.text]
theorem vaCells_len (v : Va) : (vaCells v).length = 3 := rfl
def iCells (x : Int) : List Value := [.int .i64 x]
theorem iCells_len (x : Int) : (iCells x).length = 1 := rfl
def noSub {α : Type} (_ : World) (_ : Nat) (_ : α) : Prop := True
theorem noSub_kept {α : Type} : Kept (noSub (α := α)) := fun _ _ _ _ _ _ _ _ => trivial
theorem noSub_rising {α : Type} : Rising (noSub (α := α)) := fun _ _ _ _ _ _ => trivial
/-- An entry: its numbers, its command's kind, text, arguments and number, its voters. -/
structure En where
  term : Int
  kind : Int
  session : Int
  seq : Int
  ck : Int
  text : ByteArray
  aao : Option Addr
  args : List Va
  acap : Nat
  num : Int
  vao : Option Addr
  vs : List Int
  vcap : Nat
def enCells (e : En) : List Value := [.int .i64 e.term, .int .u8 e.kind, .int .i64 e.session, .int .i64 e.seq, .int .u8 e.ck, .string e.text, .slice e.aao e.args.length e.acap, .int .i64 e.num, .slice e.vao e.vs.length e.vcap]
theorem enCells_len (e : En) : (enCells e).length = 9 := rfl
def ValsIn (w : World) (B : Nat) (ao : Option Addr) (xs : List Va) : Prop := RowsIn 3 vaCells noSub w B ao xs
def NumsIn (w : World) (B : Nat) (ao : Option Addr) (xs : List Int) : Prop := RowsIn 1 iCells noSub w B ao xs
def enSub (w : World) (B : Nat) (e : En) : Prop := ValsIn w B e.aao e.args ∧ NumsIn w B e.vao e.vs
def EnsIn (w : World) (B : Nat) (ao : Option Addr) (xs : List En) : Prop := RowsIn 9 enCells enSub w B ao xs
theorem enSub_kept : Kept enSub := fun _ _ _ _ _ h hb hB => ⟨h.1.below noSub_kept hb hB, h.2.below noSub_kept hb hB⟩
theorem enSub_rising : Rising enSub := fun _ _ _ _ h hB => ⟨h.1.mono noSub_rising hB, h.2.mono noSub_rising hB⟩
/-- What an entry says, wherever it lies. -/
structure EnP where
  term : Int
  kind : Int
  session : Int
  seq : Int
  ck : Int
  text : ByteArray
  args : List Va
  num : Int
  vs : List Int
def En.plain (e : En) : EnP := ⟨e.term, e.kind, e.session, e.seq, e.ck, e.text, e.args, e.num, e.vs⟩
def enVal (e : En) : Value := .agg #[.int .i64 e.term, .int .u8 e.kind, .int .i64 e.session, .int .i64 e.seq, .int .u8 e.ck, .string e.text, .slice e.aao e.args.length e.acap, .int .i64 e.num, .slice e.vao e.vs.length e.vcap]
/-- A nil slice has no room. -/
def EnNil (e : En) : Prop := (e.aao = none → e.acap = 0) ∧ (e.vao = none → e.vcap = 0)
theorem cells_of_rows {α : Type} {k : Nat} {cells : α → List Value} {sub : World → Nat → α → Prop} (hk : ∀ x, (cells x).length = k) (h0 : 0 < k) {w w1 : World} {B : Nat} {ao : Option Addr} {xs : List α} (h : RowsIn k cells sub w B ao xs) (hb : Below B w w1) {ad : Addr} (had : ao = some ad) {j : Nat} {u : Value} (hu : (xs.flatMap cells)[j]? = some u) : w1.cell? (ad.add j) = some u := by
  have hj : j < xs.length * k := by
    rcases Nat.lt_or_ge j (xs.length * k) with h | h
    · exact h
    · rw [List.getElem?_eq_none (by rw [flat_len hk]; exact h)] at hu; cases hu
  have hq : j / k < xs.length := Nat.div_lt_of_lt_mul (by rw [Nat.mul_comm]; exact hj)
  have hx : xs[j / k]? = some xs[j / k] := List.getElem?_eq_getElem hq
  obtain ⟨b, off, h1, h2, h3, _⟩ := h.at hx
  have hjk : j = j / k * k + j % k := by rw [Nat.mul_comm]; exact (Nat.div_add_mod j k).symm
  have hm : j % k < k := Nat.mod_lt _ h0
  have hf := flat_get hk xs (j / k) _ hx (j % k) hm
  rw [← hjk] at hf
  have hc := h3 (j % k) hm
  rw [h1] at had
  obtain rfl := Option.some.inj had
  rw [Go.WideShapes.add_plain, hb.cell (p := ⟨b, _, none⟩) h2]
  have e : off + j = off + j / k * k + j % k := by omega
  rw [e, hc, ← hf, hu]
/-- An append to a row of the call's own of rows that are only read. -/
theorem wpList_append_rows {α : Type} {k bytes : Nat} {cells : α → List Value} {sub : World → Nat → α → Prop} {z : Value} {T E : TypeId} {w : World} {ops : Array Oper} {rest : List Oper} {o : Oper} {a : Act} {Q : Exit → Act → World → Prop} (hT : Tryz.prog.underlying T = some (.slice E))
    (hinfo : (Tryz.prog.info? E).map (fun i => (i.zero, i.size, i.bytes)) = some (some z, k, bytes)) (hzs : z.cells.size = k) (h0 : 0 < k) (hk : ∀ x, (cells x).length = k) (hone : ∀ x, ∀ u ∈ cells x, u.oneCell' = true) (hgd : o.guard = none) (s x : Operand)
    (ho : o.op = .call { callee := .builtin .append, args := #[s, x], argTypes := #[T, T] })
    (base : Nat) (v : Value) (n : Nat) (l : List Value) (hs : a.eval s = v) (hown : w.ownsRow base E k v n l)
    (ao : Option Addr) (m cap : Nat) (xs : List α) (hm : xs.length = m) (hx : a.eval x = .slice ao m cap) (B : Nat) (hin : RowsIn k cells sub w B ao xs) (hao : ao = none → cap = 0) (hmax : n + m ≤ maxLen) (hlim : (n + m) * bytes ≤ 140737488355328) (hbase : base ≤ w.heap.size)
    (h : ∀ v' w', w'.ownsRow base E k v' (n + m) (l ++ xs.flatMap cells) → w.grownBy w' v.ownBlock → (v'.ownBlock = v.ownBlock ∨ v'.ownBlock = some w.heap.size) → wpList Tryz.prog ops Q rest (a.put o.dst v') w') : wpList Tryz.prog ops Q (o :: rest) a w := by
  obtain ⟨i0, hi, hz0, hz1, hz2⟩ := info_parts hinfo
  subst hm
  cases ao with
  | none =>
    have hnil : xs = [] := by
      rcases hin with h | ⟨b, off, h1, _⟩
      · exact h
      · cases h1
    subst hnil
    rw [hao rfl] at hx
    refine wpList_append_own_none hgd s x _ ho base E i0 k hT hi v n _ hs hown hx ?_
    exact h v w (by simpa using hown) (World.grownBy.refl _ _) (Or.inl rfl)
  | some ad =>
    refine wpList_append_own_at _ hgd s x _ ho base E i0 z k bytes hT hi hz0 hz1 hz2 hzs h0 v n _ hs hown ad xs.length cap (xs.flatMap cells) hx (flat_len hk xs) ?_ ?_ hmax hlim hbase ?_
    · intro j u hu
      exact cells_of_rows hk h0 hin (Below.refl _ _) rfl hu
    · intro u hu
      obtain ⟨y, _, hy⟩ := List.mem_flatMap.1 hu
      exact hone y u hy
    · intro v' w' h1 h2 _ h3
      exact h v' w' h1 h2 h3
/-- A copy of a row: nil for nil, a row of its own else. -/
def ClonedAs {α : Type} (E : TypeId) (k : Nat) (cells : α → List Value) (xs : List α) (n : Nat) (w : World) (e : Ending) (w' : World) : Prop :=
  ∃ a c, e = .returned (.slice a n c) ∧ w'.ownsRow w.heap.size E k (.slice a n c) n (xs.flatMap cells) ∧ Below w.heap.size w w'
theorem row_slice {w : World} {B E SZ n : Nat} {v : Value} {xs : List Value} (h : w.ownsRow B E SZ v n xs) : ∃ a c, v = .slice a n c := by
  rcases Go.Joins.ownsRow_forms h with ⟨rfl, hz⟩ | ⟨g, c, rfl⟩
  · exact ⟨none, 0, by rw [hz]⟩
  · exact ⟨_, c, rfl⟩
theorem infoVa : (Tryz.prog.info? 132).map (fun i => (i.zero, i.size, i.bytes)) = some (some (.agg #[.int .u8 0, .int .i64 0, .string ByteArray.empty]), 3, 32) := by kernel_rfl
theorem infoEn : (Tryz.prog.info? 60).map (fun i => (i.zero, i.size, i.bytes)) = some (some (.agg #[.int .i64 0, .int .u8 0, .int .i64 0, .int .i64 0, .int .u8 0, .string ByteArray.empty, .slice none 0 0, .int .i64 0, .slice none 0 0]), 9, 112) := by kernel_rfl
theorem infoI : (Tryz.prog.info? 3).map (fun i => (i.zero, i.size, i.bytes)) = some (some (.int .i64 0), 1, 8) := by kernel_rfl
theorem vaCells_one (x : Va) : ∀ u ∈ vaCells x, u.oneCell' = true := by intro u hu; simp [vaCells] at hu; rcases hu with rfl | rfl | rfl <;> rfl
theorem iCells_one (x : Int) : ∀ u ∈ iCells x, u.oneCell' = true := by intro u hu; simp [iCells] at hu; rw [hu]; rfl
theorem enCells_one (x : En) : ∀ u ∈ enCells x, u.oneCell' = true := by intro u hu; simp [enCells] at hu; rcases hu with rfl | rfl | rfl | rfl | rfl | rfl | rfl | rfl | rfl <;> rfl
theorem cloneI_any (sub : World → Nat → Int → Prop) (ao : Option Addr) (n cap : Nat) (xs : List Int) (w : World) (B : Nat) (hn : xs.length = n) (hx : RowsIn 1 iCells sub w B ao xs) (hs : Kept sub) (hB : B ≤ w.heap.size) (hao : ao = none → cap = 0) (hl : n ≤ 1099511627776) :
    Calls Tryz.prog 84 #[.slice ao n cap] w (ClonedAs 3 1 iCells xs n w) := by
  have HX := Lib.hid hx
  have HN := Lib.hid hn
  clear hx hn
  cases ao with
  | none =>
    obtain rfl := hao rfl
    have hnil : xs = [] := by
      rcases HX.out with h | ⟨b, off, h1, _⟩
      · exact h
      · cases h1
    have hn0 : n = 0 := by rw [← HN.out, hnil]; rfl
    subst hn0
    subst hnil
    have he : ∀ w, (binOp .eql 58 (.slice none 0 0) (.slice none 0 0)).run Tryz.prog w = .ok (.bool true) w := fun _ => by kernel_rfl
    go_enter Tryz.func84, Tryz.ntmps84
    go_wp2_with fail
    go_ret
    exact ⟨none, 0, rfl, World.ownsRow_nil _ _ _ _, Below.refl _ _⟩
  | some ad =>
    have he : ∀ w, (binOp .eql 58 (.slice (some ad) n cap) (.slice none 0 0)).run Tryz.prog w = .ok (.bool false) w := fun _ => by kernel_rfl
    go_enter Tryz.func84, Tryz.ntmps84
    go_wp2_with (at_builtin; refine wpList_append_rows Tryz.underlying58 infoI rfl (by decide) iCells_len iCells_one rfl (.tmp 5) (.tmp 6) rfl w.heap.size _ 0 [] rfl (World.ownsRow_lit w #[] 0 (Nat.le_refl _) (by unfold maxLen; omega) rfl) (some ad) n cap xs HN.out rfl B (HX.out.below hs ((Below.refl B w).alloc hB _) (Nat.le_refl _)) (by simp) (by unfold maxLen; omega) (by omega) (by simp) ?_)
    intro v' w' hown hg _
    have hb := ((Below.refl w.heap.size w).alloc (Nat.le_refl _) (.cells #[] 3)).grown hg (by simp) (fun k hk => by cases hk; exact Nat.le_refl _)
    have hown2 : w'.ownsRow w.heap.size 3 1 v' n (xs.flatMap iCells) := by simpa using hown
    obtain ⟨a, c, hv⟩ := row_slice hown2
    subst hv
    have HO := Lib.hid hown2
    clear hg he hown hown2
    go_wp2_with fail
    go_ret
    exact ⟨a, c, rfl, HO.out, hb⟩
theorem cloneV_any (sub : World → Nat → Va → Prop) (ao : Option Addr) (n cap : Nat) (xs : List Va) (w : World) (B : Nat) (hn : xs.length = n) (hx : RowsIn 3 vaCells sub w B ao xs) (hs : Kept sub) (hB : B ≤ w.heap.size) (hao : ao = none → cap = 0) (hl : n ≤ 1099511627776) :
    Calls Tryz.prog 85 #[.slice ao n cap] w (ClonedAs 132 3 vaCells xs n w) := by
  have HX := Lib.hid hx
  have HN := Lib.hid hn
  clear hx hn
  cases ao with
  | none =>
    obtain rfl := hao rfl
    have hnil : xs = [] := by
      rcases HX.out with h | ⟨b, off, h1, _⟩
      · exact h
      · cases h1
    have hn0 : n = 0 := by rw [← HN.out, hnil]; rfl
    subst hn0
    subst hnil
    have he : ∀ w, (binOp .eql 55 (.slice none 0 0) (.slice none 0 0)).run Tryz.prog w = .ok (.bool true) w := fun _ => by kernel_rfl
    go_enter Tryz.func85, Tryz.ntmps85
    go_wp2_with fail
    go_ret
    exact ⟨none, 0, rfl, World.ownsRow_nil _ _ _ _, Below.refl _ _⟩
  | some ad =>
    have he : ∀ w, (binOp .eql 55 (.slice (some ad) n cap) (.slice none 0 0)).run Tryz.prog w = .ok (.bool false) w := fun _ => by kernel_rfl
    go_enter Tryz.func85, Tryz.ntmps85
    go_wp2_with (at_builtin; refine wpList_append_rows Tryz.underlying55 infoVa rfl (by decide) vaCells_len vaCells_one rfl (.tmp 5) (.tmp 6) rfl w.heap.size _ 0 [] rfl (World.ownsRow_lit w #[] 0 (Nat.le_refl _) (by unfold maxLen; omega) rfl) (some ad) n cap xs HN.out rfl B (HX.out.below hs ((Below.refl B w).alloc hB _) (Nat.le_refl _)) (by simp) (by unfold maxLen; omega) (by omega) (by simp) ?_)
    intro v' w' hown hg _
    have hb := ((Below.refl w.heap.size w).alloc (Nat.le_refl _) (.cells #[] 132)).grown hg (by simp) (fun k hk => by cases hk; exact Nat.le_refl _)
    have hown2 : w'.ownsRow w.heap.size 132 3 v' n (xs.flatMap vaCells) := by simpa using hown
    obtain ⟨a, c, hv⟩ := row_slice hown2
    subst hv
    have HO := Lib.hid hown2
    clear hg he hown hown2
    go_wp2_with fail
    go_ret
    exact ⟨a, c, rfl, HO.out, hb⟩
theorem cloneE_any (sub : World → Nat → En → Prop) (ao : Option Addr) (n cap : Nat) (xs : List En) (w : World) (B : Nat) (hn : xs.length = n) (hx : RowsIn 9 enCells sub w B ao xs) (hs : Kept sub) (hB : B ≤ w.heap.size) (hao : ao = none → cap = 0) (hl : n ≤ 1099511627776) :
    Calls Tryz.prog 83 #[.slice ao n cap] w (ClonedAs 60 9 enCells xs n w) := by
  have HX := Lib.hid hx
  have HN := Lib.hid hn
  clear hx hn
  cases ao with
  | none =>
    obtain rfl := hao rfl
    have hnil : xs = [] := by
      rcases HX.out with h | ⟨b, off, h1, _⟩
      · exact h
      · cases h1
    have hn0 : n = 0 := by rw [← HN.out, hnil]; rfl
    subst hn0
    subst hnil
    have he : ∀ w, (binOp .eql 38 (.slice none 0 0) (.slice none 0 0)).run Tryz.prog w = .ok (.bool true) w := fun _ => by kernel_rfl
    go_enter Tryz.func83, Tryz.ntmps83
    go_wp2_with fail
    go_ret
    exact ⟨none, 0, rfl, World.ownsRow_nil _ _ _ _, Below.refl _ _⟩
  | some ad =>
    have he : ∀ w, (binOp .eql 38 (.slice (some ad) n cap) (.slice none 0 0)).run Tryz.prog w = .ok (.bool false) w := fun _ => by kernel_rfl
    go_enter Tryz.func83, Tryz.ntmps83
    go_wp2_with (at_builtin; refine wpList_append_rows Tryz.underlying38 infoEn rfl (by decide) enCells_len enCells_one rfl (.tmp 5) (.tmp 6) rfl w.heap.size _ 0 [] rfl (World.ownsRow_lit w #[] 0 (Nat.le_refl _) (by unfold maxLen; omega) rfl) (some ad) n cap xs HN.out rfl B (HX.out.below hs ((Below.refl B w).alloc hB _) (Nat.le_refl _)) (by simp) (by unfold maxLen; omega) (by omega) (by simp) ?_)
    intro v' w' hown hg _
    have hb := ((Below.refl w.heap.size w).alloc (Nat.le_refl _) (.cells #[] 60)).grown hg (by simp) (fun k hk => by cases hk; exact Nat.le_refl _)
    have hown2 : w'.ownsRow w.heap.size 60 9 v' n (xs.flatMap enCells) := by simpa using hown
    obtain ⟨a, c, hv⟩ := row_slice hown2
    subst hv
    have HO := Lib.hid hown2
    clear hg he hown hown2
    go_wp2_with fail
    go_ret
    exact ⟨a, c, rfl, HO.out, hb⟩
end Go.Proofs.YtnhnabcpkaeaaaaGreatDoor
/- The forms of wire as bytes: plain definitions and laws. No program. Conditions: as each says. -/
namespace Go.Proofs.YtnhnabcpkaeaaaaGreatDoor
/-- A number in so many bytes, the greatest first. -/
def numB (size : Nat) (n : Int) : List Int := (List.range size).map fun j => n / 2 ^ (8 * (size - 1 - j)) % 256
theorem numB_len (size : Nat) (n : Int) : (numB size n).length = size := by simp [numB]
theorem numB_take (size : Nat) (n : Int) (k : Nat) (hk : k < size) : (numB size n).take (k + 1) = (numB size n).take k ++ [n / 2 ^ (8 * (size - 1 - k)) % 256] := by
  rw [List.take_succ_eq_append_getElem (by rw [numB_len]; exact hk)]
  simp [numB]
theorem numB_wf (size : Nat) (n : Int) : BytesWf (numB size n) := fun x hx => by
  obtain ⟨j, _, rfl⟩ := List.mem_map.1 hx
  omega
/-- A text's bytes, as numbers. -/
def strB (s : ByteArray) : List Int := s.data.toList.map fun c => (c.toNat : Int)
theorem strB_len (s : ByteArray) : (strB s).length = s.size := by simp [strB]
theorem strB_wf (s : ByteArray) : BytesWf (strB s) := fun x hx => by
  obtain ⟨c, _, rfl⟩ := List.mem_map.1 hx
  have := UInt8.toNat_lt c
  omega
def textB (s : ByteArray) : List Int := numB 4 s.size ++ strB s
def valueB (v : Va) : List Int := v.kind :: (if v.kind = 1 then numB 8 v.num else if v.kind = 2 then textB v.text else [])
def valuesB (vs : List Va) : List Int := numB 4 vs.length ++ vs.flatMap valueB
def commandB (ck : Int) (text : ByteArray) (num : Int) (args : List Va) : List Int := ck :: (textB text ++ (numB 8 num ++ valuesB args))
def entryB (e : EnP) : List Int := numB 8 e.term ++ (e.kind :: (numB 8 e.session ++ (numB 8 e.seq ++ (commandB e.ck e.text e.num e.args ++ (numB 4 e.vs.length ++ e.vs.flatMap (numB 8))))))
theorem textB_len (s : ByteArray) : (textB s).length = 4 + s.size := by rw [textB, List.length_append, numB_len, strB_len]
theorem valueB_pos (v : Va) : 1 ≤ (valueB v).length := by unfold valueB; rw [List.length_cons]; omega
/-- The number that bytes say. -/
def getN (l : List Int) : Int := l.foldl (fun n c => n * 256 + c) 0
theorem getN_snoc (l : List Int) (c : Int) : getN (l ++ [c]) = getN l * 256 + c := by simp [getN]
theorem getN_numB (size : Nat) (n : Int) : getN (numB size n) = n % 256 ^ size := by
  have key : ∀ k, k ≤ size → getN ((numB size n).take k) = n / 2 ^ (8 * (size - k)) % 256 ^ k := by
    intro k
    induction k with
    | zero => intro _; simp [getN, Int.emod_one]
    | succ k ih =>
      intro hk
      rw [numB_take size n k hk, getN_snoc, ih (by omega)]
      have e1 : size - k = (size - (k + 1)) + 1 := by omega
      have e2 : size - 1 - k = size - (k + 1) := by omega
      rw [e1, e2]
      obtain ⟨m, hm⟩ : ∃ m, m = n / 2 ^ (8 * (size - (k + 1))) := ⟨_, rfl⟩
      have e3 : n / 2 ^ (8 * (size - (k + 1) + 1)) = m / 256 := by
        rw [hm, Int.ediv_ediv_of_nonneg (Int.le_of_lt (Int.pow_pos (by decide)))]
        congr 1
        rw [Nat.mul_add, Int.pow_add]
        rfl
      rw [e3, ← hm, Int.pow_succ]
      have hp : (0 : Int) < 256 ^ k := Int.pow_pos (by decide)
      generalize (256 : Int) ^ k = p at hp
      have h1 := Int.mul_ediv_add_emod m 256
      have h2 := Int.mul_ediv_add_emod (m / 256) p
      have h4 := Int.emod_nonneg (m / 256) (show p ≠ 0 by omega)
      have h5 := Int.emod_lt_of_pos (m / 256) hp
      have h6 := Int.emod_nonneg m (show (256 : Int) ≠ 0 by decide)
      have h7 := Int.emod_lt_of_pos m (show (0 : Int) < 256 by decide)
      have e : m = (m / 256 % p * 256 + m % 256) + (p * 256) * (m / 256 / p) := by
        have : p * 256 * (m / 256 / p) = 256 * (p * (m / 256 / p)) := by rw [Int.mul_comm p 256, Int.mul_assoc]
        rw [this]
        omega
      have hlt : m / 256 % p * 256 + m % 256 < p * 256 := by
        have : m / 256 % p * 256 ≤ (p - 1) * 256 := Int.mul_le_mul_of_nonneg_right (by omega) (by decide)
        have e9 : (p - 1) * 256 = p * 256 - 256 := by rw [Int.sub_mul]; omega
        omega
      have hge : 0 ≤ m / 256 % p * 256 + m % 256 := by
        have := Int.mul_nonneg h4 (show (0 : Int) ≤ 256 by decide)
        omega
      have := Int.add_mul_emod_self_left (m / 256 % p * 256 + m % 256) (p * 256) (m / 256 / p)
      rw [← e, Int.emod_eq_of_lt hge hlt] at this
      exact this.symm
  have := key size (Nat.le_refl _)
  rw [List.take_of_length_le (by rw [numB_len]; exact Nat.le_refl _), Nat.sub_self] at this
  simpa using this
theorem getN_bound (l : List Int) (h : BytesWf l) : 0 ≤ getN l ∧ getN l < 256 ^ l.length := by
  have key : ∀ r : List Int, BytesWf r.reverse → 0 ≤ getN r.reverse ∧ getN r.reverse < 256 ^ r.length := by
    intro r
    induction r with
    | nil => intro _; simp [getN]
    | cons c r ih =>
      intro hw
      rw [List.reverse_cons] at hw ⊢
      have h1 := ih (fun x hx => hw x (List.mem_append_left _ hx))
      have h2 := hw c (by simp)
      rw [getN_snoc, List.length_cons, Int.pow_succ]
      generalize (256 : Int) ^ r.length = p at h1
      generalize getN r.reverse = g at h1
      constructor
      · have := Int.mul_nonneg h1.1 (show (0 : Int) ≤ 256 by decide); omega
      · have : g * 256 ≤ (p - 1) * 256 := Int.mul_le_mul_of_nonneg_right (by omega) (by decide)
        have e9 : (p - 1) * 256 = p * 256 - 256 := by rw [Int.sub_mul]; omega
        omega
  have := key l.reverse (by rwa [List.reverse_reverse])
  rwa [List.reverse_reverse, List.length_reverse] at this
end Go.Proofs.YtnhnabcpkaeaaaaGreatDoor
/- LentBytes, KeptBytes: a row of bytes is copied with marks behind its end; as long as nobody writes there, it is found as it was. Conditions: the row has less than 2 to the 40 bytes. -/
namespace Go.Proofs.YtnhnabcpkaeaaaaGreatDoor
open Go.RowKit
set_option maxRecDepth 20000
end Go.Proofs.YtnhnabcpkaeaaaaGreatDoor
/- The writer of wire: what it writes stands behind what it held. Conditions: the buffer holds bytes, and has only been written. -/
namespace Go.Proofs.YtnhnabcpkaeaaaaGreatDoor
open Go.RowKit
set_option maxRecDepth 20000
/-- Block b is a writer that holds these bytes. -/
def BufIs (w : World) (B b : Nat) (bs : List Int) : Prop := LibA.IsBuffer 163 (fun _ => none) 5 B b 0 (bs.map bv) w
/-- What a writing method does. -/
def Wrote (B b : Nat) (bs : List Int) (w w' : World) : Prop := BufIs w' B b bs ∧ Below B w w' ∧ Lib.OthersKept 5 (some b) w w'
theorem Wrote.trans {B b : Nat} {bs cs : List Int} {w w' w'' : World} (h : Wrote B b bs w w') (h2 : Wrote B b cs w' w'') : Wrote B b cs w w'' := ⟨h2.1, h.2.1.trans h2.2.1, h.2.2.trans h2.2.2⟩
theorem Wrote.drew {B b : Nat} {bs : List Int} {w w' : World} (h : Wrote B b bs w w') : Wrote B b bs w w'.drew := ⟨h.1, h.2.1.drew, h.2.2⟩
theorem writeByte_any (B b : Nat) (bs : List Int) (c : Int) (w : World) (h : BufIs w B b bs) (hBw : B ≤ w.heap.size) (hlim : bs.length + 1 ≤ 140737488355328) :
    Calls Tryz.prog 117 #[.pointer (some ⟨b, 0, none⟩), .int .u8 c] w fun e w' => e = .returned .nilIface ∧ Wrote B b (bs ++ [c]) w w' := by
  refine (Tryz.Buffer_WriteByte_at _ _ B b 0 _ c w h hBw (bytes_oneCell _) (by simpa using hlim)).mono ?_
  rintro e w' ⟨h1, h2, h3, h4⟩
  exact ⟨h1, by unfold BufIs; rw [List.map_append]; exact h2, h3, h4⟩
theorem byteCells_bv (s : ByteArray) : Lib.byteCells s.data.toList = (strB s).map bv := by
  simp [Lib.byteCells, strB, bv]
theorem writeString_any (B b : Nat) (bs : List Int) (s : ByteArray) (w : World) (h : BufIs w B b bs) (hBw : B ≤ w.heap.size) (hlim : bs.length + s.size ≤ 140737488355328) :
    Calls Tryz.prog 148 #[.pointer (some ⟨b, 0, none⟩), .string s] w fun e w' => e = .returned (.tuple #[.int .i64 s.size, .nilIface]) ∧ Wrote B b (bs ++ strB s) w w' := by
  refine (Tryz.Buffer_WriteString_at _ _ B b 0 _ s w h hBw (bytes_oneCell _) (by simpa using hlim)).mono ?_
  rintro e w' ⟨h1, h2, h3, h4⟩
  exact ⟨h1, by unfold BufIs; rw [List.map_append, ← byteCells_bv]; exact h2, h3, h4⟩
theorem flatN_len (size : Nat) (xs : List Int) : (xs.flatMap (numB size)).length = xs.length * size := by
  induction xs with
  | nil => simp
  | cons x xs ih => rw [List.flatMap_cons, List.length_append, ih, numB_len, List.length_cons, Nat.add_mul]; omega
set_option maxHeartbeats 1000000 in
theorem put_any (B b rb m c size : Nat) (bs xs : List Int) (w : World) (hsz : size ≤ 8) (hs0 : 1 ≤ size) (hrb : rb ≠ b) (hm : xs.length = m) (hrow : w.heap[rb]? = some (.cells (xs.map fun x => .int .i64 x).toArray 2 (0, 0))) (h : BufIs w B b bs) (hBw : B ≤ w.heap.size) (hml : m ≤ 1000) (hlim : bs.length + 9000 ≤ 140737488355328) :
    Calls Tryz.prog 115 #[.pointer (some ⟨b, 0, none⟩), .int .i64 size, .slice (some ⟨rb, 0, none⟩) m c] w fun e w' => e = .returned (.tuple #[]) ∧ Wrote B b (bs ++ xs.flatMap (numB size)) w w' := by
  have HM := Lib.hid hm
  have HR := Lib.hid hrow
  have HB := Lib.hid h
  clear hm hrow h
  have hne : some rb ≠ some b := by simpa using hrb
  go_enter Tryz.func115, Tryz.ntmps115
  go_wp2_with fail
  go_loopw [11] (fun i wr => ∃ k : Nat, k ≤ m ∧ i = .int .i64 k ∧ Wrote B b (bs ++ (xs.take k).flatMap (numB size)) w wr) (fun i _ => m - (intOf i).toNat)
  case atStart => exact ⟨0, by omega, rfl, by simpa using HB.out, Below.refl _ _, Lib.OthersKept.refl _ _ _⟩
  case round =>
    obtain ⟨k, hk, rfl, hw⟩ := hrel
    have HW := Lib.hid hw
    clear hw
    by_cases hlt : k < m
    · have hkx : xs[k]? = some (xs[k]'(by rw [HM.out]; exact hlt)) := List.getElem?_eq_getElem _
      have htk : (xs.take (k + 1)).flatMap (numB size) = (xs.take k).flatMap (numB size) ++ numB size (xs[k]'(by rw [HM.out]; exact hlt)) := by
        rw [List.take_succ_eq_append_getElem (by rw [HM.out]; exact hlt), List.flatMap_append]; simp
      have hlen : ((xs.take k).flatMap (numB size)).length ≤ k * 8 := by
        rw [flatN_len, List.length_take]
        exact Nat.mul_le_mul (Nat.min_le_left _ _) hsz
      generalize (xs[k]'(by rw [HM.out]; exact hlt)) = x at hkx htk
      have hrw := HW.out.2.2 rb _ HR.out hne (by intro c fz hh; injection hh with _ h2 _; revert h2; decide)
      have c0 : wr.cell? ⟨rb, k, none⟩ = some (.int .i64 x) := by
        rw [Go.Joins.cell_of_block hrw k, List.getElem?_toArray, List.getElem?_map, hkx]; rfl
      have HT := Lib.hid htk
      have i1 : (k : Int) < m := by omega
      clear hkx htk hrw
      go_wp2_with fail
      obtain ⟨wo, rfl⟩ : ∃ wo : World, wo = wr := ⟨_, rfl⟩
      have w0 : IntKind.i64.wrap ((size : Int) - 1) = (size : Int) - 1 := IntWalk.i64_in _ (by omega)
      go_loopw [8] (fun i wi => ∃ q : Nat, q ≤ size ∧ i = .int .i64 ((size : Int) - 1 - q) ∧ Wrote B b (bs ++ (xs.take k).flatMap (numB size) ++ (numB size x).take q) w wi) (fun i _ => (intOf i + 1).toNat)
      case atStart => exact ⟨0, by omega, by simp, by simpa using HW.out⟩
      case round =>
        obtain ⟨q, hq, rfl, hw2⟩ := hrel
        have HW2 := Lib.hid hw2
        clear hw2 c0
        by_cases hltq : q < size
        · obtain ⟨p, hp⟩ : ∃ p : Nat, p = size - 1 - q := ⟨_, rfl⟩
          have hpe : (size : Int) - 1 - q = p := by omega
          have hnt := numB_take size x q hltq
          rw [← hp] at hnt
          have HNT := Lib.hid hnt
          have hp8 : p ≤ 7 := by omega
          have w3 : IntKind.i64.wrap (8 * (p : Int)) = 8 * p := IntWalk.i64_in _ (by omega)
          have n3 : ((8 : Int) * p).toNat = 8 * p := by omega
          have g3 : (0 : Int) ≤ 8 * p := by omega
          have HPE := Lib.hid hpe
          have hlq : ((numB size x).take q).length ≤ 8 := by rw [List.length_take, numB_len]; omega
          rw [hpe]
          clear hnt hp hpe
          go_wp2_with fail
          go_still_tail 8, (by kernel_rfl)
          change wpList _ _ _ _ _ wr.drew
          have hw4 : Wrote B b (bs ++ (xs.take k).flatMap (numB size) ++ (numB size x).take q) w wr.drew := HW2.out.drew
          generalize wr.drew = w6 at hw4 ⊢
          have HW4 := Lib.hid hw4
          clear hw4
          go_wp2_with fail
          refine (writeByte_any B b _ (x / 2 ^ (8 * p) % 256) w6 HW4.out.1 (Nat.le_trans hBw HW4.out.2.1.size) (by simp only [List.length_append]; omega)).mono ?_
          rintro e w7 ⟨rfl, hw7⟩
          have hw8 := HW4.out.trans hw7
          rw [List.append_assoc, ← HNT.out] at hw8
          have HW8 := Lib.hid hw8
          clear hw7 hw8
          go_wp2_with fail
          go_roundw
          case rel => exact ⟨q + 1, by omega, by have := HPE.out; congr 1; push_cast; omega, HW8.out⟩
          case measure => first | (simp [intOf]; done) | (have := HPE.out; simp [intOf]; omega)
        · have hqe : q = size := by omega
          have hw5 := HW2.out
          rw [hqe, List.take_of_length_le (l := numB size x) (by rw [numB_len]; exact Nat.le_refl _), List.append_assoc, ← HT.out] at hw5
          have HW5 := Lib.hid hw5
          have g5 : (size : Int) - 1 - q < 0 := by omega
          clear hw5 hqe
          go_wp2_with fail
          go_roundw
          case rel => exact ⟨k + 1, by omega, by go_num, HW5.out⟩
          case measure => simp [intOf]; omega
    · obtain rfl : k = m := by omega
      have hw5 := HW.out
      rw [List.take_of_length_le (by rw [HM.out]; exact Nat.le_refl _)] at hw5
      have HW5 := Lib.hid hw5
      clear hw5
      go_wp2_with fail
      go_end0
      exact ⟨rfl, HW5.out⟩
end Go.Proofs.YtnhnabcpkaeaaaaGreatDoor
/- The writer of wire: counts, texts, values, rows of values. Conditions: the buffer holds bytes, and has only been written. -/
namespace Go.Proofs.YtnhnabcpkaeaaaaGreatDoor
open Go.RowKit
set_option maxRecDepth 20000
theorem Wrote.start {B b : Nat} {bs : List Int} {w : World} (h : BufIs w B b bs) : Wrote B b bs w w := ⟨h, Below.refl _ _, Lib.OthersKept.refl _ _ _⟩
theorem Wrote.alloc {B b : Nat} {bs : List Int} {w w' : World} (h : Wrote B b bs w w') (hB : B ≤ w.heap.size) (o : Obj) : Wrote B b bs w (w'.alloc o) := ⟨LibA.IsBuffer.alloc h.1 o, h.2.1.alloc (Nat.le_trans hB h.2.1.size) o, h.2.2.alloc o⟩
theorem BufIs.lt {w : World} {B b : Nat} {bs : List Int} (h : BufIs w B b bs) : b < w.heap.size := LibA.IsBuffer.lt h
/-- One number, in 4 or 8 bytes. -/
theorem put1_any (B b size g : Nat) (bs : List Int) (n : Int) (w : World) (hg : w.heap.size = g) (hsz : size ≤ 8) (hs0 : 1 ≤ size) (h : BufIs w B b bs) (hBw : B ≤ w.heap.size) (hlim : bs.length + 9000 ≤ 140737488355328) :
    Calls Tryz.prog 115 #[.pointer (some ⟨b, 0, none⟩), .int .i64 size, .slice (some ⟨g, 0, none⟩) 1 1] (w.alloc (.cells #[.int .i64 n] 2)) fun e w' => e = .returned (.tuple #[]) ∧ Wrote B b (bs ++ numB size n) w w' := by
  subst hg
  have h1 := (Wrote.start h).alloc hBw (.cells #[.int .i64 n] 2)
  refine (put_any B b w.heap.size 1 1 size bs [n] _ hsz hs0 (by have := h.lt; omega) rfl (heap_alloc_new w _) h1.1 (by simp; omega) (by omega) hlim).mono ?_
  rintro e w' ⟨he, hw⟩
  refine ⟨he, ?_⟩
  have := h1.trans hw
  simpa using this
/-- Two numbers. -/
theorem put2_any (B b size g : Nat) (bs : List Int) (n m : Int) (w : World) (hg : w.heap.size = g) (hsz : size ≤ 8) (hs0 : 1 ≤ size) (h : BufIs w B b bs) (hBw : B ≤ w.heap.size) (hlim : bs.length + 9000 ≤ 140737488355328) :
    Calls Tryz.prog 115 #[.pointer (some ⟨b, 0, none⟩), .int .i64 size, .slice (some ⟨g, 0, none⟩) 2 2] (w.alloc (.cells #[.int .i64 n, .int .i64 m] 2)) fun e w' => e = .returned (.tuple #[]) ∧ Wrote B b (bs ++ (numB size n ++ numB size m)) w w' := by
  subst hg
  have h1 := (Wrote.start h).alloc hBw (.cells #[.int .i64 n, .int .i64 m] 2)
  refine (put_any B b w.heap.size 2 2 size bs [n, m] _ hsz hs0 (by have := h.lt; omega) rfl (heap_alloc_new w _) h1.1 (by simp; omega) (by omega) hlim).mono ?_
  rintro e w' ⟨he, hw⟩
  refine ⟨he, ?_⟩
  have := h1.trans hw
  simpa using this
theorem count_any (B b : Nat) (bs : List Int) (n : Int) (w : World) (h : BufIs w B b bs) (hBw : B ≤ w.heap.size) (hlim : bs.length + 9000 ≤ 140737488355328) :
    Calls Tryz.prog 119 #[.pointer (some ⟨b, 0, none⟩), .int .i64 n] w fun e w' => e = .returned (.tuple #[]) ∧ Wrote B b (bs ++ numB 4 n) w w' := by
  have H := Lib.hid h
  clear h
  go_enter Tryz.func119, Tryz.ntmps119
  go_wp2_with fail
  refine (put1_any B b 4 _ bs n w rfl (by omega) (by omega) H.out hBw hlim).mono ?_
  rintro e w1 ⟨rfl, hw⟩
  have HW := Lib.hid hw
  clear hw
  go_wp2_with fail
  go_end0
  exact ⟨rfl, HW.out⟩
theorem text_any (B b : Nat) (bs : List Int) (s : ByteArray) (w : World) (h : BufIs w B b bs) (hBw : B ≤ w.heap.size) (hlim : bs.length + s.size + 9000 ≤ 140737488355328) :
    Calls Tryz.prog 139 #[.pointer (some ⟨b, 0, none⟩), .string s] w fun e w' => e = .returned (.tuple #[]) ∧ Wrote B b (bs ++ textB s) w w' := by
  have H := Lib.hid h
  clear h
  go_enter Tryz.func139, Tryz.ntmps139
  go_wp2_with fail
  refine (count_any B b bs s.size w H.out hBw (by omega)).mono ?_
  rintro e w1 ⟨rfl, hw⟩
  have HW := Lib.hid hw
  clear hw
  go_wp2_with fail
  refine (writeString_any B b _ s w1 HW.out.1 (Nat.le_trans hBw HW.out.2.1.size) (by rw [List.length_append, numB_len]; omega)).mono ?_
  rintro e w2 ⟨rfl, hw2⟩
  have hw3 := HW.out.trans hw2
  rw [List.append_assoc] at hw3
  have HW3 := Lib.hid hw3
  clear hw2 hw3
  go_wp2_with fail
  go_end0
  exact ⟨rfl, HW3.out⟩
set_option maxHeartbeats 1000000 in
theorem value_any (B b : Nat) (bs : List Int) (v : Va) (w : World) (h : BufIs w B b bs) (hBw : B ≤ w.heap.size) (hlim : bs.length + v.text.size + 9100 ≤ 140737488355328) :
    Calls Tryz.prog 149 #[.pointer (some ⟨b, 0, none⟩), .agg #[.int .u8 v.kind, .int .i64 v.num, .string v.text]] w fun e w' => e = .returned (.tuple #[]) ∧ Wrote B b (bs ++ valueB v) w w' := by
  obtain ⟨kd, num, text⟩ := v
  dsimp only at hlim
  have h1 := (Wrote.start h).alloc hBw (.cells #[.int .u8 kd, .int .i64 num, .string text] 132)
  have hblk := heap_alloc_new w (.cells #[.int .u8 kd, .int .i64 num, .string text] 132)
  have hbl := h.lt
  have hsz1 : (w.alloc (.cells #[.int .u8 kd, .int .i64 num, .string text] 132)).heap.size = w.heap.size + 1 := by simp
  have H1 := Lib.hid h1
  have HBLK := Lib.hid hblk
  have HSZ := Lib.hid hsz1
  clear h h1 hblk hsz1
  dsimp only
  go_enter Tryz.func149, Tryz.ntmps149
  go_wp2_with fail
  have h1 := H1.out
  have hd := HBLK.out
  generalize (w.alloc (.cells #[.int .u8 kd, .int .i64 num, .string text] 132)) = w0 at h1 hd ⊢
  have d0 : w0.cell? ⟨w.heap.size, 0, none⟩ = some (.int .u8 kd) := Go.Joins.cell_of_block hd 0
  have H1' := Lib.hid h1.drew
  have HD := Lib.hid (show w0.drew.heap[w.heap.size]? = some (.cells #[.int .u8 kd, .int .i64 num, .string text] 132 (0, 0)) from hd)
  clear h1 hd H1 HBLK HSZ
  go_still_tail 5, (by kernel_rfl)
  change wpList _ _ _ _ _ w0.drew
  generalize w0.drew = w1 at H1' HD ⊢
  clear d0
  go_wp2_with fail
  refine (writeByte_any B b bs kd w1 H1'.out.1 (Nat.le_trans hBw H1'.out.2.1.size) (by omega)).mono ?_
  rintro e w2 ⟨rfl, hw2⟩
  have hty : ∀ c fz, Obj.cells #[.int .u8 kd, .int .i64 num, .string text] 132 (0, 0) ≠ .cells c 5 fz := by intro c fz h; injection h with _ h2 _; revert h2; decide
  have hblk2 := hw2.2.2 w.heap.size _ HD.out (by simp; omega) hty
  have d0 : w2.cell? ⟨w.heap.size, 0, none⟩ = some (.int .u8 kd) := Go.Joins.cell_of_block hblk2 0
  have d1 : w2.cell? ⟨w.heap.size, 1, none⟩ = some (.int .i64 num) := Go.Joins.cell_of_block hblk2 1
  have d2 : w2.cell? ⟨w.heap.size, 2, none⟩ = some (.string text) := Go.Joins.cell_of_block hblk2 2
  have H2 := Lib.hid (H1'.out.trans hw2)
  clear hw2 hblk2 H1' HD hty
  by_cases hk1 : kd = 1
  · subst hk1
    go_wp2_with fail
    refine (put1_any B b 8 _ _ num w2 rfl (by omega) (by omega) H2.out.1 (Nat.le_trans hBw H2.out.2.1.size) (by simp; omega)).mono ?_
    rintro e w3 ⟨rfl, hw3⟩
    have hw4 := H2.out.trans hw3
    rw [List.append_assoc] at hw4
    have H4 := Lib.hid hw4
    clear hw3 hw4
    go_wp2_with fail
    go_end0
    exact ⟨rfl, H4.out⟩
  · have n1 : (kd == 1) = false := by simpa using hk1
    have n2 : decide (kd = 1) = false := by simpa using hk1
    by_cases hk2 : kd = 2
    · subst hk2
      go_wp2_with fail
      refine (text_any B b _ text w2 H2.out.1 (Nat.le_trans hBw H2.out.2.1.size) (by simp; omega)).mono ?_
      rintro e w3 ⟨rfl, hw3⟩
      have hw4 := H2.out.trans hw3
      rw [List.append_assoc] at hw4
      have H4 := Lib.hid hw4
      clear hw3 hw4
      go_wp2_with fail
      go_end0
      exact ⟨rfl, H4.out⟩
    · have n3 : (kd == 2) = false := by simpa using hk2
      have n4 : decide (kd = 2) = false := by simpa using hk2
      have hv : valueB ⟨kd, num, text⟩ = [kd] := by unfold valueB; dsimp only; rw [if_neg hk1, if_neg hk2]
      have HV := Lib.hid hv
      clear hv
      go_wp2_with fail
      go_end0
      exact ⟨rfl, by rw [HV.out]; exact H2.out⟩
end Go.Proofs.YtnhnabcpkaeaaaaGreatDoor
/- Rows of a call's own. No program. Conditions: as each says. -/
namespace Go.Proofs.YtnhnabcpkaeaaaaGreatDoor
open Go.RowKit
theorem own_none {w : World} {base e size n m cap : Nat} {ao : Option Addr} {xs : List Value} (h : w.ownsRow base e size (.slice ao m cap) n xs) : ao = none → cap = 0 := by
  rintro rfl
  rcases h.2 with ⟨h', _⟩ | ⟨g, cap', cur, h', _⟩
  · cases h'; rfl
  · cases h'
theorem own_below {w w' : World} {base e size n B : Nat} {v : Value} {xs : List Value} (h : w.ownsRow base e size v n xs) (hb : Below B w w') (hB : w.heap.size ≤ B) : w'.ownsRow base e size v n xs := by
  refine ⟨h.1, ?_⟩
  rcases h.2 with hn | ⟨g, cap, cur, hv, h1, h2, h3⟩
  · exact Or.inl hn
  · have hg := (Array.getElem?_eq_some_iff.1 h2).1
    exact Or.inr ⟨g, cap, cur, hv, h1, by rw [hb.block g (by omega)]; exact h2, h3⟩
theorem own_apart {w : World} {b1 e1 s1 n1 b2 e2 s2 n2 : Nat} {v1 v2 : Value} {xs1 xs2 : List Value} (h1 : w.ownsRow b1 e1 s1 v1 n1 xs1) (h2 : w.ownsRow b2 e2 s2 v2 n2 xs2) (he : e1 ≠ e2) : v1.ownBlock = none ∨ v1.ownBlock ≠ v2.ownBlock := by
  rcases h1.2 with ⟨rfl, _⟩ | ⟨g, cap, cur, rfl, _, g1, _⟩
  · exact Or.inl rfl
  · right
    rcases h2.2 with ⟨rfl, _⟩ | ⟨g', cap', cur', rfl, _, g2, _⟩
    · simp [Value.ownBlock]
    · intro hh
      simp [Value.ownBlock] at hh
      subst hh
      rw [g1] at g2
      simp only [Option.some.injEq, Obj.cells.injEq] at g2
      exact he g2.2.1
theorem own_capG {w : World} {base e size n m cap : Nat} {ao : Option Addr} {xs : List Value} (h : w.ownsRow base e size (.slice ao m cap) n xs) : m ≤ cap := by
  rcases h.2 with ⟨h', _⟩ | ⟨g, cap', cur, h', _, _, h3, _⟩
  · injection h' with _ h1 _; omega
  · injection h' with _ h1 h2; subst h1 h2; exact h3
end Go.Proofs.YtnhnabcpkaeaaaaGreatDoor
/- The writer of wire: what was written, told; Number, Text, Value. Conditions: what is written is not too long. -/
namespace Go.Proofs.YtnhnabcpkaeaaaaGreatDoor
open Go.RowKit
set_option maxRecDepth 20000
def ClonePost (xs : List Int) (w : World) (e : Ending) (w' : World) : Prop :=
  ∃ v, e = .returned v ∧ w'.ownsRow w.heap.size 5 1 v xs.length (xs.map bv) ∧ Below w.heap.size w w'
theorem clone_any (ao : Option Addr) (cap : Nat) (xs : List Int) (w : World) (B : Nat) (hx : BytesIn w B ao xs) (hB : B ≤ w.heap.size) (hao : ao = none → cap = 0) (hl : xs.length ≤ 140737488351232) :
    Calls Tryz.prog 64 #[.slice ao xs.length cap] w (ClonePost xs w) := by
  cases ao with
  | none =>
    have hnil : xs = [] := by
      rcases hx with h | ⟨b, off, h1, _⟩
      · exact h
      · cases h1
    subst hnil
    obtain rfl := hao rfl
    have he : ∀ w, (binOp .eql 22 (.slice none 0 0) (.slice none 0 0)).run Tryz.prog w = .ok (.bool true) w := fun _ => by kernel_rfl
    go_enter Tryz.func64, Tryz.ntmps64
    go_wp2_with fail
    go_ret
    exact ⟨_, rfl, World.ownsRow_nil _ _ _ _, Below.refl _ _⟩
  | some ad =>
    have he : ∀ w, (binOp .eql 22 (.slice (some ad) xs.length cap) (.slice none 0 0)).run Tryz.prog w = .ok (.bool false) w := fun _ => by kernel_rfl
    go_enter Tryz.func64, Tryz.ntmps64
    go_wp2_with (at_builtin; refine wpList_append_bytes rfl (.tmp 5) (.tmp 6) rfl w.heap.size _ [] rfl (World.ownsRow_lit w #[] 0 (Nat.le_refl _) (by unfold maxLen; omega) rfl) (some ad) cap xs rfl B (hx.below ((Below.refl B w).alloc hB _) (Nat.le_refl _)) (by simp) (by simp; omega) (by simp) ?_)
    intro v' w' hown hg
    have hb := ((Below.refl w.heap.size w).alloc (Nat.le_refl _) (.cells #[] 5)).grown hg (by simp) (fun k hk => by cases hk; exact Nat.le_refl _)
    clear hg he
    go_wp2_with fail
    go_ret
    exact ⟨_, rfl, by simpa using hown, hb⟩
/-- What the writer holds, told. -/
theorem bytes_of (B b : Nat) (bs : List Int) (w : World) (h : BufIs w B b bs) :
    Calls Tryz.prog 94 #[.pointer (some ⟨b, 0, none⟩)] w fun e w' => ∃ v, e = .returned v ∧ w'.ownsRow B 5 1 v bs.length (bs.map bv) ∧ Below w.heap.size w w' := by
  obtain ⟨hBb, v, lr, h3, hown, hvb⟩ := h
  rw [List.length_map] at hown
  have HO := Lib.hid hown
  have hfm : ∃ g c, v = .slice g bs.length c ∧ bs.length ≤ c ∧ (g = none → c = 0) := by
    rcases hown.2 with ⟨rfl, h⟩ | ⟨g, cap, cur, rfl, _, _, h1, h2, _⟩
    · exact ⟨none, 0, by rw [h], by omega, fun _ => rfl⟩
    · exact ⟨some ⟨g, 0, none⟩, cap, rfl, h1, by simp⟩
  obtain ⟨g, c, rfl, hlc, hg⟩ := hfm
  have c0 := h3.c0
  have c1 := h3.c1
  clear h3 hown
  go_enter Tryz.func94, Tryz.ntmps94
  go_wp2_with fail
  go_quiet (fail)
  go_wp2_with fail
  go_ret
  exact ⟨_, rfl, HO.out, below_drewN (Below.refl _ _) _⟩
theorem own_bytes' {w : World} {base c : Nat} {a : Option Addr} {l : List Int} (h : w.ownsRow base 5 1 (.slice a l.length c) l.length (l.map bv)) : BytesIn w w.heap.size a l := by
  obtain ⟨ao, cap, hv, hin⟩ := own_bytes h
  cases hv
  exact hin
/-- Bytes of a call's own. -/
def BytesNew (bs : List Int) (B : Nat) (w : World) (e : Ending) (w' : World) : Prop :=
  ∃ a c, e = .returned (.slice a bs.length c) ∧ w'.ownsRow B 5 1 (.slice a bs.length c) bs.length (bs.map bv) ∧ Below B w w'
theorem told_any (B b : Nat) (bs : List Int) (w : World) (h : BufIs w B b bs) (hBw : B ≤ w.heap.size) (hl : bs.length ≤ 140737488351232) :
    Calls Tryz.prog 116 #[.pointer (some ⟨b, 0, none⟩)] w (BytesNew bs w.heap.size w) := by
  have H := Lib.hid h
  clear h
  go_enter Tryz.func116, Tryz.ntmps116
  go_wp2_with fail
  refine (bytes_of B b bs w H.out).mono ?_
  rintro e w1 ⟨v, rfl, ho, hb⟩
  obtain ⟨a, c, hv⟩ := row_slice ho
  subst hv
  have HO := Lib.hid ho
  clear ho
  go_wp2_with fail
  refine (clone_any a c bs w1 w1.heap.size (own_bytes' HO.out) (Nat.le_refl _) (own_none HO.out) hl).mono ?_
  rintro e w2 ⟨v2, rfl, ho2, hb2⟩
  obtain ⟨a2, c2, hv2⟩ := row_slice ho2
  subst hv2
  have HO2 := Lib.hid (Go.Joins.ownsRow_le ho2 hb.size)
  have hb3 := hb.trans (hb2.mono hb.size)
  clear ho2 hb hb2
  go_wp2_with fail
  go_ret
  exact ⟨a2, c2, rfl, HO2.out, hb3⟩
end Go.Proofs.YtnhnabcpkaeaaaaGreatDoor
/- Number, Text, Value, Values of wire: the bytes of a form. Conditions: what is written is not too long. -/
namespace Go.Proofs.YtnhnabcpkaeaaaaGreatDoor
open Go.RowKit
set_option maxRecDepth 20000
theorem buf_new (w : World) : BufIs (w.alloc (.cells #[.slice none 0 0, .int .i64 0, .int .i8 0] 163)) w.heap.size w.heap.size [] :=
  LibA.zero_isBuffer (Nat.le_refl _) (lr := 0) ⟨_, heap_alloc_new w _, rfl, rfl, rfl, fun i hi => by rcases hi with hi | hi; omega; exact Array.getElem?_eq_none (by simpa using hi)⟩
theorem number_any (n : Int) (w : World) :
    Calls Tryz.prog 87 #[.int .i64 n] w (BytesNew (numB 8 n) w.heap.size w) := by
  have H := Lib.hid (buf_new w)
  have hb := (Below.refl w.heap.size w).alloc (Nat.le_refl _) (.cells #[.slice none 0 0, .int .i64 0, .int .i8 0] 163)
  have HB := Lib.hid hb
  clear hb
  go_enter Tryz.func87, Tryz.ntmps87
  go_wp2_with fail
  refine (put1_any w.heap.size w.heap.size 8 (w.heap.size + 1) [] n _ (by simp) (by omega) (by omega) H.out (by simp) (by simp)).mono ?_
  rintro e w1 ⟨rfl, hw⟩
  rw [List.nil_append] at hw
  have HW := Lib.hid hw
  have hb1 := HB.out.trans hw.2.1
  clear hw
  go_wp2_with fail
  refine (told_any w.heap.size w.heap.size _ w1 HW.out.1 hb1.size (by rw [numB_len]; omega)).mono ?_
  rintro e w2 ⟨a, c, rfl, ho, hb2⟩
  have HO := Lib.hid (Go.Joins.ownsRow_le ho hb1.size)
  have hb3 := hb1.trans (hb2.mono hb1.size)
  clear ho hb1 hb2
  go_wp2_with fail
  go_ret
  exact ⟨a, c, rfl, HO.out, hb3⟩
end Go.Proofs.YtnhnabcpkaeaaaaGreatDoor
