/- What snaps say, as bytes and back. No program. Conditions: as each says. -/
import Derived.Test.YthiijbjhgkeikaaDoorGSnapKeeps2
import Derived.Test.YthiijbjhgkeikaaDoorGSnapKeeps1
import Derived.Test.YthiijbjhgkeikaaDoorGSnapKeeps0
set_option linter.unusedVariables false
set_option linter.unusedSimpArgs false
namespace Go.Proofs.YthiijbjhgkeikaaDoor
open Go.RowKit
set_option maxRecDepth 20000
/-- A snap. -/
structure SnP where
  index : Int
  term : Int
  vs : List Int
  im : List Int
def zeroSn : SnP := ⟨0, 0, [], []⟩
def upGo : Int → List Int → Bool
  | _, [] => true
  | last, v :: r => (decide (last < v) && decide (v ≤ 9)) && upGo v r
theorem upGo_in : ∀ (l : List Int) (last : Int), upGo last l = true → ∀ v ∈ l, last < v ∧ v ≤ 9 := by
  intro l
  induction l with
  | nil => intro _ _ v hv; cases hv
  | cons x r ih =>
    intro last h v hv
    simp only [upGo, Bool.and_eq_true, decide_eq_true_eq] at h
    rcases List.mem_cons.1 hv with rfl | hv
    · exact h.1
    · have := ih x h.2 v hv
      omega
def snRight (s : SnP) : Bool := upGo 0 s.vs && ((decide (1 ≤ s.index) && decide (s.index ≤ 1099511627776)) && ((decide (0 ≤ s.term) && decide (s.term ≤ 1099511627776)) && decide (s.vs.length ≤ 7)))
theorem snRight_iff {s : SnP} : snRight s = true ↔ upGo 0 s.vs = true ∧ (1 ≤ s.index ∧ s.index ≤ 1099511627776) ∧ (0 ≤ s.term ∧ s.term ≤ 1099511627776) ∧ s.vs.length ≤ 7 := by
  simp [snRight]
def snHead (s : SnP) : List Int := [s.index, s.term, (s.vs.length : Int)] ++ s.vs
def snData (s : SnP) : List Int := (snHead s).flatMap (numB 8) ++ s.im
/-- A snap's bytes, and the error. -/
def snPut (s : SnP) : List Int × Int := if snRight s = false then ([], 4) else if 1048576 < (snData s).length then ([], 3) else (frameB 1 (snData s), 0)
/-- So many numbers, one behind the other. -/
def numsS : Nat → Bool → List Int → List Int × Bool × List Int
  | 0, b, l => ([], b, l)
  | n + 1, b, l => ((numS b l).1 :: (numsS n (numS b l).2.1 (numS b l).2.2).1, (numsS n (numS b l).2.1 (numS b l).2.2).2)
def sureS (b : List Int) (s : SnP) : SnP × Int := if (snPut s).2 = 0 ∧ (snPut s).1 = b then (s, 0) else (zeroSn, 4)
def snRead (b data : List Int) : SnP × Int :=
  let i := numS false data
  let t := numS i.2.1 i.2.2
  let n := numS t.2.1 t.2.2
  if n.1 < 0 ∨ 7 < n.1 then (zeroSn, 4) else
  let v := numsS n.1.toNat n.2.1 n.2.2
  if v.2.1 = true then (zeroSn, 4) else
  sureS b ⟨i.1, t.1, v.1, data.drop (24 + 8 * n.1.toNat)⟩
/-- The snap whose bytes these are, and the error. -/
def snGet (b : List Int) : SnP × Int :=
  match (scanS b).1 with
  | [p] => if (scanS b).2.1 ≠ b.length then (zeroSn, 4) else snRead b p.2
  | _ => (zeroSn, 4)
theorem sure_ok {b : List Int} {s : SnP} (h : (sureS b s).2 = 0) : (sureS b s).1 = s ∧ snPut s = (b, 0) := by
  unfold sureS at h ⊢
  split at h
  · rename_i h1
    rw [if_pos h1]
    exact ⟨rfl, Prod.ext h1.2 h1.1⟩
  · cases h
theorem sure_no {b : List Int} {s : SnP} (h : (sureS b s).2 ≠ 0) : sureS b s = (zeroSn, 4) := by
  unfold sureS at h ⊢
  split
  · rename_i h1
    rw [if_pos h1] at h
    exact absurd rfl h
  · rfl
theorem snPut_ok {s : SnP} {b : List Int} (h : snPut s = (b, 0)) : snRight s = true ∧ (snData s).length ≤ 1048576 ∧ b = frameB 1 (snData s) := by
  unfold snPut at h
  split at h
  · cases h
  · rename_i h1
    split at h
    · cases h
    · rename_i h2
      simp only [Prod.mk.injEq, and_true] at h
      exact ⟨by simpa using h1, by omega, h.symm⟩
theorem numsS_back : ∀ (l : List Int) (rest : List Int), (∀ n ∈ l, N64 n) → numsS l.length false (l.flatMap (numB 8) ++ rest) = (l, false, rest) := by
  intro l
  induction l with
  | nil => intro rest _; simp [numsS]
  | cons x r ih =>
    intro rest h
    have e : (x :: r).flatMap (numB 8) ++ rest = numB 8 x ++ (r.flatMap (numB 8) ++ rest) := by simp
    rw [e, List.length_cons]
    unfold numsS
    rw [numS_back _ _ (h x (by simp))]
    dsimp only
    rw [ih rest (fun n hn => h n (List.mem_cons_of_mem _ hn))]
theorem numS_rest {b : Bool} {l : List Int} (h : (numS b l).2.1 = false) : b = false ∧ (numS b l).2.2 = l.drop 8 ∧ 8 ≤ l.length := by
  unfold numS takeS at *
  dsimp only at *
  split at h
  · cases h
  · rename_i h1
    rw [if_neg h1]
    simp only [not_or, Bool.not_eq_true, Nat.not_lt] at h1
    exact ⟨h1.1, rfl, h1.2⟩
theorem numsS_rest : ∀ (n : Nat) (b : Bool) (l : List Int), (numsS n b l).2.1 = false → b = false ∧ (numsS n b l).2.2 = l.drop (8 * n) ∧ 8 * n ≤ l.length ∧ (numsS n b l).1.length = n := by
  intro n
  induction n with
  | zero => intro b l h; exact ⟨h, by simp [numsS], by omega, rfl⟩
  | succ n ih =>
    intro b l h
    unfold numsS at h ⊢
    dsimp only at h ⊢
    have h1 := ih _ _ h
    have h2 := numS_rest h1.1
    rw [h2.2.1] at h1
    rw [h2.2.1, h1.2.1]
    have h3 := h1.2.2.1
    rw [List.length_drop] at h3
    refine ⟨h2.1, by rw [List.drop_drop, show 8 + 8 * n = 8 * (n + 1) by omega], by omega, ?_⟩
    rw [List.length_cons, h1.2.2.2]
theorem snData_three (s : SnP) : snData s = numB 8 s.index ++ (numB 8 s.term ++ (numB 8 s.vs.length ++ (s.vs.flatMap (numB 8) ++ s.im))) := by
  simp [snData, snHead]
theorem flat_len8 (l : List Int) : (l.flatMap (numB 8)).length = 8 * l.length := by
  induction l with
  | nil => rfl
  | cons x r ih => rw [List.flatMap_cons, List.length_append, numB_len, ih, List.length_cons]; omega
theorem snData_len (s : SnP) : (snData s).length = 24 + 8 * s.vs.length + s.im.length := by
  rw [snData, List.length_append, flat_len8, snHead, List.length_append]
  simp
  omega
theorem snData_wf {s : SnP} (h : BytesWf s.im) : BytesWf (snData s) := by
  intro x hx
  rw [snData, List.mem_append] at hx
  rcases hx with hx | hx
  · obtain ⟨n, _, hn⟩ := List.mem_flatMap.1 hx
    exact numB_wf 8 n x hn
  · exact h x hx
theorem right_N64 {s : SnP} (h : snRight s = true) : N64 s.index ∧ N64 s.term ∧ (∀ v ∈ s.vs, N64 v) ∧ s.vs.length ≤ 7 := by
  obtain ⟨h1, h2, h3, h4⟩ := snRight_iff.1 h
  refine ⟨⟨by omega, by omega⟩, ⟨by omega, by omega⟩, fun v hv => ?_, h4⟩
  have := upGo_in _ _ h1 v hv
  exact ⟨by omega, by omega⟩
theorem four_bytes {n : Nat} (h : n < 4294967296) : BytesWf (fourB n) := by
  intro x hx
  simp only [fourB, List.mem_cons, List.not_mem_nil, or_false] at hx
  omega
theorem frame_wf {d : List Int} (hd : BytesWf d) (hl : d.length ≤ 1048576) : BytesWf (frameB 1 d) := by
  intro x hx
  unfold frameB at hx
  rcases List.mem_append.1 hx with hx | hx
  · rcases List.mem_append.1 hx with hx | hx
    · rcases List.mem_append.1 hx with hx | hx
      · exact four_bytes (by omega) x hx
      · rw [List.mem_singleton.1 hx]; omega
    · refine four_bytes (sumS_lt ?_) x hx
      intro y hy
      rcases List.mem_cons.1 hy with rfl | hy
      · omega
      · exact hd y hy
  · exact hd x hx
theorem snPut_wf {s : SnP} (hw : BytesWf s.im) : BytesWf (snPut s).1 := by
  unfold snPut
  split
  · exact fun x hx => (by cases hx)
  · split
    · exact fun x hx => (by cases hx)
    · exact frame_wf (snData_wf hw) (by omega)
theorem snPut_len (s : SnP) : (snPut s).1.length ≤ 1048585 := by
  unfold snPut
  split
  · exact Nat.zero_le _
  · split
    · exact Nat.zero_le _
    · dsimp only
      rw [frameB_len]
      omega
theorem scan_frame {d : List Int} (hw : BytesWf d) (hl : d.length ≤ 1048576) : scanS (frameB 1 d) = ([(1, d)], (frameB 1 d).length, false) := by
  have h := scan_all [(1, d)] (fun p hp => by
    rw [List.mem_singleton] at hp
    subst hp
    exact ⟨(by decide : (0 : Int) ≤ 1), (by decide : (1 : Int) ≤ 255), hl, hw⟩)
  simpa [putP] using h
theorem snRead_back {i t : Int} {vs im b : List Int} (hi : N64 i) (ht : N64 t) (hv : ∀ v ∈ vs, N64 v) (hl : vs.length ≤ 7) (h : snPut ⟨i, t, vs, im⟩ = (b, 0)) : snRead b (snData ⟨i, t, vs, im⟩) = (⟨i, t, vs, im⟩, 0) := by
  have e0 : snData ⟨i, t, vs, im⟩ = numB 8 i ++ (numB 8 t ++ (numB 8 vs.length ++ (vs.flatMap (numB 8) ++ im))) := snData_three ⟨i, t, vs, im⟩
  have e5 : (snData ⟨i, t, vs, im⟩).drop (24 + 8 * vs.length) = im := by
    rw [snData]
    exact List.drop_left' (by rw [flat_len8, snHead, List.length_append]; simp; omega)
  generalize snData ⟨i, t, vs, im⟩ = d at e0 e5 ⊢
  have e1 : numS false d = (i, false, numB 8 t ++ (numB 8 vs.length ++ (vs.flatMap (numB 8) ++ im))) := by
    rw [e0]; exact numS_back _ _ hi
  have e2 := numS_back t (numB 8 vs.length ++ (vs.flatMap (numB 8) ++ im)) ht
  have hN : N64 (vs.length : Int) := by unfold N64; omega
  have e3 := numS_back (vs.length : Int) (vs.flatMap (numB 8) ++ im) hN
  have e4 := numsS_back vs im hv
  unfold snRead
  rw [e1]
  dsimp only
  rw [e2]
  dsimp only
  rw [e3]
  dsimp only
  rw [if_neg (show ¬ ((vs.length : Int) < 0 ∨ 7 < (vs.length : Int)) by omega), Int.toNat_natCast, e4]
  dsimp only
  rw [if_neg (by simp), e5]
  unfold sureS
  rw [h, if_pos ⟨rfl, rfl⟩]
/-- What is put is got. -/
theorem snGet_back {s : SnP} {b : List Int} (hw : BytesWf s.im) (h : snPut s = (b, 0)) : snGet b = (s, 0) := by
  obtain ⟨h1, h2, h3⟩ := snPut_ok h
  have hn := right_N64 h1
  have hr := snRead_back hn.1 hn.2.1 hn.2.2.1 hn.2.2.2 h
  have hf := scan_frame (snData_wf hw) h2
  rw [← h3] at hf
  unfold snGet
  rw [hf]
  dsimp only
  rw [if_neg (by simp)]
  exact hr
theorem sure_ne {b : List Int} {s : SnP} (h : snPut s ≠ (b, 0)) : sureS b s = (zeroSn, 4) := by
  refine sure_no fun h2 => h (sure_ok h2).2
theorem snGet_fine {b : List Int} (hb : BytesWf b) : BytesWf (snGet b).1.im ∧ (snGet b).1.im.length ≤ b.length := by
  unfold snGet
  split
  · rename_i p hp
    split
    · exact ⟨fun x hx => (by cases hx), Nat.zero_le _⟩
    · unfold snRead
      dsimp only
      split
      · exact ⟨fun x hx => (by cases hx), Nat.zero_le _⟩
      · split
        · exact ⟨fun x hx => (by cases hx), Nat.zero_le _⟩
        · have hsp := scanS_put hb
          have hwd : BytesWf p.2 := (hsp.2.2 p (by rw [hp]; simp)).2.2.2
          have hle : p.2.length ≤ b.length := by
            have e := hsp.2.1
            rw [hp] at e
            have := congrArg List.length e
            rw [List.length_take] at this
            simp only [putP, List.flatMap_cons, List.flatMap_nil, List.append_nil, frameB_len] at this
            omega
          unfold sureS
          split
          · refine ⟨fun x hx => hwd x (List.mem_of_mem_drop hx), ?_⟩
            dsimp only
            rw [List.length_drop]
            omega
          · exact ⟨fun x hx => (by cases hx), Nat.zero_le _⟩
  · exact ⟨fun x hx => (by cases hx), Nat.zero_le _⟩
end Go.Proofs.YthiijbjhgkeikaaDoor
/- Bytes of a call's own, and an append to them. Conditions: as each says. -/
namespace Go.Proofs.YthiijbjhgkeikaaDoor
open Go.RowKit
set_option maxRecDepth 20000
/-- Bytes of a call's own. -/
structure BOwn (w : World) (base : Nat) (a : Option Addr) (n c : Nat) (L : List Int) : Prop where
  len : L.length = n
  row : w.ownsRow base 5 1 (.slice a n c) n (L.map bv)
theorem BOwn.below {w w' : World} {base n c B : Nat} {a : Option Addr} {L : List Int} (h : BOwn w base a n c L) (hb : Below B w w') (hB : w.heap.size ≤ B) : BOwn w' base a n c L := ⟨h.len, own_below h.row hb hB⟩
theorem BOwn.le {w : World} {base base' n c : Nat} {a : Option Addr} {L : List Int} (h : BOwn w base a n c L) (hB : base' ≤ base) : BOwn w base' a n c L := ⟨h.len, Go.Joins.ownsRow_le h.row hB⟩
theorem BOwn.in {w : World} {base n c : Nat} {a : Option Addr} {L : List Int} (h : BOwn w base a n c L) : BytesIn w w.heap.size a L := own_in h.len h.row
theorem BOwn.nil {w : World} {base n c : Nat} {a : Option Addr} {L : List Int} (h : BOwn w base a n c L) : a = none → c = 0 := by
  intro ha
  rcases Go.Joins.ownsRow_forms h.row with ⟨h1, _⟩ | ⟨g, c', h1⟩
  · cases h1; rfl
  · rw [ha] at h1; cases h1
theorem BOwn.lt {w : World} {base n c : Nat} {a : Option Addr} {L : List Int} (h : BOwn w base a n c L) : ∀ g, (Value.slice a n c).ownBlock = some g → base ≤ g ∧ g < w.heap.size := fun g hg => World.ownsRow.lt h.row g hg
theorem BOwn.kept {w w' : World} {base n c : Nat} {a : Option Addr} {L : List Int} {row : Option Nat} (h : BOwn w base a n c L) (hg : w.grownBy w' row) (hr : (Value.slice a n c).ownBlock = none ∨ (Value.slice a n c).ownBlock ≠ row) : BOwn w' base a n c L := ⟨h.len, h.row.kept hg hr⟩
def RNew (L : List Int) (w : World) (e : Ending) (w' : World) : Prop := ∃ a n c, e = .returned (.slice a n c) ∧ BOwn w' w.heap.size a n c L ∧ Below w.heap.size w w'
theorem wpList_append_bo {w : World} {ops : Array Oper} {rest : List Oper} {o : Oper} {a : Act} {Q : Exit → Act → World → Prop} (hgd : o.guard = none) (s x : Operand)
    (ho : o.op = .call { callee := .builtin .append, args := #[s, x], argTypes := #[23, 23] })
    (base : Nat) {a1 : Option Addr} {n1 c1 : Nat} {L1 : List Int} (hs : a.eval s = .slice a1 n1 c1) (hown : BOwn w base a1 n1 c1 L1)
    {ao : Option Addr} {n cap : Nat} {xs : List Int} (hx : a.eval x = .slice ao n cap) (hn : xs.length = n) (B : Nat) (hin : BytesIn w B ao xs) (hao : ao = none → cap = 0) (hlim : n1 + n ≤ 140737488351232) (hbase : base ≤ w.heap.size)
    (h : ∀ a2 n2 c2 w', BOwn w' base a2 n2 c2 (L1 ++ xs) → w.grownBy w' (Value.slice a1 n1 c1).ownBlock → n2 = n1 + n → wpList Tryd.prog ops Q rest (a.put o.dst (.slice a2 n2 c2)) w') : wpList Tryd.prog ops Q (o :: rest) a w := by
  obtain ⟨rfl, hrow⟩ := hown
  subst hn
  refine wpList_append_bytes hgd s x ho base _ L1 hs hrow ao cap xs hx B hin hao hlim hbase fun v' w' h1 h2 => ?_
  obtain ⟨a2, c2, rfl⟩ := row_slice h1
  exact h a2 _ c2 w' ⟨rfl, h1⟩ h2 (by rw [List.length_append])
end Go.Proofs.YthiijbjhgkeikaaDoor
/- log.copied: entries in memory of their own. Conditions: the entries' cells lie as their readings say. -/
namespace Go.Proofs.YthiijbjhgkeikaaDoor
open Go.RowKit
set_option maxRecDepth 20000
end Go.Proofs.YthiijbjhgkeikaaDoor
/- Entries among the arguments, with the bounds of what hangs on them. Conditions: they are read as the row reads them, their weights are bounded. -/
namespace Go.Proofs.YthiijbjhgkeikaaDoor
open Go.RowKit Go.ChangeShapes
set_option maxRecDepth 20000
/-- No part of a datum is heavier than memory may be. -/
def DSized {H : Type} (P : Program) (t : TypeId) (d : DataW H) : Prop := ∀ n ∈ d.weights P t, n ≤ reachBytes
theorem DSized.arg {H : Type} {P : Program} {ts : List TypeId} {ds : List (DataW H)} (hsz : (DataW.weightsEach P ts ds).all (· ≤ reachBytes) = true) (j : Nat) {t : TypeId} {d : DataW H} (hj : ts[j]? = some t) (hd : ds[j]? = some d) : DSized P t d := fun n hn => by
  have := List.all_eq_true.1 hsz n (DataW.weights_mem_each hj hd n hn)
  simpa using this
theorem DSized.field {H : Type} {P : Program} {t : TypeId} {fs : Array Field} {xs : List (DataW H × List MemPlace)} (ht : P.underlying t = some (.struct fs)) (h : DSized P t (.agg (xs.map (·.1)))) {i : Nat} {f : Field} {y : DataW H × List MemPlace} (hf : fs[i]? = some f) (hy : xs[i]? = some y) : DSized P f.type y.1 := fun n hn => by
  refine h n ?_
  simp only [DataW.weights, ht]
  exact DataW.weights_mem_each (j := i) (by simp [hf]) (by simp [hy]) n hn
theorem weights_mem_all {H : Type} {P : Program} {e : TypeId} : ∀ {ds : List (DataW H)} {d : DataW H}, d ∈ ds → ∀ n ∈ d.weights P e, n ∈ DataW.weightsAll P e ds
  | d0 :: ds, d, h, n, hn => by
    simp only [DataW.weightsAll, List.mem_append]
    rcases List.mem_cons.1 h with rfl | h
    · exact Or.inl hn
    · exact Or.inr (weights_mem_all h n hn)
theorem DSized.elem {H : Type} {P : Program} {t e : TypeId} {elems sp : List (DataW H)} (ht : P.underlying t = some (.slice e)) (h : DSized P t (.slice elems sp)) {x : DataW H} (hx : x ∈ elems) : DSized P e x := fun n hn => by
  refine h n ?_
  simp only [DataW.weights, ht, List.mem_cons, List.mem_append]
  exact Or.inr (Or.inl (weights_mem_all hx n hn))
theorem DSized.len {H : Type} {P : Program} {t e : TypeId} {elems sp : List (DataW H)} (ht : P.underlying t = some (.slice e)) (h : DSized P t (.slice elems sp)) : elems.length * P.bytesOf e ≤ reachBytes := by
  have := h ((elems.length + sp.length) * P.bytesOf e) (by simp [DataW.weights, ht])
  exact Nat.le_trans (Nat.mul_le_mul_right _ (Nat.le_add_right _ _)) this
/-- A slice's elements: none, or at an address, each by its cells and its own reading, with the bounds. -/
theorem slice_sized {H : Type} {enc : TypeId × Value → H} {P : Program} {W : World} {base : Nat} {sp : Nat → Bool} {hd : Bool} {t e : TypeId} {ao : Option Addr} {len cap C : Nat} {d : DataW H} {p : List MemPlace}
    (ht : P.underlying t = some (.slice e)) (hC : P.cellsOf e = C) (hC0 : 0 < C) (h : DataW.Trod enc P W base sp hd t (.slice ao len cap) d p) (hz : DSized P t d) :
    len * P.bytesOf e ≤ reachBytes ∧ (len = 0 ∨ ∃ (b off n : Nat) (D : Nat → DataW H) (Pl : Nat → List MemPlace), ao = some ⟨b, off, none⟩ ∧ base ≤ b ∧ b < W.heap.size ∧
      ∀ i, i < len → DSized P e (D i) ∧ ∃ cs : List Value, cs.length = C ∧ (∀ j, j < C → W.cell? ⟨b, off + i * C + j, none⟩ = cs[j]?) ∧ DataW.trod enc P W base sp hd n e cs = some (D i, Pl i)) := by
  obtain ⟨fuel, hf⟩ := h
  rcases Go.Deep.open_slice ht hf with ⟨h0, _⟩ | ⟨a, len', cap', m, n, D, Pl, h0, hb, hl, hm, hmm, hd, hx⟩
  · simp [Value.cells] at h0
    obtain ⟨rfl, rfl, rfl⟩ := h0
    exact ⟨by simp, Or.inl rfl⟩
  · simp [Value.cells] at h0
    obtain ⟨rfl, rfl, rfl⟩ := h0
    simp only [Prod.mk.injEq] at hd
    obtain ⟨rfl, _⟩ := hd
    have hlen := DSized.len ht hz
    rw [List.length_map, List.length_range] at hlen
    refine ⟨hlen, ?_⟩
    by_cases hz0 : len = 0
    · exact Or.inl hz0
    · right
      have hlm : len ≤ m := by rw [hmm]; split <;> omega
      rw [hC] at hx
      obtain ⟨b, off, spot⟩ := a
      have hs : spot = none := by
        obtain ⟨cs', h1, _⟩ := hx 0 (by omega)
        have h2 := (World.cells?_some h1).2.2 0 hC0
        have h3 : cs'.length = C := (World.cells?_some h1).2.1
        rw [List.getElem?_eq_getElem (by omega)] at h2
        simpa [Addr.add] using World.cell?_spot h2
      subst hs
      refine ⟨b, off, n, D, Pl, rfl, hb, ?_, fun i hi => ⟨DSized.elem ht hz (List.mem_map.2 ⟨i, List.mem_range.2 hi, rfl⟩), ?_⟩⟩
      · obtain ⟨cs', h1, _⟩ := hx 0 (by omega)
        have h2 := World.cells?_block h1 hC0
        simpa [Addr.add] using h2
      · obtain ⟨cs', h1, h2⟩ := hx i (by omega)
        obtain ⟨_, h3, h4⟩ := World.cells?_some h1
        refine ⟨cs', h3, fun j hj => ?_, h2⟩
        have := h4 j hj
        rw [Go.Deep.add_add, Go.WideShapes.add_plain] at this
        rw [← this, Nat.add_assoc]
/-- A slice among the arguments, whose things are read one by one, with the bounds. -/
theorem open_sized {α : Type} {k : Nat} {cells : α → List Value} {sub : World → Nat → α → Prop} {H : Type} {enc : TypeId × Value → H} {P : Program} {W : World} {sp : Nat → Bool} {hd : Bool} {t e : TypeId} {ao : Option Addr} {len cap : Nat} {d : DataW H} {p : List MemPlace} (Q : α → Prop)
    (ht : P.underlying t = some (.slice e)) (hC : P.cellsOf e = k) (hk : 0 < k)
    (hel : ∀ (cs : List Value) (n : Nat) (y : DataW H) (pl : List MemPlace), cs.length = k → DataW.trod enc P W 0 sp hd n e cs = some (y, pl) → DSized P e y → ∃ x : α, cells x = cs ∧ sub W W.heap.size x ∧ Q x)
    (h : DataW.Trod enc P W 0 sp hd t (.slice ao len cap) d p) (hz : DSized P t d) :
    ∃ xs : List α, xs.length = len ∧ RowsIn k cells sub W W.heap.size ao xs ∧ (∀ x ∈ xs, Q x) ∧ (ao = none → cap = 0) ∧ len ≤ cap ∧ len * P.bytesOf e ≤ reachBytes := by
  obtain ⟨h1, h2, h3⟩ := slice_shape ht h
  obtain ⟨hm, h0 | ⟨b, off, n, D, Pl, e1, _, hb, hx⟩⟩ := slice_sized ht hC hk h hz
  · exact ⟨[], h0.symm, Or.inl rfl, (by intro x hx; cases hx), h3, h1, hm⟩
  · have hne : ∀ i, i < len → ∃ x : α, (∀ j, j < k → W.cell? ⟨b, off + i * k + j, none⟩ = (cells x)[j]?) ∧ sub W W.heap.size x ∧ Q x := by
      intro i hi
      obtain ⟨hzi, cs, hl, hc, ht'⟩ := hx i hi
      obtain ⟨x, rfl, hs, hq⟩ := hel cs n _ _ hl ht' hzi
      exact ⟨x, hc, hs, hq⟩
    have key : ∀ m, m ≤ len → ∃ xs : List α, xs.length = m ∧ (∀ x ∈ xs, Q x) ∧ ∀ (i : Nat) (x : α), xs[i]? = some x → (∀ j, j < k → W.cell? ⟨b, off + i * k + j, none⟩ = (cells x)[j]?) ∧ sub W W.heap.size x := by
      intro m
      induction m with
      | zero => intro _; exact ⟨[], rfl, (by intro x hx; cases hx), (by intro i x hx; simp at hx)⟩
      | succ m ih =>
        intro hm'
        obtain ⟨xs, e1, e2, e3⟩ := ih (by omega)
        obtain ⟨x, g1, g2, g3⟩ := hne m (by omega)
        refine ⟨xs ++ [x], by simp [e1], fun y hy => ?_, fun i y hy => ?_⟩
        · rcases List.mem_append.1 hy with hy | hy
          · exact e2 y hy
          · rw [List.mem_singleton.1 hy]; exact g3
        · by_cases hi : i < m
          · rw [List.getElem?_append_left (by omega)] at hy; exact e3 i y hy
          · rw [List.getElem?_append_right (by omega)] at hy
            have hi' : i = m := by
              rcases Nat.lt_or_ge (i - xs.length) 1 with hh | hh
              · omega
              · rw [List.getElem?_eq_none (by simpa using hh)] at hy; cases hy
            subst hi'
            rw [e1, Nat.sub_self] at hy
            obtain rfl : x = y := by simpa using hy
            exact ⟨g1, g2⟩
    obtain ⟨xs, q1, q2, q3⟩ := key len (Nat.le_refl _)
    exact ⟨xs, q1, Or.inr ⟨b, off, e1, hb, q3⟩, q2, h3, h1, hm⟩
theorem cells_i64 : Tryd.prog.cellsOf 3 = 1 := by kernel_rfl
theorem cells_ints : Tryd.prog.cellsOf 22 = 1 := by kernel_rfl
theorem i_el {H : Type} {enc : TypeId × Value → H} {W : World} {sp : Nat → Bool} {hd : Bool} (cs : List Value) (n : Nat) (y : DataW H) (pl : List MemPlace) (hl : cs.length = 1) (h : DataW.trod enc Tryd.prog W 0 sp hd n 3 cs = some (y, pl)) (_ : DSized Tryd.prog 3 y) :
    ∃ x : Int, iCells x = cs ∧ noSub W W.heap.size x ∧ (Lit.int .i64 x).wf = true := by
  obtain ⟨k0, e0, _, w0⟩ := DataW.trod_int Tryd.underlying3 h
  exact ⟨k0, e0.symm, trivial, w0⟩
theorem bytes_i : Tryd.prog.bytesOf 3 = 8 := by kernel_rfl
end Go.Proofs.YthiijbjhgkeikaaDoor
/- The bytes that forms are written as are bytes. No program. Conditions: as each says. -/
namespace Go.Proofs.YthiijbjhgkeikaaDoor
open Go.RowKit
set_option maxRecDepth 20000
theorem BytesWf.app {a b : List Int} (h : BytesWf a) (h2 : BytesWf b) : BytesWf (a ++ b) := fun x hx => (List.mem_append.1 hx).elim (h x) (h2 x)
theorem BytesWf.flat {α : Type} {f : α → List Int} {l : List α} (h : ∀ x ∈ l, BytesWf (f x)) : BytesWf (l.flatMap f) := fun x hx => by
  obtain ⟨y, hy, hx⟩ := List.mem_flatMap.1 hx
  exact h y hy x hx
theorem u8_of {n : Int} (h : (Lit.int .u8 n).wf = true) : 0 ≤ n ∧ n < 256 := by
  have h : (decide (IntKind.u8.min ≤ n) && decide (n ≤ IntKind.u8.max)) = true := h
  have e1 : IntKind.u8.min = 0 := by decide
  have e2 : IntKind.u8.max = 255 := by decide
  rw [e1, e2] at h
  simp at h
  omega
theorem of_lit {n : Int} (h : (Lit.int .i64 n).wf = true) : -9223372036854775808 ≤ n ∧ n ≤ 9223372036854775807 := by
  have h : (decide (IntKind.i64.min ≤ n) && decide (n ≤ IntKind.i64.max)) = true := h
  have e1 : IntKind.i64.min = -9223372036854775808 := by decide
  have e2 : IntKind.i64.max = 9223372036854775807 := by decide
  rw [e1, e2] at h
  simpa using h
end Go.Proofs.YthiijbjhgkeikaaDoor
/- Snaps as they lie in memory. Conditions: as each says. -/
namespace Go.Proofs.YthiijbjhgkeikaaDoor
open Go.RowKit
set_option maxRecDepth 20000
/-- A snap: its numbers, its voters and image where they lie. -/
structure Sn where
  index : Int
  term : Int
  va : Option Addr
  vs : List Int
  vc : Nat
  ia : Option Addr
  im : List Int
  ic : Nat
def Sn.plain (x : Sn) : SnP := ⟨x.index, x.term, x.vs, x.im⟩
def snVal (x : Sn) : Value := .agg #[.int .i64 x.index, .int .i64 x.term, .slice x.va x.vs.length x.vc, .slice x.ia x.im.length x.ic]
def snArr (x : Sn) : Array Value := #[.int .i64 x.index, .int .i64 x.term, .slice x.va x.vs.length x.vc, .slice x.ia x.im.length x.ic]
def zeroSx : Sn := ⟨0, 0, none, [], 0, none, [], 0⟩
def snSub (w : World) (B : Nat) (x : Sn) : Prop := NumsIn w B x.va x.vs ∧ BytesIn w B x.ia x.im
theorem snSub_below {w w' : World} {B B' : Nat} {x : Sn} (h : snSub w B x) (hb : Below B' w w') (hB : B ≤ B') : snSub w' B x := ⟨h.1.below noSub_kept hb hB, h.2.below hb hB⟩
theorem snSub_mono {w : World} {B B' : Nat} {x : Sn} (h : snSub w B x) (hB : B ≤ B') : snSub w B' x := ⟨h.1.mono noSub_rising hB, h.2.mono hB⟩
/-- A snap whose parts are not too great. -/
structure SnFine (x : Sn) : Prop where
  index : N64 x.index
  term : N64 x.term
  vs : ∀ v ∈ x.vs, N64 v
  vn : x.vs.length ≤ 1000000
  im : BytesWf x.im
  ln : x.im.length ≤ 4000000
  vnil : x.va = none → x.vc = 0
  inil : x.ia = none → x.ic = 0
  vcap : x.vs.length ≤ x.vc
  icap : x.im.length ≤ x.ic
end Go.Proofs.YthiijbjhgkeikaaDoor
/- Whether a snap is right; numbers as bytes. Conditions: as each says. -/
namespace Go.Proofs.YthiijbjhgkeikaaDoor
open Go.RowKit
set_option maxRecDepth 20000
theorem pair_of (g : Bool) : ∃ P : Bool × Bool, g = P.1 := ⟨(g, g), rfl⟩
theorem upGo_take : ∀ (l : List Int) (last : Int) (k : Nat) (x : Int), l[k]? = some x → upGo last (l.take k) = true → upGo last l = true → (l.take k).getLastD last < x ∧ x ≤ 9 := by
  intro l
  induction l with
  | nil => intro last k x h; simp at h
  | cons y l ih =>
    intro last k x h h1 h2
    cases k with
    | zero =>
      simp only [List.getElem?_cons_zero, Option.some.injEq] at h
      subst h
      simp only [upGo, Bool.and_eq_true, decide_eq_true_eq] at h2
      exact h2.1
    | succ k =>
      simp only [List.getElem?_cons_succ] at h
      simp only [List.take_succ_cons, upGo, Bool.and_eq_true] at h1 h2
      have := ih y k x h h1.2 h2.2
      rw [List.take_succ_cons, List.getLastD_cons]
      exact this
theorem upGo_snoc : ∀ (l : List Int) (last x : Int), upGo last (l ++ [x]) = (upGo last l && (decide (l.getLastD last < x) && decide (x ≤ 9))) := by
  intro l
  induction l with
  | nil => intro last x; simp [upGo]
  | cons y l ih =>
    intro last x
    rw [List.cons_append, upGo, ih, upGo, List.getLastD_cons]
    simp only [Bool.and_assoc]
theorem up_last {xs : List Int} {k : Nat} {x : Int} (hkx : xs[k]? = some x) (h1 : upGo 0 (xs.take k) = true) (h : ¬ ((xs.take k).getLastD 0 < x ∧ x ≤ 9)) : upGo 0 xs = false := by
  cases hh : upGo 0 xs with
  | false => rfl
  | true => exact absurd (upGo_take xs 0 k x hkx h1 hh) h
set_option maxHeartbeats 2000000 in
theorem sright_any (x : Sn) (w : World) (hx : NumsIn w w.heap.size x.va x.vs) (hf : SnFine x) (g : Bool) (hg : snRight x.plain = g) :
    Calls Tryd.prog 38 #[snVal x] w fun e w' => e = .returned (.bool g) ∧ Below w.heap.size w w' := by
  obtain ⟨si, st, va, xs, vc, ia, im, ic⟩ := x
  have hl := hf.vn
  clear hf
  dsimp only [snVal, Sn.plain] at hx hg hl ⊢
  obtain ⟨n, hn⟩ : ∃ n, xs.length = n := ⟨_, rfl⟩
  rw [hn] at hl ⊢
  have hg2 : g = (upGo 0 xs && ((decide (1 ≤ si) && decide (si ≤ 1099511627776)) && ((decide (0 ≤ st) && decide (st ≤ 1099511627776)) && decide (n ≤ 7)))) := by
    rw [← hg, ← hn]; rfl
  have HX := Lib.hid hx
  have HN := Lib.hid hn
  obtain ⟨P, hP⟩ := pair_of g
  rw [hP] at hg2
  have HG := Lib.hid hg2
  rw [hP]
  clear hx hn hg hg2 hP
  go_enter Tryd.func38, Tryd.ntmps38
  go_wp2_with fail
  have hb0 := (Below.refl w.heap.size w).alloc (Nat.le_refl _) (.cells #[.int .i64 si, .int .i64 st, .slice va n vc, .slice ia im.length ic] 25)
  have hk0 := heap_alloc_new w (.cells #[.int .i64 si, .int .i64 st, .slice va n vc, .slice ia im.length ic] 25)
  generalize w.alloc (.cells #[.int .i64 si, .int .i64 st, .slice va n vc, .slice ia im.length ic] 25) = w0 at hb0 hk0 ⊢
  have q0 : w0.cell? ⟨w.heap.size, 0, none⟩ = some (.int .i64 si) := Go.Joins.cell_of_block hk0 0
  have q1 : w0.cell? ⟨w.heap.size, 1, none⟩ = some (.int .i64 st) := Go.Joins.cell_of_block hk0 1
  have q2 : w0.cell? ⟨w.heap.size, 2, none⟩ = some (.slice va n vc) := Go.Joins.cell_of_block hk0 2
  have HB0 := Lib.hid hb0
  clear hk0 hb0
  go_loopw [3, 9] (fun m i wr => ∃ k : Nat, k ≤ n ∧ i = .int .i64 k ∧ m = .int .i64 ((xs.take k).getLastD 0) ∧ upGo 0 (xs.take k) = true ∧ w0 = wr) (fun _ i _ => n - (intOf i).toNat)
  case atStart => exact ⟨0, by omega, rfl, rfl, rfl, rfl⟩
  case round =>
    obtain ⟨k, hk, rfl, rfl, hall, rfl⟩ := hrel
    have HA := Lib.hid hall
    clear hall
    by_cases hlt : k < n
    · have i1 : (k : Int) < n := by omega
      have hkx : xs[k]? = some (xs[k]'(by rw [HN.out]; exact hlt)) := List.getElem?_eq_getElem _
      have htk : xs.take (k + 1) = xs.take k ++ [xs[k]'(by rw [HN.out]; exact hlt)] := List.take_succ_eq_append_getElem _
      obtain ⟨b, off, hao, hb, hc, _⟩ := HX.out.at hkx
      generalize xs[k]'(by rw [HN.out]; exact hlt) = x at hc hkx htk
      have c0 : w0.cell? ⟨b, off + k, none⟩ = some (.int .i64 x) := by
        have := hc 0 (by decide)
        rw [Nat.mul_one, Nat.add_zero] at this
        exact (HB0.out.cell (p := ⟨b, _, none⟩) hb).trans this
      subst hao
      have HT := Lib.hid htk
      have hbad : ¬ ((xs.take k).getLastD 0 < x ∧ x ≤ 9) → P.1 = false := fun h => by
        rw [HG.out, up_last hkx HA.out h, Bool.false_and]
      have HBAD := Lib.hid hbad
      obtain ⟨q, hq⟩ : ∃ q, (xs.take k).getLastD 0 = q := ⟨_, rfl⟩
      rw [hq] at HBAD
      rw [hq]
      have HQ := Lib.hid hq
      clear hc hkx htk hbad hq
      by_cases h1 : x ≤ q
      · have hf := HBAD.out (by omega)
        go_wp2_with fail
        go_ret
        exact ⟨by first | rfl | (rw [hf]; rfl), HB0.out⟩
      · by_cases h2 : 9 < x
        · have hf := HBAD.out (by omega)
          go_wp2_with fail
          go_ret
          exact ⟨by first | rfl | (rw [hf]; rfl), HB0.out⟩
        · have hv : upGo 0 (xs.take (k + 1)) = true ∧ (xs.take (k + 1)).getLastD 0 = x := by
            rw [HT.out, upGo_snoc, HA.out, HQ.out]
            exact ⟨by simp; omega, by simp⟩
          have HV := Lib.hid hv
          clear hv
          go_wp2_with fail
          go_roundw
          case rel => exact ⟨k + 1, by omega, by go_num, by rw [HV.out.2], HV.out.1, by first | rfl | trivial⟩
          case measure => simp [intOf] <;> omega
    · have i1 : ¬ (k : Int) < n := by omega
      obtain rfl : k = n := by omega
      have hall : upGo 0 xs = true := by
        have := HA.out
        rwa [List.take_of_length_le (by rw [HN.out]; exact Nat.le_refl _)] at this
      have hfin := HG.out
      rw [hall, Bool.true_and] at hfin
      have HF := Lib.hid hfin
      clear hall hfin
      by_cases h1 : 1 ≤ si
      · by_cases h2 : si ≤ 1099511627776
        · by_cases h3 : 0 ≤ st
          · by_cases h4 : st ≤ 1099511627776
            · by_cases h5 : k ≤ 7
              · have j5 : (k : Int) ≤ 7 := by omega
                go_wp2_with fail
                go_ret
                exact ⟨by rw [HF.out]; simp [h1, h2, h3, h4, h5] <;> (intros; omega), HB0.out⟩
              · have j5 : ¬ (k : Int) ≤ 7 := by omega
                go_wp2_with fail
                go_ret
                exact ⟨by rw [HF.out]; simp [h1, h2, h3, h4, h5] <;> (intros; omega), HB0.out⟩
            · go_wp2_with fail
              go_ret
              exact ⟨by rw [HF.out]; simp [h1, h2, h3, h4] <;> (intros; omega), HB0.out⟩
          · go_wp2_with fail
            go_ret
            exact ⟨by rw [HF.out]; simp [h1, h2, h3] <;> (intros; omega), HB0.out⟩
        · go_wp2_with fail
          go_ret
          exact ⟨by rw [HF.out]; simp [h1, h2] <;> (intros; omega), HB0.out⟩
      · go_wp2_with fail
        go_ret
        exact ⟨by rw [HF.out]; simp [h1] <;> (intros; omega), HB0.out⟩
theorem snumbers_any (ao : Option Addr) (n cap : Nat) (xs : List Int) (L : List Int) (w : World) (B : Nat) (hL : xs.flatMap (numB 8) = L) (hn : xs.length = n) (hx : NumsIn w B ao xs) (hB : B ≤ w.heap.size) (hl : n ≤ 1000000) :
    Calls Tryd.prog 41 #[.slice ao n cap] w (RNew L w) := by
  have HX := Lib.hid (hx.mono noSub_rising hB)
  have HN := Lib.hid hn
  have HL := Lib.hid hL
  clear hx hn hL
  go_enter Tryd.func41, Tryd.ntmps41
  go_wp2_with fail
  go_loopw [3, 8] (fun v i wr => ∃ (k : Nat) (a : Option Addr) (c : Nat), k ≤ n ∧ i = .int .i64 k ∧ v = .slice a (8 * k) c ∧ BOwn wr w.heap.size a (8 * k) c ((xs.take k).flatMap (numB 8)) ∧ Below w.heap.size w wr) (fun _ i _ => n - (intOf i).toNat)
  case atStart => exact ⟨0, none, 0, by omega, rfl, rfl, ⟨rfl, World.ownsRow_nil _ _ _ _⟩, Below.refl _ _⟩
  case round =>
    obtain ⟨k, a, c, hk, rfl, rfl, hown, hbel⟩ := hrel
    have HO := Lib.hid hown
    have hsz := hbel.size
    clear hown
    by_cases hlt : k < n
    · have i1 : (k : Int) < n := by omega
      have hkx : xs[k]? = some (xs[k]'(by rw [HN.out]; exact hlt)) := List.getElem?_eq_getElem _
      have htk : xs.take (k + 1) = xs.take k ++ [xs[k]'(by rw [HN.out]; exact hlt)] := List.take_succ_eq_append_getElem _
      obtain ⟨b, off, hao, hb, hc, _⟩ := HX.out.at hkx
      generalize xs[k]'(by rw [HN.out]; exact hlt) = x at hc hkx htk
      have c0 : wr.cell? ⟨b, off + k, none⟩ = some (.int .i64 x) := by
        have := hc 0 (by decide)
        rw [Nat.mul_one, Nat.add_zero] at this
        exact (hbel.cell (p := ⟨b, _, none⟩) hb).trans this
      subst hao
      have HT := Lib.hid htk
      obtain ⟨m, hm⟩ : ∃ m, 8 * k = m := ⟨_, rfl⟩
      have HM := Lib.hid hm
      rw [hm] at HO ⊢
      clear hc hkx htk hm
      go_wp2_with fail
      refine (number_w x _ wr rfl).mono ?_
      rintro e w2 ⟨a1, c1, rfl, ho1, hb1⟩
      have HO1 := Lib.hid ho1
      have hb2 := hbel.trans (hb1.mono hsz)
      have hz1 := hb1.size
      clear ho1 c0
      go_wp2_with (at_builtin; refine wpList_append_bo rfl (.tmp 12) (.tmp 14) rfl w.heap.size rfl (HO.out.below hb1 (Nat.le_refl _)) rfl rfl _ (own_bytes' HO1.out) (own_none HO1.out) (by have := HM.out; rw [numB_len]; omega) (by omega) ?_)
      intro a2 n2 c2 w3 hown hg hn2
      have hb3 := hb2.grown hg (by omega) (fun k hk => (HO.out.lt k hk).1)
      have hn3 : n2 = 8 * (k + 1) := by rw [hn2, numB_len, ← HM.out]; omega
      subst hn3
      have HO2 := Lib.hid (show BOwn w3 w.heap.size a2 (8 * (k + 1)) c2 ((xs.take (k + 1)).flatMap (numB 8)) by
        rw [HT.out, List.flatMap_append, List.flatMap_singleton]; exact hown)
      clear hown hg hn2
      go_wp2_with fail
      go_roundw
      case rel => exact ⟨k + 1, a2, c2, by omega, by go_num, rfl, HO2.out, hb3⟩
      case measure => simp [intOf] <;> omega
    · have i1 : ¬ (k : Int) < n := by omega
      obtain rfl : k = n := by omega
      go_wp2_with fail
      go_ret
      have hown := HO.out
      rw [List.take_of_length_le (by rw [HN.out]; exact Nat.le_refl _), HL.out] at hown
      exact ⟨a, _, c, rfl, hown, hbel⟩
end Go.Proofs.YthiijbjhgkeikaaDoor
/- The sum of bytes, of the program and of its reference. Conditions: the slice's cells lie as its reading says. -/
namespace Go.Proofs.YthiijbjhgkeikaaDoor
open Go.RowKit
set_option maxRecDepth 20000
theorem sum_any (ao : Option Addr) (cap : Nat) (xs : List Int) (w : World) (B : Nat) (hx : BytesIn w B ao xs) (hw : BytesWf xs) (hl : xs.length ≤ 4611686018427387904) :
    Calls Tryd.prog 63 #[.slice ao xs.length cap] w fun e w' => e = .returned (.int .u32 (sumS xs)) ∧ w = w' := by
  have HX := Lib.hid hx
  clear hx
  go_enter Tryd.func63, Tryd.ntmps63
  go_wp2_with fail
  go_loopw [3, 5, 8] (fun v _ i wr => wr = w ∧ ∃ (k : Nat) (z : Nat), k ≤ xs.length ∧ i = .int .i64 k ∧ v = .int .u32 z ∧ z = sumTo xs k ∧ z < 4294967296) (fun _ _ i _ => xs.length - (intOf i).toNat)
  case atStart => exact ⟨rfl, 0, 4294967295, by omega, rfl, rfl, rfl, by decide⟩
  case round =>
    obtain ⟨rfl, k, z, hk, rfl, rfl, hz, h1⟩ := hrel
    have HZ := Lib.hid hz
    clear hz
    by_cases hlt : k < xs.length
    · have i1 : (k : Int) < xs.length := by omega
      rcases HX.out with h0 | ⟨b, off, rfl, hb, hc⟩
      · rw [h0] at hlt; simp at hlt
      have c0 := hc k hlt
      have hxw := hw _ (bytes_mem hlt)
      have hst := sumTo_succ hlt
      obtain ⟨x, hxe⟩ : ∃ x, x = xs.getD k 0 := ⟨_, rfl⟩
      rw [← hxe] at c0 hxw hst
      rw [← HZ.out] at hst
      have HS := Lib.hid hst
      have HB := Lib.hid (byte_in h1 hxw)
      have h2 := Nat.xor_lt_two_pow (n := 32) (x := z) (y := x.toNat) (by omega) (by omega)
      clear hxe hc hst
      go_wp2_with fail
      go_loopw [3, 16] (fun v i wx => wx = wr ∧ ∃ (j : Nat), j ≤ 8 ∧ i = .int .i64 j ∧ v = .int .u32 (itN j (z ^^^ x.toNat))) (fun _ i _ => 8 - (intOf i).toNat)
      case atStart => exact ⟨rfl, 0, by omega, rfl, congrArg (Value.int .u32) HB.out⟩
      case round =>
        obtain ⟨rfl, j, hj, rfl, rfl⟩ := hrel
        by_cases hlj : j < 8
        · have i2 : (j : Int) < 8 := by omega
          have h3 := itN_lt h2 j
          have HQ := Lib.hid (bit_prog h3)
          have HR := Lib.hid (show itN (j + 1) (z ^^^ x.toNat) = bitN (itN j (z ^^^ x.toNat)) from rfl)
          generalize itN j (z ^^^ x.toNat) = u at h3 HQ HR ⊢
          go_wp2_with fail
          go_roundw
          case rel => exact ⟨trivial, j + 1, by omega, by go_num, congrArg (Value.int .u32) (by rw [HR.out]; exact HQ.out)⟩
          case measure => simp [intOf]; omega
        · obtain rfl : j = 8 := by omega
          have h3 := itN_lt h2 8
          have HR := Lib.hid (show byteN z x = itN 8 (z ^^^ x.toNat) from rfl)
          generalize itN 8 (z ^^^ x.toNat) = u at h3 HR ⊢
          go_wp2_with fail
          go_roundw
          case rel => exact ⟨trivial, k + 1, u, by omega, by go_num, rfl, by rw [HS.out, HR.out], h3⟩
          case measure => simp [intOf]; omega
    · obtain rfl : k = xs.length := by omega
      have H5 := Lib.hid (u32_not h1)
      go_wp2_with fail
      go_ret
      exact ⟨congrArg (fun n => Ending.returned (.int .u32 n)) (by rw [H5.out]; unfold sumS; rw [HZ.out]), rfl⟩
end Go.Proofs.YthiijbjhgkeikaaDoor
