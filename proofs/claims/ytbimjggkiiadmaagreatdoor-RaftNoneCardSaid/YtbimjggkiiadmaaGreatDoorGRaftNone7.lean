/- Steps of a region that draws its order, in worlds of which something is kept until all operations but the last have come up. Any program. Conditions: as each says. -/
import Derived.Test.YtbimjggkiiadmaaGreatDoorGRaftNone3
import Derived.Test.YtbimjggkiiadmaaGreatDoorGRaftNone6
set_option linter.unusedVariables false
set_option linter.unusedSimpArgs false
namespace Go.Proofs.YtbimjggkiiadmaaGreatDoor
open Go.RowKit
section
variable {P : Program} {md : Region.Mode} {ops : Array Oper} {Q : Exit → Act → World → Prop} {S : World → Prop}
/-- Is something not listed yet? -/
def leftOf18 (l : Array Bool) : Bool := l.contains false
theorem leftOf18_of {l : Array Bool} {i : Nat} (h : l.getD i true = false) : leftOf18 l = true := by
  unfold leftOf18
  rw [Array.contains_iff_mem]
  by_cases hi : i < l.size
  · have : l[i] = false := by simpa [Array.getD, hi] using h
    rw [← this]
    exact Array.getElem_mem hi
  · simp [Array.getD, hi] at h
/-- Whatever order is picked, S holds behind every operation but the last. -/
def wpAnyT (P : Program) (md : Region.Mode) (ops : Array Oper) (Q : Exit → Act → World → Prop) (S : World → Prop) : Nat → Array Bool → Act → World → Prop
  | 0, listed, a, w => Region.ready md ops listed = [] ∧ Q .normal a w
  | fuel + 1, listed, a, w =>
    (Region.ready md ops listed = [] → Q .normal a w) ∧
    ∀ i ∈ Region.ready md ops listed, wpOp P ops Q i (fun a' w' => (leftOf18 (listed.setIfInBounds i true) = true → S w') ∧ wpAnyT P md ops Q S fuel (listed.setIfInBounds i true) a' w') a w
theorem wpAny_of_T : ∀ (fuel : Nat) (listed : Array Bool) (a : Act) (w : World), wpAnyT P md ops Q S fuel listed a w → wpAny P md ops Q fuel listed a w
  | 0, _, _, _, h => h
  | fuel + 1, _, _, _, h => ⟨h.1, fun i hi => wpOp_mono (fun a' w' h' => wpAny_of_T fuel _ a' w' h'.2) (h.2 i hi)⟩
theorem wpAnyT_first {i s : Nat} {oi os : Oper} {v : Value} (hs0 : ops[s]? = some os) (hwait : ∃ e ∈ os.after, Region.binds md e = true ∧ e.on = i) (hi : ops[i]? = some oi) (hsel : ∀ (j : Nat) (o : Oper) cs b, ops[j]? = some o → o.op ≠ .select cs b)
    (hQ : ∀ c a w, Q (.panic c) (a.put oi.dst v) w → Q (.panic c) a w) :
    ∀ (fuel : Nat) (listed : Array Bool) (a : Act) (w : World),
      (∀ j oj, ops[j]? = some oj → j ≠ i → listed.getD j true = false → (∀ e ∈ oj.after, Region.binds md e = true → e.on ≠ i) → oi.apart ops oj = true) →
      listed.getD s true = false → i ∈ Region.ready md ops listed → YieldsIf P ops S oi v a → S w →
      wpAnyT P md ops Q S fuel (listed.setIfInBounds i true) (a.put oi.dst v) w → wpAnyT P md ops Q S (fuel + 1) listed a w := by
  intro fuel
  induction fuel with
  | zero =>
    intro listed a w _ hsu hr hy hS H
    refine ⟨fun h => (by rw [h] at hr; cases hr), fun j hj => ?_⟩
    by_cases hji : j = i
    · subst hji; exact hy.wpOp hi hS ⟨fun _ => hS, H⟩
    · have := ready_mono hj hji
      rw [H.1] at this
      cases this
  | succ fuel ih =>
    intro listed a w hfree hsu hr hy hS H
    refine ⟨fun h => (by rw [h] at hr; cases hr), fun j hj => ?_⟩
    by_cases hji : j = i
    · subst hji; exact hy.wpOp hi hS ⟨fun _ => hS, H⟩
    · have h1 := H.2 j (ready_mono hj hji)
      obtain ⟨hjun, oj, hoj, hall⟩ := mem_ready.1 hj
      have hiun := (mem_ready.1 hr).1
      have hnot : ∀ e ∈ oj.after, Region.binds md e = true → e.on ≠ i := fun e he hb heq => by
        have h1 := hall e he hb
        have h0 := hiun
        rw [heq] at h1
        rcases Nat.lt_or_ge i listed.size with h' | h'
        · simp [h'] at h0 h1; rw [h0] at h1; cases h1
        · simp [Array.getElem?_eq_none h'] at h1
      have h2 := wpOp_putIf hoj (hfree j oj hoj hji hjun hnot) (fun cs b => hsel i oi cs b hi) (fun cs b => hsel j oj cs b hoj) hQ hy h1
      have hfree' : ∀ k ok, ops[k]? = some ok → k ≠ i → (listed.setIfInBounds j true).getD k true = false →
          (∀ e ∈ ok.after, Region.binds md e = true → e.on ≠ i) → oi.apart ops ok = true := fun k ok hk hki hun hno => by
        refine hfree k ok hk hki ?_ hno
        by_cases hjk : j = k
        · subst hjk; exact hjun
        · rw [getD_set_ne true hjk] at hun; exact hun
      have hjs : j ≠ s := fun e => by
        subst e
        rw [hs0] at hoj
        injection hoj with hoj
        subst hoj
        obtain ⟨e, he, hb, heq⟩ := hwait
        exact hnot e he hb heq
      have hsi : i ≠ s := fun e => by
        subst e
        rw [hi] at hs0
        injection hs0 with hs0
        subst hs0
        obtain ⟨e, he, hb, heq⟩ := hwait
        obtain ⟨_, o2, ho2, hall2⟩ := mem_ready.1 hr
        rw [hi] at ho2
        injection ho2 with ho2
        subst ho2
        have h1 := hall2 e he hb
        have h0 := hiun
        rw [heq] at h1
        rcases Nat.lt_or_ge i listed.size with h' | h'
        · simp [h'] at h0 h1; rw [h0] at h1; cases h1
        · simp [Array.getElem?_eq_none h'] at h1
      have hsu' : (listed.setIfInBounds j true).getD s true = false := by rw [getD_set_ne true hjs]; exact hsu
      have hleft : leftOf18 ((listed.setIfInBounds i true).setIfInBounds j true) = true := leftOf18_of (i := s) (by rw [getD_set_ne true hjs, getD_set_ne true hsi]; exact hsu)
      refine wpOp_mono (fun a' w' h3 => ⟨fun _ => h3.2.1 hleft, ih (listed.setIfInBounds j true) a' w' hfree' hsu' (ready_mono hr (Ne.symm hji)) h3.1 (h3.2.1 hleft) ?_⟩) h2
      rw [Array.setIfInBounds_comm _ _ hji]
      exact h3.2.2
def waitsOn (md : Region.Mode) (ops : Array Oper) (s i : Nat) : Bool := match ops[s]? with
  | none => false
  | some os => os.after.any fun e => Region.binds md e && e.on == i
theorem waitsOn_spec {s i : Nat} (h : waitsOn md ops s i = true) : ∃ os, ops[s]? = some os ∧ ∃ e ∈ os.after, Region.binds md e = true ∧ e.on = i := by
  unfold waitsOn at h
  split at h
  · cases h
  · rename_i os hos
    obtain ⟨k, hk, he⟩ := Array.any_eq_true.1 h
    simp only [Bool.and_eq_true, beq_iff_eq] at he
    exact ⟨os, hos, _, Array.getElem_mem hk, he.1, he.2⟩
/-- An operation that yields the same in whatever world of the kind; operation s, the last, waits for it. -/
theorem takeT_yes (s i : Nat) {oi : Oper} {v : Value} {fuel : Nat} {listed : Array Bool} {a : Act} {w : World} (hi : ops.toList[i]? = some oi) (hs : Region.noSelect ops = true) (hf : Region.free md ops listed i = true) (hr : (Region.ready md ops listed).contains i = true) (hwt : waitsOn md ops s i = true) (hsu : listed.getD s true = false)
    (hQ : ∀ c a w, Q (.panic c) (a.put oi.dst v) w → Q (.panic c) a w) (hw : Region.wanted oi (yielded ops a.tmps) = true) (hS : S w) (hy : ∀ w, S w → (execOp a.eval oi).run P w = .ok (.value v) w) (h : wpAnyT P md ops Q S fuel (listed.setIfInBounds i true) (a.put oi.dst v) w) : wpAnyT P md ops Q S (fuel + 1) listed a w := by
  obtain ⟨os, hos, hwait⟩ := waitsOn_spec hwt
  have hi' : ops[i]? = some oi := by rw [← Array.getElem?_toList]; exact hi
  exact wpAnyT_first hos hwait hi' (Region.noSelect_spec hs) hQ fuel listed a w (Region.free_spec hi' hf) hsu (by simpa using hr) (Or.inl ⟨hw, hy⟩) hS h
theorem wpOp_of {i : Nat} {o : Oper} {a : Act} {w : World} {K : Act → World → Prop} (hi : ops.toList[i]? = some o) (hw : Region.wanted o (yielded ops a.tmps) = true) (h : Oper.wp P o a w K Q) : wpOp P ops Q i K a w := by
  have hi' : ops[i]? = some o := by rw [← Array.getElem?_toList]; exact hi
  unfold wpOp
  simp only [hi', hw, if_true]
  exact .inl h
/-- Whichever of those that may come up comes up. -/
theorem takeT_one (i : Nat) {oi : Oper} {fuel : Nat} {listed : Array Bool} {a : Act} {w : World} (hi : ops.toList[i]? = some oi) (hr : Region.ready md ops listed = [i]) (hwi : Region.wanted oi (yielded ops a.tmps) = true)
    (h1 : ∀ K' : Act → World → Prop, Shut (∀ a w, (leftOf18 (listed.setIfInBounds i true) = true → S w) → wpAnyT P md ops Q S fuel (listed.setIfInBounds i true) a w → K' a w) → Oper.wp P oi a w K' Q) : wpAnyT P md ops Q S (fuel + 1) listed a w :=
  ⟨fun h0 => (by rw [hr] at h0; cases h0), fun j hj => by
    rw [hr, List.mem_singleton] at hj
    subst hj
    exact wpOp_of hi hwi (h1 _ (fun a w h2 h3 => ⟨h2, h3⟩))⟩
theorem wpAnyT_done {listed : Array Bool} {a : Act} {w : World} (hr : Region.ready md ops listed = []) (h : Q .normal a w) : ∀ fuel, wpAnyT P md ops Q S fuel listed a w
  | 0 => ⟨hr, h⟩
  | _ + 1 => ⟨fun _ => h, by rw [hr]; simp⟩
theorem heldT_begin {id : Nat} {a : Act} {w : World} (S : World → Prop) (hm : P.follows .mixedOrders = true) (hS : S w.drew) (h : S w.drew → wpAnyT P .any ops Q S ops.size (Array.replicate ops.size false) a w.drew) : (Code.region id ops true).wp P Q a w :=
  wp_region_any hm (wpAny_of_T _ _ _ _ (h hS))
end
end Go.Proofs.YtbimjggkiiadmaaGreatDoor
/- A letter is sent to servers. Conditions: the peer lies so, it has no letters yet; the servers stand in memory apart from it. -/
namespace Go.Proofs.YtbimjggkiiadmaaGreatDoor
open Go.RowKit
set_option maxRecDepth 20000
def letA (i to term : Int) : List Value := [.int .u8 1, .int .i64 i, .int .i64 to, .int .i64 term, .int .i64 0, .int .i64 0, .bool false, .int .i64 0, .int .i64 0, .slice none 0 0, .slice none 0 0, .slice none 0 0]
theorem info_let : (Tryz.prog.info? 27).map (fun i => (i.zero, i.size, i.bytes)) = some (some (.agg (letA 0 0 0 |>.set 0 (.int .u8 0)).toArray), 12, 144) := by kernel_rfl
theorem grown_new {w w1 w2 : World} {p : Nat} {q : Option Nat} (h : w.grownBy w1 (some p)) (h2 : w1.grownBy w2 q) (hq : ∀ g, q = some g → w.heap.size ≤ g ∨ g = p) : w.grownBy w2 (some p) :=
  ⟨h2.os.trans h.os, h2.tape.trans h.tape, h2.output.trans h.output, Nat.le_trans h.size h2.size, fun k hk hne => (h2.block k (Nat.lt_of_lt_of_le hk h.size) (fun e => by
    rcases hq k e.symm with h' | h'
    · omega
    · exact hne (by rw [h']))).trans (h.block k hk hne)⟩
/-- An append of rows that are only read to a row of the call's own: the operation. -/
theorem oper_append_rows {α : Type} {k bytes : Nat} {cells : α → List Value} {sub : World → Nat → α → Prop} {z : Value} {T E : TypeId} {w : World} {o : Oper} {a : Act} {K : Act → World → Prop} {Q : Exit → Act → World → Prop} (hT : Tryz.prog.underlying T = some (.slice E))
    (hinfo : (Tryz.prog.info? E).map (fun i => (i.zero, i.size, i.bytes)) = some (some z, k, bytes)) (hzs : z.cells.size = k) (h0 : 0 < k) (hk : ∀ x, (cells x).length = k) (hone : ∀ x, ∀ u ∈ cells x, u.oneCell' = true) (s x : Operand)
    (ho : o.op = .call { callee := .builtin .append, args := #[s, x], argTypes := #[T, T] })
    (base : Nat) (v : Value) (n : Nat) (l : List Value) (hs : a.eval s = v) (hown : w.ownsRow base E k v n l)
    (ad : Addr) (m cap : Nat) (xs : List α) (hm : xs.length = m) (hx : a.eval x = .slice (some ad) m cap) (B : Nat) (hin : RowsIn k cells sub w B (some ad) xs) (hmax : n + m ≤ maxLen) (hlim : (n + m) * bytes ≤ 140737488355328) (hbase : base ≤ w.heap.size)
    (h : ∀ v' w', w'.ownsRow base E k v' (n + m) (l ++ xs.flatMap cells) → w.grownBy w' v.ownBlock → K (a.put o.dst v') w') : Oper.wp Tryz.prog o a w K Q := by
  obtain ⟨i0, hi, hz0, hz1, hz2⟩ := info_parts hinfo
  subst hm
  obtain ⟨v', w', hrun, r1, r2, _, r4⟩ := run_append_own_at (P := Tryz.prog) w base T o.type E i0 z k bytes hT hi hz0 hz1 hz2 hzs h0 v n _ hown ad xs.length cap (xs.flatMap cells) (flat_len hk xs) (fun j u hu => cells_of_rows hk h0 hin (Below.refl _ _) rfl hu) (fun u hu => by
    obtain ⟨y, _, hy⟩ := List.mem_flatMap.1 hu
    exact hone y u hy) hmax hlim hbase
  unfold Oper.wp
  simp [execOp, ho, resolve, invoke, builtin, hs, hx, hrun, Result.andThen]
  exact h v' w' r1 r2
theorem PeerIs.keptRow {w w' : World} {B pb lb base k n : Nat} {E : TypeId} {v : Value} {xs : List Value} {s : PP} {vs : List Int} {ps : List EnP} (h : PeerIs w B pb lb s vs ps) (ho : w.ownsRow base E k v n xs) (h1 : E ≠ 34) (h2 : E ≠ 126) (h3 : E ≠ 3) (h4 : E ≠ 52) (h5 : E ≠ 92) (hg : w.grownBy w' v.ownBlock) : PeerIs w' B pb lb s vs ps := by
  rcases ho.2 with ⟨rfl, _⟩ | ⟨g, cap, cur, rfl, _, hb, _⟩
  · have hb : Below w.heap.size w w' := ⟨hg.os, hg.tape, hg.output, hg.size, fun k hk => hg.block k hk (fun e => by cases e)⟩
    exact h.below hb (Nat.le_refl _)
  · exact h.keptT hb h1 h2 h3 h4 h5 hg
def SentTo (xs : List Int) (B pb lb : Nat) (s : PP) (vs : List Int) (ps : List EnP) (w : World) (e : Ending) (w' : World) : Prop :=
  e = .returned (.tuple #[]) ∧ ∃ v, PeerIs w' B pb lb { s with letters := v } vs ps ∧ w'.ownsRow w.heap.size 27 12 v xs.length (xs.flatMap fun x => letA s.id x s.term) ∧ w.grownBy w' (some pb)
theorem left_none {α : Prop} {l : Array Bool} (h : leftOf18 l = true) (h2 : leftOf18 l = false) : α := by rw [h2] at h; cases h
/-- A peer, and a letter in its box. -/
def LetAt (B pb lb tb : Nat) (q : PP) (vs : List Int) (ps : List EnP) (f t m : Int) (wS : World) : Prop := PeerIs wS B pb lb q vs ps ∧ wS.heap[tb]? = some (.cells (letA f t m).toArray 27 (0, 0))
def LetS (B pb lb tb : Nat) (q : PP) (vs : List Int) (ps : List EnP) (wS : World) : Prop := ∃ f t m, LetAt B pb lb tb q vs ps f t m wS
section
variable {B pb lb tb : Nat} {q : PP} {vs : List Int} {ps : List EnP} {f t m : Int} {wS : World}
theorem LetAt.keep (h : LetAt B pb lb tb q vs ps f t m wS) (j : Nat) (u : Value) : PeerIs (wS.setCell ⟨tb, j, none⟩ u) B pb lb q vs ps := h.1.keptT h.2 (by decide) (by decide) (by decide) (by decide) (by decide) (grown_setL wS ⟨tb, j, none⟩ u)
theorem LetAt.set1 (h : LetAt B pb lb tb q vs ps f t m wS) (x : Int) : LetAt B pb lb tb q vs ps x t m (wS.setCell ⟨tb, 1, none⟩ (.int .i64 x)) := ⟨h.keep 1 _, Go.Joins.block_setCell (i := 1) h.2 _⟩
theorem LetAt.set2 (h : LetAt B pb lb tb q vs ps f t m wS) (x : Int) : LetAt B pb lb tb q vs ps f x m (wS.setCell ⟨tb, 2, none⟩ (.int .i64 x)) := ⟨h.keep 2 _, Go.Joins.block_setCell (i := 2) h.2 _⟩
theorem LetAt.set3 (h : LetAt B pb lb tb q vs ps f t m wS) (x : Int) : LetAt B pb lb tb q vs ps f t x (wS.setCell ⟨tb, 3, none⟩ (.int .i64 x)) := ⟨h.keep 3 _, Go.Joins.block_setCell (i := 3) h.2 _⟩
theorem LetAt.below {w' : World} (h : LetAt B pb lb tb q vs ps f t m wS) (hb : Below wS.heap.size wS w') : LetAt B pb lb tb q vs ps f t m w' := ⟨h.1.below hb (Nat.le_refl _), (hb.block tb (Array.getElem?_eq_some_iff.1 h.2).1).trans h.2⟩
theorem LetAt.drew (h : LetAt B pb lb tb q vs ps f t m wS) : LetAt B pb lb tb q vs ps f t m wS.drew := h.below (Below.refl wS.heap.size wS).drew
theorem LetAt.at (h : LetAt B pb lb tb q vs ps f t m wS) : wS.cell? ⟨tb, 0, none⟩ = some (.int .u8 1) ∧ wS.cell? ⟨tb, 1, none⟩ = some (.int .i64 f) ∧ wS.cell? ⟨tb, 2, none⟩ = some (.int .i64 t) ∧ wS.cell? ⟨tb, 3, none⟩ = some (.int .i64 m) ∧ wS.cell? ⟨tb, 4, none⟩ = some (.int .i64 0) ∧ wS.cell? ⟨tb, 5, none⟩ = some (.int .i64 0) ∧ wS.cell? ⟨tb, 6, none⟩ = some (.bool false) ∧ wS.cell? ⟨tb, 7, none⟩ = some (.int .i64 0) ∧ wS.cell? ⟨tb, 8, none⟩ = some (.int .i64 0) ∧ wS.cell? ⟨tb, 9, none⟩ = some (.slice none 0 0) ∧ wS.cell? ⟨tb, 10, none⟩ = some (.slice none 0 0) ∧ wS.cell? ⟨tb, 11, none⟩ = some (.slice none 0 0) :=
  ⟨Go.Joins.cell_of_block h.2 0, Go.Joins.cell_of_block h.2 1, Go.Joins.cell_of_block h.2 2, Go.Joins.cell_of_block h.2 3, Go.Joins.cell_of_block h.2 4, Go.Joins.cell_of_block h.2 5, Go.Joins.cell_of_block h.2 6, Go.Joins.cell_of_block h.2 7, Go.Joins.cell_of_block h.2 8, Go.Joins.cell_of_block h.2 9, Go.Joins.cell_of_block h.2 10, Go.Joins.cell_of_block h.2 11⟩
end
theorem letA_one (i x m : Int) : ∀ u ∈ letA i x m, u.oneCell' = true := by intro u hu; simp [letA] at hu; rcases hu with rfl | rfl | rfl | rfl | rfl | rfl | rfl | rfl | rfl | rfl | rfl | rfl <;> rfl
theorem slice_form {w : World} {B E k n : Nat} {v : Value} {xs : List Value} (h : w.ownsRow B E k v n xs) (hn : 0 < n) : ∃ g c, v = .slice (some ⟨g, 0, none⟩) n c := by
  rcases h.2 with ⟨_, h0⟩ | ⟨g, cap, cur, h1, _⟩
  · omega
  · exact ⟨g, cap, h1⟩
theorem letA_len' (s : PP) (x : Int) : (letA s.id x s.term).length = 12 := rfl
theorem letA_one' (s : PP) (x : Int) : ∀ u ∈ letA s.id x s.term, u.oneCell' = true := letA_one _ _ _
set_option maxHeartbeats 8000000 in
theorem psend_any {w : World} {B pb lb cap : Nat} {ao : Option Addr} {s : PP} {vs : List Int} {ps : List EnP} (xs : List Int) (h : PeerIs w B pb lb s vs ps) (hs : s.letters = .slice none 0 0) (hx : IntsIn w w.heap.size ao xs) (hne : ∀ p, ao = some p → p.block ≠ pb) (hl : xs.length ≤ 9) :
    Calls Tryz.prog 60 #[.pointer (some ⟨pb, 0, none⟩), .agg #[.int .u8 1, .int .i64 0, .int .i64 0, .int .i64 0, .int .i64 0, .int .i64 0, .bool false, .int .i64 0, .int .i64 0, .slice none 0 0, .slice none 0 0, .slice none 0 0], .slice ao xs.length cap] w (SentTo xs B pb lb s vs ps w) := by
  have hb1 := (Below.refl w.heap.size w).alloc (Nat.le_refl _) (.cells #[.int .u8 1, .int .i64 0, .int .i64 0, .int .i64 0, .int .i64 0, .int .i64 0, .bool false, .int .i64 0, .int .i64 0, .slice none 0 0, .slice none 0 0, .slice none 0 0] 27)
  have k1 := heap_alloc_new w (.cells #[.int .u8 1, .int .i64 0, .int .i64 0, .int .i64 0, .int .i64 0, .int .i64 0, .bool false, .int .i64 0, .int .i64 0, .slice none 0 0, .slice none 0 0, .slice none 0 0] 27)
  have H := Lib.hid h
  have HS := Lib.hid hs
  have HX := Lib.hid hx
  have HNE := Lib.hid hne
  have hpl := h.lt
  clear h hs hx hne
  go_enter Tryz.func60, Tryz.ntmps60
  go_upto_region 1 with fail
  generalize w.alloc (.cells #[.int .u8 1, .int .i64 0, .int .i64 0, .int .i64 0, .int .i64 0, .int .i64 0, .bool false, .int .i64 0, .int .i64 0, .slice none 0 0, .slice none 0 0, .slice none 0 0] 27) = wa at hb1 k1 ⊢
  have HA := Lib.hid (H.out.below hb1 (Nat.le_refl _))
  have HB1 := Lib.hid hb1
  have HK1 := Lib.hid k1
  have hla := (Array.getElem?_eq_some_iff.1 k1).1
  clear hb1 k1
  go_wp2_with fail
  go_loopw [7, 10] (fun _ i wr => ∃ (k : Nat) (v : Value), k ≤ xs.length ∧ i = .int .i64 k ∧ LetS B pb lb w.heap.size { s with letters := v } vs ps wr ∧ wr.ownsRow (w.heap.size + 1) 27 12 v k ((xs.take k).flatMap fun x => letA s.id x s.term) ∧ w.grownBy wr (some pb)) (fun _ i _ => xs.length - (intOf i).toNat)
  case atStart => exact ⟨0, .slice none 0 0, by omega, rfl, ⟨_, _, _, by rw [← HS.out]; exact HA.out, HK1.out⟩, World.ownsRow_nil _ _ _ _, grown_bel HB1.out _⟩
  case round =>
    obtain ⟨k, v, hk, rfl, hLS, hown, hgr⟩ := hrel
    by_cases hlt : k < xs.length
    · have dk : decide ((k : Int) < xs.length) = true := by simp; omega
      rcases HX.out with h0 | ⟨b, off, rfl, hb, hc⟩
      · rw [h0] at hlt; exact absurd hlt (Nat.not_lt_zero _)
      have hbp := HNE.out _ rfl
      have c0 := hc k hlt
      have c0 := hgr.cell c0 (fun e => hbp (Option.some.inj e))
      have hst : xs.take (k + 1) = xs.take k ++ [xs.getD k 0] := by
        rw [List.take_succ_eq_append_getElem hlt, List.getD_eq_getElem?_getD, List.getElem?_eq_getElem hlt]; rfl
      clear hc
      obtain ⟨x, hxe⟩ : ∃ x, x = xs.getD k 0 := ⟨_, rfl⟩
      rw [← hxe] at c0 hst
      have HST := Lib.hid hst
      clear hxe hst
      have HOWN := Lib.hid hown
      have HGR := Lib.hid hgr
      have HLS := Lib.hid hLS
      clear hown hgr hLS
      go_upto_region 4 with fail
      obtain ⟨f0, t0, m0, hA0⟩ := HLS.out
      have hAd := hA0.drew
      have HC := Lib.hid (fun (wS : World) (hS : LetS B pb lb w.heap.size { s with letters := v } vs ps wS) => And.intro (show wS.cell? ⟨pb, 38, none⟩ = some (.int .i64 s.id) from hS.elim fun _ h => h.elim fun _ h => h.elim fun _ h => h.1.cells 38) (show wS.cell? ⟨pb, 0, none⟩ = some (.int .i64 s.term) from hS.elim fun _ h => h.elim fun _ h => h.elim fun _ h => h.1.cells 0))
      have hg0 := grown_bel (Below.refl wr.heap.size wr).drew (some w.heap.size)
      refine heldS_begin (fun wS => LetS B pb lb w.heap.size { s with letters := v } vs ps wS) (by kernel_rfl) (⟨_, _, _, hAd⟩) ?_
      intro hS0
      (first | (refine takeS_no 0 rfl (by kernel_rfl) (by kernel_rfl) (by kernel_rfl) (fun _ _ _ h => h) (by rfl) (by assumption) ?_) | (refine takeS_yes (v := ?_) 0 rfl (by kernel_rfl) (by kernel_rfl) (by kernel_rfl) (fun _ _ _ h => h) (by rfl) (by assumption) ?_ ?_; rotate_left; focus (intro wS hSw; obtain ⟨q0, q1⟩ := HC.out wS hSw; go_simp; first | done | with_reducible rfl)))
      (try simp only [Act.put, List.setIfInBounds_toArray, List.set_cons_zero, List.set_cons_succ])
      (first | (refine takeS_no 1 rfl (by kernel_rfl) (by kernel_rfl) (by kernel_rfl) (fun _ _ _ h => h) (by rfl) (by assumption) ?_) | (refine takeS_yes (v := ?_) 1 rfl (by kernel_rfl) (by kernel_rfl) (by kernel_rfl) (fun _ _ _ h => h) (by rfl) (by assumption) ?_ ?_; rotate_left; focus (intro wS hSw; obtain ⟨q0, q1⟩ := HC.out wS hSw; go_simp; first | done | with_reducible rfl)))
      (try simp only [Act.put, List.setIfInBounds_toArray, List.set_cons_zero, List.set_cons_succ])
      (first | (refine takeS_no 2 rfl (by kernel_rfl) (by kernel_rfl) (by kernel_rfl) (fun _ _ _ h => h) (by rfl) (by assumption) ?_) | (refine takeS_yes (v := ?_) 2 rfl (by kernel_rfl) (by kernel_rfl) (by kernel_rfl) (fun _ _ _ h => h) (by rfl) (by assumption) ?_ ?_; rotate_left; focus (intro wS hSw; obtain ⟨q0, q1⟩ := HC.out wS hSw; go_simp; first | done | with_reducible rfl)))
      (try simp only [Act.put, List.setIfInBounds_toArray, List.set_cons_zero, List.set_cons_succ])
      (first | (refine takeS_no 3 rfl (by kernel_rfl) (by kernel_rfl) (by kernel_rfl) (fun _ _ _ h => h) (by rfl) (by assumption) ?_) | (refine takeS_yes (v := ?_) 3 rfl (by kernel_rfl) (by kernel_rfl) (by kernel_rfl) (fun _ _ _ h => h) (by rfl) (by assumption) ?_ ?_; rotate_left; focus (intro wS hSw; obtain ⟨q0, q1⟩ := HC.out wS hSw; go_simp; first | done | with_reducible rfl)))
      (try simp only [Act.put, List.setIfInBounds_toArray, List.set_cons_zero, List.set_cons_succ])
      (first | (refine takeS_no 4 rfl (by kernel_rfl) (by kernel_rfl) (by kernel_rfl) (fun _ _ _ h => h) (by rfl) (by assumption) ?_) | (refine takeS_yes (v := ?_) 4 rfl (by kernel_rfl) (by kernel_rfl) (by kernel_rfl) (fun _ _ _ h => h) (by rfl) (by assumption) ?_ ?_; rotate_left; focus (intro wS hSw; obtain ⟨q0, q1⟩ := HC.out wS hSw; go_simp; first | done | with_reducible rfl)))
      (try simp only [Act.put, List.setIfInBounds_toArray, List.set_cons_zero, List.set_cons_succ])
      (first | (refine takeS_no 5 rfl (by kernel_rfl) (by kernel_rfl) (by kernel_rfl) (fun _ _ _ h => h) (by rfl) (by assumption) ?_) | (refine takeS_yes (v := ?_) 5 rfl (by kernel_rfl) (by kernel_rfl) (by kernel_rfl) (fun _ _ _ h => h) (by rfl) (by assumption) ?_ ?_; rotate_left; focus (intro wS hSw; obtain ⟨q0, q1⟩ := HC.out wS hSw; go_simp; first | done | with_reducible rfl)))
      (try simp only [Act.put, List.setIfInBounds_toArray, List.set_cons_zero, List.set_cons_succ])
      (first | (refine takeS_no 6 rfl (by kernel_rfl) (by kernel_rfl) (by kernel_rfl) (fun _ _ _ h => h) (by rfl) (by assumption) ?_) | (refine takeS_yes (v := ?_) 6 rfl (by kernel_rfl) (by kernel_rfl) (by kernel_rfl) (fun _ _ _ h => h) (by rfl) (by assumption) ?_ ?_; rotate_left; focus (intro wS hSw; obtain ⟨q0, q1⟩ := HC.out wS hSw; go_simp; first | done | with_reducible rfl)))
      (try simp only [Act.put, List.setIfInBounds_toArray, List.set_cons_zero, List.set_cons_succ])
      (first | (refine takeS_no 7 rfl (by kernel_rfl) (by kernel_rfl) (by kernel_rfl) (fun _ _ _ h => h) (by rfl) (by assumption) ?_) | (refine takeS_yes (v := ?_) 7 rfl (by kernel_rfl) (by kernel_rfl) (by kernel_rfl) (fun _ _ _ h => h) (by rfl) (by assumption) ?_ ?_; rotate_left; focus (intro wS hSw; obtain ⟨q0, q1⟩ := HC.out wS hSw; go_simp; first | done | with_reducible rfl)))
      (try simp only [Act.put, List.setIfInBounds_toArray, List.set_cons_zero, List.set_cons_succ])
      (first | (refine takeS_no 8 rfl (by kernel_rfl) (by kernel_rfl) (by kernel_rfl) (fun _ _ _ h => h) (by rfl) (by assumption) ?_) | (refine takeS_yes (v := ?_) 8 rfl (by kernel_rfl) (by kernel_rfl) (by kernel_rfl) (fun _ _ _ h => h) (by rfl) (by assumption) ?_ ?_; rotate_left; focus (intro wS hSw; obtain ⟨q0, q1⟩ := HC.out wS hSw; go_simp; first | done | with_reducible rfl)))
      (try simp only [Act.put, List.setIfInBounds_toArray, List.set_cons_zero, List.set_cons_succ])
      (first | (refine takeS_no 9 rfl (by kernel_rfl) (by kernel_rfl) (by kernel_rfl) (fun _ _ _ h => h) (by rfl) (by assumption) ?_) | (refine takeS_yes (v := ?_) 9 rfl (by kernel_rfl) (by kernel_rfl) (by kernel_rfl) (fun _ _ _ h => h) (by rfl) (by assumption) ?_ ?_; rotate_left; focus (intro wS hSw; obtain ⟨q0, q1⟩ := HC.out wS hSw; go_simp; first | done | with_reducible rfl)))
      (try simp only [Act.put, List.setIfInBounds_toArray, List.set_cons_zero, List.set_cons_succ])
      (first | (refine takeS_no 10 rfl (by kernel_rfl) (by kernel_rfl) (by kernel_rfl) (fun _ _ _ h => h) (by rfl) (by assumption) ?_) | (refine takeS_yes (v := ?_) 10 rfl (by kernel_rfl) (by kernel_rfl) (by kernel_rfl) (fun _ _ _ h => h) (by rfl) (by assumption) ?_ ?_; rotate_left; focus (intro wS hSw; obtain ⟨q0, q1⟩ := HC.out wS hSw; go_simp; first | done | with_reducible rfl)))
      (try simp only [Act.put, List.setIfInBounds_toArray, List.set_cons_zero, List.set_cons_succ])
      clear hS0
      generalize wr.drew = wd0 at hAd hg0 ⊢
      refine takeS_alone 11 rfl (by kernel_rfl) (by rfl) (fun K hK => ?_)
      skip
      (have q1 := hAd.at.2.1; have q2 := Go.Joins.unfrozen_of_block hAd.2 1; go_simp; have hA1 := hAd.set1 s.id; have hg1 := hg0.trans (grown_setL wd0 ⟨w.heap.size, 1, none⟩ (.int .i64 s.id)); clear q1 q2 hg0 hAd; generalize wd0.setCell ⟨w.heap.size, 1, none⟩ (.int .i64 s.id) = wd1 at hA1 hg1 ⊢; have hS1 : LetS B pb lb w.heap.size { s with letters := v } vs ps wd1 := ⟨_, _, _, hA1⟩)
      refine hK.out _ _ (by assumption) ?_
      clear hK K
      (try simp only [Act.put, List.setIfInBounds_toArray, List.set_cons_zero, List.set_cons_succ])
      (first | (refine takeS_no 12 rfl (by kernel_rfl) (by kernel_rfl) (by kernel_rfl) (fun _ _ _ h => h) (by rfl) (by assumption) ?_) | (refine takeS_yes (v := ?_) 12 rfl (by kernel_rfl) (by kernel_rfl) (by kernel_rfl) (fun _ _ _ h => h) (by rfl) (by assumption) ?_ ?_; rotate_left; focus (intro wS hSw; obtain ⟨q0, q1⟩ := HC.out wS hSw; go_simp; first | done | with_reducible rfl)))
      (try simp only [Act.put, List.setIfInBounds_toArray, List.set_cons_zero, List.set_cons_succ])
      refine takeS_alone 13 rfl (by kernel_rfl) (by rfl) (fun K hK => ?_)
      skip
      (have q1 := hA1.at.2.2.1; have q2 := Go.Joins.unfrozen_of_block hA1.2 2; go_simp; have hA2 := hA1.set2 x; have hg2 := hg1.trans (grown_setL wd1 ⟨w.heap.size, 2, none⟩ (.int .i64 x)); clear q1 q2 hg1 hA1 hS1; generalize wd1.setCell ⟨w.heap.size, 2, none⟩ (.int .i64 x) = wd2 at hA2 hg2 ⊢; have hS2 : LetS B pb lb w.heap.size { s with letters := v } vs ps wd2 := ⟨_, _, _, hA2⟩)
      refine hK.out _ _ (by assumption) ?_
      clear hK K
      (try simp only [Act.put, List.setIfInBounds_toArray, List.set_cons_zero, List.set_cons_succ])
      (first | (refine takeS_no 14 rfl (by kernel_rfl) (by kernel_rfl) (by kernel_rfl) (fun _ _ _ h => h) (by rfl) (by assumption) ?_) | (refine takeS_yes (v := ?_) 14 rfl (by kernel_rfl) (by kernel_rfl) (by kernel_rfl) (fun _ _ _ h => h) (by rfl) (by assumption) ?_ ?_; rotate_left; focus (intro wS hSw; obtain ⟨q0, q1⟩ := HC.out wS hSw; go_simp; first | done | with_reducible rfl)))
      (try simp only [Act.put, List.setIfInBounds_toArray, List.set_cons_zero, List.set_cons_succ])
      refine takeS_alone 15 rfl (by kernel_rfl) (by rfl) (fun K hK => ?_)
      skip
      (have q1 := hA2.at.2.2.2.1; have q2 := Go.Joins.unfrozen_of_block hA2.2 3; go_simp; have hA3 := hA2.set3 s.term; have hg3 := hg2.trans (grown_setL wd2 ⟨w.heap.size, 3, none⟩ (.int .i64 s.term)); clear q1 q2 hg2 hA2 hS2; generalize wd2.setCell ⟨w.heap.size, 3, none⟩ (.int .i64 s.term) = wb at hA3 hg3 ⊢; have hS3 : LetS B pb lb w.heap.size { s with letters := v } vs ps wb := ⟨_, _, _, hA3⟩)
      refine hK.out _ _ (by assumption) ?_
      clear hK K
      (try simp only [Act.put, List.setIfInBounds_toArray, List.set_cons_zero, List.set_cons_succ])
      refine wpAnyH_done (by kernel_rfl) ?_ _
      clear hS3 hA0 HC HLS
      (try simp only [Exit.then])
      (try (rename (∀ (_ : Act) (_ : World), _ → _) => hK0; refine hK0 _ _ ?_; clear hK0))
      have HOWN := Lib.hid (World.ownsRow.kept HOWN.out hg3 (Or.inr (fun e => by have := own_below' HOWN.out _ e; omega)))
      have HGR := Lib.hid (grown_new HGR.out hg3 (fun g hg => Or.inl (by cases hg; exact Nat.le_refl _)))
      clear hg3
      have HA3 := Lib.hid hA3
      clear hA3
      go_upto_region 5 with fail
      have hAd := HA3.out.drew
      have HC := Lib.hid (fun (wS : World) (hS : LetAt B pb lb w.heap.size { s with letters := v } vs ps s.id x s.term wS) => And.intro (show wS.cell? ⟨pb, 3, none⟩ = some v from hS.1.cells 3) hS.at)
      have HB0 := Lib.hid (Below.refl wb.heap.size wb).drew
      refine heldT_begin (fun wS => LetAt B pb lb w.heap.size { s with letters := v } vs ps s.id x s.term wS) (by kernel_rfl) (hAd) ?_
      intro hS0
      refine takeT_yes (v := ?_) 12 0 rfl (by kernel_rfl) (by kernel_rfl) (by kernel_rfl) (by kernel_rfl) (by kernel_rfl) (fun _ _ _ h => h) (by rfl) (by assumption) ?_ ?_; rotate_left; focus (intro wS hSw; obtain ⟨q0, d0, d1, d2, d3, d4, d5, d6, d7, d8, d9, d10, d11⟩ := HC.out wS hSw; go_simp; first | done | with_reducible rfl)
      (try simp only [Act.put, List.setIfInBounds_toArray, List.set_cons_zero, List.set_cons_succ])
      refine takeT_yes (v := ?_) 12 1 rfl (by kernel_rfl) (by kernel_rfl) (by kernel_rfl) (by kernel_rfl) (by kernel_rfl) (fun _ _ _ h => h) (by rfl) (by assumption) ?_ ?_; rotate_left; focus (intro wS hSw; obtain ⟨q0, d0, d1, d2, d3, d4, d5, d6, d7, d8, d9, d10, d11⟩ := HC.out wS hSw; go_simp; first | done | with_reducible rfl)
      (try simp only [Act.put, List.setIfInBounds_toArray, List.set_cons_zero, List.set_cons_succ])
      refine takeT_yes (v := ?_) 12 2 rfl (by kernel_rfl) (by kernel_rfl) (by kernel_rfl) (by kernel_rfl) (by kernel_rfl) (fun _ _ _ h => h) (by rfl) (by assumption) ?_ ?_; rotate_left; focus (intro wS hSw; obtain ⟨q0, d0, d1, d2, d3, d4, d5, d6, d7, d8, d9, d10, d11⟩ := HC.out wS hSw; go_simp; first | done | with_reducible rfl)
      (try simp only [Act.put, List.setIfInBounds_toArray, List.set_cons_zero, List.set_cons_succ])
      refine takeT_yes (v := ?_) 12 3 rfl (by kernel_rfl) (by kernel_rfl) (by kernel_rfl) (by kernel_rfl) (by kernel_rfl) (fun _ _ _ h => h) (by rfl) (by assumption) ?_ ?_; rotate_left; focus (intro wS hSw; obtain ⟨q0, d0, d1, d2, d3, d4, d5, d6, d7, d8, d9, d10, d11⟩ := HC.out wS hSw; go_simp; first | done | with_reducible rfl)
      (try simp only [Act.put, List.setIfInBounds_toArray, List.set_cons_zero, List.set_cons_succ])
      refine takeT_yes (v := ?_) 12 4 rfl (by kernel_rfl) (by kernel_rfl) (by kernel_rfl) (by kernel_rfl) (by kernel_rfl) (fun _ _ _ h => h) (by rfl) (by assumption) ?_ ?_; rotate_left; focus (intro wS hSw; obtain ⟨q0, d0, d1, d2, d3, d4, d5, d6, d7, d8, d9, d10, d11⟩ := HC.out wS hSw; go_simp; first | done | with_reducible rfl)
      (try simp only [Act.put, List.setIfInBounds_toArray, List.set_cons_zero, List.set_cons_succ])
      refine takeT_yes (v := ?_) 12 5 rfl (by kernel_rfl) (by kernel_rfl) (by kernel_rfl) (by kernel_rfl) (by kernel_rfl) (fun _ _ _ h => h) (by rfl) (by assumption) ?_ ?_; rotate_left; focus (intro wS hSw; obtain ⟨q0, d0, d1, d2, d3, d4, d5, d6, d7, d8, d9, d10, d11⟩ := HC.out wS hSw; go_simp; first | done | with_reducible rfl)
      (try simp only [Act.put, List.setIfInBounds_toArray, List.set_cons_zero, List.set_cons_succ])
      refine takeT_yes (v := ?_) 12 6 rfl (by kernel_rfl) (by kernel_rfl) (by kernel_rfl) (by kernel_rfl) (by kernel_rfl) (fun _ _ _ h => h) (by rfl) (by assumption) ?_ ?_; rotate_left; focus (intro wS hSw; obtain ⟨q0, d0, d1, d2, d3, d4, d5, d6, d7, d8, d9, d10, d11⟩ := HC.out wS hSw; go_simp; first | done | with_reducible rfl)
      (try simp only [Act.put, List.setIfInBounds_toArray, List.set_cons_zero, List.set_cons_succ])
      clear hS0
      have HOWN := Lib.hid (own_below HOWN.out HB0.out (Nat.le_refl _))
      have HGR := Lib.hid (grown_new HGR.out (grown_bel HB0.out none) (fun g hg => by cases hg))
      clear HB0
      generalize wb.drew = wd at hAd HOWN HGR ⊢
      refine takeT_one 7 rfl (by kernel_rfl) (by rfl) (fun K hK => ?_)
      go_simp
      (have hb5 := (Below.refl wd.heap.size wd).alloc (Nat.le_refl _) (.cells #[.int .u8 1, .int .i64 s.id, .int .i64 x, .int .i64 s.term, .int .i64 0, .int .i64 0, .bool false, .int .i64 0, .int .i64 0, .slice none 0 0, .slice none 0 0, .slice none 0 0] 27); have k5 := heap_alloc_new wd (.cells #[.int .u8 1, .int .i64 s.id, .int .i64 x, .int .i64 s.term, .int .i64 0, .int .i64 0, .bool false, .int .i64 0, .int .i64 0, .slice none 0 0, .slice none 0 0, .slice none 0 0] 27); generalize wd.alloc (.cells #[.int .u8 1, .int .i64 s.id, .int .i64 x, .int .i64 s.term, .int .i64 0, .int .i64 0, .bool false, .int .i64 0, .int .i64 0, .slice none 0 0, .slice none 0 0, .slice none 0 0] 27) = we at hb5 k5 ⊢; have hA5 := hAd.below hb5; clear hAd; have HOWN5 := Lib.hid (own_below HOWN.out hb5 (Nat.le_refl _)); have HGR5 := Lib.hid (grown_new HGR.out (grown_bel hb5 none) (fun g hg => by cases hg)); have hin := rows_block (sub := fun _ _ _ => True) (letA_len' s) [x] _ k5 rfl (Array.getElem?_eq_some_iff.1 k5).1 (fun _ _ => trivial); have hsz5 := hb5.size; have hsw5 := HGR.out.size)
      refine hK.out _ _ (fun _ => by assumption) ?_
      clear hK K
      (try simp only [Act.put, List.setIfInBounds_toArray, List.set_cons_zero, List.set_cons_succ])
      refine takeT_one 8 rfl (by kernel_rfl) (by rfl) (fun K hK => ?_)
      (refine oper_append_rows Tryz.underlying42 info_let rfl (by decide) (letA_len' s) (letA_one' s) (.tmp 32) (.tmp 34) rfl (w.heap.size + 1) v k _ rfl HOWN5.out ⟨wd.heap.size, 0, none⟩ 1 1 [x] rfl rfl _ hin (by unfold maxLen; omega) (by omega) (by have := (Array.getElem?_eq_some_iff.1 k5).1; omega) ?_; intro v' wf hown' hg'; have hex := slice_form hown' (by omega); obtain ⟨gv, cv, rfl⟩ := hex; have hA6 : LetAt B pb lb w.heap.size { s with letters := v } vs ps s.id x s.term wf := ⟨hA5.1.keptRow HOWN5.out (by decide) (by decide) (by decide) (by decide) (by decide) hg', (hg'.block _ (Array.getElem?_eq_some_iff.1 hA5.2).1 (fun e => by have := own_below' HOWN5.out _ e.symm; omega)).trans hA5.2⟩; have HGR6 := Lib.hid (grown_new HGR5.out hg' (fun g hg => by have := own_below' HOWN5.out _ hg; omega)); have HOWN6 := Lib.hid hown'; clear hA5 hg' hown' hin k5)
      refine hK.out _ _ (fun _ => by assumption) ?_
      clear hK K
      (try simp only [Act.put, List.setIfInBounds_toArray, List.set_cons_zero, List.set_cons_succ])
      refine takeT_yes (v := ?_) 10 9 rfl (by kernel_rfl) (by kernel_rfl) (by kernel_rfl) (by kernel_rfl) (by kernel_rfl) (fun _ _ _ h => h) (by rfl) (by assumption) ?_ ?_; rotate_left; focus (intro wS hSw; obtain ⟨q0⟩ := HC.out wS hSw; go_simp; first | done | with_reducible rfl)
      (try simp only [Act.put, List.setIfInBounds_toArray, List.set_cons_zero, List.set_cons_succ])
      refine takeT_yes (v := ?_) 11 10 rfl (by kernel_rfl) (by kernel_rfl) (by kernel_rfl) (by kernel_rfl) (by kernel_rfl) (fun _ _ _ h => h) (by rfl) (by assumption) ?_ ?_; rotate_left; focus (intro wS hSw; obtain ⟨q0⟩ := HC.out wS hSw; go_simp; first | done | with_reducible rfl)
      (try simp only [Act.put, List.setIfInBounds_toArray, List.set_cons_zero, List.set_cons_succ])
      refine takeT_yes (v := ?_) 12 11 rfl (by kernel_rfl) (by kernel_rfl) (by kernel_rfl) (by kernel_rfl) (by kernel_rfl) (fun _ _ _ h => h) (by rfl) (by assumption) ?_ ?_; rotate_left; focus (intro wS hSw; obtain ⟨q0⟩ := HC.out wS hSw; go_simp; first | done | with_reducible rfl)
      (try simp only [Act.put, List.setIfInBounds_toArray, List.set_cons_zero, List.set_cons_succ])
      refine takeT_one 12 rfl (by kernel_rfl) (by rfl) (fun K hK => ?_)
      (have q1 : wf.cell? ⟨pb, 3, none⟩ = some v := hA6.1.cells 3; have q2 := hA6.1.soft 3; go_simp; have hP7 := hA6.1.set 3  (.slice (some ⟨gv, 0, none⟩) (k + 1) cv) { s with letters :=  (.slice (some ⟨gv, 0, none⟩) (k + 1) cv) } rfl rfl rfl; have hA7 := (heap_setCell_other wf ⟨pb, 3, none⟩ w.heap.size  (.slice (some ⟨gv, 0, none⟩) (k + 1) cv) (by show w.heap.size ≠ pb; omega)).trans hA6.2; have HGR7 := Lib.hid (grown_new HGR6.out (grown_setL wf ⟨pb, 3, none⟩  (.slice (some ⟨gv, 0, none⟩) (k + 1) cv)) (fun g hg => Or.inr (by cases hg; rfl))); have HOWN7 := Lib.hid (World.ownsRow.kept HOWN6.out (grown_setL wf ⟨pb, 3, none⟩  (.slice (some ⟨gv, 0, none⟩) (k + 1) cv)) (Or.inr (fun e => by have := own_below' HOWN6.out _ e; simp only at this; omega))); clear q1 q2 hA6; generalize wf.setCell ⟨pb, 3, none⟩  (.slice (some ⟨gv, 0, none⟩) (k + 1) cv) = wg at hP7 hA7 HGR7 HOWN7 ⊢)
      refine hK.out _ _ (fun h => left_none h (by kernel_rfl)) ?_
      clear hK K
      (try simp only [Act.put, List.setIfInBounds_toArray, List.set_cons_zero, List.set_cons_succ])
      refine wpAnyT_done (by kernel_rfl) ?_ _
      (try simp only [Exit.then])
      (try (rename (∀ (_ : Act) (_ : World), _ → _) => hK0; refine hK0 _ _ ?_; clear hK0))
      have HA7 := Lib.hid (And.intro hP7 hA7)
      clear hP7 hA7
      go_wp2_with fail
      go_roundw
      case rel => exact ⟨k + 1,  (.slice (some ⟨gv, 0, none⟩) (k + 1) cv), by omega, by go_num, ⟨_, _, _, HA7.out⟩, by rw [HST.out]; simpa using HOWN7.out, HGR7.out⟩
      case measure => simp [intOf]; omega
    · obtain rfl : k = xs.length := by omega
      have HZ := Lib.hid hLS
      have HOWN := Lib.hid hown
      have HGR := Lib.hid hgr
      clear hLS hown hgr
      go_wp2_with fail
      go_end0
      refine ⟨rfl, v, ?_, ?_, HGR.out⟩
      · exact HZ.out.elim fun _ h => h.elim fun _ h => h.elim fun _ h => h.1
      · have := HOWN.out
        rw [List.take_length] at this
        exact Go.Joins.ownsRow_le this (Nat.le_succ _)
end Go.Proofs.YtbimjggkiiadmaaGreatDoor
