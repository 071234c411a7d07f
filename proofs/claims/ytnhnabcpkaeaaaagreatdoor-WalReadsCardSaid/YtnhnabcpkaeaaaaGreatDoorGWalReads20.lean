/- The document's wal as it lies in memory; its reader's beginning and end. Conditions: as each says. -/
import Derived.Test.YtnhnabcpkaeaaaaGreatDoorGWalReads16
import Derived.Test.YtnhnabcpkaeaaaaGreatDoorGWalReads19
import Derived.Test.YtnhnabcpkaeaaaaGreatDoorGWalReads6
set_option linter.unusedVariables false
set_option linter.unusedSimpArgs false
namespace Go.Proofs.YtnhnabcpkaeaaaaGreatDoor
open Go.RowKit
set_option maxRecDepth 20000
/-- Block sb is the document's wal: a term, a vote, a base, its term, entries. -/
structure RSayAt (w : World) (B sb : Nat) (term vote base before : Int) (v : Value) (es : List En) : Prop where
  blk : w.heap[sb]? = some (.cells #[.int .i64 term, .int .i64 vote, .int .i64 base, .int .i64 before, v] 63 (0, 0))
  ens : EnsOwn w B v es
  low : B ≤ sb
theorem RSayAt.lt {w : World} {B sb : Nat} {term vote base before : Int} {v : Value} {es : List En} (h : RSayAt w B sb term vote base before v es) : sb < w.heap.size := (Array.getElem?_eq_some_iff.1 h.blk).1
theorem RSayAt.below {w w' : World} {B B' sb : Nat} {term vote base before : Int} {v : Value} {es : List En} (h : RSayAt w B sb term vote base before v es) (hb : Below B' w w') (hB : w.heap.size ≤ B') : RSayAt w' B sb term vote base before v es :=
  ⟨(hb.block sb (Nat.lt_of_lt_of_le h.lt hB)).trans h.blk, h.ens.below hb hB, h.low⟩
theorem RSayAt.sets {w : World} {B sb : Nat} {term vote base before t2 v2 b2 o2 : Int} {v : Value} {es : List En} (h : RSayAt w B sb term vote base before v es) (j : Nat) (u : Value) (hu : (#[.int .i64 term, .int .i64 vote, .int .i64 base, .int .i64 before, v] : Array Value).setIfInBounds j u = #[.int .i64 t2, .int .i64 v2, .int .i64 b2, .int .i64 o2, v]) : RSayAt (w.setCell ⟨sb, j, none⟩ u) B sb t2 v2 b2 o2 v es :=
  ⟨by rw [Go.Joins.block_setCell (i := j) h.blk u, hu], h.ens.setT h.blk (by decide) (by decide) (by decide) j u, h.low⟩
theorem RSayAt.setE {w : World} {B sb : Nat} {term vote base before : Int} {v v' : Value} {es es' : List En} (h : RSayAt w B sb term vote base before v es) (he : EnsOwn w B v' es') : RSayAt (w.setCell ⟨sb, 4, none⟩ v') B sb term vote base before v' es' :=
  ⟨Go.Joins.block_setCell (i := 4) h.blk _, he.setT h.blk (by decide) (by decide) (by decide) 4 v', h.low⟩
def RSayIs (w : World) (B sb : Nat) (s : WP) : Prop := ∃ v es, RSayAt w B sb s.term s.vote s.base s.before v es ∧ es.map En.plain = s.L
/-- What the document's Do tells, and what its wal is then. -/
def RDoneAt (W : World) (B sb : Nat) (r : Option WP) (e : Ending) (w' : World) : Prop :=
  match r with
  | none => e = .returned (.bool false) ∧ Below W.heap.size W w'
  | some t => e = .returned (.bool true) ∧ RSayIs w' B sb t ∧ W.grownBy w' (some sb)
theorem rdone_no {W : World} {B sb : Nat} {r : Option WP} {w' : World} (h : r = none) (hb : Below W.heap.size W w') : RDoneAt W B sb r (.returned (.bool false)) w' := by subst h; exact ⟨rfl, hb⟩
theorem rdone_yes {W : World} {B sb : Nat} {r : Option WP} {w' : World} (t : WP) (h : r = some t) (hs : RSayIs w' B sb t) (hg : W.grownBy w' (some sb)) : RDoneAt W B sb r (.returned (.bool true)) w' := by subst h; exact ⟨rfl, hs, hg⟩
theorem RSayIs.lt {w : World} {B sb : Nat} {s : WP} (h : RSayIs w B sb s) : sb < w.heap.size := by obtain ⟨v, es, hs, _⟩ := h; exact hs.lt
theorem within_at (n tt : Int) (r : Bool) (w : World) (hr : (decide (0 ≤ n) && decide (n ≤ tt)) = r) :
    Calls Tryz.prog 79 #[.int .i64 n, .int .i64 tt] w fun e w' => e = .returned (.bool r) ∧ w = w' := hr ▸ within_any n tt w
theorem rnewW_any (a : Option Addr) (n c : Nat) (D : List Int) (w : World) (hn : D.length = n) (hx : BytesIn w w.heap.size a D) (hnil : a = none → c = 0) (hc : n ≤ c) (hl : n ≤ 140737488351232) :
    Calls Tryz.prog 76 #[.slice a n c] w fun e w' => e = .returned (.pointer (some ⟨w.heap.size, 0, none⟩)) ∧ Ref w' w.heap.size w.heap.size false D ∧ Below w.heap.size w w' := by
  have hb := (Below.refl w.heap.size w).alloc (Nat.le_refl _) (.cells #[.slice a n c, .int .i64 0, .bool false] 156)
  have hk := heap_alloc_new w (.cells #[.slice a n c, .int .i64 0, .bool false] 156)
  have hr : Ref (w.alloc (.cells #[.slice a n c, .int .i64 0, .bool false] 156)) w.heap.size w.heap.size false D := by
    refine ⟨0, a, n, c, D, ⟨hk, ?_, hn, hc, hnil, Nat.zero_le _, hb.size, hl⟩, rfl⟩
    rcases hx with h0 | ⟨b, off, h1, h2, h3⟩
    · exact Or.inl h0
    · exact Or.inr ⟨b, off, h1, h2, by omega, fun i hi => (hb.cell (p := ⟨b, off + i, none⟩) h2).trans (h3 i hi)⟩
  have HB := Lib.hid hb
  have HR := Lib.hid hr
  clear hb hk hr hx hn hnil
  go_enter Tryz.func76, Tryz.ntmps76
  go_wp2_with fail
  go_ret
  exact ⟨rfl, HR.out, HB.out⟩
/-- The document's Done. -/
theorem rdone_any (M db : Nat) (bad : Bool) (left : List Int) (w : World) (h : Ref w M db bad left) :
    Calls Tryz.prog 78 #[.pointer (some ⟨db, 0, none⟩)] w fun e w' => e = .returned (.bool (!bad && left.isEmpty)) ∧ Below w.heap.size w w' := by
  obtain ⟨k, ao, m, cap, xs, h, rfl⟩ := h
  have d0 : w.cell? ⟨db, 0, none⟩ = some (.slice ao m cap) := Go.Joins.cell_of_block h.blk 0
  have d1 : w.cell? ⟨db, 1, none⟩ = some (.int .i64 k) := Go.Joins.cell_of_block h.blk 1
  have d2 : w.cell? ⟨db, 2, none⟩ = some (.bool bad) := Go.Joins.cell_of_block h.blk 2
  have hkm := h.at_
  have hld : (xs.drop k).length = m - k := by rw [List.length_drop, h.len]
  have hle : (xs.drop k).isEmpty = decide (m - k = 0) := by
    rw [← hld]; cases xs.drop k <;> simp
  rw [hle]
  clear h hld hle
  cases bad with
  | true =>
    go_enter Tryz.func78, Tryz.ntmps78
    go_wp2_with fail
    go_quiet (fail)
    go_wp2_with fail
    go_ret
    exact ⟨rfl, wdrewN (Below.refl _ _) _⟩
  | false =>
    by_cases he : k = m
    · subst he
      go_enter Tryz.func78, Tryz.ntmps78
      go_wp2_with fail
      go_quiet (fail)
      go_wp2_with fail
      go_ret
      exact ⟨ret_bool (by simp), wdrewN (Below.refl _ _) _⟩
    · have j1 : ¬ (k : Int) = m := by omega
      have j2 : decide ((k : Int) = m) = false := by simp; omega
      have j3 : ((k : Int) == m) = false := by simp; omega
      have j4 : decide (k = m) = false := by simpa using he
      have j5 : (k == m) = false := by simpa using he
      have j6 : decide (m - k = 0) = false := by simp; omega
      rw [j6]
      go_enter Tryz.func78, Tryz.ntmps78
      go_wp2_with fail
      go_quiet (fail)
      go_wp2_with fail
      go_ret
      exact ⟨rfl, wdrewN (Below.refl _ _) _⟩
end Go.Proofs.YtnhnabcpkaeaaaaGreatDoor
/- Steps of a region that draws its order, in worlds of which something is kept until all operations but the last have come up. Any program. Conditions: as each says. -/
namespace Go.Proofs.YtnhnabcpkaeaaaaGreatDoor
open Go.RowKit
section
variable {P : Program} {md : Region.Mode} {ops : Array Oper} {Q : Exit → Act → World → Prop} {S : World → Prop}
/-- Is something not listed yet? -/
def leftOf18 (l : Array Bool) : Bool := l.contains false
theorem leftOf18_of {l : Array Bool} {i : Nat} (h : l.getD i true = false) : leftOf18 l = true := by
  unfold leftOf18
  rw [Array.contains_iff_mem]
  by_cases hi : i < l.size
  · have : l[i] = false := by simpa [Array.getD, hi] using h
    rw [← this]
    exact Array.getElem_mem hi
  · simp [Array.getD, hi] at h
/-- Whatever order is picked, S holds behind every operation but the last. -/
def wpAnyT (P : Program) (md : Region.Mode) (ops : Array Oper) (Q : Exit → Act → World → Prop) (S : World → Prop) : Nat → Array Bool → Act → World → Prop
  | 0, listed, a, w => Region.ready md ops listed = [] ∧ Q .normal a w
  | fuel + 1, listed, a, w =>
    (Region.ready md ops listed = [] → Q .normal a w) ∧
    ∀ i ∈ Region.ready md ops listed, wpOp P ops Q i (fun a' w' => (leftOf18 (listed.setIfInBounds i true) = true → S w') ∧ wpAnyT P md ops Q S fuel (listed.setIfInBounds i true) a' w') a w
theorem wpAny_of_T : ∀ (fuel : Nat) (listed : Array Bool) (a : Act) (w : World), wpAnyT P md ops Q S fuel listed a w → wpAny P md ops Q fuel listed a w
  | 0, _, _, _, h => h
  | fuel + 1, _, _, _, h => ⟨h.1, fun i hi => wpOp_mono (fun a' w' h' => wpAny_of_T fuel _ a' w' h'.2) (h.2 i hi)⟩
theorem wpAnyT_first {i s : Nat} {oi os : Oper} {v : Value} (hs0 : ops[s]? = some os) (hwait : ∃ e ∈ os.after, Region.binds md e = true ∧ e.on = i) (hi : ops[i]? = some oi) (hsel : ∀ (j : Nat) (o : Oper) cs b, ops[j]? = some o → o.op ≠ .select cs b)
    (hQ : ∀ c a w, Q (.panic c) (a.put oi.dst v) w → Q (.panic c) a w) :
    ∀ (fuel : Nat) (listed : Array Bool) (a : Act) (w : World),
      (∀ j oj, ops[j]? = some oj → j ≠ i → listed.getD j true = false → (∀ e ∈ oj.after, Region.binds md e = true → e.on ≠ i) → oi.apart ops oj = true) →
      listed.getD s true = false → i ∈ Region.ready md ops listed → YieldsIf P ops S oi v a → S w →
      wpAnyT P md ops Q S fuel (listed.setIfInBounds i true) (a.put oi.dst v) w → wpAnyT P md ops Q S (fuel + 1) listed a w := by
  intro fuel
  induction fuel with
  | zero =>
    intro listed a w _ hsu hr hy hS H
    refine ⟨fun h => (by rw [h] at hr; cases hr), fun j hj => ?_⟩
    by_cases hji : j = i
    · subst hji; exact hy.wpOp hi hS ⟨fun _ => hS, H⟩
    · have := ready_mono hj hji
      rw [H.1] at this
      cases this
  | succ fuel ih =>
    intro listed a w hfree hsu hr hy hS H
    refine ⟨fun h => (by rw [h] at hr; cases hr), fun j hj => ?_⟩
    by_cases hji : j = i
    · subst hji; exact hy.wpOp hi hS ⟨fun _ => hS, H⟩
    · have h1 := H.2 j (ready_mono hj hji)
      obtain ⟨hjun, oj, hoj, hall⟩ := mem_ready.1 hj
      have hiun := (mem_ready.1 hr).1
      have hnot : ∀ e ∈ oj.after, Region.binds md e = true → e.on ≠ i := fun e he hb heq => by
        have h1 := hall e he hb
        have h0 := hiun
        rw [heq] at h1
        rcases Nat.lt_or_ge i listed.size with h' | h'
        · simp [h'] at h0 h1; rw [h0] at h1; cases h1
        · simp [Array.getElem?_eq_none h'] at h1
      have h2 := wpOp_putIf hoj (hfree j oj hoj hji hjun hnot) (fun cs b => hsel i oi cs b hi) (fun cs b => hsel j oj cs b hoj) hQ hy h1
      have hfree' : ∀ k ok, ops[k]? = some ok → k ≠ i → (listed.setIfInBounds j true).getD k true = false →
          (∀ e ∈ ok.after, Region.binds md e = true → e.on ≠ i) → oi.apart ops ok = true := fun k ok hk hki hun hno => by
        refine hfree k ok hk hki ?_ hno
        by_cases hjk : j = k
        · subst hjk; exact hjun
        · rw [getD_set_ne true hjk] at hun; exact hun
      have hjs : j ≠ s := fun e => by
        subst e
        rw [hs0] at hoj
        injection hoj with hoj
        subst hoj
        obtain ⟨e, he, hb, heq⟩ := hwait
        exact hnot e he hb heq
      have hsi : i ≠ s := fun e => by
        subst e
        rw [hi] at hs0
        injection hs0 with hs0
        subst hs0
        obtain ⟨e, he, hb, heq⟩ := hwait
        obtain ⟨_, o2, ho2, hall2⟩ := mem_ready.1 hr
        rw [hi] at ho2
        injection ho2 with ho2
        subst ho2
        have h1 := hall2 e he hb
        have h0 := hiun
        rw [heq] at h1
        rcases Nat.lt_or_ge i listed.size with h' | h'
        · simp [h'] at h0 h1; rw [h0] at h1; cases h1
        · simp [Array.getElem?_eq_none h'] at h1
      have hsu' : (listed.setIfInBounds j true).getD s true = false := by rw [getD_set_ne true hjs]; exact hsu
      have hleft : leftOf18 ((listed.setIfInBounds i true).setIfInBounds j true) = true := leftOf18_of (i := s) (by rw [getD_set_ne true hjs, getD_set_ne true hsi]; exact hsu)
      refine wpOp_mono (fun a' w' h3 => ⟨fun _ => h3.2.1 hleft, ih (listed.setIfInBounds j true) a' w' hfree' hsu' (ready_mono hr (Ne.symm hji)) h3.1 (h3.2.1 hleft) ?_⟩) h2
      rw [Array.setIfInBounds_comm _ _ hji]
      exact h3.2.2
def waitsOn (md : Region.Mode) (ops : Array Oper) (s i : Nat) : Bool := match ops[s]? with
  | none => false
  | some os => os.after.any fun e => Region.binds md e && e.on == i
theorem waitsOn_spec {s i : Nat} (h : waitsOn md ops s i = true) : ∃ os, ops[s]? = some os ∧ ∃ e ∈ os.after, Region.binds md e = true ∧ e.on = i := by
  unfold waitsOn at h
  split at h
  · cases h
  · rename_i os hos
    obtain ⟨k, hk, he⟩ := Array.any_eq_true.1 h
    simp only [Bool.and_eq_true, beq_iff_eq] at he
    exact ⟨os, hos, _, Array.getElem_mem hk, he.1, he.2⟩
/-- An operation that yields the same in whatever world of the kind; operation s, the last, waits for it. -/
theorem takeT_yes (s i : Nat) {oi : Oper} {v : Value} {fuel : Nat} {listed : Array Bool} {a : Act} {w : World} (hi : ops.toList[i]? = some oi) (hs : Region.noSelect ops = true) (hf : Region.free md ops listed i = true) (hr : (Region.ready md ops listed).contains i = true) (hwt : waitsOn md ops s i = true) (hsu : listed.getD s true = false)
    (hQ : ∀ c a w, Q (.panic c) (a.put oi.dst v) w → Q (.panic c) a w) (hw : Region.wanted oi (yielded ops a.tmps) = true) (hS : S w) (hy : ∀ w, S w → (execOp a.eval oi).run P w = .ok (.value v) w) (h : wpAnyT P md ops Q S fuel (listed.setIfInBounds i true) (a.put oi.dst v) w) : wpAnyT P md ops Q S (fuel + 1) listed a w := by
  obtain ⟨os, hos, hwait⟩ := waitsOn_spec hwt
  have hi' : ops[i]? = some oi := by rw [← Array.getElem?_toList]; exact hi
  exact wpAnyT_first hos hwait hi' (Region.noSelect_spec hs) hQ fuel listed a w (Region.free_spec hi' hf) hsu (by simpa using hr) (Or.inl ⟨hw, hy⟩) hS h
theorem wpOp_of {i : Nat} {o : Oper} {a : Act} {w : World} {K : Act → World → Prop} (hi : ops.toList[i]? = some o) (hw : Region.wanted o (yielded ops a.tmps) = true) (h : Oper.wp P o a w K Q) : wpOp P ops Q i K a w := by
  have hi' : ops[i]? = some o := by rw [← Array.getElem?_toList]; exact hi
  unfold wpOp
  simp only [hi', hw, if_true]
  exact .inl h
/-- Whichever of those that may come up comes up. -/
theorem takeT_one (i : Nat) {oi : Oper} {fuel : Nat} {listed : Array Bool} {a : Act} {w : World} (hi : ops.toList[i]? = some oi) (hr : Region.ready md ops listed = [i]) (hwi : Region.wanted oi (yielded ops a.tmps) = true)
    (h1 : ∀ K' : Act → World → Prop, Shut (∀ a w, (leftOf18 (listed.setIfInBounds i true) = true → S w) → wpAnyT P md ops Q S fuel (listed.setIfInBounds i true) a w → K' a w) → Oper.wp P oi a w K' Q) : wpAnyT P md ops Q S (fuel + 1) listed a w :=
  ⟨fun h0 => (by rw [hr] at h0; cases h0), fun j hj => by
    rw [hr, List.mem_singleton] at hj
    subst hj
    exact wpOp_of hi hwi (h1 _ (fun a w h2 h3 => ⟨h2, h3⟩))⟩
theorem takeT_two (i j : Nat) {oi oj : Oper} {fuel : Nat} {listed : Array Bool} {a : Act} {w : World} (hi : ops.toList[i]? = some oi) (hj : ops.toList[j]? = some oj) (hr : Region.ready md ops listed = [i, j]) (hwi : Region.wanted oi (yielded ops a.tmps) = true) (hwj : Region.wanted oj (yielded ops a.tmps) = true)
    (h1 : ∀ K' : Act → World → Prop, Shut (∀ a w, (leftOf18 (listed.setIfInBounds i true) = true → S w) → wpAnyT P md ops Q S fuel (listed.setIfInBounds i true) a w → K' a w) → Oper.wp P oi a w K' Q)
    (h2 : ∀ K' : Act → World → Prop, Shut (∀ a w, (leftOf18 (listed.setIfInBounds j true) = true → S w) → wpAnyT P md ops Q S fuel (listed.setIfInBounds j true) a w → K' a w) → Oper.wp P oj a w K' Q) : wpAnyT P md ops Q S (fuel + 1) listed a w :=
  ⟨fun h0 => (by rw [hr] at h0; cases h0), fun k hk => by
    rw [hr] at hk
    rcases List.mem_cons.1 hk with rfl | hk
    · exact wpOp_of hi hwi (h1 _ (fun a w h2 h3 => ⟨h2, h3⟩))
    · rw [List.mem_singleton] at hk
      subst hk
      exact wpOp_of hj hwj (h2 _ (fun a w h2 h3 => ⟨h2, h3⟩))⟩
theorem wpAnyT_done {listed : Array Bool} {a : Act} {w : World} (hr : Region.ready md ops listed = []) (h : Q .normal a w) : ∀ fuel, wpAnyT P md ops Q S fuel listed a w
  | 0 => ⟨hr, h⟩
  | _ + 1 => ⟨fun _ => h, by rw [hr]; simp⟩
theorem heldT_begin {id : Nat} {a : Act} {w : World} (S : World → Prop) (hm : P.follows .mixedOrders = true) (hS : S w.drew) (h : S w.drew → wpAnyT P .any ops Q S ops.size (Array.replicate ops.size false) a w.drew) : (Code.region id ops true).wp P Q a w :=
  wp_region_any hm (wpAny_of_T _ _ _ _ (h hS))
end
end Go.Proofs.YtnhnabcpkaeaaaaGreatDoor
