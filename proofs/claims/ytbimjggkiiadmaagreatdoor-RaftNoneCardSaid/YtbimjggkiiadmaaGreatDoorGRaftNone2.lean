/- A log's Append. Conditions: the log is one that was made; its numbers are not too great. -/
import Derived.Test.YtbimjggkiiadmaaGreatDoorGRaftNone1
import Derived.Deep.RegionLaw
import Derived.Deep.RegionLawGrows
set_option linter.unusedVariables false
set_option linter.unusedSimpArgs false
namespace Go.Proofs.YtbimjggkiiadmaaGreatDoor
open Go.RowKit
set_option maxRecDepth 20000
/-- An append to a row of the call's own of rows that are only read: at a step of a region that draws its order. -/
theorem step_append_rows {α : Type} {k bytes : Nat} {cells : α → List Value} {sub : World → Nat → α → Prop} {z : Value} {T E : TypeId} {w : World} {ops : Array Oper} {o : Oper} {a : Act} {K : Act → World → Prop} {Q : Exit → Act → World → Prop} {F : Prop} (hT : Tryz.prog.underlying T = some (.slice E))
    (hinfo : (Tryz.prog.info? E).map (fun i => (i.zero, i.size, i.bytes)) = some (some z, k, bytes)) (hzs : z.cells.size = k) (h0 : 0 < k) (hk : ∀ x, (cells x).length = k) (hone : ∀ x, ∀ u ∈ cells x, u.oneCell' = true) (hgd : o.guard = none) (s x : Operand)
    (ho : o.op = .call { callee := .builtin .append, args := #[s, x], argTypes := #[T, T] })
    (base : Nat) (v : Value) (n : Nat) (l : List Value) (hs : a.eval s = v) (hown : w.ownsRow base E k v n l)
    (ad : Addr) (m cap : Nat) (xs : List α) (hm : xs.length = m) (hx : a.eval x = .slice (some ad) m cap) (B : Nat) (hin : RowsIn k cells sub w B (some ad) xs) (hmax : n + m ≤ maxLen) (hlim : (n + m) * bytes ≤ 140737488355328) (hbase : base ≤ w.heap.size)
    (h : ∀ v' w', w'.ownsRow base E k v' (n + m) (l ++ xs.flatMap cells) → w.grownBy w' v.ownBlock → (v'.ownBlock = v.ownBlock ∨ v'.ownBlock = some w.heap.size) → K (a.put o.dst v') w') :
    if Region.wanted o (yielded ops a.tmps) = true then Oper.wp Tryz.prog o a w K Q else F := by
  have hw : Region.wanted o (yielded ops a.tmps) = true := by simp [Region.wanted, hgd]
  rw [if_pos hw]
  obtain ⟨i0, hi, hz0, hz1, hz2⟩ := info_parts hinfo
  subst hm
  obtain ⟨v', w', hrun, r1, r2, _, r4⟩ := run_append_own_at (P := Tryz.prog) w base T o.type E i0 z k bytes hT hi hz0 hz1 hz2 hzs h0 v n _ hown ad xs.length cap (xs.flatMap cells) (flat_len hk xs) (fun j u hu => cells_of_rows hk h0 hin (Below.refl _ _) rfl hu) (fun u hu => by
    obtain ⟨y, _, hy⟩ := List.mem_flatMap.1 hu
    exact hone y u hy) hmax hlim hbase
  unfold Oper.wp
  simp [execOp, ho, resolve, invoke, builtin, hs, hx, hrun, Result.andThen]
  exact h v' w' r1 r2 r4
/-- A log whose entries have grown. -/
theorem LogAt.grow {w1 w2 w3 : World} {B lb : Nat} {base term : Int} {v v' : Value} {v2 : Value} {es es2 : List En} (h : LogAt w1 B lb base term v es) (hB : B ≤ w1.heap.size) (hb : Below w1.heap.size w1 w2) (ho : EnsOwn w2 w1.heap.size v2 es2)
    (hown : w3.ownsRow B 34 9 v' (es.length + es2.length) (es.flatMap enCells ++ es2.flatMap enCells)) (hg : w2.grownBy w3 v.ownBlock) : EnsOwn w3 B v' (es ++ es2) := by
  have h2 := h.below hb (Nat.le_refl _)
  refine ⟨by rw [List.length_append, List.flatMap_append]; exact hown, fun e he => ?_, List.pairwise_append.2 ⟨h.ens.sep, ho.sep, fun e he f hf => ?_⟩⟩
  · rcases List.mem_append.1 he with h' | h'
    · have h3 := h2.ens.own e h'
      exact ⟨World.ownsRow.kept h3.1 hg (own_apart h3.1 h2.ens.row (by decide)), World.ownsRow.kept h3.2 hg (own_apart h3.2 h2.ens.row (by decide))⟩
    · have h3 := (ho.own e h').le hB
      exact ⟨World.ownsRow.kept h3.1 hg (own_apart h3.1 h2.ens.row (by decide)), World.ownsRow.kept h3.2 hg (own_apart h3.2 h2.ens.row (by decide))⟩
  · unfold sepE
    constructor
    · cases hb1 : (argV e).ownBlock with
      | none => exact Or.inl rfl
      | some b =>
        right
        intro hh
        have q1 := ((h.ens.own e he).1.lt b hb1).2
        have q2 := ((ho.own f hf).1.lt b hh.symm).1
        omega
    · cases hb1 : (votV e).ownBlock with
      | none => exact Or.inl rfl
      | some b =>
        right
        intro hh
        have q1 := ((h.ens.own e he).2.lt b hb1).2
        have q2 := ((ho.own f hf).2.lt b hh.symm).1
        omega
theorem LogAt.grow_own {w1 w2 w3 : World} {B lb : Nat} {base term : Int} {v v2 : Value} {es es2 : List En} (h : LogAt w1 B lb base term v es) (hb : Below w1.heap.size w1 w2) (ho : EnsOwn w2 w1.heap.size v2 es2) (hg : w2.grownBy w3 v.ownBlock) : ∀ e ∈ es2, enOwn w3 w1.heap.size e := fun e he => by
  have h2 := h.below hb (Nat.le_refl _)
  have h3 := ho.own e he
  exact ⟨World.ownsRow.kept h3.1 hg (own_apart h3.1 h2.ens.row (by decide)), World.ownsRow.kept h3.2 hg (own_apart h3.2 h2.ens.row (by decide))⟩
theorem own_ne_log {w : World} {B lb : Nat} {base term : Int} {v : Value} {es : List En} (h : LogAt w B lb base term v es) : v.ownBlock ≠ some lb := by
  intro hh
  rcases h.ens.row.2 with ⟨h1, _⟩ | ⟨g, cap, cur, h1, _, g1, _⟩
  · rw [h1] at hh; simp [Value.ownBlock] at hh
  · rw [h1] at hh
    simp [Value.ownBlock] at hh
    subst hh
    rw [h.blk] at g1
    simp only [Option.some.injEq, Obj.cells.injEq] at g1
    exact absurd g1.2.1 (by decide)
theorem row_ne_log {w : World} {B lb : Nat} {base term : Int} {v0 v : Value} {T : TypeId} {k n : Nat} {xs : List Value} (hb : w.heap[lb]? = some (.cells #[.bool true, .int .i64 base, .int .i64 term, v0] 92 (0, 0))) (h : w.ownsRow B T k v n xs) (hT : 92 ≠ T) : v.ownBlock ≠ some lb := by
  intro hh
  rcases h.2 with ⟨h1, _⟩ | ⟨g, cap, cur, h1, _, g1, _⟩
  · rw [h1] at hh; simp [Value.ownBlock] at hh
  · rw [h1] at hh
    simp [Value.ownBlock] at hh
    subst hh
    rw [hb] at g1
    simp only [Option.some.injEq, Obj.cells.injEq] at g1
    exact hT g1.2.1
theorem EnsOwn.store {w : World} {B lb : Nat} {base term : Int} {v0 v : Value} {es : List En} (h : EnsOwn w B v es) (hb : w.heap[lb]? = some (.cells #[.bool true, .int .i64 base, .int .i64 term, v0] 92 (0, 0))) (j : Nat) (u : Value) : EnsOwn (w.setCell ⟨lb, j, none⟩ u) B v es :=
  ⟨ownsRow_setCell_other h.row (row_ne_log hb h.row (by decide)) u, fun e he => ⟨ownsRow_setCell_other (h.own e he).1 (row_ne_log hb (h.own e he).1 (by decide)) u, ownsRow_setCell_other (h.own e he).2 (row_ne_log hb (h.own e he).2 (by decide)) u⟩, h.sep⟩
theorem enOwn.store {w : World} {B lb : Nat} {base term : Int} {v0 : Value} {e : En} (h : enOwn w B e) (hb : w.heap[lb]? = some (.cells #[.bool true, .int .i64 base, .int .i64 term, v0] 92 (0, 0))) (j : Nat) (u : Value) : enOwn (w.setCell ⟨lb, j, none⟩ u) B e :=
  ⟨ownsRow_setCell_other h.1 (row_ne_log hb h.1 (by decide)) u, ownsRow_setCell_other h.2 (row_ne_log hb h.2 (by decide)) u⟩
theorem log_store {w : World} {lb : Nat} {base term : Int} {v0 u : Value} (h : w.heap[lb]? = some (.cells #[.bool true, .int .i64 base, .int .i64 term, v0] 92 (0, 0))) : (w.setCell ⟨lb, 3, none⟩ u).heap[lb]? = some (.cells #[.bool true, .int .i64 base, .int .i64 term, u] 92 (0, 0)) := by
  have hlt := (Array.getElem?_eq_some_iff.1 h).1
  have h' := (Array.getElem?_eq_some_iff.1 h).2
  show (w.heap.modify lb _)[lb]? = _
  rw [Array.getElem?_eq_getElem (by simpa using hlt), Array.getElem_modify_self, h']
  rfl
def AppendAt (B lb : Nat) (base term : Int) (v : Value) (es : List En) (ps : List EnP) (r : Int) (w : World) (e : Ending) (w' : World) : Prop :=
  ∃ v' es2, e = .returned (.int .i64 r) ∧ LogAt w' B lb base term v' (es ++ es2) ∧ es2.map En.plain = ps ∧ Below B w w' ∧ Turned lb v v' es (es ++ es2) w w'
theorem len_of_plain {es xs : List En} (h : es.map En.plain = xs.map En.plain) : es.length = xs.length := by
  have := congrArg List.length h
  simpa only [List.length_map] using this
set_option maxHeartbeats 4000000 in
theorem append_any (B lb : Nat) (base term : Int) (v : Value) (es : List En) (ao : Option Addr) (m cap : Nat) (xs : List En) (w : World) (B2 : Nat) (hL : LogAt w B lb base term v es) (hN : LogNums base es.length 0) (hB : B ≤ w.heap.size) (hn : xs.length = m) (hm : 0 < m) (hx : EnsIn w B2 ao xs) (hB2 : B2 ≤ w.heap.size) (hao : ao = none → cap = 0) (hl : m ≤ 1099511627776) (hnm : es.length + m ≤ 1099511627776) (hq : EnsArg xs) :
    Calls Tryz.prog 23 #[.pointer (some ⟨lb, 0, none⟩), .slice ao m cap] w (AppendAt B lb base term v es (xs.map En.plain) (base + es.length + 1) w) := by
  obtain ⟨a, c, hv⟩ := hL.form
  subst hv
  obtain ⟨h1, h2, _, _, h5⟩ := hN
  have HL := Lib.hid hL
  obtain ⟨n, hn0⟩ : ∃ n, es.length = n := ⟨_, rfl⟩
  have hc0 := hL.c0
  have hc1 := hL.c1
  have hc3 : w.cell? ⟨lb, 3, none⟩ = some (.slice a n c) := by rw [← hn0]; exact hL.c3
  rw [hn0] at h5 hnm ⊢
  have HN := Lib.hid hn0
  have HX := Lib.hid hx
  have HXN := Lib.hid hn
  have HA := Lib.hid hao
  have HQ := Lib.hid hq
  clear hL hn0 hx hn hao hq
  have w1 : IntKind.i64.wrap (base + (n : Int)) = base + n := IntWalk.i64_in _ (by omega)
  have w2 : IntKind.i64.wrap (base + (n : Int) + 1) = base + n + 1 := IntWalk.i64_in _ (by omega)
  have m0 : ¬ (m : Int) = 0 := by omega
  go_enter Tryz.func23, Tryz.ntmps23
  go_wp2_with (go_at_call 55; (with_reducible refine (there_any lb w hc0).mono ?_); rintro e w' ⟨rfl, rfl⟩)
  go_quiet (fail)
  have hb1 : Below w.heap.size w (w.drewN nq) := below_drewN (Below.refl _ _) _
  generalize w.drewN nq = x1 at hb1 ⊢
  have hL1 := HL.out.below hb1 (Nat.le_refl _)
  have hs1 := hb1.size
  have d3 : x1.cell? ⟨lb, 3, none⟩ = some (.slice a n c) := by have := hL1.c3; rw [HN.out] at this; exact this
  have hB1 : B ≤ x1.heap.size := by omega
  have HL1 := Lib.hid hL1
  clear hc0 hc1 hc3 hL1 w1 w2
  go_wp2_with fail
  go_region_law (first | (go_simp; go_at_call 51; refine (copied_at ao m cap xs (xs.map En.plain) _ w.heap.size HXN.out rfl ((HX.out.mono enSub_rising hB2).below enSub_kept (hb1.drew) (Nat.le_refl _)) hs1 HA.out hl HQ.out).mono ?_; rintro e x2 ⟨a2, c2, es2, rfl, ho2, hm2, hb2⟩; have hle2 : es2.length = m := (len_of_plain hm2).trans HXN.out; obtain ⟨g2, c2', hg2⟩ := Go.Joins.ownsRow_form ho2.row (by rw [hle2]; exact hm); injection hg2 with hg3 hg4 hg5; subst hg3; subst hg5; clear hg4; have hx12 : Below x1.heap.size x1 x2 := Below.trans (Below.drew (Below.refl _ _)) hb2; have hL2 := HL1.out.below hx12 (Nat.le_refl _); have hs2 := hx12.size; have d3 : x2.cell? ⟨lb, 3, none⟩ = some (.slice a n c) := (by have := hL2.c3; rw [HN.out] at this; exact this); have HL2 := Lib.hid hL2; have HO2 := Lib.hid ho2; have HM2 := Lib.hid hm2; have HLE2 := Lib.hid hle2; clear hL2 ho2 hm2 hle2) | (refine step_append_rows Tryz.underlying23 infoEn rfl (by decide) enCells_len enCells_one (by rfl) (.tmp 29) (.tmp 31) (by rfl) B (.slice a n c) n (es.flatMap enCells) (by rfl) (by have := HL2.out.ens.row; rw [HN.out] at this; exact this) ⟨g2, 0, none⟩ m c2 es2 HLE2.out (by rfl) x2.heap.size (by obtain ⟨a', c', hv', _, _, hin'⟩ := HO2.out.lie; cases hv'; exact hin') (by unfold maxLen; omega) (by omega) (by omega) ?_; intro v5 x5 hown5 hg5 hrow5; obtain ⟨a5, c5, hv5⟩ := row_slice hown5; subst hv5; have hlb5 := (hg5.block lb HL2.out.lt (fun e => own_ne_log HL2.out (by rw [HN.out]; exact e.symm))).trans HL2.out.blk; have d3 : x5.cell? ⟨lb, 3, none⟩ = some (.slice a n c) := (by have := Go.Joins.cell_of_block hlb5 3; rw [HN.out] at this; exact this); have f3 : x5.frozen? ⟨lb, 3, none⟩ = false := Go.Joins.unfrozen_of_block hlb5 3; have hlens := HLE2.out; have HTN5 := Lib.hid (And.intro (HL1.out.grow_own hx12 HO2.out (by rw [HN.out]; exact hg5)) (And.intro (((Apt.of_below (lb := lb) (v := .slice a n c) hb1).trans' hx12 hb1.size).grown (o := (Value.slice a n c).ownBlock) (by omega) hg5 (Or.inl rfl)) hrow5)); have HE5 := Lib.hid (HL1.out.grow (v2 := .slice (some ⟨g2, 0, none⟩) m c2) (es2 := es2) (w3 := x5) (v' := .slice a5 (n + m) c5) hB1 hx12 HO2.out (by rw [HN.out, HLE2.out]; exact hown5) (by rw [HN.out]; exact hg5)); have HB5 := Lib.hid hlb5; have hb5 : Below B x1 x5 := Below.grown (hx12.mono hB1) hg5 (by omega) (fun b hb => (HL2.out.ens.row.lt b (by rw [HN.out]; exact hb)).1); have hz5 := hg5.size; clear hlens hown5 hg5 hlb5 hrow5))
  all_goals (have hL6 : LogAt (x5.setCell ⟨lb, 3, none⟩ (.slice a5 (n + m) c5)) B lb base term (.slice a5 (n + m) c5) (es ++ es2) := ⟨log_store HB5.out, HE5.out.store HB5.out _ _, HL2.out.low⟩)
  all_goals (have hb6 : Below B w (x5.setCell ⟨lb, 3, none⟩ (.slice a5 (n + m) c5)) := Below.setCell ((hb1.mono hB).trans hb5) HL2.out.low _)
  all_goals (have hT6 : Turned lb (.slice a n c) (.slice a5 (n + m) c5) es (es ++ es2) w (x5.setCell ⟨lb, 3, none⟩ (.slice a5 (n + m) c5)) := ⟨HTN5.out.2.1.store (by omega) _ _, HTN5.out.2.2.imp id (fun h g hg => by rw [h] at hg; have := Option.some.inj hg; omega), fun e he => (List.mem_append.1 he).imp id (fun h => ((HTN5.out.1 e h).store HB5.out _ _).le hs1)⟩)
  all_goals (clear hz5)
  all_goals (generalize x5.setCell ⟨lb, 3, none⟩ (.slice a5 (n + m) c5) = x6 at hL6 hb6 hT6 ⊢)
  all_goals (simp only [Exit.then])
  all_goals (rename (∀ (_ : Act) (_ : World), _ → _) => hK0)
  all_goals (refine hK0 _ _ ?_; clear hK0)
  all_goals (go_wp2_with fail)
  all_goals go_ret
  all_goals (exact ⟨_, es2, rfl, hL6, HM2.out, hb6, hT6⟩)
end Go.Proofs.YtbimjggkiiadmaaGreatDoor
/- A log's Compact. Conditions: the log is one that was made; its numbers are not too great. -/
namespace Go.Proofs.YtbimjggkiiadmaaGreatDoor
open Go.RowKit
set_option maxRecDepth 20000
theorem log_store1 {w : World} {lb : Nat} {base term : Int} {v0 : Value} (u : Int) (h : w.heap[lb]? = some (.cells #[.bool true, .int .i64 base, .int .i64 term, v0] 92 (0, 0))) : (w.setCell ⟨lb, 1, none⟩ (.int .i64 u)).heap[lb]? = some (.cells #[.bool true, .int .i64 u, .int .i64 term, v0] 92 (0, 0)) := by
  have hlt := (Array.getElem?_eq_some_iff.1 h).1
  have h' := (Array.getElem?_eq_some_iff.1 h).2
  show (w.heap.modify lb _)[lb]? = _
  rw [Array.getElem?_eq_getElem (by simpa using hlt), Array.getElem_modify_self, h']
  rfl
theorem log_store2 {w : World} {lb : Nat} {base term : Int} {v0 : Value} (u : Int) (h : w.heap[lb]? = some (.cells #[.bool true, .int .i64 base, .int .i64 term, v0] 92 (0, 0))) : (w.setCell ⟨lb, 2, none⟩ (.int .i64 u)).heap[lb]? = some (.cells #[.bool true, .int .i64 base, .int .i64 u, v0] 92 (0, 0)) := by
  have hlt := (Array.getElem?_eq_some_iff.1 h).1
  have h' := (Array.getElem?_eq_some_iff.1 h).2
  show (w.heap.modify lb _)[lb]? = _
  rw [Array.getElem?_eq_getElem (by simpa using hlt), Array.getElem_modify_self, h']
  rfl
/-- Entries of which the row has been copied and cut: the old rows of args stay. -/
theorem EnsOwn.cut {w w' : World} {B B' : Nat} {v v' : Value} {es : List En} (h : EnsOwn w B v es) (hb : Below B' w w') (hB : w.heap.size ≤ B') (k : Nat) (hr : w'.ownsRow B 34 9 v' (es.drop k).length ((es.drop k).flatMap enCells)) : EnsOwn w' B v' (es.drop k) :=
  ⟨hr, fun e he => (h.own e (List.mem_of_mem_drop he)).below hb hB, h.sep.sublist (List.drop_sublist k es)⟩
end Go.Proofs.YtbimjggkiiadmaaGreatDoor
/- A log's Compact at an index that it knows.  Conditions: the log is one that was made; its numbers are not too great. -/
namespace Go.Proofs.YtbimjggkiiadmaaGreatDoor
open Go.RowKit
set_option maxRecDepth 20000
def CompactAt (B lb : Nat) (i t : Int) (v : Value) (es0 es : List En) (w : World) (e : Ending) (w' : World) : Prop :=
  ∃ v', e = .returned (.int .i64 0) ∧ LogAt w' B lb i t v' es ∧ Below B w w' ∧ Turned lb v v' es0 es w w'
set_option maxHeartbeats 4000000 in
theorem compact_any (B lb : Nat) (base term t : Int) (v : Value) (es : List En) (k : Nat) (i : Int) (w : World) (hi : i = base + k) (hk : k ≤ es.length) (hr : termS base term (es.map En.plain) i = (t, true)) (hL : LogAt w B lb base term v es) (hN : LogNums base es.length i) (hB : B ≤ w.heap.size) :
    Calls Tryz.prog 45 #[.pointer (some ⟨lb, 0, none⟩), .int .i64 i] w (CompactAt B lb i t v es (es.drop k) w) := by
  obtain ⟨a, c, hv⟩ := hL.form
  subst hv
  have HN := Lib.hid hN
  obtain ⟨h1, h2, h3, h4, h5⟩ := hN
  have hc0 := hL.c0
  have HL := Lib.hid hL
  have HR := Lib.hid hr
  obtain ⟨n, hn0⟩ : ∃ n, es.length = n := ⟨_, rfl⟩
  rw [hn0] at h5 hk
  have HE := Lib.hid hn0
  have hsl : ∀ w', (Instr.sliceAt 23 (.slice a n c) (some (.int .i64 (i - base))) none none).run Tryz.prog w' = .ok (.slice (subA a c k 9) (n - k) (c - k)) w' := fun w' => run_sub_l sliceEn sizeEn a n c k hk .i64 (i - base) (by omega) w'
  have w1 : IntKind.i64.wrap (i - base) = i - base := IntWalk.i64_in _ (by omega)
  have HSL := Lib.hid hsl
  have HW1 := Lib.hid w1
  clear hL hn0 hr hi hsl w1
  go_enter Tryz.func45, Tryz.ntmps45
  go_wp2_with (go_at_call 55; (with_reducible refine (there_any lb w hc0).mono ?_); rintro e w' ⟨rfl, rfl⟩)
  refine (term_any B lb base term _ es i t true _ HR.out (HL.out.below (by first | exact below_drewN (Below.refl _ _) _ | exact Below.drew (Below.refl _ _) | exact Below.refl _ _) (Nat.le_refl _)) HN.out).mono ?_
  rintro e w2 ⟨rfl, hp⟩
  have hL2 := HL.out.below hp (Nat.le_refl _)
  have d1 := hL2.c1
  have d2 := hL2.c2
  have d3 : w2.cell? ⟨lb, 3, none⟩ = some (.slice a n c) := by have := hL2.c3; rw [HE.out] at this; exact this
  have HL2 := Lib.hid hL2
  have HP := Lib.hid hp
  have hsl := HSL.out
  have w1 := HW1.out
  clear hL2 hp hc0
  go_wp2_with fail
  have hlt2 := HL2.out.lt
  have hle : (es.drop k).length = n - k := by rw [List.length_drop, HE.out]
  have hin : ∀ w', Below w2.heap.size w2 w' → EnsIn w' w2.heap.size (subA a c k 9) (es.drop k) := fun w' hb => by
    obtain ⟨a', c', hv, hc', _, hin'⟩ := HL2.out.ens.lie
    cases hv
    have := EnsIn.sub (hin'.below enSub_kept hb (Nat.le_refl _)) k (es.length - k) hc' (by rw [HE.out]; omega)
    rwa [List.take_of_length_le (by simp)] at this
  have hnil : subA a c k 9 = none → c - k = 0 := fun h => by
    have h1 := subA_eq_none h
    have h2 := own_none HL2.out.ens.row h1
    omega
  have HLE := Lib.hid hle
  have HIN := Lib.hid hin
  have HNIL := Lib.hid hnil
  clear hle hin hnil
  go_region_law (first | (go_simp; go_at_call 80; refine (cloneE_any enSub (subA a c k 9) (n - k) (c - k) (es.drop k) _ w2.heap.size HLE.out (HIN.out _ (Below.drew (Below.refl _ _))) enSub_kept (by simp) HNIL.out (by omega)).mono ?_; rintro e x3 ⟨a3, c3, rfl, ho3, hb3⟩; have hx := (Below.drew (Below.refl w2.heap.size w2)).trans hb3; have hs3 := hx.size; have hL3 := HL2.out.below hx (Nat.le_refl _); have e1 := hL3.c1; have e2 := hL3.c2; have e3 := hL3.c3; rw [HE.out] at e3; have f1 : x3.frozen? ⟨lb, 1, none⟩ = false := Go.Joins.unfrozen_of_block hL3.blk 1; have f2 : x3.frozen? ⟨lb, 2, none⟩ = false := Go.Joins.unfrozen_of_block hL3.blk 2; have f3 : x3.frozen? ⟨lb, 3, none⟩ = false := Go.Joins.unfrozen_of_block hL3.blk 3; have HO3 := Lib.hid ho3; have HL3 := Lib.hid hL3; clear hb3 hsl w1 d1 d2 d3 ho3 hL3))
  all_goals (have hB2 : B ≤ w2.heap.size := Nat.le_trans hB HP.out.size)
  all_goals (have hr3 : x3.ownsRow B 34 9 (.slice a3 (n - k) c3) (es.drop k).length ((es.drop k).flatMap enCells) := (by rw [HLE.out]; exact Go.Joins.ownsRow_le HO3.out (by simpa using hB2)))
  all_goals (have he3 : EnsOwn x3 B (.slice a3 (n - k) c3) (es.drop k) := EnsOwn.cut HL2.out.ens hx (Nat.le_refl _) k hr3)
  all_goals (have b3 := HL3.out.blk; have he4 := he3.store b3 1 (.int .i64 i); have b4 := log_store1 i b3; have he5 := he4.store b4 2 (.int .i64 t); have b5 := log_store2 t b4; have he6 := he5.store b5 3 (.slice a3 (n - k) c3); have b6 := log_store (u := .slice a3 (n - k) c3) b5)
  all_goals (have hL6 : LogAt (((x3.setCell ⟨lb, 1, none⟩ (.int .i64 i)).setCell ⟨lb, 2, none⟩ (.int .i64 t)).setCell ⟨lb, 3, none⟩ (.slice a3 (n - k) c3)) B lb i t (.slice a3 (n - k) c3) (es.drop k) := ⟨b6, he6, HL3.out.low⟩)
  all_goals (have hb6 : Below B w (((x3.setCell ⟨lb, 1, none⟩ (.int .i64 i)).setCell ⟨lb, 2, none⟩ (.int .i64 t)).setCell ⟨lb, 3, none⟩ (.slice a3 (n - k) c3)) := Below.setCell (Below.setCell (Below.setCell ((HP.out.mono hB).trans (hx.mono hB2)) HL3.out.low _) HL3.out.low _) HL3.out.low _)
  all_goals (have hT6 : Turned lb (.slice a n c) (.slice a3 (n - k) c3) es (es.drop k) w (((x3.setCell ⟨lb, 1, none⟩ (.int .i64 i)).setCell ⟨lb, 2, none⟩ (.int .i64 t)).setCell ⟨lb, 3, none⟩ (.slice a3 (n - k) c3)) := ⟨(((Apt.store (Apt.trans' (Apt.of_below HP.out) hx HP.out.size) (by have := HP.out.size; omega) _ _).store (by have := HP.out.size; simp; omega) _ _).store (by have := HP.out.size; simp; omega) _ _), Or.inr (fun g hg => by have h1 := (World.ownsRow.lt HO3.out g hg).1; have := HP.out.size; simp at h1; omega), fun e he => Or.inl (List.mem_of_mem_drop he)⟩)
  all_goals (clear hr3 he3 b3 he4 b4 he5 b5 he6 b6 e1 e2 e3 f1 f2 f3)
  all_goals (generalize ((x3.setCell ⟨lb, 1, none⟩ (.int .i64 i)).setCell ⟨lb, 2, none⟩ (.int .i64 t)).setCell ⟨lb, 3, none⟩ (.slice a3 (n - k) c3) = x6 at hL6 hb6 hT6 ⊢)
  all_goals (simp only [Exit.then])
  all_goals (rename (∀ (_ : Act) (_ : World), _ → _) => hK0)
  all_goals (refine hK0 _ _ ?_; clear hK0)
  all_goals (go_wp2_with fail)
  all_goals go_ret
  all_goals (exact ⟨_, rfl, hL6, hb6, by rw [HE.out]; exact hT6⟩)
end Go.Proofs.YtbimjggkiiadmaaGreatDoor
/- A log's Fit. Conditions: the log is one that was made; its numbers are not too great. -/
namespace Go.Proofs.YtbimjggkiiadmaaGreatDoor
open Go.RowKit
set_option maxRecDepth 20000
end Go.Proofs.YtbimjggkiiadmaaGreatDoor
/- Entries among the arguments, with the bounds of what hangs on them. Conditions: they are read as the row reads them, their weights are bounded. -/
namespace Go.Proofs.YtbimjggkiiadmaaGreatDoor
open Go.RowKit Go.ChangeShapes
set_option maxRecDepth 20000
/-- No part of a datum is heavier than memory may be. -/
def DSized {H : Type} (P : Program) (t : TypeId) (d : DataW H) : Prop := ∀ n ∈ d.weights P t, n ≤ reachBytes
/-- A struct among the arguments. -/
theorem okWide_struct {P : Program} {W : World} {b0 : Nat} {t : TypeId} {fs : Array Field} {v : Value} (ht : P.underlying t = some (.struct fs)) (hv : Value.okWide P W .any b0 t v) : ∃ cs, v = .agg cs ∧ cs.size = P.cellsOf t := by
  simp only [Value.okWide, ht] at hv
  obtain ⟨cs, rfl, hsz, _⟩ := hv
  exact ⟨cs, rfl, hsz⟩
theorem DSized.arg {H : Type} {P : Program} {ts : List TypeId} {ds : List (DataW H)} (hsz : (DataW.weightsEach P ts ds).all (· ≤ reachBytes) = true) (j : Nat) {t : TypeId} {d : DataW H} (hj : ts[j]? = some t) (hd : ds[j]? = some d) : DSized P t d := fun n hn => by
  have := List.all_eq_true.1 hsz n (DataW.weights_mem_each hj hd n hn)
  simpa using this
theorem DSized.field {H : Type} {P : Program} {t : TypeId} {fs : Array Field} {xs : List (DataW H × List MemPlace)} (ht : P.underlying t = some (.struct fs)) (h : DSized P t (.agg (xs.map (·.1)))) {i : Nat} {f : Field} {y : DataW H × List MemPlace} (hf : fs[i]? = some f) (hy : xs[i]? = some y) : DSized P f.type y.1 := fun n hn => by
  refine h n ?_
  simp only [DataW.weights, ht]
  exact DataW.weights_mem_each (j := i) (by simp [hf]) (by simp [hy]) n hn
theorem weights_mem_all {H : Type} {P : Program} {e : TypeId} : ∀ {ds : List (DataW H)} {d : DataW H}, d ∈ ds → ∀ n ∈ d.weights P e, n ∈ DataW.weightsAll P e ds
  | d0 :: ds, d, h, n, hn => by
    simp only [DataW.weightsAll, List.mem_append]
    rcases List.mem_cons.1 h with rfl | h
    · exact Or.inl hn
    · exact Or.inr (weights_mem_all h n hn)
theorem DSized.elem {H : Type} {P : Program} {t e : TypeId} {elems sp : List (DataW H)} (ht : P.underlying t = some (.slice e)) (h : DSized P t (.slice elems sp)) {x : DataW H} (hx : x ∈ elems) : DSized P e x := fun n hn => by
  refine h n ?_
  simp only [DataW.weights, ht, List.mem_cons, List.mem_append]
  exact Or.inr (Or.inl (weights_mem_all hx n hn))
theorem DSized.len {H : Type} {P : Program} {t e : TypeId} {elems sp : List (DataW H)} (ht : P.underlying t = some (.slice e)) (h : DSized P t (.slice elems sp)) : elems.length * P.bytesOf e ≤ reachBytes := by
  have := h ((elems.length + sp.length) * P.bytesOf e) (by simp [DataW.weights, ht])
  exact Nat.le_trans (Nat.mul_le_mul_right _ (Nat.le_add_right _ _)) this
theorem DSized.str {H : Type} {P : Program} {t : TypeId} {s : ByteArray} (h : DSized (H := H) P t (.lit (.string s.data.toList))) : s.size ≤ reachBytes := by
  have := h s.data.toList.length (by simp [DataW.weights])
  simpa using this
/-- A slice's elements: none, or at an address, each by its cells and its own reading, with the bounds. -/
theorem slice_sized {H : Type} {enc : TypeId × Value → H} {P : Program} {W : World} {base : Nat} {sp : Nat → Bool} {hd : Bool} {t e : TypeId} {ao : Option Addr} {len cap C : Nat} {d : DataW H} {p : List MemPlace}
    (ht : P.underlying t = some (.slice e)) (hC : P.cellsOf e = C) (hC0 : 0 < C) (h : DataW.Trod enc P W base sp hd t (.slice ao len cap) d p) (hz : DSized P t d) :
    len * P.bytesOf e ≤ reachBytes ∧ (len = 0 ∨ ∃ (b off n : Nat) (D : Nat → DataW H) (Pl : Nat → List MemPlace), ao = some ⟨b, off, none⟩ ∧ base ≤ b ∧ b < W.heap.size ∧
      ∀ i, i < len → DSized P e (D i) ∧ ∃ cs : List Value, cs.length = C ∧ (∀ j, j < C → W.cell? ⟨b, off + i * C + j, none⟩ = cs[j]?) ∧ DataW.trod enc P W base sp hd n e cs = some (D i, Pl i)) := by
  obtain ⟨fuel, hf⟩ := h
  rcases Go.Deep.open_slice ht hf with ⟨h0, _⟩ | ⟨a, len', cap', m, n, D, Pl, h0, hb, hl, hm, hmm, hd, hx⟩
  · simp [Value.cells] at h0
    obtain ⟨rfl, rfl, rfl⟩ := h0
    exact ⟨by simp, Or.inl rfl⟩
  · simp [Value.cells] at h0
    obtain ⟨rfl, rfl, rfl⟩ := h0
    simp only [Prod.mk.injEq] at hd
    obtain ⟨rfl, _⟩ := hd
    have hlen := DSized.len ht hz
    rw [List.length_map, List.length_range] at hlen
    refine ⟨hlen, ?_⟩
    by_cases hz0 : len = 0
    · exact Or.inl hz0
    · right
      have hlm : len ≤ m := by rw [hmm]; split <;> omega
      rw [hC] at hx
      obtain ⟨b, off, spot⟩ := a
      have hs : spot = none := by
        obtain ⟨cs', h1, _⟩ := hx 0 (by omega)
        have h2 := (World.cells?_some h1).2.2 0 hC0
        have h3 : cs'.length = C := (World.cells?_some h1).2.1
        rw [List.getElem?_eq_getElem (by omega)] at h2
        simpa [Addr.add] using World.cell?_spot h2
      subst hs
      refine ⟨b, off, n, D, Pl, rfl, hb, ?_, fun i hi => ⟨DSized.elem ht hz (List.mem_map.2 ⟨i, List.mem_range.2 hi, rfl⟩), ?_⟩⟩
      · obtain ⟨cs', h1, _⟩ := hx 0 (by omega)
        have h2 := World.cells?_block h1 hC0
        simpa [Addr.add] using h2
      · obtain ⟨cs', h1, h2⟩ := hx i (by omega)
        obtain ⟨_, h3, h4⟩ := World.cells?_some h1
        refine ⟨cs', h3, fun j hj => ?_, h2⟩
        have := h4 j hj
        rw [Go.Deep.add_add, Go.WideShapes.add_plain] at this
        rw [← this, Nat.add_assoc]
/-- A slice among the arguments, whose things are read one by one, with the bounds. -/
theorem open_sized {α : Type} {k : Nat} {cells : α → List Value} {sub : World → Nat → α → Prop} {H : Type} {enc : TypeId × Value → H} {P : Program} {W : World} {sp : Nat → Bool} {hd : Bool} {t e : TypeId} {ao : Option Addr} {len cap : Nat} {d : DataW H} {p : List MemPlace} (Q : α → Prop)
    (ht : P.underlying t = some (.slice e)) (hC : P.cellsOf e = k) (hk : 0 < k)
    (hel : ∀ (cs : List Value) (n : Nat) (y : DataW H) (pl : List MemPlace), cs.length = k → DataW.trod enc P W 0 sp hd n e cs = some (y, pl) → DSized P e y → ∃ x : α, cells x = cs ∧ sub W W.heap.size x ∧ Q x)
    (h : DataW.Trod enc P W 0 sp hd t (.slice ao len cap) d p) (hz : DSized P t d) :
    ∃ xs : List α, xs.length = len ∧ RowsIn k cells sub W W.heap.size ao xs ∧ (∀ x ∈ xs, Q x) ∧ (ao = none → cap = 0) ∧ len ≤ cap ∧ len * P.bytesOf e ≤ reachBytes := by
  obtain ⟨h1, h2, h3⟩ := slice_shape ht h
  obtain ⟨hm, h0 | ⟨b, off, n, D, Pl, e1, _, hb, hx⟩⟩ := slice_sized ht hC hk h hz
  · exact ⟨[], h0.symm, Or.inl rfl, (by intro x hx; cases hx), h3, h1, hm⟩
  · have hne : ∀ i, i < len → ∃ x : α, (∀ j, j < k → W.cell? ⟨b, off + i * k + j, none⟩ = (cells x)[j]?) ∧ sub W W.heap.size x ∧ Q x := by
      intro i hi
      obtain ⟨hzi, cs, hl, hc, ht'⟩ := hx i hi
      obtain ⟨x, rfl, hs, hq⟩ := hel cs n _ _ hl ht' hzi
      exact ⟨x, hc, hs, hq⟩
    have key : ∀ m, m ≤ len → ∃ xs : List α, xs.length = m ∧ (∀ x ∈ xs, Q x) ∧ ∀ (i : Nat) (x : α), xs[i]? = some x → (∀ j, j < k → W.cell? ⟨b, off + i * k + j, none⟩ = (cells x)[j]?) ∧ sub W W.heap.size x := by
      intro m
      induction m with
      | zero => intro _; exact ⟨[], rfl, (by intro x hx; cases hx), (by intro i x hx; simp at hx)⟩
      | succ m ih =>
        intro hm'
        obtain ⟨xs, e1, e2, e3⟩ := ih (by omega)
        obtain ⟨x, g1, g2, g3⟩ := hne m (by omega)
        refine ⟨xs ++ [x], by simp [e1], fun y hy => ?_, fun i y hy => ?_⟩
        · rcases List.mem_append.1 hy with hy | hy
          · exact e2 y hy
          · rw [List.mem_singleton.1 hy]; exact g3
        · by_cases hi : i < m
          · rw [List.getElem?_append_left (by omega)] at hy; exact e3 i y hy
          · rw [List.getElem?_append_right (by omega)] at hy
            have hi' : i = m := by
              rcases Nat.lt_or_ge (i - xs.length) 1 with hh | hh
              · omega
              · rw [List.getElem?_eq_none (by simpa using hh)] at hy; cases hy
            subst hi'
            rw [e1, Nat.sub_self] at hy
            obtain rfl : x = y := by simpa using hy
            exact ⟨g1, g2⟩
    obtain ⟨xs, q1, q2, q3⟩ := key len (Nat.le_refl _)
    exact ⟨xs, q1, Or.inr ⟨b, off, e1, hb, q3⟩, q2, h3, h1, hm⟩
/-- A value among the arguments. -/
def VaArg (v : Va) : Prop := (Lit.int .u8 v.kind).wf = true ∧ (Lit.int .i64 v.num).wf = true ∧ v.text.size ≤ reachBytes
theorem cells_va : Tryz.prog.cellsOf 126 = 3 := by kernel_rfl
theorem cells_en : Tryz.prog.cellsOf 34 = 9 := by kernel_rfl
theorem cells_cm : Tryz.prog.cellsOf 32 = 4 := by kernel_rfl
theorem cells_i64 : Tryz.prog.cellsOf 3 = 1 := by kernel_rfl
theorem cells_int64 : Tryz.prog.cellsOf 2 = 1 := by kernel_rfl
theorem cells_str : Tryz.prog.cellsOf 9 = 1 := by kernel_rfl
theorem cells_ek : Tryz.prog.cellsOf 28 = 1 := by kernel_rfl
theorem cells_vk : Tryz.prog.cellsOf 124 = 1 := by kernel_rfl
theorem cells_ck : Tryz.prog.cellsOf 29 = 1 := by kernel_rfl
theorem cells_vas : Tryz.prog.cellsOf 30 = 1 := by kernel_rfl
theorem cells_ints : Tryz.prog.cellsOf 24 = 1 := by kernel_rfl
theorem va_el {H : Type} {enc : TypeId × Value → H} {W : World} {sp : Nat → Bool} {hd : Bool} (cs : List Value) (n : Nat) (y : DataW H) (pl : List MemPlace) (hl : cs.length = 3) (h : DataW.trod enc Tryz.prog W 0 sp hd n 126 cs = some (y, pl)) (hz : DSized Tryz.prog 126 y) :
    ∃ x : Va, vaCells x = cs ∧ noSub W W.heap.size x ∧ VaArg x := by
  obtain ⟨c0, c1, c2, rfl⟩ : ∃ c0 c1 c2, cs = [c0, c1, c2] := by
    match cs, hl with
    | [c0, c1, c2], _ => exact ⟨c0, c1, c2, rfl⟩
  obtain ⟨xs, m, _, hx, _, hlen, hf⟩ := DataW.trod_struct Tryz.underlying126 h
  simp only [Prod.mk.injEq] at hx
  obtain ⟨rfl, _⟩ := hx
  match xs, hlen with
  | [y0, y1, y2], _ =>
    have h0 := hf 0 _ rfl
    have h1 := hf 1 _ rfl
    have h2 := hf 2 _ rfl
    simp [cells_vk, cells_int64, cells_str] at h0 h1 h2
    obtain ⟨k0, e0, _, w0⟩ := DataW.trod_int Tryz.underlying124 h0
    obtain ⟨k1, e1, _, w1⟩ := DataW.trod_int Tryz.underlying2 h1
    obtain ⟨s, e2, d2, _⟩ := DataW.trod_string Tryz.underlying9 h2
    have z2 := DSized.field Tryz.underlying126 hz (i := 2) (y := y2) rfl rfl
    rw [d2] at z2
    simp at e0 e1 e2
    subst e0 e1 e2
    exact ⟨⟨k0, k1, s⟩, rfl, trivial, w0, w1, DSized.str z2⟩
theorem i_el {H : Type} {enc : TypeId × Value → H} {W : World} {sp : Nat → Bool} {hd : Bool} (cs : List Value) (n : Nat) (y : DataW H) (pl : List MemPlace) (hl : cs.length = 1) (h : DataW.trod enc Tryz.prog W 0 sp hd n 3 cs = some (y, pl)) (_ : DSized Tryz.prog 3 y) :
    ∃ x : Int, iCells x = cs ∧ noSub W W.heap.size x ∧ (Lit.int .i64 x).wf = true := by
  obtain ⟨k0, e0, _, w0⟩ := DataW.trod_int Tryz.underlying3 h
  exact ⟨k0, e0.symm, trivial, w0⟩
/-- An entry among the arguments. -/
structure EnWf (e : En) : Prop where
  term : (Lit.int .i64 e.term).wf = true
  kind : (Lit.int .u8 e.kind).wf = true
  session : (Lit.int .i64 e.session).wf = true
  seq : (Lit.int .i64 e.seq).wf = true
  ck : (Lit.int .u8 e.ck).wf = true
  text : e.text.size ≤ 140737488351232
  args : ∀ v ∈ e.args, VaArg v
  num : (Lit.int .i64 e.num).wf = true
  vs : ∀ v ∈ e.vs, (Lit.int .i64 v).wf = true
  argn : e.args.length * 32 ≤ 140737488351232
  vn : e.vs.length * 8 ≤ 140737488351232
  anil : e.aao = none → e.acap = 0
  vnil : e.vao = none → e.vcap = 0
  acap : e.args.length ≤ e.acap
  vcap : e.vs.length ≤ e.vcap
theorem bytes_va : Tryz.prog.bytesOf 126 = 32 := by kernel_rfl
theorem bytes_i : Tryz.prog.bytesOf 3 = 8 := by kernel_rfl
theorem bytes_en : Tryz.prog.bytesOf 34 = 112 := by kernel_rfl
theorem en_el {H : Type} {enc : TypeId × Value → H} {W : World} {sp : Nat → Bool} {hd : Bool} (cs : List Value) (n : Nat) (y : DataW H) (pl : List MemPlace) (hl : cs.length = 9) (h : DataW.trod enc Tryz.prog W 0 sp hd n 34 cs = some (y, pl)) (hz : DSized Tryz.prog 34 y) :
    ∃ x : En, enCells x = cs ∧ enSub W W.heap.size x ∧ EnWf x := by
  obtain ⟨c0, c1, c2, c3, c4, c5, c6, c7, c8, rfl⟩ : ∃ c0 c1 c2 c3 c4 c5 c6 c7 c8, cs = [c0, c1, c2, c3, c4, c5, c6, c7, c8] := by
    match cs, hl with
    | [c0, c1, c2, c3, c4, c5, c6, c7, c8], _ => exact ⟨c0, c1, c2, c3, c4, c5, c6, c7, c8, rfl⟩
  obtain ⟨xs, m, _, hx, _, hlen, hf⟩ := DataW.trod_struct Tryz.underlying34 h
  simp only [Prod.mk.injEq] at hx
  obtain ⟨rfl, _⟩ := hx
  match xs, hlen with
  | [y0, y1, y2, y3, y4, y5], _ =>
    have h0 := hf 0 _ rfl
    have h1 := hf 1 _ rfl
    have h2 := hf 2 _ rfl
    have h3 := hf 3 _ rfl
    have h4 := hf 4 _ rfl
    have h5 := hf 5 _ rfl
    have z4 := DSized.field Tryz.underlying34 hz (i := 4) (y := y4) rfl rfl
    have z5 := DSized.field Tryz.underlying34 hz (i := 5) (y := y5) rfl rfl
    simp [cells_i64, cells_ek, cells_cm, cells_ints] at h0 h1 h2 h3 h4 h5
    obtain ⟨k0, e0, _, w0⟩ := DataW.trod_int Tryz.underlying3 h0
    obtain ⟨k1, e1, _, w1⟩ := DataW.trod_int Tryz.underlying28 h1
    obtain ⟨k2, e2, _, w2⟩ := DataW.trod_int Tryz.underlying3 h2
    obtain ⟨k3, e3, _, w3⟩ := DataW.trod_int Tryz.underlying3 h3
    obtain ⟨va, vl, vc, e5, t5⟩ := slice_cell Tryz.underlying24 h5
    obtain ⟨vs, rfl, vx, vq, vnil, vcap, vlen⟩ := open_sized (k := 1) (cells := iCells) (sub := noSub) (fun x => (Lit.int .i64 x).wf = true) Tryz.underlying24 cells_i64 (by decide) i_el t5 z5
    obtain ⟨ys, m4, _, hy, _, hlen4, hf4⟩ := DataW.trod_struct Tryz.underlying32 h4
    obtain ⟨d4, p4⟩ := y4
    simp only [Prod.mk.injEq] at hy
    obtain ⟨rfl, _⟩ := hy
    match ys, hlen4 with
    | [u0, u1, u2, u3], _ =>
      have g0 := hf4 0 _ rfl
      have g1 := hf4 1 _ rfl
      have g2 := hf4 2 _ rfl
      have g3 := hf4 3 _ rfl
      have q1 := DSized.field Tryz.underlying32 z4 (i := 1) (y := u1) rfl rfl
      have q2 := DSized.field Tryz.underlying32 z4 (i := 2) (y := u2) rfl rfl
      simp [cells_i64, cells_ck, cells_str, cells_vas] at g0 g1 g2 g3
      obtain ⟨k4, e4, _, w4⟩ := DataW.trod_int Tryz.underlying29 g0
      obtain ⟨s, e6, d6, _⟩ := DataW.trod_string Tryz.underlying9 g1
      obtain ⟨aa, al, ac, e7, t7⟩ := slice_cell Tryz.underlying30 g2
      obtain ⟨args, rfl, ax, aq, anil, acap, alen⟩ := open_sized (k := 3) (cells := vaCells) (sub := noSub) VaArg Tryz.underlying30 cells_va (by decide) va_el t7 q2
      obtain ⟨k8, e8, _, w8⟩ := DataW.trod_int Tryz.underlying3 g3
      rw [d6] at q1
      simp at e0 e1 e2 e3 e4 e5 e6 e7 e8
      subst e0 e1 e2 e3 e4 e5 e6 e7 e8
      rw [bytes_va] at alen
      rw [bytes_i] at vlen
      exact ⟨⟨k0, k1, k2, k3, k4, s, aa, args, ac, k8, va, vs, vc⟩, rfl, ⟨ax, vx⟩, ⟨w0, w1, w2, w3, w4, DSized.str q1, aq, w8, vq, alen, vlen, anil, vnil, acap, vcap⟩⟩
/-- Entries among the arguments. -/
theorem open_entries {H : Type} {enc : TypeId × Value → H} {W : World} {sp : Nat → Bool} {hd : Bool} {ao : Option Addr} {len cap : Nat} {d : DataW H} {p : List MemPlace} (h : DataW.Trod enc Tryz.prog W 0 sp hd 23 (.slice ao len cap) d p) (hz : DSized Tryz.prog 23 d) :
    ∃ es : List En, es.length = len ∧ EnsIn W W.heap.size ao es ∧ (∀ e ∈ es, EnWf e) ∧ (ao = none → cap = 0) ∧ len ≤ cap ∧ len * 112 ≤ 140737488351232 := by
  obtain ⟨es, h1, h2, h3, h4, h5, h6⟩ := open_sized (k := 9) (cells := enCells) (sub := enSub) EnWf Tryz.underlying23 cells_en (by decide) en_el h hz
  rw [bytes_en] at h6
  exact ⟨es, h1, h2, h3, h4, h5, h6⟩
end Go.Proofs.YtbimjggkiiadmaaGreatDoor
/- The law's own cap on entries. Conditions: the entries are read as the row reads them. -/
namespace Go.Proofs.YtbimjggkiiadmaaGreatDoor
open Go.RowKit
set_option maxRecDepth 20000
end Go.Proofs.YtbimjggkiiadmaaGreatDoor
/- A log, told by what its entries say. Conditions: the log is one that was made; its numbers are not too great. -/
namespace Go.Proofs.YtbimjggkiiadmaaGreatDoor
open Go.RowKit
set_option maxRecDepth 20000
/-- A log whose entries say ps. -/
def LogIs (w : World) (B lb : Nat) (base term : Int) (ps : List EnP) : Prop := ∃ v es, LogAt w B lb base term v es ∧ es.map En.plain = ps
def PSmall (ps : List EnP) : Prop := ∀ p ∈ ps, p.args.length ≤ 1099511627776 ∧ p.vs.length ≤ 1099511627776
theorem LogIs.below {w w' : World} {B B' lb : Nat} {base term : Int} {ps : List EnP} (h : LogIs w B lb base term ps) (hb : Below B' w w') (hB : w.heap.size ≤ B') : LogIs w' B lb base term ps := by
  obtain ⟨v, es, h1, h2⟩ := h
  exact ⟨v, es, h1.below hb hB, h2⟩
theorem LogIs.le {w : World} {B B' lb : Nat} {base term : Int} {ps : List EnP} (h : LogIs w B lb base term ps) (hB : B' ≤ B) : LogIs w B' lb base term ps := by
  obtain ⟨v, es, h1, h2⟩ := h
  exact ⟨v, es, h1.le hB, h2⟩
theorem ensArg_own {w : World} {B : Nat} {v : Value} {es : List En} (h : EnsOwn w B v es) (hp : PSmall (es.map En.plain)) : EnsArg es :=
  ⟨fun x hx => hp x.plain (List.mem_map.2 ⟨x, hx, rfl⟩), fun x hx => ⟨own_none (h.own x hx).1, own_none (h.own x hx).2⟩⟩
theorem len_map {es : List En} {ps : List EnP} (h : es.map En.plain = ps) : es.length = ps.length := by rw [← h, List.length_map]
theorem new_is (base term : Int) (ao : Option Addr) (n cap : Nat) (xs : List En) (w : World) (B : Nat) (hb : 0 ≤ base ∧ base ≤ 1099511627776) (ht : 0 ≤ term ∧ term ≤ 1099511627776) (hn : xs.length = n) (hx : EnsIn w B ao xs) (hB : B ≤ w.heap.size) (hao : ao = none → cap = 0) (hl : n ≤ 1099511627776) (hq : EnsArg xs) :
    Calls Tryz.prog 17 #[.int .i64 base, .int .i64 term, .slice ao n cap] w fun e w' => ∃ lb, e = .returned (.pointer (some ⟨lb, 0, none⟩)) ∧ LogIs w' w.heap.size lb base term (xs.map En.plain) ∧ Below w.heap.size w w' :=
  (new_any base term ao n cap xs w B hb ht hn hx hB hao hl hq).mono fun _ _ ⟨lb, v, es, h1, h2, h3, h4⟩ => ⟨lb, h1, ⟨v, es, h2, h3⟩, h4⟩
theorem term_is (B lb : Nat) (base term : Int) (ps : List EnP) (i : Int) (r : Int) (ok : Bool) (w : World) (hr : termS base term ps i = (r, ok)) (hL : LogIs w B lb base term ps) (hN : LogNums base ps.length i) :
    Calls Tryz.prog 26 #[.pointer (some ⟨lb, 0, none⟩), .int .i64 i] w fun e w' => e = .returned (.tuple #[.int .i64 r, .bool ok]) ∧ Below w.heap.size w w' := by
  obtain ⟨v, es, h1, rfl⟩ := hL
  rw [List.length_map] at hN
  exact term_any B lb base term v es i r ok w hr h1 hN
theorem last_is (B lb : Nat) (base term : Int) (ps : List EnP) (r t : Int) (w : World) (hr : lastS base term ps = (r, t)) (hL : LogIs w B lb base term ps) (hN : LogNums base ps.length 0) :
    Calls Tryz.prog 52 #[.pointer (some ⟨lb, 0, none⟩)] w fun e w' => e = .returned (.tuple #[.int .i64 r, .int .i64 t]) ∧ Below w.heap.size w w' := by
  obtain ⟨v, es, h1, rfl⟩ := hL
  rw [List.length_map] at hN
  exact last_any B lb base term v es r t w hr h1 hN
theorem base_is (B lb : Nat) (base term : Int) (ps : List EnP) (w : World) (hL : LogIs w B lb base term ps) :
    Calls Tryz.prog 43 #[.pointer (some ⟨lb, 0, none⟩)] w fun e w' => e = .returned (.tuple #[.int .i64 base, .int .i64 term]) ∧ Below w.heap.size w w' := by
  obtain ⟨v, es, h1, rfl⟩ := hL
  exact logBase_any B lb base term v es w h1
end Go.Proofs.YtbimjggkiiadmaaGreatDoor
/- Rows of entries under a store elsewhere. No program's run. -/
namespace Go.Proofs.YtbimjggkiiadmaaGreatDoor
open Go.RowKit
set_option maxRecDepth 20000
theorem row_ne_T {w : World} {B g : Nat} {v : Value} {T U : TypeId} {k n : Nat} {xs : List Value} {cs : Array Value} {fr : Nat × Nat} (hb : w.heap[g]? = some (.cells cs U fr)) (h : w.ownsRow B T k v n xs) (hT : U ≠ T) : v.ownBlock ≠ some g := by
  intro hh
  rcases h.2 with ⟨h1, _⟩ | ⟨g, cap, cur, h1, _, g1, _⟩
  · rw [h1] at hh; simp [Value.ownBlock] at hh
  · rw [h1] at hh
    simp [Value.ownBlock] at hh
    subst hh
    rw [hb] at g1
    simp only [Option.some.injEq, Obj.cells.injEq] at g1
    exact hT g1.2.1
theorem EnsOwn.setT {w : World} {B g : Nat} {v : Value} {es : List En} {cs : Array Value} {U : TypeId} {fr : Nat × Nat} (h : EnsOwn w B v es) (hb : w.heap[g]? = some (.cells cs U fr)) (h1 : U ≠ 34) (h2 : U ≠ 126) (h3 : U ≠ 3) (j : Nat) (u : Value) : EnsOwn (w.setCell ⟨g, j, none⟩ u) B v es :=
  ⟨ownsRow_setCell_other h.row (row_ne_T hb h.row h1) u, fun e he => ⟨ownsRow_setCell_other (h.own e he).1 (row_ne_T hb (h.own e he).1 h2) u, ownsRow_setCell_other (h.own e he).2 (row_ne_T hb (h.own e he).2 h3) u⟩, h.sep⟩
theorem grown_bel {w w' : World} (h : Below w.heap.size w w') (row : Option Nat) : w.grownBy w' row := ⟨h.os, h.tape, h.output, h.size, fun k hk _ => h.block k hk⟩
end Go.Proofs.YtbimjggkiiadmaaGreatDoor
