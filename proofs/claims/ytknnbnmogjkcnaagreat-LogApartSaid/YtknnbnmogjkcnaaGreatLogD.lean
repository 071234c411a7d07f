/- A log's Append. Conditions: the log is one that was made; its numbers are not too great. -/
import Derived.Test.YtknnbnmogjkcnaaGreatLogC
import Derived.Deep.RegionLaw
namespace Go.Proofs.YtknnbnmogjkcnaaGreat
open Go.RowKit
set_option maxRecDepth 20000

/-- An append to a row of the call's own of rows that are only read: at a step of a region that draws its order. -/
theorem step_append_rows {α : Type} {k bytes : Nat} {cells : α → List Value} {sub : World → Nat → α → Prop} {z : Value} {T E : TypeId} {w : World} {ops : Array Oper} {o : Oper} {a : Act} {K : Act → World → Prop} {Q : Exit → Act → World → Prop} {F : Prop} (hT : Tryz.prog.underlying T = some (.slice E))
    (hinfo : (Tryz.prog.info? E).map (fun i => (i.zero, i.size, i.bytes)) = some (some z, k, bytes)) (hzs : z.cells.size = k) (h0 : 0 < k) (hk : ∀ x, (cells x).length = k) (hone : ∀ x, ∀ u ∈ cells x, u.oneCell' = true) (hgd : o.guard = none) (s x : Operand)
    (ho : o.op = .call { callee := .builtin .append, args := #[s, x], argTypes := #[T, T] })
    (base : Nat) (v : Value) (n : Nat) (l : List Value) (hs : a.eval s = v) (hown : w.ownsRow base E k v n l)
    (ad : Addr) (m cap : Nat) (xs : List α) (hm : xs.length = m) (hx : a.eval x = .slice (some ad) m cap) (B : Nat) (hin : RowsIn k cells sub w B (some ad) xs) (hmax : n + m ≤ maxLen) (hlim : (n + m) * bytes ≤ 140737488355328) (hbase : base ≤ w.heap.size)
    (h : ∀ v' w', w'.ownsRow base E k v' (n + m) (l ++ xs.flatMap cells) → w.grownBy w' v.ownBlock → K (a.put o.dst v') w') :
    if Region.wanted o (yielded ops a.tmps) = true then Oper.wp Tryz.prog o a w K Q else F := by
  have hw : Region.wanted o (yielded ops a.tmps) = true := by simp [Region.wanted, hgd]
  rw [if_pos hw]
  obtain ⟨i0, hi, hz0, hz1, hz2⟩ := info_parts hinfo
  subst hm
  obtain ⟨v', w', hrun, r1, r2, _⟩ := run_append_own_at (P := Tryz.prog) w base T o.type E i0 z k bytes hT hi hz0 hz1 hz2 hzs h0 v n _ hown ad xs.length cap (xs.flatMap cells) (flat_len hk xs) (fun j u hu => cells_of_rows hk h0 hin (Below.refl _ _) rfl hu) (fun u hu => by
    obtain ⟨y, _, hy⟩ := List.mem_flatMap.1 hu
    exact hone y u hy) hmax hlim hbase
  unfold Oper.wp
  simp [execOp, ho, resolve, invoke, builtin, hs, hx, hrun, Result.andThen]
  exact h v' w' r1 r2
/-- A log whose entries have grown. -/
theorem LogAt.grow {w1 w2 w3 : World} {B lb : Nat} {base term : Int} {v v' : Value} {v2 : Value} {es es2 : List En} (h : LogAt w1 B lb base term v es) (hB : B ≤ w1.heap.size) (hb : Below w1.heap.size w1 w2) (ho : EnsOwn w2 w1.heap.size v2 es2)
    (hown : w3.ownsRow B 38 9 v' (es.length + es2.length) (es.flatMap enCells ++ es2.flatMap enCells)) (hg : w2.grownBy w3 v.ownBlock) : EnsOwn w3 B v' (es ++ es2) := by
  have h2 := h.below hb (Nat.le_refl _)
  refine ⟨by rw [List.length_append, List.flatMap_append]; exact hown, fun e he => ?_, List.pairwise_append.2 ⟨h.ens.sep, ho.sep, fun e he f hf => ?_⟩⟩
  · rcases List.mem_append.1 he with h' | h'
    · have h3 := h2.ens.own e h'
      exact ⟨World.ownsRow.kept h3.1 hg (own_apart h3.1 h2.ens.row (by decide)), World.ownsRow.kept h3.2 hg (own_apart h3.2 h2.ens.row (by decide))⟩
    · have h3 := (ho.own e h').le hB
      exact ⟨World.ownsRow.kept h3.1 hg (own_apart h3.1 h2.ens.row (by decide)), World.ownsRow.kept h3.2 hg (own_apart h3.2 h2.ens.row (by decide))⟩
  · unfold sepE
    constructor
    · cases hb1 : (argV e).ownBlock with
      | none => exact Or.inl rfl
      | some b =>
        right
        intro hh
        have q1 := ((h.ens.own e he).1.lt b hb1).2
        have q2 := ((ho.own f hf).1.lt b hh.symm).1
        omega
    · cases hb1 : (votV e).ownBlock with
      | none => exact Or.inl rfl
      | some b =>
        right
        intro hh
        have q1 := ((h.ens.own e he).2.lt b hb1).2
        have q2 := ((ho.own f hf).2.lt b hh.symm).1
        omega
theorem own_ne_log {w : World} {B lb : Nat} {base term : Int} {v : Value} {es : List En} (h : LogAt w B lb base term v es) : v.ownBlock ≠ some lb := by
  intro hh
  rcases h.ens.row.2 with ⟨h1, _⟩ | ⟨g, cap, cur, h1, _, g1, _⟩
  · rw [h1] at hh; simp [Value.ownBlock] at hh
  · rw [h1] at hh
    simp [Value.ownBlock] at hh
    subst hh
    rw [h.blk] at g1
    simp only [Option.some.injEq, Obj.cells.injEq] at g1
    exact absurd g1.2.1 (by decide)
theorem row_ne_log {w : World} {B lb : Nat} {base term : Int} {v0 v : Value} {T : TypeId} {k n : Nat} {xs : List Value} (hb : w.heap[lb]? = some (.cells #[.bool true, .int .i64 base, .int .i64 term, v0] 49 (0, 0))) (h : w.ownsRow B T k v n xs) (hT : 49 ≠ T) : v.ownBlock ≠ some lb := by
  intro hh
  rcases h.2 with ⟨h1, _⟩ | ⟨g, cap, cur, h1, _, g1, _⟩
  · rw [h1] at hh; simp [Value.ownBlock] at hh
  · rw [h1] at hh
    simp [Value.ownBlock] at hh
    subst hh
    rw [hb] at g1
    simp only [Option.some.injEq, Obj.cells.injEq] at g1
    exact hT g1.2.1
theorem EnsOwn.store {w : World} {B lb : Nat} {base term : Int} {v0 v : Value} {es : List En} (h : EnsOwn w B v es) (hb : w.heap[lb]? = some (.cells #[.bool true, .int .i64 base, .int .i64 term, v0] 49 (0, 0))) (j : Nat) (u : Value) : EnsOwn (w.setCell ⟨lb, j, none⟩ u) B v es :=
  ⟨ownsRow_setCell_other h.row (row_ne_log hb h.row (by decide)) u, fun e he => ⟨ownsRow_setCell_other (h.own e he).1 (row_ne_log hb (h.own e he).1 (by decide)) u, ownsRow_setCell_other (h.own e he).2 (row_ne_log hb (h.own e he).2 (by decide)) u⟩, h.sep⟩
theorem log_store {w : World} {lb : Nat} {base term : Int} {v0 u : Value} (h : w.heap[lb]? = some (.cells #[.bool true, .int .i64 base, .int .i64 term, v0] 49 (0, 0))) : (w.setCell ⟨lb, 3, none⟩ u).heap[lb]? = some (.cells #[.bool true, .int .i64 base, .int .i64 term, u] 49 (0, 0)) := by
  have hlt := (Array.getElem?_eq_some_iff.1 h).1
  have h' := (Array.getElem?_eq_some_iff.1 h).2
  show (w.heap.modify lb _)[lb]? = _
  rw [Array.getElem?_eq_getElem (by simpa using hlt), Array.getElem_modify_self, h']
  rfl
def AppendAt (B lb : Nat) (base term : Int) (es : List En) (ps : List EnP) (r : Int) (w : World) (e : Ending) (w' : World) : Prop :=
  ∃ v' es2, e = .returned (.int .i64 r) ∧ LogAt w' B lb base term v' (es ++ es2) ∧ es2.map En.plain = ps ∧ Below B w w'
theorem len_of_plain {es xs : List En} (h : es.map En.plain = xs.map En.plain) : es.length = xs.length := by
  have := congrArg List.length h
  simpa only [List.length_map] using this

set_option maxHeartbeats 4000000 in
theorem append_any (B lb : Nat) (base term : Int) (v : Value) (es : List En) (ao : Option Addr) (m cap : Nat) (xs : List En) (w : World) (B2 : Nat) (hL : LogAt w B lb base term v es) (hN : LogNums base es.length 0) (hB : B ≤ w.heap.size) (hn : xs.length = m) (hm : 0 < m) (hx : EnsIn w B2 ao xs) (hB2 : B2 ≤ w.heap.size) (hao : ao = none → cap = 0) (hl : m ≤ 1099511627776) (hnm : es.length + m ≤ 1099511627776) (hq : EnsArg xs) :
    Calls Tryz.prog 9 #[.pointer (some ⟨lb, 0, none⟩), .slice ao m cap] w (AppendAt B lb base term es (xs.map En.plain) (base + es.length + 1) w) := by
  obtain ⟨a, c, hv⟩ := hL.form
  subst hv
  obtain ⟨h1, h2, _, _, h5⟩ := hN
  have HL := Lib.hid hL
  obtain ⟨n, hn0⟩ : ∃ n, es.length = n := ⟨_, rfl⟩
  have hc0 := hL.c0
  have hc1 := hL.c1
  have hc3 : w.cell? ⟨lb, 3, none⟩ = some (.slice a n c) := by rw [← hn0]; exact hL.c3
  rw [hn0] at h5 hnm ⊢
  have HN := Lib.hid hn0
  have HX := Lib.hid hx
  have HXN := Lib.hid hn
  have HA := Lib.hid hao
  have HQ := Lib.hid hq
  clear hL hn0 hx hn hao hq
  have w1 : IntKind.i64.wrap (base + (n : Int)) = base + n := IntWalk.i64_in _ (by omega)
  have w2 : IntKind.i64.wrap (base + (n : Int) + 1) = base + n + 1 := IntWalk.i64_in _ (by omega)
  have m0 : ¬ (m : Int) = 0 := by omega
  go_enter Tryz.func9, Tryz.ntmps9
  go_wp2_with (go_at_call 18; (with_reducible refine (there_any lb w hc0).mono ?_); rintro e w' ⟨rfl, rfl⟩)
  go_quiet (fail)
  have hb1 : Below w.heap.size w (w.drewN nq) := below_drewN (Below.refl _ _) _
  generalize w.drewN nq = x1 at hb1 ⊢
  have hL1 := HL.out.below hb1 (Nat.le_refl _)
  have hs1 := hb1.size
  have d3 : x1.cell? ⟨lb, 3, none⟩ = some (.slice a n c) := by have := hL1.c3; rw [HN.out] at this; exact this
  have hB1 : B ≤ x1.heap.size := by omega
  have HL1 := Lib.hid hL1
  clear hc0 hc1 hc3 hL1 w1 w2
  go_wp2_with fail
  go_region_law (first | (go_simp; go_at_call 14; refine (copied_at ao m cap xs (xs.map En.plain) _ w.heap.size HXN.out rfl ((HX.out.mono enSub_rising hB2).below enSub_kept (hb1.drew) (Nat.le_refl _)) hs1 HA.out hl HQ.out).mono ?_; rintro e x2 ⟨a2, c2, es2, rfl, ho2, hm2, hb2⟩; have hle2 : es2.length = m := (len_of_plain hm2).trans HXN.out; obtain ⟨g2, c2', hg2⟩ := Go.Joins.ownsRow_form ho2.row (by rw [hle2]; exact hm); injection hg2 with hg3 hg4 hg5; subst hg3; subst hg5; clear hg4; have hx12 : Below x1.heap.size x1 x2 := Below.trans (Below.drew (Below.refl _ _)) hb2; have hL2 := HL1.out.below hx12 (Nat.le_refl _); have hs2 := hx12.size; have d3 : x2.cell? ⟨lb, 3, none⟩ = some (.slice a n c) := (by have := hL2.c3; rw [HN.out] at this; exact this); have HL2 := Lib.hid hL2; have HO2 := Lib.hid ho2; have HM2 := Lib.hid hm2; have HLE2 := Lib.hid hle2; clear hL2 ho2 hm2 hle2) | (refine step_append_rows Tryz.underlying22 infoEn rfl (by decide) enCells_len enCells_one (by rfl) (.tmp 29) (.tmp 31) (by rfl) B (.slice a n c) n (es.flatMap enCells) (by rfl) (by have := HL2.out.ens.row; rw [HN.out] at this; exact this) ⟨g2, 0, none⟩ m c2 es2 HLE2.out (by rfl) x2.heap.size (by obtain ⟨a', c', hv', _, _, hin'⟩ := HO2.out.lie; cases hv'; exact hin') (by unfold maxLen; omega) (by omega) (by omega) ?_; intro v5 x5 hown5 hg5; obtain ⟨a5, c5, hv5⟩ := row_slice hown5; subst hv5; have hlb5 := (hg5.block lb HL2.out.lt (fun e => own_ne_log HL2.out (by rw [HN.out]; exact e.symm))).trans HL2.out.blk; have d3 : x5.cell? ⟨lb, 3, none⟩ = some (.slice a n c) := (by have := Go.Joins.cell_of_block hlb5 3; rw [HN.out] at this; exact this); have f3 : x5.frozen? ⟨lb, 3, none⟩ = false := Go.Joins.unfrozen_of_block hlb5 3; have hlens := HLE2.out; have HE5 := Lib.hid (HL1.out.grow (v2 := .slice (some ⟨g2, 0, none⟩) m c2) (es2 := es2) (w3 := x5) (v' := .slice a5 (n + m) c5) hB1 hx12 HO2.out (by rw [HN.out, HLE2.out]; exact hown5) (by rw [HN.out]; exact hg5)); have HB5 := Lib.hid hlb5; have hb5 : Below B x1 x5 := Below.grown (hx12.mono hB1) hg5 (by omega) (fun b hb => (HL2.out.ens.row.lt b (by rw [HN.out]; exact hb)).1); clear hlens hown5 hg5 hlb5))
  all_goals (have hL6 : LogAt (x5.setCell ⟨lb, 3, none⟩ (.slice a5 (n + m) c5)) B lb base term (.slice a5 (n + m) c5) (es ++ es2) := ⟨log_store HB5.out, HE5.out.store HB5.out _ _, HL2.out.low⟩)
  all_goals (have hb6 : Below B w (x5.setCell ⟨lb, 3, none⟩ (.slice a5 (n + m) c5)) := Below.setCell ((hb1.mono hB).trans hb5) HL2.out.low _)
  all_goals (generalize x5.setCell ⟨lb, 3, none⟩ (.slice a5 (n + m) c5) = x6 at hL6 hb6 ⊢)
  all_goals (simp only [Exit.then])
  all_goals (rename (∀ (_ : Act) (_ : World), _ → _) => hK0)
  all_goals (refine hK0 _ _ ?_; clear hK0)
  all_goals (go_wp2_with fail)
  all_goals go_ret
  all_goals (refine ⟨_, es2, rfl, hL6, HM2.out, ?_⟩)
  all_goals (exact hb6)
end Go.Proofs.YtknnbnmogjkcnaaGreat
