/- A new peer. Conditions: its log is empty and lies so; its voters may be. -/
import Derived.Test.YtbimjggkiiadmaaGreatDoorGRaftNone4
import Derived.Test.YtbimjggkiiadmaaGreatDoorGRaftNone3
set_option linter.unusedVariables false
set_option linter.unusedSimpArgs false
namespace Go.Proofs.YtbimjggkiiadmaaGreatDoor
open Go.RowKit
set_option maxRecDepth 20000
theorem ints_of_nums {w : World} {B : Nat} {ao : Option Addr} {xs : List Int} (h : NumsIn w B ao xs) : IntsIn w B ao xs := by
  rcases h with h | ⟨b, off, h1, h2, h3⟩
  · exact Or.inl h
  · refine Or.inr ⟨b, off, h1, h2, fun i hi => ?_⟩
    have := (h3 i xs[i] (List.getElem?_eq_getElem hi)).1 0 (by omega)
    rw [show off + i * 1 + 0 = off + i by omega] at this
    rw [this, List.getD_eq_getElem?_getD, List.getElem?_eq_getElem hi]
    rfl
theorem last_nil : lastS 0 0 [] = (0, 0) := rfl
theorem term_nil0 : termS 0 0 [] 0 = (0, true) := by simp [termS]
theorem nums_nil (i : Int) (h : -10 ≤ i ∧ i ≤ 10) : LogNums 0 ([] : List EnP).length i := by unfold LogNums; simp; omega
theorem rows_block {α : Type} {k : Nat} {cells : α → List Value} {sub : World → Nat → α → Prop} (hk : ∀ x, (cells x).length = k) {w : World} {b B : Nat} {T : TypeId} {fz : Nat × Nat} (xs : List α) (cs : Array Value) (h : w.heap[b]? = some (.cells cs T fz)) (hcs : cs.toList = xs.flatMap cells) (hb : b < B) (hs : ∀ x ∈ xs, sub w B x) : RowsIn k cells sub w B (some ⟨b, 0, none⟩) xs := by
  refine Or.inr ⟨b, 0, rfl, hb, fun i x hx => ⟨fun j hj => ?_, hs x (List.mem_of_getElem? hx)⟩⟩
  rw [Go.Joins.cell_of_block h (0 + i * k + j), ← Array.getElem?_toList, hcs, Nat.zero_add]
  exact flat_get hk xs i x hx j hj
/-- Compact, and rows of ints stay. -/
theorem compact_ints (B lb : Nat) (base term t : Int) (ps : List EnP) (k : Nat) (i : Int) (w : World) (hi : i = base + k) (hk : k ≤ ps.length) (hr : termS base term ps i = (t, true)) (hL : LogIs w B lb base term ps) (hN : LogNums base ps.length i) (hB : B ≤ w.heap.size) :
    Calls Tryz.prog 45 #[.pointer (some ⟨lb, 0, none⟩), .int .i64 i] w fun e w' => e = .returned (.int .i64 0) ∧ LogIs w' B lb i t (ps.drop k) ∧ Below B w w' ∧ ∀ (g : Nat) (cs : Array Value), w.heap[g]? = some (Obj.cells cs 3 (0, 0)) → w'.heap[g]? = w.heap[g]? := by
  obtain ⟨v, es, h1, rfl⟩ := hL
  rw [List.length_map] at hN hk
  refine (compact_any B lb base term t v es k i w hi hk hr h1 hN hB).mono fun e w' ⟨v', g1, g2, g3, g4⟩ => ⟨g1, ⟨v', es.drop k, g2, ?_⟩, g3, fun g cs hg => ?_⟩
  · rw [List.map_drop]
  · exact g4.apt g (Array.getElem?_eq_some_iff.1 hg).1 (fun e => by
      have hq := h1.blk
      rw [← e, hg] at hq
      simp only [Option.some.injEq, Obj.cells.injEq] at hq
      exact absurd hq.2.1 (by decide)) (row_ne_T hg h1.ens.row (by decide))
/-- What New tells. -/
def NewPeer (vs : List Int) (B lb : Nat) (w : World) (e : Ending) (w' : World) : Prop :=
  ∃ pb first, e = .returned (.pointer (some ⟨pb, 0, none⟩)) ∧ PeerIs w' B pb lb (.fresh 1 first (.pointer (some ⟨lb, 0, none⟩)) 0 0) vs [] ∧ Below B w w'
set_option maxHeartbeats 4000000 in
theorem pnew_any {w : World} {B lb g : Nat} (cs : Array Value) (cap n : Nat) (vs : List Int) (hn : vs.length = n) (hg : w.heap[g]? = some (.cells cs 3 (0, 0))) (hcs : cs.toList = vs.flatMap iCells) (hpos : 0 < n) (hr : rightS vs = true) (hL : LogIs w B lb 0 0 []) (hB : B ≤ w.heap.size) :
    Calls Tryz.prog 18 #[.int .i64 1, .slice (some ⟨g, 0, none⟩) n cap, .int .i64 0, .int .i64 0, .pointer (some ⟨lb, 0, none⟩), .int .i64 0] w (NewPeer vs B lb w) := by
  have HG := Lib.hid hg
  have hgl := (Array.getElem?_eq_some_iff.1 hg).1
  have HCS := Lib.hid hcs
  have HL := Lib.hid hL
  have HN := Lib.hid hn
  have HR := Lib.hid hr
  have hp0 : (0 : Int) < n := by omega
  have hcap : n ≤ 1099511627776 := by
    have h7 : vs.length ≤ 7 := by
      have := hr
      simp [rightS] at this
      omega
    omega
  clear hg hcs hL hn hr
  go_enter Tryz.func18, Tryz.ntmps18
  go_wp2_with fail
  refine (base_is B lb 0 0 [] w HL.out).mono ?_
  rintro e w1 ⟨rfl, hb1⟩
  have HB1 := Lib.hid hb1
  have HL1 := Lib.hid (HL.out.below hb1 (Nat.le_refl _))
  clear hb1
  go_wp2_with fail
  refine (last_is B lb 0 0 [] 0 0 w1 last_nil HL1.out (nums_nil 0 (by omega))).mono ?_
  rintro e w2 ⟨rfl, hb2⟩
  have HB2 := Lib.hid (HB1.out.trans (hb2.mono HB1.out.size))
  have HL2 := Lib.hid (HL1.out.below hb2 (Nat.le_refl _))
  clear hb2
  go_wp2_with fail
  rw [← HN.out]
  refine (right_any (some ⟨g, 0, none⟩) cap vs w2 w2.heap.size (ints_of_nums (rows_block iCells_len vs cs ((HB2.out.block g hgl).trans HG.out) HCS.out (Nat.lt_of_lt_of_le hgl HB2.out.size) fun _ _ => trivial)) (Nat.le_refl _) (by rw [HN.out]; omega)).mono ?_
  rw [HR.out]
  rintro e w3 ⟨rfl, hb3⟩
  have HB3 := Lib.hid (HB2.out.trans (hb3.mono HB2.out.size))
  have HL3 := Lib.hid (HL2.out.below hb3 (Nat.le_refl _))
  clear hb3
  go_wp2_with fail
  refine (compact_ints B lb 0 0 0 [] 0 0 w3 rfl (Nat.zero_le _) term_nil0 HL3.out (nums_nil 0 (by omega)) (Nat.le_trans hB HB3.out.size)).mono ?_
  rintro e w4 ⟨rfl, hL4, hb4, hi4⟩
  have HL4 := Lib.hid (show LogIs w4 B lb 0 0 [] from hL4)
  have hg3 := (HB3.out.block g hgl).trans HG.out
  have hg4 := (hi4 g cs hg3).trans hg3
  have HG4 := Lib.hid hg4
  have HB4 := Lib.hid ((HB3.out.mono hB).trans hb4)
  clear hL4 hb4 hi4 hg3 hg4
  go_wp2_with fail
  refine (cloneI_any noSub (some ⟨g, 0, none⟩) vs.length cap vs w4 w4.heap.size rfl (rows_block iCells_len vs cs HG4.out HCS.out (Array.getElem?_eq_some_iff.1 HG4.out).1 fun _ _ => trivial) noSub_kept (Nat.le_refl _) (by simp) (by rw [HN.out]; exact hcap)).mono ?_
  rintro e w5 ⟨a, c, rfl, ho5, hb5⟩
  have HO5 := Lib.hid ho5
  have HL5 := Lib.hid (HL4.out.below hb5 (Nat.le_refl _))
  have HB5 := Lib.hid (HB4.out.trans (hb5.mono (Nat.le_trans hB HB4.out.size)))
  have h45 := hb5.size
  clear ho5 hb5
  go_wp2_with fail
  go_ret
  have hba := (Below.refl w5.heap.size w5).alloc (Nat.le_refl _) (.cells (PP.fresh 1 (.slice a vs.length c) (.pointer (some ⟨lb, 0, none⟩)) 0 0).cells 52)
  have hB5 : B ≤ w5.heap.size := Nat.le_trans hB HB5.out.size
  exact ⟨w5.heap.size, .slice a vs.length c, rfl, ⟨heap_alloc_new w5 (.cells (PP.fresh 1 (.slice a vs.length c) (.pointer (some ⟨lb, 0, none⟩)) 0 0).cells 52), rfl, HL5.out.below hba (Nat.le_refl _), own_below (Go.Joins.ownsRow_le HO5.out (Nat.le_trans hB HB4.out.size)) hba (Nat.le_refl _), hB5⟩, HB5.out.trans (hba.mono hB5)⟩
end Go.Proofs.YtbimjggkiiadmaaGreatDoor
/- A peer under a store elsewhere. No program's run. -/
namespace Go.Proofs.YtbimjggkiiadmaaGreatDoor
open Go.RowKit
set_option maxRecDepth 20000
theorem EnsOwn.keptT {w w' : World} {B g : Nat} {v : Value} {es : List En} {cs : Array Value} {U : TypeId} {fr : Nat × Nat} (h : EnsOwn w B v es) (hb : w.heap[g]? = some (.cells cs U fr)) (h1 : U ≠ 34) (h2 : U ≠ 126) (h3 : U ≠ 3) (hg : w.grownBy w' (some g)) : EnsOwn w' B v es :=
  ⟨World.ownsRow.kept h.row hg (Or.inr (row_ne_T hb h.row h1)), fun e he => ⟨World.ownsRow.kept (h.own e he).1 hg (Or.inr (row_ne_T hb (h.own e he).1 h2)), World.ownsRow.kept (h.own e he).2 hg (Or.inr (row_ne_T hb (h.own e he).2 h3))⟩, h.sep⟩
/-- A block of another type is written: the peer stays. -/
theorem PeerIs.keptT {w w' : World} {B pb lb g : Nat} {s : PP} {vs : List Int} {ps : List EnP} {cs : Array Value} {U : TypeId} {fr : Nat × Nat} (h : PeerIs w B pb lb s vs ps) (hb : w.heap[g]? = some (.cells cs U fr)) (h1 : U ≠ 34) (h2 : U ≠ 126) (h3 : U ≠ 3) (h4 : U ≠ 52) (h5 : U ≠ 92) (hg : w.grownBy w' (some g)) : PeerIs w' B pb lb s vs ps := by
  obtain ⟨v, es, k1, k2⟩ := h.log
  have n1 : pb ≠ g := fun e => by
    have hq := h.blk
    rw [e, hb] at hq
    simp only [Option.some.injEq, Obj.cells.injEq] at hq
    exact h4 hq.2.1
  have n2 : lb ≠ g := fun e => by
    have hq := k1.blk
    rw [e, hb] at hq
    simp only [Option.some.injEq, Obj.cells.injEq] at hq
    exact h5 hq.2.1
  exact ⟨(hg.block pb h.lt (fun e => n1 (Option.some.inj e))).trans h.blk, h.lg, ⟨v, es, ⟨(hg.block lb k1.lt (fun e => n2 (Option.some.inj e))).trans k1.blk, k1.ens.keptT hb h1 h2 h3 hg, k1.low⟩, k2⟩, World.ownsRow.kept h.row hg (Or.inr (row_ne_T hb h.row h3)), h.low⟩
end Go.Proofs.YtbimjggkiiadmaaGreatDoor
/- A tick of a peer that waits on. Conditions: it follows, it has not waited long enough. -/
namespace Go.Proofs.YtbimjggkiiadmaaGreatDoor
open Go.RowKit
set_option maxRecDepth 20000
def EndIs (P : World → Prop) (e : Ending) (w' : World) : Prop := e = .returned (.tuple #[]) ∧ P w'
set_option maxHeartbeats 4000000 in
theorem wait_any {w : World} {B pb lb tb ub : Nat} {s : PP} {vs : List Int} {ps : List EnP} (draw k lim : Int) (h : PeerIs w B pb lb s vs ps) (ht : w.cell? ⟨tb, 0, none⟩ = some (.pointer (some ⟨pb, 0, none⟩))) (hu : w.cell? ⟨ub, 0, none⟩ = some (.int .i64 draw)) (hne : tb ≠ pb ∧ ub ≠ pb) (hr : s.role = 1) (hk : s.waited = k) (hl : s.limit = lim) (hk9 : 0 ≤ k ∧ k < 9) (hd : draw = 0 ∨ draw = 20) (hlim : lim = 0 ∨ lim = 10) :
    Calls Tryz.prog 28 #[.pointer (some ⟨tb, 0, none⟩), .pointer (some ⟨ub, 0, none⟩)] w (EndIs fun w' => PeerIs w' B pb lb { s with waited := k + 1, limit := 10 } vs ps ∧ w.grownBy w' (some pb)) := by
  have c0 : w.cell? ⟨pb, 41, none⟩ = some (.int .u8 1) := (h.cells 41).trans (congrArg (fun x => some (Value.int .u8 x)) hr)
  have c1 : w.cell? ⟨pb, 43, none⟩ = some (.int .i64 k) := (h.cells 43).trans (congrArg (fun x => some (Value.int .i64 x)) hk)
  have c2 : w.cell? ⟨pb, 44, none⟩ = some (.int .i64 lim) := (h.cells 44).trans (congrArg (fun x => some (Value.int .i64 x)) hl)
  have f1 := h.soft 43
  have f2 := h.soft 44
  obtain ⟨n1, n2⟩ := hne
  have w1 : IntKind.i64.wrap (k + 1) = k + 1 := IntWalk.i64_in _ (by omega)
  have d1 : decide ((10 : Int) ≤ k + 1) = false := by simp; omega
  have d2 : ¬ (10 : Int) ≤ k + 1 := by omega
  have HLIM := Lib.hid hl
  have H := Lib.hid h
  have h1 := h.set 43 (.int .i64 (k + 1)) { s with waited := k + 1 } rfl rfl rfl
  have H1 := Lib.hid h1
  have h2 := h1.set 44 (.int .i64 10) { s with waited := k + 1, limit := 10 } rfl rfl rfl
  have H2 := Lib.hid h2
  clear h h1 h2 hr hk hl
  have HE := Lib.hid (fun (e : lim = 10) => show ({ s with waited := k + 1, limit := 10 } : PP) = { s with waited := k + 1 } from by rw [← e, ← HLIM.out])
  have H3 := Lib.hid (fun (u : Value) => grown_setL (w.setCell ⟨pb, 43, none⟩ (.int .i64 (k + 1))) ⟨pb, 44, none⟩ u)
  have H4 := Lib.hid (grown_setL w ⟨pb, 43, none⟩ (.int .i64 (k + 1)))
  rcases hlim with rfl | rfl
  · rcases hd with rfl | rfl
    · go_enter Tryz.func28, Tryz.ntmps28
      go_wp2_with fail
      go_quiet (fail)
      go_wp2_with fail
      go_end0
      exact ⟨rfl, H2.out.below (below_drewN (Below.refl _ _) _) (Nat.le_refl _), (H4.out.trans (H3.out _)).trans (grown_bel (below_drewN (Below.refl _ _) _) _)⟩
    · go_enter Tryz.func28, Tryz.ntmps28
      go_wp2_with fail
      go_quiet (fail)
      go_wp2_with fail
      go_end0
      exact ⟨rfl, H2.out.below (below_drewN (Below.refl _ _) _) (Nat.le_refl _), (H4.out.trans (H3.out _)).trans (grown_bel (below_drewN (Below.refl _ _) _) _)⟩
  · go_enter Tryz.func28, Tryz.ntmps28
    go_wp2_with fail
    go_quiet (fail)
    go_wp2_with fail
    go_end0
    refine ⟨rfl, ?_, H4.out.trans (grown_bel (below_drewN (Below.refl _ _) _) _)⟩
    rw [HE.out trivial]
    exact H1.out.below (below_drewN (Below.refl _ _) _) (Nat.le_refl _)
/-- The peer's word, begun anew. -/
def PP.begun (s : PP) : PP := { s with frm := 0, letters := .slice none 0 0, snap := .pointer none, sure := 0, lost := false }
theorem info_out : (Tryz.prog.info? 45).map (·.size) = some 8 := by kernel_rfl
theorem PeerIs.begun {w : World} {B pb lb : Nat} {s : PP} {vs : List Int} {ps : List EnP} (h : PeerIs w B pb lb s vs ps) : PeerIs (w.setCells pb 0 [.int .i64 s.term, .int .i64 s.voted, .int .i64 0, .slice none 0 0, .int .i64 s.commit, .pointer none, .int .i64 0, .bool false]) B pb lb s.begun vs ps := by
  have h1 := h.set 0 (.int .i64 s.term) s rfl rfl rfl
  have h2 := h1.set 1 (.int .i64 s.voted) s rfl rfl rfl
  have h3 := h2.set 2 (.int .i64 0) { s with frm := 0 } rfl rfl rfl
  have h4 := h3.set 3 (.slice none 0 0) { s with frm := 0, letters := .slice none 0 0 } rfl rfl rfl
  have h5 := h4.set 4 (.int .i64 s.commit) { s with frm := 0, letters := .slice none 0 0 } rfl rfl rfl
  have h6 := h5.set 5 (.pointer none) { s with frm := 0, letters := .slice none 0 0, snap := .pointer none } rfl rfl rfl
  have h7 := h6.set 6 (.int .i64 0) { s with frm := 0, letters := .slice none 0 0, snap := .pointer none, sure := 0 } rfl rfl rfl
  exact h7.set 7 (.bool false) s.begun rfl rfl rfl
theorem grown_cells (pb : Nat) (vs : List Value) : ∀ (w : World) (o : Nat), w.grownBy (w.setCells pb o vs) (some pb) := by
  induction vs with
  | nil => exact fun w o => World.grownBy.refl _ _
  | cons v r ih => exact fun w o => (grown_setL w ⟨pb, o, none⟩ v).trans (ih _ _)
theorem PeerIs.there {w : World} {B pb lb : Nat} {s : PP} {vs : List Int} {ps : List EnP} (h : PeerIs w B pb lb s vs ps) : w.there pb 0 8 := fun j hj => ⟨by
  rw [h.cells, Array.getElem?_eq_getElem (by rw [PP.size]; omega)]; rfl, h.soft _⟩
theorem PeerIs.range {w : World} {B pb lb : Nat} {s : PP} {vs : List Int} {ps : List EnP} (h : PeerIs w B pb lb s vs ps) : w.rangeAt pb 0 s.out.toList := World.rangeAt_of_block h.blk 0 8
theorem grown_rowR (w : World) (g : Nat) (cs : Array Value) : w.grownBy (w.setRow g cs) (some g) := ⟨rfl, rfl, rfl, by simp, fun k _ hk => setRow_other w g k cs (fun e => hk (by rw [e]))⟩
/-- What stays where memory only grows, and where what is told is written. -/
def Firm (Q : World → Prop) : Prop := (∀ w w', Q w → Below w.heap.size w w' → Q w') ∧ ∀ w w' g cs fr, Q w → w.heap[g]? = some (.cells cs 45 fr) → w.grownBy w' (some g) → Q w'
/-- Blocks that are no peer's, no log's and no entries', letters' or numbers' stay. -/
def KB (w w' : World) : Prop := ∀ (g : Nat) (cs : Array Value) (T : TypeId) (fr : Nat × Nat), w.heap[g]? = some (Obj.cells cs T fr) → T ≠ 52 → T ≠ 92 → T ≠ 34 → T ≠ 27 → T ≠ 3 → w'.heap[g]? = w.heap[g]?
theorem KB.refl (w : World) : KB w w := fun _ _ _ _ _ _ _ _ _ _ => rfl
theorem KB.trans {a b c : World} (h : KB a b) (h' : KB b c) : KB a c := fun g cs T fr hg h1 h2 h3 h4 h5 =>
  (h' g cs T fr ((h g cs T fr hg h1 h2 h3 h4 h5).trans hg) h1 h2 h3 h4 h5).trans (h g cs T fr hg h1 h2 h3 h4 h5)
theorem KB.of_below {a b : World} (h : Below a.heap.size a b) : KB a b := fun g _ _ _ hg _ _ _ _ _ => h.block g (Array.getElem?_eq_some_iff.1 hg).1
theorem KB.low {a b c : World} {C : Nat} (h : KB a b) (hb : Below C b c) (hC : a.heap.size ≤ C) : KB a c := fun g cs T fr hg h1 h2 h3 h4 h5 =>
  (hb.block g (Nat.lt_of_lt_of_le (Array.getElem?_eq_some_iff.1 hg).1 hC)).trans (h g cs T fr hg h1 h2 h3 h4 h5)
theorem KB.grow {a b c : World} {p : Nat} {cs : Array Value} {U : TypeId} {fr : Nat × Nat} (h : KB a b) (hp : b.heap[p]? = some (.cells cs U fr)) (hU : U = 52 ∨ U = 92 ∨ U = 34 ∨ U = 27 ∨ U = 3) (hg : b.grownBy c (some p)) : KB a c := fun g cs' T fr' hg' h1 h2 h3 h4 h5 => by
  have hq := (h g cs' T fr' hg' h1 h2 h3 h4 h5).trans hg'
  refine (hg.block g (Array.getElem?_eq_some_iff.1 hq).1 (fun e => ?_)).trans (h g cs' T fr' hg' h1 h2 h3 h4 h5)
  have e := Option.some.inj e
  subst e
  rw [hp] at hq
  simp only [Option.some.injEq, Obj.cells.injEq] at hq
  obtain ⟨_, rfl, _⟩ := hq
  rcases hU with e | e | e | e | e
  · exact h1 e
  · exact h2 e
  · exact h3 e
  · exact h4 e
  · exact h5 e
theorem KB.row {a b c : World} {p : Nat} (h : KB a b) (hg : b.grownBy c (some p)) (hp : a.heap.size ≤ p) : KB a c := fun g cs T fr hg' h1 h2 h3 h4 h5 => by
  have hl := (Array.getElem?_eq_some_iff.1 hg').1
  have hq := (h g cs T fr hg' h1 h2 h3 h4 h5).trans hg'
  exact (hg.block g (Array.getElem?_eq_some_iff.1 hq).1 (fun e => by have := Option.some.inj e; omega)).trans (h g cs T fr hg' h1 h2 h3 h4 h5)
/-- What call and Tick tell. -/
def TickIs (R : PP → World → Prop) (B pb lb : Nat) (vs : List Int) (qs : List EnP) (w : World) (e : Ending) (w' : World) : Prop := ∃ t, e = .returned (.agg t.out) ∧ PeerIs w' B pb lb t vs qs ∧ R t w' ∧ Below B w w' ∧ KB w w'
theorem firm_const (p : Prop) : Firm fun _ => p := ⟨fun _ _ h _ => h, fun _ _ _ _ _ h _ _ => h⟩
set_option maxHeartbeats 8000000 in
theorem pcall_rest {w : World} {B pb lb : Nat} {s : PP} {vs : List Int} {ps : List EnP} (F : Nat) (cap : Array Value) (e1 : ∀ args w, (callFunc F args).run Tryz.prog w = .ok (.enter F args) w) (h : PeerIs w B pb lb s vs ps) (hi : 0 < s.id) (hr : s.role ≠ 3) (qs : List EnP) (R : PP → World → Prop) (hQ : ∀ t, Firm (R t)) (ht : ∀ t w, R t w → t.role ≠ 3 ∧ t.lost = false ∧ t.letters.oneCell' = true ∧ t.snap.oneCell' = true)
    (hF : ∀ w1, w.grownBy w1 (some pb) → PeerIs w1 B pb lb s.begun vs ps → Calls Tryz.prog F cap w1 (EndIs fun w2 => ∃ t, PeerIs w2 B pb lb t vs qs ∧ R t w2 ∧ Below B w1 w2 ∧ KB w1 w2)) (hB : B ≤ w.heap.size) :
    Calls Tryz.prog 21 #[.pointer (some ⟨pb, 0, none⟩), .func (.func F) #[] cap] w (TickIs R B pb lb vs qs w) := by
  have c0 : w.cell? ⟨pb, 38, none⟩ = some (.int .i64 s.id) := h.cells 38
  have c1 : w.cell? ⟨pb, 41, none⟩ = some (.int .u8 s.role) := h.cells 41
  have hb0 := (Below.refl w.heap.size w).alloc (Nat.le_refl _) (.cells #[.int .i64 0, .int .i64 0, .int .i64 0, .slice none 0 0, .int .i64 0, .pointer none, .int .i64 0, .bool false] 45)
  have hk0 := heap_alloc_new w (.cells #[.int .i64 0, .int .i64 0, .int .i64 0, .slice none 0 0, .int .i64 0, .pointer none, .int .i64 0, .bool false] 45)
  go_enter Tryz.func21, Tryz.ntmps21
  go_upto_region 1 with fail
  generalize w.alloc (.cells #[.int .i64 0, .int .i64 0, .int .i64 0, .slice none 0 0, .int .i64 0, .pointer none, .int .i64 0, .bool false] 45) = w0 at hb0 hk0 ⊢
  have d0 := (hb0.cell (p := ⟨pb, 38, none⟩) h.lt).trans c0
  have d1 := (hb0.cell (p := ⟨pb, 41, none⟩) h.lt).trans c1
  have H0 := Lib.hid (h.below hb0 (Nat.le_refl _))
  have hne : (s.role == 3) = false := by simpa using hr
  have hne2 : decide (s.role = 3) = false := by simpa using hr
  have HB0 := Lib.hid hb0
  have HK0 := Lib.hid hk0
  have hpl := h.lt
  have HF := Lib.hid hF
  have HT := Lib.hid ht
  have HQ := Lib.hid hQ
  have HKB := Lib.hid (fun (wq : World) (hg : w.grownBy wq (some pb)) => (KB.refl w).grow h.blk (Or.inl rfl) hg)
  clear h c0 c1 hb0 hk0 hF ht hQ
  go_wp2_with fail
  refine (pthere_any pb s.id w0 d0 hi).mono ?_
  rintro e w' ⟨rfl, rfl⟩
  go_upto_region 4 with fail
  have HC := Lib.hid (fun (wS : World) (hS : ∃ q, PeerIs wS B pb lb q vs ps ∧ q.term = s.term ∧ q.voted = s.voted ∧ q.commit = s.commit) => (show wS.cell? ⟨pb, 0, none⟩ = some (.int .i64 s.term) ∧ wS.cell? ⟨pb, 1, none⟩ = some (.int .i64 s.voted) ∧ wS.cell? ⟨pb, 4, none⟩ = some (.int .i64 s.commit) from by
    obtain ⟨q, hq, e1, e2, e3⟩ := hS
    exact ⟨by rw [← e1]; exact hq.cells 0, by rw [← e2]; exact hq.cells 1, by rw [← e3]; exact hq.cells 4⟩))
  refine heldS_begin (fun wS => ∃ q, PeerIs wS B pb lb q vs ps ∧ q.term = s.term ∧ q.voted = s.voted ∧ q.commit = s.commit) (by kernel_rfl) (⟨s, H0.out.below (Below.refl w0.heap.size w0).drew (Nat.le_refl _), rfl, rfl, rfl⟩) ?_
  intro hS0
  (first | (refine takeS_no 0 rfl (by kernel_rfl) (by kernel_rfl) (by kernel_rfl) (fun _ _ _ h => h) (by rfl) (by assumption) ?_) | (refine takeS_yes (v := ?_) 0 rfl (by kernel_rfl) (by kernel_rfl) (by kernel_rfl) (fun _ _ _ h => h) (by rfl) (by assumption) ?_ ?_; rotate_left; focus (intro wS hSw; obtain ⟨q0, q1, q4⟩ := HC.out wS hSw; go_simp; first | done | with_reducible rfl)))
  (try simp only [Act.put, List.setIfInBounds_toArray, List.set_cons_zero, List.set_cons_succ])
  (first | (refine takeS_no 1 rfl (by kernel_rfl) (by kernel_rfl) (by kernel_rfl) (fun _ _ _ h => h) (by rfl) (by assumption) ?_) | (refine takeS_yes (v := ?_) 1 rfl (by kernel_rfl) (by kernel_rfl) (by kernel_rfl) (fun _ _ _ h => h) (by rfl) (by assumption) ?_ ?_; rotate_left; focus (intro wS hSw; obtain ⟨q0, q1, q4⟩ := HC.out wS hSw; go_simp; first | done | with_reducible rfl)))
  (try simp only [Act.put, List.setIfInBounds_toArray, List.set_cons_zero, List.set_cons_succ])
  (first | (refine takeS_no 2 rfl (by kernel_rfl) (by kernel_rfl) (by kernel_rfl) (fun _ _ _ h => h) (by rfl) (by assumption) ?_) | (refine takeS_yes (v := ?_) 2 rfl (by kernel_rfl) (by kernel_rfl) (by kernel_rfl) (fun _ _ _ h => h) (by rfl) (by assumption) ?_ ?_; rotate_left; focus (intro wS hSw; obtain ⟨q0, q1, q4⟩ := HC.out wS hSw; go_simp; first | done | with_reducible rfl)))
  (try simp only [Act.put, List.setIfInBounds_toArray, List.set_cons_zero, List.set_cons_succ])
  (first | (refine takeS_no 3 rfl (by kernel_rfl) (by kernel_rfl) (by kernel_rfl) (fun _ _ _ h => h) (by rfl) (by assumption) ?_) | (refine takeS_yes (v := ?_) 3 rfl (by kernel_rfl) (by kernel_rfl) (by kernel_rfl) (fun _ _ _ h => h) (by rfl) (by assumption) ?_ ?_; rotate_left; focus (intro wS hSw; obtain ⟨q0, q1, q4⟩ := HC.out wS hSw; go_simp; first | done | with_reducible rfl)))
  (try simp only [Act.put, List.setIfInBounds_toArray, List.set_cons_zero, List.set_cons_succ])
  (first | (refine takeS_no 4 rfl (by kernel_rfl) (by kernel_rfl) (by kernel_rfl) (fun _ _ _ h => h) (by rfl) (by assumption) ?_) | (refine takeS_yes (v := ?_) 4 rfl (by kernel_rfl) (by kernel_rfl) (by kernel_rfl) (fun _ _ _ h => h) (by rfl) (by assumption) ?_ ?_; rotate_left; focus (intro wS hSw; obtain ⟨q0, q1, q4⟩ := HC.out wS hSw; go_simp; first | done | with_reducible rfl)))
  (try simp only [Act.put, List.setIfInBounds_toArray, List.set_cons_zero, List.set_cons_succ])
  (first | (refine takeS_no 5 rfl (by kernel_rfl) (by kernel_rfl) (by kernel_rfl) (fun _ _ _ h => h) (by rfl) (by assumption) ?_) | (refine takeS_yes (v := ?_) 5 rfl (by kernel_rfl) (by kernel_rfl) (by kernel_rfl) (fun _ _ _ h => h) (by rfl) (by assumption) ?_ ?_; rotate_left; focus (intro wS hSw; obtain ⟨q0, q1, q4⟩ := HC.out wS hSw; go_simp; first | done | with_reducible rfl)))
  (try simp only [Act.put, List.setIfInBounds_toArray, List.set_cons_zero, List.set_cons_succ])
  (first | (refine takeS_no 6 rfl (by kernel_rfl) (by kernel_rfl) (by kernel_rfl) (fun _ _ _ h => h) (by rfl) (by assumption) ?_) | (refine takeS_yes (v := ?_) 6 rfl (by kernel_rfl) (by kernel_rfl) (by kernel_rfl) (fun _ _ _ h => h) (by rfl) (by assumption) ?_ ?_; rotate_left; focus (intro wS hSw; obtain ⟨q0, q1, q4⟩ := HC.out wS hSw; go_simp; first | done | with_reducible rfl)))
  (try simp only [Act.put, List.setIfInBounds_toArray, List.set_cons_zero, List.set_cons_succ])
  (first | (refine takeS_no 7 rfl (by kernel_rfl) (by kernel_rfl) (by kernel_rfl) (fun _ _ _ h => h) (by rfl) (by assumption) ?_) | (refine takeS_yes (v := ?_) 7 rfl (by kernel_rfl) (by kernel_rfl) (by kernel_rfl) (fun _ _ _ h => h) (by rfl) (by assumption) ?_ ?_; rotate_left; focus (intro wS hSw; obtain ⟨q0, q1, q4⟩ := HC.out wS hSw; go_simp; first | done | with_reducible rfl)))
  (try simp only [Act.put, List.setIfInBounds_toArray, List.set_cons_zero, List.set_cons_succ])
  (first | (refine takeS_no 8 rfl (by kernel_rfl) (by kernel_rfl) (by kernel_rfl) (fun _ _ _ h => h) (by rfl) (by assumption) ?_) | (refine takeS_yes (v := ?_) 8 rfl (by kernel_rfl) (by kernel_rfl) (by kernel_rfl) (fun _ _ _ h => h) (by rfl) (by assumption) ?_ ?_; rotate_left; focus (intro wS hSw; obtain ⟨q0, q1, q4⟩ := HC.out wS hSw; go_simp; first | done | with_reducible rfl)))
  (try simp only [Act.put, List.setIfInBounds_toArray, List.set_cons_zero, List.set_cons_succ])
  (first | (refine takeS_no 9 rfl (by kernel_rfl) (by kernel_rfl) (by kernel_rfl) (fun _ _ _ h => h) (by rfl) (by assumption) ?_) | (refine takeS_yes (v := ?_) 9 rfl (by kernel_rfl) (by kernel_rfl) (by kernel_rfl) (fun _ _ _ h => h) (by rfl) (by assumption) ?_ ?_; rotate_left; focus (intro wS hSw; obtain ⟨q0, q1, q4⟩ := HC.out wS hSw; go_simp; first | done | with_reducible rfl)))
  (try simp only [Act.put, List.setIfInBounds_toArray, List.set_cons_zero, List.set_cons_succ])
  (first | (refine takeS_no 10 rfl (by kernel_rfl) (by kernel_rfl) (by kernel_rfl) (fun _ _ _ h => h) (by rfl) (by assumption) ?_) | (refine takeS_yes (v := ?_) 10 rfl (by kernel_rfl) (by kernel_rfl) (by kernel_rfl) (fun _ _ _ h => h) (by rfl) (by assumption) ?_ ?_; rotate_left; focus (intro wS hSw; obtain ⟨q0, q1, q4⟩ := HC.out wS hSw; go_simp; first | done | with_reducible rfl)))
  (try simp only [Act.put, List.setIfInBounds_toArray, List.set_cons_zero, List.set_cons_succ])
  (first | (refine takeS_no 11 rfl (by kernel_rfl) (by kernel_rfl) (by kernel_rfl) (fun _ _ _ h => h) (by rfl) (by assumption) ?_) | (refine takeS_yes (v := ?_) 11 rfl (by kernel_rfl) (by kernel_rfl) (by kernel_rfl) (fun _ _ _ h => h) (by rfl) (by assumption) ?_ ?_; rotate_left; focus (intro wS hSw; obtain ⟨q0, q1, q4⟩ := HC.out wS hSw; go_simp; first | done | with_reducible rfl)))
  (try simp only [Act.put, List.setIfInBounds_toArray, List.set_cons_zero, List.set_cons_succ])
  (first | (refine takeS_no 12 rfl (by kernel_rfl) (by kernel_rfl) (by kernel_rfl) (fun _ _ _ h => h) (by rfl) (by assumption) ?_) | (refine takeS_yes (v := ?_) 12 rfl (by kernel_rfl) (by kernel_rfl) (by kernel_rfl) (fun _ _ _ h => h) (by rfl) (by assumption) ?_ ?_; rotate_left; focus (intro wS hSw; obtain ⟨q0, q1, q4⟩ := HC.out wS hSw; go_simp; first | done | with_reducible rfl)))
  (try simp only [Act.put, List.setIfInBounds_toArray, List.set_cons_zero, List.set_cons_succ])
  (first | (refine takeS_no 13 rfl (by kernel_rfl) (by kernel_rfl) (by kernel_rfl) (fun _ _ _ h => h) (by rfl) (by assumption) ?_) | (refine takeS_yes (v := ?_) 13 rfl (by kernel_rfl) (by kernel_rfl) (by kernel_rfl) (fun _ _ _ h => h) (by rfl) (by assumption) ?_ ?_; rotate_left; focus (intro wS hSw; obtain ⟨q0, q1, q4⟩ := HC.out wS hSw; go_simp; first | done | with_reducible rfl)))
  (try simp only [Act.put, List.setIfInBounds_toArray, List.set_cons_zero, List.set_cons_succ])
  (first | (refine takeS_no 14 rfl (by kernel_rfl) (by kernel_rfl) (by kernel_rfl) (fun _ _ _ h => h) (by rfl) (by assumption) ?_) | (refine takeS_yes (v := ?_) 14 rfl (by kernel_rfl) (by kernel_rfl) (by kernel_rfl) (fun _ _ _ h => h) (by rfl) (by assumption) ?_ ?_; rotate_left; focus (intro wS hSw; obtain ⟨q0, q1, q4⟩ := HC.out wS hSw; go_simp; first | done | with_reducible rfl)))
  (try simp only [Act.put, List.setIfInBounds_toArray, List.set_cons_zero, List.set_cons_succ])
  (first | (refine takeS_no 15 rfl (by kernel_rfl) (by kernel_rfl) (by kernel_rfl) (fun _ _ _ h => h) (by rfl) (by assumption) ?_) | (refine takeS_yes (v := ?_) 15 rfl (by kernel_rfl) (by kernel_rfl) (by kernel_rfl) (fun _ _ _ h => h) (by rfl) (by assumption) ?_ ?_; rotate_left; focus (intro wS hSw; obtain ⟨q0, q1, q4⟩ := HC.out wS hSw; go_simp; first | done | with_reducible rfl)))
  (try simp only [Act.put, List.setIfInBounds_toArray, List.set_cons_zero, List.set_cons_succ])
  (first | (refine takeS_no 16 rfl (by kernel_rfl) (by kernel_rfl) (by kernel_rfl) (fun _ _ _ h => h) (by rfl) (by assumption) ?_) | (refine takeS_yes (v := ?_) 16 rfl (by kernel_rfl) (by kernel_rfl) (by kernel_rfl) (fun _ _ _ h => h) (by rfl) (by assumption) ?_ ?_; rotate_left; focus (intro wS hSw; obtain ⟨q0, q1, q4⟩ := HC.out wS hSw; go_simp; first | done | with_reducible rfl)))
  (try simp only [Act.put, List.setIfInBounds_toArray, List.set_cons_zero, List.set_cons_succ])
  (first | (refine takeS_no 17 rfl (by kernel_rfl) (by kernel_rfl) (by kernel_rfl) (fun _ _ _ h => h) (by rfl) (by assumption) ?_) | (refine takeS_yes (v := ?_) 17 rfl (by kernel_rfl) (by kernel_rfl) (by kernel_rfl) (fun _ _ _ h => h) (by rfl) (by assumption) ?_ ?_; rotate_left; focus (intro wS hSw; obtain ⟨q0, q1, q4⟩ := HC.out wS hSw; go_simp; first | done | with_reducible rfl)))
  (try simp only [Act.put, List.setIfInBounds_toArray, List.set_cons_zero, List.set_cons_succ])
  (first | (refine takeS_no 18 rfl (by kernel_rfl) (by kernel_rfl) (by kernel_rfl) (fun _ _ _ h => h) (by rfl) (by assumption) ?_) | (refine takeS_yes (v := ?_) 18 rfl (by kernel_rfl) (by kernel_rfl) (by kernel_rfl) (fun _ _ _ h => h) (by rfl) (by assumption) ?_ ?_; rotate_left; focus (intro wS hSw; obtain ⟨q0, q1, q4⟩ := HC.out wS hSw; go_simp; first | done | with_reducible rfl)))
  (try simp only [Act.put, List.setIfInBounds_toArray, List.set_cons_zero, List.set_cons_succ])
  refine takeS_alone 19 rfl (by kernel_rfl) (by rfl) (fun K hK => ?_)
  skip
  (have hp := H0.out.below (Below.refl w0.heap.size w0).drew (Nat.le_refl _); refine wp_store_mid 45 (.tmp 39) (.tmp 37) rfl pb 0 #[.int .i64 s.term, .int .i64 s.voted, .int .i64 0, .slice none 0 0, .int .i64 s.commit, .pointer none, .int .i64 0, .bool false] rfl rfl hp.there info_out (by simp [Value.oneCell']) ?_; have hS9 : ∃ q, PeerIs (w0.drew.setCells pb 0 [.int .i64 s.term, .int .i64 s.voted, .int .i64 0, .slice none 0 0, .int .i64 s.commit, .pointer none, .int .i64 0, .bool false]) B pb lb q vs ps ∧ q.term = s.term ∧ q.voted = s.voted ∧ q.commit = s.commit := ⟨_, hp.begun, rfl, rfl, rfl⟩; have HP := Lib.hid hp.begun)
  refine hK.out _ _ (by assumption) ?_
  clear hK K
  (try simp only [Act.put, List.setIfInBounds_toArray, List.set_cons_zero, List.set_cons_succ])
  refine wpAnyH_done (by kernel_rfl) ?_ _
  (try simp only [Exit.then])
  (try (rename (∀ (_ : Act) (_ : World), _ → _) => hK0; refine hK0 _ _ ?_; clear hK0))
  have HG := Lib.hid ((grown_bel HB0.out (some pb)).trans ((grown_bel (Below.refl w0.heap.size w0).drew (some pb)).trans (grown_cells pb [.int .i64 s.term, .int .i64 s.voted, .int .i64 0, .slice none 0 0, .int .i64 s.commit, .pointer none, .int .i64 0, .bool false] w0.drew 0)))
  have HG0 := Lib.hid ((grown_bel (Below.refl w0.heap.size w0).drew (some pb)).trans (grown_cells pb [.int .i64 s.term, .int .i64 s.voted, .int .i64 0, .slice none 0 0, .int .i64 s.commit, .pointer none, .int .i64 0, .bool false] w0.drew 0))
  clear hS0 hS9 hp d0 d1
  generalize w0.drew.setCells pb 0 [.int .i64 s.term, .int .i64 s.voted, .int .i64 0, .slice none 0 0, .int .i64 s.commit, .pointer none, .int .i64 0, .bool false] = w1 at HG HG0 HP ⊢
  go_wp2_with fail
  refine (HF.out w1 HG.out HP.out).mono ?_
  rintro e w2 ⟨rfl, t, hp2, hq2, hb2, hg2⟩
  obtain ⟨ht, htl, htm⟩ := HT.out t w2 hq2
  have HT := Lib.hid ht
  have HQ2 := Lib.hid hq2
  clear hq2 ht
  have hlt0 : w.heap.size < w0.heap.size := (Array.getElem?_eq_some_iff.1 HK0.out).1
  have hk2 : w2.heap[w.heap.size]? = some (.cells #[.int .i64 0, .int .i64 0, .int .i64 0, .slice none 0 0, .int .i64 0, .pointer none, .int .i64 0, .bool false] 45 (0, 0)) := by
    have hk1 := (HG0.out.block _ hlt0 (fun e => by injection e with e; have := hpl; omega)).trans HK0.out
    exact (hg2 _ _ _ _ hk1 (by decide) (by decide) (by decide) (by decide) (by decide)).trans hk1
  have HKB2 := Lib.hid ((HKB.out _ HG.out).trans hg2)
  have hrg := hp2.range
  have HP2 := Lib.hid hp2
  have HB2 := Lib.hid hb2
  have hb3 := (Below.refl w2.heap.size w2).alloc (Nat.le_refl _) (.cells #[.int .i64 0, .int .i64 0, .int .i64 0, .slice none 0 0, .int .i64 0, .pointer none, .int .i64 0, .bool false] 45)
  have hk3 := heap_alloc_new w2 (.cells #[.int .i64 0, .int .i64 0, .int .i64 0, .slice none 0 0, .int .i64 0, .pointer none, .int .i64 0, .bool false] 45)
  clear hg2 hb2 hp2
  go_upto_region 7 with (first | (refine wpList_load_mid rfl 45 (.tmp 44) rfl pb 0 rfl t.out.toList _ hrg Tryz.underlying45 rfl info_out ?_) | (refine wpList_store_row rfl 45 (.tmp 6) (.tmp 45) rfl w2.heap.size t.out.toList.toArray rfl rfl 45 _ hk3 info_out rfl (by simp [PP.out, Value.oneCell']; exact htm) ?_))
  have hb4 := hb3.grown (grown_rowR (w2.alloc (.cells #[.int .i64 0, .int .i64 0, .int .i64 0, .slice none 0 0, .int .i64 0, .pointer none, .int .i64 0, .bool false] 45)) w2.heap.size t.out.toList.toArray) hb3.size (fun q hq => by cases hq; exact Nat.le_refl _)
  have hk4 := setRow_heap (w2.alloc (.cells #[.int .i64 0, .int .i64 0, .int .i64 0, .slice none 0 0, .int .i64 0, .pointer none, .int .i64 0, .bool false] 45)) w2.heap.size _ t.out.toList.toArray _ _ hk3
  generalize (w2.alloc (.cells #[.int .i64 0, .int .i64 0, .int .i64 0, .slice none 0 0, .int .i64 0, .pointer none, .int .i64 0, .bool false] 45)).setRow w2.heap.size t.out.toList.toArray = w3 at hb4 hk4 ⊢
  clear hb3 hk3 hrg
  have hp3 := HP2.out.below hb4 (Nat.le_refl _)
  have hl2 : w.heap.size < w2.heap.size := (Array.getElem?_eq_some_iff.1 hk2).1
  have e0 : w3.cell? ⟨pb, 41, none⟩ = some (.int .u8 t.role) := hp3.cells 41
  have e2 : w3.cell? ⟨w2.heap.size, 7, none⟩ = some (.bool t.lost) := Go.Joins.cell_of_block hk4 7
  have f2 := Go.Joins.unfrozen_of_block hk4 7
  have hne3 : (t.role == 3) = false := by simpa using HT.out
  have hk5 := Go.Joins.block_setCell (i := 7) hk4 (.bool false)
  have HP3 := Lib.hid hp3
  have HB4 := Lib.hid hb4
  have HK4 := Lib.hid hk4
  have HTL := Lib.hid htl
  have hq7 : t.out.toList.toArray.setIfInBounds 7 (.bool false) = t.out := by simp [PP.out, htl]
  rw [hq7] at hk5
  have hb5 := hb4.setCell (p := ⟨w2.heap.size, 7, none⟩) (Nat.le_refl _) (.bool false)
  have hone : t.out.toList.toArray.all (·.oneCell') = true := by simp [PP.out, Value.oneCell']; exact htm
  clear hp3 hb4 hk4 htl htm hq7
  go_upto_region 8 with fail
  generalize w3.setCell ⟨w2.heap.size, 7, none⟩ (.bool false) = w4 at hk5 hb5 ⊢
  have hp4 := HP2.out.below hb5 (Nat.le_refl _)
  have g0 : w4.cell? ⟨pb, 41, none⟩ = some (.int .u8 t.role) := hp4.cells 41
  have hkr := (hb5.block _ hl2).trans hk2
  have hrg5 : w4.rangeAt w2.heap.size 0 t.out.toList := World.rangeAt_of_block hk5 0 8
  have hgr := grown_rowR w4 w.heap.size t.out.toList.toArray
  have HZ := Lib.hid (setRow_heap w4 w.heap.size _ t.out.toList.toArray _ _ hkr)
  have HP4 := Lib.hid (hp4.keptT hkr (by decide) (by decide) (by decide) (by decide) (by decide) hgr)
  have HQ4 := Lib.hid ((HQ.out t).2 _ _ _ _ _ ((HQ.out t).1 _ _ HQ2.out hb5) hkr hgr)
  have HBZ := Lib.hid (((HB0.out.mono hB).trans ((World.grownBy.size HG0.out |> fun _ => (show Below B w0 w1 from ⟨HG0.out.os, HG0.out.tape, HG0.out.output, HG0.out.size, fun k hk => HG0.out.block k (by omega) (fun e => by injection e with e; have := HP.out.low; omega)⟩)).trans HB2.out)).trans ((hb5.mono (Nat.le_trans hB (Nat.le_of_lt hl2))).grown hgr (Nat.le_trans hB (Nat.le_trans (Nat.le_of_lt hl2) hb5.size)) (fun q hq => by cases hq; exact hB)))
  have HKB3 := Lib.hid ((HKB2.out.low hb5 (Nat.le_of_lt hl2)).row hgr (Nat.le_refl _))
  clear hp4 hgr hb5 hk5 e0 e2 f2 hk2
  go_wp2_with (first | (refine wpList_load_mid rfl 45 (.tmp 6) rfl w2.heap.size 0 rfl t.out.toList _ hrg5 Tryz.underlying45 rfl info_out ?_) | (refine wpList_store_row rfl 45 (.tmp 4) (.tmp 111) rfl w.heap.size t.out.toList.toArray rfl rfl 45 _ hkr info_out rfl hone ?_))
  exact bodyPost_ret (results_cell_row rfl _ _ w.heap.size 45 _ _ _ rfl HZ.out Tryz.underlying45 rfl info_out) rfl ⟨t, rfl, HP4.out, HQ4.out, HBZ.out, HKB3.out⟩
end Go.Proofs.YtbimjggkiiadmaaGreatDoor
/- LentInts and KeptInts: a row of integers is copied with marks behind its end; as long as nobody writes there, it is found as it was. Conditions: the row has less than 2 to the 40 integers. -/
namespace Go.Proofs.YtbimjggkiiadmaaGreatDoor
open Go.RowKit
theorem infoInt : (Tryz.prog.info? 3).map (fun i => (i.zero, i.size, i.bytes)) = some (some (.int .i64 0), 1, 8) := by kernel_rfl
theorem own_below' {w : World} {base e size n : Nat} {v : Value} {xs : List Value} (h : w.ownsRow base e size v n xs) : ∀ k, v.ownBlock = some k → base ≤ k := by
  intro k hk
  rcases h.2 with ⟨rfl, _⟩ | ⟨g, cap, cur, rfl, h3, _⟩
  · simp [Value.ownBlock] at hk
  · simp [Value.ownBlock] at hk; omega
theorem ownsRow_lt {w : World} {base e size n g c : Nat} {xs : List Value} (h : w.ownsRow base e size (.slice (some ⟨g, 0, none⟩) n c) n xs) : g < w.heap.size := by
  rcases h.2 with ⟨h', _⟩ | ⟨g', cap', cur, h', _, h3, _⟩
  · simp at h'
  · simp only [Value.slice.injEq, Option.some.injEq, Addr.mk.injEq, and_true, true_and] at h'
    obtain ⟨rfl, rfl⟩ := h'
    exact (Array.getElem?_eq_some_iff.1 h3).1
end Go.Proofs.YtbimjggkiiadmaaGreatDoor
