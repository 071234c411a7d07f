/- What do's closures do to what a file says. Conditions: the reader and the boxes lie as they say. -/
import Derived.Test.YtnhnabcpkaeaaaaGreatDoorGWalNone6
import Derived.Test.YtnhnabcpkaeaaaaGreatDoorGWalNone8
import Derived.Test.YtnhnabcpkaeaaaaGreatDoorGWalNone5
set_option linter.unusedVariables false
set_option linter.unusedSimpArgs false
namespace Go.Proofs.YtnhnabcpkaeaaaaGreatDoor
open Go.RowKit
set_option maxRecDepth 20000
/-- What do's closures find: nothing that was there is changed; the two boxes; the reader. -/
structure DoIn (W : World) (sb tb ub rb : Nat) (bad : Bool) (left : List Int) (w : World) : Prop where
  below : Below W.heap.size W w
  tbk : w.heap[tb]? = some (.cells #[.pointer (some ⟨rb, 0, none⟩)] 112 (0, 0))
  ubk : w.heap[ub]? = some (.cells #[.pointer (some ⟨sb, 0, none⟩)] 43 (0, 0))
  rd : Rdr w rb rb bad left
  tlo : W.heap.size ≤ tb
  ulo : W.heap.size ≤ ub
  rlo : W.heap.size ≤ rb
  trb : tb ≠ rb
  urb : ub ≠ rb
theorem DoIn.grow {W w w' : World} {sb tb ub rb : Nat} {bad : Bool} {left : List Int} (h : DoIn W sb tb ub rb bad left w) (hb : Below w.heap.size w w') : DoIn W sb tb ub rb bad left w' :=
  ⟨h.below.trans (hb.mono h.below.size), (hb.block tb (Array.getElem?_eq_some_iff.1 h.tbk).1).trans h.tbk, (hb.block ub (Array.getElem?_eq_some_iff.1 h.ubk).1).trans h.ubk, h.rd.below hb, h.tlo, h.ulo, h.rlo, h.trb, h.urb⟩
theorem DoIn.only {W w w' : World} {sb tb ub rb : Nat} {bad bad2 : Bool} {left left2 : List Int} (h : DoIn W sb tb ub rb bad left w) (hr : Rdr w' rb rb bad2 left2) (ho : Only rb w w') : DoIn W sb tb ub rb bad2 left2 w' :=
  ⟨h.below.trans (ho.toBelow h.below.size h.rlo), (ho.block tb (Array.getElem?_eq_some_iff.1 h.tbk).1 h.trb).trans h.tbk, (ho.block ub (Array.getElem?_eq_some_iff.1 h.ubk).1 h.urb).trans h.ubk, hr, h.tlo, h.ulo, h.rlo, h.trb, h.urb⟩
theorem DoIn.c0 {W w : World} {sb tb ub rb : Nat} {bad : Bool} {left : List Int} (h : DoIn W sb tb ub rb bad left w) : w.cell? ⟨tb, 0, none⟩ = some (.pointer (some ⟨rb, 0, none⟩)) := Go.Joins.cell_of_block h.tbk 0
theorem DoIn.c1 {W w : World} {sb tb ub rb : Nat} {bad : Bool} {left : List Int} (h : DoIn W sb tb ub rb bad left w) : w.cell? ⟨ub, 0, none⟩ = some (.pointer (some ⟨sb, 0, none⟩)) := Go.Joins.cell_of_block h.ubk 0
/-- What is said, and the entries as they lie. -/
def SayIs (w : World) (B sb : Nat) (s : WP) : Prop := ∃ v es, SayAt w B sb s.term s.vote s.base s.before v es ∧ es.map En.plain = s.L
/-- What a closure tells, and what is said then. -/
def DoneAt (W : World) (B sb : Nat) (r : Option WP) (e : Ending) (w' : World) : Prop :=
  match r with
  | none => e = .returned (.bool false) ∧ Below W.heap.size W w'
  | some t => e = .returned (.bool true) ∧ SayIs w' B sb t ∧ W.grownBy w' (some sb)
theorem done_no {W : World} {B sb : Nat} {r : Option WP} {w' : World} (h : r = none) (hb : Below W.heap.size W w') : DoneAt W B sb r (.returned (.bool false)) w' := by subst h; exact ⟨rfl, hb⟩
theorem done_yes {W : World} {B sb : Nat} {r : Option WP} {w' : World} (t : WP) (h : r = some t) (hs : SayIs w' B sb t) (hg : W.grownBy w' (some sb)) : DoneAt W B sb r (.returned (.bool true)) w' := by subst h; exact ⟨rfl, hs, hg⟩
/-- The closure of a vote. -/
def voteW (s : WP) (x : Int) (b : Bool) (l : List Int) : Option WP :=
  if isDone (numS b l).2.1 (numS b l).2.2 = true ∧ (0 ≤ x ∧ x ≤ 1099511627776) ∧ (0 ≤ (numS b l).1 ∧ (numS b l).1 ≤ 9) then some { s with term := x, vote := (numS b l).1 } else none
/-- The closure of a base. -/
def baseW (s : WP) (x : Int) (b : Bool) (l : List Int) : Option WP :=
  if isDone (numS b l).2.1 (numS b l).2.2 = true ∧ (0 ≤ x ∧ x ≤ 1099511627776) ∧ (0 ≤ (numS b l).1 ∧ (numS b l).1 ≤ 1099511627776) then some ⟨s.term, s.vote, x, (numS b l).1, []⟩ else none
theorem row_ne_T {w : World} {B g : Nat} {v : Value} {T U : TypeId} {k n : Nat} {xs : List Value} {cs : Array Value} {fr : Nat × Nat} (hb : w.heap[g]? = some (.cells cs U fr)) (h : w.ownsRow B T k v n xs) (hT : U ≠ T) : v.ownBlock ≠ some g := by
  intro hh
  rcases h.2 with ⟨h1, _⟩ | ⟨g, cap, cur, h1, _, g1, _⟩
  · rw [h1] at hh; simp [Value.ownBlock] at hh
  · rw [h1] at hh
    simp [Value.ownBlock] at hh
    subst hh
    rw [hb] at g1
    simp only [Option.some.injEq, Obj.cells.injEq] at g1
    exact hT g1.2.1
theorem EnsOwn.setT {w : World} {B g : Nat} {v : Value} {es : List En} {cs : Array Value} {U : TypeId} {fr : Nat × Nat} (h : EnsOwn w B v es) (hb : w.heap[g]? = some (.cells cs U fr)) (h1 : U ≠ 60) (h2 : U ≠ 132) (h3 : U ≠ 3) (j : Nat) (u : Value) : EnsOwn (w.setCell ⟨g, j, none⟩ u) B v es :=
  ⟨ownsRow_setCell_other h.row (row_ne_T hb h.row h1) u, fun e he => ⟨ownsRow_setCell_other (h.own e he).1 (row_ne_T hb (h.own e he).1 h2) u, ownsRow_setCell_other (h.own e he).2 (row_ne_T hb (h.own e he).2 h3) u⟩, h.sep⟩
theorem SayAt.sets {w : World} {B sb : Nat} {term vote base before t2 v2 b2 o2 : Int} {v : Value} {es : List En} (h : SayAt w B sb term vote base before v es) (j : Nat) (u : Value) (hu : (#[.int .i64 term, .int .i64 vote, .int .i64 base, .int .i64 before, v] : Array Value).setIfInBounds j u = #[.int .i64 t2, .int .i64 v2, .int .i64 b2, .int .i64 o2, v]) : SayAt (w.setCell ⟨sb, j, none⟩ u) B sb t2 v2 b2 o2 v es :=
  ⟨by rw [Go.Joins.block_setCell (i := j) h.blk u, hu], h.ens.setT h.blk (by decide) (by decide) (by decide) j u, h.low⟩
theorem SayAt.setE {w : World} {B sb : Nat} {term vote base before : Int} {v v' : Value} {es es' : List En} (h : SayAt w B sb term vote base before v es) (he : EnsOwn w B v' es') : SayAt (w.setCell ⟨sb, 4, none⟩ v') B sb term vote base before v' es' :=
  ⟨Go.Joins.block_setCell (i := 4) h.blk _, he.setT h.blk (by decide) (by decide) (by decide) 4 v', h.low⟩
theorem grown_bel {w w' : World} (h : Below w.heap.size w w') (row : Option Nat) : w.grownBy w' row := ⟨h.os, h.tape, h.output, h.size, fun k hk _ => h.block k hk⟩
theorem grown_cell {W w : World} {sb : Nat} (h : W.grownBy w (some sb)) (j : Nat) (u : Value) : W.grownBy (w.setCell ⟨sb, j, none⟩ u) (some sb) :=
  h.trans ⟨rfl, rfl, rfl, by simp, fun k _ hk => heap_setCell_other _ _ _ _ (fun e => hk (by rw [e]))⟩
set_option maxHeartbeats 2000000 in
theorem wdo1_any (W : World) (B sb tb ub rb : Nat) (s : WP) (x : Int) (bad : Bool) (left : List Int) (w : World) (r : Option WP) (hr : voteW s x bad left = r) (hs : SayIs W B sb s) (h : DoIn W sb tb ub rb bad left w) (hw : BytesWf left) (hl : left.length ≤ 140737488351232) :
    Calls Tryz.prog 67 #[.int .i64 x, .pointer (some ⟨tb, 0, none⟩), .pointer (some ⟨ub, 0, none⟩)] w (DoneAt W B sb r) := by
  obtain ⟨v, es, hsay, hmap⟩ := hs
  obtain ⟨⟨y, b2, l2⟩, hnum⟩ : ∃ q, numS bad left = q := ⟨_, rfl⟩
  have hR := Lib.hid (show (if isDone b2 l2 = true ∧ (0 ≤ x ∧ x ≤ 1099511627776) ∧ (0 ≤ y ∧ y ≤ 9) then some { s with term := x, vote := y } else none) = r by rw [← hr]; unfold voteW; rw [hnum])
  have HN := Lib.hid hnum
  have HS := Lib.hid hsay
  have HM := Lib.hid hmap
  have H := Lib.hid h
  have HW := Lib.hid hw
  have t0 := h.c0
  clear hr hnum hsay hmap h hw
  go_enter Tryz.func67, Tryz.ntmps67
  go_wp2_with fail
  refine (num_at rb rb bad left y b2 l2 w HN.out H.out.rd HW.out hl).mono ?_
  rintro e w1 ⟨rfl, hr1, ho1⟩
  have h1 := H.out.only hr1 ho1
  have H1 := Lib.hid h1
  have t1 := h1.c0
  clear hr1 ho1 h1 t0
  go_wp2_with fail
  refine (done_rd rb rb b2 l2 w1 H1.out.rd).mono ?_
  rintro e w2 ⟨rfl, rfl⟩
  have hbel := H1.out.below
  have no : (isDone b2 l2 = true ∧ (0 ≤ x ∧ x ≤ 1099511627776) ∧ (0 ≤ y ∧ y ≤ 9)) = False → r = none := fun hf => by rw [← hR.out, if_neg (by rw [hf]; exact id)]
  have NO := Lib.hid no
  clear no
  by_cases hd : isDone b2 l2 = true
  · have hd' : (!b2 && l2.isEmpty) = true := hd
    rw [hd']
    by_cases c1 : x < 0
    · have e1 : decide (x < 0) = true := by simpa using c1
      go_wp2_with fail
      go_ret
      exact done_no (NO.out (by simp; omega)) hbel
    have e1 : decide (x < 0) = false := by simpa using c1
    by_cases c2 : 1099511627776 < x
    · have e2 : decide (1099511627776 < x) = true := by simpa using c2
      go_wp2_with fail
      go_ret
      exact done_no (NO.out (by simp; omega)) hbel
    have e2 : decide (1099511627776 < x) = false := by simpa using c2
    by_cases c3 : y < 0
    · have e3 : decide (y < 0) = true := by simpa using c3
      go_wp2_with fail
      go_ret
      exact done_no (NO.out (by simp; omega)) hbel
    have e3 : decide (y < 0) = false := by simpa using c3
    by_cases c4 : 9 < y
    · have e4 : decide (9 < y) = true := by simpa using c4
      go_wp2_with fail
      go_ret
      exact done_no (NO.out (by simp; omega)) hbel
    have e4 : decide (9 < y) = false := by simpa using c4
    have hsay1 := HS.out.below hbel (Nat.le_refl _)
    have k0 := H1.out.c1
    have HS1 := Lib.hid hsay1
    have hYES : r = some { s with term := x, vote := y } := by rw [← hR.out, if_pos ⟨hd, ⟨by omega, by omega⟩, by omega, by omega⟩]
    have HYES := Lib.hid hYES
    have hne : sb ≠ ub := fun e => by have := HS.out.lt; have := H.out.ulo; omega
    have hz0 := Go.Joins.cell_of_block hsay1.blk 0
    have hz1 := Go.Joins.cell_of_block hsay1.blk 1
    have hf0 := Go.Joins.unfrozen_of_block hsay1.blk 0
    have hf1 := Go.Joins.unfrozen_of_block hsay1.blk 1
    have HBEL := Lib.hid hbel
    clear hsay1 hYES hd hd' hbel
    go_upto_region 4 with fail
    refine heldS_begin (fun (w' : World) => w'.cell? ⟨ub, 0, none⟩ = some (.pointer (some ⟨sb, 0, none⟩))) (by kernel_rfl) (k0) ?_
    intro hS0
    (first | (refine takeS_no 0 rfl (by kernel_rfl) (by kernel_rfl) (by kernel_rfl) (fun _ _ _ h => h) (by rfl) (by assumption) ?_) | (refine takeS_yes (v := ?_) 0 rfl (by kernel_rfl) (by kernel_rfl) (by kernel_rfl) (fun _ _ _ h => h) (by rfl) (by assumption) ?_ ?_; rotate_left; focus (intro wS hSw; have q0 := hSw; go_simp; first | done | with_reducible rfl)))
    (try simp only [Act.put, List.setIfInBounds_toArray, List.set_cons_zero, List.set_cons_succ])
    (first | (refine takeS_no 1 rfl (by kernel_rfl) (by kernel_rfl) (by kernel_rfl) (fun _ _ _ h => h) (by rfl) (by assumption) ?_) | (refine takeS_yes (v := ?_) 1 rfl (by kernel_rfl) (by kernel_rfl) (by kernel_rfl) (fun _ _ _ h => h) (by rfl) (by assumption) ?_ ?_; rotate_left; focus (intro wS hSw; have q0 := hSw; go_simp; first | done | with_reducible rfl)))
    (try simp only [Act.put, List.setIfInBounds_toArray, List.set_cons_zero, List.set_cons_succ])
    (first | (refine takeS_no 2 rfl (by kernel_rfl) (by kernel_rfl) (by kernel_rfl) (fun _ _ _ h => h) (by rfl) (by assumption) ?_) | (refine takeS_yes (v := ?_) 2 rfl (by kernel_rfl) (by kernel_rfl) (by kernel_rfl) (fun _ _ _ h => h) (by rfl) (by assumption) ?_ ?_; rotate_left; focus (intro wS hSw; have q0 := hSw; go_simp; first | done | with_reducible rfl)))
    (try simp only [Act.put, List.setIfInBounds_toArray, List.set_cons_zero, List.set_cons_succ])
    (first | (refine takeS_no 3 rfl (by kernel_rfl) (by kernel_rfl) (by kernel_rfl) (fun _ _ _ h => h) (by rfl) (by assumption) ?_) | (refine takeS_yes (v := ?_) 3 rfl (by kernel_rfl) (by kernel_rfl) (by kernel_rfl) (fun _ _ _ h => h) (by rfl) (by assumption) ?_ ?_; rotate_left; focus (intro wS hSw; have q0 := hSw; go_simp; first | done | with_reducible rfl)))
    (try simp only [Act.put, List.setIfInBounds_toArray, List.set_cons_zero, List.set_cons_succ])
    (first | (refine takeS_no 4 rfl (by kernel_rfl) (by kernel_rfl) (by kernel_rfl) (fun _ _ _ h => h) (by rfl) (by assumption) ?_) | (refine takeS_yes (v := ?_) 4 rfl (by kernel_rfl) (by kernel_rfl) (by kernel_rfl) (fun _ _ _ h => h) (by rfl) (by assumption) ?_ ?_; rotate_left; focus (intro wS hSw; have q0 := hSw; go_simp; first | done | with_reducible rfl)))
    (try simp only [Act.put, List.setIfInBounds_toArray, List.set_cons_zero, List.set_cons_succ])
    (first | (refine takeS_no 5 rfl (by kernel_rfl) (by kernel_rfl) (by kernel_rfl) (fun _ _ _ h => h) (by rfl) (by assumption) ?_) | (refine takeS_yes (v := ?_) 5 rfl (by kernel_rfl) (by kernel_rfl) (by kernel_rfl) (fun _ _ _ h => h) (by rfl) (by assumption) ?_ ?_; rotate_left; focus (intro wS hSw; have q0 := hSw; go_simp; first | done | with_reducible rfl)))
    (try simp only [Act.put, List.setIfInBounds_toArray, List.set_cons_zero, List.set_cons_succ])
    refine takeS_alone 6 rfl (by kernel_rfl) (by rfl) (fun K hK => ?_)
    go_simp
    (have hS1 : (w1.drew.setCell ⟨sb, 0, none⟩ (.int .i64 x)).cell? ⟨ub, 0, none⟩ = some (.pointer (some ⟨sb, 0, none⟩)) := (World.cell?_setCell_far _ _ _ _ hne).trans hS0)
    refine hK.out _ _ (by assumption) ?_
    clear hK K
    (try simp only [Act.put, List.setIfInBounds_toArray, List.set_cons_zero, List.set_cons_succ])
    (first | (refine takeS_no 7 rfl (by kernel_rfl) (by kernel_rfl) (by kernel_rfl) (fun _ _ _ h => h) (by rfl) (by assumption) ?_) | (refine takeS_yes (v := ?_) 7 rfl (by kernel_rfl) (by kernel_rfl) (by kernel_rfl) (fun _ _ _ h => h) (by rfl) (by assumption) ?_ ?_; rotate_left; focus (intro wS hSw; have q0 := hSw; go_simp; first | done | with_reducible rfl)))
    (try simp only [Act.put, List.setIfInBounds_toArray, List.set_cons_zero, List.set_cons_succ])
    (first | (refine takeS_no 8 rfl (by kernel_rfl) (by kernel_rfl) (by kernel_rfl) (fun _ _ _ h => h) (by rfl) (by assumption) ?_) | (refine takeS_yes (v := ?_) 8 rfl (by kernel_rfl) (by kernel_rfl) (by kernel_rfl) (fun _ _ _ h => h) (by rfl) (by assumption) ?_ ?_; rotate_left; focus (intro wS hSw; have q0 := hSw; go_simp; first | done | with_reducible rfl)))
    (try simp only [Act.put, List.setIfInBounds_toArray, List.set_cons_zero, List.set_cons_succ])
    refine takeS_alone 9 rfl (by kernel_rfl) (by rfl) (fun K hK => ?_)
    go_simp
    (have hS2 : ((w1.drew.setCell ⟨sb, 0, none⟩ (.int .i64 x)).setCell ⟨sb, 1, none⟩ (.int .i64 y)).cell? ⟨ub, 0, none⟩ = some (.pointer (some ⟨sb, 0, none⟩)) := (World.cell?_setCell_far _ _ _ _ hne).trans hS1)
    refine hK.out _ _ (by assumption) ?_
    clear hK K
    (try simp only [Act.put, List.setIfInBounds_toArray, List.set_cons_zero, List.set_cons_succ])
    refine wpAnyH_done (by kernel_rfl) ?_ _
    simp only [Exit.then]
    rename (∀ (_ : Act) (_ : World), _ → _) => hK0
    refine hK0 _ _ ?_
    clear hK0 hS0 hS1 hS2
    go_wp2_with fail
    go_ret
    refine done_yes _ HYES.out ⟨v, es, (((HS1.out.sets 0 (.int .i64 x) rfl).sets 1 (.int .i64 y) rfl).below (Below.refl _ _).drew (Nat.le_refl _)), HM.out⟩ ?_
    exact (grown_cell (grown_cell (grown_bel HBEL.out (some sb)) 0 _) 1 _).trans (grown_bel (Below.refl _ _).drew (some sb))
  · have hd' : (!b2 && l2.isEmpty) = false := by simpa [isDone] using hd
    rw [hd']
    go_wp2_with fail
    go_ret
    exact done_no (NO.out (by simp [hd])) hbel
set_option maxHeartbeats 2000000 in
theorem wdo3_any (W : World) (B sb tb ub rb : Nat) (s : WP) (x : Int) (bad : Bool) (left : List Int) (w : World) (r : Option WP) (hr : baseW s x bad left = r) (hs : SayIs W B sb s) (h : DoIn W sb tb ub rb bad left w) (hw : BytesWf left) (hl : left.length ≤ 140737488351232) :
    Calls Tryz.prog 72 #[.int .i64 x, .pointer (some ⟨tb, 0, none⟩), .pointer (some ⟨ub, 0, none⟩)] w (DoneAt W B sb r) := by
  obtain ⟨v, es, hsay, hmap⟩ := hs
  obtain ⟨⟨y, b2, l2⟩, hnum⟩ : ∃ q, numS bad left = q := ⟨_, rfl⟩
  have hR := Lib.hid (show (if isDone b2 l2 = true ∧ (0 ≤ x ∧ x ≤ 1099511627776) ∧ (0 ≤ y ∧ y ≤ 1099511627776) then some ⟨s.term, s.vote, x, y, []⟩ else none) = r by rw [← hr]; unfold baseW; rw [hnum])
  have HN := Lib.hid hnum
  have HS := Lib.hid hsay
  have HM := Lib.hid hmap
  have H := Lib.hid h
  have HW := Lib.hid hw
  have t0 := h.c0
  clear hr hnum hsay hmap h hw
  go_enter Tryz.func72, Tryz.ntmps72
  go_wp2_with fail
  refine (num_at rb rb bad left y b2 l2 w HN.out H.out.rd HW.out hl).mono ?_
  rintro e w1 ⟨rfl, hr1, ho1⟩
  have h1 := H.out.only hr1 ho1
  have H1 := Lib.hid h1
  have t1 := h1.c0
  clear hr1 ho1 h1 t0
  go_wp2_with fail
  refine (done_rd rb rb b2 l2 w1 H1.out.rd).mono ?_
  rintro e w2 ⟨rfl, rfl⟩
  have hbel := H1.out.below
  have no : (isDone b2 l2 = true ∧ (0 ≤ x ∧ x ≤ 1099511627776) ∧ (0 ≤ y ∧ y ≤ 1099511627776)) = False → r = none := fun hf => by rw [← hR.out, if_neg (by rw [hf]; exact id)]
  have NO := Lib.hid no
  clear no
  by_cases hd : isDone b2 l2 = true
  · have hd' : (!b2 && l2.isEmpty) = true := hd
    rw [hd']
    by_cases c1 : x < 0
    · have e1 : decide (x < 0) = true := by simpa using c1
      go_wp2_with fail
      go_ret
      exact done_no (NO.out (by simp; omega)) hbel
    have e1 : decide (x < 0) = false := by simpa using c1
    by_cases c2 : 1099511627776 < x
    · have e2 : decide (1099511627776 < x) = true := by simpa using c2
      go_wp2_with fail
      go_ret
      exact done_no (NO.out (by simp; omega)) hbel
    have e2 : decide (1099511627776 < x) = false := by simpa using c2
    by_cases c3 : y < 0
    · have e3 : decide (y < 0) = true := by simpa using c3
      go_wp2_with fail
      go_ret
      exact done_no (NO.out (by simp; omega)) hbel
    have e3 : decide (y < 0) = false := by simpa using c3
    by_cases c4 : 1099511627776 < y
    · have e4 : decide (1099511627776 < y) = true := by simpa using c4
      go_wp2_with fail
      go_ret
      exact done_no (NO.out (by simp; omega)) hbel
    have e4 : decide (1099511627776 < y) = false := by simpa using c4
    have hsay1 := HS.out.below hbel (Nat.le_refl _)
    have k0 := H1.out.c1
    have HS1 := Lib.hid hsay1
    have hYES : r = some ⟨s.term, s.vote, x, y, []⟩ := by rw [← hR.out, if_pos ⟨hd, ⟨by omega, by omega⟩, by omega, by omega⟩]
    have HYES := Lib.hid hYES
    have hne : sb ≠ ub := fun e => by have := HS.out.lt; have := H.out.ulo; omega
    have hz0 := Go.Joins.cell_of_block hsay1.blk 2
    have hz1 := Go.Joins.cell_of_block hsay1.blk 3
    have hz2 := Go.Joins.cell_of_block hsay1.blk 4
    have hf2 := Go.Joins.unfrozen_of_block hsay1.blk 4
    have hf0 := Go.Joins.unfrozen_of_block hsay1.blk 2
    have hf1 := Go.Joins.unfrozen_of_block hsay1.blk 3
    have HBEL := Lib.hid hbel
    clear hsay1 hYES hd hd' hbel
    go_upto_region 4 with fail
    refine heldS_begin (fun (w' : World) => w'.cell? ⟨ub, 0, none⟩ = some (.pointer (some ⟨sb, 0, none⟩))) (by kernel_rfl) (k0) ?_
    intro hS0
    (first | (refine takeS_no 0 rfl (by kernel_rfl) (by kernel_rfl) (by kernel_rfl) (fun _ _ _ h => h) (by rfl) (by assumption) ?_) | (refine takeS_yes (v := ?_) 0 rfl (by kernel_rfl) (by kernel_rfl) (by kernel_rfl) (fun _ _ _ h => h) (by rfl) (by assumption) ?_ ?_; rotate_left; focus (intro wS hSw; have q0 := hSw; go_simp; first | done | with_reducible rfl)))
    (try simp only [Act.put, List.setIfInBounds_toArray, List.set_cons_zero, List.set_cons_succ])
    (first | (refine takeS_no 1 rfl (by kernel_rfl) (by kernel_rfl) (by kernel_rfl) (fun _ _ _ h => h) (by rfl) (by assumption) ?_) | (refine takeS_yes (v := ?_) 1 rfl (by kernel_rfl) (by kernel_rfl) (by kernel_rfl) (fun _ _ _ h => h) (by rfl) (by assumption) ?_ ?_; rotate_left; focus (intro wS hSw; have q0 := hSw; go_simp; first | done | with_reducible rfl)))
    (try simp only [Act.put, List.setIfInBounds_toArray, List.set_cons_zero, List.set_cons_succ])
    (first | (refine takeS_no 2 rfl (by kernel_rfl) (by kernel_rfl) (by kernel_rfl) (fun _ _ _ h => h) (by rfl) (by assumption) ?_) | (refine takeS_yes (v := ?_) 2 rfl (by kernel_rfl) (by kernel_rfl) (by kernel_rfl) (fun _ _ _ h => h) (by rfl) (by assumption) ?_ ?_; rotate_left; focus (intro wS hSw; have q0 := hSw; go_simp; first | done | with_reducible rfl)))
    (try simp only [Act.put, List.setIfInBounds_toArray, List.set_cons_zero, List.set_cons_succ])
    (first | (refine takeS_no 3 rfl (by kernel_rfl) (by kernel_rfl) (by kernel_rfl) (fun _ _ _ h => h) (by rfl) (by assumption) ?_) | (refine takeS_yes (v := ?_) 3 rfl (by kernel_rfl) (by kernel_rfl) (by kernel_rfl) (fun _ _ _ h => h) (by rfl) (by assumption) ?_ ?_; rotate_left; focus (intro wS hSw; have q0 := hSw; go_simp; first | done | with_reducible rfl)))
    (try simp only [Act.put, List.setIfInBounds_toArray, List.set_cons_zero, List.set_cons_succ])
    (first | (refine takeS_no 4 rfl (by kernel_rfl) (by kernel_rfl) (by kernel_rfl) (fun _ _ _ h => h) (by rfl) (by assumption) ?_) | (refine takeS_yes (v := ?_) 4 rfl (by kernel_rfl) (by kernel_rfl) (by kernel_rfl) (fun _ _ _ h => h) (by rfl) (by assumption) ?_ ?_; rotate_left; focus (intro wS hSw; have q0 := hSw; go_simp; first | done | with_reducible rfl)))
    (try simp only [Act.put, List.setIfInBounds_toArray, List.set_cons_zero, List.set_cons_succ])
    (first | (refine takeS_no 5 rfl (by kernel_rfl) (by kernel_rfl) (by kernel_rfl) (fun _ _ _ h => h) (by rfl) (by assumption) ?_) | (refine takeS_yes (v := ?_) 5 rfl (by kernel_rfl) (by kernel_rfl) (by kernel_rfl) (fun _ _ _ h => h) (by rfl) (by assumption) ?_ ?_; rotate_left; focus (intro wS hSw; have q0 := hSw; go_simp; first | done | with_reducible rfl)))
    (try simp only [Act.put, List.setIfInBounds_toArray, List.set_cons_zero, List.set_cons_succ])
    (first | (refine takeS_no 6 rfl (by kernel_rfl) (by kernel_rfl) (by kernel_rfl) (fun _ _ _ h => h) (by rfl) (by assumption) ?_) | (refine takeS_yes (v := ?_) 6 rfl (by kernel_rfl) (by kernel_rfl) (by kernel_rfl) (fun _ _ _ h => h) (by rfl) (by assumption) ?_ ?_; rotate_left; focus (intro wS hSw; have q0 := hSw; go_simp; first | done | with_reducible rfl)))
    (try simp only [Act.put, List.setIfInBounds_toArray, List.set_cons_zero, List.set_cons_succ])
    refine takeS_alone 7 rfl (by kernel_rfl) (by rfl) (fun K hK => ?_)
    go_simp
    (have hS1 : (w1.drew.setCell ⟨sb, 2, none⟩ (.int .i64 x)).cell? ⟨ub, 0, none⟩ = some (.pointer (some ⟨sb, 0, none⟩)) := (World.cell?_setCell_far _ _ _ _ hne).trans hS0)
    refine hK.out _ _ (by assumption) ?_
    clear hK K
    (try simp only [Act.put, List.setIfInBounds_toArray, List.set_cons_zero, List.set_cons_succ])
    (first | (refine takeS_no 8 rfl (by kernel_rfl) (by kernel_rfl) (by kernel_rfl) (fun _ _ _ h => h) (by rfl) (by assumption) ?_) | (refine takeS_yes (v := ?_) 8 rfl (by kernel_rfl) (by kernel_rfl) (by kernel_rfl) (fun _ _ _ h => h) (by rfl) (by assumption) ?_ ?_; rotate_left; focus (intro wS hSw; have q0 := hSw; go_simp; first | done | with_reducible rfl)))
    (try simp only [Act.put, List.setIfInBounds_toArray, List.set_cons_zero, List.set_cons_succ])
    (first | (refine takeS_no 9 rfl (by kernel_rfl) (by kernel_rfl) (by kernel_rfl) (fun _ _ _ h => h) (by rfl) (by assumption) ?_) | (refine takeS_yes (v := ?_) 9 rfl (by kernel_rfl) (by kernel_rfl) (by kernel_rfl) (fun _ _ _ h => h) (by rfl) (by assumption) ?_ ?_; rotate_left; focus (intro wS hSw; have q0 := hSw; go_simp; first | done | with_reducible rfl)))
    (try simp only [Act.put, List.setIfInBounds_toArray, List.set_cons_zero, List.set_cons_succ])
    refine takeS_alone 10 rfl (by kernel_rfl) (by rfl) (fun K hK => ?_)
    go_simp
    (have hS2 : ((w1.drew.setCell ⟨sb, 2, none⟩ (.int .i64 x)).setCell ⟨sb, 3, none⟩ (.int .i64 y)).cell? ⟨ub, 0, none⟩ = some (.pointer (some ⟨sb, 0, none⟩)) := (World.cell?_setCell_far _ _ _ _ hne).trans hS1)
    refine hK.out _ _ (by assumption) ?_
    clear hK K
    (try simp only [Act.put, List.setIfInBounds_toArray, List.set_cons_zero, List.set_cons_succ])
    (first | (refine takeS_no 11 rfl (by kernel_rfl) (by kernel_rfl) (by kernel_rfl) (fun _ _ _ h => h) (by rfl) (by assumption) ?_) | (refine takeS_yes (v := ?_) 11 rfl (by kernel_rfl) (by kernel_rfl) (by kernel_rfl) (fun _ _ _ h => h) (by rfl) (by assumption) ?_ ?_; rotate_left; focus (intro wS hSw; have q0 := hSw; go_simp; first | done | with_reducible rfl)))
    (try simp only [Act.put, List.setIfInBounds_toArray, List.set_cons_zero, List.set_cons_succ])
    (first | (refine takeS_no 12 rfl (by kernel_rfl) (by kernel_rfl) (by kernel_rfl) (fun _ _ _ h => h) (by rfl) (by assumption) ?_) | (refine takeS_yes (v := ?_) 12 rfl (by kernel_rfl) (by kernel_rfl) (by kernel_rfl) (fun _ _ _ h => h) (by rfl) (by assumption) ?_ ?_; rotate_left; focus (intro wS hSw; have q0 := hSw; go_simp; first | done | with_reducible rfl)))
    (try simp only [Act.put, List.setIfInBounds_toArray, List.set_cons_zero, List.set_cons_succ])
    refine takeS_alone 13 rfl (by kernel_rfl) (by rfl) (fun K hK => ?_)
    go_simp
    (have hS3 : (((w1.drew.setCell ⟨sb, 2, none⟩ (.int .i64 x)).setCell ⟨sb, 3, none⟩ (.int .i64 y)).setCell ⟨sb, 4, none⟩ (.slice none 0 0)).cell? ⟨ub, 0, none⟩ = some (.pointer (some ⟨sb, 0, none⟩)) := (World.cell?_setCell_far _ _ _ _ hne).trans hS2)
    refine hK.out _ _ (by assumption) ?_
    clear hK K
    (try simp only [Act.put, List.setIfInBounds_toArray, List.set_cons_zero, List.set_cons_succ])
    refine wpAnyH_done (by kernel_rfl) ?_ _
    simp only [Exit.then]
    rename (∀ (_ : Act) (_ : World), _ → _) => hK0
    refine hK0 _ _ ?_
    clear hK0 hS0 hS1 hS2 hS3
    go_wp2_with fail
    go_ret
    refine done_yes _ HYES.out ⟨_, [], (((HS1.out.sets 2 (.int .i64 x) rfl).sets 3 (.int .i64 y) rfl).setE (EnsOwn.nil _ B)).below (Below.refl _ _).drew (Nat.le_refl _), rfl⟩ ?_
    exact (grown_cell (grown_cell (grown_cell (grown_bel HBEL.out (some sb)) 2 _) 3 _) 4 _).trans (grown_bel (Below.refl _ _).drew (some sb))
  · have hd' : (!b2 && l2.isEmpty) = false := by simpa [isDone] using hd
    rw [hd']
    go_wp2_with fail
    go_ret
    exact done_no (NO.out (by simp [hd])) hbel
end Go.Proofs.YtnhnabcpkaeaaaaGreatDoor
/- What is written in any form, with whatever behind it, is read as it was. No program. Conditions: as each says. -/
namespace Go.Proofs.YtnhnabcpkaeaaaaGreatDoor
open Go.RowKit
set_option maxRecDepth 20000
theorem takeS_back (n : Nat) (a rest : List Int) (h : a.length = n) : takeS n false (a ++ rest) = (a, false, rest) := by
  subst h
  unfold takeS
  rw [if_neg (by simp)]
  simp
def N64 (n : Int) : Prop := -9223372036854775808 ≤ n ∧ n ≤ 9223372036854775807
theorem numS_back (n : Int) (rest : List Int) (h : N64 n) : numS false (numB 8 n ++ rest) = (n, false, rest) := by
  unfold numS
  rw [takeS_back 8 _ _ (numB_len 8 n)]
  dsimp only
  rw [getN_numB]
  have h1 := h.1
  have h2 := h.2
  have e : IntKind.i64.wrap (n % 256 ^ 8) = n := by
    show (if (true && decide (n % 256 ^ 8 % 2 ^ 64 ≥ (2 ^ 63 : Int))) = true then n % 256 ^ 8 % 2 ^ 64 - 2 ^ 64 else n % 256 ^ 8 % 2 ^ 64) = n
    have e1 : (256 : Int) ^ 8 = 18446744073709551616 := by decide
    have e2 : (2 : Int) ^ 64 = 18446744073709551616 := by decide
    have e3 : (2 : Int) ^ 63 = 9223372036854775808 := by decide
    rw [e1, e2, e3]
    split
    · rename_i hc
      have hc : n % 18446744073709551616 % 18446744073709551616 ≥ 9223372036854775808 := by simpa using hc
      omega
    · rename_i hc
      have hc : ¬ n % 18446744073709551616 % 18446744073709551616 ≥ 9223372036854775808 := by simpa using hc
      omega
  rw [e]
theorem kindS_back (k : Int) (rest : List Int) : kindS false (k :: rest) = (k, false, rest) := by
  unfold kindS
  have := takeS_back 1 [k] rest rfl
  rw [List.singleton_append] at this
  rw [this]
  simp [getN]
theorem countS_back (n : Nat) (rest : List Int) (h : n ≤ 65536) : countS false (numB 4 n ++ rest) = ((n : Int), false, rest) := by
  unfold countS
  rw [takeS_back 4 _ _ (numB_len 4 n)]
  dsimp only
  rw [getN_numB]
  have e1 : (256 : Int) ^ 4 = 4294967296 := by decide
  have e : (n : Int) % 256 ^ 4 = n := by rw [e1]; omega
  rw [e, if_neg (by simp; omega)]
theorem strN_strB (s : ByteArray) : strN (strB s) = s := by
  unfold strN strB strOfNums
  rw [List.map_map]
  have : (fun n : Int => UInt8.ofNat n.toNat) ∘ (fun c : UInt8 => (c.toNat : Int)) = id := by
    funext c
    simp
  rw [this, List.map_id]
theorem textS_back (s : ByteArray) (rest : List Int) (h : s.size ≤ 65536) : textS false (textB s ++ rest) = (s, false, rest) := by
  unfold textS textB
  rw [List.append_assoc, countS_back _ _ h]
  dsimp only
  rw [takeS_back _ _ _ (by rw [strB_len]; omega)]
  dsimp only
  rw [strN_strB]
/-- A value that its bytes say wholly. -/
def Bare (v : Va) : Prop := v.kind = 1 ∧ v.text = ByteArray.empty ∨ v.kind = 2 ∧ v.num = 0
/-- Short enough to be counted, its number one of 64 bits. -/
def VaFit (v : Va) : Prop := N64 v.num ∧ v.text.size ≤ 65536
theorem valueS_back (v : Va) (rest : List Int) (hb : Bare v) (hf : VaFit v) : valueS false (valueB v ++ rest) = (v, false, rest) := by
  obtain ⟨kd, num, text⟩ := v
  rcases hb with ⟨h1, h2⟩ | ⟨h1, h2⟩
  · dsimp only at h1 h2
    subst h1
    subst h2
    have e : valueB ⟨1, num, ByteArray.empty⟩ = 1 :: numB 8 num := by unfold valueB; dsimp only; rw [if_pos rfl]
    rw [e]
    unfold valueS
    dsimp only
    have := takeS_back 1 [1] (numB 8 num ++ rest) rfl
    rw [List.singleton_append] at this
    rw [List.cons_append, this]
    dsimp only
    rw [if_pos (by simp [getN])]
    have h8 := numS_back num rest hf.1
    unfold numS at h8
    simp only [Prod.mk.injEq] at h8
    rw [h8.2]
    rw [h8.1]
    rfl
  · dsimp only at h1 h2
    subst h1
    subst h2
    have e : valueB ⟨2, 0, text⟩ = 2 :: textB text := by unfold valueB; dsimp only; rw [if_neg (by decide), if_pos rfl]
    rw [e]
    unfold valueS
    dsimp only
    have := takeS_back 1 [2] (textB text ++ rest) rfl
    rw [List.singleton_append] at this
    rw [List.cons_append, this]
    dsimp only
    rw [if_neg (by simp [getN]), if_pos (by simp [getN]), textS_back text rest hf.2]
    rfl
theorem rowS_back {α : Type} {one : Bool → List Int → α × Bool × List Int} {oneB : α → List Int} (xs : List α) (h : ∀ x ∈ xs, ∀ rest, one false (oneB x ++ rest) = (x, false, rest)) (rest : List Int) : rowS one xs.length false (xs.flatMap oneB ++ rest) = (xs, false, rest) := by
  induction xs with
  | nil => simp [rowS]
  | cons x xs ih =>
    rw [List.length_cons, List.flatMap_cons, List.append_assoc]
    unfold rowS
    rw [if_neg (by simp), h x (by simp)]
    dsimp only
    rw [ih (fun y hy => h y (List.mem_cons_of_mem _ hy))]
theorem rowsS_back {α : Type} {one : Bool → List Int → α × Bool × List Int} {oneB : α → List Int} (xs : List α) (h : ∀ x ∈ xs, ∀ rest, one false (oneB x ++ rest) = (x, false, rest)) (hl : xs.length ≤ 65536) (rest : List Int) : rowsS one false (numB 4 xs.length ++ (xs.flatMap oneB ++ rest)) = (xs, false, rest) := by
  unfold rowsS
  dsimp only
  rw [countS_back _ _ hl]
  dsimp only
  rw [Int.toNat_natCast, rowS_back xs h]
  rfl
/-- A row of values that is wholly said, and short enough. -/
def VasFit (l : List Va) : Prop := l.length ≤ 65536 ∧ ∀ v ∈ l, Bare v ∧ VaFit v
theorem valuesS_back (l : List Va) (rest : List Int) (h : VasFit l) : valuesS false (valuesB l ++ rest) = (l, false, rest) := by
  unfold valuesS valuesB
  rw [List.append_assoc]
  exact rowsS_back l (fun v hv rest => valueS_back v rest (h.2 v hv).1 (h.2 v hv).2) h.1 rest
theorem intsS_back (l : List Int) (rest : List Int) (hl : l.length ≤ 65536) (h : ∀ n ∈ l, N64 n) : intsS false (numB 4 l.length ++ (l.flatMap (numB 8) ++ rest)) = (l, false, rest) :=
  rowsS_back l (fun v hv rest => numS_back v rest (h v hv)) hl rest
def CmFit (c : CmP) : Prop := c.text.size ≤ 65536 ∧ N64 c.num ∧ VasFit c.args
theorem commandS_back (c : CmP) (rest : List Int) (h : CmFit c) : commandS false (commandB c.kind c.text c.num c.args ++ rest) = (c, false, rest) := by
  unfold commandS commandB
  simp only [List.append_assoc, List.cons_append]
  rw [kindS_back]
  dsimp only
  rw [textS_back _ _ h.1]
  dsimp only
  rw [numS_back _ _ h.2.1]
  dsimp only
  rw [valuesS_back _ _ h.2.2]
  rfl
def EnFit (e : EnP) : Prop := N64 e.term ∧ N64 e.session ∧ N64 e.seq ∧ CmFit ⟨e.ck, e.text, e.args, e.num⟩ ∧ e.vs.length ≤ 65536 ∧ ∀ v ∈ e.vs, N64 v
theorem entryS_back (e : EnP) (rest : List Int) (h : EnFit e) : entryS false (entryB e ++ rest) = (e, false, rest) := by
  obtain ⟨h1, h2, h3, h4, h5, h6⟩ := h
  have hc := commandS_back ⟨e.ck, e.text, e.args, e.num⟩ (numB 4 e.vs.length ++ (e.vs.flatMap (numB 8) ++ rest)) h4
  dsimp only at hc
  unfold entryS entryB
  simp only [List.append_assoc, List.cons_append]
  rw [numS_back _ _ h1]
  dsimp only
  rw [kindS_back]
  dsimp only
  rw [numS_back _ _ h2]
  dsimp only
  rw [numS_back _ _ h3]
  dsimp only
  rw [hc]
  dsimp only
  rw [intsS_back _ _ h5 h6]
  rfl
end Go.Proofs.YtnhnabcpkaeaaaaGreatDoor
/- What letters say, as bytes and back. No program. Conditions: as each says. -/
namespace Go.Proofs.YtnhnabcpkaeaaaaGreatDoor
open Go.RowKit
set_option maxRecDepth 20000
instance vaDec : DecidableEq Va := fun a b => decidable_of_iff (a.kind = b.kind ∧ a.num = b.num ∧ a.text = b.text) (by
  cases a; cases b; simp)
end Go.Proofs.YtnhnabcpkaeaaaaGreatDoor
/- A right letter's bytes are read as it, and with bytes behind them not at all. No program. Conditions: as each says. -/
namespace Go.Proofs.YtnhnabcpkaeaaaaGreatDoor
open Go.RowKit
set_option maxRecDepth 20000
end Go.Proofs.YtnhnabcpkaeaaaaGreatDoor
/- Entry of wire: the bytes of a form. Conditions: what is written is not too long. -/
namespace Go.Proofs.YtnhnabcpkaeaaaaGreatDoor
open Go.RowKit
set_option maxRecDepth 20000
set_option maxHeartbeats 2000000 in
theorem wentry_any (tm kd ss sq ck : Int) (text : ByteArray) (ao : Option Addr) (n cap : Nat) (args : List Va) (num : Int) (vo : Option Addr) (m vcap : Nat) (vs : List Int) (w : World) (hn : args.length = n) (hm : vs.length = m) (hx : ValsIn w w.heap.size ao args) (hs : NumsIn w w.heap.size vo vs)
    (htx : ∀ v ∈ args, v.text.size ≤ 1099511627776) (hnl : n ≤ 1099511627776) (hml : m ≤ 1000000000) (hlim : text.size + (valuesB args).length + 100 ≤ 10000000000) :
    Calls Tryz.prog 89 #[.agg #[.int .i64 tm, .int .u8 kd, .int .i64 ss, .int .i64 sq, .int .u8 ck, .string text, .slice ao n cap, .int .i64 num, .slice vo m vcap]] w (BytesNew (entryB ⟨tm, kd, ss, sq, ck, text, args, num, vs⟩) w.heap.size w) := by
  have hst := Wrote.start (buf_new (w.alloc (.cells #[.int .i64 tm, .int .u8 kd, .int .i64 ss, .int .i64 sq, .int .u8 ck, .string text, .slice ao n cap, .int .i64 num, .slice vo m vcap] 60)))
  have hb := ((Below.refl w.heap.size w).alloc (Nat.le_refl _) (.cells #[.int .i64 tm, .int .u8 kd, .int .i64 ss, .int .i64 sq, .int .u8 ck, .string text, .slice ao n cap, .int .i64 num, .slice vo m vcap] 60)).alloc (by simp) (.cells #[.slice none 0 0, .int .i64 0, .int .i8 0] 163)
  have hk := heap_alloc_keep (heap_alloc_new w (.cells #[.int .i64 tm, .int .u8 kd, .int .i64 ss, .int .i64 sq, .int .u8 ck, .string text, .slice ao n cap, .int .i64 num, .slice vo m vcap] 60)) (.cells #[.slice none 0 0, .int .i64 0, .int .i8 0] 163)
  have hsz : (w.alloc (.cells #[.int .i64 tm, .int .u8 kd, .int .i64 ss, .int .i64 sq, .int .u8 ck, .string text, .slice ao n cap, .int .i64 num, .slice vo m vcap] 60)).heap.size = w.heap.size + 1 := by simp
  have hs0 : ((w.alloc (.cells #[.int .i64 tm, .int .u8 kd, .int .i64 ss, .int .i64 sq, .int .u8 ck, .string text, .slice ao n cap, .int .i64 num, .slice vo m vcap] 60)).alloc (.cells #[.slice none 0 0, .int .i64 0, .int .i8 0] 163)).heap.size = w.heap.size + 2 := by simp
  rw [hsz] at hst
  have HX := Lib.hid hx
  have HS := Lib.hid hs
  have HN := Lib.hid hn
  have HM := Lib.hid hm
  have HTX := Lib.hid htx
  have HST := Lib.hid hst
  have HB := Lib.hid hb
  have HK := Lib.hid hk
  have HS0 := Lib.hid hs0
  clear hst hb hk hsz hs0 hx hs hn hm htx
  go_enter Tryz.func89, Tryz.ntmps89
  go_wp2_with fail
  have hst := HST.out
  have hb := HB.out
  have hk := HK.out
  have hs0 := HS0.out
  generalize ((w.alloc (.cells #[.int .i64 tm, .int .u8 kd, .int .i64 ss, .int .i64 sq, .int .u8 ck, .string text, .slice ao n cap, .int .i64 num, .slice vo m vcap] 60)).alloc (.cells #[.slice none 0 0, .int .i64 0, .int .i8 0] 163)) = w0 at hst hb hk hs0 ⊢
  clear HST HB HK HS0
  have HX := Lib.hid ((HX.out.below noSub_kept hb (Nat.le_refl _)).mono noSub_rising (Nat.le_succ _))
  have HS := Lib.hid ((HS.out.below noSub_kept hb (Nat.le_refl _)).mono noSub_rising (Nat.le_succ _))
  have HK := Lib.hid hk
  have hB0 : w.heap.size + 1 ≤ w0.heap.size := by omega
  refine (put1_any (w.heap.size + 1) (w.heap.size + 1) 8 _ [] tm w0 (by simp [hs0]) (by omega) (by omega) hst.1 (by omega) (by simp)).mono ?_
  rintro e w1 ⟨rfl, hw⟩
  rw [List.nil_append] at hw
  have hk1 := hw.sits hk (by omega) (by decide)
  have d1 : w1.cell? ⟨w.heap.size, 1, none⟩ = some (.int .u8 kd) := Go.Joins.cell_of_block hk1 1
  have H1 := Lib.hid hw
  have HK1 := Lib.hid hk1
  clear hw hk1 hk hst
  go_wp2_with fail
  refine (writeByte_any (w.heap.size + 1) (w.heap.size + 1) _ kd w1 H1.out.1 (Nat.le_trans hB0 H1.out.2.1.size) (by simp only [numB_len]; omega)).mono ?_
  rintro e w2 ⟨rfl, hw⟩
  have hk2 := hw.sits HK1.out (by omega) (by decide)
  have d2 : w2.cell? ⟨w.heap.size, 2, none⟩ = some (.int .i64 ss) := Go.Joins.cell_of_block hk2 2
  have d3 : w2.cell? ⟨w.heap.size, 3, none⟩ = some (.int .i64 sq) := Go.Joins.cell_of_block hk2 3
  have H2 := Lib.hid (H1.out.trans hw)
  have HK2 := Lib.hid hk2
  clear hw hk2 HK1 H1 d1
  go_wp2_with fail
  refine (put2_any (w.heap.size + 1) (w.heap.size + 1) 8 _ _ ss sq w2 rfl (by omega) (by omega) H2.out.1 (Nat.le_trans hB0 H2.out.2.1.size) (by simp only [List.length_append, List.length_singleton, numB_len]; omega)).mono ?_
  rintro e w3 ⟨rfl, hw⟩
  have hk3 := hw.sits HK2.out (by omega) (by decide)
  have d4 : w3.cell? ⟨w.heap.size, 4, none⟩ = some (.int .u8 ck) := Go.Joins.cell_of_block hk3 4
  have d5 : w3.cell? ⟨w.heap.size, 4 + 1, none⟩ = some (.string text) := Go.Joins.cell_of_block hk3 5
  have d6 : w3.cell? ⟨w.heap.size, 4 + 2, none⟩ = some (.slice ao n cap) := Go.Joins.cell_of_block hk3 6
  have d7 : w3.cell? ⟨w.heap.size, 4 + 3, none⟩ = some (.int .i64 num) := Go.Joins.cell_of_block hk3 7
  have d5' : w3.cell? ⟨w.heap.size, 5, none⟩ = some (.string text) := d5
  have d6' : w3.cell? ⟨w.heap.size, 6, none⟩ = some (.slice ao n cap) := d6
  have d7' : w3.cell? ⟨w.heap.size, 7, none⟩ = some (.int .i64 num) := d7
  have H3 := Lib.hid (H2.out.trans hw)
  have HK3 := Lib.hid hk3
  clear hw hk3 HK2 H2 d2 d3
  go_wp2_with fail
  refine (command_any (w.heap.size + 1) (w.heap.size + 1) _ ck text ao n cap num args w3 HN.out (HX.out.below noSub_kept H3.out.2.1 (Nat.le_refl _)) HTX.out H3.out.1 (Nat.le_trans hB0 H3.out.2.1.size) hnl (by simp only [List.length_append, List.length_singleton, numB_len]; omega)).mono ?_
  rintro e w4 ⟨rfl, hw⟩
  have hk4 := hw.sits HK3.out (by omega) (by decide)
  have d8 : w4.cell? ⟨w.heap.size, 8, none⟩ = some (.slice vo m vcap) := Go.Joins.cell_of_block hk4 8
  have H4 := Lib.hid (H3.out.trans hw)
  have HK4 := Lib.hid hk4
  clear hw hk4 HK3 H3 d4 d5 d6 d7 d5' d6' d7'
  go_wp2_with fail
  refine (count_any (w.heap.size + 1) (w.heap.size + 1) _ m w4 H4.out.1 (Nat.le_trans hB0 H4.out.2.1.size) (by simp only [List.length_append, List.length_singleton, numB_len, commandB_len]; omega)).mono ?_
  rintro e w5 ⟨rfl, hw⟩
  have hk5 := hw.sits HK4.out (by omega) (by decide)
  have d8 : w5.cell? ⟨w.heap.size, 8, none⟩ = some (.slice vo m vcap) := Go.Joins.cell_of_block hk5 8
  have hw5 := H4.out.trans hw
  have hbs : numB 8 tm ++ [kd] ++ (numB 8 ss ++ numB 8 sq) ++ commandB ck text num args ++ numB 4 m = numB 8 tm ++ (kd :: (numB 8 ss ++ (numB 8 sq ++ (commandB ck text num args ++ numB 4 m)))) := by simp
  rw [hbs] at hw5
  obtain ⟨P, hP⟩ : ∃ P, numB 8 tm ++ (kd :: (numB 8 ss ++ (numB 8 sq ++ (commandB ck text num args ++ numB 4 m)))) = P := ⟨_, rfl⟩
  have hpl : P.length = 42 + text.size + (valuesB args).length := by rw [← hP]; simp only [List.length_append, List.length_cons, numB_len, commandB_len]; omega
  rw [hP] at hw5
  have H5 := Lib.hid hw5
  have HP := Lib.hid hP
  clear hw hw5 hk5 HK4 H4 hbs hP HX HTX
  go_wp2_with fail
  go_loopw [30] (fun i wr => ∃ k : Nat, k ≤ m ∧ i = .int .i64 k ∧ Wrote (w.heap.size + 1) (w.heap.size + 1) (P ++ (vs.take k).flatMap (numB 8)) w0 wr) (fun i _ => m - (intOf i).toNat)
  case atStart => exact ⟨0, by omega, rfl, by simpa using H5.out⟩
  case round =>
    clear H5 d8
    obtain ⟨k, hk, rfl, hw⟩ := hrel
    have HW := Lib.hid hw
    clear hw
    have hlk : ((vs.take k).flatMap (numB 8)).length ≤ 8000000000 := by
      rw [flatN_len, List.length_take]
      have : min k vs.length ≤ 1000000000 := by omega
      omega
    by_cases hlt : k < m
    · have hkx : vs[k]? = some (vs[k]'(by rw [HM.out]; exact hlt)) := List.getElem?_eq_getElem _
      obtain ⟨rb, off, hao, hbb, hc, _⟩ := HS.out.at hkx
      have htk : (vs.take (k + 1)).flatMap (numB 8) = (vs.take k).flatMap (numB 8) ++ numB 8 (vs[k]'(by rw [HM.out]; exact hlt)) := by
        rw [List.take_succ_eq_append_getElem (by rw [HM.out]; exact hlt), List.flatMap_append]; simp
      generalize vs[k]'(by rw [HM.out]; exact hlt) = x at hc htk hkx
      have hbel := HW.out.2.1
      have c0 : wr.cell? ⟨rb, off + k * 1, none⟩ = some (.int .i64 x) := (hbel.cell (p := ⟨rb, _, none⟩) hbb).trans (hc 0 (by decide))
      have c0' : wr.cell? ⟨rb, off + k, none⟩ = some (.int .i64 x) := by simpa using c0
      have HT := Lib.hid htk
      have i1 : (k : Int) < m := by omega
      subst hao
      clear hc htk hkx hbel
      go_wp2_with fail
      refine (put1_any (w.heap.size + 1) (w.heap.size + 1) 8 _ _ x wr rfl (by omega) (by omega) HW.out.1 (Nat.le_trans hB0 HW.out.2.1.size) (by simp only [List.length_append]; omega)).mono ?_
      rintro e w3 ⟨rfl, hw3⟩
      have hw4 := HW.out.trans hw3
      rw [List.append_assoc, ← HT.out] at hw4
      have HW4 := Lib.hid hw4
      clear hw3 hw4 c0 c0'
      go_wp2_with fail
      go_roundw
      case rel => exact ⟨k + 1, by omega, by go_num, HW4.out⟩
      case measure => simp [intOf]; omega
    · obtain rfl : k = m := by omega
      have hw5 := HW.out
      rw [List.take_of_length_le (l := vs) (by rw [HM.out]; exact Nat.le_refl _)] at hw5
      have hlv : (vs.flatMap (numB 8)).length ≤ 8000000000 := by rw [flatN_len, HM.out]; omega
      have hbs : P ++ vs.flatMap (numB 8) = entryB ⟨tm, kd, ss, sq, ck, text, args, num, vs⟩ := by rw [← HP.out, ← HM.out]; simp [entryB]
      have hbl : (entryB ⟨tm, kd, ss, sq, ck, text, args, num, vs⟩).length ≤ 30000000000 := by rw [← hbs, List.length_append]; omega
      rw [hbs] at hw5
      have HW5 := Lib.hid hw5
      have hb6 := hb.trans (hw5.2.1.mono (Nat.le_succ _))
      have hs6 : w.heap.size + 1 ≤ wr.heap.size := by have := hw5.2.1.size; omega
      clear hw5 HW hbs
      go_wp2_with fail
      refine (told_any (w.heap.size + 1) (w.heap.size + 1) _ wr HW5.out.1 hs6 (by omega)).mono ?_
      rintro e w8 ⟨a, c, rfl, ho, hb2⟩
      have HO := Lib.hid (Go.Joins.ownsRow_le ho hb6.size)
      have hb9 := hb6.trans (hb2.mono hb6.size)
      clear ho hb2
      go_wp2_with fail
      go_ret
      exact ⟨a, c, rfl, HO.out, hb9⟩
end Go.Proofs.YtnhnabcpkaeaaaaGreatDoor
