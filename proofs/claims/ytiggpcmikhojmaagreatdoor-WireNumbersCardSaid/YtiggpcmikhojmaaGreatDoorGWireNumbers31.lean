/- Parts that are lent, one by one, and the bytes that are wanted of them: what is kept from one to the next. No program. Conditions: as each says. -/
import Derived.Test.YtiggpcmikhojmaaGreatDoorGWireNumbers30
import Derived.Test.YtiggpcmikhojmaaGreatDoorGWireNumbers4
import Derived.Test.YtiggpcmikhojmaaGreatDoorGWireNumbers1
import Derived.Test.YtiggpcmikhojmaaGreatDoorGWireNumbers9
import Derived.Test.YtiggpcmikhojmaaGreatDoorGWireNumbers2
import Derived.Maps.AppendAt
import Derived.Test.YtiggpcmikhojmaaGreatDoorGWireNumbers20
import Derived.Test.YtiggpcmikhojmaaGreatDoorGWireNumbers0
import Derived.Test.YtiggpcmikhojmaaGreatDoorGWireNumbers3
import Derived.Test.YtiggpcmikhojmaaGreatDoorGWireNumbers24
set_option linter.unusedVariables false
namespace Go.Proofs.YtiggpcmikhojmaaGreatDoor
open Go.RowKit
set_option maxRecDepth 20000
/-- A part among the arguments. -/
def PtArg (p : Pt) : Prop := BytesWf p.data ∧ (p.ao = none → p.cap = 0) ∧ p.data.length ≤ p.cap
/-- A part that was lent: in a block of its own, with the marks behind it. -/
def PtLent (w : World) (B : Nat) (q : Pt) : Prop := ∃ g, q.ao = some ⟨g, 0, none⟩ ∧ q.cap = q.data.length + 12 ∧ LentB w B g q.data
structure LentAt (wr W : World) (ps : List Pt) (k : Nat) (vin vw : Value) (qs : List Pt) : Prop where
  len : qs.length = k
  data : qs.map Pt.data = (ps.take k).map Pt.data
  row : wr.ownsRow W.heap.size 43 1 vin k (qs.flatMap ptCells)
  want : wr.ownsRow W.heap.size 5 1 vw ((ps.take k).flatMap Pt.data).length (((ps.take k).flatMap Pt.data).map bv)
  lent : ∀ q ∈ qs, PtLent wr W.heap.size q
  apart : qs.Pairwise fun q r => q.ao ≠ r.ao
  sep : ∀ q ∈ qs, ∀ g, q.ao = some ⟨g, 0, none⟩ → vw.ownBlock ≠ some g
  bel : Below W.heap.size W wr
theorem LentB.le {w : World} {B B' g : Nat} {xs : List Int} (h : LentB w B g xs) (hB : B' ≤ B) : LentB w B' g xs := Go.Joins.ownsRow_le h hB
theorem LentAt.start (W : World) (ps : List Pt) : LentAt W W ps 0 (.slice none 0 0) (.slice none 0 0) [] :=
  ⟨rfl, rfl, World.ownsRow_nil _ _ _ _, World.ownsRow_nil _ _ _ _, (by intro q hq; cases hq), List.Pairwise.nil, (by intro q hq; cases hq), Below.refl _ _⟩
theorem take_snoc {α : Type} {ps : List α} {k : Nat} {p : α} (hp : ps[k]? = some p) : ps.take (k + 1) = ps.take k ++ [p] := by
  rw [List.take_add_one, hp]; rfl
theorem LentAt.step {wr W w1 w2 w3 : World} {ps qs : List Pt} {k g m n : Nat} {vin vw vin' vw' : Value} {p : Pt} (hL : LentAt wr W ps k vin vw qs) (hp : ps[k]? = some p) (hg0 : wr.heap.size ≤ g) (hl : LentB w1 wr.heap.size g p.data) (hb : Below wr.heap.size wr w1) (o : Obj)
    (h2 : w2.ownsRow W.heap.size 43 1 vin' (k + 1) (qs.flatMap ptCells ++ [(⟨some ⟨g, 0, none⟩, p.data.length + 12, p.data⟩ : Pt)].flatMap ptCells)) (hg2 : (w1.alloc o).grownBy w2 vin.ownBlock)
    (hm : ((ps.take k).flatMap Pt.data).length = m) (hn : p.data.length = n) (h3 : w3.ownsRow W.heap.size 5 1 vw' (m + n) (((ps.take k).flatMap Pt.data ++ p.data).map bv)) (hg3 : w2.grownBy w3 vw.ownBlock) (hat : vw'.ownBlock = vw.ownBlock ∨ vw'.ownBlock = some w2.heap.size) :
    LentAt w3 W ps (k + 1) vin' vw' (qs ++ [⟨some ⟨g, 0, none⟩, p.data.length + 12, p.data⟩]) := by
  have hsW := hL.bel.size
  have hs1 := hb.size
  have lt1 := ownsRow_ltB hl
  have rowA := (own_below hL.row hb (Nat.le_refl _)).alloc o
  have wantA := (own_below hL.want hb (Nat.le_refl _)).alloc o
  have newA := (LentB.le hl hsW).alloc o
  have lentA : ∀ q ∈ qs, PtLent (w1.alloc o) W.heap.size q := fun q hq => by
    obtain ⟨g', e1, e2, e3⟩ := hL.lent q hq
    exact ⟨g', e1, e2, (own_below e3 hb (Nat.le_refl _)).alloc o⟩
  have want2 := wantA.kept hg2 (own_apart wantA rowA (by decide))
  have new2 := newA.kept hg2 (own_apart newA rowA (by decide))
  have lent2 : ∀ q ∈ qs, PtLent w2 W.heap.size q := fun q hq => by
    obtain ⟨g', e1, e2, e3⟩ := lentA q hq
    exact ⟨g', e1, e2, World.ownsRow.kept e3 hg2 (own_apart e3 rowA (by decide))⟩
  have row3 := h2.kept hg3 (own_apart h2 want2 (by decide))
  have hne : vw.ownBlock ≠ some g := fun e => by have := (hL.want.lt g e).2; omega
  have hbA : Below W.heap.size W (w1.alloc o) := (hL.bel.trans (hb.mono hsW)).alloc (by omega) o
  have hb2 := hbA.grown hg2 hbA.size (fun b e => (hL.row.lt b e).1)
  refine ⟨by simp [hL.len], ?_, ?_, ?_, ?_, ?_, ?_, hb2.grown hg3 hb2.size (fun b e => (hL.want.lt b e).1)⟩
  · rw [List.map_append, hL.data, take_snoc hp, List.map_append]; rfl
  · rw [List.flatMap_append]; exact row3
  · rw [take_snoc hp, List.flatMap_append]
    have e : [p].flatMap Pt.data = p.data := by simp
    rw [e, List.length_append, hm, hn]
    exact h3
  · intro q hq
    rcases List.mem_append.1 hq with hq | hq
    · obtain ⟨g', e1, e2, e3⟩ := lent2 q hq
      exact ⟨g', e1, e2, World.ownsRow.kept e3 hg3 (Or.inr fun e => hL.sep q hq g' e1 (by rw [← e]; rfl))⟩
    · rw [List.mem_singleton.1 hq]
      exact ⟨g, rfl, rfl, World.ownsRow.kept new2 hg3 (Or.inr fun e => hne (by rw [← e]; rfl))⟩
  · rw [List.pairwise_append]
    refine ⟨hL.apart, List.pairwise_singleton _ _, fun q hq r hr => ?_⟩
    rw [List.mem_singleton.1 hr]
    obtain ⟨g', e1, e2, e3⟩ := hL.lent q hq
    have := ownsRow_ltB e3
    rw [e1]
    intro e
    cases e
    omega
  · intro q hq g' he
    rcases List.mem_append.1 hq with hq | hq
    · rcases hat with h | h
      · rw [h]; exact hL.sep q hq g' he
      · rw [h]
        obtain ⟨g2, e1, e2, e3⟩ := lent2 q hq
        have := ownsRow_ltB e3
        rw [e1] at he
        cases he
        intro e
        cases e
        omega
    · rw [List.mem_singleton.1 hq] at he
      cases he
      rcases hat with h | h
      · rw [h]; exact hne
      · rw [h]
        have := ownsRow_ltB new2
        intro e
        cases e
        omega
theorem LentAt.wantAt {wr W w1 w2 : World} {ps qs : List Pt} {k m : Nat} {vin vw : Value} (hL : LentAt wr W ps k vin vw qs) (hm : ((ps.take k).flatMap Pt.data).length = m) (hb : Below wr.heap.size wr w1) (o : Obj) (hg2 : (w1.alloc o).grownBy w2 vin.ownBlock) : w2.ownsRow W.heap.size 5 1 vw m (((ps.take k).flatMap Pt.data).map bv) := by
  have rowA := (own_below hL.row hb (Nat.le_refl _)).alloc o
  have wantA := (own_below hL.want hb (Nat.le_refl _)).alloc o
  subst hm
  exact wantA.kept hg2 (own_apart wantA rowA (by decide))
theorem PtLent.sub {w : World} {B : Nat} {q : Pt} (h : PtLent w B q) : ptSub w w.heap.size q := by
  obtain ⟨g, e1, _, e3⟩ := h
  unfold ptSub
  rw [e1]
  exact e3.bytes.mono (ownsRow_ltB e3)
theorem data_mem {ps qs : List Pt} (h : qs.map Pt.data = ps.map Pt.data) {q : Pt} (hq : q ∈ qs) : ∃ p ∈ ps, p.data = q.data := by
  have h1 : q.data ∈ ps.map Pt.data := h ▸ List.mem_map_of_mem hq
  exact List.mem_map.1 h1
/-- What is kept while lent parts are written over, one by one. -/
structure OverAt (w5 wr W : World) (T k n m : Nat) (vin vw : Value) (qs : List Pt) (L : List Int) : Prop where
  row : wr.ownsRow W.heap.size 43 1 vin n (qs.flatMap ptCells)
  want : wr.ownsRow W.heap.size 5 1 vw m (L.map bv)
  lent : ∀ i q, k ≤ i → qs[i]? = some q → PtLent wr W.heap.size q
  mid : Mid W.heap.size T w5 wr
theorem pair_ne {qs : List Pt} (h : qs.Pairwise fun q r => q.ao ≠ r.ao) {i j : Nat} {q r : Pt} (hij : i < j) (hq : qs[i]? = some q) (hr : qs[j]? = some r) : q.ao ≠ r.ao := by
  rw [List.pairwise_iff_getElem] at h
  obtain ⟨hi, rfl⟩ := List.getElem?_eq_some_iff.1 hq
  obtain ⟨hj, rfl⟩ := List.getElem?_eq_some_iff.1 hr
  exact h i j hi hj hij
theorem OverAt.below {w5 wr W w6 : World} {T k n m : Nat} {vin vw : Value} {qs : List Pt} {L : List Int} (h : OverAt w5 wr W T k n m vin vw qs L) (hb : Below wr.heap.size wr w6) (hW : W.heap.size ≤ w5.heap.size) : OverAt w5 w6 W T k n m vin vw qs L :=
  ⟨own_below h.row hb (Nat.le_refl _), own_below h.want hb (Nat.le_refl _), fun i q hi hq => by
    obtain ⟨g', e1, e2, e3⟩ := h.lent i q hi hq
    exact ⟨g', e1, e2, own_below e3 hb (Nat.le_refl _)⟩, h.mid.trans_below hb (Nat.le_trans hW h.mid.below.size)⟩
theorem OverAt.over {w5 wr W w7 : World} {T k n m g : Nat} {vin vw : Value} {qs : List Pt} {L : List Int} {q : Pt} (h : OverAt w5 wr W T k n m vin vw qs L) (hq : qs[k]? = some q) (ha : q.ao = some ⟨g, 0, none⟩) (hg : wr.grownBy w7 (some g)) (hW : W.heap.size ≤ w5.heap.size) (hT : g < T) (hap : qs.Pairwise fun q r => q.ao ≠ r.ao) (hsep : vw.ownBlock ≠ some g) : OverAt w5 w7 W T (k + 1) n m vin vw qs L := by
  obtain ⟨g', e1, e2, e3⟩ := h.lent k q (Nat.le_refl _) hq
  rw [ha] at e1
  cases e1
  refine ⟨World.ownsRow.kept h.row hg (own_apart h.row e3 (by decide)), World.ownsRow.kept h.want hg (Or.inr hsep), fun i r hi hr => ?_, h.mid.grown hg (Nat.le_trans hW h.mid.below.size) (own_belowB e3 g rfl) hT⟩
  obtain ⟨g2, f1, f2, f3⟩ := h.lent i r (by omega) hr
  refine ⟨g2, f1, f2, World.ownsRow.kept f3 hg (Or.inr fun e => ?_)⟩
  have := pair_ne hap (show k < i by omega) hq hr
  rw [ha, f1] at this
  simp [Value.ownBlock] at e
  exact this (by rw [e])
theorem flat_data {ps qs : List Pt} (h : qs.map Pt.data = ps.map Pt.data) : qs.flatMap Pt.data = ps.flatMap Pt.data := by
  rw [List.flatMap_def, List.flatMap_def, h]
theorem take_flat_le (ps : List Pt) (k : Nat) {p : Pt} (hp : ps[k]? = some p) : ((ps.take k).flatMap Pt.data).length + p.data.length = ((ps.take (k + 1)).flatMap Pt.data).length := by
  rw [take_snoc hp, List.flatMap_append, List.length_append]; simp
end Go.Proofs.YtiggpcmikhojmaaGreatDoor
/- OverBytes: a lent row of bytes is written over, the marks behind it, too; nothing else is changed. Conditions: the row is a lent one. -/
namespace Go.Proofs.YtiggpcmikhojmaaGreatDoor
open Go.RowKit
set_option maxRecDepth 20000
theorem overB_any (B g n : Nat) (ys : List Int) (w : World) (h : w.ownsRow B 5 1 (.slice (some ⟨g, 0, none⟩) (n + 12) (n + 12)) (n + 12) (ys.map bv)) (hn : n ≤ 1099511627776) :
    Calls Tryz.prog 46 #[.slice (some ⟨g, 0, none⟩) n (n + 12 : Nat)] w fun e w' => e = .returned (.tuple #[]) ∧ w.grownBy w' (some g) ∧ ∃ zs : List Int, w'.ownsRow B 5 1 (.slice (some ⟨g, 0, none⟩) (n + 12) (n + 12)) (n + 12) (zs.map bv) := by
  have hyl : ys.length = n + 12 := by have := h.1; simpa using this
  have hsl : ∀ w, (Instr.sliceAt 43 (.slice (some ⟨g, 0, none⟩) n (n + 12)) none (some (.int .i64 ((n : Int) + 12))) none).run Tryz.prog w = .ok (.slice (some ⟨g, 0, none⟩) (n + 12) (n + 12)) w := fun w => by
    have h1 := run_sub_h sliceByte sizeByte (some ⟨g, 0, none⟩) n (n + 12) (n + 12) (Nat.le_refl _) .i64 ((n : Int) + 12) (by omega) w
    rwa [subA_zero _ _ _ (by intro a ha; cases ha; rfl)] at h1
  have H := Lib.hid h
  have HY := Lib.hid hyl
  clear h hyl
  go_enter Tryz.func46, Tryz.ntmps46
  go_wp2_with fail
  clear hsl
  go_loopw [3] (fun i wr => ∃ (k : Nat) (zs : List Int), k ≤ n + 12 ∧ i = .int .i64 k ∧ zs.length = n + 12 ∧ wr.ownsRow B 5 1 (.slice (some ⟨g, 0, none⟩) (n + 12) (n + 12)) (n + 12) (zs.map bv) ∧ w.grownBy wr (some g)) (fun i _ => n + 12 - (intOf i).toNat)
  case atStart => exact ⟨0, ys, by omega, rfl, HY.out, H.out, World.grownBy.refl _ _⟩
  case round =>
    obtain ⟨k, zs, hk, rfl, hzl, hown, hgr⟩ := hrel
    have HO := Lib.hid hown
    have HZ := Lib.hid hzl
    clear hown hzl
    by_cases hlt : k < n + 12
    · have i1 : (k : Int) < (n : Int) + 12 := by omega
      have i2 : (k : Int) < ((n + 12 : Nat) : Int) := by omega
      have hzl := HZ.out
      have d0 : wr.cell? ⟨g, k, none⟩ = some (.int .u8 (zs[k]'(by omega))) := by
        rw [World.ownsRow.cellAt HO.out k (by omega), List.getElem?_map, List.getElem?_eq_getElem (by omega)]
        rfl
      have f0 : wr.frozen? ⟨g, k, none⟩ = false := World.ownsRow.frozenAt HO.out _
      have hst := World.ownsRow.stored HO.out k (.int .u8 (markBK 2 k))
      have HST := Lib.hid hst
      generalize (zs[k]'(by omega)) = old at d0
      clear hst hzl
      go_wp2_with (go_at_call 81; (with_reducible refine (markBK_at _ _ 2 k (by omega) rfl (by omega) (by omega) _).mono ?_); rintro e w' ⟨rfl, rfl⟩)
      go_roundw
      case rel => exact ⟨k + 1, zs.set k (markBK 2 k), by omega, by go_num, by rw [List.length_set]; exact HZ.out, by rw [List.map_set]; exact HST.out.1, hgr.trans HST.out.2⟩
      case measure => simp [intOf]; omega
    · obtain rfl : k = n + 12 := by omega
      go_wp2_with fail
      go_end0
      exact ⟨rfl, hgr, zs, HO.out⟩
end Go.Proofs.YtiggpcmikhojmaaGreatDoor
/- The law WireJoins, walked: it returns true, and nothing that was there is changed. Conditions: the argument is read as the row reads it. -/
namespace Go.Proofs.YtiggpcmikhojmaaGreatDoor
open Go.RowKit
set_option maxRecDepth 20000
theorem infoBs : (Tryz.prog.info? 43).map (fun i => (i.zero, i.size, i.bytes)) = some (some (.slice none 0 0), 1, 24) := by kernel_rfl
theorem ptCells_one (x : Pt) : ∀ u ∈ ptCells x, u.oneCell' = true := by intro u hu; simp [ptCells] at hu; rw [hu]; rfl
theorem lentB_at (ao : Option Addr) (n cap : Nat) (xs : List Int) (w : World) (B : Nat) (hn : xs.length = n) (hx : BytesIn w B ao xs) (hB : B ≤ w.heap.size) (hao : ao = none → cap = 0) (hl : n ≤ 1099511627776) :
    Calls Tryz.prog 44 #[.slice ao n cap] w fun e w' => ∃ g, e = .returned (.slice (some ⟨g, 0, none⟩) n (n + 12)) ∧ w.heap.size ≤ g ∧ g < w'.heap.size ∧ LentB w' w.heap.size g xs ∧ Below w.heap.size w w' := by
  subst hn
  exact lentB_any ao cap xs w (hx.mono hB) hao hl
theorem keptB_at (ao : Option Addr) (n cap c2 g B : Nat) (xs : List Int) (w : World) (hn : xs.length = n) (hc : c2 = n + 12) (hx : BytesIn w w.heap.size ao xs) (hL : LentB w B g xs) (hl : n ≤ 1099511627776) :
    Calls Tryz.prog 45 #[.slice (some ⟨g, 0, none⟩) n c2, .slice ao n cap] w fun e w' => e = .returned (.bool true) ∧ Below w.heap.size w w' := by
  subst hn hc
  exact keptB_any ao cap g B xs w hx hL hl
theorem overB_at (B g n c2 : Nat) (xs : List Int) (w : World) (hn : xs.length = n) (hc : c2 = n + 12) (h : LentB w B g xs) (hl : n ≤ 1099511627776) :
    Calls Tryz.prog 46 #[.slice (some ⟨g, 0, none⟩) n c2] w fun e w' => e = .returned (.tuple #[]) ∧ w.grownBy w' (some g) := by
  subst hn hc
  exact (overB_any B g xs.length _ w h hl).mono fun e w' h => ⟨h.1, h.2.1⟩
end Go.Proofs.YtiggpcmikhojmaaGreatDoor
/- The law WireReads, walked: it returns true, and nothing that was there is changed. Conditions: the arguments are read as the row reads them. -/
namespace Go.Proofs.YtiggpcmikhojmaaGreatDoor
open Go.RowKit
set_option maxRecDepth 20000
/-- Two operations that may come up in either order. -/
theorem take_two {P : Program} {md : Region.Mode} {ops : Array Oper} {Q : Exit → Act → World → Prop} (i j : Nat) {oi oj : Oper} {fuel : Nat} {listed : Array Bool} {a : Act} {w : World} (hi : ops.toList[i]? = some oi) (hj : ops.toList[j]? = some oj) (hr : Region.ready md ops listed = [i, j]) (hwi : Region.wanted oi (yielded ops a.tmps) = true) (hwj : Region.wanted oj (yielded ops a.tmps) = true)
    (h1 : ∀ K' : Act → World → Prop, Shut (∀ a w, wpAnyH P md ops Q (fun _ => True) fuel (listed.setIfInBounds i true) a w → K' a w) → Oper.wp P oi a w K' Q)
    (h2 : ∀ K' : Act → World → Prop, Shut (∀ a w, wpAnyH P md ops Q (fun _ => True) fuel (listed.setIfInBounds j true) a w → K' a w) → Oper.wp P oj a w K' Q) : wpAnyH P md ops Q (fun _ => True) (fuel + 1) listed a w :=
  wpAnyH_ready (rs := [i, j]) hr (by simp) (AllReadyH.cons (by rw [← Array.getElem?_toList]; exact hi) (fun K hK => by rw [if_pos hwi]; exact h1 K (fun a w hW => hK.out a w trivial (fun _ => hW)))
    (AllReadyH.cons (by rw [← Array.getElem?_toList]; exact hj) (fun K hK => by rw [if_pos hwj]; exact h2 K (fun a w hW => hK.out a w trivial (fun _ => hW))) AllReadyH.nil))
theorem ref_new {w : World} {B : Nat} {ao : Option Addr} {n cap : Nat} {xs : List Int} (hn : xs.length = n) (hx : BytesIn w B ao xs) (hB : B ≤ w.heap.size) (hc : n ≤ cap) (hnil : ao = none → cap = 0) (hl : n ≤ 140737488351232) :
    Ref (w.alloc (.cells #[.slice ao n cap, .int .i64 0, .bool false] 78)) B w.heap.size false xs := by
  refine ⟨0, ao, n, cap, xs, ⟨heap_alloc_new w _, ?_, hn, hc, hnil, Nat.zero_le _, by simp; omega, hl⟩, rfl⟩
  rcases hx with h | ⟨b, off, h1, h2, h3⟩
  · exact Or.inl h
  · refine Or.inr ⟨b, off, h1, h2, by omega, fun i hi => ?_⟩
    rw [((Below.refl w.heap.size w).alloc (Nat.le_refl _) _).cell (p := ⟨b, _, none⟩) (by show b < _; omega)]
    exact h3 i hi
set_option maxHeartbeats 8000000 in
theorem walk_reads (W : World) (ao : Option Addr) (n cap : Nat) (xs : List Int) (hn : xs.length = n) (hx : BytesIn W W.heap.size ao xs) (hw : BytesWf xs) (hao : ao = none → cap = 0) (hc : n ≤ cap) (hl : n ≤ 140737488351232) (co : Option Addr) (m cap2 : Nat) (ys : List Int) (hm : ys.length = m) (hy : NumsIn W W.heap.size co ys) (hz : m ≤ 140737488351232) :
    Calls Tryz.prog 14 #[.slice ao n cap, .slice co m cap2] W fun e w' => e = .returned (.bool true) ∧ Below W.heap.size W w' := by
  have HN := Lib.hid hn
  have HX := Lib.hid hx
  have HW := Lib.hid hw
  have HA := Lib.hid hao
  have HM := Lib.hid hm
  have HY := Lib.hid hy
  clear hn hx hw hao hm hy
  by_cases hbig : 20000 < n
  · have d1 : (20000 : Int) < n := by omega
    go_enter Tryz.func14, Tryz.ntmps14
    go_wp2_with fail
    refine (awake02_any W).mono ?_
    rintro e w1 ⟨rfl, b1⟩
    go_wp2_with fail
    go_ret
    exact ⟨rfl, b1⟩
  have d1 : (n : Int) ≤ 20000 := by omega
  have d2 : decide ((20000 : Int) < (n : Int)) = false := by simpa using d1
  clear hbig
  go_enter Tryz.func14, Tryz.ntmps14
  go_wp2_with fail
  refine (lentB_at ao n cap xs W W.heap.size HN.out HX.out (Nat.le_refl _) HA.out (by omega)).mono ?_
  rintro e w1 ⟨g, rfl, hg0, hg1, hlb, hb1⟩
  have L1 := Lib.hid hlb
  have B1 := Lib.hid hb1
  have hz1 := hb1.size
  clear hlb hb1
  go_wp2_with fail
  refine (newReader_far (some ⟨g, 0, none⟩) n (n + 12) xs w1 (g + 1) HN.out L1.out.bytes hg1 (by simp) (by omega)).mono ?_
  rintro e w2 ⟨rb, ra, rc, rfl, hrb, hri, hfar, hb2⟩
  have B2 := Lib.hid (B1.out.trans (hb2.mono hz1))
  have L2 := Lib.hid (own_below L1.out hb2 (Nat.le_refl _))
  have RI2 := Lib.hid hri
  have FAR := Lib.hid hfar
  have hrb2 := hri.lt
  have hz2 := B2.out.size
  clear hri hfar hb2 B1 L1
  go_wp2_with fail
  have hA := (Below.refl w2.heap.size w2).alloc (Nat.le_refl _) (.cells #[.slice ao n cap, .int .i64 0, .bool false] 78)
  have B3 := Lib.hid (B2.out.trans (hA.mono hz2))
  have L3 := Lib.hid (own_below L2.out hA (Nat.le_refl _))
  have RI3 := Lib.hid (RI2.out.below hA)
  have D3 := Lib.hid (ref_new HN.out (HX.out.below B2.out (Nat.le_refl _)) hz2 hc HA.out hl)
  obtain ⟨db, hdb⟩ : ∃ db, w2.heap.size = db := ⟨_, rfl⟩
  have hrd : rb < db := by omega
  have D4 := Lib.hid (hdb ▸ D3.out)
  rw [hdb]
  clear hA B2 L2 RI2 D3
  generalize w2.alloc (.cells #[.slice ao n cap, .int .i64 0, .bool false] 78) = w3 at B3 L3 RI3 D4 ⊢
  refine (keptB_at ao n cap (n + 12) g W.heap.size xs w3 HN.out rfl ((HX.out.below B3.out (Nat.le_refl _)).mono B3.out.size) L3.out (by omega)).mono ?_
  rintro e w4 ⟨rfl, hb4⟩
  have B4 := Lib.hid (B3.out.trans (hb4.mono B3.out.size))
  have L4 := Lib.hid (own_below L3.out hb4 (Nat.le_refl _))
  have RI4 := Lib.hid (RI3.out.below hb4)
  have D5 := Lib.hid (D4.out.below hb4)
  clear hb4 B3 L3 RI3 D4
  go_wp2_with fail
  refine (overB_at W.heap.size g n (n + 12) xs w4 HN.out rfl L4.out (by omega)).mono ?_
  rintro e w5 ⟨rfl, hg5⟩
  have B5 := Lib.hid (B4.out.grown hg5 B4.out.size (fun b e => by cases e; exact hg0))
  have R5 := Lib.hid (show Rdr w5 rb rb false xs from ⟨ra, rc, RI4.out.grownFar hg5 FAR.out hg1 (by omega)⟩)
  have D6 := Lib.hid (D5.out.grown hg5 (fun b e => by cases e; exact ⟨hg0, by omega⟩))
  clear hg5 B4 L4 RI4 D5
  obtain ⟨P, hP⟩ : ∃ P : Bool × Bool, (!false && xs.isEmpty) = P.1 := ⟨(!false && xs.isEmpty, true), rfl⟩
  have HPP := Lib.hid hP
  clear hP
  have hneq : ∀ w, (binOp .neq 4 (.bool P.1) (.bool P.1)).run Tryz.prog w = .ok (.bool false) w := fun w => by cases P.1 <;> kernel_rfl
  go_wp2_with fail
  refine (bad_rd rb rb false xs w5 R5.out).mono ?_
  rintro e w' ⟨rfl, rfl⟩
  go_wp2_with fail
  refine (done_rd rb rb false xs w5 R5.out).mono ?_
  rintro e w' ⟨he, rfl⟩
  rw [HPP.out] at he
  subst he
  go_wp2_with fail
  refine (rdone_any W.heap.size db false xs w5 D6.out).mono ?_
  rintro e w6 ⟨he, hb6⟩
  rw [HPP.out] at he
  subst he
  have B6 := Lib.hid (B5.out.trans (hb6.mono B5.out.size))
  have R6 := Lib.hid (R5.out.below hb6)
  have D7 := Lib.hid (D6.out.below hb6)
  clear hb6 B5 R5 D6
  go_wp2_with fail
  clear hneq HPP
  go_loopw [8] (fun i wr => ∃ (k : Nat) (b : Bool) (l : List Int), k ≤ m ∧ i = .int .i64 k ∧ Rdr wr rb rb b l ∧ Ref wr W.heap.size db b l ∧ Below W.heap.size W wr ∧ BytesWf l ∧ l.length ≤ n) (fun i _ => m - (intOf i).toNat)
  case atStart => exact ⟨0, false, xs, by omega, rfl, R6.out, D7.out, B6.out, HW.out, by rw [HN.out]; exact Nat.le_refl _⟩
  case round =>
    clear R6 D7 B6
    obtain ⟨k, b, l, hk, rfl, hr_, hd_, hb_, hw_, hl_⟩ := hrel
    have R := Lib.hid hr_
    have D := Lib.hid hd_
    have B := Lib.hid hb_
    have BW := Lib.hid hw_
    clear hr_ hd_ hb_ hw_
    by_cases hlt : k < m
    · by_cases h3 : k < 300
      · obtain ⟨q, hq⟩ : ∃ q, ys[k]? = some q := ⟨_, List.getElem?_eq_getElem (by rw [HM.out]; exact hlt)⟩
        obtain ⟨bb, off, hco, hbb, hcell, _⟩ := HY.out.at hq
        have c0' : W.cell? ⟨bb, off + k, none⟩ = some (.int .i64 q) := by
          have := hcell 0 (by decide)
          rw [Nat.mul_one, Nat.add_zero] at this
          exact this
        have c0 : wr.cell? ⟨bb, off + k, none⟩ = some (.int .i64 q) := (B.out.cell (p := ⟨bb, off + k, none⟩) hbb).trans c0'
        subst hco
        obtain ⟨T, hT⟩ : ∃ T, behindS (q % 8) b l = T := ⟨_, rfl⟩
        have HRD := Lib.hid (fun w' (hr : Rdr w' rb rb b l) (hd : Ref w' W.heap.size db b l) (hs : W.heap.size ≤ w'.heap.size) => read_any rb W.heap.size rb db W.heap.size b l q w' hr hd hrd (by omega) (by omega) (by omega) hs BW.out (by omega))
        rw [hT] at HRD
        have RD := Lib.hid (R.out.below (Below.refl _ _).drew)
        have DD := Lib.hid (D.out.below (Below.refl _ _).drew)
        have hsz := B.out.size
        have hneq1 : ∀ w, (binOp .neq 4 (.bool T.1) (.bool T.1)).run Tryz.prog w = .ok (.bool false) w := fun w => by cases T.1 <;> kernel_rfl
        obtain ⟨P, hP⟩ : ∃ P : Bool × Bool, (!T.1 && T.2.isEmpty) = P.1 := ⟨(!T.1 && T.2.isEmpty, true), rfl⟩
        have HPP := Lib.hid hP
        clear hP
        have hneq2 : ∀ w, (binOp .neq 4 (.bool P.1) (.bool P.1)).run Tryz.prog w = .ok (.bool false) w := fun w => by cases P.1 <;> kernel_rfl
        have i1 : (k : Int) < m := by omega
        have i2 : (k : Int) < 300 := by omega
        clear hcell hq c0' hT
        go_wp2_with fail
        refine held_begin (by kernel_rfl) ?_
        (first | (refine take_no 0 rfl (by kernel_rfl) (by kernel_rfl) (by kernel_rfl) (fun _ _ _ h => h) (by rfl) ?_) | (refine take_yes (v := ?_) 0 rfl (by kernel_rfl) (by kernel_rfl) (by kernel_rfl) (fun _ _ _ h => h) (by rfl) ?_ ?_; rotate_left; focus (intro wS; go_simp; first | done | with_reducible rfl)))
        (try simp only [Act.put, List.setIfInBounds_toArray, List.set_cons_zero, List.set_cons_succ])
        (first | (refine take_no 1 rfl (by kernel_rfl) (by kernel_rfl) (by kernel_rfl) (fun _ _ _ h => h) (by rfl) ?_) | (refine take_yes (v := ?_) 1 rfl (by kernel_rfl) (by kernel_rfl) (by kernel_rfl) (fun _ _ _ h => h) (by rfl) ?_ ?_; rotate_left; focus (intro wS; go_simp; first | done | with_reducible rfl)))
        (try simp only [Act.put, List.setIfInBounds_toArray, List.set_cons_zero, List.set_cons_succ])
        (first | (refine take_no 2 rfl (by kernel_rfl) (by kernel_rfl) (by kernel_rfl) (fun _ _ _ h => h) (by rfl) ?_) | (refine take_yes (v := ?_) 2 rfl (by kernel_rfl) (by kernel_rfl) (by kernel_rfl) (fun _ _ _ h => h) (by rfl) ?_ ?_; rotate_left; focus (intro wS; go_simp; first | done | with_reducible rfl)))
        (try simp only [Act.put, List.setIfInBounds_toArray, List.set_cons_zero, List.set_cons_succ])
        (first | (refine take_no 3 rfl (by kernel_rfl) (by kernel_rfl) (by kernel_rfl) (fun _ _ _ h => h) (by rfl) ?_) | (refine take_yes (v := ?_) 3 rfl (by kernel_rfl) (by kernel_rfl) (by kernel_rfl) (fun _ _ _ h => h) (by rfl) ?_ ?_; rotate_left; focus (intro wS; go_simp; first | done | with_reducible rfl)))
        (try simp only [Act.put, List.setIfInBounds_toArray, List.set_cons_zero, List.set_cons_succ])
        (first | (refine take_no 4 rfl (by kernel_rfl) (by kernel_rfl) (by kernel_rfl) (fun _ _ _ h => h) (by rfl) ?_) | (refine take_yes (v := ?_) 4 rfl (by kernel_rfl) (by kernel_rfl) (by kernel_rfl) (fun _ _ _ h => h) (by rfl) ?_ ?_; rotate_left; focus (intro wS; go_simp; first | done | with_reducible rfl)))
        (try simp only [Act.put, List.setIfInBounds_toArray, List.set_cons_zero, List.set_cons_succ])
        refine take_alone 5 rfl (by kernel_rfl) (by rfl) (fun K hK => ?_)
        go_simp
        skip
        refine hK.out _ _ ?_
        clear hK K
        (try simp only [Act.put, List.setIfInBounds_toArray, List.set_cons_zero, List.set_cons_succ])
        refine take_alone 6 rfl (by kernel_rfl) (by rfl) (fun K hK => ?_)
        go_simp
        (refine (HRD.out _ RD.out DD.out hsz).mono ?_; rintro e w8 ⟨rfl, hr8, hd8, hb8, hw8, hl8⟩; have R8 := Lib.hid hr8; have D8 := Lib.hid hd8; have B8 := Lib.hid hb8; have W8 := Lib.hid hw8; have cb := hd8.badCell.1; clear hr8 hd8 hb8 hw8)
        refine hK.out _ _ ?_
        clear hK K
        (try simp only [Act.put, List.setIfInBounds_toArray, List.set_cons_zero, List.set_cons_succ])
        (first | (refine take_no 7 rfl (by kernel_rfl) (by kernel_rfl) (by kernel_rfl) (fun _ _ _ h => h) (by rfl) ?_) | (refine take_yes (v := ?_) 7 rfl (by kernel_rfl) (by kernel_rfl) (by kernel_rfl) (fun _ _ _ h => h) (by rfl) ?_ ?_; rotate_left; focus (intro wS; go_simp; first | done | with_reducible rfl)))
        (try simp only [Act.put, List.setIfInBounds_toArray, List.set_cons_zero, List.set_cons_succ])
        (first | (refine take_no 8 rfl (by kernel_rfl) (by kernel_rfl) (by kernel_rfl) (fun _ _ _ h => h) (by rfl) ?_) | (refine take_yes (v := ?_) 8 rfl (by kernel_rfl) (by kernel_rfl) (by kernel_rfl) (fun _ _ _ h => h) (by rfl) ?_ ?_; rotate_left; focus (intro wS; go_simp; first | done | with_reducible rfl)))
        (try simp only [Act.put, List.setIfInBounds_toArray, List.set_cons_zero, List.set_cons_succ])
        (first | (refine take_no 9 rfl (by kernel_rfl) (by kernel_rfl) (by kernel_rfl) (fun _ _ _ h => h) (by rfl) ?_) | (refine take_yes (v := ?_) 9 rfl (by kernel_rfl) (by kernel_rfl) (by kernel_rfl) (fun _ _ _ h => h) (by rfl) ?_ ?_; rotate_left; focus (intro wS; go_simp; first | done | with_reducible rfl)))
        (try simp only [Act.put, List.setIfInBounds_toArray, List.set_cons_zero, List.set_cons_succ])
        (first | (refine take_no 11 rfl (by kernel_rfl) (by kernel_rfl) (by kernel_rfl) (fun _ _ _ h => h) (by rfl) ?_) | (refine take_yes (v := ?_) 11 rfl (by kernel_rfl) (by kernel_rfl) (by kernel_rfl) (fun _ _ _ h => h) (by rfl) ?_ ?_; rotate_left; focus (intro wS; go_simp; first | done | with_reducible rfl)))
        (try simp only [Act.put, List.setIfInBounds_toArray, List.set_cons_zero, List.set_cons_succ])
        (first | (refine take_no 12 rfl (by kernel_rfl) (by kernel_rfl) (by kernel_rfl) (fun _ _ _ h => h) (by rfl) ?_) | (refine take_yes (v := ?_) 12 rfl (by kernel_rfl) (by kernel_rfl) (by kernel_rfl) (fun _ _ _ h => h) (by rfl) ?_ ?_; rotate_left; focus (intro wS; go_simp; first | done | with_reducible rfl)))
        (try simp only [Act.put, List.setIfInBounds_toArray, List.set_cons_zero, List.set_cons_succ])
        (first | (refine take_no 13 rfl (by kernel_rfl) (by kernel_rfl) (by kernel_rfl) (fun _ _ _ h => h) (by rfl) ?_) | (refine take_yes (v := ?_) 13 rfl (by kernel_rfl) (by kernel_rfl) (by kernel_rfl) (fun _ _ _ h => h) (by rfl) ?_ ?_; rotate_left; focus (intro wS; go_simp; first | done | with_reducible rfl)))
        (try simp only [Act.put, List.setIfInBounds_toArray, List.set_cons_zero, List.set_cons_succ])
        refine take_two 10 14 rfl rfl (by kernel_rfl) (by rfl) (by rfl) (fun K hK => ?_) (fun K hK => ?_)
        rotate_left
        focus
          go_simp
          skip
          refine hK.out _ _ ?_
          clear hK K
          (try simp only [Act.put, List.setIfInBounds_toArray, List.set_cons_zero, List.set_cons_succ])
          refine take_alone 10 rfl (by kernel_rfl) (by rfl) (fun K hK => ?_)
          go_simp
          (refine (bad_rd rb rb T.1 T.2 w8 R8.out).mono ?_; rintro e wx ⟨rfl, rfl⟩)
          refine hK.out _ _ ?_
          clear hK K
          (try simp only [Act.put, List.setIfInBounds_toArray, List.set_cons_zero, List.set_cons_succ])
        rotate_left
        focus
          go_simp
          (refine (bad_rd rb rb T.1 T.2 w8 R8.out).mono ?_; rintro e wx ⟨rfl, rfl⟩)
          refine hK.out _ _ ?_
          clear hK K
          (try simp only [Act.put, List.setIfInBounds_toArray, List.set_cons_zero, List.set_cons_succ])
          refine take_alone 14 rfl (by kernel_rfl) (by rfl) (fun K hK => ?_)
          go_simp
          skip
          refine hK.out _ _ ?_
          clear hK K
          (try simp only [Act.put, List.setIfInBounds_toArray, List.set_cons_zero, List.set_cons_succ])
        all_goals
          (first | (refine take_no 15 rfl (by kernel_rfl) (by kernel_rfl) (by kernel_rfl) (fun _ _ _ h => h) (by rfl) ?_) | (refine take_yes (v := ?_) 15 rfl (by kernel_rfl) (by kernel_rfl) (by kernel_rfl) (fun _ _ _ h => h) (by rfl) ?_ ?_; rotate_left; focus (intro wS; go_simp; first | done | with_reducible rfl)))
          (try simp only [Act.put, List.setIfInBounds_toArray, List.set_cons_zero, List.set_cons_succ])
          (first | (refine take_no 16 rfl (by kernel_rfl) (by kernel_rfl) (by kernel_rfl) (fun _ _ _ h => h) (by rfl) ?_) | (refine take_yes (v := ?_) 16 rfl (by kernel_rfl) (by kernel_rfl) (by kernel_rfl) (fun _ _ _ h => h) (by rfl) ?_ ?_; rotate_left; focus (intro wS; go_simp; first | done | with_reducible rfl)))
          (try simp only [Act.put, List.setIfInBounds_toArray, List.set_cons_zero, List.set_cons_succ])
          (first | (refine take_no 17 rfl (by kernel_rfl) (by kernel_rfl) (by kernel_rfl) (fun _ _ _ h => h) (by rfl) ?_) | (refine take_yes (v := ?_) 17 rfl (by kernel_rfl) (by kernel_rfl) (by kernel_rfl) (fun _ _ _ h => h) (by rfl) ?_ ?_; rotate_left; focus (intro wS; go_simp; first | done | with_reducible rfl)))
          (try simp only [Act.put, List.setIfInBounds_toArray, List.set_cons_zero, List.set_cons_succ])
          (first | (refine take_no 18 rfl (by kernel_rfl) (by kernel_rfl) (by kernel_rfl) (fun _ _ _ h => h) (by rfl) ?_) | (refine take_yes (v := ?_) 18 rfl (by kernel_rfl) (by kernel_rfl) (by kernel_rfl) (fun _ _ _ h => h) (by rfl) ?_ ?_; rotate_left; focus (intro wS; go_simp; first | done | with_reducible rfl)))
          (try simp only [Act.put, List.setIfInBounds_toArray, List.set_cons_zero, List.set_cons_succ])
          (first | (refine take_no 20 rfl (by kernel_rfl) (by kernel_rfl) (by kernel_rfl) (fun _ _ _ h => h) (by rfl) ?_) | (refine take_yes (v := ?_) 20 rfl (by kernel_rfl) (by kernel_rfl) (by kernel_rfl) (fun _ _ _ h => h) (by rfl) ?_ ?_; rotate_left; focus (intro wS; go_simp; first | done | with_reducible rfl)))
          (try simp only [Act.put, List.setIfInBounds_toArray, List.set_cons_zero, List.set_cons_succ])
          refine take_alone 19 rfl (by kernel_rfl) (by rfl) (fun K hK => ?_)
          go_simp
          (refine (done_rd rb rb T.1 T.2 w8 R8.out).mono ?_; rintro e wx ⟨he, rfl⟩; rw [HPP.out] at he; subst he)
          refine hK.out _ _ ?_
          clear hK K
          (try simp only [Act.put, List.setIfInBounds_toArray, List.set_cons_zero, List.set_cons_succ])
          refine take_alone 21 rfl (by kernel_rfl) (by rfl) (fun K hK => ?_)
          go_simp
          (refine (rdone_any W.heap.size db T.1 T.2 w8 D8.out).mono ?_; rintro e w9 ⟨he, hb9⟩; rw [HPP.out] at he; subst he; have B9 := Lib.hid hb9; clear hb9)
          refine hK.out _ _ ?_
          clear hK K
          (try simp only [Act.put, List.setIfInBounds_toArray, List.set_cons_zero, List.set_cons_succ])
          (first | (refine take_no 22 rfl (by kernel_rfl) (by kernel_rfl) (by kernel_rfl) (fun _ _ _ h => h) (by rfl) ?_) | (refine take_yes (v := ?_) 22 rfl (by kernel_rfl) (by kernel_rfl) (by kernel_rfl) (fun _ _ _ h => h) (by rfl) ?_ ?_; rotate_left; focus (intro wS; go_simp; first | done | with_reducible rfl)))
          (try simp only [Act.put, List.setIfInBounds_toArray, List.set_cons_zero, List.set_cons_succ])
          (first | (refine take_no 23 rfl (by kernel_rfl) (by kernel_rfl) (by kernel_rfl) (fun _ _ _ h => h) (by rfl) ?_) | (refine take_yes (v := ?_) 23 rfl (by kernel_rfl) (by kernel_rfl) (by kernel_rfl) (fun _ _ _ h => h) (by rfl) ?_ ?_; rotate_left; focus (intro wS; go_simp; first | done | with_reducible rfl)))
          (try simp only [Act.put, List.setIfInBounds_toArray, List.set_cons_zero, List.set_cons_succ])
          refine wpAnyH_done (by kernel_rfl) ?_ _
          have RR := Lib.hid (R8.out.below B9.out)
          have RF := Lib.hid (D8.out.below B9.out)
          have BB := Lib.hid ((B.out.trans (Below.trans (show Below W.heap.size wr wr.drew from (Below.refl _ _).drew) B8.out)).trans (B9.out.mono (Nat.le_trans hsz B8.out.size)))
          clear hneq1 hneq2 HPP cb R8 D8 B8 B9 RD DD
          go_wp2_with fail
          go_roundw
          case rel => exact ⟨k + 1, T.1, T.2, by omega, by go_num, RR.out, RF.out, BB.out, W8.out, Nat.le_trans hl8 hl_⟩
          case measure => simp [intOf]; omega
      · have i1 : (k : Int) < m := by omega
        have i2 : ¬ (k : Int) < 300 := by omega
        have i3 : (300 : Int) ≤ k := by omega
        have i4 : decide ((k : Int) < 300) = false := by simpa using i3
        have hsz := B.out.size
        go_wp2_with fail
        refine (awake02_any wr).mono ?_
        rintro e w9 ⟨rfl, b9⟩
        go_wp2_with fail
        go_ret
        exact ⟨rfl, B.out.trans (b9.mono hsz)⟩
    · obtain rfl : k = m := by omega
      have hsz := B.out.size
      go_wp2_with fail
      refine (awake02_any wr).mono ?_
      rintro e w9 ⟨rfl, b9⟩
      go_wp2_with fail
      go_ret
      exact ⟨rfl, B.out.trans (b9.mono hsz)⟩
/- The law WireReads: its arguments, read; the law, walked. Conditions: the arguments are read as the row reads them. -/
theorem int_el {H : Type} {enc : TypeId × Value → H} {W : World} {sp : Nat → Bool} {hd : Bool} (cs : List Value) (n : Nat) (y : DataW H) (pl : List MemPlace) (_ : cs.length = 1) (h : DataW.trod enc Tryz.prog W 0 sp hd n 3 cs = some (y, pl)) :
    ∃ x : Int, iCells x = cs ∧ noSub W W.heap.size x ∧ True := by
  obtain ⟨k0, e0, _, _⟩ := DataW.trod_int Tryz.underlying3 h
  exact ⟨k0, e0.symm, trivial, trivial⟩
theorem bytes_b1 : Tryz.prog.bytesOf 5 = 1 := by kernel_rfl
theorem bytes_i8 : Tryz.prog.bytesOf 3 = 8 := by kernel_rfl
theorem walk_WireReads {H : Type} {enc : TypeId × Value → H} {d : DataW H} {p : List MemPlace} (W : World) (a0 : Option Addr) (n0 c0 : Nat) (xs : List Int) (e0 : xs.length = n0) (x0 : BytesIn W W.heap.size a0 xs) (w0 : BytesWf xs) (nil0 : a0 = none → c0 = 0) (h0 : n0 ≤ c0) (_ : c0 ≤ maxLen) (z0 : n0 * Tryz.prog.bytesOf 5 ≤ 140737488351232)
    (a1 : Option Addr) (n1 c1 : Nat) (h : DataW.Trod enc Tryz.prog W 0 (fun _ => true) true 36 (.slice a1 n1 c1) d p) (z1 : n1 * Tryz.prog.bytesOf 3 ≤ 140737488351232) :
    Calls Tryz.prog 14 #[.slice a0 n0 c0, .slice a1 n1 c1] W fun e w' => e = .returned (.bool true) ∧ Below W.heap.size W w' := by
  obtain ⟨ys, hl, hx, _, _, _⟩ := open_rows (fun _ => True) Tryz.underlying36 (by kernel_rfl) (by decide) int_el h
  rw [bytes_b1] at z0
  rw [bytes_i8] at z1
  exact walk_reads W a0 n0 c0 xs e0 x0 w0 nil0 h0 (by omega) a1 n1 c1 ys hl.symm hx (by omega)
end Go.Proofs.YtiggpcmikhojmaaGreatDoor
/- Eight rows of bytes in a block, as the law WireNumbers reads them. Conditions: they lie in memory as their calls made them. -/
namespace Go.Proofs.YtiggpcmikhojmaaGreatDoor
open Go.RowKit
set_option maxRecDepth 20000
/-- Rows of bytes in block rb, below B. -/
def RowsB (w : World) (B rb : Nat) (n : Nat) : Prop :=
  rb < B ∧ ∀ i, i < n → ∃ ao cap xs, w.cell? ⟨rb, i, none⟩ = some (.slice ao (List.length xs) cap) ∧ BytesIn w B ao xs ∧ BytesWf xs ∧ (ao = none → cap = 0) ∧ xs.length ≤ cap ∧ xs.length ≤ 1099511627776 ∧ ∀ q, ao = some q → q.spot = none
theorem RowsB.below {w w' : World} {B B' rb n : Nat} (h : RowsB w B rb n) (hb : Below B' w w') (hB : B ≤ B') : RowsB w' B rb n :=
  ⟨h.1, fun i hi => by
    obtain ⟨ao, cap, xs, h1, h2, h3⟩ := h.2 i hi
    exact ⟨ao, cap, xs, (hb.cell (p := ⟨rb, i, none⟩) (Nat.lt_of_lt_of_le h.1 hB)).trans h1, h2.below hb hB, h3⟩⟩
/-- A row of a call's own, as it is read. -/
theorem own_row {w : World} {B C : Nat} {a : Option Addr} {c : Nat} {L : List Int} (h : w.ownsRow B 5 1 (.slice a L.length c) L.length (L.map bv)) (hw : BytesWf L) (hl : L.length ≤ 1099511627776) (hC : w.heap.size ≤ C) :
    BytesIn w C a L ∧ BytesWf L ∧ (a = none → c = 0) ∧ L.length ≤ c ∧ L.length ≤ 1099511627776 ∧ ∀ q, a = some q → q.spot = none := by
  refine ⟨(own_bytes' h).mono hC, hw, ?_, ?_, hl, ?_⟩
  · rintro rfl
    rcases h.2 with ⟨h1, _⟩ | ⟨g, cap, cur, h1, _⟩
    · exact (Value.slice.inj h1).2.2
    · exact absurd (Value.slice.inj h1).1 (by simp)
  · rcases h.2 with ⟨h1, h2⟩ | ⟨g, cap, cur, h1, _, _, h4⟩
    · have := (Value.slice.inj h1).2.1
      omega
    · have := (Value.slice.inj h1).2.2
      omega
  · rintro q rfl
    rcases h.2 with ⟨h1, _⟩ | ⟨g, cap, cur, h1, _⟩
    · exact absurd (Value.slice.inj h1).1 (by simp)
    · have := (Value.slice.inj h1).1
      simp only [Option.some.injEq] at this
      rw [this]
theorem rowsB_of {w : World} {B C rb : Nat} {T : TypeId} {fz : Nat × Nat} {A : List (Value × List Int)} (hk : w.heap[rb]? = some (.cells (A.map (·.1)).toArray T fz)) (hR : Rs w C A) (hw : ∀ q ∈ A, (∃ a c, q.1 = .slice a q.2.length c) ∧ BytesWf q.2 ∧ q.2.length ≤ 1099511627776) (hB : w.heap.size ≤ B) : RowsB w B rb A.length := by
  refine ⟨Nat.lt_of_lt_of_le (Array.getElem?_eq_some_iff.1 hk).1 hB, fun i hi => ?_⟩
  have hm : A[i] ∈ A := List.getElem_mem hi
  obtain ⟨⟨a, c, hq⟩, h2, h3⟩ := hw _ hm
  have ho := hR.own _ hm
  rw [hq] at ho
  refine ⟨a, c, A[i].2, ?_, own_row ho h2 h3 hB⟩
  rw [Go.Joins.cell_of_block hk, ← hq]
  simp [hi]
theorem wfs_th {t : Th} (hw : ThWf t) {L1 L2 L3 L4 L5 L6 L7 L8 : List Int} (h1 : numB 8 t.number = L1) (h2 : textB t.text = L2) (h3 : valueB ⟨t.value.kind, t.value.num, t.value.text⟩ = L3) (h4 : valuesB t.values = L4) (h5 : factB ⟨t.fact.id, t.fact.ty, t.fact.args⟩ = L5) (h6 : commandB t.command.kind t.command.text t.command.num t.command.args = L6)
    (h7 : numB 8 t.reply.err ++ (numB 8 t.reply.num ++ (numB 4 t.reply.facts.length ++ ((t.reply.facts.flatMap fun f => factB f.plain) ++ valuesB t.reply.said))) = L7) (h8 : entryB ⟨t.entry.term, t.entry.kind, t.entry.session, t.entry.seq, t.entry.ck, t.entry.text, t.entry.args, t.entry.num, t.entry.vs⟩ = L8) :
    BytesWf L1 ∧ BytesWf L2 ∧ BytesWf L3 ∧ BytesWf L4 ∧ BytesWf L5 ∧ BytesWf L6 ∧ BytesWf L7 ∧ BytesWf L8 := by
  subst h1 h2 h3 h4 h5 h6 h7 h8
  exact ⟨numB_wf 8 _, textB_wf _, valueB_wf _ hw.value, valuesB_wf _ hw.values.all, factB_wf _ hw.fact.args.all, commandB_wf _ _ _ _ hw.command.kind hw.command.args.all, (numB_wf 8 _).app ((numB_wf 8 _).app ((numB_wf 4 _).app ((BytesWf.flat fun f hf => factB_wf _ (hw.reply.facts f hf).args.all).app (valuesB_wf _ hw.reply.said.all)))), entryB_wf _ hw.entry.kind hw.entry.ck hw.entry.args⟩
theorem bytes_take {w : World} {B : Nat} {ao : Option Addr} {xs : List Int} (h : BytesIn w B ao xs) (k : Nat) (hk : k ≤ xs.length) : BytesIn w B ao (xs.take k) := by
  rcases h with h | ⟨b, off, h1, h2, h3⟩
  · exact Or.inl (by rw [h]; simp)
  · refine Or.inr ⟨b, off, h1, h2, fun i hi => ?_⟩
    have hi' : i < k := by simpa [hk] using (show i < (xs.take k).length from hi)
    rw [h3 i (by omega)]
    simp [List.getD, hi']
theorem wf_take {xs : List Int} (h : BytesWf xs) (k : Nat) : BytesWf (xs.take k) := fun x hx => h x (List.mem_of_mem_take hx)
/-- WireReads on bytes that lie in memory, with numbers laid for the call. -/
theorem reads_lit (w : World) (B : Nat) (ao : Option Addr) (n cap : Nat) (xs : List Int) (hn : xs.length = n) (hx : BytesIn w B ao xs) (hB : B ≤ w.heap.size) (hw : BytesWf xs) (hnil : ao = none → cap = 0) (hcap : n ≤ cap) (hl : n ≤ 1099511627776) (ys : List Int) (m : Nat) (hm : ys.length = m) (hm2 : m ≤ 1000) (A : Array Value) (hA : A = (ys.map (Value.int .i64)).toArray) :
    Calls Tryz.prog 14 #[.slice ao n cap, .slice (some ⟨w.heap.size, 0, none⟩) m m] (w.alloc (.cells A 3)) fun e w' => e = .returned (.bool true) ∧ Below w.heap.size w w' := by
  subst hA hm
  have hb := (Below.refl w.heap.size w).alloc (Nat.le_refl _) (.cells (ys.map (Value.int .i64)).toArray 3)
  have hs : (w.alloc (.cells (ys.map (Value.int .i64)).toArray 3)).heap.size = w.heap.size + 1 := by simp
  have hk := heap_alloc_new w (.cells (ys.map (Value.int .i64)).toArray 3)
  refine (walk_reads _ ao n cap xs hn ((hx.below hb hB).mono (by omega)) hw hnil hcap (by omega) (some ⟨w.heap.size, 0, none⟩) ys.length ys.length ys rfl (Or.inr ⟨w.heap.size, 0, rfl, by omega, fun i x hx => ⟨fun j hj => ?_, trivial⟩⟩) (by omega)).mono fun e w' h => ⟨h.1, hb.trans (h.2.mono (by omega))⟩
  obtain rfl : j = 0 := by omega
  rw [Go.Joins.cell_of_block hk]
  simp [hx, iCells]
end Go.Proofs.YtiggpcmikhojmaaGreatDoor
