/- Parts that are lent, one by one, and the bytes that are wanted of them: what is kept from one to the next. No program. Conditions: as each says. -/
import Derived.Test.YtpjaghaapmbanaaDoorMid
import Derived.Test.YtpjaghaapmbanaaDoorWJoin2
import Derived.Test.YtpjaghaapmbanaaDoorLentBytes
namespace Go.Proofs.YtpjaghaapmbanaaDoor
open Go.RowKit
set_option maxRecDepth 20000

/-- A part among the arguments. -/
def PtArg (p : Pt) : Prop := BytesWf p.data ∧ (p.ao = none → p.cap = 0) ∧ p.data.length ≤ p.cap
/-- A part that was lent: in a block of its own, with the marks behind it. -/
def PtLent (w : World) (B : Nat) (q : Pt) : Prop := ∃ g, q.ao = some ⟨g, 0, none⟩ ∧ q.cap = q.data.length + 12 ∧ LentB w B g q.data
structure LentAt (wr W : World) (ps : List Pt) (k : Nat) (vin vw : Value) (qs : List Pt) : Prop where
  len : qs.length = k
  data : qs.map Pt.data = (ps.take k).map Pt.data
  row : wr.ownsRow W.heap.size 23 1 vin k (qs.flatMap ptCells)
  want : wr.ownsRow W.heap.size 5 1 vw ((ps.take k).flatMap Pt.data).length (((ps.take k).flatMap Pt.data).map bv)
  lent : ∀ q ∈ qs, PtLent wr W.heap.size q
  apart : qs.Pairwise fun q r => q.ao ≠ r.ao
  sep : ∀ q ∈ qs, ∀ g, q.ao = some ⟨g, 0, none⟩ → vw.ownBlock ≠ some g
  bel : Below W.heap.size W wr
theorem LentB.le {w : World} {B B' g : Nat} {xs : List Int} (h : LentB w B g xs) (hB : B' ≤ B) : LentB w B' g xs := Go.Joins.ownsRow_le h hB
theorem LentAt.start (W : World) (ps : List Pt) : LentAt W W ps 0 (.slice none 0 0) (.slice none 0 0) [] :=
  ⟨rfl, rfl, World.ownsRow_nil _ _ _ _, World.ownsRow_nil _ _ _ _, (by intro q hq; cases hq), List.Pairwise.nil, (by intro q hq; cases hq), Below.refl _ _⟩
theorem take_snoc {α : Type} {ps : List α} {k : Nat} {p : α} (hp : ps[k]? = some p) : ps.take (k + 1) = ps.take k ++ [p] := by
  rw [List.take_add_one, hp]; rfl
theorem LentAt.step {wr W w1 w2 w3 : World} {ps qs : List Pt} {k g m n : Nat} {vin vw vin' vw' : Value} {p : Pt} (hL : LentAt wr W ps k vin vw qs) (hp : ps[k]? = some p) (hg0 : wr.heap.size ≤ g) (hl : LentB w1 wr.heap.size g p.data) (hb : Below wr.heap.size wr w1) (o : Obj)
    (h2 : w2.ownsRow W.heap.size 23 1 vin' (k + 1) (qs.flatMap ptCells ++ [(⟨some ⟨g, 0, none⟩, p.data.length + 12, p.data⟩ : Pt)].flatMap ptCells)) (hg2 : (w1.alloc o).grownBy w2 vin.ownBlock)
    (hm : ((ps.take k).flatMap Pt.data).length = m) (hn : p.data.length = n) (h3 : w3.ownsRow W.heap.size 5 1 vw' (m + n) (((ps.take k).flatMap Pt.data ++ p.data).map bv)) (hg3 : w2.grownBy w3 vw.ownBlock) (hat : vw'.ownBlock = vw.ownBlock ∨ vw'.ownBlock = some w2.heap.size) :
    LentAt w3 W ps (k + 1) vin' vw' (qs ++ [⟨some ⟨g, 0, none⟩, p.data.length + 12, p.data⟩]) := by
  have hsW := hL.bel.size
  have hs1 := hb.size
  have lt1 := ownsRow_ltB hl
  have rowA := (own_below hL.row hb (Nat.le_refl _)).alloc o
  have wantA := (own_below hL.want hb (Nat.le_refl _)).alloc o
  have newA := (LentB.le hl hsW).alloc o
  have lentA : ∀ q ∈ qs, PtLent (w1.alloc o) W.heap.size q := fun q hq => by
    obtain ⟨g', e1, e2, e3⟩ := hL.lent q hq
    exact ⟨g', e1, e2, (own_below e3 hb (Nat.le_refl _)).alloc o⟩
  have want2 := wantA.kept hg2 (own_apart wantA rowA (by decide))
  have new2 := newA.kept hg2 (own_apart newA rowA (by decide))
  have lent2 : ∀ q ∈ qs, PtLent w2 W.heap.size q := fun q hq => by
    obtain ⟨g', e1, e2, e3⟩ := lentA q hq
    exact ⟨g', e1, e2, World.ownsRow.kept e3 hg2 (own_apart e3 rowA (by decide))⟩
  have row3 := h2.kept hg3 (own_apart h2 want2 (by decide))
  have hne : vw.ownBlock ≠ some g := fun e => by have := (hL.want.lt g e).2; omega
  have hbA : Below W.heap.size W (w1.alloc o) := (hL.bel.trans (hb.mono hsW)).alloc (by omega) o
  have hb2 := hbA.grown hg2 hbA.size (fun b e => (hL.row.lt b e).1)
  refine ⟨by simp [hL.len], ?_, ?_, ?_, ?_, ?_, ?_, hb2.grown hg3 hb2.size (fun b e => (hL.want.lt b e).1)⟩
  · rw [List.map_append, hL.data, take_snoc hp, List.map_append]; rfl
  · rw [List.flatMap_append]; exact row3
  · rw [take_snoc hp, List.flatMap_append]
    have e : [p].flatMap Pt.data = p.data := by simp
    rw [e, List.length_append, hm, hn]
    exact h3
  · intro q hq
    rcases List.mem_append.1 hq with hq | hq
    · obtain ⟨g', e1, e2, e3⟩ := lent2 q hq
      exact ⟨g', e1, e2, World.ownsRow.kept e3 hg3 (Or.inr fun e => hL.sep q hq g' e1 (by rw [← e]; rfl))⟩
    · rw [List.mem_singleton.1 hq]
      exact ⟨g, rfl, rfl, World.ownsRow.kept new2 hg3 (Or.inr fun e => hne (by rw [← e]; rfl))⟩
  · rw [List.pairwise_append]
    refine ⟨hL.apart, List.pairwise_singleton _ _, fun q hq r hr => ?_⟩
    rw [List.mem_singleton.1 hr]
    obtain ⟨g', e1, e2, e3⟩ := hL.lent q hq
    have := ownsRow_ltB e3
    rw [e1]
    intro e
    cases e
    omega
  · intro q hq g' he
    rcases List.mem_append.1 hq with hq | hq
    · rcases hat with h | h
      · rw [h]; exact hL.sep q hq g' he
      · rw [h]
        obtain ⟨g2, e1, e2, e3⟩ := lent2 q hq
        have := ownsRow_ltB e3
        rw [e1] at he
        cases he
        intro e
        cases e
        omega
    · rw [List.mem_singleton.1 hq] at he
      cases he
      rcases hat with h | h
      · rw [h]; exact hne
      · rw [h]
        have := ownsRow_ltB new2
        intro e
        cases e
        omega
theorem LentAt.wantAt {wr W w1 w2 : World} {ps qs : List Pt} {k m : Nat} {vin vw : Value} (hL : LentAt wr W ps k vin vw qs) (hm : ((ps.take k).flatMap Pt.data).length = m) (hb : Below wr.heap.size wr w1) (o : Obj) (hg2 : (w1.alloc o).grownBy w2 vin.ownBlock) : w2.ownsRow W.heap.size 5 1 vw m (((ps.take k).flatMap Pt.data).map bv) := by
  have rowA := (own_below hL.row hb (Nat.le_refl _)).alloc o
  have wantA := (own_below hL.want hb (Nat.le_refl _)).alloc o
  subst hm
  exact wantA.kept hg2 (own_apart wantA rowA (by decide))
theorem PtLent.sub {w : World} {B : Nat} {q : Pt} (h : PtLent w B q) : ptSub w w.heap.size q := by
  obtain ⟨g, e1, _, e3⟩ := h
  unfold ptSub
  rw [e1]
  exact e3.bytes.mono (ownsRow_ltB e3)
theorem data_mem {ps qs : List Pt} (h : qs.map Pt.data = ps.map Pt.data) {q : Pt} (hq : q ∈ qs) : ∃ p ∈ ps, p.data = q.data := by
  have h1 : q.data ∈ ps.map Pt.data := h ▸ List.mem_map_of_mem hq
  exact List.mem_map.1 h1
/-- What is kept while lent parts are written over, one by one. -/
structure OverAt (w5 wr W : World) (T k n m : Nat) (vin vw : Value) (qs : List Pt) (L : List Int) : Prop where
  row : wr.ownsRow W.heap.size 23 1 vin n (qs.flatMap ptCells)
  want : wr.ownsRow W.heap.size 5 1 vw m (L.map bv)
  lent : ∀ i q, k ≤ i → qs[i]? = some q → PtLent wr W.heap.size q
  mid : Mid W.heap.size T w5 wr
theorem pair_ne {qs : List Pt} (h : qs.Pairwise fun q r => q.ao ≠ r.ao) {i j : Nat} {q r : Pt} (hij : i < j) (hq : qs[i]? = some q) (hr : qs[j]? = some r) : q.ao ≠ r.ao := by
  rw [List.pairwise_iff_getElem] at h
  obtain ⟨hi, rfl⟩ := List.getElem?_eq_some_iff.1 hq
  obtain ⟨hj, rfl⟩ := List.getElem?_eq_some_iff.1 hr
  exact h i j hi hj hij
theorem OverAt.below {w5 wr W w6 : World} {T k n m : Nat} {vin vw : Value} {qs : List Pt} {L : List Int} (h : OverAt w5 wr W T k n m vin vw qs L) (hb : Below wr.heap.size wr w6) (hW : W.heap.size ≤ w5.heap.size) : OverAt w5 w6 W T k n m vin vw qs L :=
  ⟨own_below h.row hb (Nat.le_refl _), own_below h.want hb (Nat.le_refl _), fun i q hi hq => by
    obtain ⟨g', e1, e2, e3⟩ := h.lent i q hi hq
    exact ⟨g', e1, e2, own_below e3 hb (Nat.le_refl _)⟩, h.mid.trans_below hb (Nat.le_trans hW h.mid.below.size)⟩
theorem OverAt.over {w5 wr W w7 : World} {T k n m g : Nat} {vin vw : Value} {qs : List Pt} {L : List Int} {q : Pt} (h : OverAt w5 wr W T k n m vin vw qs L) (hq : qs[k]? = some q) (ha : q.ao = some ⟨g, 0, none⟩) (hg : wr.grownBy w7 (some g)) (hW : W.heap.size ≤ w5.heap.size) (hT : g < T) (hap : qs.Pairwise fun q r => q.ao ≠ r.ao) (hsep : vw.ownBlock ≠ some g) : OverAt w5 w7 W T (k + 1) n m vin vw qs L := by
  obtain ⟨g', e1, e2, e3⟩ := h.lent k q (Nat.le_refl _) hq
  rw [ha] at e1
  cases e1
  refine ⟨World.ownsRow.kept h.row hg (own_apart h.row e3 (by decide)), World.ownsRow.kept h.want hg (Or.inr hsep), fun i r hi hr => ?_, h.mid.grown hg (Nat.le_trans hW h.mid.below.size) (own_belowB e3 g rfl) hT⟩
  obtain ⟨g2, f1, f2, f3⟩ := h.lent i r (by omega) hr
  refine ⟨g2, f1, f2, World.ownsRow.kept f3 hg (Or.inr fun e => ?_)⟩
  have := pair_ne hap (show k < i by omega) hq hr
  rw [ha, f1] at this
  simp [Value.ownBlock] at e
  exact this (by rw [e])
theorem flat_data {ps qs : List Pt} (h : qs.map Pt.data = ps.map Pt.data) : qs.flatMap Pt.data = ps.flatMap Pt.data := by
  rw [List.flatMap_def, List.flatMap_def, h]
theorem take_flat_le (ps : List Pt) (k : Nat) {p : Pt} (hp : ps[k]? = some p) : ((ps.take k).flatMap Pt.data).length + p.data.length = ((ps.take (k + 1)).flatMap Pt.data).length := by
  rw [take_snoc hp, List.flatMap_append, List.length_append]; simp
end Go.Proofs.YtpjaghaapmbanaaDoor
