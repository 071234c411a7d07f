/- The bag of lists of lists: what it holds, kind by kind, and what is put in. Conditions: the bag is one of the call's own. -/
import Derived.Test.YtejgebpdipnhmaaGreatDoorGSnapNumbers14
import Derived.Test.YtejgebpdipnhmaaGreatDoorGSnapNumbers15
set_option linter.unusedVariables false
set_option linter.unusedSimpArgs false
namespace Go.Proofs.YtejgebpdipnhmaaGreatDoor
open Go.RowKit
set_option maxRecDepth 20000
/-- The type of the lists of the i-th kind; 0: there are none of it. -/
def bagE (i : Nat) : TypeId := if i = 2 then 22 else if i = 5 then 24 else if i = 22 then 49 else 0
theorem bagE_ne (i : Nat) : bagE i ≠ 103 := by
  unfold bagE
  repeat' split
  all_goals decide
theorem bagE_inj {i j : Nat} (h : bagE i ≠ 0) (e : bagE i = bagE j) : i = j := by
  unfold bagE at h e
  repeat' split at h
  all_goals (repeat' split at e)
  all_goals first | omega | (exfalso; revert e; decide) | (exfalso; revert h; decide)
/-- Block bb is a bag whose lists hold these rows. -/
structure Bag (w : World) (B bb : Nat) (f : Nat → Value) (rows : Nat → List Value) : Prop where
  is : w.heap[bb]? = some (.cells ((List.range 29).map f).toArray 103 (0, 0))
  own : ∀ i, w.ownsRow B (bagE i) 1 (f i) (rows i).length (rows i)
  nil : ∀ i, rows i = [] → f i = .slice none 0 0
  unused : ∀ i, bagE i = 0 → rows i = []
  base : B ≤ bb
theorem Bag.lt {w : World} {B bb : Nat} {f : Nat → Value} {rows : Nat → List Value} (h : Bag w B bb f rows) : bb < w.heap.size := (Array.getElem?_eq_some_iff.1 h.is).1
theorem Bag.cell {w : World} {B bb : Nat} {f : Nat → Value} {rows : Nat → List Value} (h : Bag w B bb f rows) (i : Nat) (hi : i < 29) : w.cell? ⟨bb, i, none⟩ = some (f i) := by
  rw [Go.Joins.cell_of_block h.is i, List.getElem?_toArray, List.getElem?_map, List.getElem?_range hi]; rfl
theorem Bag.below {w w' : World} {B bb B' : Nat} {f : Nat → Value} {rows : Nat → List Value} (h : Bag w B bb f rows) (hb : Below B' w w') (hB : w.heap.size ≤ B') : Bag w' B bb f rows :=
  ⟨(hb.block bb (Nat.lt_of_lt_of_le h.lt hB)).trans h.is, fun i => own_below (h.own i) hb hB, h.nil, h.unused, h.base⟩
theorem Bag.apart {w : World} {B bb : Nat} {f : Nat → Value} {rows : Nat → List Value} (h : Bag w B bb f rows) (i : Nat) : (f i).ownBlock ≠ some bb := by
  intro hh
  rcases (h.own i).2 with ⟨h1, _⟩ | ⟨g, cap, cur, h1, _, g1, _⟩
  · rw [h1] at hh; simp [Value.ownBlock] at hh
  · rw [h1] at hh
    simp [Value.ownBlock] at hh
    subst hh
    rw [h.is] at g1
    simp only [Option.some.injEq, Obj.cells.injEq] at g1
    exact bagE_ne i g1.2.1.symm
theorem Bag.sep {w : World} {B bb : Nat} {f : Nat → Value} {rows : Nat → List Value} (h : Bag w B bb f rows) (i j : Nat) (hij : i ≠ j) : (f i).ownBlock = .none ∨ (f i).ownBlock ≠ (f j).ownBlock := by
  by_cases h0 : bagE i = 0
  · left; rw [h.nil i (h.unused i h0)]; rfl
  · exact own_apart (h.own i) (h.own j) (fun e => hij (bagE_inj h0 e))
def upd {α : Type} (rows : Nat → α) (i : Nat) (x : α) : Nat → α := fun j => if j = i then x else rows j
theorem upd_at {α : Type} (rows : Nat → α) (i : Nat) (x : α) : upd rows i x i = x := if_pos rfl
theorem upd_ne {α : Type} (rows : Nat → α) {i j : Nat} (x : α) (h : j ≠ i) : upd rows i x j = rows j := if_neg h
/-- A bag as it is made. -/
theorem Bag.made (w : World) : Bag (w.alloc (.cells ((List.range 29).map fun _ => Value.slice .none 0 0).toArray 103)) w.heap.size w.heap.size (fun _ => .slice .none 0 0) (fun _ => []) :=
  ⟨heap_alloc_new w _, fun _ => World.ownsRow_nil _ _ _ _, fun _ _ => rfl, fun _ _ => rfl, Nat.le_refl _⟩
/-- One list more of a kind. -/
theorem Bag.put {w w3 : World} {B bb : Nat} {f : Nat → Value} {rows : Nat → List Value} (h : Bag w B bb f rows) (i : Nat) (hi : i < 29) (h0 : bagE i ≠ 0) {v x : Value} (hown : w3.ownsRow B (bagE i) 1 v ((rows i).length + 1) (rows i ++ [x])) (hg : w.grownBy w3 (f i).ownBlock) :
    Bag (w3.setCell ⟨bb, i, .none⟩ v) B bb (upd f i v) (upd rows i (rows i ++ [x])) := by
  have hb3 : w3.heap[bb]? = some (.cells ((List.range 29).map f).toArray 103 (0, 0)) := (hg.block bb h.lt (fun e => h.apart i e.symm)).trans h.is
  have hvb : v.ownBlock ≠ some bb := by
    intro hh
    rcases hown.2 with ⟨h1, _⟩ | ⟨g, cap, cur, h1, _, g1, _⟩
    · rw [h1] at hh; simp [Value.ownBlock] at hh
    · rw [h1] at hh
      simp [Value.ownBlock] at hh
      subst hh
      rw [hb3] at g1
      simp only [Option.some.injEq, Obj.cells.injEq] at g1
      exact bagE_ne i g1.2.1.symm
  refine ⟨?_, fun j => ?_, fun j hj => ?_, fun j hj => ?_, h.base⟩
  · rw [Go.Joins.block_setCell hb3 v]
    congr 2
    rw [List.setIfInBounds_toArray, range_set]
    rfl
  · by_cases e : j = i
    · subst e
      rw [upd_at, upd_at, List.length_append]
      exact ownsRow_setCell_other hown hvb v
    · rw [upd_ne f v e, upd_ne rows _ e]
      exact ownsRow_setCell_other (World.ownsRow.kept (h.own j) hg (h.sep j i e)) (h.apart j) v
  · by_cases e : j = i
    · subst e
      rw [upd_at] at hj
      simp at hj
    · rw [upd_ne f v e]
      rw [upd_ne rows _ e] at hj
      exact h.nil j hj
  · by_cases e : j = i
    · subst e; exact absurd hj h0
    · rw [upd_ne rows _ e]; exact h.unused j hj
/-- Blocks that are no bag's are as they were. -/
def BagKeeps (w w' : World) : Prop := ∀ (b : Nat) (cs : Array Value) (T : TypeId) (fz : Nat × Nat), w.heap[b]? = some (Obj.cells cs T fz) → T ≠ 103 → (∀ i, T ≠ bagE i) → w'.heap[b]? = some (Obj.cells cs T fz)
theorem BagKeeps.trans {w w' w'' : World} (h : BagKeeps w w') (h2 : BagKeeps w' w'') : BagKeeps w w'' := fun b cs T fz hb h3 h4 => h2 b cs T fz (h b cs T fz hb h3 h4) h3 h4
theorem BagKeeps.alloc (w : World) (o : Obj) : BagKeeps w (w.alloc o) := fun b cs T fz h _ _ => by
  rw [(World.grownBy_alloc w o .none).block b (Array.getElem?_eq_some_iff.1 h).1 (by simp)]; exact h
theorem Bag.keeps {w w3 : World} {B bb : Nat} {f : Nat → Value} {rows : Nat → List Value} (h : Bag w B bb f rows) (i : Nat) (hg : w.grownBy w3 (f i).ownBlock) (v : Value) : BagKeeps w (w3.setCell ⟨bb, i, .none⟩ v) := fun b cs T fz hb h3 h4 => by
  have hne : b ≠ bb := by
    intro e
    subst e
    rw [h.is] at hb
    simp only [Option.some.injEq, Obj.cells.injEq] at hb
    exact h3 hb.2.1.symm
  have hnb : (f i).ownBlock ≠ some b := by
    intro hh
    rcases (h.own i).2 with ⟨h1, _⟩ | ⟨g, cap, cur, h1, _, g1, _⟩
    · rw [h1] at hh; simp [Value.ownBlock] at hh
    · rw [h1] at hh
      simp [Value.ownBlock] at hh
      subst hh
      rw [hb] at g1
      simp only [Option.some.injEq, Obj.cells.injEq] at g1
      exact h4 i g1.2.1
  rw [heap_setCell_other _ _ _ _ hne, hg.block b (Array.getElem?_eq_some_iff.1 hb).1 (fun e => hnb e.symm)]
  exact hb
theorem info24 {P : Program} {e : TypeId} (h : (P.info? e).map (fun i => (i.zero, i.size, i.bytes)) = some (some (.slice .none 0 0), 1, 24)) : ∃ i0, P.info? e = some i0 ∧ i0.zero = some (.slice .none 0 0) ∧ i0.size = 1 ∧ i0.bytes = 24 := info_parts h
theorem putInts_bag (B bb : Nat) (f : Nat → Value) (rows : Nat → List Value) (a : Option Addr) (n c : Nat) (w : World) (hb : Bag w B bb f rows) (hB : B ≤ w.heap.size) (hm : (rows 2).length ≤ 1000000) :
    Calls Tryz.prog 173 #[.pointer (some ⟨bb, 0, none⟩), .slice a n c] w fun e w' => e = .returned (.tuple #[]) ∧ (∃ f', Bag w' B bb f' (upd rows 2 (rows 2 ++ [.slice a n c]))) ∧ Below B w w' ∧ BagKeeps w w' := by
  obtain ⟨i0, hi, hz0, hz1, hz2⟩ := info24 (show (Tryz.prog.info? 22).map (fun i => (i.zero, i.size, i.bytes)) = some (some (.slice none 0 0), 1, 24) by kernel_rfl)
  have c5 : w.cell? ⟨bb, 2, none⟩ = some (f 2) := hb.cell 2 (by decide)
  have HB := Lib.hid hb
  have hbl := hb.lt
  clear hb
  obtain ⟨v, hv⟩ : ∃ v, v = f 2 := ⟨_, rfl⟩
  obtain ⟨R, hR⟩ : ∃ R, R = rows 2 := ⟨_, rfl⟩
  rw [← hv] at c5
  rw [← hR] at hm
  have HO := Lib.hid (show w.ownsRow B 22 1 v R.length R by rw [hv, hR]; exact HB.out.own 2)
  have HV := Lib.hid hv
  have HR := Lib.hid hR
  clear hv hR
  go_enter Tryz.func173, Tryz.ntmps173
  go_wp2_with (at_builtin; refine wpList_append_own _ rfl (.tmp 8) (.tmp 10) 77 rfl B 22 i0 (.slice none 0 0) 1 24 Tryz.underlying77 hi hz0 hz1 hz2 rfl (by decide) v R.length R rfl (HO.out.alloc _) ⟨w.heap.size, 0, none⟩ 1 1 [.slice a n c] rfl rfl (cell_one_new _ _ _) (by simp [Value.oneCell']) (by unfold maxLen; omega) (by omega) (by simp; omega) ?_)
  intro v' w3 hown3 hg3 _
  obtain ⟨a3, c3, hv3, _, _, _⟩ := row_form hown3
  subst hv3
  have hga : w.grownBy w3 (f 2).ownBlock := by
    rw [← HV.out]
    exact (World.grownBy_alloc w _ _).trans hg3
  have hB2 := HB.out.put 2 (by decide) (by decide) (v := .slice a3 (R.length + 1) c3) (x := .slice a n c) (by rw [← HR.out]; exact hown3) hga
  have hb3 : w3.heap[bb]? = some (.cells ((List.range 29).map f).toArray 103 (0, 0)) := (hga.block bb hbl (fun e => HB.out.apart 2 e.symm)).trans HB.out.is
  have d5 : w3.cell? ⟨bb, 2, none⟩ = some v := by
    rw [Go.Joins.cell_of_block hb3 2, List.getElem?_toArray, List.getElem?_map, List.getElem?_range (by decide), HV.out]; rfl
  have f5 : w3.frozen? ⟨bb, 2, none⟩ = false := Go.Joins.unfrozen_of_block hb3 2
  have hbw : Below B w (w3.setCell ⟨bb, 2, none⟩ (.slice a3 (R.length + 1) c3)) := (((Below.refl B w).grown hga hB (fun k hk => ((HB.out.own 2).lt k hk).1)).setCell (p := ⟨bb, 2, none⟩) HB.out.base _)
  have H1 := Lib.hid hB2
  have H3 := Lib.hid hbw
  have H4 := Lib.hid (HB.out.keeps 2 hga (.slice a3 (R.length + 1) c3))
  clear hB2 hbw hown3 hg3 hb3 hga
  go_wp2_with fail
  go_end0
  exact ⟨rfl, ⟨_, H1.out⟩, H3.out, H4.out⟩
theorem putBytes_bag (B bb : Nat) (f : Nat → Value) (rows : Nat → List Value) (a : Option Addr) (n c : Nat) (w : World) (hb : Bag w B bb f rows) (hB : B ≤ w.heap.size) (hm : (rows 5).length ≤ 1000000) :
    Calls Tryz.prog 47 #[.pointer (some ⟨bb, 0, none⟩), .slice a n c] w fun e w' => e = .returned (.tuple #[]) ∧ (∃ f', Bag w' B bb f' (upd rows 5 (rows 5 ++ [.slice a n c]))) ∧ Below B w w' ∧ BagKeeps w w' := by
  obtain ⟨i0, hi, hz0, hz1, hz2⟩ := info24 (show (Tryz.prog.info? 24).map (fun i => (i.zero, i.size, i.bytes)) = some (some (.slice none 0 0), 1, 24) by kernel_rfl)
  have c5 : w.cell? ⟨bb, 5, none⟩ = some (f 5) := hb.cell 5 (by decide)
  have HB := Lib.hid hb
  have hbl := hb.lt
  clear hb
  obtain ⟨v, hv⟩ : ∃ v, v = f 5 := ⟨_, rfl⟩
  obtain ⟨R, hR⟩ : ∃ R, R = rows 5 := ⟨_, rfl⟩
  rw [← hv] at c5
  rw [← hR] at hm
  have HO := Lib.hid (show w.ownsRow B 24 1 v R.length R by rw [hv, hR]; exact HB.out.own 5)
  have HV := Lib.hid hv
  have HR := Lib.hid hR
  clear hv hR
  go_enter Tryz.func47, Tryz.ntmps47
  go_wp2_with (at_builtin; refine wpList_append_own _ rfl (.tmp 8) (.tmp 10) 41 rfl B 24 i0 (.slice none 0 0) 1 24 Tryz.underlying41 hi hz0 hz1 hz2 rfl (by decide) v R.length R rfl (HO.out.alloc _) ⟨w.heap.size, 0, none⟩ 1 1 [.slice a n c] rfl rfl (cell_one_new _ _ _) (by simp [Value.oneCell']) (by unfold maxLen; omega) (by omega) (by simp; omega) ?_)
  intro v' w3 hown3 hg3 _
  obtain ⟨a3, c3, hv3, _, _, _⟩ := row_form hown3
  subst hv3
  have hga : w.grownBy w3 (f 5).ownBlock := by
    rw [← HV.out]
    exact (World.grownBy_alloc w _ _).trans hg3
  have hB2 := HB.out.put 5 (by decide) (by decide) (v := .slice a3 (R.length + 1) c3) (x := .slice a n c) (by rw [← HR.out]; exact hown3) hga
  have hb3 : w3.heap[bb]? = some (.cells ((List.range 29).map f).toArray 103 (0, 0)) := (hga.block bb hbl (fun e => HB.out.apart 5 e.symm)).trans HB.out.is
  have d5 : w3.cell? ⟨bb, 5, none⟩ = some v := by
    rw [Go.Joins.cell_of_block hb3 5, List.getElem?_toArray, List.getElem?_map, List.getElem?_range (by decide), HV.out]; rfl
  have f5 : w3.frozen? ⟨bb, 5, none⟩ = false := Go.Joins.unfrozen_of_block hb3 5
  have hbw : Below B w (w3.setCell ⟨bb, 5, none⟩ (.slice a3 (R.length + 1) c3)) := (((Below.refl B w).grown hga hB (fun k hk => ((HB.out.own 5).lt k hk).1)).setCell (p := ⟨bb, 5, none⟩) HB.out.base _)
  have H1 := Lib.hid hB2
  have H3 := Lib.hid hbw
  have H4 := Lib.hid (HB.out.keeps 5 hga (.slice a3 (R.length + 1) c3))
  clear hB2 hbw hown3 hg3 hb3 hga
  go_wp2_with fail
  go_end0
  exact ⟨rfl, ⟨_, H1.out⟩, H3.out, H4.out⟩
end Go.Proofs.YtejgebpdipnhmaaGreatDoor
