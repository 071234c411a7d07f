/- The bag of lists of lists: what it holds, kind by kind, and what is put in. Conditions: the bag is one of the call's own. -/
import Derived.Test.YtnfldkebjeigiaaGreatDoorGWireOne11
import Derived.Test.YtnfldkebjeigiaaGreatDoorGWireOne12
import Derived.Test.YtnfldkebjeigiaaGreatDoorGWireOne4
namespace Go.Proofs.YtnfldkebjeigiaaGreatDoor
open Go.RowKit
set_option maxRecDepth 20000
/-- The type of the lists of the i-th kind; 0: there are none of it. -/
def bagE (i : Nat) : TypeId := if i = 2 then 36 else if i = 6 then 25 else if i = 7 then 32 else if i = 19 then 75 else if i = 20 then 72 else 0
theorem bagE_ne (i : Nat) : bagE i ≠ 142 := by
  unfold bagE
  repeat' split
  all_goals decide
theorem bagE_inj {i j : Nat} (h : bagE i ≠ 0) (e : bagE i = bagE j) : i = j := by
  unfold bagE at h e
  repeat' split at h
  all_goals (repeat' split at e)
  all_goals first | omega | (exfalso; revert e; decide) | (exfalso; revert h; decide)
/-- Block bb is a bag whose lists hold these rows. -/
structure Bag (w : World) (B bb : Nat) (f : Nat → Value) (rows : Nat → List Value) : Prop where
  is : w.heap[bb]? = some (.cells ((List.range 29).map f).toArray 142 (0, 0))
  own : ∀ i, w.ownsRow B (bagE i) 1 (f i) (rows i).length (rows i)
  nil : ∀ i, rows i = [] → f i = .slice none 0 0
  unused : ∀ i, bagE i = 0 → rows i = []
  base : B ≤ bb
theorem Bag.lt {w : World} {B bb : Nat} {f : Nat → Value} {rows : Nat → List Value} (h : Bag w B bb f rows) : bb < w.heap.size := (Array.getElem?_eq_some_iff.1 h.is).1
theorem Bag.cell {w : World} {B bb : Nat} {f : Nat → Value} {rows : Nat → List Value} (h : Bag w B bb f rows) (i : Nat) (hi : i < 29) : w.cell? ⟨bb, i, none⟩ = some (f i) := by
  rw [Go.Joins.cell_of_block h.is i, List.getElem?_toArray, List.getElem?_map, List.getElem?_range hi]; rfl
theorem Bag.frozen {w : World} {B bb : Nat} {f : Nat → Value} {rows : Nat → List Value} (h : Bag w B bb f rows) (i : Nat) : w.frozen? ⟨bb, i, none⟩ = false := Go.Joins.unfrozen_of_block h.is i
theorem Bag.below {w w' : World} {B bb B' : Nat} {f : Nat → Value} {rows : Nat → List Value} (h : Bag w B bb f rows) (hb : Below B' w w') (hB : w.heap.size ≤ B') : Bag w' B bb f rows :=
  ⟨(hb.block bb (Nat.lt_of_lt_of_le h.lt hB)).trans h.is, fun i => own_below (h.own i) hb hB, h.nil, h.unused, h.base⟩
theorem Bag.apart {w : World} {B bb : Nat} {f : Nat → Value} {rows : Nat → List Value} (h : Bag w B bb f rows) (i : Nat) : (f i).ownBlock ≠ some bb := by
  intro hh
  rcases (h.own i).2 with ⟨h1, _⟩ | ⟨g, cap, cur, h1, _, g1, _⟩
  · rw [h1] at hh; simp [Value.ownBlock] at hh
  · rw [h1] at hh
    simp [Value.ownBlock] at hh
    subst hh
    rw [h.is] at g1
    simp only [Option.some.injEq, Obj.cells.injEq] at g1
    exact bagE_ne i g1.2.1.symm
theorem Bag.sep {w : World} {B bb : Nat} {f : Nat → Value} {rows : Nat → List Value} (h : Bag w B bb f rows) (i j : Nat) (hij : i ≠ j) : (f i).ownBlock = .none ∨ (f i).ownBlock ≠ (f j).ownBlock := by
  by_cases h0 : bagE i = 0
  · left; rw [h.nil i (h.unused i h0)]; rfl
  · exact own_apart (h.own i) (h.own j) (fun e => hij (bagE_inj h0 e))
def upd {α : Type} (rows : Nat → α) (i : Nat) (x : α) : Nat → α := fun j => if j = i then x else rows j
theorem upd_at {α : Type} (rows : Nat → α) (i : Nat) (x : α) : upd rows i x i = x := if_pos rfl
theorem upd_ne {α : Type} (rows : Nat → α) {i j : Nat} (x : α) (h : j ≠ i) : upd rows i x j = rows j := if_neg h
/-- A bag as it is made. -/
theorem Bag.made (w : World) : Bag (w.alloc (.cells ((List.range 29).map fun _ => Value.slice .none 0 0).toArray 142)) w.heap.size w.heap.size (fun _ => .slice .none 0 0) (fun _ => []) :=
  ⟨heap_alloc_new w _, fun _ => World.ownsRow_nil _ _ _ _, fun _ _ => rfl, fun _ _ => rfl, Nat.le_refl _⟩
/-- One list more of a kind. -/
theorem Bag.put {w w3 : World} {B bb : Nat} {f : Nat → Value} {rows : Nat → List Value} (h : Bag w B bb f rows) (i : Nat) (hi : i < 29) (h0 : bagE i ≠ 0) {v x : Value} (hown : w3.ownsRow B (bagE i) 1 v ((rows i).length + 1) (rows i ++ [x])) (hg : w.grownBy w3 (f i).ownBlock) :
    Bag (w3.setCell ⟨bb, i, .none⟩ v) B bb (upd f i v) (upd rows i (rows i ++ [x])) := by
  have hb3 : w3.heap[bb]? = some (.cells ((List.range 29).map f).toArray 142 (0, 0)) := (hg.block bb h.lt (fun e => h.apart i e.symm)).trans h.is
  have hvb : v.ownBlock ≠ some bb := by
    intro hh
    rcases hown.2 with ⟨h1, _⟩ | ⟨g, cap, cur, h1, _, g1, _⟩
    · rw [h1] at hh; simp [Value.ownBlock] at hh
    · rw [h1] at hh
      simp [Value.ownBlock] at hh
      subst hh
      rw [hb3] at g1
      simp only [Option.some.injEq, Obj.cells.injEq] at g1
      exact bagE_ne i g1.2.1.symm
  refine ⟨?_, fun j => ?_, fun j hj => ?_, fun j hj => ?_, h.base⟩
  · rw [Go.Joins.block_setCell hb3 v]
    congr 2
    rw [List.setIfInBounds_toArray, range_set]
    rfl
  · by_cases e : j = i
    · subst e
      rw [upd_at, upd_at, List.length_append]
      exact ownsRow_setCell_other hown hvb v
    · rw [upd_ne f v e, upd_ne rows _ e]
      exact ownsRow_setCell_other (World.ownsRow.kept (h.own j) hg (h.sep j i e)) (h.apart j) v
  · by_cases e : j = i
    · subst e
      rw [upd_at] at hj
      simp at hj
    · rw [upd_ne f v e]
      rw [upd_ne rows _ e] at hj
      exact h.nil j hj
  · by_cases e : j = i
    · subst e; exact absurd hj h0
    · rw [upd_ne rows _ e]; exact h.unused j hj
/-- Blocks that are no bag's are as they were. -/
def BagKeeps (w w' : World) : Prop := ∀ (b : Nat) (cs : Array Value) (T : TypeId) (fz : Nat × Nat), w.heap[b]? = some (Obj.cells cs T fz) → T ≠ 142 → (∀ i, T ≠ bagE i) → w'.heap[b]? = some (Obj.cells cs T fz)
theorem BagKeeps.refl (w : World) : BagKeeps w w := fun _ _ _ _ h _ _ => h
theorem BagKeeps.trans {w w' w'' : World} (h : BagKeeps w w') (h2 : BagKeeps w' w'') : BagKeeps w w'' := fun b cs T fz hb h3 h4 => h2 b cs T fz (h b cs T fz hb h3 h4) h3 h4
theorem BagKeeps.alloc (w : World) (o : Obj) : BagKeeps w (w.alloc o) := fun b cs T fz h _ _ => by
  rw [(World.grownBy_alloc w o .none).block b (Array.getElem?_eq_some_iff.1 h).1 (by simp)]; exact h
theorem Bag.keeps {w w3 : World} {B bb : Nat} {f : Nat → Value} {rows : Nat → List Value} (h : Bag w B bb f rows) (i : Nat) (hg : w.grownBy w3 (f i).ownBlock) (v : Value) : BagKeeps w (w3.setCell ⟨bb, i, .none⟩ v) := fun b cs T fz hb h3 h4 => by
  have hne : b ≠ bb := by
    intro e
    subst e
    rw [h.is] at hb
    simp only [Option.some.injEq, Obj.cells.injEq] at hb
    exact h3 hb.2.1.symm
  have hnb : (f i).ownBlock ≠ some b := by
    intro hh
    rcases (h.own i).2 with ⟨h1, _⟩ | ⟨g, cap, cur, h1, _, g1, _⟩
    · rw [h1] at hh; simp [Value.ownBlock] at hh
    · rw [h1] at hh
      simp [Value.ownBlock] at hh
      subst hh
      rw [hb] at g1
      simp only [Option.some.injEq, Obj.cells.injEq] at g1
      exact h4 i g1.2.1
  rw [heap_setCell_other _ _ _ _ hne, hg.block b (Array.getElem?_eq_some_iff.1 hb).1 (fun e => hnb e.symm)]
  exact hb
theorem info24 {P : Program} {e : TypeId} (h : (P.info? e).map (fun i => (i.zero, i.size, i.bytes)) = some (some (.slice .none 0 0), 1, 24)) : ∃ i0, P.info? e = some i0 ∧ i0.zero = some (.slice .none 0 0) ∧ i0.size = 1 ∧ i0.bytes = 24 := info_parts h
theorem putInts_bag (B bb : Nat) (f : Nat → Value) (rows : Nat → List Value) (a : Option Addr) (n c : Nat) (w : World) (hb : Bag w B bb f rows) (hB : B ≤ w.heap.size) (hm : (rows 2).length ≤ 1000000) :
    Calls Tryz.prog 196 #[.pointer (some ⟨bb, 0, none⟩), .slice a n c] w fun e w' => e = .returned (.tuple #[]) ∧ (∃ f', Bag w' B bb f' (upd rows 2 (rows 2 ++ [.slice a n c]))) ∧ Below B w w' ∧ BagKeeps w w' := by
  obtain ⟨i0, hi, hz0, hz1, hz2⟩ := info24 (show (Tryz.prog.info? 36).map (fun i => (i.zero, i.size, i.bytes)) = some (some (.slice none 0 0), 1, 24) by kernel_rfl)
  have c5 : w.cell? ⟨bb, 2, none⟩ = some (f 2) := hb.cell 2 (by decide)
  have HB := Lib.hid hb
  have hbl := hb.lt
  clear hb
  obtain ⟨v, hv⟩ : ∃ v, v = f 2 := ⟨_, rfl⟩
  obtain ⟨R, hR⟩ : ∃ R, R = rows 2 := ⟨_, rfl⟩
  rw [← hv] at c5
  rw [← hR] at hm
  have HO := Lib.hid (show w.ownsRow B 36 1 v R.length R by rw [hv, hR]; exact HB.out.own 2)
  have HV := Lib.hid hv
  have HR := Lib.hid hR
  clear hv hR
  go_enter Tryz.func196, Tryz.ntmps196
  go_wp2_with (at_builtin; refine wpList_append_own _ rfl (.tmp 8) (.tmp 10) 117 rfl B 36 i0 (.slice none 0 0) 1 24 Tryz.underlying117 hi hz0 hz1 hz2 rfl (by decide) v R.length R rfl (HO.out.alloc _) ⟨w.heap.size, 0, none⟩ 1 1 [.slice a n c] rfl rfl (cell_one_new _ _ _) (by simp [Value.oneCell']) (by unfold maxLen; omega) (by omega) (by simp; omega) ?_)
  intro v' w3 hown3 hg3 _
  obtain ⟨a3, c3, hv3, _, _, _⟩ := row_form hown3
  subst hv3
  have hga : w.grownBy w3 (f 2).ownBlock := by
    rw [← HV.out]
    exact (World.grownBy_alloc w _ _).trans hg3
  have hB2 := HB.out.put 2 (by decide) (by decide) (v := .slice a3 (R.length + 1) c3) (x := .slice a n c) (by rw [← HR.out]; exact hown3) hga
  have hb3 : w3.heap[bb]? = some (.cells ((List.range 29).map f).toArray 142 (0, 0)) := (hga.block bb hbl (fun e => HB.out.apart 2 e.symm)).trans HB.out.is
  have d5 : w3.cell? ⟨bb, 2, none⟩ = some v := by
    rw [Go.Joins.cell_of_block hb3 2, List.getElem?_toArray, List.getElem?_map, List.getElem?_range (by decide), HV.out]; rfl
  have f5 : w3.frozen? ⟨bb, 2, none⟩ = false := Go.Joins.unfrozen_of_block hb3 2
  have hbw : Below B w (w3.setCell ⟨bb, 2, none⟩ (.slice a3 (R.length + 1) c3)) := (((Below.refl B w).grown hga hB (fun k hk => ((HB.out.own 2).lt k hk).1)).setCell (p := ⟨bb, 2, none⟩) HB.out.base _)
  have H1 := Lib.hid hB2
  have H3 := Lib.hid hbw
  have H4 := Lib.hid (HB.out.keeps 2 hga (.slice a3 (R.length + 1) c3))
  clear hB2 hbw hown3 hg3 hb3 hga
  go_wp2_with fail
  go_end0
  exact ⟨rfl, ⟨_, H1.out⟩, H3.out, H4.out⟩
theorem putValues_bag (B bb : Nat) (f : Nat → Value) (rows : Nat → List Value) (a : Option Addr) (n c : Nat) (w : World) (hb : Bag w B bb f rows) (hB : B ≤ w.heap.size) (hm : (rows 6).length ≤ 1000000) :
    Calls Tryz.prog 198 #[.pointer (some ⟨bb, 0, none⟩), .slice a n c] w fun e w' => e = .returned (.tuple #[]) ∧ (∃ f', Bag w' B bb f' (upd rows 6 (rows 6 ++ [.slice a n c]))) ∧ Below B w w' ∧ BagKeeps w w' := by
  obtain ⟨i0, hi, hz0, hz1, hz2⟩ := info24 (show (Tryz.prog.info? 25).map (fun i => (i.zero, i.size, i.bytes)) = some (some (.slice none 0 0), 1, 24) by kernel_rfl)
  have c5 : w.cell? ⟨bb, 6, none⟩ = some (f 6) := hb.cell 6 (by decide)
  have HB := Lib.hid hb
  have hbl := hb.lt
  clear hb
  obtain ⟨v, hv⟩ : ∃ v, v = f 6 := ⟨_, rfl⟩
  obtain ⟨R, hR⟩ : ∃ R, R = rows 6 := ⟨_, rfl⟩
  rw [← hv] at c5
  rw [← hR] at hm
  have HO := Lib.hid (show w.ownsRow B 25 1 v R.length R by rw [hv, hR]; exact HB.out.own 6)
  have HV := Lib.hid hv
  have HR := Lib.hid hR
  clear hv hR
  go_enter Tryz.func198, Tryz.ntmps198
  go_wp2_with (at_builtin; refine wpList_append_own _ rfl (.tmp 8) (.tmp 10) 120 rfl B 25 i0 (.slice none 0 0) 1 24 Tryz.underlying120 hi hz0 hz1 hz2 rfl (by decide) v R.length R rfl (HO.out.alloc _) ⟨w.heap.size, 0, none⟩ 1 1 [.slice a n c] rfl rfl (cell_one_new _ _ _) (by simp [Value.oneCell']) (by unfold maxLen; omega) (by omega) (by simp; omega) ?_)
  intro v' w3 hown3 hg3 _
  obtain ⟨a3, c3, hv3, _, _, _⟩ := row_form hown3
  subst hv3
  have hga : w.grownBy w3 (f 6).ownBlock := by
    rw [← HV.out]
    exact (World.grownBy_alloc w _ _).trans hg3
  have hB2 := HB.out.put 6 (by decide) (by decide) (v := .slice a3 (R.length + 1) c3) (x := .slice a n c) (by rw [← HR.out]; exact hown3) hga
  have hb3 : w3.heap[bb]? = some (.cells ((List.range 29).map f).toArray 142 (0, 0)) := (hga.block bb hbl (fun e => HB.out.apart 6 e.symm)).trans HB.out.is
  have d5 : w3.cell? ⟨bb, 6, none⟩ = some v := by
    rw [Go.Joins.cell_of_block hb3 6, List.getElem?_toArray, List.getElem?_map, List.getElem?_range (by decide), HV.out]; rfl
  have f5 : w3.frozen? ⟨bb, 6, none⟩ = false := Go.Joins.unfrozen_of_block hb3 6
  have hbw : Below B w (w3.setCell ⟨bb, 6, none⟩ (.slice a3 (R.length + 1) c3)) := (((Below.refl B w).grown hga hB (fun k hk => ((HB.out.own 6).lt k hk).1)).setCell (p := ⟨bb, 6, none⟩) HB.out.base _)
  have H1 := Lib.hid hB2
  have H3 := Lib.hid hbw
  have H4 := Lib.hid (HB.out.keeps 6 hga (.slice a3 (R.length + 1) c3))
  clear hB2 hbw hown3 hg3 hb3 hga
  go_wp2_with fail
  go_end0
  exact ⟨rfl, ⟨_, H1.out⟩, H3.out, H4.out⟩
end Go.Proofs.YtnfldkebjeigiaaGreatDoor
/- Small laws for rows whose elements take several cells. No program. Conditions: as each says. -/
namespace Go.Proofs.YtnfldkebjeigiaaGreatDoor
open Go.RowKit
theorem run_make_rows {P : Program} (t e : TypeId) (z : Value) (size bytes : Nat) (ht : P.underlying t = some (.slice e)) (hinfo : (P.info? e).map (fun i => (i.zero, i.size, i.bytes)) = some (some z, size, bytes))
    (kl kc : IntKind) (n : Nat) (hbytes : bytes * n ≤ 281474976710656) (h63 : n ≤ 9223372036854775807) (w : World) :
    (Instr.makeSlice t (.int kl (n : Int)) (.int kc (n : Int))).run P w = .ok (.slice (some ⟨w.heap.size, 0, none⟩) n n) (w.alloc (.cells (madeCells z.cells (n * size)) e)) := by
  obtain ⟨i, hi, hzz⟩ := Option.map_eq_some_iff.1 hinfo
  simp only [Prod.mk.injEq] at hzz
  obtain ⟨hz, hs, hb⟩ := hzz
  have hb' : (i.bytes : Int) * (n : Int) ≤ 281474976710656 := by
    have h : ((i.bytes * n : Nat) : Int) ≤ 281474976710656 := by rw [hb]; omega
    rwa [Int.natCast_mul] at h
  have hr := run_make (P := P) w t e i z ht hi hz kl kc n n (by omega) (Int.le_refl _) hb' (by omega)
  simp only [Int.toNat_natCast, hs] at hr
  exact hr
theorem made_one (z : Array Value) (n : Nat) (h0 : 0 < z.size) (h : z.toList.all (fun u => u.oneCell') = true) : ∀ u ∈ (madeCells z n).toList, u.oneCell' = true := by
  intro u hu
  unfold madeCells at hu
  simp only [Array.toList_map, Array.toList_range, List.mem_map, List.mem_range] at hu
  obtain ⟨i, _, rfl⟩ := hu
  have hlt : i % z.size < z.size := Nat.mod_lt _ h0
  rw [getElem!_pos z (i % z.size) hlt]
  exact List.all_eq_true.1 h _ (by simp)
theorem one_set {l : List Value} {q : Nat} {u : Value} (h : ∀ x ∈ l, x.oneCell' = true) (hu : u.oneCell' = true) : ∀ x ∈ l.set q u, x.oneCell' = true := by
  intro x hx
  rcases List.mem_or_eq_of_mem_set hx with hx | hx
  · exact h x hx
  · rw [hx]; exact hu
theorem cells_new (w : World) (T : TypeId) (cs : List Value) : ∀ j u, cs[j]? = some u → (w.alloc (.cells cs.toArray T)).cell? ((⟨w.heap.size, 0, none⟩ : Addr).add j) = some u := by
  intro j u hu
  have hadd : (⟨w.heap.size, 0, none⟩ : Addr).add j = ⟨w.heap.size, j, none⟩ := by unfold Addr.add; split <;> simp_all
  rw [hadd, World.cell?_alloc_at _ _ _ _ rfl]
  simpa using hu
end Go.Proofs.YtnfldkebjeigiaaGreatDoor
/- The marks of ropewalkkit/lent.go: numbers, values, entries. Conditions: the places are not too great. -/
namespace Go.Proofs.YtnfldkebjeigiaaGreatDoor
open Go.RowKit
set_option maxRecDepth 20000
def mkI (k i : Nat) : List Value := [.int .i64 (markN k i)]
theorem mkI_len (k i : Nat) : (mkI k i).length = 1 := rfl
def mkV (k i : Nat) : List Value := [.int .u8 0, .int .i64 (markN k i), .string ByteArray.empty]
theorem mkV_len (k i : Nat) : (mkV k i).length = 3 := rfl
def mkE (k i : Nat) : List Value := [.int .i64 (markN k i), .int .u8 0, .int .i64 0, .int .i64 0, .int .u8 0, .string ByteArray.empty, .slice none 0 0, .int .i64 0, .slice none 0 0]
theorem mkE_len (k i : Nat) : (mkE k i).length = 9 := rfl
theorem markI_at (a b : Int) (k i : Nat) (ha : a = k) (hb : b = i) (hk : k ≤ 1000000) (hi : i ≤ 2000000000000) (w : World) :
    Calls Tryz.prog 103 #[.int .i64 a, .int .i64 b] w fun e w' => e = .returned (.int .i64 (markN k i)) ∧ Below w.heap.size w w' :=
  (mark_at a b k i ha hb hk hi w).mono fun _ _ ⟨h1, h2⟩ => ⟨h1, h2 ▸ Below.refl _ _⟩
theorem markV_at (a b : Int) (k i : Nat) (ha : a = k) (hb : b = i) (hk : k ≤ 1000000) (hi : i ≤ 2000000000000) (w : World) :
    Calls Tryz.prog 57 #[.int .i64 a, .int .i64 b] w fun e w' => e = .returned (.agg #[.int .u8 0, .int .i64 (markN k i), .string ByteArray.empty]) ∧ Below w.heap.size w w' := by
  have hm : 0 ≤ markN k i ∧ markN k i ≤ 4000000000000 := by unfold markN; omega
  have hc := mark_at a b k i ha hb hk hi
  generalize markN k i = m at hm hc
  have HC := Lib.hid hc
  clear hc ha hb
  go_enter Tryz.func57, Tryz.ntmps57
  go_wp2_with fail
  refine (HC.out _).mono ?_
  rintro e w' ⟨rfl, rfl⟩
  go_wp2_with fail
  exact bodyPost_ret (v := .agg #[.int .u8 0, .int .i64 m, .string ByteArray.empty]) (by simp [results, Tryz.results57, go_sem]; rfl) rfl ⟨rfl, (Below.refl _ _).alloc (Nat.le_refl _) _⟩
theorem markE_at (a b : Int) (k i : Nat) (ha : a = k) (hb : b = i) (hk : k ≤ 1000000) (hi : i ≤ 2000000000000) (w : World) :
    Calls Tryz.prog 178 #[.int .i64 a, .int .i64 b] w fun e w' => e = .returned (.agg #[.int .i64 (markN k i), .int .u8 0, .int .i64 0, .int .i64 0, .int .u8 0, .string ByteArray.empty, .slice none 0 0, .int .i64 0, .slice none 0 0]) ∧ Below w.heap.size w w' := by
  have hm : 0 ≤ markN k i ∧ markN k i ≤ 4000000000000 := by unfold markN; omega
  have hc := mark_at a b k i ha hb hk hi
  generalize markN k i = m at hm hc
  have HC := Lib.hid hc
  clear hc ha hb
  go_enter Tryz.func178, Tryz.ntmps178
  go_wp2_with fail
  refine (HC.out _).mono ?_
  rintro e w' ⟨rfl, rfl⟩
  go_wp2_with fail
  exact bodyPost_ret (v := .agg #[.int .i64 m, .int .u8 0, .int .i64 0, .int .i64 0, .int .u8 0, .string ByteArray.empty, .slice none 0 0, .int .i64 0, .slice none 0 0]) (by simp [results, Tryz.results178, go_sem]; rfl) rfl ⟨rfl, (Below.refl _ _).alloc (Nat.le_refl _) _⟩
theorem markI_is (a b : Int) (k i : Nat) (m : Int) (hm : markN k i = m) (ha : a = k) (hb : b = i) (hk : k ≤ 1000000) (hi : i ≤ 2000000000000) (w : World) :
    Calls Tryz.prog 103 #[.int .i64 a, .int .i64 b] w fun e w' => e = .returned (.int .i64 m) ∧ Below w.heap.size w w' := hm ▸ markI_at a b k i ha hb hk hi w
theorem markV_is (a b : Int) (k i : Nat) (m : Int) (hm : markN k i = m) (ha : a = k) (hb : b = i) (hk : k ≤ 1000000) (hi : i ≤ 2000000000000) (w : World) :
    Calls Tryz.prog 57 #[.int .i64 a, .int .i64 b] w fun e w' => e = .returned (.agg #[.int .u8 0, .int .i64 m, .string ByteArray.empty]) ∧ Below w.heap.size w w' := hm ▸ markV_at a b k i ha hb hk hi w
theorem markE_is (a b : Int) (k i : Nat) (m : Int) (hm : markN k i = m) (ha : a = k) (hb : b = i) (hk : k ≤ 1000000) (hi : i ≤ 2000000000000) (w : World) :
    Calls Tryz.prog 178 #[.int .i64 a, .int .i64 b] w fun e w' => e = .returned (.agg #[.int .i64 m, .int .u8 0, .int .i64 0, .int .i64 0, .int .u8 0, .string ByteArray.empty, .slice none 0 0, .int .i64 0, .slice none 0 0]) ∧ Below w.heap.size w w' := hm ▸ markE_at a b k i ha hb hk hi w
/-- Equal marks are equal values. -/
theorem eql_mark (t : TypeId) (h : t = 24) (n : Int) (w : World) : (binOp .eql t (.agg #[.int .u8 0, .int .i64 n, .string ByteArray.empty]) (.agg #[.int .u8 0, .int .i64 n, .string ByteArray.empty])).run Tryz.prog w = .ok (.bool true) w := by
  subst h
  simp [go_sem, Tryz.underlying24]
/-- Equal marks are the same entries. -/
theorem sameMarkE (n : Int) (w : World) : Calls Tryz.prog 42 #[.agg #[.int .i64 n, .int .u8 0, .int .i64 0, .int .i64 0, .int .u8 0, .string ByteArray.empty, .slice none 0 0, .int .i64 0, .slice none 0 0], .agg #[.int .i64 n, .int .u8 0, .int .i64 0, .int .i64 0, .int .u8 0, .string ByteArray.empty, .slice none 0 0, .int .i64 0, .slice none 0 0]] w fun e w' => e = .returned (.bool true) ∧ Below w.heap.size w w' :=
  sameE_any ⟨n, 0, 0, 0, 0, ByteArray.empty, none, [], 0, 0, none, [], 0⟩ ⟨n, 0, 0, 0, 0, ByteArray.empty, none, [], 0, 0, none, [], 0⟩ w w.heap.size rfl ⟨Or.inl rfl, Or.inl rfl⟩ ⟨Or.inl rfl, Or.inl rfl⟩ (Nat.le_refl _) (by simp) (by simp)
end Go.Proofs.YtnfldkebjeigiaaGreatDoor
