/- The thing that the law WireNumbers writes and reads. Conditions: none. -/
import Derived.Test.YtiggpcmikhojmaaGreatDoorGWireNumbers8
import Derived.Test.YtiggpcmikhojmaaGreatDoorGWireNumbers7
import Derived.Test.YtiggpcmikhojmaaGreatDoorGWireNumbers15
set_option linter.unusedVariables false
namespace Go.Proofs.YtiggpcmikhojmaaGreatDoor
open Go.RowKit
set_option maxRecDepth 20000
def fullVs : List Va := [⟨1, -7, ⟨#[]⟩⟩, ⟨2, 0, ⟨#[98, 101, 101]⟩⟩, ⟨1, 9223372036854775807, ⟨#[]⟩⟩, ⟨2, 0, ⟨#[]⟩⟩]
def fullFa (lb : Nat) : Fa := ⟨1099511627776, 31, some ⟨lb, 0, none⟩, fullVs, 4⟩
def fullTh (lb fb ib : Nat) : Th :=
  ⟨-9223372036854775808, ⟨#[114, 111, 112, 101]⟩, ⟨2, 0, ⟨#[98, 101, 101]⟩⟩, some ⟨lb, 0, none⟩, fullVs, 4, fullFa lb,
    ⟨2, ⟨#[104, 105, 118, 101]⟩, some ⟨lb, 0, none⟩, fullVs.take 2, 4, -1⟩,
    ⟨202, 9, some ⟨fb, 0, none⟩, [fullFa lb, ⟨2, 0, none, [], 0⟩], 2, some ⟨lb, 3, none⟩, fullVs.drop 1, 3⟩,
    ⟨258, 3, 3, 4, 2, ⟨#[104, 105, 118, 101]⟩, some ⟨lb, 0, none⟩, fullVs.take 2, 4, -1, some ⟨ib, 0, none⟩, [1, 2, 9], 3⟩⟩
def lArr : Array Value := (fullVs.flatMap vaCells).toArray
theorem vals_in {w : World} {B g k : Nat} {xs : List Va} {A : Array Value} {T : TypeId} {fz : Nat × Nat} (hk : w.heap[g]? = some (.cells A T fz)) (hg : g < B) (h : ∀ (i : Nat) (x : Va), xs[i]? = some x → ∀ j, j < 3 → A[k + i * 3 + j]? = (vaCells x)[j]?) : ValsIn w B (some ⟨g, k, none⟩) xs :=
  Or.inr ⟨g, k, rfl, hg, fun i x hx => ⟨fun j hj => by rw [Go.Joins.cell_of_block hk]; exact h i x hx j hj, trivial⟩⟩
theorem full_in {w : World} {B lb fb ib : Nat} (hl : w.heap[lb]? = some (.cells lArr 24 (0, 0))) (hf : w.heap[fb]? = some (.cells #[.int .i64 1099511627776, .int .i64 31, .slice (some ⟨lb, 0, none⟩) 4 4, .int .i64 2, .int .i64 0, .slice none 0 0] 27 (0, 0))) (hi' : w.heap[ib]? = some (.cells #[.int .i64 1, .int .i64 2, .int .i64 9] 3 (0, 0))) (hlB : lb < B) (hfB : fb < B) (hiB : ib < B) : ThIn w B (fullTh lb fb ib) := by
  have hv : ValsIn w B (some ⟨lb, 0, none⟩) fullVs := vals_in hl hlB fun i x hx j hj => by
    have hi : i < 4 := (List.getElem?_eq_some_iff.1 hx).1
    obtain rfl | rfl | rfl | rfl : i = 0 ∨ i = 1 ∨ i = 2 ∨ i = 3 := by omega
    all_goals obtain rfl := Option.some.inj hx
    all_goals obtain rfl | rfl | rfl : j = 0 ∨ j = 1 ∨ j = 2 := by omega
    all_goals rfl
  have hv2 : ValsIn w B (some ⟨lb, 0, none⟩) (fullVs.take 2) := vals_in hl hlB fun i x hx j hj => by
    have hi : i < 2 := (List.getElem?_eq_some_iff.1 hx).1
    obtain rfl | rfl : i = 0 ∨ i = 1 := by omega
    all_goals obtain rfl := Option.some.inj hx
    all_goals obtain rfl | rfl | rfl : j = 0 ∨ j = 1 ∨ j = 2 := by omega
    all_goals rfl
  have hv3 : ValsIn w B (some ⟨lb, 3, none⟩) (fullVs.drop 1) := vals_in hl hlB fun i x hx j hj => by
    have hi : i < 3 := (List.getElem?_eq_some_iff.1 hx).1
    obtain rfl | rfl | rfl : i = 0 ∨ i = 1 ∨ i = 2 := by omega
    all_goals obtain rfl := Option.some.inj hx
    all_goals obtain rfl | rfl | rfl : j = 0 ∨ j = 1 ∨ j = 2 := by omega
    all_goals rfl
  refine ⟨hv, hv, hv2, ⟨Or.inr ⟨fb, 0, rfl, hfB, fun i x hx => ?_⟩, hv3⟩, ⟨hv2, Or.inr ⟨ib, 0, rfl, hiB, fun i x hx => ?_⟩⟩⟩
  · have hi : i < 2 := (List.getElem?_eq_some_iff.1 hx).1
    obtain rfl | rfl : i = 0 ∨ i = 1 := by omega
    · obtain rfl := Option.some.inj hx
      refine ⟨fun j hj => ?_, hv⟩
      rw [Go.Joins.cell_of_block hf]
      obtain rfl | rfl | rfl : j = 0 ∨ j = 1 ∨ j = 2 := by omega
      all_goals rfl
    · obtain rfl := Option.some.inj hx
      refine ⟨fun j hj => ?_, Or.inl rfl⟩
      rw [Go.Joins.cell_of_block hf]
      obtain rfl | rfl | rfl : j = 0 ∨ j = 1 ∨ j = 2 := by omega
      all_goals rfl
  · have hi : i < 3 := (List.getElem?_eq_some_iff.1 hx).1
    obtain rfl | rfl | rfl : i = 0 ∨ i = 1 ∨ i = 2 := by omega
    all_goals obtain rfl := Option.some.inj hx
    all_goals refine ⟨fun j hj => ?_, trivial⟩
    all_goals rw [Go.Joins.cell_of_block hi']
    all_goals obtain rfl : j = 0 := by omega
    all_goals rfl
theorem full_wf (lb fb ib : Nat) : ThWf (fullTh lb fb ib) := by
  have hA : ∀ v ∈ fullVs, VaArg v := by
    intro v hv
    simp only [fullVs, List.mem_cons, List.not_mem_nil, or_false] at hv
    rcases hv with rfl | rfl | rfl | rfl <;> exact ⟨by decide, by decide, by decide⟩
  have hv : VasWf (some ⟨lb, 0, none⟩) fullVs 4 := ⟨hA, by decide, fun h => (by cases h), by decide⟩
  have hv2 : VasWf (some ⟨lb, 0, none⟩) (fullVs.take 2) 4 := ⟨fun v h => hA v (List.mem_of_mem_take h), by decide, fun h => (by cases h), by decide⟩
  have hv3 : VasWf (some ⟨lb, 3, none⟩) (fullVs.drop 1) 3 := ⟨fun v h => hA v (List.mem_of_mem_drop h), by decide, fun h => (by cases h), by decide⟩
  have hf : FaWf (fullFa lb) := ⟨rfl, rfl, hv⟩
  refine ⟨rfl, (of_decide_eq_true rfl), ⟨rfl, rfl, (of_decide_eq_true rfl)⟩, hv, hf, ⟨rfl, (of_decide_eq_true rfl), hv2, rfl⟩, ⟨rfl, rfl, fun f h => ?_, (of_decide_eq_true rfl), fun h => (by cases h), (of_decide_eq_true rfl), hv3⟩, ?_⟩
  · rcases List.mem_cons.1 h with rfl | h
    · exact hf
    · obtain rfl := List.mem_singleton.1 h
      exact ⟨by decide, by decide, fun v h => (by cases h), by decide, fun _ => rfl, by decide⟩
  · constructor
    all_goals first | rfl | exact of_decide_eq_true rfl | exact hv2.all | (intro h; cases h; done) | (intro v h; simp only [fullTh, List.mem_cons, List.not_mem_nil, or_false] at h; rcases h with rfl | rfl | rfl <;> rfl)
theorem full_small (lb fb ib : Nat) : ThSmall (fullTh lb fb ib) := by
  have h1 : SmallV fullVs := by
    refine ⟨of_decide_eq_true rfl, ?_, of_decide_eq_true rfl⟩
    intro v h
    simp only [fullVs, List.mem_cons, List.not_mem_nil, or_false] at h
    rcases h with rfl | rfl | rfl | rfl <;> exact of_decide_eq_true rfl
  have h2 : SmallV (fullVs.take 2) := ⟨of_decide_eq_true rfl, fun v h => h1.2.1 v (List.mem_of_mem_take h), of_decide_eq_true rfl⟩
  have h3 : SmallV (fullVs.drop 1) := ⟨of_decide_eq_true rfl, fun v h => h1.2.1 v (List.mem_of_mem_drop h), of_decide_eq_true rfl⟩
  refine ⟨of_decide_eq_true rfl, of_decide_eq_true rfl, h1, h1, of_decide_eq_true rfl, h2, ⟨of_decide_eq_true rfl, fun f h => ?_⟩, h3, of_decide_eq_true rfl, h2, of_decide_eq_true rfl⟩
  rcases List.mem_cons.1 h with rfl | h
  · exact h1
  · obtain rfl := List.mem_singleton.1 h
    exact ⟨of_decide_eq_true rfl, fun v h => (by cases h), of_decide_eq_true rfl⟩
def FullS (w4 : World) (r : Nat) (w' : World) : Prop := w4.heap.size ≤ w'.heap.size ∧ ∀ i, i ≠ r → i < w4.heap.size → w'.heap[i]? = w4.heap[i]?
theorem FullS.of {w4 w' : World} (r : Nat) (h : Below w4.heap.size w4 w') : FullS w4 r w' := ⟨h.size, fun i _ hi => h.block i hi⟩
theorem full_below {W w4 w6 : World} (h4 : Below W.heap.size W w4) (hs : W.heap.size ≤ w4.heap.size) (h6 : Below w4.heap.size w4 w6) (A : Array Value) : Below W.heap.size W (w6.setRow W.heap.size A) :=
  have h := h4.trans (h6.mono hs)
  ⟨h.os, h.tape, h.output, by rw [setRow_size]; exact h.size, fun k hk => (setRow_other w6 W.heap.size k A (Nat.ne_of_lt hk)).trans (h.block k hk)⟩
theorem thCells_one (t : Th) : ∀ v ∈ thCells t, v.oneCell' = true := by
  intro v h
  simp only [thCells, vaCells, faCells, cmCells, rpCells, enCells, List.cons_append, List.nil_append, List.mem_cons, List.not_mem_nil, or_false] at h
  rcases h with rfl | rfl | rfl | rfl | rfl | rfl | rfl | rfl | rfl | rfl | rfl | rfl | rfl | rfl | rfl | rfl | rfl | rfl | rfl | rfl | rfl | rfl | rfl | rfl | rfl | rfl <;> rfl
theorem keep_al {w : World} {i : Nat} {x o : Obj} (h : w.heap[i]? = some x) : (w.alloc o).heap[i]? = some x := (((Below.refl w.heap.size w).alloc (Nat.le_refl _) o).block i (Array.getElem?_eq_some_iff.1 h).1).trans h
theorem new_at {w : World} {o : Obj} {n : Nat} (h : w.heap.size = n) : (w.alloc o).heap[n]? = some o := h ▸ heap_alloc_new w o
theorem full_world (W : World) : ∃ w4, (((W.alloc (.cells #[.int .i64 0, .string ⟨#[]⟩, .int .u8 0, .int .i64 0, .string ⟨#[]⟩, .slice none 0 0, .int .i64 0, .int .i64 0, .slice none 0 0, .int .u8 0, .string ⟨#[]⟩, .slice none 0 0, .int .i64 0, .int .i64 0, .int .i64 0, .slice none 0 0, .slice none 0 0, .int .i64 0, .int .u8 0, .int .i64 0, .int .i64 0, .int .u8 0, .string ⟨#[]⟩, .slice none 0 0, .int .i64 0, .slice none 0 0] 40)).alloc (.cells #[.int .u8 1, .int .i64 (-7), .string ⟨#[]⟩, .int .u8 2, .int .i64 0, .string ⟨#[98, 101, 101]⟩, .int .u8 1, .int .i64 9223372036854775807, .string ⟨#[]⟩, .int .u8 2, .int .i64 0, .string ⟨#[]⟩] 24)).alloc (.cells #[.int .i64 1099511627776, .int .i64 31, .slice (some ⟨W.heap.size + 1, 0, none⟩) 4 4] 27)).alloc (.cells #[.int .u8 2, .string ⟨#[104, 105, 118, 101]⟩, .slice (some ⟨W.heap.size + 1, 0, none⟩) 2 4, .int .i64 (-1)] 30) = w4 ∧ w4.heap.size = W.heap.size + 4 ∧ Below W.heap.size W w4 ∧ w4.heap[W.heap.size]? = some (.cells #[.int .i64 0, .string ⟨#[]⟩, .int .u8 0, .int .i64 0, .string ⟨#[]⟩, .slice none 0 0, .int .i64 0, .int .i64 0, .slice none 0 0, .int .u8 0, .string ⟨#[]⟩, .slice none 0 0, .int .i64 0, .int .i64 0, .int .i64 0, .slice none 0 0, .slice none 0 0, .int .i64 0, .int .u8 0, .int .i64 0, .int .i64 0, .int .u8 0, .string ⟨#[]⟩, .slice none 0 0, .int .i64 0, .slice none 0 0] 40 (0, 0)) ∧ w4.heap[W.heap.size + 1]? = some (.cells #[.int .u8 1, .int .i64 (-7), .string ⟨#[]⟩, .int .u8 2, .int .i64 0, .string ⟨#[98, 101, 101]⟩, .int .u8 1, .int .i64 9223372036854775807, .string ⟨#[]⟩, .int .u8 2, .int .i64 0, .string ⟨#[]⟩] 24 (0, 0)) ∧ w4.heap[W.heap.size + 1 + 1]? = some (.cells #[.int .i64 1099511627776, .int .i64 31, .slice (some ⟨W.heap.size + 1, 0, none⟩) 4 4] 27 (0, 0)) ∧ w4.heap[W.heap.size + 1 + 1 + 1]? = some (.cells #[.int .u8 2, .string ⟨#[104, 105, 118, 101]⟩, .slice (some ⟨W.heap.size + 1, 0, none⟩) 2 4, .int .i64 (-1)] 30 (0, 0)) := by
  refine ⟨_, rfl, by simp, ?_, ?_, ?_, ?_, ?_⟩
  · exact ((((Below.refl W.heap.size W).alloc (Nat.le_refl _) _).alloc (by simp) _).alloc (by simp; omega) _).alloc (by simp; omega) _
  · exact keep_al (keep_al (keep_al (heap_alloc_new W _)))
  · exact keep_al (keep_al (new_at (by simp)))
  · exact keep_al (new_at (by simp))
  · exact new_at (by simp)
set_option maxHeartbeats 8000000 in
theorem full_any (W : World) : Calls Tryz.prog 4 #[] W fun e w' => ∃ lb fb ib, e = .returned (.agg (thArr (fullTh lb fb ib))) ∧ ThIn w' w'.heap.size (fullTh lb fb ib) ∧ Below W.heap.size W w' := by
  obtain ⟨w4, hw4, hs4, hb4, k0, k1, k2, k3⟩ := full_world W
  have HW4 := Lib.hid hw4
  have HS4 := Lib.hid hs4
  have HB4 := Lib.hid hb4
  have K0 := Lib.hid k0
  have K1 := Lib.hid k1
  have hC : (∀ w', FullS w4 W.heap.size w' → w'.cell? ⟨W.heap.size + 1, 3, none⟩ = some (.int .u8 2) ∧ w'.cell? ⟨W.heap.size + 1, 4, none⟩ = some (.int .i64 0) ∧ w'.cell? ⟨W.heap.size + 1, 5, none⟩ = some (.string ⟨#[98, 101, 101]⟩) ∧ w'.cell? ⟨W.heap.size + 1 + 1, 0, none⟩ = some (.int .i64 1099511627776) ∧ w'.cell? ⟨W.heap.size + 1 + 1, 1, none⟩ = some (.int .i64 31) ∧ w'.cell? ⟨W.heap.size + 1 + 1, 2, none⟩ = some (.slice (some ⟨W.heap.size + 1, 0, none⟩) 4 4) ∧ w'.cell? ⟨W.heap.size + 1 + 1 + 1, 0, none⟩ = some (.int .u8 2) ∧ w'.cell? ⟨W.heap.size + 1 + 1 + 1, 1, none⟩ = some (.string ⟨#[104, 105, 118, 101]⟩) ∧ w'.cell? ⟨W.heap.size + 1 + 1 + 1, 2, none⟩ = some (.slice (some ⟨W.heap.size + 1, 0, none⟩) 2 4) ∧ w'.cell? ⟨W.heap.size + 1 + 1 + 1, 3, none⟩ = some (.int .i64 (-1))) := fun w' h => by
    have q1 := (h.2 (W.heap.size + 1) (by omega) (by omega)).trans k1
    have q2 := (h.2 (W.heap.size + 1 + 1) (by omega) (by omega)).trans k2
    have q3 := (h.2 (W.heap.size + 1 + 1 + 1) (by omega) (by omega)).trans k3
    exact ⟨Go.Joins.cell_of_block q1 3, Go.Joins.cell_of_block q1 4, Go.Joins.cell_of_block q1 5, Go.Joins.cell_of_block q2 0, Go.Joins.cell_of_block q2 1, Go.Joins.cell_of_block q2 2, Go.Joins.cell_of_block q3 0, Go.Joins.cell_of_block q3 1, Go.Joins.cell_of_block q3 2, Go.Joins.cell_of_block q3 3⟩
  have HC := Lib.hid hC
  clear hw4 hs4 hb4 k0 k1 k2 k3 hC
  go_enter Tryz.func4, Tryz.ntmps4
  go_wp2_with fail
  rw [HW4.out]
  refine heldS_begin (FullS w4 W.heap.size) (by kernel_rfl) (FullS.of _ (Below.refl _ _).drew) ?_
  intro hS0
  (first | (refine takeS_no 0 rfl (by kernel_rfl) (by kernel_rfl) (by kernel_rfl) (fun _ _ _ h => h) (by rfl) (by assumption) ?_) | (refine takeS_yes (v := ?_) 0 rfl (by kernel_rfl) (by kernel_rfl) (by kernel_rfl) (fun _ _ _ h => h) (by rfl) (by assumption) ?_ ?_; rotate_left; focus (intro wS hSw; obtain ⟨d0, d1, d2, d3, d4, d5, d6, d7, d8, d9⟩ := HC.out wS hSw; go_simp; first | done | with_reducible rfl)))
  (try simp only [Act.put, List.setIfInBounds_toArray, List.set_cons_zero, List.set_cons_succ])
  (first | (refine takeS_no 1 rfl (by kernel_rfl) (by kernel_rfl) (by kernel_rfl) (fun _ _ _ h => h) (by rfl) (by assumption) ?_) | (refine takeS_yes (v := ?_) 1 rfl (by kernel_rfl) (by kernel_rfl) (by kernel_rfl) (fun _ _ _ h => h) (by rfl) (by assumption) ?_ ?_; rotate_left; focus (intro wS hSw; obtain ⟨d0, d1, d2, d3, d4, d5, d6, d7, d8, d9⟩ := HC.out wS hSw; go_simp; first | done | with_reducible rfl)))
  (try simp only [Act.put, List.setIfInBounds_toArray, List.set_cons_zero, List.set_cons_succ])
  (first | (refine takeS_no 2 rfl (by kernel_rfl) (by kernel_rfl) (by kernel_rfl) (fun _ _ _ h => h) (by rfl) (by assumption) ?_) | (refine takeS_yes (v := ?_) 2 rfl (by kernel_rfl) (by kernel_rfl) (by kernel_rfl) (fun _ _ _ h => h) (by rfl) (by assumption) ?_ ?_; rotate_left; focus (intro wS hSw; obtain ⟨d0, d1, d2, d3, d4, d5, d6, d7, d8, d9⟩ := HC.out wS hSw; go_simp; first | done | with_reducible rfl)))
  (try simp only [Act.put, List.setIfInBounds_toArray, List.set_cons_zero, List.set_cons_succ])
  (first | (refine takeS_no 3 rfl (by kernel_rfl) (by kernel_rfl) (by kernel_rfl) (fun _ _ _ h => h) (by rfl) (by assumption) ?_) | (refine takeS_yes (v := ?_) 3 rfl (by kernel_rfl) (by kernel_rfl) (by kernel_rfl) (fun _ _ _ h => h) (by rfl) (by assumption) ?_ ?_; rotate_left; focus (intro wS hSw; obtain ⟨d0, d1, d2, d3, d4, d5, d6, d7, d8, d9⟩ := HC.out wS hSw; go_simp; first | done | with_reducible rfl)))
  (try simp only [Act.put, List.setIfInBounds_toArray, List.set_cons_zero, List.set_cons_succ])
  (first | (refine takeS_no 4 rfl (by kernel_rfl) (by kernel_rfl) (by kernel_rfl) (fun _ _ _ h => h) (by rfl) (by assumption) ?_) | (refine takeS_yes (v := ?_) 4 rfl (by kernel_rfl) (by kernel_rfl) (by kernel_rfl) (fun _ _ _ h => h) (by rfl) (by assumption) ?_ ?_; rotate_left; focus (intro wS hSw; obtain ⟨d0, d1, d2, d3, d4, d5, d6, d7, d8, d9⟩ := HC.out wS hSw; go_simp; first | done | with_reducible rfl)))
  (try simp only [Act.put, List.setIfInBounds_toArray, List.set_cons_zero, List.set_cons_succ])
  (first | (refine takeS_no 5 rfl (by kernel_rfl) (by kernel_rfl) (by kernel_rfl) (fun _ _ _ h => h) (by rfl) (by assumption) ?_) | (refine takeS_yes (v := ?_) 5 rfl (by kernel_rfl) (by kernel_rfl) (by kernel_rfl) (fun _ _ _ h => h) (by rfl) (by assumption) ?_ ?_; rotate_left; focus (intro wS hSw; obtain ⟨d0, d1, d2, d3, d4, d5, d6, d7, d8, d9⟩ := HC.out wS hSw; go_simp; first | done | with_reducible rfl)))
  (try simp only [Act.put, List.setIfInBounds_toArray, List.set_cons_zero, List.set_cons_succ])
  (first | (refine takeS_no 6 rfl (by kernel_rfl) (by kernel_rfl) (by kernel_rfl) (fun _ _ _ h => h) (by rfl) (by assumption) ?_) | (refine takeS_yes (v := ?_) 6 rfl (by kernel_rfl) (by kernel_rfl) (by kernel_rfl) (fun _ _ _ h => h) (by rfl) (by assumption) ?_ ?_; rotate_left; focus (intro wS hSw; obtain ⟨d0, d1, d2, d3, d4, d5, d6, d7, d8, d9⟩ := HC.out wS hSw; go_simp; first | done | with_reducible rfl)))
  (try simp only [Act.put, List.setIfInBounds_toArray, List.set_cons_zero, List.set_cons_succ])
  (first | (refine takeS_no 7 rfl (by kernel_rfl) (by kernel_rfl) (by kernel_rfl) (fun _ _ _ h => h) (by rfl) (by assumption) ?_) | (refine takeS_yes (v := ?_) 7 rfl (by kernel_rfl) (by kernel_rfl) (by kernel_rfl) (fun _ _ _ h => h) (by rfl) (by assumption) ?_ ?_; rotate_left; focus (intro wS hSw; obtain ⟨d0, d1, d2, d3, d4, d5, d6, d7, d8, d9⟩ := HC.out wS hSw; go_simp; first | done | with_reducible rfl)))
  (try simp only [Act.put, List.setIfInBounds_toArray, List.set_cons_zero, List.set_cons_succ])
  (first | (refine takeS_no 9 rfl (by kernel_rfl) (by kernel_rfl) (by kernel_rfl) (fun _ _ _ h => h) (by rfl) (by assumption) ?_) | (refine takeS_yes (v := ?_) 9 rfl (by kernel_rfl) (by kernel_rfl) (by kernel_rfl) (fun _ _ _ h => h) (by rfl) (by assumption) ?_ ?_; rotate_left; focus (intro wS hSw; obtain ⟨d0, d1, d2, d3, d4, d5, d6, d7, d8, d9⟩ := HC.out wS hSw; go_simp; first | done | with_reducible rfl)))
  (try simp only [Act.put, List.setIfInBounds_toArray, List.set_cons_zero, List.set_cons_succ])
  (first | (refine takeS_no 10 rfl (by kernel_rfl) (by kernel_rfl) (by kernel_rfl) (fun _ _ _ h => h) (by rfl) (by assumption) ?_) | (refine takeS_yes (v := ?_) 10 rfl (by kernel_rfl) (by kernel_rfl) (by kernel_rfl) (fun _ _ _ h => h) (by rfl) (by assumption) ?_ ?_; rotate_left; focus (intro wS hSw; obtain ⟨d0, d1, d2, d3, d4, d5, d6, d7, d8, d9⟩ := HC.out wS hSw; go_simp; first | done | with_reducible rfl)))
  (try simp only [Act.put, List.setIfInBounds_toArray, List.set_cons_zero, List.set_cons_succ])
  (first | (refine takeS_no 12 rfl (by kernel_rfl) (by kernel_rfl) (by kernel_rfl) (fun _ _ _ h => h) (by rfl) (by assumption) ?_) | (refine takeS_yes (v := ?_) 12 rfl (by kernel_rfl) (by kernel_rfl) (by kernel_rfl) (fun _ _ _ h => h) (by rfl) (by assumption) ?_ ?_; rotate_left; focus (intro wS hSw; obtain ⟨d0, d1, d2, d3, d4, d5, d6, d7, d8, d9⟩ := HC.out wS hSw; go_simp; first | done | with_reducible rfl)))
  (try simp only [Act.put, List.setIfInBounds_toArray, List.set_cons_zero, List.set_cons_succ])
  have b0 : Below w4.heap.size w4 w4.drew := (Below.refl _ _).drew
  generalize w4.drew = wd at b0 hS0 ⊢
  refine takeS_two 8 13 rfl rfl (by kernel_rfl) (by rfl) (by rfl) (fun K hK => ?_) (fun K hK => ?_)
  rotate_left
  focus
    go_simp
    (have c5 := Below.alloc b0 b0.size (.cells #[.int .i64 1, .int .i64 2, .int .i64 9] 3); have k5 := heap_alloc_new wd (.cells #[.int .i64 1, .int .i64 2, .int .i64 9] 3); generalize wd.alloc (.cells #[.int .i64 1, .int .i64 2, .int .i64 9] 3) = w5 at c5 k5 ⊢; have s5 := FullS.of W.heap.size c5)
    refine hK.out _ _ (by assumption) ?_
    clear hK K
    (try simp only [Act.put, List.setIfInBounds_toArray, List.set_cons_zero, List.set_cons_succ])
    (first | (refine takeS_no 14 rfl (by kernel_rfl) (by kernel_rfl) (by kernel_rfl) (fun _ _ _ h => h) (by rfl) (by assumption) ?_) | (refine takeS_yes (v := ?_) 14 rfl (by kernel_rfl) (by kernel_rfl) (by kernel_rfl) (fun _ _ _ h => h) (by rfl) (by assumption) ?_ ?_; rotate_left; focus (intro wS hSw; obtain ⟨d0, d1, d2, d3, d4, d5, d6, d7, d8, d9⟩ := HC.out wS hSw; go_simp; first | done | with_reducible rfl)))
    (try simp only [Act.put, List.setIfInBounds_toArray, List.set_cons_zero, List.set_cons_succ])
    refine takeS_alone 8 rfl (by kernel_rfl) (by rfl) (fun K hK => ?_)
    go_simp
    (have c6 := Below.alloc c5 c5.size (.cells #[.int .i64 1099511627776, .int .i64 31, .slice (some ⟨W.heap.size + 1, 0, none⟩) 4 4, .int .i64 2, .int .i64 0, .slice none 0 0] 27); have k6 := heap_alloc_new w5 (.cells #[.int .i64 1099511627776, .int .i64 31, .slice (some ⟨W.heap.size + 1, 0, none⟩) 4 4, .int .i64 2, .int .i64 0, .slice none 0 0] 27); have kI := (((Below.refl w5.heap.size w5).alloc (Nat.le_refl _) (.cells #[.int .i64 1099511627776, .int .i64 31, .slice (some ⟨W.heap.size + 1, 0, none⟩) 4 4, .int .i64 2, .int .i64 0, .slice none 0 0] 27)).block _ (Array.getElem?_eq_some_iff.1 k5).1).trans k5; have kF := k6; generalize w5.alloc (.cells #[.int .i64 1099511627776, .int .i64 31, .slice (some ⟨W.heap.size + 1, 0, none⟩) 4 4, .int .i64 2, .int .i64 0, .slice none 0 0] 27) = w6 at c6 k6 kF kI ⊢; have s6 := FullS.of W.heap.size c6; clear k5 k6; generalize wd.heap.size = ib at kI ⊢; generalize w5.heap.size = fb at kF ⊢)
    refine hK.out _ _ (by assumption) ?_
    clear hK K
    (try simp only [Act.put, List.setIfInBounds_toArray, List.set_cons_zero, List.set_cons_succ])
    (first | (refine takeS_no 11 rfl (by kernel_rfl) (by kernel_rfl) (by kernel_rfl) (fun _ _ _ h => h) (by rfl) (by assumption) ?_) | (refine takeS_yes (v := ?_) 11 rfl (by kernel_rfl) (by kernel_rfl) (by kernel_rfl) (fun _ _ _ h => h) (by rfl) (by assumption) ?_ ?_; rotate_left; focus (intro wS hSw; obtain ⟨d0, d1, d2, d3, d4, d5, d6, d7, d8, d9⟩ := HC.out wS hSw; go_simp; first | done | with_reducible rfl)))
    (try simp only [Act.put, List.setIfInBounds_toArray, List.set_cons_zero, List.set_cons_succ])
  rotate_left
  focus
    go_simp
    (have c5 := Below.alloc b0 b0.size (.cells #[.int .i64 1099511627776, .int .i64 31, .slice (some ⟨W.heap.size + 1, 0, none⟩) 4 4, .int .i64 2, .int .i64 0, .slice none 0 0] 27); have k5 := heap_alloc_new wd (.cells #[.int .i64 1099511627776, .int .i64 31, .slice (some ⟨W.heap.size + 1, 0, none⟩) 4 4, .int .i64 2, .int .i64 0, .slice none 0 0] 27); generalize wd.alloc (.cells #[.int .i64 1099511627776, .int .i64 31, .slice (some ⟨W.heap.size + 1, 0, none⟩) 4 4, .int .i64 2, .int .i64 0, .slice none 0 0] 27) = w5 at c5 k5 ⊢; have s5 := FullS.of W.heap.size c5)
    refine hK.out _ _ (by assumption) ?_
    clear hK K
    (try simp only [Act.put, List.setIfInBounds_toArray, List.set_cons_zero, List.set_cons_succ])
    (first | (refine takeS_no 11 rfl (by kernel_rfl) (by kernel_rfl) (by kernel_rfl) (fun _ _ _ h => h) (by rfl) (by assumption) ?_) | (refine takeS_yes (v := ?_) 11 rfl (by kernel_rfl) (by kernel_rfl) (by kernel_rfl) (fun _ _ _ h => h) (by rfl) (by assumption) ?_ ?_; rotate_left; focus (intro wS hSw; obtain ⟨d0, d1, d2, d3, d4, d5, d6, d7, d8, d9⟩ := HC.out wS hSw; go_simp; first | done | with_reducible rfl)))
    (try simp only [Act.put, List.setIfInBounds_toArray, List.set_cons_zero, List.set_cons_succ])
    refine takeS_alone 13 rfl (by kernel_rfl) (by rfl) (fun K hK => ?_)
    go_simp
    (have c6 := Below.alloc c5 c5.size (.cells #[.int .i64 1, .int .i64 2, .int .i64 9] 3); have k6 := heap_alloc_new w5 (.cells #[.int .i64 1, .int .i64 2, .int .i64 9] 3); have kF := (((Below.refl w5.heap.size w5).alloc (Nat.le_refl _) (.cells #[.int .i64 1, .int .i64 2, .int .i64 9] 3)).block _ (Array.getElem?_eq_some_iff.1 k5).1).trans k5; have kI := k6; generalize w5.alloc (.cells #[.int .i64 1, .int .i64 2, .int .i64 9] 3) = w6 at c6 k6 kF kI ⊢; have s6 := FullS.of W.heap.size c6; clear k5 k6; generalize wd.heap.size = fb at kF ⊢; generalize w5.heap.size = ib at kI ⊢)
    refine hK.out _ _ (by assumption) ?_
    clear hK K
    (try simp only [Act.put, List.setIfInBounds_toArray, List.set_cons_zero, List.set_cons_succ])
    (first | (refine takeS_no 14 rfl (by kernel_rfl) (by kernel_rfl) (by kernel_rfl) (fun _ _ _ h => h) (by rfl) (by assumption) ?_) | (refine takeS_yes (v := ?_) 14 rfl (by kernel_rfl) (by kernel_rfl) (by kernel_rfl) (fun _ _ _ h => h) (by rfl) (by assumption) ?_ ?_; rotate_left; focus (intro wS hSw; obtain ⟨d0, d1, d2, d3, d4, d5, d6, d7, d8, d9⟩ := HC.out wS hSw; go_simp; first | done | with_reducible rfl)))
    (try simp only [Act.put, List.setIfInBounds_toArray, List.set_cons_zero, List.set_cons_succ])
  all_goals
    (first | (refine takeS_no 15 rfl (by kernel_rfl) (by kernel_rfl) (by kernel_rfl) (fun _ _ _ h => h) (by rfl) (by assumption) ?_) | (refine takeS_yes (v := ?_) 15 rfl (by kernel_rfl) (by kernel_rfl) (by kernel_rfl) (fun _ _ _ h => h) (by rfl) (by assumption) ?_ ?_; rotate_left; focus (intro wS hSw; obtain ⟨d0, d1, d2, d3, d4, d5, d6, d7, d8, d9⟩ := HC.out wS hSw; go_simp; first | done | with_reducible rfl)))
    (try simp only [Act.put, List.setIfInBounds_toArray, List.set_cons_zero, List.set_cons_succ])
    refine takeS_alone 16 rfl (by kernel_rfl) (by rfl) (fun K hK => ?_)
    skip
    (have k7 := (c6.block W.heap.size (by have := HS4.out; omega)).trans K0.out; have k1 := (c6.block (W.heap.size + 1) (by have := HS4.out; omega)).trans K1.out; have h0 := setRow_heap w6 W.heap.size _ (thArr (fullTh (W.heap.size + 1) fb ib)) _ _ k7; have hl := (setRow_other w6 W.heap.size _ (thArr (fullTh (W.heap.size + 1) fb ib)) (blk_ne k1 k7 (by decide))).trans k1; have hF := (setRow_other w6 W.heap.size _ (thArr (fullTh (W.heap.size + 1) fb ib)) (blk_ne kF k7 (by decide))).trans kF; have hI := (setRow_other w6 W.heap.size _ (thArr (fullTh (W.heap.size + 1) fb ib)) (blk_ne kI k7 (by decide))).trans kI; have c7 := full_below HB4.out (by have := HS4.out; omega) c6 (thArr (fullTh (W.heap.size + 1) fb ib)); have s7 : FullS w4 W.heap.size (w6.setRow W.heap.size (thArr (fullTh (W.heap.size + 1) fb ib))) := ⟨by rw [setRow_size]; exact c6.size, fun i hi hl => (setRow_other w6 W.heap.size i (thArr (fullTh (W.heap.size + 1) fb ib)) hi).trans (c6.block i hl)⟩; refine wp_store_row 40 (.tmp 0) (.tmp 29) rfl W.heap.size (thArr (fullTh (W.heap.size + 1) fb ib)) rfl rfl _ _ k7 info_th rfl (all_oneCell_toArray (thCells_one _)) ?_; generalize w6.setRow W.heap.size (thArr (fullTh (W.heap.size + 1) fb ib)) = w7 at h0 hl hF hI c7 s7 ⊢)
    refine hK.out _ _ (by assumption) ?_
    clear hK K
    (try simp only [Act.put])
    refine wpAnyH_done (by kernel_rfl) ?_ _
  all_goals
    have HR := full_in hl hF hI (Array.getElem?_eq_some_iff.1 hl).1 (Array.getElem?_eq_some_iff.1 hF).1 (Array.getElem?_eq_some_iff.1 hI).1
    go_wp2_with fail
    (try simp only [Exit.inBlock, Exit.then])
    refine bodyPost_ret (results_cell_row rfl _ _ W.heap.size 40 (thArr (fullTh (W.heap.size + 1) fb ib)) _ _ rfl h0 Tryz.underlying40 rfl info_th) rfl ?_
    exact ⟨_, _, _, rfl, HR, c7⟩
end Go.Proofs.YtiggpcmikhojmaaGreatDoor
