/- SnapNumbers: the law's walk. No condition. -/
import Derived.Test.YtejgebpdipnhmaaGreatDoorGSnapNumbers30
import Derived.Test.YtejgebpdipnhmaaGreatDoorGSnapNumbers4
set_option linter.unusedVariables false
set_option linter.unusedSimpArgs false
namespace Go.Proofs.YtejgebpdipnhmaaGreatDoor
open Go.RowKit
set_option maxRecDepth 20000
theorem nums_at {i : Nat} (h : i < 11) : ∃ x, numsL[i]? = some x ∧ (Lit.int .i64 x).wf = true := by
  have hl : i < numsL.length := h
  exact ⟨numsL[i], List.getElem?_eq_getElem hl, numsL_wf _ (List.getElem_mem hl)⟩
theorem nums_cell {w : World} {g i : Nat} {x : Int} (h : w.heap[g]? = some (.cells (numsL.map (Value.int .i64)).toArray 3 (0, 0))) (hx : numsL[i]? = some x) : w.cell? ⟨g, i, none⟩ = some (.int .i64 x) := by
  rw [Go.Joins.cell_of_block h i]
  simp [hx]
theorem bytes_blk {w : World} {g : Nat} {cs : Array Value} {xs : List Int} {fr : Nat × Nat} (h : w.heap[g]? = some (.cells cs 5 fr)) (hc : cs = (xs.map bv).toArray) : BytesIn w w.heap.size (some ⟨g, 0, none⟩) xs := by
  subst hc
  refine Or.inr ⟨g, 0, rfl, (Array.getElem?_eq_some_iff.1 h).1, fun i hi => ?_⟩
  rw [Nat.zero_add, Go.Joins.cell_of_block h i]
  simp [bv, List.getD, List.getElem?_eq_getElem hi]
theorem wf_two {x y : Int} (hx : (Lit.int .i64 x).wf = true) (hy : (Lit.int .i64 y).wf = true) : ∀ v ∈ [x, y], (Lit.int .i64 v).wf = true := fun v hv => by
  simp only [List.mem_cons, List.not_mem_nil, or_false] at hv
  rcases hv with rfl | rfl
  · exact hx
  · exact hy
theorem wf_one {x : Int} (hx : (Lit.int .i64 x).wf = true) : ∀ v ∈ [x], (Lit.int .i64 v).wf = true := fun v hv => by
  rw [List.mem_singleton.1 hv]; exact hx
theorem sizeBJ : ∀ w, (sizeOf (Tryz.prog.elem 24)).run Tryz.prog w = .ok 1 w := fun _ => by kernel_rfl
theorem sliceBJ : Tryz.prog.underlying 24 = some (.slice (Tryz.prog.elem 24)) := by kernel_rfl
theorem bytes_far {w w' : World} {B g q : Nat} {xs : List Int} (h : BytesIn w B (some ⟨g, 0, none⟩) xs) (hg : w.grownBy w' (some q)) (hq : g ≠ q) (hB : B ≤ w.heap.size) : BytesIn w' B (some ⟨g, 0, none⟩) xs := by
  rcases h with h | ⟨b, off, h1, h2, h3⟩
  · exact Or.inl h
  · obtain rfl : g = b := by cases h1; rfl
    refine Or.inr ⟨g, off, h1, h2, fun i hi => ?_⟩
    rw [← h3 i hi]
    simp [World.cell?, hg.block g (by omega) (fun e => hq (Option.some.inj e))]
theorem turn_wf {k : Nat} : BytesWf (turnB k) := fun v hv => by
  rcases List.mem_or_eq_of_mem_set hv with h | h
  · exact smallB_wf v h
  · omega
theorem sput_lit (im : List Int) (g m : Nat) (hm : im.length = m) (hw : BytesWf im) (hl : m ≤ 4000000) (w : World) (hx : BytesIn w w.heap.size (some ⟨g, 0, none⟩) im) (r : List Int × Int) (hr : snPut ⟨1, 0, [], im⟩ = r) :
    Calls Tryz.prog 5 #[.agg #[.int .i64 1, .int .i64 0, .slice none 0 0, .slice (some ⟨g, 0, none⟩) m m]] w (BytesE r w) := by
  subst hm
  exact sput_any ⟨1, 0, none, [], 0, some ⟨g, 0, none⟩, im, im.length⟩ w ⟨Or.inl rfl, hx⟩ ⟨(show N64 1 by unfold N64; omega), (show N64 0 by unfold N64; omega), (fun v hv => by cases hv), (by simp), hw, hl, (fun _ => rfl), (fun h => by cases h), Nat.le_refl _, Nat.le_refl _⟩ r hr
set_option maxHeartbeats 40000000 in
theorem walk_SnapNumbers (W : World) : Calls Tryz.prog 3 #[] W fun e w' => e = .returned (.bool true) ∧ Below W.heap.size W w' := by
  go_enter Tryz.func3, Tryz.ntmps3
  go_wp2_with fail
  generalize hw0 : World.alloc _ _ = w0
  have hk0 : w0.heap[W.heap.size]? = some (.cells (numsL.map (Value.int .i64)).toArray 3 (0, 0)) := by rw [← hw0]; exact heap_alloc_new W _
  have hb0 : Below W.heap.size W w0 := by rw [← hw0]; exact (Below.refl _ _).alloc (Nat.le_refl _) _
  have hz0 : W.heap.size < w0.heap.size := (Array.getElem?_eq_some_iff.1 hk0).1
  clear hw0
  have HK0 := Lib.hid hk0
  have HB0 := Lib.hid hb0
  clear hk0 hb0
  go_loopw [2, 3] (fun i _ wr => ∃ k : Nat, k ≤ 11 ∧ i = .int .i64 k ∧ Below w0.heap.size w0 wr) (fun i _ _ => 11 - (intOf i).toNat)
  case atStart => exact ⟨0, by omega, rfl, Below.refl _ _⟩
  case round =>
    obtain ⟨i, hi, rfl, hB⟩ := hrel
    by_cases hlt : i < 11
    · have i1 : (i : Int) < 11 := by omega
      go_wp2_with fail
      obtain ⟨wo, hwo⟩ : ∃ wo : World, wo = wr := ⟨_, rfl⟩
      clear hwo
      go_loopw [3] (fun j wr => ∃ k : Nat, k ≤ 11 ∧ j = .int .i64 k ∧ Below w0.heap.size w0 wr) (fun j _ => 11 - (intOf j).toNat)
      case atStart => exact ⟨0, by omega, rfl, hB⟩
      case round =>
        clear hB
        obtain ⟨m, hm, rfl, hB⟩ := hrel
        by_cases hltm : m < 11
        · have i2 : (m : Int) < 11 := by omega
          obtain ⟨x, hx, hxw⟩ := nums_at hlt
          obtain ⟨y, hy, hyw⟩ := nums_at hltm
          have HC := Lib.hid (show ∀ w', Below w0.heap.size w0 w' → w'.cell? ⟨W.heap.size, i, none⟩ = some (.int .i64 x) ∧ w'.cell? ⟨W.heap.size, m, none⟩ = some (.int .i64 y) from fun w' h => ⟨nums_cell ((h.block _ hz0).trans HK0.out) hx, nums_cell ((h.block _ hz0).trans HK0.out) hy⟩)
          have HXW := Lib.hid hxw
          have HYW := Lib.hid hyw
          clear hx hy hxw hyw
          go_upto_region 8 with fail
          refine heldS_begin (fun w' => Below w0.heap.size w0 w') (by kernel_rfl) (hB.drew) ?_
          intro hS0
          (first | (refine takeS_no 0 rfl (by kernel_rfl) (by kernel_rfl) (by kernel_rfl) (fun _ _ _ h => h) (by rfl) (by assumption) ?_) | (refine takeS_yes (v := ?_) 0 rfl (by kernel_rfl) (by kernel_rfl) (by kernel_rfl) (fun _ _ _ h => h) (by rfl) (by assumption) ?_ ?_; rotate_left; focus (intro wS hSw; obtain ⟨q0, q1⟩ := HC.out wS hSw; go_simp; first | done | with_reducible rfl)))
          (try simp only [Act.put, List.setIfInBounds_toArray, List.set_cons_zero, List.set_cons_succ])
          (first | (refine takeS_no 1 rfl (by kernel_rfl) (by kernel_rfl) (by kernel_rfl) (fun _ _ _ h => h) (by rfl) (by assumption) ?_) | (refine takeS_yes (v := ?_) 1 rfl (by kernel_rfl) (by kernel_rfl) (by kernel_rfl) (fun _ _ _ h => h) (by rfl) (by assumption) ?_ ?_; rotate_left; focus (intro wS hSw; obtain ⟨q0, q1⟩ := HC.out wS hSw; go_simp; first | done | with_reducible rfl)))
          (try simp only [Act.put, List.setIfInBounds_toArray, List.set_cons_zero, List.set_cons_succ])
          (first | (refine takeS_no 2 rfl (by kernel_rfl) (by kernel_rfl) (by kernel_rfl) (fun _ _ _ h => h) (by rfl) (by assumption) ?_) | (refine takeS_yes (v := ?_) 2 rfl (by kernel_rfl) (by kernel_rfl) (by kernel_rfl) (fun _ _ _ h => h) (by rfl) (by assumption) ?_ ?_; rotate_left; focus (intro wS hSw; obtain ⟨q0, q1⟩ := HC.out wS hSw; go_simp; first | done | with_reducible rfl)))
          (try simp only [Act.put, List.setIfInBounds_toArray, List.set_cons_zero, List.set_cons_succ])
          (first | (refine takeS_no 3 rfl (by kernel_rfl) (by kernel_rfl) (by kernel_rfl) (fun _ _ _ h => h) (by rfl) (by assumption) ?_) | (refine takeS_yes (v := ?_) 3 rfl (by kernel_rfl) (by kernel_rfl) (by kernel_rfl) (fun _ _ _ h => h) (by rfl) (by assumption) ?_ ?_; rotate_left; focus (intro wS hSw; obtain ⟨q0, q1⟩ := HC.out wS hSw; go_simp; first | done | with_reducible rfl)))
          (try simp only [Act.put, List.setIfInBounds_toArray, List.set_cons_zero, List.set_cons_succ])
          (first | (refine takeS_no 4 rfl (by kernel_rfl) (by kernel_rfl) (by kernel_rfl) (fun _ _ _ h => h) (by rfl) (by assumption) ?_) | (refine takeS_yes (v := ?_) 4 rfl (by kernel_rfl) (by kernel_rfl) (by kernel_rfl) (fun _ _ _ h => h) (by rfl) (by assumption) ?_ ?_; rotate_left; focus (intro wS hSw; obtain ⟨q0, q1⟩ := HC.out wS hSw; go_simp; first | done | with_reducible rfl)))
          (try simp only [Act.put, List.setIfInBounds_toArray, List.set_cons_zero, List.set_cons_succ])
          (first | (refine takeS_no 5 rfl (by kernel_rfl) (by kernel_rfl) (by kernel_rfl) (fun _ _ _ h => h) (by rfl) (by assumption) ?_) | (refine takeS_yes (v := ?_) 5 rfl (by kernel_rfl) (by kernel_rfl) (by kernel_rfl) (fun _ _ _ h => h) (by rfl) (by assumption) ?_ ?_; rotate_left; focus (intro wS hSw; obtain ⟨q0, q1⟩ := HC.out wS hSw; go_simp; first | done | with_reducible rfl)))
          (try simp only [Act.put, List.setIfInBounds_toArray, List.set_cons_zero, List.set_cons_succ])
          (first | (refine takeS_no 6 rfl (by kernel_rfl) (by kernel_rfl) (by kernel_rfl) (fun _ _ _ h => h) (by rfl) (by assumption) ?_) | (refine takeS_yes (v := ?_) 6 rfl (by kernel_rfl) (by kernel_rfl) (by kernel_rfl) (fun _ _ _ h => h) (by rfl) (by assumption) ?_ ?_; rotate_left; focus (intro wS hSw; obtain ⟨q0, q1⟩ := HC.out wS hSw; go_simp; first | done | with_reducible rfl)))
          (try simp only [Act.put, List.setIfInBounds_toArray, List.set_cons_zero, List.set_cons_succ])
          (first | (refine takeS_no 7 rfl (by kernel_rfl) (by kernel_rfl) (by kernel_rfl) (fun _ _ _ h => h) (by rfl) (by assumption) ?_) | (refine takeS_yes (v := ?_) 7 rfl (by kernel_rfl) (by kernel_rfl) (by kernel_rfl) (fun _ _ _ h => h) (by rfl) (by assumption) ?_ ?_; rotate_left; focus (intro wS hSw; obtain ⟨q0, q1⟩ := HC.out wS hSw; go_simp; first | done | with_reducible rfl)))
          (try simp only [Act.put, List.setIfInBounds_toArray, List.set_cons_zero, List.set_cons_succ])
          (first | (refine takeS_no 8 rfl (by kernel_rfl) (by kernel_rfl) (by kernel_rfl) (fun _ _ _ h => h) (by rfl) (by assumption) ?_) | (refine takeS_yes (v := ?_) 8 rfl (by kernel_rfl) (by kernel_rfl) (by kernel_rfl) (fun _ _ _ h => h) (by rfl) (by assumption) ?_ ?_; rotate_left; focus (intro wS hSw; obtain ⟨q0, q1⟩ := HC.out wS hSw; go_simp; first | done | with_reducible rfl)))
          (try simp only [Act.put, List.setIfInBounds_toArray, List.set_cons_zero, List.set_cons_succ])
          refine takeS_alone 9 rfl (by kernel_rfl) (by rfl) (fun K hK => ?_)
          go_simp
          (have hS1 := (show Below w0.heap.size w0 _ from hS0); refine (puts_two x y HXW.out HYW.out _).mono ?_; rintro e w3 ⟨rfl, hb3⟩; have hS3 : Below w0.heap.size w0 w3 := hS1.trans (hb3.mono hS1.size); clear hb3)
          refine hK.out _ _ (by assumption) ?_
          clear hK K
          (try simp only [Act.put, List.setIfInBounds_toArray, List.set_cons_zero, List.set_cons_succ])
          (first | (refine takeS_no 10 rfl (by kernel_rfl) (by kernel_rfl) (by kernel_rfl) (fun _ _ _ h => h) (by rfl) (by assumption) ?_) | (refine takeS_yes (v := ?_) 10 rfl (by kernel_rfl) (by kernel_rfl) (by kernel_rfl) (fun _ _ _ h => h) (by rfl) (by assumption) ?_ ?_; rotate_left; focus (intro wS hSw; obtain ⟨q0, q1⟩ := HC.out wS hSw; go_simp; first | done | with_reducible rfl)))
          (try simp only [Act.put, List.setIfInBounds_toArray, List.set_cons_zero, List.set_cons_succ])
          (first | (refine takeS_no 11 rfl (by kernel_rfl) (by kernel_rfl) (by kernel_rfl) (fun _ _ _ h => h) (by rfl) (by assumption) ?_) | (refine takeS_yes (v := ?_) 11 rfl (by kernel_rfl) (by kernel_rfl) (by kernel_rfl) (fun _ _ _ h => h) (by rfl) (by assumption) ?_ ?_; rotate_left; focus (intro wS hSw; obtain ⟨q0, q1⟩ := HC.out wS hSw; go_simp; first | done | with_reducible rfl)))
          (try simp only [Act.put, List.setIfInBounds_toArray, List.set_cons_zero, List.set_cons_succ])
          (first | (refine takeS_no 12 rfl (by kernel_rfl) (by kernel_rfl) (by kernel_rfl) (fun _ _ _ h => h) (by rfl) (by assumption) ?_) | (refine takeS_yes (v := ?_) 12 rfl (by kernel_rfl) (by kernel_rfl) (by kernel_rfl) (fun _ _ _ h => h) (by rfl) (by assumption) ?_ ?_; rotate_left; focus (intro wS hSw; obtain ⟨q0, q1⟩ := HC.out wS hSw; go_simp; first | done | with_reducible rfl)))
          (try simp only [Act.put, List.setIfInBounds_toArray, List.set_cons_zero, List.set_cons_succ])
          (first | (refine takeS_no 13 rfl (by kernel_rfl) (by kernel_rfl) (by kernel_rfl) (fun _ _ _ h => h) (by rfl) (by assumption) ?_) | (refine takeS_yes (v := ?_) 13 rfl (by kernel_rfl) (by kernel_rfl) (by kernel_rfl) (fun _ _ _ h => h) (by rfl) (by assumption) ?_ ?_; rotate_left; focus (intro wS hSw; obtain ⟨q0, q1⟩ := HC.out wS hSw; go_simp; first | done | with_reducible rfl)))
          (try simp only [Act.put, List.setIfInBounds_toArray, List.set_cons_zero, List.set_cons_succ])
          (first | (refine takeS_no 14 rfl (by kernel_rfl) (by kernel_rfl) (by kernel_rfl) (fun _ _ _ h => h) (by rfl) (by assumption) ?_) | (refine takeS_yes (v := ?_) 14 rfl (by kernel_rfl) (by kernel_rfl) (by kernel_rfl) (fun _ _ _ h => h) (by rfl) (by assumption) ?_ ?_; rotate_left; focus (intro wS hSw; obtain ⟨q0, q1⟩ := HC.out wS hSw; go_simp; first | done | with_reducible rfl)))
          (try simp only [Act.put, List.setIfInBounds_toArray, List.set_cons_zero, List.set_cons_succ])
          (first | (refine takeS_no 15 rfl (by kernel_rfl) (by kernel_rfl) (by kernel_rfl) (fun _ _ _ h => h) (by rfl) (by assumption) ?_) | (refine takeS_yes (v := ?_) 15 rfl (by kernel_rfl) (by kernel_rfl) (by kernel_rfl) (fun _ _ _ h => h) (by rfl) (by assumption) ?_ ?_; rotate_left; focus (intro wS hSw; obtain ⟨q0, q1⟩ := HC.out wS hSw; go_simp; first | done | with_reducible rfl)))
          (try simp only [Act.put, List.setIfInBounds_toArray, List.set_cons_zero, List.set_cons_succ])
          (first | (refine takeS_no 16 rfl (by kernel_rfl) (by kernel_rfl) (by kernel_rfl) (fun _ _ _ h => h) (by rfl) (by assumption) ?_) | (refine takeS_yes (v := ?_) 16 rfl (by kernel_rfl) (by kernel_rfl) (by kernel_rfl) (fun _ _ _ h => h) (by rfl) (by assumption) ?_ ?_; rotate_left; focus (intro wS hSw; obtain ⟨q0, q1⟩ := HC.out wS hSw; go_simp; first | done | with_reducible rfl)))
          (try simp only [Act.put, List.setIfInBounds_toArray, List.set_cons_zero, List.set_cons_succ])
          (first | (refine takeS_no 17 rfl (by kernel_rfl) (by kernel_rfl) (by kernel_rfl) (fun _ _ _ h => h) (by rfl) (by assumption) ?_) | (refine takeS_yes (v := ?_) 17 rfl (by kernel_rfl) (by kernel_rfl) (by kernel_rfl) (fun _ _ _ h => h) (by rfl) (by assumption) ?_ ?_; rotate_left; focus (intro wS hSw; obtain ⟨q0, q1⟩ := HC.out wS hSw; go_simp; first | done | with_reducible rfl)))
          (try simp only [Act.put, List.setIfInBounds_toArray, List.set_cons_zero, List.set_cons_succ])
          (first | (refine takeS_no 18 rfl (by kernel_rfl) (by kernel_rfl) (by kernel_rfl) (fun _ _ _ h => h) (by rfl) (by assumption) ?_) | (refine takeS_yes (v := ?_) 18 rfl (by kernel_rfl) (by kernel_rfl) (by kernel_rfl) (fun _ _ _ h => h) (by rfl) (by assumption) ?_ ?_; rotate_left; focus (intro wS hSw; obtain ⟨q0, q1⟩ := HC.out wS hSw; go_simp; first | done | with_reducible rfl)))
          (try simp only [Act.put, List.setIfInBounds_toArray, List.set_cons_zero, List.set_cons_succ])
          (first | (refine takeS_no 19 rfl (by kernel_rfl) (by kernel_rfl) (by kernel_rfl) (fun _ _ _ h => h) (by rfl) (by assumption) ?_) | (refine takeS_yes (v := ?_) 19 rfl (by kernel_rfl) (by kernel_rfl) (by kernel_rfl) (fun _ _ _ h => h) (by rfl) (by assumption) ?_ ?_; rotate_left; focus (intro wS hSw; obtain ⟨q0, q1⟩ := HC.out wS hSw; go_simp; first | done | with_reducible rfl)))
          (try simp only [Act.put, List.setIfInBounds_toArray, List.set_cons_zero, List.set_cons_succ])
          refine takeS_alone 20 rfl (by kernel_rfl) (by rfl) (fun K hK => ?_)
          go_simp
          (have hv1 := heap_alloc_new w3 (.cells #[.int .i64 x, .int .i64 y] 3); have hS4 := Below.alloc hS3 hS3.size (.cells #[.int .i64 x, .int .i64 y] 3); generalize w3.alloc (.cells #[.int .i64 x, .int .i64 y] 3) = w4 at hv1 hS4 ⊢)
          refine hK.out _ _ (by assumption) ?_
          clear hK K
          (try simp only [Act.put, List.setIfInBounds_toArray, List.set_cons_zero, List.set_cons_succ])
          (first | (refine takeS_no 21 rfl (by kernel_rfl) (by kernel_rfl) (by kernel_rfl) (fun _ _ _ h => h) (by rfl) (by assumption) ?_) | (refine takeS_yes (v := ?_) 21 rfl (by kernel_rfl) (by kernel_rfl) (by kernel_rfl) (fun _ _ _ h => h) (by rfl) (by assumption) ?_ ?_; rotate_left; focus (intro wS hSw; obtain ⟨q0, q1⟩ := HC.out wS hSw; go_simp; first | done | with_reducible rfl)))
          (try simp only [Act.put, List.setIfInBounds_toArray, List.set_cons_zero, List.set_cons_succ])
          refine takeS_alone 22 rfl (by kernel_rfl) (by rfl) (fun K hK => ?_)
          go_simp
          (refine (puts_voters 1 w3.heap.size 2 [x, y] (by decide) (wf_two HXW.out HYW.out) rfl (by omega) w4 (0, 0) hv1).mono ?_; rintro e w5 ⟨rfl, hb5⟩; have hS5 : Below w0.heap.size w0 w5 := hS4.trans (hb5.mono hS4.size); clear hb5 hv1)
          refine hK.out _ _ (by assumption) ?_
          clear hK K
          (try simp only [Act.put, List.setIfInBounds_toArray, List.set_cons_zero, List.set_cons_succ])
          (first | (refine takeS_no 23 rfl (by kernel_rfl) (by kernel_rfl) (by kernel_rfl) (fun _ _ _ h => h) (by rfl) (by assumption) ?_) | (refine takeS_yes (v := ?_) 23 rfl (by kernel_rfl) (by kernel_rfl) (by kernel_rfl) (fun _ _ _ h => h) (by rfl) (by assumption) ?_ ?_; rotate_left; focus (intro wS hSw; obtain ⟨q0, q1⟩ := HC.out wS hSw; go_simp; first | done | with_reducible rfl)))
          (try simp only [Act.put, List.setIfInBounds_toArray, List.set_cons_zero, List.set_cons_succ])
          (first | (refine takeS_no 24 rfl (by kernel_rfl) (by kernel_rfl) (by kernel_rfl) (fun _ _ _ h => h) (by rfl) (by assumption) ?_) | (refine takeS_yes (v := ?_) 24 rfl (by kernel_rfl) (by kernel_rfl) (by kernel_rfl) (fun _ _ _ h => h) (by rfl) (by assumption) ?_ ?_; rotate_left; focus (intro wS hSw; obtain ⟨q0, q1⟩ := HC.out wS hSw; go_simp; first | done | with_reducible rfl)))
          (try simp only [Act.put, List.setIfInBounds_toArray, List.set_cons_zero, List.set_cons_succ])
          (first | (refine takeS_no 25 rfl (by kernel_rfl) (by kernel_rfl) (by kernel_rfl) (fun _ _ _ h => h) (by rfl) (by assumption) ?_) | (refine takeS_yes (v := ?_) 25 rfl (by kernel_rfl) (by kernel_rfl) (by kernel_rfl) (fun _ _ _ h => h) (by rfl) (by assumption) ?_ ?_; rotate_left; focus (intro wS hSw; obtain ⟨q0, q1⟩ := HC.out wS hSw; go_simp; first | done | with_reducible rfl)))
          (try simp only [Act.put, List.setIfInBounds_toArray, List.set_cons_zero, List.set_cons_succ])
          (first | (refine takeS_no 26 rfl (by kernel_rfl) (by kernel_rfl) (by kernel_rfl) (fun _ _ _ h => h) (by rfl) (by assumption) ?_) | (refine takeS_yes (v := ?_) 26 rfl (by kernel_rfl) (by kernel_rfl) (by kernel_rfl) (fun _ _ _ h => h) (by rfl) (by assumption) ?_ ?_; rotate_left; focus (intro wS hSw; obtain ⟨q0, q1⟩ := HC.out wS hSw; go_simp; first | done | with_reducible rfl)))
          (try simp only [Act.put, List.setIfInBounds_toArray, List.set_cons_zero, List.set_cons_succ])
          (first | (refine takeS_no 27 rfl (by kernel_rfl) (by kernel_rfl) (by kernel_rfl) (fun _ _ _ h => h) (by rfl) (by assumption) ?_) | (refine takeS_yes (v := ?_) 27 rfl (by kernel_rfl) (by kernel_rfl) (by kernel_rfl) (fun _ _ _ h => h) (by rfl) (by assumption) ?_ ?_; rotate_left; focus (intro wS hSw; obtain ⟨q0, q1⟩ := HC.out wS hSw; go_simp; first | done | with_reducible rfl)))
          (try simp only [Act.put, List.setIfInBounds_toArray, List.set_cons_zero, List.set_cons_succ])
          (first | (refine takeS_no 28 rfl (by kernel_rfl) (by kernel_rfl) (by kernel_rfl) (fun _ _ _ h => h) (by rfl) (by assumption) ?_) | (refine takeS_yes (v := ?_) 28 rfl (by kernel_rfl) (by kernel_rfl) (by kernel_rfl) (fun _ _ _ h => h) (by rfl) (by assumption) ?_ ?_; rotate_left; focus (intro wS hSw; obtain ⟨q0, q1⟩ := HC.out wS hSw; go_simp; first | done | with_reducible rfl)))
          (try simp only [Act.put, List.setIfInBounds_toArray, List.set_cons_zero, List.set_cons_succ])
          (first | (refine takeS_no 29 rfl (by kernel_rfl) (by kernel_rfl) (by kernel_rfl) (fun _ _ _ h => h) (by rfl) (by assumption) ?_) | (refine takeS_yes (v := ?_) 29 rfl (by kernel_rfl) (by kernel_rfl) (by kernel_rfl) (fun _ _ _ h => h) (by rfl) (by assumption) ?_ ?_; rotate_left; focus (intro wS hSw; obtain ⟨q0, q1⟩ := HC.out wS hSw; go_simp; first | done | with_reducible rfl)))
          (try simp only [Act.put, List.setIfInBounds_toArray, List.set_cons_zero, List.set_cons_succ])
          refine takeS_two 30 31 rfl rfl (by kernel_rfl) (by rfl) (by rfl) (fun K hK => ?_) (fun K hK => ?_)
          rotate_left
          focus
            go_simp
            (have hby0 := heap_alloc_new w5 (.cells #[.int .u8 1] 5); have hS6 := Below.alloc hS5 hS5.size (.cells #[.int .u8 1] 5))
            refine hK.out _ _ (by assumption) ?_
            clear hK K
            (try simp only [Act.put, List.setIfInBounds_toArray, List.set_cons_zero, List.set_cons_succ])
            refine takeS_alone 30 rfl (by kernel_rfl) (by rfl) (fun K hK => ?_)
            go_simp
            (have hby := keep_alloc hby0 (.cells #[.int .i64 x] 3); have hv := heap_alloc_new (w5.alloc (.cells #[.int .u8 1] 5)) (.cells #[.int .i64 x] 3); rw [World.size_alloc] at hv; have hS7 := Below.alloc hS6 hS6.size (.cells #[.int .i64 x] 3); generalize (w5.alloc (.cells #[.int .u8 1] 5)).alloc (.cells #[.int .i64 x] 3) = w6 at hv hby hS7 ⊢; clear hby0)
            refine hK.out _ _ (by assumption) ?_
            clear hK K
            (try simp only [Act.put, List.setIfInBounds_toArray, List.set_cons_zero, List.set_cons_succ])
          rotate_left
          focus
            go_simp
            (have hv0 := heap_alloc_new w5 (.cells #[.int .i64 x] 3); have hS6 := Below.alloc hS5 hS5.size (.cells #[.int .i64 x] 3))
            refine hK.out _ _ (by assumption) ?_
            clear hK K
            (try simp only [Act.put, List.setIfInBounds_toArray, List.set_cons_zero, List.set_cons_succ])
            refine takeS_alone 31 rfl (by kernel_rfl) (by rfl) (fun K hK => ?_)
            go_simp
            (have hv := keep_alloc hv0 (.cells #[.int .u8 1] 5); have hby := heap_alloc_new (w5.alloc (.cells #[.int .i64 x] 3)) (.cells #[.int .u8 1] 5); rw [World.size_alloc] at hby; have hS7 := Below.alloc hS6 hS6.size (.cells #[.int .u8 1] 5); generalize (w5.alloc (.cells #[.int .i64 x] 3)).alloc (.cells #[.int .u8 1] 5) = w6 at hv hby hS7 ⊢; clear hv0)
            refine hK.out _ _ (by assumption) ?_
            clear hK K
            (try simp only [Act.put, List.setIfInBounds_toArray, List.set_cons_zero, List.set_cons_succ])
          all_goals
            (first | (refine takeS_no 32 rfl (by kernel_rfl) (by kernel_rfl) (by kernel_rfl) (fun _ _ _ h => h) (by rfl) (by assumption) ?_) | (refine takeS_yes (v := ?_) 32 rfl (by kernel_rfl) (by kernel_rfl) (by kernel_rfl) (fun _ _ _ h => h) (by rfl) (by assumption) ?_ ?_; rotate_left; focus (intro wS hSw; obtain ⟨q0, q1⟩ := HC.out wS hSw; go_simp; first | done | with_reducible rfl)))
            (try simp only [Act.put, List.setIfInBounds_toArray, List.set_cons_zero, List.set_cons_succ])
            refine takeS_alone 33 rfl (by kernel_rfl) (by rfl) (fun K hK => ?_)
            go_simp
            (refine (puts_image 1 _ 1 _ 1 1 [x] [1] (by decide) (wf_one HXW.out) rfl (by omega) w6 (0, 0) hv rfl (by intro v hv; rw [List.mem_singleton.1 hv]; omega) (bytes_blk hby rfl) (by omega) (by omega)).mono ?_; rintro e w8 ⟨rfl, hb8⟩; have hS8 : Below w0.heap.size w0 w8 := hS7.trans (hb8.mono hS7.size); clear hb8)
            refine hK.out _ _ (by assumption) ?_
            clear hK K
            (try simp only [Act.put, List.setIfInBounds_toArray, List.set_cons_zero, List.set_cons_succ])
            (first | (refine takeS_no 34 rfl (by kernel_rfl) (by kernel_rfl) (by kernel_rfl) (fun _ _ _ h => h) (by rfl) (by assumption) ?_) | (refine takeS_yes (v := ?_) 34 rfl (by kernel_rfl) (by kernel_rfl) (by kernel_rfl) (fun _ _ _ h => h) (by rfl) (by assumption) ?_ ?_; rotate_left; focus (intro wS hSw; obtain ⟨q0, q1⟩ := HC.out wS hSw; go_simp; first | done | with_reducible rfl)))
            (try simp only [Act.put, List.setIfInBounds_toArray, List.set_cons_zero, List.set_cons_succ])
            (first | (refine takeS_no 35 rfl (by kernel_rfl) (by kernel_rfl) (by kernel_rfl) (fun _ _ _ h => h) (by rfl) (by assumption) ?_) | (refine takeS_yes (v := ?_) 35 rfl (by kernel_rfl) (by kernel_rfl) (by kernel_rfl) (fun _ _ _ h => h) (by rfl) (by assumption) ?_ ?_; rotate_left; focus (intro wS hSw; obtain ⟨q0, q1⟩ := HC.out wS hSw; go_simp; first | done | with_reducible rfl)))
            (try simp only [Act.put, List.setIfInBounds_toArray, List.set_cons_zero, List.set_cons_succ])
            refine wpAnyH_done (by kernel_rfl) ?_ _
            go_wp2_with fail
            go_roundw
            case rel => exact ⟨m + 1, by omega, by go_num, hS8⟩
            case measure => simp [intOf]; omega
        · obtain rfl : m = 11 := by omega
          go_wp2_with fail
          go_roundw
          case rel => exact ⟨i + 1, by omega, by go_num, hB⟩
          case measure => simp [intOf]; omega
    · obtain rfl : i = 11 := by omega
      go_wp2_with fail
      generalize hwq : World.alloc (World.alloc (World.alloc (World.alloc _ _) _) _) _ = w1
      have k1 : w1.heap[wr.heap.size]? = some (.cells (([1, 2, 3, 4, 5, 6, 7] : List Int).map (Value.int .i64)).toArray 3 (0, 0)) := by rw [← hwq]; exact keep_alloc (keep_alloc (keep_alloc (heap_alloc_new wr _) _) _) _
      have k2 : w1.heap[wr.heap.size + 1]? = some (.cells #[.int .i64 1, .int .i64 0, .slice (some ⟨wr.heap.size, 0, none⟩) 7 7, .slice none 0 0] 26 (0, 0)) := by
        rw [← hwq]; refine keep_alloc (keep_alloc ?_ _) _
        have h := heap_alloc_new (wr.alloc (.cells #[.int .i64 1, .int .i64 2, .int .i64 3, .int .i64 4, .int .i64 5, .int .i64 6, .int .i64 7] 3)) (.cells #[.int .i64 1, .int .i64 0, .slice (some ⟨wr.heap.size, 0, none⟩) 7 7, .slice none 0 0] 26)
        rwa [World.size_alloc] at h
      have k3 : w1.heap[wr.heap.size + 1 + 1]? = some (.cells (([1, 2, 3, 4, 5, 6, 7, 8] : List Int).map (Value.int .i64)).toArray 3 (0, 0)) := by
        rw [← hwq]; refine keep_alloc ?_ _
        have h := heap_alloc_new ((wr.alloc (.cells #[.int .i64 1, .int .i64 2, .int .i64 3, .int .i64 4, .int .i64 5, .int .i64 6, .int .i64 7] 3)).alloc (.cells #[.int .i64 1, .int .i64 0, .slice (some ⟨wr.heap.size, 0, none⟩) 7 7, .slice none 0 0] 26)) (.cells #[.int .i64 1, .int .i64 2, .int .i64 3, .int .i64 4, .int .i64 5, .int .i64 6, .int .i64 7, .int .i64 8] 3)
        rwa [World.size_alloc, World.size_alloc] at h
      have k4 : w1.heap[wr.heap.size + 1 + 1 + 1]? = some (.cells #[.int .i64 1, .int .i64 0, .slice (some ⟨wr.heap.size + 1 + 1, 0, none⟩) 8 8, .slice none 0 0] 26 (0, 0)) := by
        rw [← hwq]
        have h := heap_alloc_new (((wr.alloc (.cells #[.int .i64 1, .int .i64 2, .int .i64 3, .int .i64 4, .int .i64 5, .int .i64 6, .int .i64 7] 3)).alloc (.cells #[.int .i64 1, .int .i64 0, .slice (some ⟨wr.heap.size, 0, none⟩) 7 7, .slice none 0 0] 26)).alloc (.cells #[.int .i64 1, .int .i64 2, .int .i64 3, .int .i64 4, .int .i64 5, .int .i64 6, .int .i64 7, .int .i64 8] 3)) (.cells #[.int .i64 1, .int .i64 0, .slice (some ⟨wr.heap.size + 1 + 1, 0, none⟩) 8 8, .slice none 0 0] 26)
        rwa [World.size_alloc, World.size_alloc, World.size_alloc] at h
      have hb1 : Below W.heap.size W w1 := by
        rw [← hwq]
        exact ((((HB0.out.trans (hB.mono HB0.out.size)).alloc (by have := hB.size; have := HB0.out.size; omega) _).alloc (by have := hB.size; have := HB0.out.size; simp; omega) _).alloc (by have := hB.size; have := HB0.out.size; simp; omega) _).alloc (by have := hB.size; have := HB0.out.size; simp; omega) _
      clear hwq
      have L4 := (Array.getElem?_eq_some_iff.1 k4).1
      have HB1 := Lib.hid hb1
      have K1 := Lib.hid k1
      have K2 := Lib.hid k2
      have K3 := Lib.hid k3
      have K4 := Lib.hid k4
      clear hb1 k1 k2 k3 k4 HK0 HB0 hB hlt hi hz0
      refine (small_any w1).mono ?_
      rintro e w2 ⟨x, rfl, hxp, hxf, hxs, b2⟩
      have z2 := b2.size
      have HXP := Lib.hid hxp
      have HXF := Lib.hid hxf
      have HXS := Lib.hid hxs
      have HB2 := Lib.hid (HB1.out.trans (b2.mono HB1.out.size))
      have B12 := Lib.hid b2
      clear b2 hxp hxf hxs
      go_wp2_with fail
      refine (sput_any x w2 HXS.out HXF.out (smallB, 0) (by rw [HXP.out]; exact small_put)).mono ?_
      rintro e w3 ⟨a, n, c, rfl, ho, b3⟩
      obtain rfl : n = 59 := ho.len.symm.trans smallB_len
      obtain ⟨g, rfl⟩ : ∃ g, a = some ⟨g, 0, none⟩ := by
        rcases Go.Joins.ownsRow_forms ho.row with ⟨_, h2⟩ | ⟨g, c', h2⟩
        · omega
        · injection h2 with h3; exact ⟨g, h3⟩
      have z3 := b3.size
      have B13 := Lib.hid (B12.out.trans (b3.mono z2))
      have HB3 := Lib.hid (HB2.out.trans (b3.mono HB2.out.size))
      have HO3 := Lib.hid ho
      have HCAP := Lib.hid (bown_cap ho)
      have k2 := (B13.out.block _ (by omega)).trans K2.out
      have d0 := Go.Joins.cell_of_block k2 0
      have d1 := Go.Joins.cell_of_block k2 1
      have d2 := Go.Joins.cell_of_block k2 2
      have d3 := Go.Joins.cell_of_block k2 3
      clear b3 ho B12 HB2 k2
      go_wp2_with fail
      refine (puts_voters 1 wr.heap.size 7 [1, 2, 3, 4, 5, 6, 7] (by decide) (by decide) rfl (by omega) w3 (0, 0) ((B13.out.block _ (by omega)).trans K1.out)).mono ?_
      rintro e w4 ⟨rfl, b4⟩
      have z4 := b4.size
      have B14 := Lib.hid (B13.out.trans (b4.mono (by omega)))
      have HB4 := Lib.hid (HB3.out.trans (b4.mono HB3.out.size))
      have HO4 := Lib.hid (HO3.out.below b4 (Nat.le_refl _))
      have k4 := (B14.out.block _ (by omega)).trans K4.out
      clear d0 d1 d2 d3
      have d0 := Go.Joins.cell_of_block k4 0
      have d1 := Go.Joins.cell_of_block k4 1
      have d2 := Go.Joins.cell_of_block k4 2
      have d3 := Go.Joins.cell_of_block k4 3
      clear b4 k4 B13 HB3 HO3
      go_wp2_with fail
      refine (puts_voters 1 (wr.heap.size + 1 + 1) 8 [1, 2, 3, 4, 5, 6, 7, 8] (by decide) (by decide) rfl (by omega) w4 (0, 0) ((B14.out.block _ (by omega)).trans K3.out)).mono ?_
      rintro e w5 ⟨rfl, b5⟩
      have z5 := b5.size
      have HB5 := Lib.hid (HB4.out.trans (b5.mono HB4.out.size))
      have HO5 := Lib.hid (HO4.out.below b5 (Nat.le_refl _))
      clear b5 d0 d1 d2 d3 B14 HB4 HO4 K1 K2 K3 K4
      go_wp2_with fail
      refine (copyB_snj (some ⟨g, 0, none⟩) 59 c smallB w5 smallB_len HO5.out.in (fun h => by cases h) (by omega)).mono ?_
      rintro e w6 ⟨a6, c6, rfl, ho6, b6⟩
      have z6 := b6.size
      have HB6 := Lib.hid (HB5.out.trans (b6.mono HB5.out.size))
      have HP6 := Lib.hid (HO5.out.below b6 (Nat.le_refl _))
      have HO6 := Lib.hid (show w6.ownsRow w5.heap.size 5 1 (.slice a6 59 c6) smallB.length (smallB.map bv) by rw [smallB_len]; exact ho6.row)
      clear b6 ho6
      go_wp2_with (refine wpList_append_bytes_snj (by rfl) (.tmp 93) (.tmp 94) rfl w5.heap.size (.slice a6 59 c6) smallB rfl (HO6.out.alloc _) ⟨w6.heap.size, 0, none⟩ 1 [0] rfl (w6.heap.size + 1) (rbytes_new w6 _ [0] _ _ _ _ rfl rfl (by omega)) (by rw [smallB_len]; simp) (by simp; omega) ?_)
      intro v7 w7 L7 HL7 hown7 hg7
      have b7 : Below w6.heap.size w6 (w6.alloc (.cells #[.int .u8 0] 5)) := (Below.refl _ _).alloc (Nat.le_refl _) _
      have HB7 := Lib.hid ((HB6.out.alloc HB6.out.size _).grown hg7 (by have := HB6.out.size; simp; omega) (fun b hb => by have := (HO6.out.lt b hb).1; have := HB5.out.size; omega))
      have HP7 := Lib.hid (BOwn.kept (HP6.out.below b7 (Nat.le_refl _)) hg7 (Or.inr fun e => by have h1 := (HO6.out.lt g e.symm).1; have h2 := (HO5.out.lt g rfl).2; omega))
      obtain ⟨a7, c7, hv7, _⟩ := own_bytes hown7
      subst hv7
      have ho7 : BOwn w7 w5.heap.size a7 L7.length c7 L7 := ⟨rfl, hown7⟩
      have hwf7 : BytesWf L7 := by rw [HL7.out]; intro v hv; rcases List.mem_append.1 hv with h | h; exact smallB_wf v h; rw [List.mem_singleton.1 h]; omega
      have HO7 := Lib.hid ho7
      have HW7 := Lib.hid hwf7
      have z7 : w6.heap.size ≤ w7.heap.size := by have := hg7.size; simp at this; omega
      clear hown7 hg7 b7 HO6 HP6 HB6 ho7 hwf7
      go_wp2_with fail
      refine (snapGets_any a7 L7.length c7 L7 w7 rfl HO7.out.in HW7.out HO7.out.nil (bown_cap HO7.out)).mono ?_
      rintro e w8 ⟨rfl, b8⟩
      have z8 := b8.size
      have HB8 := Lib.hid (HB7.out.trans (b8.mono HB7.out.size))
      have HP8 := Lib.hid (HP7.out.below b8 (Nat.le_refl _))
      clear b8 HO7 HP7 HB7
      go_wp2_with fail
      refine (copyB_snj (some ⟨g, 0, none⟩) 59 c smallB w8 smallB_len HP8.out.in (fun h => by cases h) (by omega)).mono ?_
      rintro e w9 ⟨a9, c9, rfl, ho9, b9⟩
      have z9 := b9.size
      have HB9 := Lib.hid (HB8.out.trans (b9.mono HB8.out.size))
      have HP9 := Lib.hid (HP8.out.below b9 (Nat.le_refl _))
      have HO9 := Lib.hid (show w9.ownsRow w8.heap.size 5 1 (.slice a9 59 c9) smallB.length (smallB.map bv) by rw [smallB_len]; exact ho9.row)
      clear b9 ho9
      go_wp2_with (refine wpList_append_bytes_snj (by rfl) (.tmp 101) (.tmp 102) rfl w8.heap.size (.slice a9 59 c9) smallB rfl HO9.out ⟨g, 0, none⟩ c smallB (by rw [smallB_len]; rfl) w9.heap.size HP9.out.in (by rw [smallB_len]; omega) (by omega) ?_)
      intro v10 w10 L10 HL10 hown10 hg10
      have HB10 := Lib.hid (HB9.out.grown hg10 HB9.out.size (fun b hb => by have := (HO9.out.lt b hb).1; have := HB8.out.size; omega))
      have HP10 := Lib.hid (BOwn.kept HP9.out hg10 (Or.inr fun e => by have h1 := (HO9.out.lt g e.symm).1; have h2 := (HP8.out.lt g rfl).2; omega))
      obtain ⟨a10, c10, hv10, _⟩ := own_bytes hown10
      subst hv10
      have ho10 : BOwn w10 w8.heap.size a10 L10.length c10 L10 := ⟨rfl, hown10⟩
      have hwf10 : BytesWf L10 := by rw [HL10.out]; intro v hv; rcases List.mem_append.1 hv with h | h <;> exact smallB_wf v h
      have HO10 := Lib.hid ho10
      have HW10 := Lib.hid hwf10
      clear hown10 hg10 HO9 HP9 HB9 ho10 hwf10
      go_wp2_with fail
      refine (snapGets_any a10 L10.length c10 L10 w10 rfl HO10.out.in HW10.out HO10.out.nil (bown_cap HO10.out)).mono ?_
      rintro e w11 ⟨rfl, b11⟩
      have HB11 := Lib.hid (HB10.out.trans (b11.mono HB10.out.size))
      have HP11 := Lib.hid (HP10.out.below b11 (Nat.le_refl _))
      clear b11 HO10 HP10 HB10
      go_wp2_with fail
      go_loopw [8, 9, 10, 11, 12, 13] (fun i _ _ _ _ _ wr2 => ∃ k : Nat, k ≤ 59 ∧ i = .int .i64 k ∧ Below w11.heap.size w11 wr2) (fun i _ _ _ _ _ _ => 59 - (intOf i).toNat)
      case atStart => exact ⟨0, by omega, rfl, Below.refl _ _⟩
      case round =>
        obtain ⟨k, hk, rfl, hb⟩ := hrel
        have HPR := Lib.hid (HP11.out.below hb (Nat.le_refl _))
        by_cases hk59 : k < 59
        · have i2 : (k : Int) < 59 := by omega
          go_wp2_with fail
          refine (copyB_snj (some ⟨g, 0, none⟩) 59 c smallB wr smallB_len HPR.out.in (fun h => by cases h) (by omega)).mono ?_
          rintro e v1 ⟨a1, c1, rfl, ho1, b1⟩
          obtain ⟨g1, rfl⟩ : ∃ g1, a1 = some ⟨g1, 0, none⟩ := by
            rcases Go.Joins.ownsRow_forms ho1.row with ⟨_, h2⟩ | ⟨g1, c', h2⟩
            · omega
            · injection h2 with h3; exact ⟨g1, h3⟩
          obtain ⟨y, hy⟩ : ∃ y, smallB.getD k 0 = y := ⟨_, rfl⟩
          have hkl : k < smallB.length := by rw [smallB_len]; exact hk59
          have hyk : smallB[k] = y := by rw [← hy]; simp [List.getD, List.getElem?_eq_getElem hkl]
          have hyb : 0 ≤ y ∧ y < 256 := by rw [← hyk]; exact smallB_wf _ (List.getElem_mem hkl)
          have hcl : v1.cell? ⟨g1, k, none⟩ = some (.int .u8 y) := by
            have h := World.ownsRow.cellAt ho1.row k (by omega)
            rw [h, List.getElem?_map, List.getElem?_eq_getElem hkl, hyk]
            rfl
          obtain ⟨z, hz⟩ : ∃ z, (y + 1) % 256 = z := ⟨_, rfl⟩
          have hwz : IntKind.u8.wrap (y + 1) = z := by rw [← hz]; unfold IntKind.wrap; simp [IntKind.signed, IntKind.bits]
          have hfz := World.ownsRow.frozenAt ho1.row k
          have hset : BytesIn (v1.setCell ⟨g1, k, none⟩ (.int .u8 z)) v1.heap.size (some ⟨g1, 0, none⟩) (turnB k) := by
            have h := bytes_set (y := 0) (z := z) ho1.in hkl
            unfold turnB
            rw [hy, hz]
            exact h
          have hgs : v1.grownBy (v1.setCell ⟨g1, k, none⟩ (.int .u8 z)) (some g1) := grown_set v1 ⟨g1, k, none⟩ (.int .u8 z)
          have hl1 := ho1.lt g1 rfl
          have HB1 := Lib.hid ((hb.trans (b1.mono hb.size)).grown hgs (Nat.le_trans hb.size b1.size) (fun q hq => by cases hq; have := hb.size; omega))
          have HPS := Lib.hid (BOwn.kept (HPR.out.below b1 (Nat.le_refl _)) hgs (Or.inr fun e => by have h2 := (HPR.out.lt g rfl).2; have h3 : g = g1 := Option.some.inj e; have h4 := hl1.1; omega))
          have HSET := Lib.hid (hset.mono (B' := (v1.setCell ⟨g1, k, none⟩ (.int .u8 z)).heap.size) (by simp))
          have HCP := Lib.hid (bown_cap ho1)
          clear ho1 b1 hset hgs hl1 hyk hkl hyb hy hz
          go_wp2_with fail
          generalize v1.setCell ⟨g1, k, none⟩ (.int .u8 z) = v2 at HB1 HPS HSET ⊢
          refine (sget_any (some ⟨g1, 0, none⟩) 59 c1 (turnB k) v2 (by unfold turnB; rw [List.length_set, smallB_len]) HSET.out turn_wf (fun h => by cases h) HCP.out (by omega) (zeroSn, 4) (numB_turned hk59)).mono ?_
          rintro e v3 ⟨⟨si, st, va, xs, vc, ia, im, ic⟩, rfl, _, _, _, b3⟩
          clear hcl hfz hwz
          dsimp only [snVal]
          go_upto_region 21 with fail
          have b4 : Below v2.heap.size v2 (v3.alloc (.cells #[.int .i64 si, .int .i64 st, .slice va xs.length vc, .slice ia im.length ic] 26)) := b3.alloc b3.size _
          generalize v3.alloc (.cells #[.int .i64 si, .int .i64 st, .slice va xs.length vc, .slice ia im.length ic] 26) = v4 at b4 ⊢
          have HB4 := Lib.hid (HB1.out.trans (b4.mono HB1.out.size))
          have HP4 := Lib.hid (HPS.out.below b4 (Nat.le_refl _))
          have hsl : ∀ w', (Instr.sliceAt 24 (.slice (some ⟨g, 0, none⟩) 59 c) none (some (.int .i64 (k : Int))) none).run Tryz.prog w' = .ok (.slice (subA (some ⟨g, 0, none⟩) c 0 1) k c) w' := fun w' => run_sub_h sliceBJ sizeBJ _ 59 c k (by have := HCAP.out; omega) .i64 k rfl w'
          have hsn : subA (some ⟨g, 0, none⟩) c 0 1 = some ⟨g, 0, none⟩ := subA_zero (some ⟨g, 0, none⟩) c 1 (fun x hx => by cases hx; rfl)
          rw [hsn] at hsl
          clear b3 b4 HB1 HPS HSET hsn
          go_wp2_with fail
          refine (sget_any (some ⟨g, 0, none⟩) k c (smallB.take k) v4 (by rw [List.length_take, smallB_len]; omega) (HP4.out.in.take k) (smallB_wf.take k) (fun h => by cases h) (by have := HCAP.out; omega) (by omega) (zeroSn, 4) (numB_cut hk59)).mono ?_
          rintro e v5 ⟨⟨si, st, va, xs, vc, ia, im, ic⟩, rfl, _, _, _, b5⟩
          have hb6 : Below w11.heap.size w11 (v5.alloc (.cells #[.int .i64 si, .int .i64 st, .slice va xs.length vc, .slice ia im.length ic] 26)) := (HB4.out.trans (b5.mono HB4.out.size)).alloc (Nat.le_trans HB4.out.size b5.size) _
          clear hsl b5
          dsimp only [snVal]
          go_upto_region 22 with fail
          generalize v5.alloc (.cells #[.int .i64 si, .int .i64 st, .slice va xs.length vc, .slice ia im.length ic] 26) = v6 at hb6 ⊢
          go_wp2_with fail
          go_roundw
          case rel => exact ⟨_, _, ⟨k + 1, by omega, rfl⟩, rfl, by go_num, rfl⟩
          case measure => simp [intOf]; omega
        · obtain rfl : k = 59 := by omega
          have hmA : ∀ w, (Instr.makeSlice 24 (.int .i64 1048552) (.int .i64 1048552)).run Tryz.prog w = .ok (.slice (some ⟨w.heap.size, 0, none⟩) 1048552 1048552) (w.alloc (.cells (madeCells #[.int .u8 0] 1048552) 5)) := fun w => run_make_row' (P := Tryz.prog) 24 5 (.int .u8 0) 1 Tryz.underlying24 infoByte rfl .i64 .i64 1048552 (by omega) (by omega) w
          go_upto_region 25 with fail
          have hmi := made_snj wr 1048552 (wr.heap.size + 1) wr.heap.size rfl (by omega)
          have hml : (List.replicate 1048552 (0 : Int)).length = 1048552 := List.length_replicate
          have hmw : BytesWf (List.replicate 1048552 0) := fun v hv => by rw [List.eq_of_mem_replicate hv]; omega
          obtain ⟨im, him⟩ : ∃ im, List.replicate 1048552 (0 : Int) = im := ⟨_, rfl⟩
          rw [him] at hmi hml hmw
          clear him
          have hb0 : Below w11.heap.size w11 (wr.alloc (.cells (madeCells #[.int .u8 0] 1048552) 5)) := hb.alloc hb.size _
          have hz0 : (wr.alloc (.cells (madeCells #[.int .u8 0] 1048552) 5)).heap.size = wr.heap.size + 1 := World.size_alloc _ _
          generalize wr.alloc (.cells (madeCells #[.int .u8 0] 1048552) 5) = t0 at hmi hb0 hz0 ⊢
          have hk1 := heap_alloc_new t0 (.cells #[.int .i64 1, .int .i64 0, .slice none 0 0, .slice (some ⟨wr.heap.size, 0, none⟩) 1048552 1048552] 26)
          have hb1 := hb0.alloc hb0.size (.cells #[.int .i64 1, .int .i64 0, .slice none 0 0, .slice (some ⟨wr.heap.size, 0, none⟩) 1048552 1048552] 26)
          have hm1 := (hmi.below ((Below.refl t0.heap.size t0).alloc (Nat.le_refl _) (.cells #[.int .i64 1, .int .i64 0, .slice none 0 0, .slice (some ⟨wr.heap.size, 0, none⟩) 1048552 1048552] 26)) (by omega)).mono (B' := (t0.alloc (.cells #[.int .i64 1, .int .i64 0, .slice none 0 0, .slice (some ⟨wr.heap.size, 0, none⟩) 1048552 1048552] 26)).heap.size) (by simp; omega)
          rw [hz0] at hk1
          generalize t0.alloc (.cells #[.int .i64 1, .int .i64 0, .slice none 0 0, .slice (some ⟨wr.heap.size, 0, none⟩) 1048552 1048552] 26) = t1 at hk1 hb1 hm1 ⊢
          have hlt1 := (Array.getElem?_eq_some_iff.1 hk1).1
          have HK1 := Lib.hid hk1
          have HBT1 := Lib.hid hb1
          have HM1 := Lib.hid hm1
          have HML := Lib.hid hml
          have HMW := Lib.hid hmw
          have d0 := Go.Joins.cell_of_block hk1 0
          have d1 := Go.Joins.cell_of_block hk1 1
          have d2 := Go.Joins.cell_of_block hk1 2
          have d3 := Go.Joins.cell_of_block hk1 3
          have hLl := snPut_len ⟨1, 0, [], im⟩
          have hLw := snPut_wf (s := ⟨1, 0, [], im⟩) hmw
          have hLg := long_get hmw hml
          have hLp := long_put hml
          rw [hLp] at hLl hLw
          obtain ⟨L, hL⟩ : ∃ L, frameB 1 (snData ⟨1, 0, [], im⟩) = L := ⟨_, rfl⟩
          rw [hL] at hLl hLw hLg hLp
          have HLL := Lib.hid hLl
          have HLW := Lib.hid hLw
          have HLG := Lib.hid hLg
          have HLP := Lib.hid hLp
          have HZW := Lib.hid hb.size
          clear hk1 hb1 hm1 hml hmw hmi hb0 hz0 hmA hLl hLw hLg hLp hL hb HPR
          go_wp2_with fail
          refine (sput_lit im wr.heap.size 1048552 HML.out HMW.out (by omega) t1 HM1.out (L, 0) HLP.out).mono ?_
          rintro e t2 ⟨a2, n2, c2, rfl, ho2, hb2⟩
          have HO2 := Lib.hid ho2
          have HK2 := Lib.hid ((hb2.block _ hlt1).trans HK1.out)
          have HBT2 := Lib.hid (HBT1.out.trans (hb2.mono HBT1.out.size))
          have hlt2 := Nat.lt_of_lt_of_le hlt1 hb2.size
          clear ho2 hb2 d0 d1 d2 d3 HK1 HBT1 HM1
          go_wp2_with fail
          refine (sget_any a2 n2 c2 L t2 HO2.out.len HO2.out.in HLW.out HO2.out.nil (bown_cap HO2.out) (by have h1 : L.length = n2 := HO2.out.len; have h2 : L.length ≤ 1048585 := HLL.out; omega) (⟨1, 0, [], im⟩, 0) HLG.out).mono ?_
          rintro e t3 ⟨⟨si, st, va, xs, vc, ia, jm, ic⟩, rfl, hxp, _, _, hb3⟩
          have hj : jm.length = 1048552 := by
            simp only [Sn.plain, SnP.mk.injEq] at hxp
            rw [hxp.2.2.2]; exact HML.out
          dsimp only [snVal]
          rw [hj]
          clear hxp hj
          go_upto_region 27 with fail
          have hk4 := heap_alloc_new t3 (.cells #[.int .i64 si, .int .i64 st, .slice va xs.length vc, .slice ia 1048552 ic] 26)
          have hk4b := keep_alloc ((hb3.block _ hlt2).trans HK2.out) (.cells #[.int .i64 si, .int .i64 st, .slice va xs.length vc, .slice ia 1048552 ic] 26)
          have hb4 := (HBT2.out.trans (hb3.mono HBT2.out.size)).alloc (Nat.le_trans HBT2.out.size hb3.size) (.cells #[.int .i64 si, .int .i64 st, .slice va xs.length vc, .slice ia 1048552 ic] 26)
          have hz3 := hb3.size
          generalize t3.alloc (.cells #[.int .i64 si, .int .i64 st, .slice va xs.length vc, .slice ia 1048552 ic] 26) = t4 at hk4 hk4b hb4 ⊢
          have hlt4 := (Array.getElem?_eq_some_iff.1 hk4).1
          have hmi2 := made_snj t4 1048553 (t4.heap.size + 1) t4.heap.size rfl (by omega)
          have hml2 : (List.replicate 1048553 (0 : Int)).length = 1048553 := List.length_replicate
          have hmw2 : BytesWf (List.replicate 1048553 0) := fun v hv => by rw [List.eq_of_mem_replicate hv]; omega
          obtain ⟨im2, him2⟩ : ∃ im2, List.replicate 1048553 (0 : Int) = im2 := ⟨_, rfl⟩
          rw [him2] at hmi2 hml2 hmw2
          have HMI2 := Lib.hid hmi2
          have HML2 := Lib.hid hml2
          have HMW2 := Lib.hid hmw2
          have HK4 := Lib.hid hk4
          have HK4B := Lib.hid hk4b
          have HBT4 := Lib.hid hb4
          have e3 : ∀ o, (t4.alloc o).cell? ⟨wr.heap.size + 1, 3, none⟩ = some (.slice (some ⟨wr.heap.size, 0, none⟩) 1048552 1048552) := fun o => Go.Joins.cell_of_block (keep_alloc HK4B.out o) 3
          have f3 : ∀ o, (t4.alloc o).frozen? ⟨wr.heap.size + 1, 3, none⟩ = false := fun o => Go.Joins.unfrozen_of_block (keep_alloc HK4B.out o) 3
          have hmB : ∀ w, (Instr.makeSlice 24 (.int .i64 1048553) (.int .i64 1048553)).run Tryz.prog w = .ok (.slice (some ⟨w.heap.size, 0, none⟩) 1048553 1048553) (w.alloc (.cells (madeCells #[.int .u8 0] 1048553) 5)) := fun w => run_make_row' (P := Tryz.prog) 24 5 (.int .u8 0) 1 Tryz.underlying24 infoByte rfl .i64 .i64 1048553 (by omega) (by omega) w
          clear him2 hmi2 hml2 hmw2 hk4 hk4b hb4 hb3 HK2 HBT2 HO2
          go_upto_region 28 with fail
          have hk5 := keep_alloc HK4.out (.cells (madeCells #[.int .u8 0] 1048553) 5)
          have hk5b := keep_alloc HK4B.out (.cells (madeCells #[.int .u8 0] 1048553) 5)
          have hb5 := HBT4.out.alloc HBT4.out.size (.cells (madeCells #[.int .u8 0] 1048553) 5)
          have hm5 := HMI2.out
          have hz5 : (t4.alloc (.cells (madeCells #[.int .u8 0] 1048553) 5)).heap.size = t4.heap.size + 1 := World.size_alloc _ _
          clear e3 f3 hmB HMI2
          generalize t4.alloc (.cells (madeCells #[.int .u8 0] 1048553) 5) = t5 at hk5 hk5b hb5 hm5 hz5 ⊢
          have hg6 := grown_set t5 ⟨wr.heap.size + 1, 3, none⟩ (.slice (some ⟨t4.heap.size, 0, none⟩) 1048553 1048553)
          have hk6b : (t5.setCell ⟨wr.heap.size + 1, 3, none⟩ (.slice (some ⟨t4.heap.size, 0, none⟩) 1048553 1048553)).heap[wr.heap.size + 1]? = some (.cells #[.int .i64 1, .int .i64 0, .slice none 0 0, .slice (some ⟨t4.heap.size, 0, none⟩) 1048553 1048553] 26 (0, 0)) := by
            have h := Go.Joins.block_setCell (i := 3) hk5b (.slice (some ⟨t4.heap.size, 0, none⟩) 1048553 1048553)
            simpa using h
          have hlt5 := (Array.getElem?_eq_some_iff.1 HK4B.out).1
          have hk6 := (hg6.block t3.heap.size (by omega) (fun e => by have h : t3.heap.size = wr.heap.size + 1 := Option.some.inj e; omega)).trans hk5
          have hb6 : Below w11.heap.size w11 _ := hb5.grown hg6 hb5.size (fun q hq => by have h : wr.heap.size + 1 = q := Option.some.inj hq; have := HZW.out; omega)
          have hm6 := bytes_far (q := wr.heap.size + 1) hm5 hg6 (by omega) (by omega)
          generalize t5.setCell ⟨wr.heap.size + 1, 3, none⟩ (.slice (some ⟨t4.heap.size, 0, none⟩) 1048553 1048553) = t6 at hg6 hk6 hk6b hb6 hm6 ⊢
          have HK6 := Lib.hid hk6
          have HM6 := Lib.hid (hm6.mono (B' := t6.heap.size) (by have := hg6.size; omega))
          have HBT6 := Lib.hid hb6
          have hlt6 := (Array.getElem?_eq_some_iff.1 hk6).1
          have d0 := Go.Joins.cell_of_block hk6b 0
          have d1 := Go.Joins.cell_of_block hk6b 1
          have d2 := Go.Joins.cell_of_block hk6b 2
          have d3 := Go.Joins.cell_of_block hk6b 3
          clear hk5 hk5b hb5 hm5 hz5 hg6 hk6b hk6 hb6 hm6
          go_wp2_with fail
          refine (sput_lit im2 t4.heap.size 1048553 HML2.out HMW2.out (by omega) t6 HM6.out ([], 3) (long_more HML2.out)).mono ?_
          rintro e t7 ⟨a7', n7, c7', rfl, _, hb7⟩
          have hk7 := (hb7.block _ hlt6).trans HK6.out
          have HBT7 := Lib.hid (HBT6.out.trans (hb7.mono HBT6.out.size))
          have e3 := Go.Joins.cell_of_block hk7 3
          clear d0 d1 d2 d3 hb7 hk7
          go_wp2_with fail
          refine (snapGets_any none 0 0 [] t7 rfl (Or.inl rfl) (fun v hv => by cases hv) (fun _ => rfl) (Nat.le_refl _)).mono ?_
          rintro e t8 ⟨rfl, hb8⟩
          have HBT8 := Lib.hid (HBT7.out.trans (hb8.mono HBT7.out.size))
          clear e3 hb8
          go_wp2_with fail
          refine (awake19_any t8).mono ?_
          rintro e t9 ⟨rfl, hb9⟩
          have hfin := HB11.out.trans ((HBT8.out.trans (hb9.mono HBT8.out.size)).mono HB11.out.size)
          clear hb9
          go_wp2_with fail
          go_ret
          exact ⟨rfl, hfin⟩
end Go.Proofs.YtejgebpdipnhmaaGreatDoor
