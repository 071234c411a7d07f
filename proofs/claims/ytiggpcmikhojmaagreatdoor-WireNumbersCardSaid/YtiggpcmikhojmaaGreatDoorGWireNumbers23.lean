/- The law WireWrites, walked. Conditions: the thing lies in memory as it is read. -/
import Derived.Test.YtiggpcmikhojmaaGreatDoorGWireNumbers13
import Derived.Test.YtiggpcmikhojmaaGreatDoorGWireNumbers19
import Derived.Test.YtiggpcmikhojmaaGreatDoorGWireNumbers20
import Derived.Test.YtiggpcmikhojmaaGreatDoorGWireNumbers8
import Derived.Test.YtiggpcmikhojmaaGreatDoorGWireNumbers15
import Derived.Test.YtiggpcmikhojmaaGreatDoorGWireNumbers22
set_option linter.unusedVariables false
namespace Go.Proofs.YtiggpcmikhojmaaGreatDoor
open Go.RowKit
set_option maxRecDepth 20000
theorem great_arr (t : Th) (A : Array Value) (hA : thArr t = A) (w : World) (hx : ThIn w w.heap.size t) (hw : ThWf t) (g : Bool) (hg : decide (2000 < greatN t) = g) :
    Calls Tryz.prog 21 #[.agg A] w fun e w' => e = .returned (.bool g) ∧ Below w.heap.size w w' := by
  subst hA hg
  exact great_any t w hx hw
set_option maxHeartbeats 20000000 in
theorem walk_writes (W : World) (t : Th) (A : Array Value) (hA : thArr t = A) (hx : ThIn W W.heap.size t) (hw : ThWf t) :
    Calls Tryz.prog 5 #[.agg A] W fun e w' => e = .returned (.bool true) ∧ Below W.heap.size W w' := by
  have hb0 := (Below.refl W.heap.size W).alloc (Nat.le_refl _) (.cells A 40)
  have hk := heap_alloc_new W (.cells A 40)
  have hs0 : (W.alloc (.cells A 40)).heap.size = W.heap.size + 1 := by simp
  have hlen : A.toList.length = 26 := hA ▸ thArr_size t
  have hinfo : (Tryz.prog.info? 40).map (·.size) = some A.toList.length := hlen ▸ info_th
  have HINFO := Lib.hid hinfo
  have HB0 := Lib.hid hb0
  have HK := Lib.hid hk
  have HS0 := Lib.hid hs0
  have HX := Lib.hid hx
  have HW := Lib.hid hw
  have HA := Lib.hid hA
  clear hb0 hk hs0 hx hw hA hlen hinfo
  go_enter Tryz.func5, Tryz.ntmps5
  obtain ⟨w0, hw0⟩ : ∃ w, W.alloc (.cells A 40) = w := ⟨_, rfl⟩
  have hb0 := HB0.out
  have hk := HK.out
  have hs0 := HS0.out
  rw [hw0] at hb0 hk hs0
  clear HB0 HK HS0
  have HW0 := Lib.hid hw0
  have hk2 : w0.heap[W.heap.size]? = some (thObj t) := by rw [← thObj_arr, HA.out]; exact hk
  have HTC := Lib.hid (fun w' (h : Below (W.heap.size + 1) w0 w') => (th_cells hk2 h : ThCells t W.heap.size w'))
  have HTR := Lib.hid (fun w' (h : Below (W.heap.size + 1) w0 w') => th_ranges (th_cells hk2 h))
  have HTA := Lib.hid (fun w' (h : Below (W.heap.size + 1) w0 w') => (range_block ((h.block W.heap.size (Nat.lt_succ_self _)).trans hk) : w'.rangeAt W.heap.size 0 A.toList))
  have HTI := Lib.hid (fun w' (h : Below (W.heap.size + 1) w0 w') => (HX.out.below (hb0.trans (h.mono (Nat.le_succ _))) : ThIn w' W.heap.size t))
  have HSZ := Lib.hid (fun w' (h : Below (W.heap.size + 1) w0 w') => (show W.heap.size + 1 ≤ w'.heap.size from hs0 ▸ h.size))
  have HEND := Lib.hid (fun w' (h : Below (W.heap.size + 1) w0 w') => hb0.trans (h.mono (Nat.le_succ _)))
  have HR0 := Lib.hid (show (W.alloc (.cells A 40)).rangeAt W.heap.size 0 A.toList by rw [hw0]; exact HTA.out w0 (Below.refl _ _))
  have b0 := Below.refl (W.heap.size + 1) w0
  clear hb0 hk hs0 hk2 HX hw0
  obtain ⟨g0, hg0⟩ : ∃ g, decide (2000 < greatN t) = g := ⟨_, rfl⟩
  go_wp2_with (refine wpList_load_mid rfl 40 (.tmp 1) rfl W.heap.size 0 rfl A.toList _ HR0.out Tryz.underlying40 rfl HINFO.out ?_)
  rw [HW0.out]
  refine (great_arr t A HA.out w0 ((HTI.out w0 b0).mono (Nat.le_of_lt (HSZ.out w0 b0))) HW.out g0 hg0).mono ?_
  rintro e w2 ⟨rfl, hb⟩
  have b2 := b0.trans (hb.mono (HSZ.out w0 b0))
  clear hb HR0 b0
  have HG0 := Lib.hid hg0
  clear hg0
  cases g0 with
  | true =>
    go_wp2_with fail
    refine (awake02_any w2).mono ?_
    rintro e w3 ⟨rfl, hb⟩
    have b3 := b2.trans (hb.mono (HSZ.out w2 b2))
    clear hb
    go_wp2_with fail
    go_ret
    exact ⟨rfl, HEND.out w3 b3⟩
  | false =>
  go_wp2_with fail
  refine heldS_begin (fun w' => Below (W.heap.size + 1) w0 w') (by kernel_rfl) (Below.drew b2) ?_
  intro hS0
  (first | (refine takeS_no 0 rfl (by kernel_rfl) (by kernel_rfl) (by kernel_rfl) (fun _ _ _ h => h) (by rfl) (by assumption) ?_) | (refine takeS_yes (v := ?_) 0 rfl (by kernel_rfl) (by kernel_rfl) (by kernel_rfl) (fun _ _ _ h => h) (by rfl) (by assumption) ?_ ?_; rotate_left; focus (intro wS hSw; obtain ⟨d0, d1, d2, d3, d4, d5, d6, d7, d8, d9, d10, d11, d12, d13, d14, d15, d16, d17, d18, d19, d20, d21, d22, d23, d24, d25⟩ := HTC.out wS hSw; go_simp; first | done | with_reducible rfl)))
  (try simp only [Act.put, List.setIfInBounds_toArray, List.set_cons_zero, List.set_cons_succ])
  (first | (refine takeS_no 1 rfl (by kernel_rfl) (by kernel_rfl) (by kernel_rfl) (fun _ _ _ h => h) (by rfl) (by assumption) ?_) | (refine takeS_yes (v := ?_) 1 rfl (by kernel_rfl) (by kernel_rfl) (by kernel_rfl) (fun _ _ _ h => h) (by rfl) (by assumption) ?_ ?_; rotate_left; focus (intro wS hSw; obtain ⟨d0, d1, d2, d3, d4, d5, d6, d7, d8, d9, d10, d11, d12, d13, d14, d15, d16, d17, d18, d19, d20, d21, d22, d23, d24, d25⟩ := HTC.out wS hSw; go_simp; first | done | with_reducible rfl)))
  (try simp only [Act.put, List.setIfInBounds_toArray, List.set_cons_zero, List.set_cons_succ])
  (first | (refine takeS_no 3 rfl (by kernel_rfl) (by kernel_rfl) (by kernel_rfl) (fun _ _ _ h => h) (by rfl) (by assumption) ?_) | (refine takeS_yes (v := ?_) 3 rfl (by kernel_rfl) (by kernel_rfl) (by kernel_rfl) (fun _ _ _ h => h) (by rfl) (by assumption) ?_ ?_; rotate_left; focus (intro wS hSw; obtain ⟨d0, d1, d2, d3, d4, d5, d6, d7, d8, d9, d10, d11, d12, d13, d14, d15, d16, d17, d18, d19, d20, d21, d22, d23, d24, d25⟩ := HTC.out wS hSw; go_simp; first | done | with_reducible rfl)))
  (try simp only [Act.put, List.setIfInBounds_toArray, List.set_cons_zero, List.set_cons_succ])
  (first | (refine takeS_no 4 rfl (by kernel_rfl) (by kernel_rfl) (by kernel_rfl) (fun _ _ _ h => h) (by rfl) (by assumption) ?_) | (refine takeS_yes (v := ?_) 4 rfl (by kernel_rfl) (by kernel_rfl) (by kernel_rfl) (fun _ _ _ h => h) (by rfl) (by assumption) ?_ ?_; rotate_left; focus (intro wS hSw; obtain ⟨d0, d1, d2, d3, d4, d5, d6, d7, d8, d9, d10, d11, d12, d13, d14, d15, d16, d17, d18, d19, d20, d21, d22, d23, d24, d25⟩ := HTC.out wS hSw; go_simp; first | done | with_reducible rfl)))
  (try simp only [Act.put, List.setIfInBounds_toArray, List.set_cons_zero, List.set_cons_succ])
  (first | (refine takeS_no 6 rfl (by kernel_rfl) (by kernel_rfl) (by kernel_rfl) (fun _ _ _ h => h) (by rfl) (by assumption) ?_) | (refine takeS_yes (v := ?_) 6 rfl (by kernel_rfl) (by kernel_rfl) (by kernel_rfl) (fun _ _ _ h => h) (by rfl) (by assumption) ?_ ?_; rotate_left; focus (intro wS hSw; obtain ⟨d0, d1, d2, d3, d4, d5, d6, d7, d8, d9, d10, d11, d12, d13, d14, d15, d16, d17, d18, d19, d20, d21, d22, d23, d24, d25⟩ := HTC.out wS hSw; go_simp; first | done | with_reducible rfl)))
  (try simp only [Act.put, List.setIfInBounds_toArray, List.set_cons_zero, List.set_cons_succ])
  (first | (refine takeS_no 7 rfl (by kernel_rfl) (by kernel_rfl) (by kernel_rfl) (fun _ _ _ h => h) (by rfl) (by assumption) ?_) | (refine takeS_yes (v := ?_) 7 rfl (by kernel_rfl) (by kernel_rfl) (by kernel_rfl) (fun _ _ _ h => h) (by rfl) (by assumption) ?_ ?_; rotate_left; focus (intro wS hSw; obtain ⟨d0, d1, d2, d3, d4, d5, d6, d7, d8, d9, d10, d11, d12, d13, d14, d15, d16, d17, d18, d19, d20, d21, d22, d23, d24, d25⟩ := HTC.out wS hSw; go_simp; first | done | with_reducible rfl)))
  (try simp only [Act.put, List.setIfInBounds_toArray, List.set_cons_zero, List.set_cons_succ])
  (first | (refine takeS_no 9 rfl (by kernel_rfl) (by kernel_rfl) (by kernel_rfl) (fun _ _ _ h => h) (by rfl) (by assumption) ?_) | (refine takeS_yes (v := ?_) 9 rfl (by kernel_rfl) (by kernel_rfl) (by kernel_rfl) (fun _ _ _ h => h) (by rfl) (by assumption) ?_ ?_; rotate_left; focus (intro wS hSw; obtain ⟨d0, d1, d2, d3, d4, d5, d6, d7, d8, d9, d10, d11, d12, d13, d14, d15, d16, d17, d18, d19, d20, d21, d22, d23, d24, d25⟩ := HTC.out wS hSw; go_simp; first | done | with_reducible rfl)))
  (try simp only [Act.put, List.setIfInBounds_toArray, List.set_cons_zero, List.set_cons_succ])
  (first | (refine takeS_no 10 rfl (by kernel_rfl) (by kernel_rfl) (by kernel_rfl) (fun _ _ _ h => h) (by rfl) (by assumption) ?_) | (refine takeS_yes (v := ?_) 10 rfl (by kernel_rfl) (by kernel_rfl) (by kernel_rfl) (fun _ _ _ h => h) (by rfl) (by assumption) ?_ ?_; rotate_left; focus (intro wS hSw; obtain ⟨d0, d1, d2, d3, d4, d5, d6, d7, d8, d9, d10, d11, d12, d13, d14, d15, d16, d17, d18, d19, d20, d21, d22, d23, d24, d25⟩ := HTC.out wS hSw; go_simp; first | done | with_reducible rfl)))
  (try simp only [Act.put, List.setIfInBounds_toArray, List.set_cons_zero, List.set_cons_succ])
  (first | (refine takeS_no 12 rfl (by kernel_rfl) (by kernel_rfl) (by kernel_rfl) (fun _ _ _ h => h) (by rfl) (by assumption) ?_) | (refine takeS_yes (v := ?_) 12 rfl (by kernel_rfl) (by kernel_rfl) (by kernel_rfl) (fun _ _ _ h => h) (by rfl) (by assumption) ?_ ?_; rotate_left; focus (intro wS hSw; obtain ⟨d0, d1, d2, d3, d4, d5, d6, d7, d8, d9, d10, d11, d12, d13, d14, d15, d16, d17, d18, d19, d20, d21, d22, d23, d24, d25⟩ := HTC.out wS hSw; go_simp; first | done | with_reducible rfl)))
  (try simp only [Act.put, List.setIfInBounds_toArray, List.set_cons_zero, List.set_cons_succ])
  (first | (refine takeS_no 13 rfl (by kernel_rfl) (by kernel_rfl) (by kernel_rfl) (fun _ _ _ h => h) (by rfl) (by assumption) ?_) | (refine takeS_yes (v := ?_) 13 rfl (by kernel_rfl) (by kernel_rfl) (by kernel_rfl) (fun _ _ _ h => h) (by rfl) (by assumption) ?_ ?_; rotate_left; focus (intro wS hSw; obtain ⟨d0, d1, d2, d3, d4, d5, d6, d7, d8, d9, d10, d11, d12, d13, d14, d15, d16, d17, d18, d19, d20, d21, d22, d23, d24, d25⟩ := HTC.out wS hSw; go_simp; first | done | with_reducible rfl)))
  (try simp only [Act.put, List.setIfInBounds_toArray, List.set_cons_zero, List.set_cons_succ])
  have hne : ¬ 2000 < greatN t := by simpa using HG0.out
  have HS := Lib.hid (great_small t (Int.not_lt.1 hne))
  have b2d := Below.drew b2
  have hst : St3 t W A w0 9 (lst3 0 false false false false) (fr3 t W A undef undef undef undef undef undef undef undef undef) w2.drew :=
    ⟨0, false, false, false, false, undef, undef, undef, undef, undef, undef, undef, undef, undef, rfl, rfl, by omega, rfl, ⟨b2d, HSZ.out _ b2d, fun h => absurd h (by omega), fun h => absurd h (by omega), fun h => absurd h (by omega), fun h => absurd h (by omega), fun h => absurd h (by omega), fun h => (by cases h), fun h => (by cases h), fun h => (by cases h), fun h => (by cases h)⟩⟩
  clear hne HG0
  refine weave_at (St3 t W A w0) 5 9 (lst3 0 false false false false) (fr3 t W A undef undef undef undef undef undef undef undef undef) (by kernel_rfl) rfl hst ?_ ?_ ?_
  · rintro n listed a w ⟨c, y15, y16, y17, y18, v4, v5, v6, v7, v17, v20, v23, v26, v29, rfl, rfl, hc, hn, h⟩
    clear hst hS0
    obtain rfl | rfl | rfl | rfl | rfl | rfl : c = 0 ∨ c = 1 ∨ c = 2 ∨ c = 3 ∨ c = 4 ∨ c = 5 := by omega
    · cases y15 <;> cases y16 <;> cases y17 <;> cases y18
      · refine ⟨[2, 15, 16, 17, 18], by kernel_rfl, by simp, fun i hi => ?_⟩
        simp only [List.mem_cons, List.not_mem_nil, or_false] at hi
        rcases hi with rfl | rfl | rfl | rfl | rfl
        · exact ⟨_, rfl, rfl, fun K' hK => w3_op2 HS.out HW.out HTI.out h (fun x w' h' => hK _ _ ⟨1, false, false, false, false, v4, v5, v6, v7, x, v20, v23, v26, v29, by kernel_rfl, rfl, by omega, Nat.add_right_cancel (m := 1) hn, h'⟩)⟩
        · exact ⟨_, rfl, rfl, fun K' hK => w3_op15 h (fun x w' h' => hK _ _ ⟨0, true, false, false, false, x, v5, v6, v7, v17, v20, v23, v26, v29, by kernel_rfl, rfl, by omega, Nat.add_right_cancel (m := 1) hn, h'⟩)⟩
        · exact ⟨_, rfl, rfl, fun K' hK => w3_op16 h (fun x w' h' => hK _ _ ⟨0, false, true, false, false, v4, x, v6, v7, v17, v20, v23, v26, v29, by kernel_rfl, rfl, by omega, Nat.add_right_cancel (m := 1) hn, h'⟩)⟩
        · exact ⟨_, rfl, rfl, fun K' hK => w3_op17 h (fun x w' h' => hK _ _ ⟨0, false, false, true, false, v4, v5, x, v7, v17, v20, v23, v26, v29, by kernel_rfl, rfl, by omega, Nat.add_right_cancel (m := 1) hn, h'⟩)⟩
        · exact ⟨_, rfl, rfl, fun K' hK => w3_op18 h (fun x w' h' => hK _ _ ⟨0, false, false, false, true, v4, v5, v6, x, v17, v20, v23, v26, v29, by kernel_rfl, rfl, by omega, Nat.add_right_cancel (m := 1) hn, h'⟩)⟩
      · refine ⟨[2, 15, 16, 17], by kernel_rfl, by simp, fun i hi => ?_⟩
        simp only [List.mem_cons, List.not_mem_nil, or_false] at hi
        rcases hi with rfl | rfl | rfl | rfl
        · exact ⟨_, rfl, rfl, fun K' hK => w3_op2 HS.out HW.out HTI.out h (fun x w' h' => hK _ _ ⟨1, false, false, false, true, v4, v5, v6, v7, x, v20, v23, v26, v29, by kernel_rfl, rfl, by omega, Nat.add_right_cancel (m := 1) hn, h'⟩)⟩
        · exact ⟨_, rfl, rfl, fun K' hK => w3_op15 h (fun x w' h' => hK _ _ ⟨0, true, false, false, true, x, v5, v6, v7, v17, v20, v23, v26, v29, by kernel_rfl, rfl, by omega, Nat.add_right_cancel (m := 1) hn, h'⟩)⟩
        · exact ⟨_, rfl, rfl, fun K' hK => w3_op16 h (fun x w' h' => hK _ _ ⟨0, false, true, false, true, v4, x, v6, v7, v17, v20, v23, v26, v29, by kernel_rfl, rfl, by omega, Nat.add_right_cancel (m := 1) hn, h'⟩)⟩
        · exact ⟨_, rfl, rfl, fun K' hK => w3_op17 h (fun x w' h' => hK _ _ ⟨0, false, false, true, true, v4, v5, x, v7, v17, v20, v23, v26, v29, by kernel_rfl, rfl, by omega, Nat.add_right_cancel (m := 1) hn, h'⟩)⟩
      · refine ⟨[2, 15, 16, 18], by kernel_rfl, by simp, fun i hi => ?_⟩
        simp only [List.mem_cons, List.not_mem_nil, or_false] at hi
        rcases hi with rfl | rfl | rfl | rfl
        · exact ⟨_, rfl, rfl, fun K' hK => w3_op2 HS.out HW.out HTI.out h (fun x w' h' => hK _ _ ⟨1, false, false, true, false, v4, v5, v6, v7, x, v20, v23, v26, v29, by kernel_rfl, rfl, by omega, Nat.add_right_cancel (m := 1) hn, h'⟩)⟩
        · exact ⟨_, rfl, rfl, fun K' hK => w3_op15 h (fun x w' h' => hK _ _ ⟨0, true, false, true, false, x, v5, v6, v7, v17, v20, v23, v26, v29, by kernel_rfl, rfl, by omega, Nat.add_right_cancel (m := 1) hn, h'⟩)⟩
        · exact ⟨_, rfl, rfl, fun K' hK => w3_op16 h (fun x w' h' => hK _ _ ⟨0, false, true, true, false, v4, x, v6, v7, v17, v20, v23, v26, v29, by kernel_rfl, rfl, by omega, Nat.add_right_cancel (m := 1) hn, h'⟩)⟩
        · exact ⟨_, rfl, rfl, fun K' hK => w3_op18 h (fun x w' h' => hK _ _ ⟨0, false, false, true, true, v4, v5, v6, x, v17, v20, v23, v26, v29, by kernel_rfl, rfl, by omega, Nat.add_right_cancel (m := 1) hn, h'⟩)⟩
      · refine ⟨[2, 15, 16], by kernel_rfl, by simp, fun i hi => ?_⟩
        simp only [List.mem_cons, List.not_mem_nil, or_false] at hi
        rcases hi with rfl | rfl | rfl
        · exact ⟨_, rfl, rfl, fun K' hK => w3_op2 HS.out HW.out HTI.out h (fun x w' h' => hK _ _ ⟨1, false, false, true, true, v4, v5, v6, v7, x, v20, v23, v26, v29, by kernel_rfl, rfl, by omega, Nat.add_right_cancel (m := 1) hn, h'⟩)⟩
        · exact ⟨_, rfl, rfl, fun K' hK => w3_op15 h (fun x w' h' => hK _ _ ⟨0, true, false, true, true, x, v5, v6, v7, v17, v20, v23, v26, v29, by kernel_rfl, rfl, by omega, Nat.add_right_cancel (m := 1) hn, h'⟩)⟩
        · exact ⟨_, rfl, rfl, fun K' hK => w3_op16 h (fun x w' h' => hK _ _ ⟨0, false, true, true, true, v4, x, v6, v7, v17, v20, v23, v26, v29, by kernel_rfl, rfl, by omega, Nat.add_right_cancel (m := 1) hn, h'⟩)⟩
      · refine ⟨[2, 15, 17, 18], by kernel_rfl, by simp, fun i hi => ?_⟩
        simp only [List.mem_cons, List.not_mem_nil, or_false] at hi
        rcases hi with rfl | rfl | rfl | rfl
        · exact ⟨_, rfl, rfl, fun K' hK => w3_op2 HS.out HW.out HTI.out h (fun x w' h' => hK _ _ ⟨1, false, true, false, false, v4, v5, v6, v7, x, v20, v23, v26, v29, by kernel_rfl, rfl, by omega, Nat.add_right_cancel (m := 1) hn, h'⟩)⟩
        · exact ⟨_, rfl, rfl, fun K' hK => w3_op15 h (fun x w' h' => hK _ _ ⟨0, true, true, false, false, x, v5, v6, v7, v17, v20, v23, v26, v29, by kernel_rfl, rfl, by omega, Nat.add_right_cancel (m := 1) hn, h'⟩)⟩
        · exact ⟨_, rfl, rfl, fun K' hK => w3_op17 h (fun x w' h' => hK _ _ ⟨0, false, true, true, false, v4, v5, x, v7, v17, v20, v23, v26, v29, by kernel_rfl, rfl, by omega, Nat.add_right_cancel (m := 1) hn, h'⟩)⟩
        · exact ⟨_, rfl, rfl, fun K' hK => w3_op18 h (fun x w' h' => hK _ _ ⟨0, false, true, false, true, v4, v5, v6, x, v17, v20, v23, v26, v29, by kernel_rfl, rfl, by omega, Nat.add_right_cancel (m := 1) hn, h'⟩)⟩
      · refine ⟨[2, 15, 17], by kernel_rfl, by simp, fun i hi => ?_⟩
        simp only [List.mem_cons, List.not_mem_nil, or_false] at hi
        rcases hi with rfl | rfl | rfl
        · exact ⟨_, rfl, rfl, fun K' hK => w3_op2 HS.out HW.out HTI.out h (fun x w' h' => hK _ _ ⟨1, false, true, false, true, v4, v5, v6, v7, x, v20, v23, v26, v29, by kernel_rfl, rfl, by omega, Nat.add_right_cancel (m := 1) hn, h'⟩)⟩
        · exact ⟨_, rfl, rfl, fun K' hK => w3_op15 h (fun x w' h' => hK _ _ ⟨0, true, true, false, true, x, v5, v6, v7, v17, v20, v23, v26, v29, by kernel_rfl, rfl, by omega, Nat.add_right_cancel (m := 1) hn, h'⟩)⟩
        · exact ⟨_, rfl, rfl, fun K' hK => w3_op17 h (fun x w' h' => hK _ _ ⟨0, false, true, true, true, v4, v5, x, v7, v17, v20, v23, v26, v29, by kernel_rfl, rfl, by omega, Nat.add_right_cancel (m := 1) hn, h'⟩)⟩
      · refine ⟨[2, 15, 18], by kernel_rfl, by simp, fun i hi => ?_⟩
        simp only [List.mem_cons, List.not_mem_nil, or_false] at hi
        rcases hi with rfl | rfl | rfl
        · exact ⟨_, rfl, rfl, fun K' hK => w3_op2 HS.out HW.out HTI.out h (fun x w' h' => hK _ _ ⟨1, false, true, true, false, v4, v5, v6, v7, x, v20, v23, v26, v29, by kernel_rfl, rfl, by omega, Nat.add_right_cancel (m := 1) hn, h'⟩)⟩
        · exact ⟨_, rfl, rfl, fun K' hK => w3_op15 h (fun x w' h' => hK _ _ ⟨0, true, true, true, false, x, v5, v6, v7, v17, v20, v23, v26, v29, by kernel_rfl, rfl, by omega, Nat.add_right_cancel (m := 1) hn, h'⟩)⟩
        · exact ⟨_, rfl, rfl, fun K' hK => w3_op18 h (fun x w' h' => hK _ _ ⟨0, false, true, true, true, v4, v5, v6, x, v17, v20, v23, v26, v29, by kernel_rfl, rfl, by omega, Nat.add_right_cancel (m := 1) hn, h'⟩)⟩
      · refine ⟨[2, 15], by kernel_rfl, by simp, fun i hi => ?_⟩
        simp only [List.mem_cons, List.not_mem_nil, or_false] at hi
        rcases hi with rfl | rfl
        · exact ⟨_, rfl, rfl, fun K' hK => w3_op2 HS.out HW.out HTI.out h (fun x w' h' => hK _ _ ⟨1, false, true, true, true, v4, v5, v6, v7, x, v20, v23, v26, v29, by kernel_rfl, rfl, by omega, Nat.add_right_cancel (m := 1) hn, h'⟩)⟩
        · exact ⟨_, rfl, rfl, fun K' hK => w3_op15 h (fun x w' h' => hK _ _ ⟨0, true, true, true, true, x, v5, v6, v7, v17, v20, v23, v26, v29, by kernel_rfl, rfl, by omega, Nat.add_right_cancel (m := 1) hn, h'⟩)⟩
      · refine ⟨[2, 16, 17, 18], by kernel_rfl, by simp, fun i hi => ?_⟩
        simp only [List.mem_cons, List.not_mem_nil, or_false] at hi
        rcases hi with rfl | rfl | rfl | rfl
        · exact ⟨_, rfl, rfl, fun K' hK => w3_op2 HS.out HW.out HTI.out h (fun x w' h' => hK _ _ ⟨1, true, false, false, false, v4, v5, v6, v7, x, v20, v23, v26, v29, by kernel_rfl, rfl, by omega, Nat.add_right_cancel (m := 1) hn, h'⟩)⟩
        · exact ⟨_, rfl, rfl, fun K' hK => w3_op16 h (fun x w' h' => hK _ _ ⟨0, true, true, false, false, v4, x, v6, v7, v17, v20, v23, v26, v29, by kernel_rfl, rfl, by omega, Nat.add_right_cancel (m := 1) hn, h'⟩)⟩
        · exact ⟨_, rfl, rfl, fun K' hK => w3_op17 h (fun x w' h' => hK _ _ ⟨0, true, false, true, false, v4, v5, x, v7, v17, v20, v23, v26, v29, by kernel_rfl, rfl, by omega, Nat.add_right_cancel (m := 1) hn, h'⟩)⟩
        · exact ⟨_, rfl, rfl, fun K' hK => w3_op18 h (fun x w' h' => hK _ _ ⟨0, true, false, false, true, v4, v5, v6, x, v17, v20, v23, v26, v29, by kernel_rfl, rfl, by omega, Nat.add_right_cancel (m := 1) hn, h'⟩)⟩
      · refine ⟨[2, 16, 17], by kernel_rfl, by simp, fun i hi => ?_⟩
        simp only [List.mem_cons, List.not_mem_nil, or_false] at hi
        rcases hi with rfl | rfl | rfl
        · exact ⟨_, rfl, rfl, fun K' hK => w3_op2 HS.out HW.out HTI.out h (fun x w' h' => hK _ _ ⟨1, true, false, false, true, v4, v5, v6, v7, x, v20, v23, v26, v29, by kernel_rfl, rfl, by omega, Nat.add_right_cancel (m := 1) hn, h'⟩)⟩
        · exact ⟨_, rfl, rfl, fun K' hK => w3_op16 h (fun x w' h' => hK _ _ ⟨0, true, true, false, true, v4, x, v6, v7, v17, v20, v23, v26, v29, by kernel_rfl, rfl, by omega, Nat.add_right_cancel (m := 1) hn, h'⟩)⟩
        · exact ⟨_, rfl, rfl, fun K' hK => w3_op17 h (fun x w' h' => hK _ _ ⟨0, true, false, true, true, v4, v5, x, v7, v17, v20, v23, v26, v29, by kernel_rfl, rfl, by omega, Nat.add_right_cancel (m := 1) hn, h'⟩)⟩
      · refine ⟨[2, 16, 18], by kernel_rfl, by simp, fun i hi => ?_⟩
        simp only [List.mem_cons, List.not_mem_nil, or_false] at hi
        rcases hi with rfl | rfl | rfl
        · exact ⟨_, rfl, rfl, fun K' hK => w3_op2 HS.out HW.out HTI.out h (fun x w' h' => hK _ _ ⟨1, true, false, true, false, v4, v5, v6, v7, x, v20, v23, v26, v29, by kernel_rfl, rfl, by omega, Nat.add_right_cancel (m := 1) hn, h'⟩)⟩
        · exact ⟨_, rfl, rfl, fun K' hK => w3_op16 h (fun x w' h' => hK _ _ ⟨0, true, true, true, false, v4, x, v6, v7, v17, v20, v23, v26, v29, by kernel_rfl, rfl, by omega, Nat.add_right_cancel (m := 1) hn, h'⟩)⟩
        · exact ⟨_, rfl, rfl, fun K' hK => w3_op18 h (fun x w' h' => hK _ _ ⟨0, true, false, true, true, v4, v5, v6, x, v17, v20, v23, v26, v29, by kernel_rfl, rfl, by omega, Nat.add_right_cancel (m := 1) hn, h'⟩)⟩
      · refine ⟨[2, 16], by kernel_rfl, by simp, fun i hi => ?_⟩
        simp only [List.mem_cons, List.not_mem_nil, or_false] at hi
        rcases hi with rfl | rfl
        · exact ⟨_, rfl, rfl, fun K' hK => w3_op2 HS.out HW.out HTI.out h (fun x w' h' => hK _ _ ⟨1, true, false, true, true, v4, v5, v6, v7, x, v20, v23, v26, v29, by kernel_rfl, rfl, by omega, Nat.add_right_cancel (m := 1) hn, h'⟩)⟩
        · exact ⟨_, rfl, rfl, fun K' hK => w3_op16 h (fun x w' h' => hK _ _ ⟨0, true, true, true, true, v4, x, v6, v7, v17, v20, v23, v26, v29, by kernel_rfl, rfl, by omega, Nat.add_right_cancel (m := 1) hn, h'⟩)⟩
      · refine ⟨[2, 17, 18], by kernel_rfl, by simp, fun i hi => ?_⟩
        simp only [List.mem_cons, List.not_mem_nil, or_false] at hi
        rcases hi with rfl | rfl | rfl
        · exact ⟨_, rfl, rfl, fun K' hK => w3_op2 HS.out HW.out HTI.out h (fun x w' h' => hK _ _ ⟨1, true, true, false, false, v4, v5, v6, v7, x, v20, v23, v26, v29, by kernel_rfl, rfl, by omega, Nat.add_right_cancel (m := 1) hn, h'⟩)⟩
        · exact ⟨_, rfl, rfl, fun K' hK => w3_op17 h (fun x w' h' => hK _ _ ⟨0, true, true, true, false, v4, v5, x, v7, v17, v20, v23, v26, v29, by kernel_rfl, rfl, by omega, Nat.add_right_cancel (m := 1) hn, h'⟩)⟩
        · exact ⟨_, rfl, rfl, fun K' hK => w3_op18 h (fun x w' h' => hK _ _ ⟨0, true, true, false, true, v4, v5, v6, x, v17, v20, v23, v26, v29, by kernel_rfl, rfl, by omega, Nat.add_right_cancel (m := 1) hn, h'⟩)⟩
      · refine ⟨[2, 17], by kernel_rfl, by simp, fun i hi => ?_⟩
        simp only [List.mem_cons, List.not_mem_nil, or_false] at hi
        rcases hi with rfl | rfl
        · exact ⟨_, rfl, rfl, fun K' hK => w3_op2 HS.out HW.out HTI.out h (fun x w' h' => hK _ _ ⟨1, true, true, false, true, v4, v5, v6, v7, x, v20, v23, v26, v29, by kernel_rfl, rfl, by omega, Nat.add_right_cancel (m := 1) hn, h'⟩)⟩
        · exact ⟨_, rfl, rfl, fun K' hK => w3_op17 h (fun x w' h' => hK _ _ ⟨0, true, true, true, true, v4, v5, x, v7, v17, v20, v23, v26, v29, by kernel_rfl, rfl, by omega, Nat.add_right_cancel (m := 1) hn, h'⟩)⟩
      · refine ⟨[2, 18], by kernel_rfl, by simp, fun i hi => ?_⟩
        simp only [List.mem_cons, List.not_mem_nil, or_false] at hi
        rcases hi with rfl | rfl
        · exact ⟨_, rfl, rfl, fun K' hK => w3_op2 HS.out HW.out HTI.out h (fun x w' h' => hK _ _ ⟨1, true, true, true, false, v4, v5, v6, v7, x, v20, v23, v26, v29, by kernel_rfl, rfl, by omega, Nat.add_right_cancel (m := 1) hn, h'⟩)⟩
        · exact ⟨_, rfl, rfl, fun K' hK => w3_op18 h (fun x w' h' => hK _ _ ⟨0, true, true, true, true, v4, v5, v6, x, v17, v20, v23, v26, v29, by kernel_rfl, rfl, by omega, Nat.add_right_cancel (m := 1) hn, h'⟩)⟩
      · refine ⟨[2], by kernel_rfl, by simp, fun i hi => ?_⟩
        simp only [List.mem_cons, List.not_mem_nil, or_false] at hi
        subst hi
        · exact ⟨_, rfl, rfl, fun K' hK => w3_op2 HS.out HW.out HTI.out h (fun x w' h' => hK _ _ ⟨1, true, true, true, true, v4, v5, v6, v7, x, v20, v23, v26, v29, by kernel_rfl, rfl, by omega, Nat.add_right_cancel (m := 1) hn, h'⟩)⟩
    · cases y15 <;> cases y16 <;> cases y17 <;> cases y18
      · refine ⟨[5, 15, 16, 17, 18], by kernel_rfl, by simp, fun i hi => ?_⟩
        simp only [List.mem_cons, List.not_mem_nil, or_false] at hi
        rcases hi with rfl | rfl | rfl | rfl | rfl
        · exact ⟨_, rfl, rfl, fun K' hK => w3_op5 HS.out HW.out HTI.out h (fun x w' h' => hK _ _ ⟨2, false, false, false, false, v4, v5, v6, v7, v17, x, v23, v26, v29, by kernel_rfl, rfl, by omega, Nat.add_right_cancel (m := 1) hn, h'⟩)⟩
        · exact ⟨_, rfl, rfl, fun K' hK => w3_op15 h (fun x w' h' => hK _ _ ⟨1, true, false, false, false, x, v5, v6, v7, v17, v20, v23, v26, v29, by kernel_rfl, rfl, by omega, Nat.add_right_cancel (m := 1) hn, h'⟩)⟩
        · exact ⟨_, rfl, rfl, fun K' hK => w3_op16 h (fun x w' h' => hK _ _ ⟨1, false, true, false, false, v4, x, v6, v7, v17, v20, v23, v26, v29, by kernel_rfl, rfl, by omega, Nat.add_right_cancel (m := 1) hn, h'⟩)⟩
        · exact ⟨_, rfl, rfl, fun K' hK => w3_op17 h (fun x w' h' => hK _ _ ⟨1, false, false, true, false, v4, v5, x, v7, v17, v20, v23, v26, v29, by kernel_rfl, rfl, by omega, Nat.add_right_cancel (m := 1) hn, h'⟩)⟩
        · exact ⟨_, rfl, rfl, fun K' hK => w3_op18 h (fun x w' h' => hK _ _ ⟨1, false, false, false, true, v4, v5, v6, x, v17, v20, v23, v26, v29, by kernel_rfl, rfl, by omega, Nat.add_right_cancel (m := 1) hn, h'⟩)⟩
      · refine ⟨[5, 15, 16, 17], by kernel_rfl, by simp, fun i hi => ?_⟩
        simp only [List.mem_cons, List.not_mem_nil, or_false] at hi
        rcases hi with rfl | rfl | rfl | rfl
        · exact ⟨_, rfl, rfl, fun K' hK => w3_op5 HS.out HW.out HTI.out h (fun x w' h' => hK _ _ ⟨2, false, false, false, true, v4, v5, v6, v7, v17, x, v23, v26, v29, by kernel_rfl, rfl, by omega, Nat.add_right_cancel (m := 1) hn, h'⟩)⟩
        · exact ⟨_, rfl, rfl, fun K' hK => w3_op15 h (fun x w' h' => hK _ _ ⟨1, true, false, false, true, x, v5, v6, v7, v17, v20, v23, v26, v29, by kernel_rfl, rfl, by omega, Nat.add_right_cancel (m := 1) hn, h'⟩)⟩
        · exact ⟨_, rfl, rfl, fun K' hK => w3_op16 h (fun x w' h' => hK _ _ ⟨1, false, true, false, true, v4, x, v6, v7, v17, v20, v23, v26, v29, by kernel_rfl, rfl, by omega, Nat.add_right_cancel (m := 1) hn, h'⟩)⟩
        · exact ⟨_, rfl, rfl, fun K' hK => w3_op17 h (fun x w' h' => hK _ _ ⟨1, false, false, true, true, v4, v5, x, v7, v17, v20, v23, v26, v29, by kernel_rfl, rfl, by omega, Nat.add_right_cancel (m := 1) hn, h'⟩)⟩
      · refine ⟨[5, 15, 16, 18], by kernel_rfl, by simp, fun i hi => ?_⟩
        simp only [List.mem_cons, List.not_mem_nil, or_false] at hi
        rcases hi with rfl | rfl | rfl | rfl
        · exact ⟨_, rfl, rfl, fun K' hK => w3_op5 HS.out HW.out HTI.out h (fun x w' h' => hK _ _ ⟨2, false, false, true, false, v4, v5, v6, v7, v17, x, v23, v26, v29, by kernel_rfl, rfl, by omega, Nat.add_right_cancel (m := 1) hn, h'⟩)⟩
        · exact ⟨_, rfl, rfl, fun K' hK => w3_op15 h (fun x w' h' => hK _ _ ⟨1, true, false, true, false, x, v5, v6, v7, v17, v20, v23, v26, v29, by kernel_rfl, rfl, by omega, Nat.add_right_cancel (m := 1) hn, h'⟩)⟩
        · exact ⟨_, rfl, rfl, fun K' hK => w3_op16 h (fun x w' h' => hK _ _ ⟨1, false, true, true, false, v4, x, v6, v7, v17, v20, v23, v26, v29, by kernel_rfl, rfl, by omega, Nat.add_right_cancel (m := 1) hn, h'⟩)⟩
        · exact ⟨_, rfl, rfl, fun K' hK => w3_op18 h (fun x w' h' => hK _ _ ⟨1, false, false, true, true, v4, v5, v6, x, v17, v20, v23, v26, v29, by kernel_rfl, rfl, by omega, Nat.add_right_cancel (m := 1) hn, h'⟩)⟩
      · refine ⟨[5, 15, 16], by kernel_rfl, by simp, fun i hi => ?_⟩
        simp only [List.mem_cons, List.not_mem_nil, or_false] at hi
        rcases hi with rfl | rfl | rfl
        · exact ⟨_, rfl, rfl, fun K' hK => w3_op5 HS.out HW.out HTI.out h (fun x w' h' => hK _ _ ⟨2, false, false, true, true, v4, v5, v6, v7, v17, x, v23, v26, v29, by kernel_rfl, rfl, by omega, Nat.add_right_cancel (m := 1) hn, h'⟩)⟩
        · exact ⟨_, rfl, rfl, fun K' hK => w3_op15 h (fun x w' h' => hK _ _ ⟨1, true, false, true, true, x, v5, v6, v7, v17, v20, v23, v26, v29, by kernel_rfl, rfl, by omega, Nat.add_right_cancel (m := 1) hn, h'⟩)⟩
        · exact ⟨_, rfl, rfl, fun K' hK => w3_op16 h (fun x w' h' => hK _ _ ⟨1, false, true, true, true, v4, x, v6, v7, v17, v20, v23, v26, v29, by kernel_rfl, rfl, by omega, Nat.add_right_cancel (m := 1) hn, h'⟩)⟩
      · refine ⟨[5, 15, 17, 18], by kernel_rfl, by simp, fun i hi => ?_⟩
        simp only [List.mem_cons, List.not_mem_nil, or_false] at hi
        rcases hi with rfl | rfl | rfl | rfl
        · exact ⟨_, rfl, rfl, fun K' hK => w3_op5 HS.out HW.out HTI.out h (fun x w' h' => hK _ _ ⟨2, false, true, false, false, v4, v5, v6, v7, v17, x, v23, v26, v29, by kernel_rfl, rfl, by omega, Nat.add_right_cancel (m := 1) hn, h'⟩)⟩
        · exact ⟨_, rfl, rfl, fun K' hK => w3_op15 h (fun x w' h' => hK _ _ ⟨1, true, true, false, false, x, v5, v6, v7, v17, v20, v23, v26, v29, by kernel_rfl, rfl, by omega, Nat.add_right_cancel (m := 1) hn, h'⟩)⟩
        · exact ⟨_, rfl, rfl, fun K' hK => w3_op17 h (fun x w' h' => hK _ _ ⟨1, false, true, true, false, v4, v5, x, v7, v17, v20, v23, v26, v29, by kernel_rfl, rfl, by omega, Nat.add_right_cancel (m := 1) hn, h'⟩)⟩
        · exact ⟨_, rfl, rfl, fun K' hK => w3_op18 h (fun x w' h' => hK _ _ ⟨1, false, true, false, true, v4, v5, v6, x, v17, v20, v23, v26, v29, by kernel_rfl, rfl, by omega, Nat.add_right_cancel (m := 1) hn, h'⟩)⟩
      · refine ⟨[5, 15, 17], by kernel_rfl, by simp, fun i hi => ?_⟩
        simp only [List.mem_cons, List.not_mem_nil, or_false] at hi
        rcases hi with rfl | rfl | rfl
        · exact ⟨_, rfl, rfl, fun K' hK => w3_op5 HS.out HW.out HTI.out h (fun x w' h' => hK _ _ ⟨2, false, true, false, true, v4, v5, v6, v7, v17, x, v23, v26, v29, by kernel_rfl, rfl, by omega, Nat.add_right_cancel (m := 1) hn, h'⟩)⟩
        · exact ⟨_, rfl, rfl, fun K' hK => w3_op15 h (fun x w' h' => hK _ _ ⟨1, true, true, false, true, x, v5, v6, v7, v17, v20, v23, v26, v29, by kernel_rfl, rfl, by omega, Nat.add_right_cancel (m := 1) hn, h'⟩)⟩
        · exact ⟨_, rfl, rfl, fun K' hK => w3_op17 h (fun x w' h' => hK _ _ ⟨1, false, true, true, true, v4, v5, x, v7, v17, v20, v23, v26, v29, by kernel_rfl, rfl, by omega, Nat.add_right_cancel (m := 1) hn, h'⟩)⟩
      · refine ⟨[5, 15, 18], by kernel_rfl, by simp, fun i hi => ?_⟩
        simp only [List.mem_cons, List.not_mem_nil, or_false] at hi
        rcases hi with rfl | rfl | rfl
        · exact ⟨_, rfl, rfl, fun K' hK => w3_op5 HS.out HW.out HTI.out h (fun x w' h' => hK _ _ ⟨2, false, true, true, false, v4, v5, v6, v7, v17, x, v23, v26, v29, by kernel_rfl, rfl, by omega, Nat.add_right_cancel (m := 1) hn, h'⟩)⟩
        · exact ⟨_, rfl, rfl, fun K' hK => w3_op15 h (fun x w' h' => hK _ _ ⟨1, true, true, true, false, x, v5, v6, v7, v17, v20, v23, v26, v29, by kernel_rfl, rfl, by omega, Nat.add_right_cancel (m := 1) hn, h'⟩)⟩
        · exact ⟨_, rfl, rfl, fun K' hK => w3_op18 h (fun x w' h' => hK _ _ ⟨1, false, true, true, true, v4, v5, v6, x, v17, v20, v23, v26, v29, by kernel_rfl, rfl, by omega, Nat.add_right_cancel (m := 1) hn, h'⟩)⟩
      · refine ⟨[5, 15], by kernel_rfl, by simp, fun i hi => ?_⟩
        simp only [List.mem_cons, List.not_mem_nil, or_false] at hi
        rcases hi with rfl | rfl
        · exact ⟨_, rfl, rfl, fun K' hK => w3_op5 HS.out HW.out HTI.out h (fun x w' h' => hK _ _ ⟨2, false, true, true, true, v4, v5, v6, v7, v17, x, v23, v26, v29, by kernel_rfl, rfl, by omega, Nat.add_right_cancel (m := 1) hn, h'⟩)⟩
        · exact ⟨_, rfl, rfl, fun K' hK => w3_op15 h (fun x w' h' => hK _ _ ⟨1, true, true, true, true, x, v5, v6, v7, v17, v20, v23, v26, v29, by kernel_rfl, rfl, by omega, Nat.add_right_cancel (m := 1) hn, h'⟩)⟩
      · refine ⟨[5, 16, 17, 18], by kernel_rfl, by simp, fun i hi => ?_⟩
        simp only [List.mem_cons, List.not_mem_nil, or_false] at hi
        rcases hi with rfl | rfl | rfl | rfl
        · exact ⟨_, rfl, rfl, fun K' hK => w3_op5 HS.out HW.out HTI.out h (fun x w' h' => hK _ _ ⟨2, true, false, false, false, v4, v5, v6, v7, v17, x, v23, v26, v29, by kernel_rfl, rfl, by omega, Nat.add_right_cancel (m := 1) hn, h'⟩)⟩
        · exact ⟨_, rfl, rfl, fun K' hK => w3_op16 h (fun x w' h' => hK _ _ ⟨1, true, true, false, false, v4, x, v6, v7, v17, v20, v23, v26, v29, by kernel_rfl, rfl, by omega, Nat.add_right_cancel (m := 1) hn, h'⟩)⟩
        · exact ⟨_, rfl, rfl, fun K' hK => w3_op17 h (fun x w' h' => hK _ _ ⟨1, true, false, true, false, v4, v5, x, v7, v17, v20, v23, v26, v29, by kernel_rfl, rfl, by omega, Nat.add_right_cancel (m := 1) hn, h'⟩)⟩
        · exact ⟨_, rfl, rfl, fun K' hK => w3_op18 h (fun x w' h' => hK _ _ ⟨1, true, false, false, true, v4, v5, v6, x, v17, v20, v23, v26, v29, by kernel_rfl, rfl, by omega, Nat.add_right_cancel (m := 1) hn, h'⟩)⟩
      · refine ⟨[5, 16, 17], by kernel_rfl, by simp, fun i hi => ?_⟩
        simp only [List.mem_cons, List.not_mem_nil, or_false] at hi
        rcases hi with rfl | rfl | rfl
        · exact ⟨_, rfl, rfl, fun K' hK => w3_op5 HS.out HW.out HTI.out h (fun x w' h' => hK _ _ ⟨2, true, false, false, true, v4, v5, v6, v7, v17, x, v23, v26, v29, by kernel_rfl, rfl, by omega, Nat.add_right_cancel (m := 1) hn, h'⟩)⟩
        · exact ⟨_, rfl, rfl, fun K' hK => w3_op16 h (fun x w' h' => hK _ _ ⟨1, true, true, false, true, v4, x, v6, v7, v17, v20, v23, v26, v29, by kernel_rfl, rfl, by omega, Nat.add_right_cancel (m := 1) hn, h'⟩)⟩
        · exact ⟨_, rfl, rfl, fun K' hK => w3_op17 h (fun x w' h' => hK _ _ ⟨1, true, false, true, true, v4, v5, x, v7, v17, v20, v23, v26, v29, by kernel_rfl, rfl, by omega, Nat.add_right_cancel (m := 1) hn, h'⟩)⟩
      · refine ⟨[5, 16, 18], by kernel_rfl, by simp, fun i hi => ?_⟩
        simp only [List.mem_cons, List.not_mem_nil, or_false] at hi
        rcases hi with rfl | rfl | rfl
        · exact ⟨_, rfl, rfl, fun K' hK => w3_op5 HS.out HW.out HTI.out h (fun x w' h' => hK _ _ ⟨2, true, false, true, false, v4, v5, v6, v7, v17, x, v23, v26, v29, by kernel_rfl, rfl, by omega, Nat.add_right_cancel (m := 1) hn, h'⟩)⟩
        · exact ⟨_, rfl, rfl, fun K' hK => w3_op16 h (fun x w' h' => hK _ _ ⟨1, true, true, true, false, v4, x, v6, v7, v17, v20, v23, v26, v29, by kernel_rfl, rfl, by omega, Nat.add_right_cancel (m := 1) hn, h'⟩)⟩
        · exact ⟨_, rfl, rfl, fun K' hK => w3_op18 h (fun x w' h' => hK _ _ ⟨1, true, false, true, true, v4, v5, v6, x, v17, v20, v23, v26, v29, by kernel_rfl, rfl, by omega, Nat.add_right_cancel (m := 1) hn, h'⟩)⟩
      · refine ⟨[5, 16], by kernel_rfl, by simp, fun i hi => ?_⟩
        simp only [List.mem_cons, List.not_mem_nil, or_false] at hi
        rcases hi with rfl | rfl
        · exact ⟨_, rfl, rfl, fun K' hK => w3_op5 HS.out HW.out HTI.out h (fun x w' h' => hK _ _ ⟨2, true, false, true, true, v4, v5, v6, v7, v17, x, v23, v26, v29, by kernel_rfl, rfl, by omega, Nat.add_right_cancel (m := 1) hn, h'⟩)⟩
        · exact ⟨_, rfl, rfl, fun K' hK => w3_op16 h (fun x w' h' => hK _ _ ⟨1, true, true, true, true, v4, x, v6, v7, v17, v20, v23, v26, v29, by kernel_rfl, rfl, by omega, Nat.add_right_cancel (m := 1) hn, h'⟩)⟩
      · refine ⟨[5, 17, 18], by kernel_rfl, by simp, fun i hi => ?_⟩
        simp only [List.mem_cons, List.not_mem_nil, or_false] at hi
        rcases hi with rfl | rfl | rfl
        · exact ⟨_, rfl, rfl, fun K' hK => w3_op5 HS.out HW.out HTI.out h (fun x w' h' => hK _ _ ⟨2, true, true, false, false, v4, v5, v6, v7, v17, x, v23, v26, v29, by kernel_rfl, rfl, by omega, Nat.add_right_cancel (m := 1) hn, h'⟩)⟩
        · exact ⟨_, rfl, rfl, fun K' hK => w3_op17 h (fun x w' h' => hK _ _ ⟨1, true, true, true, false, v4, v5, x, v7, v17, v20, v23, v26, v29, by kernel_rfl, rfl, by omega, Nat.add_right_cancel (m := 1) hn, h'⟩)⟩
        · exact ⟨_, rfl, rfl, fun K' hK => w3_op18 h (fun x w' h' => hK _ _ ⟨1, true, true, false, true, v4, v5, v6, x, v17, v20, v23, v26, v29, by kernel_rfl, rfl, by omega, Nat.add_right_cancel (m := 1) hn, h'⟩)⟩
      · refine ⟨[5, 17], by kernel_rfl, by simp, fun i hi => ?_⟩
        simp only [List.mem_cons, List.not_mem_nil, or_false] at hi
        rcases hi with rfl | rfl
        · exact ⟨_, rfl, rfl, fun K' hK => w3_op5 HS.out HW.out HTI.out h (fun x w' h' => hK _ _ ⟨2, true, true, false, true, v4, v5, v6, v7, v17, x, v23, v26, v29, by kernel_rfl, rfl, by omega, Nat.add_right_cancel (m := 1) hn, h'⟩)⟩
        · exact ⟨_, rfl, rfl, fun K' hK => w3_op17 h (fun x w' h' => hK _ _ ⟨1, true, true, true, true, v4, v5, x, v7, v17, v20, v23, v26, v29, by kernel_rfl, rfl, by omega, Nat.add_right_cancel (m := 1) hn, h'⟩)⟩
      · refine ⟨[5, 18], by kernel_rfl, by simp, fun i hi => ?_⟩
        simp only [List.mem_cons, List.not_mem_nil, or_false] at hi
        rcases hi with rfl | rfl
        · exact ⟨_, rfl, rfl, fun K' hK => w3_op5 HS.out HW.out HTI.out h (fun x w' h' => hK _ _ ⟨2, true, true, true, false, v4, v5, v6, v7, v17, x, v23, v26, v29, by kernel_rfl, rfl, by omega, Nat.add_right_cancel (m := 1) hn, h'⟩)⟩
        · exact ⟨_, rfl, rfl, fun K' hK => w3_op18 h (fun x w' h' => hK _ _ ⟨1, true, true, true, true, v4, v5, v6, x, v17, v20, v23, v26, v29, by kernel_rfl, rfl, by omega, Nat.add_right_cancel (m := 1) hn, h'⟩)⟩
      · refine ⟨[5], by kernel_rfl, by simp, fun i hi => ?_⟩
        simp only [List.mem_cons, List.not_mem_nil, or_false] at hi
        subst hi
        · exact ⟨_, rfl, rfl, fun K' hK => w3_op5 HS.out HW.out HTI.out h (fun x w' h' => hK _ _ ⟨2, true, true, true, true, v4, v5, v6, v7, v17, x, v23, v26, v29, by kernel_rfl, rfl, by omega, Nat.add_right_cancel (m := 1) hn, h'⟩)⟩
    · cases y15 <;> cases y16 <;> cases y17 <;> cases y18
      · refine ⟨[8, 15, 16, 17, 18], by kernel_rfl, by simp, fun i hi => ?_⟩
        simp only [List.mem_cons, List.not_mem_nil, or_false] at hi
        rcases hi with rfl | rfl | rfl | rfl | rfl
        · exact ⟨_, rfl, rfl, fun K' hK => w3_op8 HS.out HW.out HTI.out h (fun x w' h' => hK _ _ ⟨3, false, false, false, false, v4, v5, v6, v7, v17, v20, x, v26, v29, by kernel_rfl, rfl, by omega, Nat.add_right_cancel (m := 1) hn, h'⟩)⟩
        · exact ⟨_, rfl, rfl, fun K' hK => w3_op15 h (fun x w' h' => hK _ _ ⟨2, true, false, false, false, x, v5, v6, v7, v17, v20, v23, v26, v29, by kernel_rfl, rfl, by omega, Nat.add_right_cancel (m := 1) hn, h'⟩)⟩
        · exact ⟨_, rfl, rfl, fun K' hK => w3_op16 h (fun x w' h' => hK _ _ ⟨2, false, true, false, false, v4, x, v6, v7, v17, v20, v23, v26, v29, by kernel_rfl, rfl, by omega, Nat.add_right_cancel (m := 1) hn, h'⟩)⟩
        · exact ⟨_, rfl, rfl, fun K' hK => w3_op17 h (fun x w' h' => hK _ _ ⟨2, false, false, true, false, v4, v5, x, v7, v17, v20, v23, v26, v29, by kernel_rfl, rfl, by omega, Nat.add_right_cancel (m := 1) hn, h'⟩)⟩
        · exact ⟨_, rfl, rfl, fun K' hK => w3_op18 h (fun x w' h' => hK _ _ ⟨2, false, false, false, true, v4, v5, v6, x, v17, v20, v23, v26, v29, by kernel_rfl, rfl, by omega, Nat.add_right_cancel (m := 1) hn, h'⟩)⟩
      · refine ⟨[8, 15, 16, 17], by kernel_rfl, by simp, fun i hi => ?_⟩
        simp only [List.mem_cons, List.not_mem_nil, or_false] at hi
        rcases hi with rfl | rfl | rfl | rfl
        · exact ⟨_, rfl, rfl, fun K' hK => w3_op8 HS.out HW.out HTI.out h (fun x w' h' => hK _ _ ⟨3, false, false, false, true, v4, v5, v6, v7, v17, v20, x, v26, v29, by kernel_rfl, rfl, by omega, Nat.add_right_cancel (m := 1) hn, h'⟩)⟩
        · exact ⟨_, rfl, rfl, fun K' hK => w3_op15 h (fun x w' h' => hK _ _ ⟨2, true, false, false, true, x, v5, v6, v7, v17, v20, v23, v26, v29, by kernel_rfl, rfl, by omega, Nat.add_right_cancel (m := 1) hn, h'⟩)⟩
        · exact ⟨_, rfl, rfl, fun K' hK => w3_op16 h (fun x w' h' => hK _ _ ⟨2, false, true, false, true, v4, x, v6, v7, v17, v20, v23, v26, v29, by kernel_rfl, rfl, by omega, Nat.add_right_cancel (m := 1) hn, h'⟩)⟩
        · exact ⟨_, rfl, rfl, fun K' hK => w3_op17 h (fun x w' h' => hK _ _ ⟨2, false, false, true, true, v4, v5, x, v7, v17, v20, v23, v26, v29, by kernel_rfl, rfl, by omega, Nat.add_right_cancel (m := 1) hn, h'⟩)⟩
      · refine ⟨[8, 15, 16, 18], by kernel_rfl, by simp, fun i hi => ?_⟩
        simp only [List.mem_cons, List.not_mem_nil, or_false] at hi
        rcases hi with rfl | rfl | rfl | rfl
        · exact ⟨_, rfl, rfl, fun K' hK => w3_op8 HS.out HW.out HTI.out h (fun x w' h' => hK _ _ ⟨3, false, false, true, false, v4, v5, v6, v7, v17, v20, x, v26, v29, by kernel_rfl, rfl, by omega, Nat.add_right_cancel (m := 1) hn, h'⟩)⟩
        · exact ⟨_, rfl, rfl, fun K' hK => w3_op15 h (fun x w' h' => hK _ _ ⟨2, true, false, true, false, x, v5, v6, v7, v17, v20, v23, v26, v29, by kernel_rfl, rfl, by omega, Nat.add_right_cancel (m := 1) hn, h'⟩)⟩
        · exact ⟨_, rfl, rfl, fun K' hK => w3_op16 h (fun x w' h' => hK _ _ ⟨2, false, true, true, false, v4, x, v6, v7, v17, v20, v23, v26, v29, by kernel_rfl, rfl, by omega, Nat.add_right_cancel (m := 1) hn, h'⟩)⟩
        · exact ⟨_, rfl, rfl, fun K' hK => w3_op18 h (fun x w' h' => hK _ _ ⟨2, false, false, true, true, v4, v5, v6, x, v17, v20, v23, v26, v29, by kernel_rfl, rfl, by omega, Nat.add_right_cancel (m := 1) hn, h'⟩)⟩
      · refine ⟨[8, 15, 16], by kernel_rfl, by simp, fun i hi => ?_⟩
        simp only [List.mem_cons, List.not_mem_nil, or_false] at hi
        rcases hi with rfl | rfl | rfl
        · exact ⟨_, rfl, rfl, fun K' hK => w3_op8 HS.out HW.out HTI.out h (fun x w' h' => hK _ _ ⟨3, false, false, true, true, v4, v5, v6, v7, v17, v20, x, v26, v29, by kernel_rfl, rfl, by omega, Nat.add_right_cancel (m := 1) hn, h'⟩)⟩
        · exact ⟨_, rfl, rfl, fun K' hK => w3_op15 h (fun x w' h' => hK _ _ ⟨2, true, false, true, true, x, v5, v6, v7, v17, v20, v23, v26, v29, by kernel_rfl, rfl, by omega, Nat.add_right_cancel (m := 1) hn, h'⟩)⟩
        · exact ⟨_, rfl, rfl, fun K' hK => w3_op16 h (fun x w' h' => hK _ _ ⟨2, false, true, true, true, v4, x, v6, v7, v17, v20, v23, v26, v29, by kernel_rfl, rfl, by omega, Nat.add_right_cancel (m := 1) hn, h'⟩)⟩
      · refine ⟨[8, 15, 17, 18], by kernel_rfl, by simp, fun i hi => ?_⟩
        simp only [List.mem_cons, List.not_mem_nil, or_false] at hi
        rcases hi with rfl | rfl | rfl | rfl
        · exact ⟨_, rfl, rfl, fun K' hK => w3_op8 HS.out HW.out HTI.out h (fun x w' h' => hK _ _ ⟨3, false, true, false, false, v4, v5, v6, v7, v17, v20, x, v26, v29, by kernel_rfl, rfl, by omega, Nat.add_right_cancel (m := 1) hn, h'⟩)⟩
        · exact ⟨_, rfl, rfl, fun K' hK => w3_op15 h (fun x w' h' => hK _ _ ⟨2, true, true, false, false, x, v5, v6, v7, v17, v20, v23, v26, v29, by kernel_rfl, rfl, by omega, Nat.add_right_cancel (m := 1) hn, h'⟩)⟩
        · exact ⟨_, rfl, rfl, fun K' hK => w3_op17 h (fun x w' h' => hK _ _ ⟨2, false, true, true, false, v4, v5, x, v7, v17, v20, v23, v26, v29, by kernel_rfl, rfl, by omega, Nat.add_right_cancel (m := 1) hn, h'⟩)⟩
        · exact ⟨_, rfl, rfl, fun K' hK => w3_op18 h (fun x w' h' => hK _ _ ⟨2, false, true, false, true, v4, v5, v6, x, v17, v20, v23, v26, v29, by kernel_rfl, rfl, by omega, Nat.add_right_cancel (m := 1) hn, h'⟩)⟩
      · refine ⟨[8, 15, 17], by kernel_rfl, by simp, fun i hi => ?_⟩
        simp only [List.mem_cons, List.not_mem_nil, or_false] at hi
        rcases hi with rfl | rfl | rfl
        · exact ⟨_, rfl, rfl, fun K' hK => w3_op8 HS.out HW.out HTI.out h (fun x w' h' => hK _ _ ⟨3, false, true, false, true, v4, v5, v6, v7, v17, v20, x, v26, v29, by kernel_rfl, rfl, by omega, Nat.add_right_cancel (m := 1) hn, h'⟩)⟩
        · exact ⟨_, rfl, rfl, fun K' hK => w3_op15 h (fun x w' h' => hK _ _ ⟨2, true, true, false, true, x, v5, v6, v7, v17, v20, v23, v26, v29, by kernel_rfl, rfl, by omega, Nat.add_right_cancel (m := 1) hn, h'⟩)⟩
        · exact ⟨_, rfl, rfl, fun K' hK => w3_op17 h (fun x w' h' => hK _ _ ⟨2, false, true, true, true, v4, v5, x, v7, v17, v20, v23, v26, v29, by kernel_rfl, rfl, by omega, Nat.add_right_cancel (m := 1) hn, h'⟩)⟩
      · refine ⟨[8, 15, 18], by kernel_rfl, by simp, fun i hi => ?_⟩
        simp only [List.mem_cons, List.not_mem_nil, or_false] at hi
        rcases hi with rfl | rfl | rfl
        · exact ⟨_, rfl, rfl, fun K' hK => w3_op8 HS.out HW.out HTI.out h (fun x w' h' => hK _ _ ⟨3, false, true, true, false, v4, v5, v6, v7, v17, v20, x, v26, v29, by kernel_rfl, rfl, by omega, Nat.add_right_cancel (m := 1) hn, h'⟩)⟩
        · exact ⟨_, rfl, rfl, fun K' hK => w3_op15 h (fun x w' h' => hK _ _ ⟨2, true, true, true, false, x, v5, v6, v7, v17, v20, v23, v26, v29, by kernel_rfl, rfl, by omega, Nat.add_right_cancel (m := 1) hn, h'⟩)⟩
        · exact ⟨_, rfl, rfl, fun K' hK => w3_op18 h (fun x w' h' => hK _ _ ⟨2, false, true, true, true, v4, v5, v6, x, v17, v20, v23, v26, v29, by kernel_rfl, rfl, by omega, Nat.add_right_cancel (m := 1) hn, h'⟩)⟩
      · refine ⟨[8, 15], by kernel_rfl, by simp, fun i hi => ?_⟩
        simp only [List.mem_cons, List.not_mem_nil, or_false] at hi
        rcases hi with rfl | rfl
        · exact ⟨_, rfl, rfl, fun K' hK => w3_op8 HS.out HW.out HTI.out h (fun x w' h' => hK _ _ ⟨3, false, true, true, true, v4, v5, v6, v7, v17, v20, x, v26, v29, by kernel_rfl, rfl, by omega, Nat.add_right_cancel (m := 1) hn, h'⟩)⟩
        · exact ⟨_, rfl, rfl, fun K' hK => w3_op15 h (fun x w' h' => hK _ _ ⟨2, true, true, true, true, x, v5, v6, v7, v17, v20, v23, v26, v29, by kernel_rfl, rfl, by omega, Nat.add_right_cancel (m := 1) hn, h'⟩)⟩
      · refine ⟨[8, 16, 17, 18], by kernel_rfl, by simp, fun i hi => ?_⟩
        simp only [List.mem_cons, List.not_mem_nil, or_false] at hi
        rcases hi with rfl | rfl | rfl | rfl
        · exact ⟨_, rfl, rfl, fun K' hK => w3_op8 HS.out HW.out HTI.out h (fun x w' h' => hK _ _ ⟨3, true, false, false, false, v4, v5, v6, v7, v17, v20, x, v26, v29, by kernel_rfl, rfl, by omega, Nat.add_right_cancel (m := 1) hn, h'⟩)⟩
        · exact ⟨_, rfl, rfl, fun K' hK => w3_op16 h (fun x w' h' => hK _ _ ⟨2, true, true, false, false, v4, x, v6, v7, v17, v20, v23, v26, v29, by kernel_rfl, rfl, by omega, Nat.add_right_cancel (m := 1) hn, h'⟩)⟩
        · exact ⟨_, rfl, rfl, fun K' hK => w3_op17 h (fun x w' h' => hK _ _ ⟨2, true, false, true, false, v4, v5, x, v7, v17, v20, v23, v26, v29, by kernel_rfl, rfl, by omega, Nat.add_right_cancel (m := 1) hn, h'⟩)⟩
        · exact ⟨_, rfl, rfl, fun K' hK => w3_op18 h (fun x w' h' => hK _ _ ⟨2, true, false, false, true, v4, v5, v6, x, v17, v20, v23, v26, v29, by kernel_rfl, rfl, by omega, Nat.add_right_cancel (m := 1) hn, h'⟩)⟩
      · refine ⟨[8, 16, 17], by kernel_rfl, by simp, fun i hi => ?_⟩
        simp only [List.mem_cons, List.not_mem_nil, or_false] at hi
        rcases hi with rfl | rfl | rfl
        · exact ⟨_, rfl, rfl, fun K' hK => w3_op8 HS.out HW.out HTI.out h (fun x w' h' => hK _ _ ⟨3, true, false, false, true, v4, v5, v6, v7, v17, v20, x, v26, v29, by kernel_rfl, rfl, by omega, Nat.add_right_cancel (m := 1) hn, h'⟩)⟩
        · exact ⟨_, rfl, rfl, fun K' hK => w3_op16 h (fun x w' h' => hK _ _ ⟨2, true, true, false, true, v4, x, v6, v7, v17, v20, v23, v26, v29, by kernel_rfl, rfl, by omega, Nat.add_right_cancel (m := 1) hn, h'⟩)⟩
        · exact ⟨_, rfl, rfl, fun K' hK => w3_op17 h (fun x w' h' => hK _ _ ⟨2, true, false, true, true, v4, v5, x, v7, v17, v20, v23, v26, v29, by kernel_rfl, rfl, by omega, Nat.add_right_cancel (m := 1) hn, h'⟩)⟩
      · refine ⟨[8, 16, 18], by kernel_rfl, by simp, fun i hi => ?_⟩
        simp only [List.mem_cons, List.not_mem_nil, or_false] at hi
        rcases hi with rfl | rfl | rfl
        · exact ⟨_, rfl, rfl, fun K' hK => w3_op8 HS.out HW.out HTI.out h (fun x w' h' => hK _ _ ⟨3, true, false, true, false, v4, v5, v6, v7, v17, v20, x, v26, v29, by kernel_rfl, rfl, by omega, Nat.add_right_cancel (m := 1) hn, h'⟩)⟩
        · exact ⟨_, rfl, rfl, fun K' hK => w3_op16 h (fun x w' h' => hK _ _ ⟨2, true, true, true, false, v4, x, v6, v7, v17, v20, v23, v26, v29, by kernel_rfl, rfl, by omega, Nat.add_right_cancel (m := 1) hn, h'⟩)⟩
        · exact ⟨_, rfl, rfl, fun K' hK => w3_op18 h (fun x w' h' => hK _ _ ⟨2, true, false, true, true, v4, v5, v6, x, v17, v20, v23, v26, v29, by kernel_rfl, rfl, by omega, Nat.add_right_cancel (m := 1) hn, h'⟩)⟩
      · refine ⟨[8, 16], by kernel_rfl, by simp, fun i hi => ?_⟩
        simp only [List.mem_cons, List.not_mem_nil, or_false] at hi
        rcases hi with rfl | rfl
        · exact ⟨_, rfl, rfl, fun K' hK => w3_op8 HS.out HW.out HTI.out h (fun x w' h' => hK _ _ ⟨3, true, false, true, true, v4, v5, v6, v7, v17, v20, x, v26, v29, by kernel_rfl, rfl, by omega, Nat.add_right_cancel (m := 1) hn, h'⟩)⟩
        · exact ⟨_, rfl, rfl, fun K' hK => w3_op16 h (fun x w' h' => hK _ _ ⟨2, true, true, true, true, v4, x, v6, v7, v17, v20, v23, v26, v29, by kernel_rfl, rfl, by omega, Nat.add_right_cancel (m := 1) hn, h'⟩)⟩
      · refine ⟨[8, 17, 18], by kernel_rfl, by simp, fun i hi => ?_⟩
        simp only [List.mem_cons, List.not_mem_nil, or_false] at hi
        rcases hi with rfl | rfl | rfl
        · exact ⟨_, rfl, rfl, fun K' hK => w3_op8 HS.out HW.out HTI.out h (fun x w' h' => hK _ _ ⟨3, true, true, false, false, v4, v5, v6, v7, v17, v20, x, v26, v29, by kernel_rfl, rfl, by omega, Nat.add_right_cancel (m := 1) hn, h'⟩)⟩
        · exact ⟨_, rfl, rfl, fun K' hK => w3_op17 h (fun x w' h' => hK _ _ ⟨2, true, true, true, false, v4, v5, x, v7, v17, v20, v23, v26, v29, by kernel_rfl, rfl, by omega, Nat.add_right_cancel (m := 1) hn, h'⟩)⟩
        · exact ⟨_, rfl, rfl, fun K' hK => w3_op18 h (fun x w' h' => hK _ _ ⟨2, true, true, false, true, v4, v5, v6, x, v17, v20, v23, v26, v29, by kernel_rfl, rfl, by omega, Nat.add_right_cancel (m := 1) hn, h'⟩)⟩
      · refine ⟨[8, 17], by kernel_rfl, by simp, fun i hi => ?_⟩
        simp only [List.mem_cons, List.not_mem_nil, or_false] at hi
        rcases hi with rfl | rfl
        · exact ⟨_, rfl, rfl, fun K' hK => w3_op8 HS.out HW.out HTI.out h (fun x w' h' => hK _ _ ⟨3, true, true, false, true, v4, v5, v6, v7, v17, v20, x, v26, v29, by kernel_rfl, rfl, by omega, Nat.add_right_cancel (m := 1) hn, h'⟩)⟩
        · exact ⟨_, rfl, rfl, fun K' hK => w3_op17 h (fun x w' h' => hK _ _ ⟨2, true, true, true, true, v4, v5, x, v7, v17, v20, v23, v26, v29, by kernel_rfl, rfl, by omega, Nat.add_right_cancel (m := 1) hn, h'⟩)⟩
      · refine ⟨[8, 18], by kernel_rfl, by simp, fun i hi => ?_⟩
        simp only [List.mem_cons, List.not_mem_nil, or_false] at hi
        rcases hi with rfl | rfl
        · exact ⟨_, rfl, rfl, fun K' hK => w3_op8 HS.out HW.out HTI.out h (fun x w' h' => hK _ _ ⟨3, true, true, true, false, v4, v5, v6, v7, v17, v20, x, v26, v29, by kernel_rfl, rfl, by omega, Nat.add_right_cancel (m := 1) hn, h'⟩)⟩
        · exact ⟨_, rfl, rfl, fun K' hK => w3_op18 h (fun x w' h' => hK _ _ ⟨2, true, true, true, true, v4, v5, v6, x, v17, v20, v23, v26, v29, by kernel_rfl, rfl, by omega, Nat.add_right_cancel (m := 1) hn, h'⟩)⟩
      · refine ⟨[8], by kernel_rfl, by simp, fun i hi => ?_⟩
        simp only [List.mem_cons, List.not_mem_nil, or_false] at hi
        subst hi
        · exact ⟨_, rfl, rfl, fun K' hK => w3_op8 HS.out HW.out HTI.out h (fun x w' h' => hK _ _ ⟨3, true, true, true, true, v4, v5, v6, v7, v17, v20, x, v26, v29, by kernel_rfl, rfl, by omega, Nat.add_right_cancel (m := 1) hn, h'⟩)⟩
    · cases y15 <;> cases y16 <;> cases y17 <;> cases y18
      · refine ⟨[11, 15, 16, 17, 18], by kernel_rfl, by simp, fun i hi => ?_⟩
        simp only [List.mem_cons, List.not_mem_nil, or_false] at hi
        rcases hi with rfl | rfl | rfl | rfl | rfl
        · exact ⟨_, rfl, rfl, fun K' hK => w3_op11 HS.out HW.out HTI.out h (fun x w' h' => hK _ _ ⟨4, false, false, false, false, v4, v5, v6, v7, v17, v20, v23, x, v29, by kernel_rfl, rfl, by omega, Nat.add_right_cancel (m := 1) hn, h'⟩)⟩
        · exact ⟨_, rfl, rfl, fun K' hK => w3_op15 h (fun x w' h' => hK _ _ ⟨3, true, false, false, false, x, v5, v6, v7, v17, v20, v23, v26, v29, by kernel_rfl, rfl, by omega, Nat.add_right_cancel (m := 1) hn, h'⟩)⟩
        · exact ⟨_, rfl, rfl, fun K' hK => w3_op16 h (fun x w' h' => hK _ _ ⟨3, false, true, false, false, v4, x, v6, v7, v17, v20, v23, v26, v29, by kernel_rfl, rfl, by omega, Nat.add_right_cancel (m := 1) hn, h'⟩)⟩
        · exact ⟨_, rfl, rfl, fun K' hK => w3_op17 h (fun x w' h' => hK _ _ ⟨3, false, false, true, false, v4, v5, x, v7, v17, v20, v23, v26, v29, by kernel_rfl, rfl, by omega, Nat.add_right_cancel (m := 1) hn, h'⟩)⟩
        · exact ⟨_, rfl, rfl, fun K' hK => w3_op18 h (fun x w' h' => hK _ _ ⟨3, false, false, false, true, v4, v5, v6, x, v17, v20, v23, v26, v29, by kernel_rfl, rfl, by omega, Nat.add_right_cancel (m := 1) hn, h'⟩)⟩
      · refine ⟨[11, 15, 16, 17], by kernel_rfl, by simp, fun i hi => ?_⟩
        simp only [List.mem_cons, List.not_mem_nil, or_false] at hi
        rcases hi with rfl | rfl | rfl | rfl
        · exact ⟨_, rfl, rfl, fun K' hK => w3_op11 HS.out HW.out HTI.out h (fun x w' h' => hK _ _ ⟨4, false, false, false, true, v4, v5, v6, v7, v17, v20, v23, x, v29, by kernel_rfl, rfl, by omega, Nat.add_right_cancel (m := 1) hn, h'⟩)⟩
        · exact ⟨_, rfl, rfl, fun K' hK => w3_op15 h (fun x w' h' => hK _ _ ⟨3, true, false, false, true, x, v5, v6, v7, v17, v20, v23, v26, v29, by kernel_rfl, rfl, by omega, Nat.add_right_cancel (m := 1) hn, h'⟩)⟩
        · exact ⟨_, rfl, rfl, fun K' hK => w3_op16 h (fun x w' h' => hK _ _ ⟨3, false, true, false, true, v4, x, v6, v7, v17, v20, v23, v26, v29, by kernel_rfl, rfl, by omega, Nat.add_right_cancel (m := 1) hn, h'⟩)⟩
        · exact ⟨_, rfl, rfl, fun K' hK => w3_op17 h (fun x w' h' => hK _ _ ⟨3, false, false, true, true, v4, v5, x, v7, v17, v20, v23, v26, v29, by kernel_rfl, rfl, by omega, Nat.add_right_cancel (m := 1) hn, h'⟩)⟩
      · refine ⟨[11, 15, 16, 18], by kernel_rfl, by simp, fun i hi => ?_⟩
        simp only [List.mem_cons, List.not_mem_nil, or_false] at hi
        rcases hi with rfl | rfl | rfl | rfl
        · exact ⟨_, rfl, rfl, fun K' hK => w3_op11 HS.out HW.out HTI.out h (fun x w' h' => hK _ _ ⟨4, false, false, true, false, v4, v5, v6, v7, v17, v20, v23, x, v29, by kernel_rfl, rfl, by omega, Nat.add_right_cancel (m := 1) hn, h'⟩)⟩
        · exact ⟨_, rfl, rfl, fun K' hK => w3_op15 h (fun x w' h' => hK _ _ ⟨3, true, false, true, false, x, v5, v6, v7, v17, v20, v23, v26, v29, by kernel_rfl, rfl, by omega, Nat.add_right_cancel (m := 1) hn, h'⟩)⟩
        · exact ⟨_, rfl, rfl, fun K' hK => w3_op16 h (fun x w' h' => hK _ _ ⟨3, false, true, true, false, v4, x, v6, v7, v17, v20, v23, v26, v29, by kernel_rfl, rfl, by omega, Nat.add_right_cancel (m := 1) hn, h'⟩)⟩
        · exact ⟨_, rfl, rfl, fun K' hK => w3_op18 h (fun x w' h' => hK _ _ ⟨3, false, false, true, true, v4, v5, v6, x, v17, v20, v23, v26, v29, by kernel_rfl, rfl, by omega, Nat.add_right_cancel (m := 1) hn, h'⟩)⟩
      · refine ⟨[11, 15, 16], by kernel_rfl, by simp, fun i hi => ?_⟩
        simp only [List.mem_cons, List.not_mem_nil, or_false] at hi
        rcases hi with rfl | rfl | rfl
        · exact ⟨_, rfl, rfl, fun K' hK => w3_op11 HS.out HW.out HTI.out h (fun x w' h' => hK _ _ ⟨4, false, false, true, true, v4, v5, v6, v7, v17, v20, v23, x, v29, by kernel_rfl, rfl, by omega, Nat.add_right_cancel (m := 1) hn, h'⟩)⟩
        · exact ⟨_, rfl, rfl, fun K' hK => w3_op15 h (fun x w' h' => hK _ _ ⟨3, true, false, true, true, x, v5, v6, v7, v17, v20, v23, v26, v29, by kernel_rfl, rfl, by omega, Nat.add_right_cancel (m := 1) hn, h'⟩)⟩
        · exact ⟨_, rfl, rfl, fun K' hK => w3_op16 h (fun x w' h' => hK _ _ ⟨3, false, true, true, true, v4, x, v6, v7, v17, v20, v23, v26, v29, by kernel_rfl, rfl, by omega, Nat.add_right_cancel (m := 1) hn, h'⟩)⟩
      · refine ⟨[11, 15, 17, 18], by kernel_rfl, by simp, fun i hi => ?_⟩
        simp only [List.mem_cons, List.not_mem_nil, or_false] at hi
        rcases hi with rfl | rfl | rfl | rfl
        · exact ⟨_, rfl, rfl, fun K' hK => w3_op11 HS.out HW.out HTI.out h (fun x w' h' => hK _ _ ⟨4, false, true, false, false, v4, v5, v6, v7, v17, v20, v23, x, v29, by kernel_rfl, rfl, by omega, Nat.add_right_cancel (m := 1) hn, h'⟩)⟩
        · exact ⟨_, rfl, rfl, fun K' hK => w3_op15 h (fun x w' h' => hK _ _ ⟨3, true, true, false, false, x, v5, v6, v7, v17, v20, v23, v26, v29, by kernel_rfl, rfl, by omega, Nat.add_right_cancel (m := 1) hn, h'⟩)⟩
        · exact ⟨_, rfl, rfl, fun K' hK => w3_op17 h (fun x w' h' => hK _ _ ⟨3, false, true, true, false, v4, v5, x, v7, v17, v20, v23, v26, v29, by kernel_rfl, rfl, by omega, Nat.add_right_cancel (m := 1) hn, h'⟩)⟩
        · exact ⟨_, rfl, rfl, fun K' hK => w3_op18 h (fun x w' h' => hK _ _ ⟨3, false, true, false, true, v4, v5, v6, x, v17, v20, v23, v26, v29, by kernel_rfl, rfl, by omega, Nat.add_right_cancel (m := 1) hn, h'⟩)⟩
      · refine ⟨[11, 15, 17], by kernel_rfl, by simp, fun i hi => ?_⟩
        simp only [List.mem_cons, List.not_mem_nil, or_false] at hi
        rcases hi with rfl | rfl | rfl
        · exact ⟨_, rfl, rfl, fun K' hK => w3_op11 HS.out HW.out HTI.out h (fun x w' h' => hK _ _ ⟨4, false, true, false, true, v4, v5, v6, v7, v17, v20, v23, x, v29, by kernel_rfl, rfl, by omega, Nat.add_right_cancel (m := 1) hn, h'⟩)⟩
        · exact ⟨_, rfl, rfl, fun K' hK => w3_op15 h (fun x w' h' => hK _ _ ⟨3, true, true, false, true, x, v5, v6, v7, v17, v20, v23, v26, v29, by kernel_rfl, rfl, by omega, Nat.add_right_cancel (m := 1) hn, h'⟩)⟩
        · exact ⟨_, rfl, rfl, fun K' hK => w3_op17 h (fun x w' h' => hK _ _ ⟨3, false, true, true, true, v4, v5, x, v7, v17, v20, v23, v26, v29, by kernel_rfl, rfl, by omega, Nat.add_right_cancel (m := 1) hn, h'⟩)⟩
      · refine ⟨[11, 15, 18], by kernel_rfl, by simp, fun i hi => ?_⟩
        simp only [List.mem_cons, List.not_mem_nil, or_false] at hi
        rcases hi with rfl | rfl | rfl
        · exact ⟨_, rfl, rfl, fun K' hK => w3_op11 HS.out HW.out HTI.out h (fun x w' h' => hK _ _ ⟨4, false, true, true, false, v4, v5, v6, v7, v17, v20, v23, x, v29, by kernel_rfl, rfl, by omega, Nat.add_right_cancel (m := 1) hn, h'⟩)⟩
        · exact ⟨_, rfl, rfl, fun K' hK => w3_op15 h (fun x w' h' => hK _ _ ⟨3, true, true, true, false, x, v5, v6, v7, v17, v20, v23, v26, v29, by kernel_rfl, rfl, by omega, Nat.add_right_cancel (m := 1) hn, h'⟩)⟩
        · exact ⟨_, rfl, rfl, fun K' hK => w3_op18 h (fun x w' h' => hK _ _ ⟨3, false, true, true, true, v4, v5, v6, x, v17, v20, v23, v26, v29, by kernel_rfl, rfl, by omega, Nat.add_right_cancel (m := 1) hn, h'⟩)⟩
      · refine ⟨[11, 15], by kernel_rfl, by simp, fun i hi => ?_⟩
        simp only [List.mem_cons, List.not_mem_nil, or_false] at hi
        rcases hi with rfl | rfl
        · exact ⟨_, rfl, rfl, fun K' hK => w3_op11 HS.out HW.out HTI.out h (fun x w' h' => hK _ _ ⟨4, false, true, true, true, v4, v5, v6, v7, v17, v20, v23, x, v29, by kernel_rfl, rfl, by omega, Nat.add_right_cancel (m := 1) hn, h'⟩)⟩
        · exact ⟨_, rfl, rfl, fun K' hK => w3_op15 h (fun x w' h' => hK _ _ ⟨3, true, true, true, true, x, v5, v6, v7, v17, v20, v23, v26, v29, by kernel_rfl, rfl, by omega, Nat.add_right_cancel (m := 1) hn, h'⟩)⟩
      · refine ⟨[11, 16, 17, 18], by kernel_rfl, by simp, fun i hi => ?_⟩
        simp only [List.mem_cons, List.not_mem_nil, or_false] at hi
        rcases hi with rfl | rfl | rfl | rfl
        · exact ⟨_, rfl, rfl, fun K' hK => w3_op11 HS.out HW.out HTI.out h (fun x w' h' => hK _ _ ⟨4, true, false, false, false, v4, v5, v6, v7, v17, v20, v23, x, v29, by kernel_rfl, rfl, by omega, Nat.add_right_cancel (m := 1) hn, h'⟩)⟩
        · exact ⟨_, rfl, rfl, fun K' hK => w3_op16 h (fun x w' h' => hK _ _ ⟨3, true, true, false, false, v4, x, v6, v7, v17, v20, v23, v26, v29, by kernel_rfl, rfl, by omega, Nat.add_right_cancel (m := 1) hn, h'⟩)⟩
        · exact ⟨_, rfl, rfl, fun K' hK => w3_op17 h (fun x w' h' => hK _ _ ⟨3, true, false, true, false, v4, v5, x, v7, v17, v20, v23, v26, v29, by kernel_rfl, rfl, by omega, Nat.add_right_cancel (m := 1) hn, h'⟩)⟩
        · exact ⟨_, rfl, rfl, fun K' hK => w3_op18 h (fun x w' h' => hK _ _ ⟨3, true, false, false, true, v4, v5, v6, x, v17, v20, v23, v26, v29, by kernel_rfl, rfl, by omega, Nat.add_right_cancel (m := 1) hn, h'⟩)⟩
      · refine ⟨[11, 16, 17], by kernel_rfl, by simp, fun i hi => ?_⟩
        simp only [List.mem_cons, List.not_mem_nil, or_false] at hi
        rcases hi with rfl | rfl | rfl
        · exact ⟨_, rfl, rfl, fun K' hK => w3_op11 HS.out HW.out HTI.out h (fun x w' h' => hK _ _ ⟨4, true, false, false, true, v4, v5, v6, v7, v17, v20, v23, x, v29, by kernel_rfl, rfl, by omega, Nat.add_right_cancel (m := 1) hn, h'⟩)⟩
        · exact ⟨_, rfl, rfl, fun K' hK => w3_op16 h (fun x w' h' => hK _ _ ⟨3, true, true, false, true, v4, x, v6, v7, v17, v20, v23, v26, v29, by kernel_rfl, rfl, by omega, Nat.add_right_cancel (m := 1) hn, h'⟩)⟩
        · exact ⟨_, rfl, rfl, fun K' hK => w3_op17 h (fun x w' h' => hK _ _ ⟨3, true, false, true, true, v4, v5, x, v7, v17, v20, v23, v26, v29, by kernel_rfl, rfl, by omega, Nat.add_right_cancel (m := 1) hn, h'⟩)⟩
      · refine ⟨[11, 16, 18], by kernel_rfl, by simp, fun i hi => ?_⟩
        simp only [List.mem_cons, List.not_mem_nil, or_false] at hi
        rcases hi with rfl | rfl | rfl
        · exact ⟨_, rfl, rfl, fun K' hK => w3_op11 HS.out HW.out HTI.out h (fun x w' h' => hK _ _ ⟨4, true, false, true, false, v4, v5, v6, v7, v17, v20, v23, x, v29, by kernel_rfl, rfl, by omega, Nat.add_right_cancel (m := 1) hn, h'⟩)⟩
        · exact ⟨_, rfl, rfl, fun K' hK => w3_op16 h (fun x w' h' => hK _ _ ⟨3, true, true, true, false, v4, x, v6, v7, v17, v20, v23, v26, v29, by kernel_rfl, rfl, by omega, Nat.add_right_cancel (m := 1) hn, h'⟩)⟩
        · exact ⟨_, rfl, rfl, fun K' hK => w3_op18 h (fun x w' h' => hK _ _ ⟨3, true, false, true, true, v4, v5, v6, x, v17, v20, v23, v26, v29, by kernel_rfl, rfl, by omega, Nat.add_right_cancel (m := 1) hn, h'⟩)⟩
      · refine ⟨[11, 16], by kernel_rfl, by simp, fun i hi => ?_⟩
        simp only [List.mem_cons, List.not_mem_nil, or_false] at hi
        rcases hi with rfl | rfl
        · exact ⟨_, rfl, rfl, fun K' hK => w3_op11 HS.out HW.out HTI.out h (fun x w' h' => hK _ _ ⟨4, true, false, true, true, v4, v5, v6, v7, v17, v20, v23, x, v29, by kernel_rfl, rfl, by omega, Nat.add_right_cancel (m := 1) hn, h'⟩)⟩
        · exact ⟨_, rfl, rfl, fun K' hK => w3_op16 h (fun x w' h' => hK _ _ ⟨3, true, true, true, true, v4, x, v6, v7, v17, v20, v23, v26, v29, by kernel_rfl, rfl, by omega, Nat.add_right_cancel (m := 1) hn, h'⟩)⟩
      · refine ⟨[11, 17, 18], by kernel_rfl, by simp, fun i hi => ?_⟩
        simp only [List.mem_cons, List.not_mem_nil, or_false] at hi
        rcases hi with rfl | rfl | rfl
        · exact ⟨_, rfl, rfl, fun K' hK => w3_op11 HS.out HW.out HTI.out h (fun x w' h' => hK _ _ ⟨4, true, true, false, false, v4, v5, v6, v7, v17, v20, v23, x, v29, by kernel_rfl, rfl, by omega, Nat.add_right_cancel (m := 1) hn, h'⟩)⟩
        · exact ⟨_, rfl, rfl, fun K' hK => w3_op17 h (fun x w' h' => hK _ _ ⟨3, true, true, true, false, v4, v5, x, v7, v17, v20, v23, v26, v29, by kernel_rfl, rfl, by omega, Nat.add_right_cancel (m := 1) hn, h'⟩)⟩
        · exact ⟨_, rfl, rfl, fun K' hK => w3_op18 h (fun x w' h' => hK _ _ ⟨3, true, true, false, true, v4, v5, v6, x, v17, v20, v23, v26, v29, by kernel_rfl, rfl, by omega, Nat.add_right_cancel (m := 1) hn, h'⟩)⟩
      · refine ⟨[11, 17], by kernel_rfl, by simp, fun i hi => ?_⟩
        simp only [List.mem_cons, List.not_mem_nil, or_false] at hi
        rcases hi with rfl | rfl
        · exact ⟨_, rfl, rfl, fun K' hK => w3_op11 HS.out HW.out HTI.out h (fun x w' h' => hK _ _ ⟨4, true, true, false, true, v4, v5, v6, v7, v17, v20, v23, x, v29, by kernel_rfl, rfl, by omega, Nat.add_right_cancel (m := 1) hn, h'⟩)⟩
        · exact ⟨_, rfl, rfl, fun K' hK => w3_op17 h (fun x w' h' => hK _ _ ⟨3, true, true, true, true, v4, v5, x, v7, v17, v20, v23, v26, v29, by kernel_rfl, rfl, by omega, Nat.add_right_cancel (m := 1) hn, h'⟩)⟩
      · refine ⟨[11, 18], by kernel_rfl, by simp, fun i hi => ?_⟩
        simp only [List.mem_cons, List.not_mem_nil, or_false] at hi
        rcases hi with rfl | rfl
        · exact ⟨_, rfl, rfl, fun K' hK => w3_op11 HS.out HW.out HTI.out h (fun x w' h' => hK _ _ ⟨4, true, true, true, false, v4, v5, v6, v7, v17, v20, v23, x, v29, by kernel_rfl, rfl, by omega, Nat.add_right_cancel (m := 1) hn, h'⟩)⟩
        · exact ⟨_, rfl, rfl, fun K' hK => w3_op18 h (fun x w' h' => hK _ _ ⟨3, true, true, true, true, v4, v5, v6, x, v17, v20, v23, v26, v29, by kernel_rfl, rfl, by omega, Nat.add_right_cancel (m := 1) hn, h'⟩)⟩
      · refine ⟨[11], by kernel_rfl, by simp, fun i hi => ?_⟩
        simp only [List.mem_cons, List.not_mem_nil, or_false] at hi
        subst hi
        · exact ⟨_, rfl, rfl, fun K' hK => w3_op11 HS.out HW.out HTI.out h (fun x w' h' => hK _ _ ⟨4, true, true, true, true, v4, v5, v6, v7, v17, v20, v23, x, v29, by kernel_rfl, rfl, by omega, Nat.add_right_cancel (m := 1) hn, h'⟩)⟩
    · cases y15 <;> cases y16 <;> cases y17 <;> cases y18
      · refine ⟨[14, 15, 16, 17, 18], by kernel_rfl, by simp, fun i hi => ?_⟩
        simp only [List.mem_cons, List.not_mem_nil, or_false] at hi
        rcases hi with rfl | rfl | rfl | rfl | rfl
        · exact ⟨_, rfl, rfl, fun K' hK => w3_op14 HS.out HW.out HTI.out h (fun x w' h' => hK _ _ ⟨5, false, false, false, false, v4, v5, v6, v7, v17, v20, v23, v26, x, by kernel_rfl, rfl, by omega, Nat.add_right_cancel (m := 1) hn, h'⟩)⟩
        · exact ⟨_, rfl, rfl, fun K' hK => w3_op15 h (fun x w' h' => hK _ _ ⟨4, true, false, false, false, x, v5, v6, v7, v17, v20, v23, v26, v29, by kernel_rfl, rfl, by omega, Nat.add_right_cancel (m := 1) hn, h'⟩)⟩
        · exact ⟨_, rfl, rfl, fun K' hK => w3_op16 h (fun x w' h' => hK _ _ ⟨4, false, true, false, false, v4, x, v6, v7, v17, v20, v23, v26, v29, by kernel_rfl, rfl, by omega, Nat.add_right_cancel (m := 1) hn, h'⟩)⟩
        · exact ⟨_, rfl, rfl, fun K' hK => w3_op17 h (fun x w' h' => hK _ _ ⟨4, false, false, true, false, v4, v5, x, v7, v17, v20, v23, v26, v29, by kernel_rfl, rfl, by omega, Nat.add_right_cancel (m := 1) hn, h'⟩)⟩
        · exact ⟨_, rfl, rfl, fun K' hK => w3_op18 h (fun x w' h' => hK _ _ ⟨4, false, false, false, true, v4, v5, v6, x, v17, v20, v23, v26, v29, by kernel_rfl, rfl, by omega, Nat.add_right_cancel (m := 1) hn, h'⟩)⟩
      · refine ⟨[14, 15, 16, 17], by kernel_rfl, by simp, fun i hi => ?_⟩
        simp only [List.mem_cons, List.not_mem_nil, or_false] at hi
        rcases hi with rfl | rfl | rfl | rfl
        · exact ⟨_, rfl, rfl, fun K' hK => w3_op14 HS.out HW.out HTI.out h (fun x w' h' => hK _ _ ⟨5, false, false, false, true, v4, v5, v6, v7, v17, v20, v23, v26, x, by kernel_rfl, rfl, by omega, Nat.add_right_cancel (m := 1) hn, h'⟩)⟩
        · exact ⟨_, rfl, rfl, fun K' hK => w3_op15 h (fun x w' h' => hK _ _ ⟨4, true, false, false, true, x, v5, v6, v7, v17, v20, v23, v26, v29, by kernel_rfl, rfl, by omega, Nat.add_right_cancel (m := 1) hn, h'⟩)⟩
        · exact ⟨_, rfl, rfl, fun K' hK => w3_op16 h (fun x w' h' => hK _ _ ⟨4, false, true, false, true, v4, x, v6, v7, v17, v20, v23, v26, v29, by kernel_rfl, rfl, by omega, Nat.add_right_cancel (m := 1) hn, h'⟩)⟩
        · exact ⟨_, rfl, rfl, fun K' hK => w3_op17 h (fun x w' h' => hK _ _ ⟨4, false, false, true, true, v4, v5, x, v7, v17, v20, v23, v26, v29, by kernel_rfl, rfl, by omega, Nat.add_right_cancel (m := 1) hn, h'⟩)⟩
      · refine ⟨[14, 15, 16, 18], by kernel_rfl, by simp, fun i hi => ?_⟩
        simp only [List.mem_cons, List.not_mem_nil, or_false] at hi
        rcases hi with rfl | rfl | rfl | rfl
        · exact ⟨_, rfl, rfl, fun K' hK => w3_op14 HS.out HW.out HTI.out h (fun x w' h' => hK _ _ ⟨5, false, false, true, false, v4, v5, v6, v7, v17, v20, v23, v26, x, by kernel_rfl, rfl, by omega, Nat.add_right_cancel (m := 1) hn, h'⟩)⟩
        · exact ⟨_, rfl, rfl, fun K' hK => w3_op15 h (fun x w' h' => hK _ _ ⟨4, true, false, true, false, x, v5, v6, v7, v17, v20, v23, v26, v29, by kernel_rfl, rfl, by omega, Nat.add_right_cancel (m := 1) hn, h'⟩)⟩
        · exact ⟨_, rfl, rfl, fun K' hK => w3_op16 h (fun x w' h' => hK _ _ ⟨4, false, true, true, false, v4, x, v6, v7, v17, v20, v23, v26, v29, by kernel_rfl, rfl, by omega, Nat.add_right_cancel (m := 1) hn, h'⟩)⟩
        · exact ⟨_, rfl, rfl, fun K' hK => w3_op18 h (fun x w' h' => hK _ _ ⟨4, false, false, true, true, v4, v5, v6, x, v17, v20, v23, v26, v29, by kernel_rfl, rfl, by omega, Nat.add_right_cancel (m := 1) hn, h'⟩)⟩
      · refine ⟨[14, 15, 16], by kernel_rfl, by simp, fun i hi => ?_⟩
        simp only [List.mem_cons, List.not_mem_nil, or_false] at hi
        rcases hi with rfl | rfl | rfl
        · exact ⟨_, rfl, rfl, fun K' hK => w3_op14 HS.out HW.out HTI.out h (fun x w' h' => hK _ _ ⟨5, false, false, true, true, v4, v5, v6, v7, v17, v20, v23, v26, x, by kernel_rfl, rfl, by omega, Nat.add_right_cancel (m := 1) hn, h'⟩)⟩
        · exact ⟨_, rfl, rfl, fun K' hK => w3_op15 h (fun x w' h' => hK _ _ ⟨4, true, false, true, true, x, v5, v6, v7, v17, v20, v23, v26, v29, by kernel_rfl, rfl, by omega, Nat.add_right_cancel (m := 1) hn, h'⟩)⟩
        · exact ⟨_, rfl, rfl, fun K' hK => w3_op16 h (fun x w' h' => hK _ _ ⟨4, false, true, true, true, v4, x, v6, v7, v17, v20, v23, v26, v29, by kernel_rfl, rfl, by omega, Nat.add_right_cancel (m := 1) hn, h'⟩)⟩
      · refine ⟨[14, 15, 17, 18], by kernel_rfl, by simp, fun i hi => ?_⟩
        simp only [List.mem_cons, List.not_mem_nil, or_false] at hi
        rcases hi with rfl | rfl | rfl | rfl
        · exact ⟨_, rfl, rfl, fun K' hK => w3_op14 HS.out HW.out HTI.out h (fun x w' h' => hK _ _ ⟨5, false, true, false, false, v4, v5, v6, v7, v17, v20, v23, v26, x, by kernel_rfl, rfl, by omega, Nat.add_right_cancel (m := 1) hn, h'⟩)⟩
        · exact ⟨_, rfl, rfl, fun K' hK => w3_op15 h (fun x w' h' => hK _ _ ⟨4, true, true, false, false, x, v5, v6, v7, v17, v20, v23, v26, v29, by kernel_rfl, rfl, by omega, Nat.add_right_cancel (m := 1) hn, h'⟩)⟩
        · exact ⟨_, rfl, rfl, fun K' hK => w3_op17 h (fun x w' h' => hK _ _ ⟨4, false, true, true, false, v4, v5, x, v7, v17, v20, v23, v26, v29, by kernel_rfl, rfl, by omega, Nat.add_right_cancel (m := 1) hn, h'⟩)⟩
        · exact ⟨_, rfl, rfl, fun K' hK => w3_op18 h (fun x w' h' => hK _ _ ⟨4, false, true, false, true, v4, v5, v6, x, v17, v20, v23, v26, v29, by kernel_rfl, rfl, by omega, Nat.add_right_cancel (m := 1) hn, h'⟩)⟩
      · refine ⟨[14, 15, 17], by kernel_rfl, by simp, fun i hi => ?_⟩
        simp only [List.mem_cons, List.not_mem_nil, or_false] at hi
        rcases hi with rfl | rfl | rfl
        · exact ⟨_, rfl, rfl, fun K' hK => w3_op14 HS.out HW.out HTI.out h (fun x w' h' => hK _ _ ⟨5, false, true, false, true, v4, v5, v6, v7, v17, v20, v23, v26, x, by kernel_rfl, rfl, by omega, Nat.add_right_cancel (m := 1) hn, h'⟩)⟩
        · exact ⟨_, rfl, rfl, fun K' hK => w3_op15 h (fun x w' h' => hK _ _ ⟨4, true, true, false, true, x, v5, v6, v7, v17, v20, v23, v26, v29, by kernel_rfl, rfl, by omega, Nat.add_right_cancel (m := 1) hn, h'⟩)⟩
        · exact ⟨_, rfl, rfl, fun K' hK => w3_op17 h (fun x w' h' => hK _ _ ⟨4, false, true, true, true, v4, v5, x, v7, v17, v20, v23, v26, v29, by kernel_rfl, rfl, by omega, Nat.add_right_cancel (m := 1) hn, h'⟩)⟩
      · refine ⟨[14, 15, 18], by kernel_rfl, by simp, fun i hi => ?_⟩
        simp only [List.mem_cons, List.not_mem_nil, or_false] at hi
        rcases hi with rfl | rfl | rfl
        · exact ⟨_, rfl, rfl, fun K' hK => w3_op14 HS.out HW.out HTI.out h (fun x w' h' => hK _ _ ⟨5, false, true, true, false, v4, v5, v6, v7, v17, v20, v23, v26, x, by kernel_rfl, rfl, by omega, Nat.add_right_cancel (m := 1) hn, h'⟩)⟩
        · exact ⟨_, rfl, rfl, fun K' hK => w3_op15 h (fun x w' h' => hK _ _ ⟨4, true, true, true, false, x, v5, v6, v7, v17, v20, v23, v26, v29, by kernel_rfl, rfl, by omega, Nat.add_right_cancel (m := 1) hn, h'⟩)⟩
        · exact ⟨_, rfl, rfl, fun K' hK => w3_op18 h (fun x w' h' => hK _ _ ⟨4, false, true, true, true, v4, v5, v6, x, v17, v20, v23, v26, v29, by kernel_rfl, rfl, by omega, Nat.add_right_cancel (m := 1) hn, h'⟩)⟩
      · refine ⟨[14, 15], by kernel_rfl, by simp, fun i hi => ?_⟩
        simp only [List.mem_cons, List.not_mem_nil, or_false] at hi
        rcases hi with rfl | rfl
        · exact ⟨_, rfl, rfl, fun K' hK => w3_op14 HS.out HW.out HTI.out h (fun x w' h' => hK _ _ ⟨5, false, true, true, true, v4, v5, v6, v7, v17, v20, v23, v26, x, by kernel_rfl, rfl, by omega, Nat.add_right_cancel (m := 1) hn, h'⟩)⟩
        · exact ⟨_, rfl, rfl, fun K' hK => w3_op15 h (fun x w' h' => hK _ _ ⟨4, true, true, true, true, x, v5, v6, v7, v17, v20, v23, v26, v29, by kernel_rfl, rfl, by omega, Nat.add_right_cancel (m := 1) hn, h'⟩)⟩
      · refine ⟨[14, 16, 17, 18], by kernel_rfl, by simp, fun i hi => ?_⟩
        simp only [List.mem_cons, List.not_mem_nil, or_false] at hi
        rcases hi with rfl | rfl | rfl | rfl
        · exact ⟨_, rfl, rfl, fun K' hK => w3_op14 HS.out HW.out HTI.out h (fun x w' h' => hK _ _ ⟨5, true, false, false, false, v4, v5, v6, v7, v17, v20, v23, v26, x, by kernel_rfl, rfl, by omega, Nat.add_right_cancel (m := 1) hn, h'⟩)⟩
        · exact ⟨_, rfl, rfl, fun K' hK => w3_op16 h (fun x w' h' => hK _ _ ⟨4, true, true, false, false, v4, x, v6, v7, v17, v20, v23, v26, v29, by kernel_rfl, rfl, by omega, Nat.add_right_cancel (m := 1) hn, h'⟩)⟩
        · exact ⟨_, rfl, rfl, fun K' hK => w3_op17 h (fun x w' h' => hK _ _ ⟨4, true, false, true, false, v4, v5, x, v7, v17, v20, v23, v26, v29, by kernel_rfl, rfl, by omega, Nat.add_right_cancel (m := 1) hn, h'⟩)⟩
        · exact ⟨_, rfl, rfl, fun K' hK => w3_op18 h (fun x w' h' => hK _ _ ⟨4, true, false, false, true, v4, v5, v6, x, v17, v20, v23, v26, v29, by kernel_rfl, rfl, by omega, Nat.add_right_cancel (m := 1) hn, h'⟩)⟩
      · refine ⟨[14, 16, 17], by kernel_rfl, by simp, fun i hi => ?_⟩
        simp only [List.mem_cons, List.not_mem_nil, or_false] at hi
        rcases hi with rfl | rfl | rfl
        · exact ⟨_, rfl, rfl, fun K' hK => w3_op14 HS.out HW.out HTI.out h (fun x w' h' => hK _ _ ⟨5, true, false, false, true, v4, v5, v6, v7, v17, v20, v23, v26, x, by kernel_rfl, rfl, by omega, Nat.add_right_cancel (m := 1) hn, h'⟩)⟩
        · exact ⟨_, rfl, rfl, fun K' hK => w3_op16 h (fun x w' h' => hK _ _ ⟨4, true, true, false, true, v4, x, v6, v7, v17, v20, v23, v26, v29, by kernel_rfl, rfl, by omega, Nat.add_right_cancel (m := 1) hn, h'⟩)⟩
        · exact ⟨_, rfl, rfl, fun K' hK => w3_op17 h (fun x w' h' => hK _ _ ⟨4, true, false, true, true, v4, v5, x, v7, v17, v20, v23, v26, v29, by kernel_rfl, rfl, by omega, Nat.add_right_cancel (m := 1) hn, h'⟩)⟩
      · refine ⟨[14, 16, 18], by kernel_rfl, by simp, fun i hi => ?_⟩
        simp only [List.mem_cons, List.not_mem_nil, or_false] at hi
        rcases hi with rfl | rfl | rfl
        · exact ⟨_, rfl, rfl, fun K' hK => w3_op14 HS.out HW.out HTI.out h (fun x w' h' => hK _ _ ⟨5, true, false, true, false, v4, v5, v6, v7, v17, v20, v23, v26, x, by kernel_rfl, rfl, by omega, Nat.add_right_cancel (m := 1) hn, h'⟩)⟩
        · exact ⟨_, rfl, rfl, fun K' hK => w3_op16 h (fun x w' h' => hK _ _ ⟨4, true, true, true, false, v4, x, v6, v7, v17, v20, v23, v26, v29, by kernel_rfl, rfl, by omega, Nat.add_right_cancel (m := 1) hn, h'⟩)⟩
        · exact ⟨_, rfl, rfl, fun K' hK => w3_op18 h (fun x w' h' => hK _ _ ⟨4, true, false, true, true, v4, v5, v6, x, v17, v20, v23, v26, v29, by kernel_rfl, rfl, by omega, Nat.add_right_cancel (m := 1) hn, h'⟩)⟩
      · refine ⟨[14, 16], by kernel_rfl, by simp, fun i hi => ?_⟩
        simp only [List.mem_cons, List.not_mem_nil, or_false] at hi
        rcases hi with rfl | rfl
        · exact ⟨_, rfl, rfl, fun K' hK => w3_op14 HS.out HW.out HTI.out h (fun x w' h' => hK _ _ ⟨5, true, false, true, true, v4, v5, v6, v7, v17, v20, v23, v26, x, by kernel_rfl, rfl, by omega, Nat.add_right_cancel (m := 1) hn, h'⟩)⟩
        · exact ⟨_, rfl, rfl, fun K' hK => w3_op16 h (fun x w' h' => hK _ _ ⟨4, true, true, true, true, v4, x, v6, v7, v17, v20, v23, v26, v29, by kernel_rfl, rfl, by omega, Nat.add_right_cancel (m := 1) hn, h'⟩)⟩
      · refine ⟨[14, 17, 18], by kernel_rfl, by simp, fun i hi => ?_⟩
        simp only [List.mem_cons, List.not_mem_nil, or_false] at hi
        rcases hi with rfl | rfl | rfl
        · exact ⟨_, rfl, rfl, fun K' hK => w3_op14 HS.out HW.out HTI.out h (fun x w' h' => hK _ _ ⟨5, true, true, false, false, v4, v5, v6, v7, v17, v20, v23, v26, x, by kernel_rfl, rfl, by omega, Nat.add_right_cancel (m := 1) hn, h'⟩)⟩
        · exact ⟨_, rfl, rfl, fun K' hK => w3_op17 h (fun x w' h' => hK _ _ ⟨4, true, true, true, false, v4, v5, x, v7, v17, v20, v23, v26, v29, by kernel_rfl, rfl, by omega, Nat.add_right_cancel (m := 1) hn, h'⟩)⟩
        · exact ⟨_, rfl, rfl, fun K' hK => w3_op18 h (fun x w' h' => hK _ _ ⟨4, true, true, false, true, v4, v5, v6, x, v17, v20, v23, v26, v29, by kernel_rfl, rfl, by omega, Nat.add_right_cancel (m := 1) hn, h'⟩)⟩
      · refine ⟨[14, 17], by kernel_rfl, by simp, fun i hi => ?_⟩
        simp only [List.mem_cons, List.not_mem_nil, or_false] at hi
        rcases hi with rfl | rfl
        · exact ⟨_, rfl, rfl, fun K' hK => w3_op14 HS.out HW.out HTI.out h (fun x w' h' => hK _ _ ⟨5, true, true, false, true, v4, v5, v6, v7, v17, v20, v23, v26, x, by kernel_rfl, rfl, by omega, Nat.add_right_cancel (m := 1) hn, h'⟩)⟩
        · exact ⟨_, rfl, rfl, fun K' hK => w3_op17 h (fun x w' h' => hK _ _ ⟨4, true, true, true, true, v4, v5, x, v7, v17, v20, v23, v26, v29, by kernel_rfl, rfl, by omega, Nat.add_right_cancel (m := 1) hn, h'⟩)⟩
      · refine ⟨[14, 18], by kernel_rfl, by simp, fun i hi => ?_⟩
        simp only [List.mem_cons, List.not_mem_nil, or_false] at hi
        rcases hi with rfl | rfl
        · exact ⟨_, rfl, rfl, fun K' hK => w3_op14 HS.out HW.out HTI.out h (fun x w' h' => hK _ _ ⟨5, true, true, true, false, v4, v5, v6, v7, v17, v20, v23, v26, x, by kernel_rfl, rfl, by omega, Nat.add_right_cancel (m := 1) hn, h'⟩)⟩
        · exact ⟨_, rfl, rfl, fun K' hK => w3_op18 h (fun x w' h' => hK _ _ ⟨4, true, true, true, true, v4, v5, v6, x, v17, v20, v23, v26, v29, by kernel_rfl, rfl, by omega, Nat.add_right_cancel (m := 1) hn, h'⟩)⟩
      · refine ⟨[14], by kernel_rfl, by simp, fun i hi => ?_⟩
        simp only [List.mem_cons, List.not_mem_nil, or_false] at hi
        subst hi
        · exact ⟨_, rfl, rfl, fun K' hK => w3_op14 HS.out HW.out HTI.out h (fun x w' h' => hK _ _ ⟨5, true, true, true, true, v4, v5, v6, v7, v17, v20, v23, v26, x, by kernel_rfl, rfl, by omega, Nat.add_right_cancel (m := 1) hn, h'⟩)⟩
    · cases y15 <;> cases y16 <;> cases y17 <;> cases y18
      · refine ⟨[15, 16, 17, 18], by kernel_rfl, by simp, fun i hi => ?_⟩
        simp only [List.mem_cons, List.not_mem_nil, or_false] at hi
        rcases hi with rfl | rfl | rfl | rfl
        · exact ⟨_, rfl, rfl, fun K' hK => w3_op15 h (fun x w' h' => hK _ _ ⟨5, true, false, false, false, x, v5, v6, v7, v17, v20, v23, v26, v29, by kernel_rfl, rfl, by omega, Nat.add_right_cancel (m := 1) hn, h'⟩)⟩
        · exact ⟨_, rfl, rfl, fun K' hK => w3_op16 h (fun x w' h' => hK _ _ ⟨5, false, true, false, false, v4, x, v6, v7, v17, v20, v23, v26, v29, by kernel_rfl, rfl, by omega, Nat.add_right_cancel (m := 1) hn, h'⟩)⟩
        · exact ⟨_, rfl, rfl, fun K' hK => w3_op17 h (fun x w' h' => hK _ _ ⟨5, false, false, true, false, v4, v5, x, v7, v17, v20, v23, v26, v29, by kernel_rfl, rfl, by omega, Nat.add_right_cancel (m := 1) hn, h'⟩)⟩
        · exact ⟨_, rfl, rfl, fun K' hK => w3_op18 h (fun x w' h' => hK _ _ ⟨5, false, false, false, true, v4, v5, v6, x, v17, v20, v23, v26, v29, by kernel_rfl, rfl, by omega, Nat.add_right_cancel (m := 1) hn, h'⟩)⟩
      · refine ⟨[15, 16, 17], by kernel_rfl, by simp, fun i hi => ?_⟩
        simp only [List.mem_cons, List.not_mem_nil, or_false] at hi
        rcases hi with rfl | rfl | rfl
        · exact ⟨_, rfl, rfl, fun K' hK => w3_op15 h (fun x w' h' => hK _ _ ⟨5, true, false, false, true, x, v5, v6, v7, v17, v20, v23, v26, v29, by kernel_rfl, rfl, by omega, Nat.add_right_cancel (m := 1) hn, h'⟩)⟩
        · exact ⟨_, rfl, rfl, fun K' hK => w3_op16 h (fun x w' h' => hK _ _ ⟨5, false, true, false, true, v4, x, v6, v7, v17, v20, v23, v26, v29, by kernel_rfl, rfl, by omega, Nat.add_right_cancel (m := 1) hn, h'⟩)⟩
        · exact ⟨_, rfl, rfl, fun K' hK => w3_op17 h (fun x w' h' => hK _ _ ⟨5, false, false, true, true, v4, v5, x, v7, v17, v20, v23, v26, v29, by kernel_rfl, rfl, by omega, Nat.add_right_cancel (m := 1) hn, h'⟩)⟩
      · refine ⟨[15, 16, 18], by kernel_rfl, by simp, fun i hi => ?_⟩
        simp only [List.mem_cons, List.not_mem_nil, or_false] at hi
        rcases hi with rfl | rfl | rfl
        · exact ⟨_, rfl, rfl, fun K' hK => w3_op15 h (fun x w' h' => hK _ _ ⟨5, true, false, true, false, x, v5, v6, v7, v17, v20, v23, v26, v29, by kernel_rfl, rfl, by omega, Nat.add_right_cancel (m := 1) hn, h'⟩)⟩
        · exact ⟨_, rfl, rfl, fun K' hK => w3_op16 h (fun x w' h' => hK _ _ ⟨5, false, true, true, false, v4, x, v6, v7, v17, v20, v23, v26, v29, by kernel_rfl, rfl, by omega, Nat.add_right_cancel (m := 1) hn, h'⟩)⟩
        · exact ⟨_, rfl, rfl, fun K' hK => w3_op18 h (fun x w' h' => hK _ _ ⟨5, false, false, true, true, v4, v5, v6, x, v17, v20, v23, v26, v29, by kernel_rfl, rfl, by omega, Nat.add_right_cancel (m := 1) hn, h'⟩)⟩
      · refine ⟨[15, 16], by kernel_rfl, by simp, fun i hi => ?_⟩
        simp only [List.mem_cons, List.not_mem_nil, or_false] at hi
        rcases hi with rfl | rfl
        · exact ⟨_, rfl, rfl, fun K' hK => w3_op15 h (fun x w' h' => hK _ _ ⟨5, true, false, true, true, x, v5, v6, v7, v17, v20, v23, v26, v29, by kernel_rfl, rfl, by omega, Nat.add_right_cancel (m := 1) hn, h'⟩)⟩
        · exact ⟨_, rfl, rfl, fun K' hK => w3_op16 h (fun x w' h' => hK _ _ ⟨5, false, true, true, true, v4, x, v6, v7, v17, v20, v23, v26, v29, by kernel_rfl, rfl, by omega, Nat.add_right_cancel (m := 1) hn, h'⟩)⟩
      · refine ⟨[15, 17, 18], by kernel_rfl, by simp, fun i hi => ?_⟩
        simp only [List.mem_cons, List.not_mem_nil, or_false] at hi
        rcases hi with rfl | rfl | rfl
        · exact ⟨_, rfl, rfl, fun K' hK => w3_op15 h (fun x w' h' => hK _ _ ⟨5, true, true, false, false, x, v5, v6, v7, v17, v20, v23, v26, v29, by kernel_rfl, rfl, by omega, Nat.add_right_cancel (m := 1) hn, h'⟩)⟩
        · exact ⟨_, rfl, rfl, fun K' hK => w3_op17 h (fun x w' h' => hK _ _ ⟨5, false, true, true, false, v4, v5, x, v7, v17, v20, v23, v26, v29, by kernel_rfl, rfl, by omega, Nat.add_right_cancel (m := 1) hn, h'⟩)⟩
        · exact ⟨_, rfl, rfl, fun K' hK => w3_op18 h (fun x w' h' => hK _ _ ⟨5, false, true, false, true, v4, v5, v6, x, v17, v20, v23, v26, v29, by kernel_rfl, rfl, by omega, Nat.add_right_cancel (m := 1) hn, h'⟩)⟩
      · refine ⟨[15, 17], by kernel_rfl, by simp, fun i hi => ?_⟩
        simp only [List.mem_cons, List.not_mem_nil, or_false] at hi
        rcases hi with rfl | rfl
        · exact ⟨_, rfl, rfl, fun K' hK => w3_op15 h (fun x w' h' => hK _ _ ⟨5, true, true, false, true, x, v5, v6, v7, v17, v20, v23, v26, v29, by kernel_rfl, rfl, by omega, Nat.add_right_cancel (m := 1) hn, h'⟩)⟩
        · exact ⟨_, rfl, rfl, fun K' hK => w3_op17 h (fun x w' h' => hK _ _ ⟨5, false, true, true, true, v4, v5, x, v7, v17, v20, v23, v26, v29, by kernel_rfl, rfl, by omega, Nat.add_right_cancel (m := 1) hn, h'⟩)⟩
      · refine ⟨[15, 18], by kernel_rfl, by simp, fun i hi => ?_⟩
        simp only [List.mem_cons, List.not_mem_nil, or_false] at hi
        rcases hi with rfl | rfl
        · exact ⟨_, rfl, rfl, fun K' hK => w3_op15 h (fun x w' h' => hK _ _ ⟨5, true, true, true, false, x, v5, v6, v7, v17, v20, v23, v26, v29, by kernel_rfl, rfl, by omega, Nat.add_right_cancel (m := 1) hn, h'⟩)⟩
        · exact ⟨_, rfl, rfl, fun K' hK => w3_op18 h (fun x w' h' => hK _ _ ⟨5, false, true, true, true, v4, v5, v6, x, v17, v20, v23, v26, v29, by kernel_rfl, rfl, by omega, Nat.add_right_cancel (m := 1) hn, h'⟩)⟩
      · refine ⟨[15], by kernel_rfl, by simp, fun i hi => ?_⟩
        simp only [List.mem_cons, List.not_mem_nil, or_false] at hi
        subst hi
        · exact ⟨_, rfl, rfl, fun K' hK => w3_op15 h (fun x w' h' => hK _ _ ⟨5, true, true, true, true, x, v5, v6, v7, v17, v20, v23, v26, v29, by kernel_rfl, rfl, by omega, Nat.add_right_cancel (m := 1) hn, h'⟩)⟩
      · refine ⟨[16, 17, 18], by kernel_rfl, by simp, fun i hi => ?_⟩
        simp only [List.mem_cons, List.not_mem_nil, or_false] at hi
        rcases hi with rfl | rfl | rfl
        · exact ⟨_, rfl, rfl, fun K' hK => w3_op16 h (fun x w' h' => hK _ _ ⟨5, true, true, false, false, v4, x, v6, v7, v17, v20, v23, v26, v29, by kernel_rfl, rfl, by omega, Nat.add_right_cancel (m := 1) hn, h'⟩)⟩
        · exact ⟨_, rfl, rfl, fun K' hK => w3_op17 h (fun x w' h' => hK _ _ ⟨5, true, false, true, false, v4, v5, x, v7, v17, v20, v23, v26, v29, by kernel_rfl, rfl, by omega, Nat.add_right_cancel (m := 1) hn, h'⟩)⟩
        · exact ⟨_, rfl, rfl, fun K' hK => w3_op18 h (fun x w' h' => hK _ _ ⟨5, true, false, false, true, v4, v5, v6, x, v17, v20, v23, v26, v29, by kernel_rfl, rfl, by omega, Nat.add_right_cancel (m := 1) hn, h'⟩)⟩
      · refine ⟨[16, 17], by kernel_rfl, by simp, fun i hi => ?_⟩
        simp only [List.mem_cons, List.not_mem_nil, or_false] at hi
        rcases hi with rfl | rfl
        · exact ⟨_, rfl, rfl, fun K' hK => w3_op16 h (fun x w' h' => hK _ _ ⟨5, true, true, false, true, v4, x, v6, v7, v17, v20, v23, v26, v29, by kernel_rfl, rfl, by omega, Nat.add_right_cancel (m := 1) hn, h'⟩)⟩
        · exact ⟨_, rfl, rfl, fun K' hK => w3_op17 h (fun x w' h' => hK _ _ ⟨5, true, false, true, true, v4, v5, x, v7, v17, v20, v23, v26, v29, by kernel_rfl, rfl, by omega, Nat.add_right_cancel (m := 1) hn, h'⟩)⟩
      · refine ⟨[16, 18], by kernel_rfl, by simp, fun i hi => ?_⟩
        simp only [List.mem_cons, List.not_mem_nil, or_false] at hi
        rcases hi with rfl | rfl
        · exact ⟨_, rfl, rfl, fun K' hK => w3_op16 h (fun x w' h' => hK _ _ ⟨5, true, true, true, false, v4, x, v6, v7, v17, v20, v23, v26, v29, by kernel_rfl, rfl, by omega, Nat.add_right_cancel (m := 1) hn, h'⟩)⟩
        · exact ⟨_, rfl, rfl, fun K' hK => w3_op18 h (fun x w' h' => hK _ _ ⟨5, true, false, true, true, v4, v5, v6, x, v17, v20, v23, v26, v29, by kernel_rfl, rfl, by omega, Nat.add_right_cancel (m := 1) hn, h'⟩)⟩
      · refine ⟨[16], by kernel_rfl, by simp, fun i hi => ?_⟩
        simp only [List.mem_cons, List.not_mem_nil, or_false] at hi
        subst hi
        · exact ⟨_, rfl, rfl, fun K' hK => w3_op16 h (fun x w' h' => hK _ _ ⟨5, true, true, true, true, v4, x, v6, v7, v17, v20, v23, v26, v29, by kernel_rfl, rfl, by omega, Nat.add_right_cancel (m := 1) hn, h'⟩)⟩
      · refine ⟨[17, 18], by kernel_rfl, by simp, fun i hi => ?_⟩
        simp only [List.mem_cons, List.not_mem_nil, or_false] at hi
        rcases hi with rfl | rfl
        · exact ⟨_, rfl, rfl, fun K' hK => w3_op17 h (fun x w' h' => hK _ _ ⟨5, true, true, true, false, v4, v5, x, v7, v17, v20, v23, v26, v29, by kernel_rfl, rfl, by omega, Nat.add_right_cancel (m := 1) hn, h'⟩)⟩
        · exact ⟨_, rfl, rfl, fun K' hK => w3_op18 h (fun x w' h' => hK _ _ ⟨5, true, true, false, true, v4, v5, v6, x, v17, v20, v23, v26, v29, by kernel_rfl, rfl, by omega, Nat.add_right_cancel (m := 1) hn, h'⟩)⟩
      · refine ⟨[17], by kernel_rfl, by simp, fun i hi => ?_⟩
        simp only [List.mem_cons, List.not_mem_nil, or_false] at hi
        subst hi
        · exact ⟨_, rfl, rfl, fun K' hK => w3_op17 h (fun x w' h' => hK _ _ ⟨5, true, true, true, true, v4, v5, x, v7, v17, v20, v23, v26, v29, by kernel_rfl, rfl, by omega, Nat.add_right_cancel (m := 1) hn, h'⟩)⟩
      · refine ⟨[18], by kernel_rfl, by simp, fun i hi => ?_⟩
        simp only [List.mem_cons, List.not_mem_nil, or_false] at hi
        subst hi
        · exact ⟨_, rfl, rfl, fun K' hK => w3_op18 h (fun x w' h' => hK _ _ ⟨5, true, true, true, true, v4, v5, v6, x, v17, v20, v23, v26, v29, by kernel_rfl, rfl, by omega, Nat.add_right_cancel (m := 1) hn, h'⟩)⟩
      · exact absurd hn (by show ¬ (n + 1 = 0); omega)
  · rintro n listed a w ⟨c, y15, y16, y17, y18, v4, v5, v6, v7, v17, v20, v23, v26, v29, _, _, _, _, h⟩
    exact h.below
  rintro listed a w ⟨c, y15, y16, y17, y18, v4, v5, v6, v7, v17, v20, v23, v26, v29, rfl, rfl, hc, hn, h⟩
  clear hst hS0
  obtain ⟨rfl, rfl, rfl, rfl, rfl⟩ := no_zero hc hn
  obtain ⟨ga, rfl, la⟩ := h.c1 (by decide)
  obtain ⟨gb, rfl, lb⟩ := h.c2 (by decide)
  obtain ⟨gc, rfl, lc⟩ := h.c3 (by decide)
  obtain ⟨g1, g2, frs, rfl, hmap, lf, ls⟩ := h.c4 (by decide)
  obtain ⟨e1, e2, rfl, lx, lv⟩ := h.c5 (by decide)
  obtain ⟨p4, rfl, hp4, k4⟩ := h.a15 rfl
  obtain ⟨p5, rfl, hp5, k5⟩ := h.a16 rfl
  obtain ⟨p6, rfl, hp6, k6⟩ := h.a17 rfl
  obtain ⟨p7, rfl, hp7, k7⟩ := h.a18 rfl
  have h3 : W3 t (W.heap.size + 1) w0 ga gb gc g1 g2 e1 e2 frs p4 p5 p6 p7 #[.int .i64 0, .int .i64 0, .slice none 0 0] #[.int .u8 0, .string ⟨#[]⟩, .slice none 0 0, .int .i64 0] #[.int .i64 0, .int .i64 0, .slice none 0 0, .slice none 0 0] #[.int .i64 0, .int .u8 0, .int .i64 0, .int .i64 0, .int .u8 0, .string ⟨#[]⟩, .slice none 0 0, .int .i64 0, .slice none 0 0] w := ⟨h.below, h.size, ⟨la, lb, lc, lf, ls, lx, lv⟩, hp4, hp5, hp6, hp7, k4, k5, k6, k7⟩
  have HMAP := Lib.hid hmap
  have hSw0 := h.below
  have H3 := Lib.hid h3
  clear h h3 hmap la lb lc lf ls lx lv hp4 hp5 hp6 hp7 k4 k5 k6 k7 hc hn
  unfold lst3 fr3
  (first | (refine takeS_no 19 rfl (by kernel_rfl) (by kernel_rfl) (by kernel_rfl) (fun _ _ _ h => h) (by rfl) (by assumption) ?_) | (refine takeS_yes (v := ?_) 19 rfl (by kernel_rfl) (by kernel_rfl) (by kernel_rfl) (fun _ _ _ h => h) (by rfl) (by assumption) ?_ ?_; rotate_left; focus (intro wS hSw; skip; go_simp; first | done | with_reducible rfl)))
  (try simp only [Act.put, List.setIfInBounds_toArray, List.set_cons_zero, List.set_cons_succ])
  refine takeS_alone 20 rfl (by kernel_rfl) (by rfl) (fun K hK => ?_)
  skip
  (have hk := H3.out.k4; have d0 : w.cell? ⟨p4, 0, none⟩ = some (.int .i64 0) := Go.Joins.cell_of_block hk 0; have f0 : w.frozen? ⟨p4, 0, none⟩ = false := Go.Joins.unfrozen_of_block hk 0; have d1 : w.cell? ⟨p4, 1, none⟩ = some (.int .i64 0) := Go.Joins.cell_of_block hk 1; have f1 : w.frozen? ⟨p4, 1, none⟩ = false := Go.Joins.unfrozen_of_block hk 1; have d2 : w.cell? ⟨p4, 2, none⟩ = some (.slice none 0 0) := Go.Joins.cell_of_block hk 2; have f2 : w.frozen? ⟨p4, 2, none⟩ = false := Go.Joins.unfrozen_of_block hk 2; clear hk; go_simp; clear d0 f0 d1 f1 d2 f2; have h4 := H3.out.store4; generalize (((w.setCell ⟨p4, 0, none⟩ (.int .i64 t.fact.id)).setCell ⟨p4, 1, none⟩ (.int .i64 t.fact.ty)).setCell ⟨p4, 2, none⟩ (.slice (some ⟨gb, 0, none⟩) t.fact.args.length (t.fact.args.length + 12))) = wa at h4 ⊢; have hSwa := h4.below; have H3 := Lib.hid h4; clear h4)
  refine hK.out _ _ (by assumption) ?_
  clear hK K
  (try simp only [List.setIfInBounds_toArray, List.set_cons_zero, List.set_cons_succ])
  refine takeS_alone 21 rfl (by kernel_rfl) (by rfl) (fun K hK => ?_)
  skip
  (have hk := H3.out.k5; have d0 : wa.cell? ⟨p5, 0, none⟩ = some (.int .u8 0) := Go.Joins.cell_of_block hk 0; have f0 : wa.frozen? ⟨p5, 0, none⟩ = false := Go.Joins.unfrozen_of_block hk 0; have d1 : wa.cell? ⟨p5, 1, none⟩ = some (.string ⟨#[]⟩) := Go.Joins.cell_of_block hk 1; have f1 : wa.frozen? ⟨p5, 1, none⟩ = false := Go.Joins.unfrozen_of_block hk 1; have d2 : wa.cell? ⟨p5, 2, none⟩ = some (.slice none 0 0) := Go.Joins.cell_of_block hk 2; have f2 : wa.frozen? ⟨p5, 2, none⟩ = false := Go.Joins.unfrozen_of_block hk 2; have d3 : wa.cell? ⟨p5, 3, none⟩ = some (.int .i64 0) := Go.Joins.cell_of_block hk 3; have f3 : wa.frozen? ⟨p5, 3, none⟩ = false := Go.Joins.unfrozen_of_block hk 3; clear hk; go_simp; clear d0 f0 d1 f1 d2 f2 d3 f3; have h4 := H3.out.store5; generalize ((((wa.setCell ⟨p5, 0, none⟩ (.int .u8 t.command.kind)).setCell ⟨p5, 1, none⟩ (.string t.command.text)).setCell ⟨p5, 2, none⟩ (.slice (some ⟨gc, 0, none⟩) t.command.args.length (t.command.args.length + 12))).setCell ⟨p5, 3, none⟩ (.int .i64 t.command.num)) = wb at h4 ⊢; have hSwb := h4.below; have H3 := Lib.hid h4; clear h4)
  refine hK.out _ _ (by assumption) ?_
  clear hK K
  (try simp only [List.setIfInBounds_toArray, List.set_cons_zero, List.set_cons_succ])
  refine takeS_alone 22 rfl (by kernel_rfl) (by rfl) (fun K hK => ?_)
  skip
  (have hk := H3.out.k6; have d0 : wb.cell? ⟨p6, 0, none⟩ = some (.int .i64 0) := Go.Joins.cell_of_block hk 0; have f0 : wb.frozen? ⟨p6, 0, none⟩ = false := Go.Joins.unfrozen_of_block hk 0; have d1 : wb.cell? ⟨p6, 1, none⟩ = some (.int .i64 0) := Go.Joins.cell_of_block hk 1; have f1 : wb.frozen? ⟨p6, 1, none⟩ = false := Go.Joins.unfrozen_of_block hk 1; have d2 : wb.cell? ⟨p6, 2, none⟩ = some (.slice none 0 0) := Go.Joins.cell_of_block hk 2; have f2 : wb.frozen? ⟨p6, 2, none⟩ = false := Go.Joins.unfrozen_of_block hk 2; have d3 : wb.cell? ⟨p6, 3, none⟩ = some (.slice none 0 0) := Go.Joins.cell_of_block hk 3; have f3 : wb.frozen? ⟨p6, 3, none⟩ = false := Go.Joins.unfrozen_of_block hk 3; clear hk; go_simp; clear d0 f0 d1 f1 d2 f2 d3 f3; have h4 := H3.out.store6; generalize ((((wb.setCell ⟨p6, 0, none⟩ (.int .i64 t.reply.err)).setCell ⟨p6, 1, none⟩ (.int .i64 t.reply.num)).setCell ⟨p6, 2, none⟩ (.slice (some ⟨g1, 0, none⟩) t.reply.facts.length (t.reply.facts.length + 12))).setCell ⟨p6, 3, none⟩ (.slice (some ⟨g2, 0, none⟩) t.reply.said.length (t.reply.said.length + 12))) = wc at h4 ⊢; have hSwc := h4.below; have H3 := Lib.hid h4; clear h4)
  refine hK.out _ _ (by assumption) ?_
  clear hK K
  (try simp only [List.setIfInBounds_toArray, List.set_cons_zero, List.set_cons_succ])
  refine takeS_alone 23 rfl (by kernel_rfl) (by rfl) (fun K hK => ?_)
  skip
  (have hk := H3.out.k7; have d0 : wc.cell? ⟨p7, 0, none⟩ = some (.int .i64 0) := Go.Joins.cell_of_block hk 0; have f0 : wc.frozen? ⟨p7, 0, none⟩ = false := Go.Joins.unfrozen_of_block hk 0; have d1 : wc.cell? ⟨p7, 1, none⟩ = some (.int .u8 0) := Go.Joins.cell_of_block hk 1; have f1 : wc.frozen? ⟨p7, 1, none⟩ = false := Go.Joins.unfrozen_of_block hk 1; have d2 : wc.cell? ⟨p7, 2, none⟩ = some (.int .i64 0) := Go.Joins.cell_of_block hk 2; have f2 : wc.frozen? ⟨p7, 2, none⟩ = false := Go.Joins.unfrozen_of_block hk 2; have d3 : wc.cell? ⟨p7, 3, none⟩ = some (.int .i64 0) := Go.Joins.cell_of_block hk 3; have f3 : wc.frozen? ⟨p7, 3, none⟩ = false := Go.Joins.unfrozen_of_block hk 3; have d4 : wc.cell? ⟨p7, 4, none⟩ = some (.int .u8 0) := Go.Joins.cell_of_block hk 4; have f4 : wc.frozen? ⟨p7, 4, none⟩ = false := Go.Joins.unfrozen_of_block hk 4; have d5 : wc.cell? ⟨p7, 5, none⟩ = some (.string ⟨#[]⟩) := Go.Joins.cell_of_block hk 5; have f5 : wc.frozen? ⟨p7, 5, none⟩ = false := Go.Joins.unfrozen_of_block hk 5; have d6 : wc.cell? ⟨p7, 6, none⟩ = some (.slice none 0 0) := Go.Joins.cell_of_block hk 6; have f6 : wc.frozen? ⟨p7, 6, none⟩ = false := Go.Joins.unfrozen_of_block hk 6; have d7 : wc.cell? ⟨p7, 7, none⟩ = some (.int .i64 0) := Go.Joins.cell_of_block hk 7; have f7 : wc.frozen? ⟨p7, 7, none⟩ = false := Go.Joins.unfrozen_of_block hk 7; have d8 : wc.cell? ⟨p7, 8, none⟩ = some (.slice none 0 0) := Go.Joins.cell_of_block hk 8; have f8 : wc.frozen? ⟨p7, 8, none⟩ = false := Go.Joins.unfrozen_of_block hk 8; clear hk; go_simp; clear d0 f0 d1 f1 d2 f2 d3 f3 d4 f4 d5 f5 d6 f6 d7 f7 d8 f8; have h4 := H3.out.store7; generalize (((((((((wc.setCell ⟨p7, 0, none⟩ (.int .i64 t.entry.term)).setCell ⟨p7, 1, none⟩ (.int .u8 t.entry.kind)).setCell ⟨p7, 2, none⟩ (.int .i64 t.entry.session)).setCell ⟨p7, 3, none⟩ (.int .i64 t.entry.seq)).setCell ⟨p7, 4, none⟩ (.int .u8 t.entry.ck)).setCell ⟨p7, 5, none⟩ (.string t.entry.text)).setCell ⟨p7, 6, none⟩ (.slice (some ⟨e1, 0, none⟩) t.entry.args.length (t.entry.args.length + 12))).setCell ⟨p7, 7, none⟩ (.int .i64 t.entry.num)).setCell ⟨p7, 8, none⟩ (.slice (some ⟨e2, 0, none⟩) t.entry.vs.length (t.entry.vs.length + 12))) = wd at h4 ⊢; have hSwd := h4.below; have H3 := Lib.hid h4; clear h4)
  refine hK.out _ _ (by assumption) ?_
  clear hK K
  (try simp only [List.setIfInBounds_toArray, List.set_cons_zero, List.set_cons_succ])
  refine wpAnyH_done (by kernel_rfl) ?_ _
  go_wp2_with fail
  obtain ⟨L1, hL1⟩ : ∃ L, numB 8 t.number = L := ⟨_, rfl⟩
  obtain ⟨L2, hL2⟩ : ∃ L, textB t.text = L := ⟨_, rfl⟩
  obtain ⟨L3, hL3⟩ : ∃ L, valueB ⟨t.value.kind, t.value.num, t.value.text⟩ = L := ⟨_, rfl⟩
  obtain ⟨L4, hL4⟩ : ∃ L, valuesB t.values = L := ⟨_, rfl⟩
  obtain ⟨L5, hL5⟩ : ∃ L, factB ⟨t.fact.id, t.fact.ty, t.fact.args⟩ = L := ⟨_, rfl⟩
  obtain ⟨L6, hL6⟩ : ∃ L, commandB t.command.kind t.command.text t.command.num t.command.args = L := ⟨_, rfl⟩
  obtain ⟨L7, hL7⟩ : ∃ L, numB 8 t.reply.err ++ (numB 8 t.reply.num ++ (numB 4 t.reply.facts.length ++ ((t.reply.facts.flatMap fun f => factB f.plain) ++ valuesB t.reply.said))) = L := ⟨_, rfl⟩
  obtain ⟨L8, hL8⟩ : ∃ L, entryB ⟨t.entry.term, t.entry.kind, t.entry.session, t.entry.seq, t.entry.ck, t.entry.text, t.entry.args, t.entry.num, t.entry.vs⟩ = L := ⟨_, rfl⟩
  have HLEN := Lib.hid (lens_th HS.out hL1 hL2 hL3 hL4 hL5 hL6 hL7 hL8)
  have HL1 := Lib.hid hL1
  have HL2 := Lib.hid hL2
  have HL3 := Lib.hid hL3
  have HL4 := Lib.hid hL4
  have HL5 := Lib.hid hL5
  have HL6 := Lib.hid hL6
  have HL7 := Lib.hid hL7
  have HL8 := Lib.hid hL8
  have HFL := Lib.hid (show frs.length = t.reply.facts.length by have := congrArg List.length HMAP.out; simpa using this)
  clear hL1 hL2 hL3 hL4 hL5 hL6 hL7 hL8 hSw0 hSwa hSwb hSwc hSwd
  have RSS := Lib.hid (Rs.nil wd (W.heap.size + 1))
  refine heldS_begin (fun w' => Below wd.heap.size wd w') (by kernel_rfl) ((Below.refl _ _).drew) ?_
  intro hS0
  (first | (refine takeS_no 0 rfl (by kernel_rfl) (by kernel_rfl) (by kernel_rfl) (fun _ _ _ h => h) (by rfl) (by assumption) ?_) | (refine takeS_yes (v := ?_) 0 rfl (by kernel_rfl) (by kernel_rfl) (by kernel_rfl) (fun _ _ _ h => h) (by rfl) (by assumption) ?_ ?_; rotate_left; focus (intro wS hSw; have hq := H3.out.grow hSw; obtain ⟨d0, d1, d2, d3, d4, d5, d6, d7, d8, d9, d10, d11, d12, d13, d14, d15, d16, d17, d18, d19, d20, d21, d22, d23, d24, d25⟩ := HTC.out wS hq.below; obtain ⟨m0, m1, m2, m3, m4, m5, m6, m7, m8, m9, m10, m11, m12, m13, m14, m15, m16, m17, m18, m19⟩ := hq.cells; go_simp; first | done | with_reducible rfl)))
  (try simp only [Act.put, List.setIfInBounds_toArray, List.set_cons_zero, List.set_cons_succ])
  (first | (refine takeS_no 1 rfl (by kernel_rfl) (by kernel_rfl) (by kernel_rfl) (fun _ _ _ h => h) (by rfl) (by assumption) ?_) | (refine takeS_yes (v := ?_) 1 rfl (by kernel_rfl) (by kernel_rfl) (by kernel_rfl) (fun _ _ _ h => h) (by rfl) (by assumption) ?_ ?_; rotate_left; focus (intro wS hSw; have hq := H3.out.grow hSw; obtain ⟨d0, d1, d2, d3, d4, d5, d6, d7, d8, d9, d10, d11, d12, d13, d14, d15, d16, d17, d18, d19, d20, d21, d22, d23, d24, d25⟩ := HTC.out wS hq.below; obtain ⟨m0, m1, m2, m3, m4, m5, m6, m7, m8, m9, m10, m11, m12, m13, m14, m15, m16, m17, m18, m19⟩ := hq.cells; go_simp; first | done | with_reducible rfl)))
  (try simp only [Act.put, List.setIfInBounds_toArray, List.set_cons_zero, List.set_cons_succ])
  (first | (refine takeS_no 3 rfl (by kernel_rfl) (by kernel_rfl) (by kernel_rfl) (fun _ _ _ h => h) (by rfl) (by assumption) ?_) | (refine takeS_yes (v := ?_) 3 rfl (by kernel_rfl) (by kernel_rfl) (by kernel_rfl) (fun _ _ _ h => h) (by rfl) (by assumption) ?_ ?_; rotate_left; focus (intro wS hSw; have hq := H3.out.grow hSw; obtain ⟨d0, d1, d2, d3, d4, d5, d6, d7, d8, d9, d10, d11, d12, d13, d14, d15, d16, d17, d18, d19, d20, d21, d22, d23, d24, d25⟩ := HTC.out wS hq.below; obtain ⟨m0, m1, m2, m3, m4, m5, m6, m7, m8, m9, m10, m11, m12, m13, m14, m15, m16, m17, m18, m19⟩ := hq.cells; go_simp; first | done | with_reducible rfl)))
  (try simp only [Act.put, List.setIfInBounds_toArray, List.set_cons_zero, List.set_cons_succ])
  (first | (refine takeS_no 4 rfl (by kernel_rfl) (by kernel_rfl) (by kernel_rfl) (fun _ _ _ h => h) (by rfl) (by assumption) ?_) | (refine takeS_yes (v := ?_) 4 rfl (by kernel_rfl) (by kernel_rfl) (by kernel_rfl) (fun _ _ _ h => h) (by rfl) (by assumption) ?_ ?_; rotate_left; focus (intro wS hSw; have hq := H3.out.grow hSw; obtain ⟨d0, d1, d2, d3, d4, d5, d6, d7, d8, d9, d10, d11, d12, d13, d14, d15, d16, d17, d18, d19, d20, d21, d22, d23, d24, d25⟩ := HTC.out wS hq.below; obtain ⟨m0, m1, m2, m3, m4, m5, m6, m7, m8, m9, m10, m11, m12, m13, m14, m15, m16, m17, m18, m19⟩ := hq.cells; go_simp; first | done | with_reducible rfl)))
  (try simp only [Act.put, List.setIfInBounds_toArray, List.set_cons_zero, List.set_cons_succ])
  (first | (refine takeS_no 6 rfl (by kernel_rfl) (by kernel_rfl) (by kernel_rfl) (fun _ _ _ h => h) (by rfl) (by assumption) ?_) | (refine takeS_yes (v := ?_) 6 rfl (by kernel_rfl) (by kernel_rfl) (by kernel_rfl) (fun _ _ _ h => h) (by rfl) (by assumption) ?_ ?_; rotate_left; focus (intro wS hSw; have hq := H3.out.grow hSw; obtain ⟨d0, d1, d2, d3, d4, d5, d6, d7, d8, d9, d10, d11, d12, d13, d14, d15, d16, d17, d18, d19, d20, d21, d22, d23, d24, d25⟩ := HTC.out wS hq.below; obtain ⟨m0, m1, m2, m3, m4, m5, m6, m7, m8, m9, m10, m11, m12, m13, m14, m15, m16, m17, m18, m19⟩ := hq.cells; go_simp; first | done | with_reducible rfl)))
  (try simp only [Act.put, List.setIfInBounds_toArray, List.set_cons_zero, List.set_cons_succ])
  (first | (refine takeS_no 7 rfl (by kernel_rfl) (by kernel_rfl) (by kernel_rfl) (fun _ _ _ h => h) (by rfl) (by assumption) ?_) | (refine takeS_yes (v := ?_) 7 rfl (by kernel_rfl) (by kernel_rfl) (by kernel_rfl) (fun _ _ _ h => h) (by rfl) (by assumption) ?_ ?_; rotate_left; focus (intro wS hSw; have hq := H3.out.grow hSw; obtain ⟨d0, d1, d2, d3, d4, d5, d6, d7, d8, d9, d10, d11, d12, d13, d14, d15, d16, d17, d18, d19, d20, d21, d22, d23, d24, d25⟩ := HTC.out wS hq.below; obtain ⟨m0, m1, m2, m3, m4, m5, m6, m7, m8, m9, m10, m11, m12, m13, m14, m15, m16, m17, m18, m19⟩ := hq.cells; go_simp; first | done | with_reducible rfl)))
  (try simp only [Act.put, List.setIfInBounds_toArray, List.set_cons_zero, List.set_cons_succ])
  (first | (refine takeS_no 9 rfl (by kernel_rfl) (by kernel_rfl) (by kernel_rfl) (fun _ _ _ h => h) (by rfl) (by assumption) ?_) | (refine takeS_yes (v := ?_) 9 rfl (by kernel_rfl) (by kernel_rfl) (by kernel_rfl) (fun _ _ _ h => h) (by rfl) (by assumption) ?_ ?_; rotate_left; focus (intro wS hSw; have hq := H3.out.grow hSw; obtain ⟨d0, d1, d2, d3, d4, d5, d6, d7, d8, d9, d10, d11, d12, d13, d14, d15, d16, d17, d18, d19, d20, d21, d22, d23, d24, d25⟩ := HTC.out wS hq.below; obtain ⟨m0, m1, m2, m3, m4, m5, m6, m7, m8, m9, m10, m11, m12, m13, m14, m15, m16, m17, m18, m19⟩ := hq.cells; go_simp; first | done | with_reducible rfl)))
  (try simp only [Act.put, List.setIfInBounds_toArray, List.set_cons_zero, List.set_cons_succ])
  (first | (refine takeS_no 11 rfl (by kernel_rfl) (by kernel_rfl) (by kernel_rfl) (fun _ _ _ h => h) (by rfl) (by assumption) ?_) | (refine takeS_yes (v := ?_) 11 rfl (by kernel_rfl) (by kernel_rfl) (by kernel_rfl) (fun _ _ _ h => h) (by rfl) (by assumption) ?_ ?_; rotate_left; focus (intro wS hSw; have hq := H3.out.grow hSw; obtain ⟨d0, d1, d2, d3, d4, d5, d6, d7, d8, d9, d10, d11, d12, d13, d14, d15, d16, d17, d18, d19, d20, d21, d22, d23, d24, d25⟩ := HTC.out wS hq.below; obtain ⟨m0, m1, m2, m3, m4, m5, m6, m7, m8, m9, m10, m11, m12, m13, m14, m15, m16, m17, m18, m19⟩ := hq.cells; go_simp; first | done | with_reducible rfl)))
  (try simp only [Act.put, List.setIfInBounds_toArray, List.set_cons_zero, List.set_cons_succ])
  (first | (refine takeS_no 13 rfl (by kernel_rfl) (by kernel_rfl) (by kernel_rfl) (fun _ _ _ h => h) (by rfl) (by assumption) ?_) | (refine takeS_yes (v := ?_) 13 rfl (by kernel_rfl) (by kernel_rfl) (by kernel_rfl) (fun _ _ _ h => h) (by rfl) (by assumption) ?_ ?_; rotate_left; focus (intro wS hSw; have hq := H3.out.grow hSw; obtain ⟨d0, d1, d2, d3, d4, d5, d6, d7, d8, d9, d10, d11, d12, d13, d14, d15, d16, d17, d18, d19, d20, d21, d22, d23, d24, d25⟩ := HTC.out wS hq.below; obtain ⟨m0, m1, m2, m3, m4, m5, m6, m7, m8, m9, m10, m11, m12, m13, m14, m15, m16, m17, m18, m19⟩ := hq.cells; go_simp; first | done | with_reducible rfl)))
  (try simp only [Act.put, List.setIfInBounds_toArray, List.set_cons_zero, List.set_cons_succ])
  (first | (refine takeS_no 15 rfl (by kernel_rfl) (by kernel_rfl) (by kernel_rfl) (fun _ _ _ h => h) (by rfl) (by assumption) ?_) | (refine takeS_yes (v := ?_) 15 rfl (by kernel_rfl) (by kernel_rfl) (by kernel_rfl) (fun _ _ _ h => h) (by rfl) (by assumption) ?_ ?_; rotate_left; focus (intro wS hSw; have hq := H3.out.grow hSw; obtain ⟨d0, d1, d2, d3, d4, d5, d6, d7, d8, d9, d10, d11, d12, d13, d14, d15, d16, d17, d18, d19, d20, d21, d22, d23, d24, d25⟩ := HTC.out wS hq.below; obtain ⟨m0, m1, m2, m3, m4, m5, m6, m7, m8, m9, m10, m11, m12, m13, m14, m15, m16, m17, m18, m19⟩ := hq.cells; go_simp; first | done | with_reducible rfl)))
  (try simp only [Act.put, List.setIfInBounds_toArray, List.set_cons_zero, List.set_cons_succ])
  (first | (refine takeS_no 17 rfl (by kernel_rfl) (by kernel_rfl) (by kernel_rfl) (fun _ _ _ h => h) (by rfl) (by assumption) ?_) | (refine takeS_yes (v := ?_) 17 rfl (by kernel_rfl) (by kernel_rfl) (by kernel_rfl) (fun _ _ _ h => h) (by rfl) (by assumption) ?_ ?_; rotate_left; focus (intro wS hSw; have hq := H3.out.grow hSw; obtain ⟨d0, d1, d2, d3, d4, d5, d6, d7, d8, d9, d10, d11, d12, d13, d14, d15, d16, d17, d18, d19, d20, d21, d22, d23, d24, d25⟩ := HTC.out wS hq.below; obtain ⟨m0, m1, m2, m3, m4, m5, m6, m7, m8, m9, m10, m11, m12, m13, m14, m15, m16, m17, m18, m19⟩ := hq.cells; go_simp; first | done | with_reducible rfl)))
  (try simp only [Act.put, List.setIfInBounds_toArray, List.set_cons_zero, List.set_cons_succ])
  refine takeS_alone 2 rfl (by kernel_rfl) (by rfl) (fun K hK => ?_)
  go_simp
  (have c0 : Below wd.heap.size wd wd.drew := hS0; have RS0 := Lib.hid (RSS.out.below c0); refine (number_w t.number L1 _ HL1.out).mono ?_; rintro e x1 ⟨a1, qa1, rfl, ho, hb⟩; have RS1 := Lib.hid (RS0.out.add ho hb (H3.out.grow c0).size); have c1 := c0.trans (hb.mono c0.size); clear ho hb)
  refine hK.out _ _ (by assumption) ?_
  clear hK K
  (try simp only [Act.put, List.setIfInBounds_toArray, List.set_cons_zero, List.set_cons_succ])
  refine takeS_alone 5 rfl (by kernel_rfl) (by rfl) (fun K hK => ?_)
  go_simp
  (refine (wtext_l t.text _ L2 HL2.out HS.out.text).mono ?_; rintro e x2 ⟨a2, qa2, rfl, ho, hb⟩; have RS2 := Lib.hid (RS1.out.add ho hb (H3.out.grow c1).size); have c2 := c1.trans (hb.mono c1.size); clear ho hb)
  refine hK.out _ _ (by assumption) ?_
  clear hK K
  (try simp only [Act.put, List.setIfInBounds_toArray, List.set_cons_zero, List.set_cons_succ])
  refine takeS_alone 8 rfl (by kernel_rfl) (by rfl) (fun K hK => ?_)
  go_simp
  (refine (value_w t.value.kind t.value.num t.value.text L3 _ HL3.out (Nat.le_trans HS.out.value (by decide))).mono ?_; rintro e x3 ⟨a3, qa3, rfl, ho, hb⟩; have RS3 := Lib.hid (RS2.out.add ho hb (H3.out.grow c2).size); have c3 := c2.trans (hb.mono c2.size); clear ho hb)
  refine hK.out _ _ (by assumption) ?_
  clear hK K
  (try simp only [Act.put, List.setIfInBounds_toArray, List.set_cons_zero, List.set_cons_succ])
  refine takeS_alone 10 rfl (by kernel_rfl) (by rfl) (fun K hK => ?_)
  go_simp
  (refine (wvalues_l (some ⟨ga, 0, none⟩) (t.values.length + 12) t.values _ L4 HL4.out (RowsIn.mono noSub_rising (H3.out.grow c3).ls.a.rows (H3.out.grow c3).ls.a.lt.2) HS.out.values).mono ?_; rintro e x4 ⟨a4, qa4, rfl, ho, hb⟩; have RS4 := Lib.hid (RS3.out.add ho hb (H3.out.grow c3).size); have c4 := c3.trans (hb.mono c3.size); clear ho hb)
  refine hK.out _ _ (by assumption) ?_
  clear hK K
  (try simp only [Act.put, List.setIfInBounds_toArray, List.set_cons_zero, List.set_cons_succ])
  refine takeS_alone 12 rfl (by kernel_rfl) (by rfl) (fun K hK => ?_)
  go_simp
  (refine (wfact_l t.fact.id t.fact.ty (some ⟨gb, 0, none⟩) (t.fact.args.length + 12) t.fact.args _ L5 HL5.out (RowsIn.mono noSub_rising (H3.out.grow c4).ls.b.rows (H3.out.grow c4).ls.b.lt.2) HS.out.fact).mono ?_; rintro e x5 ⟨a5, qa5, rfl, ho, hb⟩; have RS5 := Lib.hid (RS4.out.add ho hb (H3.out.grow c4).size); have c5 := c4.trans (hb.mono c4.size); clear ho hb)
  refine hK.out _ _ (by assumption) ?_
  clear hK K
  (try simp only [Act.put, List.setIfInBounds_toArray, List.set_cons_zero, List.set_cons_succ])
  refine takeS_alone 14 rfl (by kernel_rfl) (by rfl) (fun K hK => ?_)
  go_simp
  (refine (wcommand_l t.command.kind t.command.text (some ⟨gc, 0, none⟩) (t.command.args.length + 12) t.command.num t.command.args _ L6 HL6.out (RowsIn.mono noSub_rising (H3.out.grow c5).ls.c.rows (H3.out.grow c5).ls.c.lt.2) HS.out.ctext HS.out.command).mono ?_; rintro e x6 ⟨a6, qa6, rfl, ho, hb⟩; have RS6 := Lib.hid (RS5.out.add ho hb (H3.out.grow c5).size); have c6 := c5.trans (hb.mono c5.size); clear ho hb)
  refine hK.out _ _ (by assumption) ?_
  clear hK K
  (try simp only [Act.put, List.setIfInBounds_toArray, List.set_cons_zero, List.set_cons_succ])
  refine takeS_alone 16 rfl (by kernel_rfl) (by rfl) (fun K hK => ?_)
  go_simp
  (refine (wreply_l t.reply.err t.reply.num (some ⟨g1, 0, none⟩) t.reply.facts.length (t.reply.facts.length + 12) frs t.reply.facts (some ⟨g2, 0, none⟩) (t.reply.said.length + 12) t.reply.said _ L7 HL7.out rfl HMAP.out (FasLent.rows (H3.out.grow c6).ls.f HFL.out) (RowsIn.mono noSub_rising (H3.out.grow c6).ls.s.rows (H3.out.grow c6).ls.s.lt.2) HS.out.facts.1 HS.out.facts.2 HS.out.said).mono ?_; rintro e x7 ⟨a7, qa7, rfl, ho, hb⟩; have RS7 := Lib.hid (RS6.out.add ho hb (H3.out.grow c6).size); have c7 := c6.trans (hb.mono c6.size); clear ho hb)
  refine hK.out _ _ (by assumption) ?_
  clear hK K
  (try simp only [Act.put, List.setIfInBounds_toArray, List.set_cons_zero, List.set_cons_succ])
  refine takeS_alone 18 rfl (by kernel_rfl) (by rfl) (fun K hK => ?_)
  go_simp
  (refine (wentry_l t.entry.term t.entry.kind t.entry.session t.entry.seq t.entry.ck t.entry.text (some ⟨e1, 0, none⟩) (t.entry.args.length + 12) t.entry.args t.entry.num (some ⟨e2, 0, none⟩) (t.entry.vs.length + 12) t.entry.vs _ L8 HL8.out (RowsIn.mono noSub_rising (H3.out.grow c7).ls.x.rows (H3.out.grow c7).ls.x.lt.2) (RowsIn.mono noSub_rising (H3.out.grow c7).ls.v.rows (H3.out.grow c7).ls.v.lt.2) HS.out.etext HS.out.eargs HS.out.voters).mono ?_; rintro e x8 ⟨a8, qa8, rfl, ho, hb⟩; have RS8 := Lib.hid (RS7.out.add ho hb (H3.out.grow c7).size); have c8 := c7.trans (hb.mono c7.size); clear ho hb)
  refine hK.out _ _ (by assumption) ?_
  clear hK K
  (try simp only [Act.put, List.setIfInBounds_toArray, List.set_cons_zero, List.set_cons_succ])
  refine takeS_alone 19 rfl (by kernel_rfl) (by rfl) (fun K hK => ?_)
  go_simp
  (have hx8 := (H3.out.grow c8).size; have c9 := Below.alloc c8 c8.size (.cells #[.slice a1 L1.length qa1, .slice a2 L2.length qa2, .slice a3 L3.length qa3, .slice a4 L4.length qa4, .slice a5 L5.length qa5, .slice a6 L6.length qa6, .slice a7 L7.length qa7, .slice a8 L8.length qa8] 43); have k9 := heap_alloc_new x8 (.cells #[.slice a1 L1.length qa1, .slice a2 L2.length qa2, .slice a3 L3.length qa3, .slice a4 L4.length qa4, .slice a5 L5.length qa5, .slice a6 L6.length qa6, .slice a7 L7.length qa7, .slice a8 L8.length qa8] 43); have RS9 := RS8.out.below ((Below.refl x8.heap.size x8).alloc (Nat.le_refl _) (.cells #[.slice a1 L1.length qa1, .slice a2 L2.length qa2, .slice a3 L3.length qa3, .slice a4 L4.length qa4, .slice a5 L5.length qa5, .slice a6 L6.length qa6, .slice a7 L7.length qa7, .slice a8 L8.length qa8] 43)); generalize x8.alloc (.cells #[.slice a1 L1.length qa1, .slice a2 L2.length qa2, .slice a3 L3.length qa3, .slice a4 L4.length qa4, .slice a5 L5.length qa5, .slice a6 L6.length qa6, .slice a7 L7.length qa7, .slice a8 L8.length qa8] 43) = x9 at c9 k9 RS9 ⊢; have RSS := Lib.hid RS9; have KA := Lib.hid k9; clear RS9 k9 RS0 RS1 RS2 RS3 RS4 RS5 RS6 RS7 RS8)
  refine hK.out _ _ (by assumption) ?_
  clear hK K
  (try simp only [Act.put, List.setIfInBounds_toArray, List.set_cons_zero, List.set_cons_succ])
  (first | (refine takeS_no 20 rfl (by kernel_rfl) (by kernel_rfl) (by kernel_rfl) (fun _ _ _ h => h) (by rfl) (by assumption) ?_) | (refine takeS_yes (v := ?_) 20 rfl (by kernel_rfl) (by kernel_rfl) (by kernel_rfl) (fun _ _ _ h => h) (by rfl) (by assumption) ?_ ?_; rotate_left; focus (intro wS hSw; have hq := H3.out.grow hSw; obtain ⟨d0, d1, d2, d3, d4, d5, d6, d7, d8, d9, d10, d11, d12, d13, d14, d15, d16, d17, d18, d19, d20, d21, d22, d23, d24, d25⟩ := HTC.out wS hq.below; obtain ⟨m0, m1, m2, m3, m4, m5, m6, m7, m8, m9, m10, m11, m12, m13, m14, m15, m16, m17, m18, m19⟩ := hq.cells; go_simp; first | done | with_reducible rfl)))
  (try simp only [Act.put, List.setIfInBounds_toArray, List.set_cons_zero, List.set_cons_succ])
  refine wpAnyH_done (by kernel_rfl) ?_ _
  have H3 := Lib.hid (H3.out.grow c9)
  have hzA := c9.size
  clear c0 c1 c2 c3 c4 c5 c6 c7 c8 hS0
  go_wp2_with fail
  have hca := c9
  clear c9
  refine heldS_begin (fun w' => Below x9.heap.size x9 w') (by kernel_rfl) ((Below.refl _ _).drew) ?_
  intro hS0
  (first | (refine takeS_no 0 rfl (by kernel_rfl) (by kernel_rfl) (by kernel_rfl) (fun _ _ _ h => h) (by rfl) (by assumption) ?_) | (refine takeS_yes (v := ?_) 0 rfl (by kernel_rfl) (by kernel_rfl) (by kernel_rfl) (fun _ _ _ h => h) (by rfl) (by assumption) ?_ ?_; rotate_left; focus (intro wS hSw; have hq := H3.out.grow hSw; obtain ⟨d0, d1, d2, d3, d4, d5, d6, d7, d8, d9, d10, d11, d12, d13, d14, d15, d16, d17, d18, d19, d20, d21, d22, d23, d24, d25⟩ := HTC.out wS hq.below; obtain ⟨m0, m1, m2, m3, m4, m5, m6, m7, m8, m9, m10, m11, m12, m13, m14, m15, m16, m17, m18, m19⟩ := hq.cells; go_simp; first | done | with_reducible rfl)))
  (try simp only [Act.put, List.setIfInBounds_toArray, List.set_cons_zero, List.set_cons_succ])
  (first | (refine takeS_no 1 rfl (by kernel_rfl) (by kernel_rfl) (by kernel_rfl) (fun _ _ _ h => h) (by rfl) (by assumption) ?_) | (refine takeS_yes (v := ?_) 1 rfl (by kernel_rfl) (by kernel_rfl) (by kernel_rfl) (fun _ _ _ h => h) (by rfl) (by assumption) ?_ ?_; rotate_left; focus (intro wS hSw; have hq := H3.out.grow hSw; obtain ⟨d0, d1, d2, d3, d4, d5, d6, d7, d8, d9, d10, d11, d12, d13, d14, d15, d16, d17, d18, d19, d20, d21, d22, d23, d24, d25⟩ := HTC.out wS hq.below; obtain ⟨m0, m1, m2, m3, m4, m5, m6, m7, m8, m9, m10, m11, m12, m13, m14, m15, m16, m17, m18, m19⟩ := hq.cells; go_simp; first | done | with_reducible rfl)))
  (try simp only [Act.put, List.setIfInBounds_toArray, List.set_cons_zero, List.set_cons_succ])
  (first | (refine takeS_no 3 rfl (by kernel_rfl) (by kernel_rfl) (by kernel_rfl) (fun _ _ _ h => h) (by rfl) (by assumption) ?_) | (refine takeS_yes (v := ?_) 3 rfl (by kernel_rfl) (by kernel_rfl) (by kernel_rfl) (fun _ _ _ h => h) (by rfl) (by assumption) ?_ ?_; rotate_left; focus (intro wS hSw; have hq := H3.out.grow hSw; obtain ⟨d0, d1, d2, d3, d4, d5, d6, d7, d8, d9, d10, d11, d12, d13, d14, d15, d16, d17, d18, d19, d20, d21, d22, d23, d24, d25⟩ := HTC.out wS hq.below; obtain ⟨m0, m1, m2, m3, m4, m5, m6, m7, m8, m9, m10, m11, m12, m13, m14, m15, m16, m17, m18, m19⟩ := hq.cells; go_simp; first | done | with_reducible rfl)))
  (try simp only [Act.put, List.setIfInBounds_toArray, List.set_cons_zero, List.set_cons_succ])
  (first | (refine takeS_no 4 rfl (by kernel_rfl) (by kernel_rfl) (by kernel_rfl) (fun _ _ _ h => h) (by rfl) (by assumption) ?_) | (refine takeS_yes (v := ?_) 4 rfl (by kernel_rfl) (by kernel_rfl) (by kernel_rfl) (fun _ _ _ h => h) (by rfl) (by assumption) ?_ ?_; rotate_left; focus (intro wS hSw; have hq := H3.out.grow hSw; obtain ⟨d0, d1, d2, d3, d4, d5, d6, d7, d8, d9, d10, d11, d12, d13, d14, d15, d16, d17, d18, d19, d20, d21, d22, d23, d24, d25⟩ := HTC.out wS hq.below; obtain ⟨m0, m1, m2, m3, m4, m5, m6, m7, m8, m9, m10, m11, m12, m13, m14, m15, m16, m17, m18, m19⟩ := hq.cells; go_simp; first | done | with_reducible rfl)))
  (try simp only [Act.put, List.setIfInBounds_toArray, List.set_cons_zero, List.set_cons_succ])
  (first | (refine takeS_no 6 rfl (by kernel_rfl) (by kernel_rfl) (by kernel_rfl) (fun _ _ _ h => h) (by rfl) (by assumption) ?_) | (refine takeS_yes (v := ?_) 6 rfl (by kernel_rfl) (by kernel_rfl) (by kernel_rfl) (fun _ _ _ h => h) (by rfl) (by assumption) ?_ ?_; rotate_left; focus (intro wS hSw; have hq := H3.out.grow hSw; obtain ⟨d0, d1, d2, d3, d4, d5, d6, d7, d8, d9, d10, d11, d12, d13, d14, d15, d16, d17, d18, d19, d20, d21, d22, d23, d24, d25⟩ := HTC.out wS hq.below; obtain ⟨m0, m1, m2, m3, m4, m5, m6, m7, m8, m9, m10, m11, m12, m13, m14, m15, m16, m17, m18, m19⟩ := hq.cells; go_simp; first | done | with_reducible rfl)))
  (try simp only [Act.put, List.setIfInBounds_toArray, List.set_cons_zero, List.set_cons_succ])
  (first | (refine takeS_no 7 rfl (by kernel_rfl) (by kernel_rfl) (by kernel_rfl) (fun _ _ _ h => h) (by rfl) (by assumption) ?_) | (refine takeS_yes (v := ?_) 7 rfl (by kernel_rfl) (by kernel_rfl) (by kernel_rfl) (fun _ _ _ h => h) (by rfl) (by assumption) ?_ ?_; rotate_left; focus (intro wS hSw; have hq := H3.out.grow hSw; obtain ⟨d0, d1, d2, d3, d4, d5, d6, d7, d8, d9, d10, d11, d12, d13, d14, d15, d16, d17, d18, d19, d20, d21, d22, d23, d24, d25⟩ := HTC.out wS hq.below; obtain ⟨m0, m1, m2, m3, m4, m5, m6, m7, m8, m9, m10, m11, m12, m13, m14, m15, m16, m17, m18, m19⟩ := hq.cells; go_simp; first | done | with_reducible rfl)))
  (try simp only [Act.put, List.setIfInBounds_toArray, List.set_cons_zero, List.set_cons_succ])
  (first | (refine takeS_no 9 rfl (by kernel_rfl) (by kernel_rfl) (by kernel_rfl) (fun _ _ _ h => h) (by rfl) (by assumption) ?_) | (refine takeS_yes (v := ?_) 9 rfl (by kernel_rfl) (by kernel_rfl) (by kernel_rfl) (fun _ _ _ h => h) (by rfl) (by assumption) ?_ ?_; rotate_left; focus (intro wS hSw; have hq := H3.out.grow hSw; obtain ⟨d0, d1, d2, d3, d4, d5, d6, d7, d8, d9, d10, d11, d12, d13, d14, d15, d16, d17, d18, d19, d20, d21, d22, d23, d24, d25⟩ := HTC.out wS hq.below; obtain ⟨m0, m1, m2, m3, m4, m5, m6, m7, m8, m9, m10, m11, m12, m13, m14, m15, m16, m17, m18, m19⟩ := hq.cells; go_simp; first | done | with_reducible rfl)))
  (try simp only [Act.put, List.setIfInBounds_toArray, List.set_cons_zero, List.set_cons_succ])
  (first | (refine takeS_no 11 rfl (by kernel_rfl) (by kernel_rfl) (by kernel_rfl) (fun _ _ _ h => h) (by rfl) (by assumption) ?_) | (refine takeS_yes (v := ?_) 11 rfl (by kernel_rfl) (by kernel_rfl) (by kernel_rfl) (fun _ _ _ h => h) (by rfl) (by assumption) ?_ ?_; rotate_left; focus (intro wS hSw; have hq := H3.out.grow hSw; obtain ⟨d0, d1, d2, d3, d4, d5, d6, d7, d8, d9, d10, d11, d12, d13, d14, d15, d16, d17, d18, d19, d20, d21, d22, d23, d24, d25⟩ := HTC.out wS hq.below; obtain ⟨m0, m1, m2, m3, m4, m5, m6, m7, m8, m9, m10, m11, m12, m13, m14, m15, m16, m17, m18, m19⟩ := hq.cells; go_simp; first | done | with_reducible rfl)))
  (try simp only [Act.put, List.setIfInBounds_toArray, List.set_cons_zero, List.set_cons_succ])
  (first | (refine takeS_no 13 rfl (by kernel_rfl) (by kernel_rfl) (by kernel_rfl) (fun _ _ _ h => h) (by rfl) (by assumption) ?_) | (refine takeS_yes (v := ?_) 13 rfl (by kernel_rfl) (by kernel_rfl) (by kernel_rfl) (fun _ _ _ h => h) (by rfl) (by assumption) ?_ ?_; rotate_left; focus (intro wS hSw; have hq := H3.out.grow hSw; obtain ⟨d0, d1, d2, d3, d4, d5, d6, d7, d8, d9, d10, d11, d12, d13, d14, d15, d16, d17, d18, d19, d20, d21, d22, d23, d24, d25⟩ := HTC.out wS hq.below; obtain ⟨m0, m1, m2, m3, m4, m5, m6, m7, m8, m9, m10, m11, m12, m13, m14, m15, m16, m17, m18, m19⟩ := hq.cells; go_simp; first | done | with_reducible rfl)))
  (try simp only [Act.put, List.setIfInBounds_toArray, List.set_cons_zero, List.set_cons_succ])
  (first | (refine takeS_no 15 rfl (by kernel_rfl) (by kernel_rfl) (by kernel_rfl) (fun _ _ _ h => h) (by rfl) (by assumption) ?_) | (refine takeS_yes (v := ?_) 15 rfl (by kernel_rfl) (by kernel_rfl) (by kernel_rfl) (fun _ _ _ h => h) (by rfl) (by assumption) ?_ ?_; rotate_left; focus (intro wS hSw; have hq := H3.out.grow hSw; obtain ⟨d0, d1, d2, d3, d4, d5, d6, d7, d8, d9, d10, d11, d12, d13, d14, d15, d16, d17, d18, d19, d20, d21, d22, d23, d24, d25⟩ := HTC.out wS hq.below; obtain ⟨m0, m1, m2, m3, m4, m5, m6, m7, m8, m9, m10, m11, m12, m13, m14, m15, m16, m17, m18, m19⟩ := hq.cells; go_simp; first | done | with_reducible rfl)))
  (try simp only [Act.put, List.setIfInBounds_toArray, List.set_cons_zero, List.set_cons_succ])
  (first | (refine takeS_no 17 rfl (by kernel_rfl) (by kernel_rfl) (by kernel_rfl) (fun _ _ _ h => h) (by rfl) (by assumption) ?_) | (refine takeS_yes (v := ?_) 17 rfl (by kernel_rfl) (by kernel_rfl) (by kernel_rfl) (fun _ _ _ h => h) (by rfl) (by assumption) ?_ ?_; rotate_left; focus (intro wS hSw; have hq := H3.out.grow hSw; obtain ⟨d0, d1, d2, d3, d4, d5, d6, d7, d8, d9, d10, d11, d12, d13, d14, d15, d16, d17, d18, d19, d20, d21, d22, d23, d24, d25⟩ := HTC.out wS hq.below; obtain ⟨m0, m1, m2, m3, m4, m5, m6, m7, m8, m9, m10, m11, m12, m13, m14, m15, m16, m17, m18, m19⟩ := hq.cells; go_simp; first | done | with_reducible rfl)))
  (try simp only [Act.put, List.setIfInBounds_toArray, List.set_cons_zero, List.set_cons_succ])
  refine takeS_alone 2 rfl (by kernel_rfl) (by rfl) (fun K hK => ?_)
  go_simp
  (have c0 : Below x9.heap.size x9 x9.drew := hS0; have RS0 := Lib.hid (RSS.out.below c0); refine (number_w t.number L1 _ HL1.out).mono ?_; rintro e y1 ⟨b1, qb1, rfl, ho, hb⟩; have RS1 := Lib.hid (RS0.out.add ho hb (H3.out.grow c0).size); have c1 := c0.trans (hb.mono c0.size); clear ho hb)
  refine hK.out _ _ (by assumption) ?_
  clear hK K
  (try simp only [Act.put, List.setIfInBounds_toArray, List.set_cons_zero, List.set_cons_succ])
  refine takeS_alone 5 rfl (by kernel_rfl) (by rfl) (fun K hK => ?_)
  go_simp
  (refine (wtext_l t.text _ L2 HL2.out HS.out.text).mono ?_; rintro e y2 ⟨b2, qb2, rfl, ho, hb⟩; have RS2 := Lib.hid (RS1.out.add ho hb (H3.out.grow c1).size); have c2 := c1.trans (hb.mono c1.size); clear ho hb)
  refine hK.out _ _ (by assumption) ?_
  clear hK K
  (try simp only [Act.put, List.setIfInBounds_toArray, List.set_cons_zero, List.set_cons_succ])
  refine takeS_alone 8 rfl (by kernel_rfl) (by rfl) (fun K hK => ?_)
  go_simp
  (refine (value_w t.value.kind t.value.num t.value.text L3 _ HL3.out (Nat.le_trans HS.out.value (by decide))).mono ?_; rintro e y3 ⟨b3, qb3, rfl, ho, hb⟩; have RS3 := Lib.hid (RS2.out.add ho hb (H3.out.grow c2).size); have c3 := c2.trans (hb.mono c2.size); clear ho hb)
  refine hK.out _ _ (by assumption) ?_
  clear hK K
  (try simp only [Act.put, List.setIfInBounds_toArray, List.set_cons_zero, List.set_cons_succ])
  refine takeS_alone 10 rfl (by kernel_rfl) (by rfl) (fun K hK => ?_)
  go_simp
  (refine (wvalues_l (some ⟨ga, 0, none⟩) (t.values.length + 12) t.values _ L4 HL4.out (RowsIn.mono noSub_rising (H3.out.grow c3).ls.a.rows (H3.out.grow c3).ls.a.lt.2) HS.out.values).mono ?_; rintro e y4 ⟨b4, qb4, rfl, ho, hb⟩; have RS4 := Lib.hid (RS3.out.add ho hb (H3.out.grow c3).size); have c4 := c3.trans (hb.mono c3.size); clear ho hb)
  refine hK.out _ _ (by assumption) ?_
  clear hK K
  (try simp only [Act.put, List.setIfInBounds_toArray, List.set_cons_zero, List.set_cons_succ])
  refine takeS_alone 12 rfl (by kernel_rfl) (by rfl) (fun K hK => ?_)
  go_simp
  (refine (wfact_l t.fact.id t.fact.ty (some ⟨gb, 0, none⟩) (t.fact.args.length + 12) t.fact.args _ L5 HL5.out (RowsIn.mono noSub_rising (H3.out.grow c4).ls.b.rows (H3.out.grow c4).ls.b.lt.2) HS.out.fact).mono ?_; rintro e y5 ⟨b5, qb5, rfl, ho, hb⟩; have RS5 := Lib.hid (RS4.out.add ho hb (H3.out.grow c4).size); have c5 := c4.trans (hb.mono c4.size); clear ho hb)
  refine hK.out _ _ (by assumption) ?_
  clear hK K
  (try simp only [Act.put, List.setIfInBounds_toArray, List.set_cons_zero, List.set_cons_succ])
  refine takeS_alone 14 rfl (by kernel_rfl) (by rfl) (fun K hK => ?_)
  go_simp
  (refine (wcommand_l t.command.kind t.command.text (some ⟨gc, 0, none⟩) (t.command.args.length + 12) t.command.num t.command.args _ L6 HL6.out (RowsIn.mono noSub_rising (H3.out.grow c5).ls.c.rows (H3.out.grow c5).ls.c.lt.2) HS.out.ctext HS.out.command).mono ?_; rintro e y6 ⟨b6, qb6, rfl, ho, hb⟩; have RS6 := Lib.hid (RS5.out.add ho hb (H3.out.grow c5).size); have c6 := c5.trans (hb.mono c5.size); clear ho hb)
  refine hK.out _ _ (by assumption) ?_
  clear hK K
  (try simp only [Act.put, List.setIfInBounds_toArray, List.set_cons_zero, List.set_cons_succ])
  refine takeS_alone 16 rfl (by kernel_rfl) (by rfl) (fun K hK => ?_)
  go_simp
  (refine (wreply_l t.reply.err t.reply.num (some ⟨g1, 0, none⟩) t.reply.facts.length (t.reply.facts.length + 12) frs t.reply.facts (some ⟨g2, 0, none⟩) (t.reply.said.length + 12) t.reply.said _ L7 HL7.out rfl HMAP.out (FasLent.rows (H3.out.grow c6).ls.f HFL.out) (RowsIn.mono noSub_rising (H3.out.grow c6).ls.s.rows (H3.out.grow c6).ls.s.lt.2) HS.out.facts.1 HS.out.facts.2 HS.out.said).mono ?_; rintro e y7 ⟨b7, qb7, rfl, ho, hb⟩; have RS7 := Lib.hid (RS6.out.add ho hb (H3.out.grow c6).size); have c7 := c6.trans (hb.mono c6.size); clear ho hb)
  refine hK.out _ _ (by assumption) ?_
  clear hK K
  (try simp only [Act.put, List.setIfInBounds_toArray, List.set_cons_zero, List.set_cons_succ])
  refine takeS_alone 18 rfl (by kernel_rfl) (by rfl) (fun K hK => ?_)
  go_simp
  (refine (wentry_l t.entry.term t.entry.kind t.entry.session t.entry.seq t.entry.ck t.entry.text (some ⟨e1, 0, none⟩) (t.entry.args.length + 12) t.entry.args t.entry.num (some ⟨e2, 0, none⟩) (t.entry.vs.length + 12) t.entry.vs _ L8 HL8.out (RowsIn.mono noSub_rising (H3.out.grow c7).ls.x.rows (H3.out.grow c7).ls.x.lt.2) (RowsIn.mono noSub_rising (H3.out.grow c7).ls.v.rows (H3.out.grow c7).ls.v.lt.2) HS.out.etext HS.out.eargs HS.out.voters).mono ?_; rintro e y8 ⟨b8, qb8, rfl, ho, hb⟩; have RS8 := Lib.hid (RS7.out.add ho hb (H3.out.grow c7).size); have c8 := c7.trans (hb.mono c7.size); clear ho hb)
  refine hK.out _ _ (by assumption) ?_
  clear hK K
  (try simp only [Act.put, List.setIfInBounds_toArray, List.set_cons_zero, List.set_cons_succ])
  refine takeS_alone 19 rfl (by kernel_rfl) (by rfl) (fun K hK => ?_)
  go_simp
  (have hy8 := (H3.out.grow c8).size; have c9 := Below.alloc c8 c8.size (.cells #[.slice b1 L1.length qb1, .slice b2 L2.length qb2, .slice b3 L3.length qb3, .slice b4 L4.length qb4, .slice b5 L5.length qb5, .slice b6 L6.length qb6, .slice b7 L7.length qb7, .slice b8 L8.length qb8] 43); have k9 := heap_alloc_new y8 (.cells #[.slice b1 L1.length qb1, .slice b2 L2.length qb2, .slice b3 L3.length qb3, .slice b4 L4.length qb4, .slice b5 L5.length qb5, .slice b6 L6.length qb6, .slice b7 L7.length qb7, .slice b8 L8.length qb8] 43); have RS9 := RS8.out.below ((Below.refl y8.heap.size y8).alloc (Nat.le_refl _) (.cells #[.slice b1 L1.length qb1, .slice b2 L2.length qb2, .slice b3 L3.length qb3, .slice b4 L4.length qb4, .slice b5 L5.length qb5, .slice b6 L6.length qb6, .slice b7 L7.length qb7, .slice b8 L8.length qb8] 43)); generalize y8.alloc (.cells #[.slice b1 L1.length qb1, .slice b2 L2.length qb2, .slice b3 L3.length qb3, .slice b4 L4.length qb4, .slice b5 L5.length qb5, .slice b6 L6.length qb6, .slice b7 L7.length qb7, .slice b8 L8.length qb8] 43) = y9 at c9 k9 RS9 ⊢; have RSS := Lib.hid RS9; have KB := Lib.hid k9; clear RS9 k9 RS0 RS1 RS2 RS3 RS4 RS5 RS6 RS7 RS8)
  refine hK.out _ _ (by assumption) ?_
  clear hK K
  (try simp only [Act.put, List.setIfInBounds_toArray, List.set_cons_zero, List.set_cons_succ])
  (first | (refine takeS_no 20 rfl (by kernel_rfl) (by kernel_rfl) (by kernel_rfl) (fun _ _ _ h => h) (by rfl) (by assumption) ?_) | (refine takeS_yes (v := ?_) 20 rfl (by kernel_rfl) (by kernel_rfl) (by kernel_rfl) (fun _ _ _ h => h) (by rfl) (by assumption) ?_ ?_; rotate_left; focus (intro wS hSw; have hq := H3.out.grow hSw; obtain ⟨d0, d1, d2, d3, d4, d5, d6, d7, d8, d9, d10, d11, d12, d13, d14, d15, d16, d17, d18, d19, d20, d21, d22, d23, d24, d25⟩ := HTC.out wS hq.below; obtain ⟨m0, m1, m2, m3, m4, m5, m6, m7, m8, m9, m10, m11, m12, m13, m14, m15, m16, m17, m18, m19⟩ := hq.cells; go_simp; first | done | with_reducible rfl)))
  (try simp only [Act.put, List.setIfInBounds_toArray, List.set_cons_zero, List.set_cons_succ])
  refine wpAnyH_done (by kernel_rfl) ?_ _
  have H3 := Lib.hid (H3.out.grow c9)
  have hzB := c9.size
  clear c0 c1 c2 c3 c4 c5 c6 c7 c8 hS0
  go_wp2_with fail
  have hcb := c9
  clear c9
  have RAB := RSS
  have RSS := Lib.hid (Rs.nil y9 (W.heap.size + 1))
  refine heldS_begin (fun w' => Below y9.heap.size y9 w') (by kernel_rfl) ((Below.refl _ _).drew) ?_
  intro hS0
  (first | (refine takeS_no 0 rfl (by kernel_rfl) (by kernel_rfl) (by kernel_rfl) (fun _ _ _ h => h) (by rfl) (by assumption) ?_) | (refine takeS_yes (v := ?_) 0 rfl (by kernel_rfl) (by kernel_rfl) (by kernel_rfl) (fun _ _ _ h => h) (by rfl) (by assumption) ?_ ?_; rotate_left; focus (intro wS hSw; have hq := H3.out.grow hSw; obtain ⟨d0, d1, d2, d3, d4, d5, d6, d7, d8, d9, d10, d11, d12, d13, d14, d15, d16, d17, d18, d19, d20, d21, d22, d23, d24, d25⟩ := HTC.out wS hq.below; go_simp; first | done | with_reducible rfl)))
  (try simp only [Act.put, List.setIfInBounds_toArray, List.set_cons_zero, List.set_cons_succ])
  (first | (refine takeS_no 1 rfl (by kernel_rfl) (by kernel_rfl) (by kernel_rfl) (fun _ _ _ h => h) (by rfl) (by assumption) ?_) | (refine takeS_yes (v := ?_) 1 rfl (by kernel_rfl) (by kernel_rfl) (by kernel_rfl) (fun _ _ _ h => h) (by rfl) (by assumption) ?_ ?_; rotate_left; focus (intro wS hSw; have hq := H3.out.grow hSw; obtain ⟨d0, d1, d2, d3, d4, d5, d6, d7, d8, d9, d10, d11, d12, d13, d14, d15, d16, d17, d18, d19, d20, d21, d22, d23, d24, d25⟩ := HTC.out wS hq.below; go_simp; first | done | with_reducible rfl)))
  (try simp only [Act.put, List.setIfInBounds_toArray, List.set_cons_zero, List.set_cons_succ])
  (first | (refine takeS_no 3 rfl (by kernel_rfl) (by kernel_rfl) (by kernel_rfl) (fun _ _ _ h => h) (by rfl) (by assumption) ?_) | (refine takeS_yes (v := ?_) 3 rfl (by kernel_rfl) (by kernel_rfl) (by kernel_rfl) (fun _ _ _ h => h) (by rfl) (by assumption) ?_ ?_; rotate_left; focus (intro wS hSw; have hq := H3.out.grow hSw; obtain ⟨d0, d1, d2, d3, d4, d5, d6, d7, d8, d9, d10, d11, d12, d13, d14, d15, d16, d17, d18, d19, d20, d21, d22, d23, d24, d25⟩ := HTC.out wS hq.below; go_simp; first | done | with_reducible rfl)))
  (try simp only [Act.put, List.setIfInBounds_toArray, List.set_cons_zero, List.set_cons_succ])
  (first | (refine takeS_no 4 rfl (by kernel_rfl) (by kernel_rfl) (by kernel_rfl) (fun _ _ _ h => h) (by rfl) (by assumption) ?_) | (refine takeS_yes (v := ?_) 4 rfl (by kernel_rfl) (by kernel_rfl) (by kernel_rfl) (fun _ _ _ h => h) (by rfl) (by assumption) ?_ ?_; rotate_left; focus (intro wS hSw; have hq := H3.out.grow hSw; obtain ⟨d0, d1, d2, d3, d4, d5, d6, d7, d8, d9, d10, d11, d12, d13, d14, d15, d16, d17, d18, d19, d20, d21, d22, d23, d24, d25⟩ := HTC.out wS hq.below; go_simp; first | done | with_reducible rfl)))
  (try simp only [Act.put, List.setIfInBounds_toArray, List.set_cons_zero, List.set_cons_succ])
  (first | (refine takeS_no 6 rfl (by kernel_rfl) (by kernel_rfl) (by kernel_rfl) (fun _ _ _ h => h) (by rfl) (by assumption) ?_) | (refine takeS_yes (v := ?_) 6 rfl (by kernel_rfl) (by kernel_rfl) (by kernel_rfl) (fun _ _ _ h => h) (by rfl) (by assumption) ?_ ?_; rotate_left; focus (intro wS hSw; have hq := H3.out.grow hSw; obtain ⟨d0, d1, d2, d3, d4, d5, d6, d7, d8, d9, d10, d11, d12, d13, d14, d15, d16, d17, d18, d19, d20, d21, d22, d23, d24, d25⟩ := HTC.out wS hq.below; go_simp; first | done | with_reducible rfl)))
  (try simp only [Act.put, List.setIfInBounds_toArray, List.set_cons_zero, List.set_cons_succ])
  (first | (refine takeS_no 7 rfl (by kernel_rfl) (by kernel_rfl) (by kernel_rfl) (fun _ _ _ h => h) (by rfl) (by assumption) ?_) | (refine takeS_yes (v := ?_) 7 rfl (by kernel_rfl) (by kernel_rfl) (by kernel_rfl) (fun _ _ _ h => h) (by rfl) (by assumption) ?_ ?_; rotate_left; focus (intro wS hSw; have hq := H3.out.grow hSw; obtain ⟨d0, d1, d2, d3, d4, d5, d6, d7, d8, d9, d10, d11, d12, d13, d14, d15, d16, d17, d18, d19, d20, d21, d22, d23, d24, d25⟩ := HTC.out wS hq.below; go_simp; first | done | with_reducible rfl)))
  (try simp only [Act.put, List.setIfInBounds_toArray, List.set_cons_zero, List.set_cons_succ])
  (first | (refine takeS_no 9 rfl (by kernel_rfl) (by kernel_rfl) (by kernel_rfl) (fun _ _ _ h => h) (by rfl) (by assumption) ?_) | (refine takeS_yes (v := ?_) 9 rfl (by kernel_rfl) (by kernel_rfl) (by kernel_rfl) (fun _ _ _ h => h) (by rfl) (by assumption) ?_ ?_; rotate_left; focus (intro wS hSw; have hq := H3.out.grow hSw; obtain ⟨d0, d1, d2, d3, d4, d5, d6, d7, d8, d9, d10, d11, d12, d13, d14, d15, d16, d17, d18, d19, d20, d21, d22, d23, d24, d25⟩ := HTC.out wS hq.below; go_simp; first | done | with_reducible rfl)))
  (try simp only [Act.put, List.setIfInBounds_toArray, List.set_cons_zero, List.set_cons_succ])
  (first | (refine takeS_no 10 rfl (by kernel_rfl) (by kernel_rfl) (by kernel_rfl) (fun _ _ _ h => h) (by rfl) (by assumption) ?_) | (refine takeS_yes (v := ?_) 10 rfl (by kernel_rfl) (by kernel_rfl) (by kernel_rfl) (fun _ _ _ h => h) (by rfl) (by assumption) ?_ ?_; rotate_left; focus (intro wS hSw; have hq := H3.out.grow hSw; obtain ⟨d0, d1, d2, d3, d4, d5, d6, d7, d8, d9, d10, d11, d12, d13, d14, d15, d16, d17, d18, d19, d20, d21, d22, d23, d24, d25⟩ := HTC.out wS hq.below; go_simp; first | done | with_reducible rfl)))
  (try simp only [Act.put, List.setIfInBounds_toArray, List.set_cons_zero, List.set_cons_succ])
  (first | (refine takeS_no 12 rfl (by kernel_rfl) (by kernel_rfl) (by kernel_rfl) (fun _ _ _ h => h) (by rfl) (by assumption) ?_) | (refine takeS_yes (v := ?_) 12 rfl (by kernel_rfl) (by kernel_rfl) (by kernel_rfl) (fun _ _ _ h => h) (by rfl) (by assumption) ?_ ?_; rotate_left; focus (intro wS hSw; have hq := H3.out.grow hSw; obtain ⟨d0, d1, d2, d3, d4, d5, d6, d7, d8, d9, d10, d11, d12, d13, d14, d15, d16, d17, d18, d19, d20, d21, d22, d23, d24, d25⟩ := HTC.out wS hq.below; go_simp; first | done | with_reducible rfl)))
  (try simp only [Act.put, List.setIfInBounds_toArray, List.set_cons_zero, List.set_cons_succ])
  (first | (refine takeS_no 13 rfl (by kernel_rfl) (by kernel_rfl) (by kernel_rfl) (fun _ _ _ h => h) (by rfl) (by assumption) ?_) | (refine takeS_yes (v := ?_) 13 rfl (by kernel_rfl) (by kernel_rfl) (by kernel_rfl) (fun _ _ _ h => h) (by rfl) (by assumption) ?_ ?_; rotate_left; focus (intro wS hSw; have hq := H3.out.grow hSw; obtain ⟨d0, d1, d2, d3, d4, d5, d6, d7, d8, d9, d10, d11, d12, d13, d14, d15, d16, d17, d18, d19, d20, d21, d22, d23, d24, d25⟩ := HTC.out wS hq.below; go_simp; first | done | with_reducible rfl)))
  (try simp only [Act.put, List.setIfInBounds_toArray, List.set_cons_zero, List.set_cons_succ])
  (first | (refine takeS_no 15 rfl (by kernel_rfl) (by kernel_rfl) (by kernel_rfl) (fun _ _ _ h => h) (by rfl) (by assumption) ?_) | (refine takeS_yes (v := ?_) 15 rfl (by kernel_rfl) (by kernel_rfl) (by kernel_rfl) (fun _ _ _ h => h) (by rfl) (by assumption) ?_ ?_; rotate_left; focus (intro wS hSw; have hq := H3.out.grow hSw; obtain ⟨d0, d1, d2, d3, d4, d5, d6, d7, d8, d9, d10, d11, d12, d13, d14, d15, d16, d17, d18, d19, d20, d21, d22, d23, d24, d25⟩ := HTC.out wS hq.below; go_simp; first | done | with_reducible rfl)))
  (try simp only [Act.put, List.setIfInBounds_toArray, List.set_cons_zero, List.set_cons_succ])
  (first | (refine takeS_no 16 rfl (by kernel_rfl) (by kernel_rfl) (by kernel_rfl) (fun _ _ _ h => h) (by rfl) (by assumption) ?_) | (refine takeS_yes (v := ?_) 16 rfl (by kernel_rfl) (by kernel_rfl) (by kernel_rfl) (fun _ _ _ h => h) (by rfl) (by assumption) ?_ ?_; rotate_left; focus (intro wS hSw; have hq := H3.out.grow hSw; obtain ⟨d0, d1, d2, d3, d4, d5, d6, d7, d8, d9, d10, d11, d12, d13, d14, d15, d16, d17, d18, d19, d20, d21, d22, d23, d24, d25⟩ := HTC.out wS hq.below; go_simp; first | done | with_reducible rfl)))
  (try simp only [Act.put, List.setIfInBounds_toArray, List.set_cons_zero, List.set_cons_succ])
  (first | (refine takeS_no 18 rfl (by kernel_rfl) (by kernel_rfl) (by kernel_rfl) (fun _ _ _ h => h) (by rfl) (by assumption) ?_) | (refine takeS_yes (v := ?_) 18 rfl (by kernel_rfl) (by kernel_rfl) (by kernel_rfl) (fun _ _ _ h => h) (by rfl) (by assumption) ?_ ?_; rotate_left; focus (intro wS hSw; have hq := H3.out.grow hSw; obtain ⟨d0, d1, d2, d3, d4, d5, d6, d7, d8, d9, d10, d11, d12, d13, d14, d15, d16, d17, d18, d19, d20, d21, d22, d23, d24, d25⟩ := HTC.out wS hq.below; go_simp; first | done | with_reducible rfl)))
  (try simp only [Act.put, List.setIfInBounds_toArray, List.set_cons_zero, List.set_cons_succ])
  (first | (refine takeS_no 19 rfl (by kernel_rfl) (by kernel_rfl) (by kernel_rfl) (fun _ _ _ h => h) (by rfl) (by assumption) ?_) | (refine takeS_yes (v := ?_) 19 rfl (by kernel_rfl) (by kernel_rfl) (by kernel_rfl) (fun _ _ _ h => h) (by rfl) (by assumption) ?_ ?_; rotate_left; focus (intro wS hSw; have hq := H3.out.grow hSw; obtain ⟨d0, d1, d2, d3, d4, d5, d6, d7, d8, d9, d10, d11, d12, d13, d14, d15, d16, d17, d18, d19, d20, d21, d22, d23, d24, d25⟩ := HTC.out wS hq.below; go_simp; first | done | with_reducible rfl)))
  (try simp only [Act.put, List.setIfInBounds_toArray, List.set_cons_zero, List.set_cons_succ])
  (first | (refine takeS_no 21 rfl (by kernel_rfl) (by kernel_rfl) (by kernel_rfl) (fun _ _ _ h => h) (by rfl) (by assumption) ?_) | (refine takeS_yes (v := ?_) 21 rfl (by kernel_rfl) (by kernel_rfl) (by kernel_rfl) (fun _ _ _ h => h) (by rfl) (by assumption) ?_ ?_; rotate_left; focus (intro wS hSw; have hq := H3.out.grow hSw; obtain ⟨d0, d1, d2, d3, d4, d5, d6, d7, d8, d9, d10, d11, d12, d13, d14, d15, d16, d17, d18, d19, d20, d21, d22, d23, d24, d25⟩ := HTC.out wS hq.below; go_simp; first | done | with_reducible rfl)))
  (try simp only [Act.put, List.setIfInBounds_toArray, List.set_cons_zero, List.set_cons_succ])
  (first | (refine takeS_no 22 rfl (by kernel_rfl) (by kernel_rfl) (by kernel_rfl) (fun _ _ _ h => h) (by rfl) (by assumption) ?_) | (refine takeS_yes (v := ?_) 22 rfl (by kernel_rfl) (by kernel_rfl) (by kernel_rfl) (fun _ _ _ h => h) (by rfl) (by assumption) ?_ ?_; rotate_left; focus (intro wS hSw; have hq := H3.out.grow hSw; obtain ⟨d0, d1, d2, d3, d4, d5, d6, d7, d8, d9, d10, d11, d12, d13, d14, d15, d16, d17, d18, d19, d20, d21, d22, d23, d24, d25⟩ := HTC.out wS hq.below; go_simp; first | done | with_reducible rfl)))
  (try simp only [Act.put, List.setIfInBounds_toArray, List.set_cons_zero, List.set_cons_succ])
  refine takeS_alone 2 rfl (by kernel_rfl) (by rfl) (fun K hK => ?_)
  go_simp
  (have c0 : Below y9.heap.size y9 y9.drew := hS0; have RS0 := Lib.hid (RSS.out.below c0); refine (rNumber_any t.number L1 _ HL1.out).mono ?_; rintro e z1 ⟨r1, n1, qr1, rfl, ho, hb⟩; obtain rfl : n1 = L1.length := ho.len.symm; have RS1 := Lib.hid (RS0.out.addR ho hb (H3.out.grow c0).size); have c1 := c0.trans (hb.mono c0.size); clear ho hb)
  refine hK.out _ _ (by assumption) ?_
  clear hK K
  (try simp only [Act.put, List.setIfInBounds_toArray, List.set_cons_zero, List.set_cons_succ])
  refine takeS_alone 5 rfl (by kernel_rfl) (by rfl) (fun K hK => ?_)
  go_simp
  (refine (rText_any t.text L2 _ HL2.out (Nat.le_trans HS.out.text (by decide))).mono ?_; rintro e z2 ⟨r2, n2, qr2, rfl, ho, hb⟩; obtain rfl : n2 = L2.length := ho.len.symm; have RS2 := Lib.hid (RS1.out.addR ho hb (H3.out.grow c1).size); have c2 := c1.trans (hb.mono c1.size); clear ho hb)
  refine hK.out _ _ (by assumption) ?_
  clear hK K
  (try simp only [Act.put, List.setIfInBounds_toArray, List.set_cons_zero, List.set_cons_succ])
  refine takeS_alone 8 rfl (by kernel_rfl) (by rfl) (fun K hK => ?_)
  go_simp
  (refine (rValue_any t.value.kind t.value.num t.value.text L3 _ HL3.out (Nat.le_trans HS.out.value (by decide))).mono ?_; rintro e z3 ⟨r3, n3, qr3, rfl, ho, hb⟩; obtain rfl : n3 = L3.length := ho.len.symm; have RS3 := Lib.hid (RS2.out.addR ho hb (H3.out.grow c2).size); have c3 := c2.trans (hb.mono c2.size); clear ho hb)
  refine hK.out _ _ (by assumption) ?_
  clear hK K
  (try simp only [Act.put, List.setIfInBounds_toArray, List.set_cons_zero, List.set_cons_succ])
  refine takeS_alone 11 rfl (by kernel_rfl) (by rfl) (fun K hK => ?_)
  go_simp
  (refine (rValues_any t.vo _ t.vcap t.values L4 _ HL4.out rfl (RowsIn.mono noSub_rising (HTI.out _ (H3.out.grow c3).below).values (Nat.le_of_lt (HSZ.out _ (H3.out.grow c3).below))) (fun v hv => by have := HS.out.values.2.1 v hv; omega) HLEN.out.2.1 (by have := HS.out.values.1; omega)).mono ?_; rintro e z4 ⟨r4, n4, qr4, rfl, ho, hb⟩; obtain rfl : n4 = L4.length := ho.len.symm; have RS4 := Lib.hid (RS3.out.addR ho hb (H3.out.grow c3).size); have c4 := c3.trans (hb.mono c3.size); clear ho hb)
  refine hK.out _ _ (by assumption) ?_
  clear hK K
  (try simp only [Act.put, List.setIfInBounds_toArray, List.set_cons_zero, List.set_cons_succ])
  refine takeS_alone 14 rfl (by kernel_rfl) (by rfl) (fun K hK => ?_)
  go_simp
  (refine (rFact_any t.fact.id t.fact.ty t.fact.ao _ t.fact.cap t.fact.args L5 _ HL5.out rfl (RowsIn.mono noSub_rising (HTI.out _ (H3.out.grow c4).below).fact (Nat.le_of_lt (HSZ.out _ (H3.out.grow c4).below))) (fun v hv => by have := HS.out.fact.2.1 v hv; omega) HLEN.out.2.2.1 (by have := HS.out.fact.1; omega)).mono ?_; rintro e z5 ⟨r5, n5, qr5, rfl, ho, hb⟩; obtain rfl : n5 = L5.length := ho.len.symm; have RS5 := Lib.hid (RS4.out.addR ho hb (H3.out.grow c4).size); have c5 := c4.trans (hb.mono c4.size); clear ho hb)
  refine hK.out _ _ (by assumption) ?_
  clear hK K
  (try simp only [Act.put, List.setIfInBounds_toArray, List.set_cons_zero, List.set_cons_succ])
  refine takeS_alone 17 rfl (by kernel_rfl) (by rfl) (fun K hK => ?_)
  go_simp
  (refine (rCommand_any t.command.kind t.command.text t.command.ao _ t.command.cap t.command.num t.command.args L6 _ HL6.out rfl (RowsIn.mono noSub_rising (HTI.out _ (H3.out.grow c5).below).command (Nat.le_of_lt (HSZ.out _ (H3.out.grow c5).below))) (fun v hv => by have := HS.out.command.2.1 v hv; omega) (Nat.le_trans HS.out.ctext (by decide)) HLEN.out.2.2.2.1 (by have := HS.out.command.1; omega)).mono ?_; rintro e z6 ⟨r6, n6, qr6, rfl, ho, hb⟩; obtain rfl : n6 = L6.length := ho.len.symm; have RS6 := Lib.hid (RS5.out.addR ho hb (H3.out.grow c5).size); have c6 := c5.trans (hb.mono c5.size); clear ho hb)
  refine hK.out _ _ (by assumption) ?_
  clear hK K
  (try simp only [Act.put, List.setIfInBounds_toArray, List.set_cons_zero, List.set_cons_succ])
  refine takeS_alone 20 rfl (by kernel_rfl) (by rfl) (fun K hK => ?_)
  go_simp
  (refine (rReply_any t.reply.err t.reply.num t.reply.fo _ t.reply.fcap t.reply.facts t.reply.so _ t.reply.scap t.reply.said L7 _ HL7.out rfl rfl (RowsIn.mono faSub_rising (HTI.out _ (H3.out.grow c6).below).reply.1 (Nat.le_of_lt (HSZ.out _ (H3.out.grow c6).below))) (RowsIn.mono noSub_rising (HTI.out _ (H3.out.grow c6).below).reply.2 (Nat.le_of_lt (HSZ.out _ (H3.out.grow c6).below))) (fun f hf => ⟨by have := (HS.out.facts.2 f hf).1; omega, fun v hv => by have := (HS.out.facts.2 f hf).2.1 v hv; omega⟩) (fun v hv => by have := HS.out.said.2.1 v hv; omega) HLEN.out.2.2.2.2.1 (by have := HS.out.facts.1; omega) (by have := HS.out.said.1; omega)).mono ?_; rintro e z7 ⟨r7, n7, qr7, rfl, ho, hb⟩; obtain rfl : n7 = L7.length := ho.len.symm; have RS7 := Lib.hid (RS6.out.addR ho hb (H3.out.grow c6).size); have c7 := c6.trans (hb.mono c6.size); clear ho hb)
  refine hK.out _ _ (by assumption) ?_
  clear hK K
  (try simp only [Act.put, List.setIfInBounds_toArray, List.set_cons_zero, List.set_cons_succ])
  refine takeS_alone 23 rfl (by kernel_rfl) (by rfl) (fun K hK => ?_)
  go_simp
  (refine (rEntry_any t.entry.term t.entry.kind t.entry.session t.entry.seq t.entry.ck t.entry.text t.entry.aao _ t.entry.acap t.entry.num t.entry.args t.entry.vao _ t.entry.vcap t.entry.vs L8 _ HL8.out rfl rfl (RowsIn.mono noSub_rising (HTI.out _ (H3.out.grow c7).below).entry.1 (Nat.le_of_lt (HSZ.out _ (H3.out.grow c7).below))) (RowsIn.mono noSub_rising (HTI.out _ (H3.out.grow c7).below).entry.2 (Nat.le_of_lt (HSZ.out _ (H3.out.grow c7).below))) (fun v hv => by have := HS.out.eargs.2.1 v hv; omega) (Nat.le_trans HS.out.etext (by decide)) HLEN.out.2.2.2.2.2 (by have := HS.out.eargs.1; omega) (by have := HS.out.voters; omega)).mono ?_; rintro e z8 ⟨r8, n8, qr8, rfl, ho, hb⟩; obtain rfl : n8 = L8.length := ho.len.symm; have RS8 := Lib.hid (RS7.out.addR ho hb (H3.out.grow c7).size); have c8 := c7.trans (hb.mono c7.size); clear ho hb)
  refine hK.out _ _ (by assumption) ?_
  clear hK K
  (try simp only [Act.put, List.setIfInBounds_toArray, List.set_cons_zero, List.set_cons_succ])
  refine takeS_alone 24 rfl (by kernel_rfl) (by rfl) (fun K hK => ?_)
  go_simp
  (have c9 := Below.alloc c8 c8.size (.cells #[.slice r1 L1.length qr1, .slice r2 L2.length qr2, .slice r3 L3.length qr3, .slice r4 L4.length qr4, .slice r5 L5.length qr5, .slice r6 L6.length qr6, .slice r7 L7.length qr7, .slice r8 L8.length qr8] 43); have k9 := heap_alloc_new z8 (.cells #[.slice r1 L1.length qr1, .slice r2 L2.length qr2, .slice r3 L3.length qr3, .slice r4 L4.length qr4, .slice r5 L5.length qr5, .slice r6 L6.length qr6, .slice r7 L7.length qr7, .slice r8 L8.length qr8] 43); have RS9 := RS8.out.below ((Below.refl z8.heap.size z8).alloc (Nat.le_refl _) (.cells #[.slice r1 L1.length qr1, .slice r2 L2.length qr2, .slice r3 L3.length qr3, .slice r4 L4.length qr4, .slice r5 L5.length qr5, .slice r6 L6.length qr6, .slice r7 L7.length qr7, .slice r8 L8.length qr8] 43)); generalize z8.alloc (.cells #[.slice r1 L1.length qr1, .slice r2 L2.length qr2, .slice r3 L3.length qr3, .slice r4 L4.length qr4, .slice r5 L5.length qr5, .slice r6 L6.length qr6, .slice r7 L7.length qr7, .slice r8 L8.length qr8] 43) = z9 at c9 k9 RS9 ⊢; have RSS := Lib.hid RS9; have KC := Lib.hid k9; clear RS9 k9 RS0 RS1 RS2 RS3 RS4 RS5 RS6 RS7 RS8)
  refine hK.out _ _ (by assumption) ?_
  clear hK K
  (try simp only [Act.put, List.setIfInBounds_toArray, List.set_cons_zero, List.set_cons_succ])
  (first | (refine takeS_no 25 rfl (by kernel_rfl) (by kernel_rfl) (by kernel_rfl) (fun _ _ _ h => h) (by rfl) (by assumption) ?_) | (refine takeS_yes (v := ?_) 25 rfl (by kernel_rfl) (by kernel_rfl) (by kernel_rfl) (fun _ _ _ h => h) (by rfl) (by assumption) ?_ ?_; rotate_left; focus (intro wS hSw; have hq := H3.out.grow hSw; obtain ⟨d0, d1, d2, d3, d4, d5, d6, d7, d8, d9, d10, d11, d12, d13, d14, d15, d16, d17, d18, d19, d20, d21, d22, d23, d24, d25⟩ := HTC.out wS hq.below; go_simp; first | done | with_reducible rfl)))
  (try simp only [Act.put, List.setIfInBounds_toArray, List.set_cons_zero, List.set_cons_succ])
  refine wpAnyH_done (by kernel_rfl) ?_ _
  have H3 := Lib.hid (H3.out.grow c9)
  have RC := RSS
  have RAB := Lib.hid (RAB.out.below c9)
  have KA := Lib.hid ((c9.block _ (Nat.lt_of_lt_of_le (Array.getElem?_eq_some_iff.1 KA.out).1 hcb.size)).trans ((hcb.block _ (Array.getElem?_eq_some_iff.1 KA.out).1).trans KA.out))
  have KB := Lib.hid ((c9.block _ (Array.getElem?_eq_some_iff.1 KB.out).1).trans KB.out)
  clear c0 c1 c2 c3 c4 c5 c6 c7 c8 hS0 RSS
  have d5 := (HTC.out _ H3.out.below).d5
  go_wp2_with fail
  refine (keptV_at t.vo t.values.length t.vcap (t.values.length + 12) ga (W.heap.size + 1) (some ⟨ga, 0, none⟩) t.values z9 W.heap.size rfl rfl rfl (HTI.out _ H3.out.below).values (Nat.le_of_lt (HSZ.out _ H3.out.below)) H3.out.ls.a (by have := HS.out.values.1; omega)).mono ?_
  rintro e z10 ⟨rfl, hb⟩
  have c0 := Below.refl z9.heap.size z9
  clear c9
  have c1 := c0.trans (hb.mono c0.size)
  have H3 := Lib.hid (H3.out.grow hb)
  clear hb
  clear d5
  go_wp2_with (first | (refine wpList_load_want (by rfl) 27 (.tmp 4) rfl p4 0 rfl [.int .i64 t.fact.id, .int .i64 t.fact.ty, .slice (some ⟨gb, 0, none⟩) t.fact.args.length (t.fact.args.length + 12)] _ (range_block H3.out.k4) Tryz.underlying27 rfl info_fa ?_) | (refine wpList_load_want (by rfl) 27 (.tmp 101) rfl W.heap.size 6 rfl [.int .i64 t.fact.id, .int .i64 t.fact.ty, .slice t.fact.ao t.fact.args.length t.fact.cap] _ (HTR.out _ H3.out.below).fact Tryz.underlying27 rfl info_fa ?_))
  refine (keptFa_any t.fact.id t.fact.ty t.fact.ao t.fact.args.length t.fact.cap gb (W.heap.size + 1) t.fact.args z10 rfl (RowsIn.mono noSub_rising (HTI.out _ H3.out.below).fact (Nat.le_of_lt (HSZ.out _ H3.out.below))) H3.out.ls.b (by have := HS.out.fact.1; omega)).mono ?_
  rintro e z11 ⟨rfl, hb⟩
  have c2 := c1.trans (hb.mono c1.size)
  have H3 := Lib.hid (H3.out.grow hb)
  clear hb
  go_wp2_with (first | (refine wpList_load_want (by rfl) 30 (.tmp 5) rfl p5 0 rfl [.int .u8 t.command.kind, .string t.command.text, .slice (some ⟨gc, 0, none⟩) t.command.args.length (t.command.args.length + 12), .int .i64 t.command.num] _ (range_block H3.out.k5) Tryz.underlying30 rfl info_cm ?_) | (refine wpList_load_want (by rfl) 30 (.tmp 107) rfl W.heap.size 9 rfl [.int .u8 t.command.kind, .string t.command.text, .slice t.command.ao t.command.args.length t.command.cap, .int .i64 t.command.num] _ (HTR.out _ H3.out.below).command Tryz.underlying30 rfl info_cm ?_))
  refine (keptC_any t.command.kind t.command.text t.command.num t.command.ao t.command.args.length t.command.cap gc (W.heap.size + 1) t.command.args z11 rfl (RowsIn.mono noSub_rising (HTI.out _ H3.out.below).command (Nat.le_of_lt (HSZ.out _ H3.out.below))) H3.out.ls.c (by have := HS.out.command.1; omega)).mono ?_
  rintro e z12 ⟨rfl, hb⟩
  have c3 := c2.trans (hb.mono c2.size)
  have H3 := Lib.hid (H3.out.grow hb)
  clear hb
  go_wp2_with (first | (refine wpList_load_want (by rfl) 34 (.tmp 6) rfl p6 0 rfl [.int .i64 t.reply.err, .int .i64 t.reply.num, .slice (some ⟨g1, 0, none⟩) t.reply.facts.length (t.reply.facts.length + 12), .slice (some ⟨g2, 0, none⟩) t.reply.said.length (t.reply.said.length + 12)] _ (range_block H3.out.k6) Tryz.underlying34 rfl info_rp ?_) | (refine wpList_load_want (by rfl) 34 (.tmp 113) rfl W.heap.size 13 rfl [.int .i64 t.reply.err, .int .i64 t.reply.num, .slice t.reply.fo t.reply.facts.length t.reply.fcap, .slice t.reply.so t.reply.said.length t.reply.scap] _ (HTR.out _ H3.out.below).reply Tryz.underlying34 rfl info_rp ?_))
  refine (keptRp_any t.reply.err t.reply.num t.reply.fo t.reply.fcap t.reply.facts t.reply.so t.reply.scap t.reply.said frs g1 g2 (W.heap.size + 1) z12 (RowsIn.mono faSub_rising (HTI.out _ H3.out.below).reply.1 (Nat.le_of_lt (HSZ.out _ H3.out.below))) (RowsIn.mono noSub_rising (HTI.out _ H3.out.below).reply.2 (Nat.le_of_lt (HSZ.out _ H3.out.below))) HMAP.out H3.out.ls.f H3.out.ls.s (fun f hf => by have := (HS.out.facts.2 f hf).1; omega) (by have := HS.out.facts.1; omega) (by have := HS.out.said.1; omega)).mono ?_
  rintro e z13 ⟨rfl, hb⟩
  have c4 := c3.trans (hb.mono c3.size)
  have H3 := Lib.hid (H3.out.grow hb)
  clear hb
  go_wp2_with (first | (refine wpList_load_want (by rfl) 38 (.tmp 7) rfl p7 0 rfl [.int .i64 t.entry.term, .int .u8 t.entry.kind, .int .i64 t.entry.session, .int .i64 t.entry.seq, .int .u8 t.entry.ck, .string t.entry.text, .slice (some ⟨e1, 0, none⟩) t.entry.args.length (t.entry.args.length + 12), .int .i64 t.entry.num, .slice (some ⟨e2, 0, none⟩) t.entry.vs.length (t.entry.vs.length + 12)] _ (range_block H3.out.k7) Tryz.underlying38 rfl info_en ?_) | (refine wpList_load_want (by rfl) 38 (.tmp 119) rfl W.heap.size 17 rfl [.int .i64 t.entry.term, .int .u8 t.entry.kind, .int .i64 t.entry.session, .int .i64 t.entry.seq, .int .u8 t.entry.ck, .string t.entry.text, .slice t.entry.aao t.entry.args.length t.entry.acap, .int .i64 t.entry.num, .slice t.entry.vao t.entry.vs.length t.entry.vcap] _ (HTR.out _ H3.out.below).entry Tryz.underlying38 rfl info_en ?_))
  refine (keptEn_any t.entry.term t.entry.kind t.entry.session t.entry.seq t.entry.ck t.entry.text t.entry.aao t.entry.acap t.entry.args t.entry.num t.entry.vao t.entry.vcap t.entry.vs e1 e2 (W.heap.size + 1) z13 (RowsIn.mono noSub_rising (HTI.out _ H3.out.below).entry.1 (Nat.le_of_lt (HSZ.out _ H3.out.below))) (RowsIn.mono noSub_rising (HTI.out _ H3.out.below).entry.2 (Nat.le_of_lt (HSZ.out _ H3.out.below))) H3.out.ls.x H3.out.ls.v (by have := HS.out.eargs.1; omega) (by have := HS.out.voters; omega)).mono ?_
  rintro e z14 ⟨rfl, hb⟩
  have c5 := c4.trans (hb.mono c4.size)
  have H3 := Lib.hid (H3.out.grow hb)
  clear hb
  have hb5 := H3.out.below
  have hz5 := H3.out.size
  have hRAB : Rs z14 (W.heap.size + 1) ([(.slice a1 L1.length qa1, L1), (.slice a2 L2.length qa2, L2), (.slice a3 L3.length qa3, L3), (.slice a4 L4.length qa4, L4), (.slice a5 L5.length qa5, L5), (.slice a6 L6.length qa6, L6), (.slice a7 L7.length qa7, L7), (.slice a8 L8.length qa8, L8)] ++ [(.slice b1 L1.length qb1, L1), (.slice b2 L2.length qb2, L2), (.slice b3 L3.length qb3, L3), (.slice b4 L4.length qb4, L4), (.slice b5 L5.length qb5, L5), (.slice b6 L6.length qb6, L6), (.slice b7 L7.length qb7, L7), (.slice b8 L8.length qb8, L8)]) := by have h := RAB.out.below c5; simpa using h
  have hRC : Rs z14 (W.heap.size + 1) [(.slice r1 L1.length qr1, L1), (.slice r2 L2.length qr2, L2), (.slice r3 L3.length qr3, L3), (.slice r4 L4.length qr4, L4), (.slice r5 L5.length qr5, L5), (.slice r6 L6.length qr6, L6), (.slice r7 L7.length qr7, L7), (.slice r8 L8.length qr8, L8)] := by have h := RC.out.below c5; simpa using h
  have kA := (c5.block _ (Array.getElem?_eq_some_iff.1 KA.out).1).trans KA.out
  have kB := (c5.block _ (Array.getElem?_eq_some_iff.1 KB.out).1).trans KB.out
  have kC := (c5.block _ (Array.getElem?_eq_some_iff.1 KC.out).1).trans KC.out
  have hll : ∀ q ∈ ([(.slice a1 L1.length qa1, L1), (.slice a2 L2.length qa2, L2), (.slice a3 L3.length qa3, L3), (.slice a4 L4.length qa4, L4), (.slice a5 L5.length qa5, L5), (.slice a6 L6.length qa6, L6), (.slice a7 L7.length qa7, L7), (.slice a8 L8.length qa8, L8)] : List (Value × List Int)), q.2.length ≤ 4611686018427387904 := fun q hq => by
    have h := HLEN.out
    simp only [List.mem_cons, List.not_mem_nil, or_false] at hq
    rcases hq with rfl | rfl | rfl | rfl | rfl | rfl | rfl | rfl <;> (dsimp only; omega)
  have HSAME := Lib.hid (sameRows_any x8.heap.size z8.heap.size 8 8 8 [(.slice a1 L1.length qa1, L1), (.slice a2 L2.length qa2, L2), (.slice a3 L3.length qa3, L3), (.slice a4 L4.length qa4, L4), (.slice a5 L5.length qa5, L5), (.slice a6 L6.length qa6, L6), (.slice a7 L7.length qa7, L7), (.slice a8 L8.length qa8, L8)] [(.slice r1 L1.length qr1, L1), (.slice r2 L2.length qr2, L2), (.slice r3 L3.length qr3, L3), (.slice r4 L4.length qr4, L4), (.slice r5 L5.length qr5, L5), (.slice r6 L6.length qr6, L6), (.slice r7 L7.length qr7, L7), (.slice r8 L8.length qr8, L8)] z14 rfl rfl (RowsAtB.of hRAB.left kA rfl) (RowsAtB.of hRC kC rfl) hll (by decide))
  have RAB := Lib.hid hRAB
  have KA := Lib.hid kA
  have KB := Lib.hid kB
  have HS2 := Lib.hid (And.intro hb5 hz5)
  clear hRAB hRC kA kB kC hll hb5 hz5 RC KC H3 c0 c1 c2 c3 c4 c5
  go_wp2_with fail
  refine HSAME.out.mono ?_
  rintro e z15 ⟨rfl, hb⟩
  have RAB := Lib.hid (RAB.out.below hb)
  have kA := (hb.block _ (Array.getElem?_eq_some_iff.1 KA.out).1).trans KA.out
  have kB := (hb.block _ (Array.getElem?_eq_some_iff.1 KB.out).1).trans KB.out
  have hb15 := HS2.out.1.trans (hb.mono HS2.out.2)
  have hz15 : W.heap.size + 1 ≤ z15.heap.size := Nat.le_trans HS2.out.2 hb.size
  have HOWN := Lib.hid (own_block (base := W.heap.size + 1) (size := 1) (n := 8) kA hx8 (by decide) rfl)
  have HCB := Lib.hid (show ∀ (j : Nat) u, ([.slice b1 L1.length qb1, .slice b2 L2.length qb2, .slice b3 L3.length qb3, .slice b4 L4.length qb4, .slice b5 L5.length qb5, .slice b6 L6.length qb6, .slice b7 L7.length qb7, .slice b8 L8.length qb8] : List Value)[j]? = some u → z15.cell? ⟨y8.heap.size, j, none⟩ = some u from fun j u hu => by rw [Go.Joins.cell_of_block kB j, ← Array.getElem?_toList]; exact hu)
  clear hb KA KB HS2 HSAME kA kB
  go_wp2_with (at_builtin; refine wpList_append_rows_g (by rfl) (.tmp 130) (.tmp 131) rfl (W.heap.size + 1) x8.heap.size y8.heap.size 8 8 [.slice a1 L1.length qa1, .slice a2 L2.length qa2, .slice a3 L3.length qa3, .slice a4 L4.length qa4, .slice a5 L5.length qa5, .slice a6 L6.length qa6, .slice a7 L7.length qa7, .slice a8 L8.length qa8] [.slice b1 L1.length qb1, .slice b2 L2.length qb2, .slice b3 L3.length qb3, .slice b4 L4.length qb4, .slice b5 L5.length qb5, .slice b6 L6.length qb6, .slice b7 L7.length qb7, .slice b8 L8.length qb8] rfl HOWN.out rfl rfl HCB.out (by intro u hu; simp only [List.mem_cons, List.not_mem_nil, or_false] at hu; rcases hu with rfl | rfl | rfl | rfl | rfl | rfl | rfl | rfl <;> rfl) (by decide) hz15 ?_)
  intro v' z16 hown hg
  have hR16 : Rs z16 (W.heap.size + 1) ([(.slice a1 L1.length qa1, L1), (.slice a2 L2.length qa2, L2), (.slice a3 L3.length qa3, L3), (.slice a4 L4.length qa4, L4), (.slice a5 L5.length qa5, L5), (.slice a6 L6.length qa6, L6), (.slice a7 L7.length qa7, L7), (.slice a8 L8.length qa8, L8)] ++ [(.slice b1 L1.length qb1, L1), (.slice b2 L2.length qb2, L2), (.slice b3 L3.length qb3, L3), (.slice b4 L4.length qb4, L4), (.slice b5 L5.length qb5, L5), (.slice b6 L6.length qb6, L6), (.slice b7 L7.length qb7, L7), (.slice b8 L8.length qb8, L8)]) := ⟨fun q hq => (RAB.out.own q hq).kept hg (own_apart (RAB.out.own q hq) HOWN.out (by decide)), RAB.out.sep⟩
  obtain ⟨lb, cp, hv⟩ := rows_form hown
  subst hv
  have hap := apart16 hown hR16 rfl (by have h := HLEN.out; intro q hq; simp only [List.mem_append, List.mem_cons, List.not_mem_nil, or_false] at hq; rcases hq with (rfl | rfl | rfl | rfl | rfl | rfl | rfl | rfl) | (rfl | rfl | rfl | rfl | rfl | rfl | rfl | rfl) <;> (dsimp only; omega)) (Nat.le_trans hz15 hg.size)
  have hb16 := hb15.grown hg hz15 (fun k hk => by cases hk; exact hx8)
  have HAP := Lib.hid hap
  clear hown hg hR16 hap RAB HOWN HCB
  go_wp2_with fail
  refine HAP.out.mono ?_
  rintro e z17 ⟨rfl, hb⟩
  have hb17 := hb16.trans hb
  clear hb
  go_wp2_with fail
  refine (awake02_any z17).mono ?_
  rintro e z18 ⟨rfl, hb⟩
  have hb18 := hb17.trans (hb.mono (HSZ.out _ hb17))
  clear hb
  go_wp2_with fail
  go_ret
  exact ⟨rfl, HEND.out _ hb18⟩
theorem walk_WireWrites {H : Type} {enc : TypeId × Value → H} {d : DataW H} {p : List MemPlace} (W : World) (cs : Array Value) (hc : cs.size = Tryz.prog.cellsOf 40) (h : DataW.Trod enc Tryz.prog W 0 (fun _ => true) true 40 (.agg cs) d p) (hz : DSized Tryz.prog 40 d) :
    Calls Tryz.prog 5 #[.agg cs] W fun e w' => e = .returned (.bool true) ∧ Below W.heap.size W w' := by
  obtain ⟨t, rfl, hx, hw⟩ := open_thing hc h hz
  exact walk_writes W t _ rfl hx hw
end Go.Proofs.YtiggpcmikhojmaaGreatDoor
