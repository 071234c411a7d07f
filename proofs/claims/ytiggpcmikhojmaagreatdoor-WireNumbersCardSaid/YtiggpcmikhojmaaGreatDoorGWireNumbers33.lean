/- The law WireNumbers, walked. Conditions: none. -/
import Derived.Test.YtiggpcmikhojmaaGreatDoorGWireNumbers16
import Derived.Test.YtiggpcmikhojmaaGreatDoorGWireNumbers23
import Derived.Deep.WholeRow
import Derived.Test.YtiggpcmikhojmaaGreatDoorGWireNumbers31
import Derived.Test.YtiggpcmikhojmaaGreatDoorGWireNumbers32
set_option linter.unusedVariables false
namespace Go.Proofs.YtiggpcmikhojmaaGreatDoor
open Go.RowKit
set_option maxRecDepth 200000
def zeroTh : Th := ⟨0, ⟨#[]⟩, ⟨0, 0, ⟨#[]⟩⟩, none, [], 0, ⟨0, 0, none, [], 0⟩, ⟨0, ⟨#[]⟩, none, [], 0, 0⟩, ⟨0, 0, none, [], 0, none, [], 0⟩, ⟨0, 0, 0, 0, 0, ⟨#[]⟩, none, [], 0, 0, none, [], 0⟩⟩
def litTh (g : Nat) : Th := ⟨9223372036854775807, ⟨#[]⟩, ⟨3, 1, ⟨#[120]⟩⟩, some ⟨g, 0, none⟩, [⟨0, 0, ⟨#[]⟩⟩, ⟨1, 0, ⟨#[108, 111, 115, 116]⟩⟩], 2, ⟨0, 0, none, [], 0⟩, ⟨0, ⟨#[]⟩, none, [], 0, 0⟩, ⟨0, 0, none, [], 0, none, [], 0⟩, ⟨0, 0, 0, 0, 0, ⟨#[]⟩, none, [], 0, 0, none, [], 0⟩⟩
theorem nil_wf : VasWf none [] 0 := ⟨fun _ h => (by cases h), of_decide_eq_true rfl, fun _ => rfl, Nat.le_refl _⟩
theorem zero_in (w : World) (B : Nat) : ThIn w B zeroTh := ⟨Or.inl rfl, Or.inl rfl, Or.inl rfl, ⟨Or.inl rfl, Or.inl rfl⟩, ⟨Or.inl rfl, Or.inl rfl⟩⟩
theorem en_wf0 : EnWf zeroTh.entry := by
  constructor
  all_goals first | rfl | exact of_decide_eq_true rfl | (intro v h; cases h; done) | (intro _; rfl)
theorem zero_wf : ThWf zeroTh := ⟨rfl, of_decide_eq_true rfl, ⟨rfl, rfl, of_decide_eq_true rfl⟩, nil_wf, ⟨rfl, rfl, nil_wf⟩, ⟨rfl, of_decide_eq_true rfl, nil_wf, rfl⟩, ⟨rfl, rfl, fun _ h => (by cases h), of_decide_eq_true rfl, fun _ => rfl, Nat.le_refl _, nil_wf⟩, en_wf0⟩
theorem lit_wf (g : Nat) : ThWf (litTh g) := ⟨rfl, of_decide_eq_true rfl, ⟨rfl, rfl, of_decide_eq_true rfl⟩, ⟨by
    intro v h
    simp only [litTh, List.mem_cons, List.not_mem_nil, or_false] at h
    rcases h with rfl | rfl <;> exact ⟨rfl, rfl, of_decide_eq_true rfl⟩, of_decide_eq_true rfl, fun h => (by cases h), of_decide_eq_true rfl⟩, ⟨rfl, rfl, nil_wf⟩, ⟨rfl, of_decide_eq_true rfl, nil_wf, rfl⟩, ⟨rfl, rfl, fun _ h => (by cases h), of_decide_eq_true rfl, fun _ => rfl, Nat.le_refl _, nil_wf⟩, en_wf0⟩
theorem lit_in {w : World} {B g : Nat} (hk : w.heap[g]? = some (.cells #[.int .u8 0, .int .i64 0, .string ⟨#[]⟩, .int .u8 1, .int .i64 0, .string ⟨#[108, 111, 115, 116]⟩] 24 (0, 0))) (hg : g < B) : ThIn w B (litTh g) :=
  ⟨vals_in hk hg fun i x hx j hj => by
    have hi : i < 2 := (List.getElem?_eq_some_iff.1 hx).1
    obtain rfl | rfl : i = 0 ∨ i = 1 := by omega
    all_goals obtain rfl := Option.some.inj hx
    all_goals obtain rfl | rfl | rfl : j = 0 ∨ j = 1 ∨ j = 2 := by omega
    all_goals rfl, Or.inl rfl, Or.inl rfl, ⟨Or.inl rfl, Or.inl rfl⟩, ⟨Or.inl rfl, Or.inl rfl⟩⟩
def fullArr (lb fb ib : Nat) : Array Value := #[.int .i64 (-9223372036854775808), .string ⟨#[114, 111, 112, 101]⟩, .int .u8 2, .int .i64 0, .string ⟨#[98, 101, 101]⟩, .slice (some ⟨lb, 0, none⟩) 4 4, .int .i64 1099511627776, .int .i64 31, .slice (some ⟨lb, 0, none⟩) 4 4, .int .u8 2, .string ⟨#[104, 105, 118, 101]⟩, .slice (some ⟨lb, 0, none⟩) 2 4, .int .i64 (-1), .int .i64 202, .int .i64 9, .slice (some ⟨fb, 0, none⟩) 2 2, .slice (some ⟨lb, 3, none⟩) 3 3, .int .i64 258, .int .u8 3, .int .i64 3, .int .i64 4, .int .u8 2, .string ⟨#[104, 105, 118, 101]⟩, .slice (some ⟨lb, 0, none⟩) 2 4, .int .i64 (-1), .slice (some ⟨ib, 0, none⟩) 3 3]
theorem full_arr (lb fb ib : Nat) : thArr (fullTh lb fb ib) = fullArr lb fb ib := rfl
/-- A world that has grown out of another. -/
structure Gr (B : Nat) (w0 w : World) : Prop where
  below : Below B w0 w
  size : B ≤ w.heap.size
theorem Gr.grow {B : Nat} {w0 w w' : World} (h : Gr B w0 w) (hb : Below w.heap.size w w') : Gr B w0 w' := ⟨h.below.trans (hb.mono h.size), Nat.le_trans h.size hb.size⟩
set_option maxHeartbeats 8000000 in
theorem walk_WireNumbers (W : World) : Calls Tryz.prog 3 #[] W fun e w' => e = .returned (.bool true) ∧ Below W.heap.size W w' := by
  go_enter Tryz.func3, Tryz.ntmps3
  go_wp2_with fail
  refine (full_any W).mono ?_
  rintro e w1 ⟨lb, fb, ib, rfl, hin, hb1⟩
  obtain ⟨A, hA⟩ : ∃ A, thArr (fullTh lb fb ib) = A := ⟨_, rfl⟩
  rw [hA]
  have HSZ := Lib.hid (show 26 = A.size from hA ▸ rfl)
  have HONE := Lib.hid (show A.all (·.oneCell') = true from hA ▸ all_oneCell_toArray (thCells_one _))
  have HINFO := Lib.hid (show (Tryz.prog.info? 40).map (·.size) = some A.size from hA ▸ info_th)
  have HA := Lib.hid hA
  have HIN := Lib.hid hin
  have HB1 := Lib.hid hb1
  clear hin hb1 hA
  have HINFOL := Lib.hid (show (Tryz.prog.info? 40).map (·.size) = some A.toList.length by rw [Array.length_toList]; exact HINFO.out)
  have HR := Lib.hid (show (w1.alloc (.cells A 40)).rangeAt w1.heap.size 0 A.toList from range_block (heap_alloc_new w1 _))
  go_wp2_with (first | (refine wpList_store_row rfl 40 (.tmp 1) (.tmp 12) rfl w1.heap.size A rfl rfl 40 _ (heap_alloc_new w1 _) HINFO.out HSZ.out HONE.out ?_; rw [World.setRow_alloc_new]) | (refine wpList_load_mid rfl 40 (.tmp 1) rfl w1.heap.size 0 rfl A.toList _ HR.out Tryz.underlying40 rfl HINFOL.out ?_))
  have hb2 : Below w1.heap.size w1 (w1.alloc (.cells A 40)) := (Below.refl _ _).alloc (Nat.le_refl _) _
  have hk2 := heap_alloc_new w1 (.cells A 40)
  have hs2 : (w1.alloc (.cells A 40)).heap.size = w1.heap.size + 1 := by simp
  generalize w1.alloc (.cells A 40) = w2 at hb2 hk2 hs2 HR ⊢
  have HK2 := Lib.hid hk2
  have HTI := Lib.hid (fun w' (h : Below (w1.heap.size + 1) w2 w') => (HIN.out.below (hb2.trans (h.mono (Nat.le_succ _))) : ThIn w' w1.heap.size (fullTh lb fb ib)))
  have HEND := Lib.hid (fun w' (h : Below (w1.heap.size + 1) w2 w') => HB1.out.trans ((hb2.trans (h.mono (Nat.le_succ _))).mono HB1.out.size))
  have HS2 := Lib.hid (fun w' (h : Below (w1.heap.size + 1) w2 w') => (show w1.heap.size + 1 ≤ w'.heap.size from hs2 ▸ h.size))
  have b2 := Below.refl (w1.heap.size + 1) w2
  clear hb2 hk2 hs2 HR
  refine (walk_writes w2 (fullTh lb fb ib) A HA.out ((HTI.out w2 b2).mono (Nat.le_of_lt (HS2.out w2 b2))) (full_wf lb fb ib)).mono ?_
  rintro e w3 ⟨rfl, hb⟩
  have b3 := b2.trans (hb.mono (HS2.out w2 b2))
  clear b2 hb
  go_wp2_with fail
  refine (walk_writes w3 zeroTh _ rfl (zero_in _ _) zero_wf).mono ?_
  rintro e w4 ⟨rfl, hb⟩
  have b4 := b3.trans (hb.mono (HS2.out w3 b3))
  clear b3 hb
  go_wp2_with fail
  have kL := heap_alloc_new w4 (.cells #[.int .u8 0, .int .i64 0, .string ⟨#[]⟩, .int .u8 1, .int .i64 0, .string ⟨#[108, 111, 115, 116]⟩] 24)
  have bL := Below.alloc b4 (HS2.out w4 b4) (.cells #[.int .u8 0, .int .i64 0, .string ⟨#[]⟩, .int .u8 1, .int .i64 0, .string ⟨#[108, 111, 115, 116]⟩] 24)
  generalize w4.alloc (.cells #[.int .u8 0, .int .i64 0, .string ⟨#[]⟩, .int .u8 1, .int .i64 0, .string ⟨#[108, 111, 115, 116]⟩] 24) = w5 at kL bL ⊢
  refine (walk_writes w5 (litTh w4.heap.size) _ rfl (lit_in kL (Array.getElem?_eq_some_iff.1 kL).1) (lit_wf _)).mono ?_
  rintro e w6 ⟨rfl, hb⟩
  have b6 := bL.trans (hb.mono (HS2.out w5 bL))
  clear b4 hb kL bL
  go_wp2_with fail
  obtain ⟨t, ht⟩ : ∃ t, fullTh lb fb ib = t := ⟨_, rfl⟩
  have HS := Lib.hid (show ThSmall t from ht ▸ full_small lb fb ib)
  have HTI := Lib.hid (show ∀ w', Below (w1.heap.size + 1) w2 w' → ThIn w' w1.heap.size t from fun w' h => ht ▸ HTI.out w' h)
  have HW := Lib.hid (show ThWf t from ht ▸ full_wf lb fb ib)
  have HTC := Lib.hid (show ∀ w', Below (w1.heap.size + 1) w2 w' → ThCells t w1.heap.size w' from fun w' h => th_cells (by rw [← thObj_arr, ← ht, HA.out]; exact HK2.out) h)
  obtain ⟨L1, hL1⟩ : ∃ L, numB 8 t.number = L := ⟨_, rfl⟩
  obtain ⟨L2, hL2⟩ : ∃ L, textB t.text = L := ⟨_, rfl⟩
  obtain ⟨L3, hL3⟩ : ∃ L, valueB ⟨t.value.kind, t.value.num, t.value.text⟩ = L := ⟨_, rfl⟩
  obtain ⟨L4, hL4⟩ : ∃ L, valuesB t.values = L := ⟨_, rfl⟩
  obtain ⟨L5, hL5⟩ : ∃ L, factB ⟨t.fact.id, t.fact.ty, t.fact.args⟩ = L := ⟨_, rfl⟩
  obtain ⟨L6, hL6⟩ : ∃ L, commandB t.command.kind t.command.text t.command.num t.command.args = L := ⟨_, rfl⟩
  obtain ⟨L7, hL7⟩ : ∃ L, numB 8 t.reply.err ++ (numB 8 t.reply.num ++ (numB 4 t.reply.facts.length ++ ((t.reply.facts.flatMap fun f => factB f.plain) ++ valuesB t.reply.said))) = L := ⟨_, rfl⟩
  obtain ⟨L8, hL8⟩ : ∃ L, entryB ⟨t.entry.term, t.entry.kind, t.entry.session, t.entry.seq, t.entry.ck, t.entry.text, t.entry.args, t.entry.num, t.entry.vs⟩ = L := ⟨_, rfl⟩
  have HLEN := Lib.hid (lens_th HS.out hL1 hL2 hL3 hL4 hL5 hL6 hL7 hL8)
  have HL1 := Lib.hid hL1
  have HL2 := Lib.hid hL2
  have HL3 := Lib.hid hL3
  have HL4 := Lib.hid hL4
  have HL5 := Lib.hid hL5
  have HL6 := Lib.hid hL6
  have HL7 := Lib.hid hL7
  have HL8 := Lib.hid hL8
  clear hL1 hL2 hL3 hL4 hL5 hL6 hL7 hL8
  have H3 := Lib.hid (show Gr (w1.heap.size + 1) w2 w6 from ⟨b6, HS2.out w6 b6⟩)
  have RSS := Lib.hid (Rs.nil w6 (w1.heap.size + 1))
  refine heldS_begin (fun w' => Below w6.heap.size w6 w') (by kernel_rfl) ((Below.refl _ _).drew) ?_
  intro hS0
  (first | (refine takeS_no 0 rfl (by kernel_rfl) (by kernel_rfl) (by kernel_rfl) (fun _ _ _ h => h) (by rfl) (by assumption) ?_) | (refine takeS_yes (v := ?_) 0 rfl (by kernel_rfl) (by kernel_rfl) (by kernel_rfl) (fun _ _ _ h => h) (by rfl) (by assumption) ?_ ?_; rotate_left; focus (intro wS hSw; have hq := H3.out.grow hSw; obtain ⟨d0, d1, d2, d3, d4, d5, d6, d7, d8, d9, d10, d11, d12, d13, d14, d15, d16, d17, d18, d19, d20, d21, d22, d23, d24, d25⟩ := HTC.out wS hq.below; go_simp; first | done | with_reducible rfl)))
  (try simp only [Act.put, List.setIfInBounds_toArray, List.set_cons_zero, List.set_cons_succ])
  (first | (refine takeS_no 1 rfl (by kernel_rfl) (by kernel_rfl) (by kernel_rfl) (fun _ _ _ h => h) (by rfl) (by assumption) ?_) | (refine takeS_yes (v := ?_) 1 rfl (by kernel_rfl) (by kernel_rfl) (by kernel_rfl) (fun _ _ _ h => h) (by rfl) (by assumption) ?_ ?_; rotate_left; focus (intro wS hSw; have hq := H3.out.grow hSw; obtain ⟨d0, d1, d2, d3, d4, d5, d6, d7, d8, d9, d10, d11, d12, d13, d14, d15, d16, d17, d18, d19, d20, d21, d22, d23, d24, d25⟩ := HTC.out wS hq.below; go_simp; first | done | with_reducible rfl)))
  (try simp only [Act.put, List.setIfInBounds_toArray, List.set_cons_zero, List.set_cons_succ])
  (first | (refine takeS_no 3 rfl (by kernel_rfl) (by kernel_rfl) (by kernel_rfl) (fun _ _ _ h => h) (by rfl) (by assumption) ?_) | (refine takeS_yes (v := ?_) 3 rfl (by kernel_rfl) (by kernel_rfl) (by kernel_rfl) (fun _ _ _ h => h) (by rfl) (by assumption) ?_ ?_; rotate_left; focus (intro wS hSw; have hq := H3.out.grow hSw; obtain ⟨d0, d1, d2, d3, d4, d5, d6, d7, d8, d9, d10, d11, d12, d13, d14, d15, d16, d17, d18, d19, d20, d21, d22, d23, d24, d25⟩ := HTC.out wS hq.below; go_simp; first | done | with_reducible rfl)))
  (try simp only [Act.put, List.setIfInBounds_toArray, List.set_cons_zero, List.set_cons_succ])
  (first | (refine takeS_no 4 rfl (by kernel_rfl) (by kernel_rfl) (by kernel_rfl) (fun _ _ _ h => h) (by rfl) (by assumption) ?_) | (refine takeS_yes (v := ?_) 4 rfl (by kernel_rfl) (by kernel_rfl) (by kernel_rfl) (fun _ _ _ h => h) (by rfl) (by assumption) ?_ ?_; rotate_left; focus (intro wS hSw; have hq := H3.out.grow hSw; obtain ⟨d0, d1, d2, d3, d4, d5, d6, d7, d8, d9, d10, d11, d12, d13, d14, d15, d16, d17, d18, d19, d20, d21, d22, d23, d24, d25⟩ := HTC.out wS hq.below; go_simp; first | done | with_reducible rfl)))
  (try simp only [Act.put, List.setIfInBounds_toArray, List.set_cons_zero, List.set_cons_succ])
  (first | (refine takeS_no 6 rfl (by kernel_rfl) (by kernel_rfl) (by kernel_rfl) (fun _ _ _ h => h) (by rfl) (by assumption) ?_) | (refine takeS_yes (v := ?_) 6 rfl (by kernel_rfl) (by kernel_rfl) (by kernel_rfl) (fun _ _ _ h => h) (by rfl) (by assumption) ?_ ?_; rotate_left; focus (intro wS hSw; have hq := H3.out.grow hSw; obtain ⟨d0, d1, d2, d3, d4, d5, d6, d7, d8, d9, d10, d11, d12, d13, d14, d15, d16, d17, d18, d19, d20, d21, d22, d23, d24, d25⟩ := HTC.out wS hq.below; go_simp; first | done | with_reducible rfl)))
  (try simp only [Act.put, List.setIfInBounds_toArray, List.set_cons_zero, List.set_cons_succ])
  (first | (refine takeS_no 7 rfl (by kernel_rfl) (by kernel_rfl) (by kernel_rfl) (fun _ _ _ h => h) (by rfl) (by assumption) ?_) | (refine takeS_yes (v := ?_) 7 rfl (by kernel_rfl) (by kernel_rfl) (by kernel_rfl) (fun _ _ _ h => h) (by rfl) (by assumption) ?_ ?_; rotate_left; focus (intro wS hSw; have hq := H3.out.grow hSw; obtain ⟨d0, d1, d2, d3, d4, d5, d6, d7, d8, d9, d10, d11, d12, d13, d14, d15, d16, d17, d18, d19, d20, d21, d22, d23, d24, d25⟩ := HTC.out wS hq.below; go_simp; first | done | with_reducible rfl)))
  (try simp only [Act.put, List.setIfInBounds_toArray, List.set_cons_zero, List.set_cons_succ])
  (first | (refine takeS_no 9 rfl (by kernel_rfl) (by kernel_rfl) (by kernel_rfl) (fun _ _ _ h => h) (by rfl) (by assumption) ?_) | (refine takeS_yes (v := ?_) 9 rfl (by kernel_rfl) (by kernel_rfl) (by kernel_rfl) (fun _ _ _ h => h) (by rfl) (by assumption) ?_ ?_; rotate_left; focus (intro wS hSw; have hq := H3.out.grow hSw; obtain ⟨d0, d1, d2, d3, d4, d5, d6, d7, d8, d9, d10, d11, d12, d13, d14, d15, d16, d17, d18, d19, d20, d21, d22, d23, d24, d25⟩ := HTC.out wS hq.below; go_simp; first | done | with_reducible rfl)))
  (try simp only [Act.put, List.setIfInBounds_toArray, List.set_cons_zero, List.set_cons_succ])
  (first | (refine takeS_no 10 rfl (by kernel_rfl) (by kernel_rfl) (by kernel_rfl) (fun _ _ _ h => h) (by rfl) (by assumption) ?_) | (refine takeS_yes (v := ?_) 10 rfl (by kernel_rfl) (by kernel_rfl) (by kernel_rfl) (fun _ _ _ h => h) (by rfl) (by assumption) ?_ ?_; rotate_left; focus (intro wS hSw; have hq := H3.out.grow hSw; obtain ⟨d0, d1, d2, d3, d4, d5, d6, d7, d8, d9, d10, d11, d12, d13, d14, d15, d16, d17, d18, d19, d20, d21, d22, d23, d24, d25⟩ := HTC.out wS hq.below; go_simp; first | done | with_reducible rfl)))
  (try simp only [Act.put, List.setIfInBounds_toArray, List.set_cons_zero, List.set_cons_succ])
  (first | (refine takeS_no 12 rfl (by kernel_rfl) (by kernel_rfl) (by kernel_rfl) (fun _ _ _ h => h) (by rfl) (by assumption) ?_) | (refine takeS_yes (v := ?_) 12 rfl (by kernel_rfl) (by kernel_rfl) (by kernel_rfl) (fun _ _ _ h => h) (by rfl) (by assumption) ?_ ?_; rotate_left; focus (intro wS hSw; have hq := H3.out.grow hSw; obtain ⟨d0, d1, d2, d3, d4, d5, d6, d7, d8, d9, d10, d11, d12, d13, d14, d15, d16, d17, d18, d19, d20, d21, d22, d23, d24, d25⟩ := HTC.out wS hq.below; go_simp; first | done | with_reducible rfl)))
  (try simp only [Act.put, List.setIfInBounds_toArray, List.set_cons_zero, List.set_cons_succ])
  (first | (refine takeS_no 13 rfl (by kernel_rfl) (by kernel_rfl) (by kernel_rfl) (fun _ _ _ h => h) (by rfl) (by assumption) ?_) | (refine takeS_yes (v := ?_) 13 rfl (by kernel_rfl) (by kernel_rfl) (by kernel_rfl) (fun _ _ _ h => h) (by rfl) (by assumption) ?_ ?_; rotate_left; focus (intro wS hSw; have hq := H3.out.grow hSw; obtain ⟨d0, d1, d2, d3, d4, d5, d6, d7, d8, d9, d10, d11, d12, d13, d14, d15, d16, d17, d18, d19, d20, d21, d22, d23, d24, d25⟩ := HTC.out wS hq.below; go_simp; first | done | with_reducible rfl)))
  (try simp only [Act.put, List.setIfInBounds_toArray, List.set_cons_zero, List.set_cons_succ])
  (first | (refine takeS_no 15 rfl (by kernel_rfl) (by kernel_rfl) (by kernel_rfl) (fun _ _ _ h => h) (by rfl) (by assumption) ?_) | (refine takeS_yes (v := ?_) 15 rfl (by kernel_rfl) (by kernel_rfl) (by kernel_rfl) (fun _ _ _ h => h) (by rfl) (by assumption) ?_ ?_; rotate_left; focus (intro wS hSw; have hq := H3.out.grow hSw; obtain ⟨d0, d1, d2, d3, d4, d5, d6, d7, d8, d9, d10, d11, d12, d13, d14, d15, d16, d17, d18, d19, d20, d21, d22, d23, d24, d25⟩ := HTC.out wS hq.below; go_simp; first | done | with_reducible rfl)))
  (try simp only [Act.put, List.setIfInBounds_toArray, List.set_cons_zero, List.set_cons_succ])
  (first | (refine takeS_no 16 rfl (by kernel_rfl) (by kernel_rfl) (by kernel_rfl) (fun _ _ _ h => h) (by rfl) (by assumption) ?_) | (refine takeS_yes (v := ?_) 16 rfl (by kernel_rfl) (by kernel_rfl) (by kernel_rfl) (fun _ _ _ h => h) (by rfl) (by assumption) ?_ ?_; rotate_left; focus (intro wS hSw; have hq := H3.out.grow hSw; obtain ⟨d0, d1, d2, d3, d4, d5, d6, d7, d8, d9, d10, d11, d12, d13, d14, d15, d16, d17, d18, d19, d20, d21, d22, d23, d24, d25⟩ := HTC.out wS hq.below; go_simp; first | done | with_reducible rfl)))
  (try simp only [Act.put, List.setIfInBounds_toArray, List.set_cons_zero, List.set_cons_succ])
  (first | (refine takeS_no 18 rfl (by kernel_rfl) (by kernel_rfl) (by kernel_rfl) (fun _ _ _ h => h) (by rfl) (by assumption) ?_) | (refine takeS_yes (v := ?_) 18 rfl (by kernel_rfl) (by kernel_rfl) (by kernel_rfl) (fun _ _ _ h => h) (by rfl) (by assumption) ?_ ?_; rotate_left; focus (intro wS hSw; have hq := H3.out.grow hSw; obtain ⟨d0, d1, d2, d3, d4, d5, d6, d7, d8, d9, d10, d11, d12, d13, d14, d15, d16, d17, d18, d19, d20, d21, d22, d23, d24, d25⟩ := HTC.out wS hq.below; go_simp; first | done | with_reducible rfl)))
  (try simp only [Act.put, List.setIfInBounds_toArray, List.set_cons_zero, List.set_cons_succ])
  (first | (refine takeS_no 19 rfl (by kernel_rfl) (by kernel_rfl) (by kernel_rfl) (fun _ _ _ h => h) (by rfl) (by assumption) ?_) | (refine takeS_yes (v := ?_) 19 rfl (by kernel_rfl) (by kernel_rfl) (by kernel_rfl) (fun _ _ _ h => h) (by rfl) (by assumption) ?_ ?_; rotate_left; focus (intro wS hSw; have hq := H3.out.grow hSw; obtain ⟨d0, d1, d2, d3, d4, d5, d6, d7, d8, d9, d10, d11, d12, d13, d14, d15, d16, d17, d18, d19, d20, d21, d22, d23, d24, d25⟩ := HTC.out wS hq.below; go_simp; first | done | with_reducible rfl)))
  (try simp only [Act.put, List.setIfInBounds_toArray, List.set_cons_zero, List.set_cons_succ])
  (first | (refine takeS_no 21 rfl (by kernel_rfl) (by kernel_rfl) (by kernel_rfl) (fun _ _ _ h => h) (by rfl) (by assumption) ?_) | (refine takeS_yes (v := ?_) 21 rfl (by kernel_rfl) (by kernel_rfl) (by kernel_rfl) (fun _ _ _ h => h) (by rfl) (by assumption) ?_ ?_; rotate_left; focus (intro wS hSw; have hq := H3.out.grow hSw; obtain ⟨d0, d1, d2, d3, d4, d5, d6, d7, d8, d9, d10, d11, d12, d13, d14, d15, d16, d17, d18, d19, d20, d21, d22, d23, d24, d25⟩ := HTC.out wS hq.below; go_simp; first | done | with_reducible rfl)))
  (try simp only [Act.put, List.setIfInBounds_toArray, List.set_cons_zero, List.set_cons_succ])
  (first | (refine takeS_no 22 rfl (by kernel_rfl) (by kernel_rfl) (by kernel_rfl) (fun _ _ _ h => h) (by rfl) (by assumption) ?_) | (refine takeS_yes (v := ?_) 22 rfl (by kernel_rfl) (by kernel_rfl) (by kernel_rfl) (fun _ _ _ h => h) (by rfl) (by assumption) ?_ ?_; rotate_left; focus (intro wS hSw; have hq := H3.out.grow hSw; obtain ⟨d0, d1, d2, d3, d4, d5, d6, d7, d8, d9, d10, d11, d12, d13, d14, d15, d16, d17, d18, d19, d20, d21, d22, d23, d24, d25⟩ := HTC.out wS hq.below; go_simp; first | done | with_reducible rfl)))
  (try simp only [Act.put, List.setIfInBounds_toArray, List.set_cons_zero, List.set_cons_succ])
  refine takeS_alone 2 rfl (by kernel_rfl) (by rfl) (fun K hK => ?_)
  go_simp
  (have c0 : Below w6.heap.size w6 w6.drew := hS0; have RS0 := Lib.hid (RSS.out.below c0); refine (rNumber_any t.number L1 _ HL1.out).mono ?_; rintro e z1 ⟨r1, n1, qr1, rfl, ho, hb⟩; obtain rfl : n1 = L1.length := ho.len.symm; have RS1 := Lib.hid (RS0.out.addR ho hb (H3.out.grow c0).size); have c1 := c0.trans (hb.mono c0.size); clear ho hb)
  refine hK.out _ _ (by assumption) ?_
  clear hK K
  (try simp only [Act.put, List.setIfInBounds_toArray, List.set_cons_zero, List.set_cons_succ])
  refine takeS_alone 5 rfl (by kernel_rfl) (by rfl) (fun K hK => ?_)
  go_simp
  (refine (rText_any t.text L2 _ HL2.out (Nat.le_trans HS.out.text (by decide))).mono ?_; rintro e z2 ⟨r2, n2, qr2, rfl, ho, hb⟩; obtain rfl : n2 = L2.length := ho.len.symm; have RS2 := Lib.hid (RS1.out.addR ho hb (H3.out.grow c1).size); have c2 := c1.trans (hb.mono c1.size); clear ho hb)
  refine hK.out _ _ (by assumption) ?_
  clear hK K
  (try simp only [Act.put, List.setIfInBounds_toArray, List.set_cons_zero, List.set_cons_succ])
  refine takeS_alone 8 rfl (by kernel_rfl) (by rfl) (fun K hK => ?_)
  go_simp
  (refine (rValue_any t.value.kind t.value.num t.value.text L3 _ HL3.out (Nat.le_trans HS.out.value (by decide))).mono ?_; rintro e z3 ⟨r3, n3, qr3, rfl, ho, hb⟩; obtain rfl : n3 = L3.length := ho.len.symm; have RS3 := Lib.hid (RS2.out.addR ho hb (H3.out.grow c2).size); have c3 := c2.trans (hb.mono c2.size); clear ho hb)
  refine hK.out _ _ (by assumption) ?_
  clear hK K
  (try simp only [Act.put, List.setIfInBounds_toArray, List.set_cons_zero, List.set_cons_succ])
  refine takeS_alone 11 rfl (by kernel_rfl) (by rfl) (fun K hK => ?_)
  go_simp
  (refine (rValues_any t.vo _ t.vcap t.values L4 _ HL4.out rfl (RowsIn.mono noSub_rising (HTI.out _ (H3.out.grow c3).below).values (Nat.le_of_lt (HS2.out _ (H3.out.grow c3).below))) (fun v hv => by have := HS.out.values.2.1 v hv; omega) HLEN.out.2.1 (by have := HS.out.values.1; omega)).mono ?_; rintro e z4 ⟨r4, n4, qr4, rfl, ho, hb⟩; obtain rfl : n4 = L4.length := ho.len.symm; have RS4 := Lib.hid (RS3.out.addR ho hb (H3.out.grow c3).size); have c4 := c3.trans (hb.mono c3.size); clear ho hb)
  refine hK.out _ _ (by assumption) ?_
  clear hK K
  (try simp only [Act.put, List.setIfInBounds_toArray, List.set_cons_zero, List.set_cons_succ])
  refine takeS_alone 14 rfl (by kernel_rfl) (by rfl) (fun K hK => ?_)
  go_simp
  (refine (rFact_any t.fact.id t.fact.ty t.fact.ao _ t.fact.cap t.fact.args L5 _ HL5.out rfl (RowsIn.mono noSub_rising (HTI.out _ (H3.out.grow c4).below).fact (Nat.le_of_lt (HS2.out _ (H3.out.grow c4).below))) (fun v hv => by have := HS.out.fact.2.1 v hv; omega) HLEN.out.2.2.1 (by have := HS.out.fact.1; omega)).mono ?_; rintro e z5 ⟨r5, n5, qr5, rfl, ho, hb⟩; obtain rfl : n5 = L5.length := ho.len.symm; have RS5 := Lib.hid (RS4.out.addR ho hb (H3.out.grow c4).size); have c5 := c4.trans (hb.mono c4.size); clear ho hb)
  refine hK.out _ _ (by assumption) ?_
  clear hK K
  (try simp only [Act.put, List.setIfInBounds_toArray, List.set_cons_zero, List.set_cons_succ])
  refine takeS_alone 17 rfl (by kernel_rfl) (by rfl) (fun K hK => ?_)
  go_simp
  (refine (rCommand_any t.command.kind t.command.text t.command.ao _ t.command.cap t.command.num t.command.args L6 _ HL6.out rfl (RowsIn.mono noSub_rising (HTI.out _ (H3.out.grow c5).below).command (Nat.le_of_lt (HS2.out _ (H3.out.grow c5).below))) (fun v hv => by have := HS.out.command.2.1 v hv; omega) (Nat.le_trans HS.out.ctext (by decide)) HLEN.out.2.2.2.1 (by have := HS.out.command.1; omega)).mono ?_; rintro e z6 ⟨r6, n6, qr6, rfl, ho, hb⟩; obtain rfl : n6 = L6.length := ho.len.symm; have RS6 := Lib.hid (RS5.out.addR ho hb (H3.out.grow c5).size); have c6 := c5.trans (hb.mono c5.size); clear ho hb)
  refine hK.out _ _ (by assumption) ?_
  clear hK K
  (try simp only [Act.put, List.setIfInBounds_toArray, List.set_cons_zero, List.set_cons_succ])
  refine takeS_alone 20 rfl (by kernel_rfl) (by rfl) (fun K hK => ?_)
  go_simp
  (refine (rReply_any t.reply.err t.reply.num t.reply.fo _ t.reply.fcap t.reply.facts t.reply.so _ t.reply.scap t.reply.said L7 _ HL7.out rfl rfl (RowsIn.mono faSub_rising (HTI.out _ (H3.out.grow c6).below).reply.1 (Nat.le_of_lt (HS2.out _ (H3.out.grow c6).below))) (RowsIn.mono noSub_rising (HTI.out _ (H3.out.grow c6).below).reply.2 (Nat.le_of_lt (HS2.out _ (H3.out.grow c6).below))) (fun f hf => ⟨by have := (HS.out.facts.2 f hf).1; omega, fun v hv => by have := (HS.out.facts.2 f hf).2.1 v hv; omega⟩) (fun v hv => by have := HS.out.said.2.1 v hv; omega) HLEN.out.2.2.2.2.1 (by have := HS.out.facts.1; omega) (by have := HS.out.said.1; omega)).mono ?_; rintro e z7 ⟨r7, n7, qr7, rfl, ho, hb⟩; obtain rfl : n7 = L7.length := ho.len.symm; have RS7 := Lib.hid (RS6.out.addR ho hb (H3.out.grow c6).size); have c7 := c6.trans (hb.mono c6.size); clear ho hb)
  refine hK.out _ _ (by assumption) ?_
  clear hK K
  (try simp only [Act.put, List.setIfInBounds_toArray, List.set_cons_zero, List.set_cons_succ])
  refine takeS_alone 23 rfl (by kernel_rfl) (by rfl) (fun K hK => ?_)
  go_simp
  (refine (rEntry_any t.entry.term t.entry.kind t.entry.session t.entry.seq t.entry.ck t.entry.text t.entry.aao _ t.entry.acap t.entry.num t.entry.args t.entry.vao _ t.entry.vcap t.entry.vs L8 _ HL8.out rfl rfl (RowsIn.mono noSub_rising (HTI.out _ (H3.out.grow c7).below).entry.1 (Nat.le_of_lt (HS2.out _ (H3.out.grow c7).below))) (RowsIn.mono noSub_rising (HTI.out _ (H3.out.grow c7).below).entry.2 (Nat.le_of_lt (HS2.out _ (H3.out.grow c7).below))) (fun v hv => by have := HS.out.eargs.2.1 v hv; omega) (Nat.le_trans HS.out.etext (by decide)) HLEN.out.2.2.2.2.2 (by have := HS.out.eargs.1; omega) (by have := HS.out.voters; omega)).mono ?_; rintro e z8 ⟨r8, n8, qr8, rfl, ho, hb⟩; obtain rfl : n8 = L8.length := ho.len.symm; have RS8 := Lib.hid (RS7.out.addR ho hb (H3.out.grow c7).size); have c8 := c7.trans (hb.mono c7.size); clear ho hb)
  refine hK.out _ _ (by assumption) ?_
  clear hK K
  (try simp only [Act.put, List.setIfInBounds_toArray, List.set_cons_zero, List.set_cons_succ])
  refine takeS_alone 24 rfl (by kernel_rfl) (by rfl) (fun K hK => ?_)
  go_simp
  (have c9 := Below.alloc c8 c8.size (.cells #[.slice r1 L1.length qr1, .slice r2 L2.length qr2, .slice r3 L3.length qr3, .slice r4 L4.length qr4, .slice r5 L5.length qr5, .slice r6 L6.length qr6, .slice r7 L7.length qr7, .slice r8 L8.length qr8] 43); have k9 := heap_alloc_new z8 (.cells #[.slice r1 L1.length qr1, .slice r2 L2.length qr2, .slice r3 L3.length qr3, .slice r4 L4.length qr4, .slice r5 L5.length qr5, .slice r6 L6.length qr6, .slice r7 L7.length qr7, .slice r8 L8.length qr8] 43); have RS9 := RS8.out.below ((Below.refl z8.heap.size z8).alloc (Nat.le_refl _) (.cells #[.slice r1 L1.length qr1, .slice r2 L2.length qr2, .slice r3 L3.length qr3, .slice r4 L4.length qr4, .slice r5 L5.length qr5, .slice r6 L6.length qr6, .slice r7 L7.length qr7, .slice r8 L8.length qr8] 43)); generalize z8.alloc (.cells #[.slice r1 L1.length qr1, .slice r2 L2.length qr2, .slice r3 L3.length qr3, .slice r4 L4.length qr4, .slice r5 L5.length qr5, .slice r6 L6.length qr6, .slice r7 L7.length qr7, .slice r8 L8.length qr8] 43) = z9 at c9 k9 RS9 ⊢; have RSS := Lib.hid RS9; have KC := Lib.hid k9; clear RS9 k9 RS0 RS1 RS2 RS3 RS4 RS5 RS6 RS7 RS8)
  refine hK.out _ _ (by assumption) ?_
  clear hK K
  (try simp only [Act.put, List.setIfInBounds_toArray, List.set_cons_zero, List.set_cons_succ])
  (first | (refine takeS_no 25 rfl (by kernel_rfl) (by kernel_rfl) (by kernel_rfl) (fun _ _ _ h => h) (by rfl) (by assumption) ?_) | (refine takeS_yes (v := ?_) 25 rfl (by kernel_rfl) (by kernel_rfl) (by kernel_rfl) (fun _ _ _ h => h) (by rfl) (by assumption) ?_ ?_; rotate_left; focus (intro wS hSw; have hq := H3.out.grow hSw; obtain ⟨d0, d1, d2, d3, d4, d5, d6, d7, d8, d9, d10, d11, d12, d13, d14, d15, d16, d17, d18, d19, d20, d21, d22, d23, d24, d25⟩ := HTC.out wS hq.below; go_simp; first | done | with_reducible rfl)))
  (try simp only [Act.put, List.setIfInBounds_toArray, List.set_cons_zero, List.set_cons_succ])
  refine wpAnyH_done (by kernel_rfl) ?_ _
  have hRB := rowsB_of (A := [(.slice r1 L1.length qr1, L1), (.slice r2 L2.length qr2, L2), (.slice r3 L3.length qr3, L3), (.slice r4 L4.length qr4, L4), (.slice r5 L5.length qr5, L5), (.slice r6 L6.length qr6, L6), (.slice r7 L7.length qr7, L7), (.slice r8 L8.length qr8, L8)]) (B := z9.heap.size) KC.out RSS.out (by
    have hl := HLEN.out
    have hb := wfs_th HW.out HL1.out HL2.out HL3.out HL4.out HL5.out HL6.out HL7.out HL8.out
    obtain ⟨b1, b2, b3, b4, b5, b6, b7, b8⟩ := hb
    intro q hq
    simp only [List.mem_cons, List.not_mem_nil, or_false] at hq
    rcases hq with rfl | rfl | rfl | rfl | rfl | rfl | rfl | rfl <;> exact ⟨⟨_, _, rfl⟩, by assumption, by dsimp only; omega⟩) (Nat.le_refl _)
  have H9 := H3.out.grow c9
  clear KC RSS HLEN HL1 HL2 HL3 HL4 HL5 HL6 HL7 HL8 H3 c0 c1 c2 c3 c4 c5 c6 c7 c8 c9 hS0
  go_wp2_with fail
  have HRB := Lib.hid (show RowsB z9 z9.heap.size z8.heap.size 8 from hRB)
  have HE9 := Lib.hid (HEND.out _ H9.below)
  clear hRB H9 HTI HTC HW HS HIN HB1 HK2 HS2 HEND HA HSZ HONE HINFO HINFOL b6
  go_loopw [3, 4, 5, 6] (fun i _ _ _ wr => ∃ k : Nat, k ≤ 8 ∧ i = .int .i64 k ∧ Below z9.heap.size z9 wr) (fun i _ _ _ _ => 8 - (intOf i).toNat)
  case atStart => exact ⟨0, by omega, rfl, Below.refl _ _⟩
  case round =>
    obtain ⟨i, hi, rfl, hB⟩ := hrel
    by_cases hlt : i < 8
    · have i1 : (i : Int) < 8 := by omega
      go_wp2_with fail
      obtain ⟨wo, hwo⟩ : ∃ wo : World, wo = wr := ⟨_, rfl⟩
      clear hwo
      obtain ⟨ao, cap, xs, hc, hx, hw, hnil, hcap, hlen, hspot⟩ := HRB.out.2 i hlt
      obtain ⟨n, hn⟩ : ∃ n, xs.length = n := ⟨_, rfl⟩
      rw [hn] at hc hcap hlen
      have HX := Lib.hid hx
      have HN := Lib.hid hn
      have HW := Lib.hid hw
      have HNIL := Lib.hid hnil
      have hsl : ∀ k, k ≤ n → ∀ w, (Instr.sliceAt 43 (.slice ao n cap) none (some (.int .i64 ((k : Nat) : Int))) none).run Tryz.prog w = .ok (.slice ao k cap) w := fun k hk w => by
        rw [run_sub_h sliceByte sizeByte ao n cap k (by omega) .i64 k rfl w, subA_zero _ _ _ hspot]
      have HSL := Lib.hid hsl
      clear hx hn hw hnil hspot hsl
      go_loopw [4, 5, 6] (fun j _ _ wr => ∃ k : Nat, k ≤ n + 1 ∧ j = .int .i64 k ∧ Below z9.heap.size z9 wr) (fun j _ _ _ => n + 1 - (intOf j).toNat)
      case atStart => exact ⟨0, by omega, rfl, hB⟩
      case round =>
        clear hB
        obtain ⟨k, hk, rfl, hB⟩ := hrel
        have hcw : ∀ w, Below z9.heap.size z9 w → w.cell? ⟨z8.heap.size, i, none⟩ = some (.slice ao n cap) := fun w h => (h.cell (p := ⟨z8.heap.size, i, none⟩) HRB.out.1).trans hc
        have HCW := Lib.hid hcw
        clear hcw
        have hcell := HCW.out _ hB
        have hsB := hB.size
        by_cases hle : k ≤ n
        · have i2 : (k : Int) ≤ n := by omega
          have hs1 := HSL.out k hle
          have hcellA : ∀ o, (wr.alloc o).cell? ⟨z8.heap.size, i, none⟩ = some (.slice ao n cap) := fun o => HCW.out _ (hB.alloc hsB o)
          go_wp2_with fail
          refine (reads_lit wr z9.heap.size ao k cap (xs.take k) (by rw [List.length_take, HN.out]; omega) (HX.out.below hB (Nat.le_refl _) |>.take k) hsB (HW.out.take k) HNIL.out (by omega) (by omega) [(i : Int), 0] 2 rfl (by decide) _ rfl).mono ?_
          rintro e w1 ⟨rfl, hb1⟩
          have hB1 := hB.trans (hb1.mono hsB)
          have hsB1 := hB1.size
          have hcell1 := HCW.out _ hB1
          clear hcell hcellA hs1
          go_wp2_with fail
          refine (reads_lit w1 z9.heap.size ao n cap xs HN.out (HX.out.below hB1 (Nat.le_refl _)) hsB1 HW.out HNIL.out hcap hlen [(k : Int) % 8, (i : Int), 2] 3 rfl (by decide) _ rfl).mono ?_
          rintro e w2 ⟨rfl, hb2⟩
          have hB2 := hB1.trans (hb2.mono hsB1)
          have hsB2 := hB2.size
          have hcell2 := HCW.out _ hB2
          clear hcell1 hb1 hb2
          by_cases hlt2 : k < n
          · have i3 : (k : Int) < n := by omega
            have hx0 : xs[k]? = some (xs[k]'(by rw [HN.out]; exact hlt2)) := List.getElem?_eq_getElem _
            have hxb := HW.out _ (List.getElem_mem (l := xs) (n := k) (by rw [HN.out]; exact hlt2))
            generalize xs[k]'(by rw [HN.out]; exact hlt2) = x at hx0 hxb
            have HX0 := Lib.hid hx0
            have hx1 := u8_xor hxb
            have HX1 := Lib.hid hx1
            clear hx0 hx1
            go_wp2_with fail
            refine (copyB_any ao n cap xs w2 _ HN.out (HX.out.below hB2 (Nat.le_refl _)) hsB2 HNIL.out (by omega)).mono ?_
            rintro e w9 ⟨a9, c9, rfl, hown9, hb9⟩
            have hB9 := hB2.trans (hb9.mono hsB2)
            have hs9 := hB9.size
            obtain ⟨g9, c9', hv9⟩ := own_pos hown9 (by omega)
            cases hv9
            have hcell9 : w9.cell? ⟨g9, k, none⟩ = some (.int .u8 x) := by
              rw [World.ownsRow.cellAt hown9 k (by omega), List.getElem?_map, HX0.out]; rfl
            have hfr9 : w9.frozen? ⟨g9, k, none⟩ = false := World.ownsRow.frozenAt hown9 _
            have HO9 := Lib.hid hown9
            have hc9 := HCW.out _ hB9
            have hb10 : ∀ v, Below w2.heap.size w2 (w9.setCell ⟨g9, k, none⟩ v) := fun v => hb9.setCell (p := ⟨g9, k, none⟩) (HO9.out.lt g9 rfl).1 v
            have hc10 : ∀ v, (w9.setCell ⟨g9, k, none⟩ v).cell? ⟨z8.heap.size, i, none⟩ = some (.slice ao n cap) := fun v => HCW.out _ (hB2.trans ((hb10 v).mono hsB2))
            have HB10 := Lib.hid hb10
            clear hown9 hcell2 hb10
            go_wp2_with fail
            have hy1 : 0 ≤ (x + 1) % 256 ∧ (x + 1) % 256 < 256 := by omega
            have st9 := World.ownsRow.stored HO9.out k (.int .u8 ((x + 1) % 256))
            rw [show (.int .u8 ((x + 1) % 256) : Value) = bv ((x + 1) % 256) from rfl, ← List.map_set] at st9
            have hb10 := HB10.out (.int .u8 ((x + 1) % 256))
            have HO10 := Lib.hid st9.1
            clear st9 hcell9 hfr9 HO9 hc10 HB10
            rw [show (bv ((x + 1) % 256)) = .int .u8 ((x + 1) % 256) from rfl] at HO10
            generalize (x + 1) % 256 = y at hy1 hb10 HO10 ⊢
            generalize w9.setCell ⟨g9, k, none⟩ (.int .u8 y) = w10 at hb10 HO10 ⊢
            have hB10 := hB2.trans (hb10.mono hsB2)
            have hs10 := hb10.size
            refine (copyB_any ao n cap xs w10 _ HN.out (HX.out.below hB10 (Nat.le_refl _)) (by omega) HNIL.out (by omega)).mono ?_
            rintro e w11 ⟨a11, c11, rfl, hown11, hb11⟩
            have hs11 := hb11.size
            obtain ⟨g11, c11', hv11⟩ := own_pos hown11 (by omega)
            cases hv11
            have hcell11 : w11.cell? ⟨g11, k, none⟩ = some (.int .u8 x) := by
              rw [World.ownsRow.cellAt hown11 k (by omega), List.getElem?_map, HX0.out]; rfl
            have hfr11 : w11.frozen? ⟨g11, k, none⟩ = false := World.ownsRow.frozenAt hown11 _
            have HO11 := Lib.hid hown11
            clear hown11
            go_wp2_with fail
            have st11 := World.ownsRow.stored HO11.out k (.int .u8 (bits .xor .u8 x 128))
            rw [show (.int .u8 (bits .xor .u8 x 128) : Value) = bv (bits .xor .u8 x 128) from rfl, ← List.map_set] at st11
            have hb12 : Below w10.heap.size w10 (w11.setCell ⟨g11, k, none⟩ (.int .u8 (bits .xor .u8 x 128))) := hb11.setCell (p := ⟨g11, k, none⟩) (HO11.out.lt g11 rfl).1 _
            have HO12 := Lib.hid st11.1
            clear st11 hcell11 hfr11 HO11
            rw [show bv (bits .xor .u8 x 128) = .int .u8 (bits .xor .u8 x 128) from rfl] at HO12
            have hy2 := HX1.out
            generalize bits .xor .u8 x 128 = y2 at hy2 hb12 HO12 ⊢
            have hE : w11.heap.size = (w11.setCell ⟨g11, k, none⟩ (.int .u8 y2)).heap.size := by simp
            generalize w11.setCell ⟨g11, k, none⟩ (.int .u8 y2) = w12 at hb12 HO12 hE ⊢
            have hB12 := hB10.trans (hb12.mono (by omega))
            have hs12 := hb12.size
            have HC12 := Lib.hid (own_below HO10.out hb12 (Nat.le_refl _))
            rw [hE]
            refine (reads_lit w12 w12.heap.size (some ⟨g9, 0, none⟩) n c9 (xs.set k y) (by rw [List.length_set, HN.out]) (own_at (by rw [List.length_set, HN.out]) HC12.out) (Nat.le_refl _) (wf_set HW.out hy1) (by simp) (own_cap' HC12.out) hlen [(i : Int), 1] 2 rfl (by decide) _ rfl).mono ?_
            rintro e w13 ⟨rfl, hb13⟩
            have hs13 := hb13.size
            have HD13 := Lib.hid (own_below HO12.out hb13 (Nat.le_refl _))
            go_wp2_with fail
            refine (reads_lit w13 w13.heap.size (some ⟨g11, 0, none⟩) n c11 (xs.set k y2) (by rw [List.length_set, HN.out]) (own_at (by rw [List.length_set, HN.out]) HD13.out) (Nat.le_refl _) (wf_set HW.out hy2) (by simp) (own_cap' HD13.out) hlen [(i : Int)] 1 rfl (by decide) _ rfl).mono ?_
            rintro e w14 ⟨rfl, hb14⟩
            have hB14 := (hB12.trans (hb13.mono (by omega))).trans (hb14.mono (by omega))
            go_wp2_with fail
            go_roundw
            case rel => exact ⟨k + 1, by omega, by go_num, hB14⟩
            case measure => simp [intOf] <;> omega
          · obtain rfl : k = n := by omega
            go_wp2_with fail
            go_roundw
            case rel => exact ⟨k + 1, by omega, by go_num, hB2⟩
            case measure => simp [intOf] <;> omega
        · have i2 : ¬ (k : Int) ≤ n := by omega
          go_wp2_with fail
          go_roundw
          case rel => exact ⟨i + 1, by omega, by go_num, hB⟩
          case measure => simp [intOf] <;> omega
    · have i1 : ¬ (i : Int) < 8 := by omega
      go_wp2_with fail
      have HE10 := Lib.hid (HE9.out.trans (hB.mono HE9.out.size))
      clear HRB HE9 i1 hlt hi hB
      generalize wr = wB at HE10 ⊢
      go_loopw [7, 8, 9, 10, 11] (fun i _ _ _ _ wr => ∃ k : Nat, 65535 ≤ k ∧ k ≤ 65538 ∧ i = .int .i64 k ∧ Below wB.heap.size wB wr) (fun i _ _ _ _ _ => 65538 - (intOf i).toNat)
      case atStart => exact ⟨65535, by omega, by omega, rfl, Below.refl _ _⟩
      case round =>
        obtain ⟨n, hn0, hn1, rfl, hB⟩ := hrel
        have hsB := hB.size
        by_cases hlt : n < 65538
        · have i1 : (n : Int) < 65538 := by omega
          have hmk : ∀ w, (Instr.makeSlice 43 (.int .i64 (n : Int)) (.int .i64 (n : Int))).run Tryz.prog w = .ok (.slice (some ⟨w.heap.size, 0, none⟩) n n) (w.alloc (.cells (madeCells #[.int .u8 0] n) 5)) := fun w => run_make_row' (P := Tryz.prog) 43 5 (.int .u8 0) 1 Tryz.underlying43 infoByte rfl .i64 .i64 n (by omega) (by omega) w
          obtain ⟨s, hs⟩ : ∃ s, strN (List.replicate n 0) = s := ⟨_, rfl⟩
          have hss : s.size = n := by rw [← hs, strN_size, List.length_replicate]
          have HSS := Lib.hid hss
          have hcv := made_conv wr n s hs
          clear hss hs
          have hb0 := hB.alloc hsB (.cells (madeCells #[.int .u8 0] n) 5)
          have hz0 := hb0.size
          go_wp2_with fail
          clear hmk hcv
          generalize wr.alloc (.cells (madeCells #[.int .u8 0] n) 5) = w0 at hb0 hz0 ⊢
          refine (rText_any s _ w0 rfl (by rw [HSS.out]; omega)).mono ?_
          rintro e w1 ⟨a1, n1, c1, rfl, ho1, hb1⟩
          have hz1 := hb1.size
          have HN1 := Lib.hid (show n1 = n + 4 by rw [← ho1.len, textB_len, HSS.out]; omega)
          have HO1 := Lib.hid ho1
          clear ho1
          go_wp2_with (at_builtin; refine wpList_append_bytes_at rfl (.tmp 142) (.tmp 143) rfl w0.heap.size (.slice a1 n1 c1) (textB s) n1 HO1.out.len rfl (HO1.out.row.alloc _) (some ⟨w1.heap.size, 0, none⟩) 1 1 [7] rfl rfl (w1.heap.size + 1) (bytes_new w1 _ [7] _ _ _ _ rfl rfl (by omega)) (by simp) (by have := HN1.out; omega) (by simp; omega) ?_)
          intro v2 w2 hown hg _
          obtain ⟨L, hL⟩ : ∃ L, textB s ++ [7] = L := ⟨_, rfl⟩
          have ho2 : w2.ownsRow w0.heap.size 5 1 v2 (n1 + 1) (L.map bv) := by rw [← hL]; simpa using hown
          have hll : L.length = n1 + 1 := by rw [← hL, List.length_append, HO1.out.len]; rfl
          have hwf : BytesWf L := by rw [← hL]; exact wf_append (textB_wf _) (by intro x hx; simp at hx; omega)
          have hb2 : Below w0.heap.size w0 w2 := (hb1.alloc hz1 _).grown hg (by simp; omega) (fun b hb => (HO1.out.lt b hb).1)
          have hz2 := hb2.size
          have HT := Lib.hid (text_told s n L HSS.out (by omega) hL)
          obtain ⟨m, hm⟩ : ∃ m, n1 + 1 = m := ⟨_, rfl⟩
          rw [hm] at ho2 hll
          have hml : m ≤ 70000 := by have := HN1.out; omega
          obtain ⟨a2, c2, hv2⟩ : ∃ a2 c2, v2 = .slice a2 m c2 := by
            rcases Go.Joins.ownsRow_forms ho2 with ⟨h1, h2⟩ | ⟨g, cap', h1⟩
            · exact ⟨none, 0, by rw [h1, h2]⟩
            · exact ⟨_, _, h1⟩
          subst hv2
          have HO2 := Lib.hid (BOwn.mk hll ho2)
          have HWF := Lib.hid hwf
          clear hown hg ho2 hll hL HO1 hb1 hz1 hm HN1 hwf
          go_wp2_with fail
          refine (newReader_any a2 m c2 L w2 _ HO2.out.len HO2.out.in (Nat.le_refl _) HO2.out.nil (by omega)).mono ?_
          rintro e w3 ⟨rb, rfl, hrb, hrd, hb3⟩
          have HR3 := Lib.hid hrd
          have hz3 := hb3.size
          clear hrd
          go_wp2_with fail
          refine (text_rd rb rb false L w3 HR3.out HWF.out (by rw [HO2.out.len]; omega)).mono ?_
          have hbA := (hb0.trans (hb2.mono hz0)).trans (hb3.mono (by omega))
          clear hb0 hb2 hb3
          rcases HT.out with ⟨hcase, l, hT⟩ | ⟨hcase, l, hT⟩
          rotate_left
          focus
            rw [hT]
            rintro e w4 ⟨rfl, hr4, ho4⟩
            have HR4 := Lib.hid hr4
            have hb4 := hbA.trans (ho4.toBelow hbA.size (by omega))
            clear HR3 hr4 hT ho4
            go_wp2_with fail
            refine (bad_rd rb rb _ l w4 HR4.out).mono ?_
            rintro e w5 ⟨rfl, rfl⟩
            have hss := HSS.out
            have i4 : (65536 : Int) < n := by omega
            have d1 : ¬ (n : Int) ≤ 65536 := by omega
            have d2 : decide ((65536 : Int) < n) = true := decide_eq_true i4
            have d3 : decide ((n : Int) ≤ 65536) = false := decide_eq_false d1
            go_wp2_with fail
            clear d1 d2 d3 i4 hss HR4 hcase
          rotate_left
          focus
            rw [hT]
            rintro e w4 ⟨rfl, hr4, ho4⟩
            have HR4 := Lib.hid hr4
            have hb4 := hbA.trans (ho4.toBelow hbA.size (by omega))
            clear HR3 hr4 hT ho4
            go_wp2_with fail
            refine (bad_rd rb rb _ l w4 HR4.out).mono ?_
            rintro e w5 ⟨rfl, rfl⟩
            have hss := HSS.out
            have i4 : (n : Int) ≤ 65536 := by omega
            have d1 : ¬ (65536 : Int) < n := by omega
            have d2 : decide ((65536 : Int) < n) = false := decide_eq_false d1
            have d3 : decide ((n : Int) ≤ 65536) = true := decide_eq_true i4
            go_wp2_with fail
            clear d1 d2 d3 i4 hss HR4 hcase
          all_goals
            refine (rValues_any none 0 0 [] _ w4 rfl rfl (Or.inl rfl) (fun _ h => by cases h) (by decide) (by decide)).mono ?_
            rintro e w6 ⟨a6, n6, c6, rfl, ho6, hb6⟩
            have hn6 : n6 = 4 := by rw [← ho6.len]; rfl
            subst hn6
            obtain ⟨g6, c6', hv6⟩ := own_pos ho6.row (by omega)
            cases hv6
            have hv6 : valuesB [] = [0, 0, 0, 0] := rfl
            have HO6 := Lib.hid (show w6.ownsRow w4.heap.size 5 1 (.slice (some ⟨g6, 0, none⟩) 1 c6) 1 (([0] : List Int).map bv) by
              have := own_head ho6.row rfl (m := 1) (by omega) (by omega)
              rw [hv6] at this
              exact this)
            have hcap6 := own_cap8 ho6
            have hsl : ∀ w, (Instr.sliceAt 43 (.slice (some ⟨g6, 0, none⟩) 4 c6) none (some (.int .i64 1)) none).run Tryz.prog w = .ok (.slice (some ⟨g6, 0, none⟩) 1 c6) w := fun w => by
              rw [run_sub_h sliceByte sizeByte _ 4 c6 1 (by omega) .i64 1 rfl w, subA_zero _ _ _ (by intro a h; cases h; rfl)]
            have hz6 := hb6.size
            clear ho6 hv6
            go_wp2_with (at_builtin; refine wpList_append_bytes_at rfl (.tmp 173) (.tmp 182) rfl w4.heap.size (.slice (some ⟨g6, 0, none⟩) 1 c6) [0] 1 rfl rfl (HO6.out.alloc _) (some ⟨w6.heap.size, 0, none⟩) 3 3 [(n : Int) / 65536, (n : Int) / 256 % 256, (n : Int) % 256] rfl rfl (w6.heap.size + 1) (bytes_new w6 _ _ _ _ _ _ rfl rfl (by omega)) (by simp) (by omega) (by simp; omega) ?_)
            intro v7 w7 hown7 hg7 _
            have hnb := numB_said n hn0 hlt
            obtain ⟨M, hM⟩ : ∃ M, numB 4 n = M := ⟨_, rfl⟩
            rw [hM] at hnb
            have ho7 : w7.ownsRow w4.heap.size 5 1 v7 4 (M.map bv) := by rw [← hnb.1]; simpa using hown7
            have hML : M.length = 4 := by rw [← hM, numB_len]
            obtain ⟨g7, c7, hv7⟩ := own_pos ho7 (by omega)
            subst hv7
            have HO7 := Lib.hid (BOwn.mk hML ho7)
            have HM := Lib.hid hM
            have HMW := Lib.hid hnb.2
            have hb7 : Below w4.heap.size w4 w7 := (hb6.alloc hz6 _).grown hg7 (by simp; omega) (fun b hb => (HO6.out.lt b hb).1)
            have hz7 := hb7.size
            have hb4' := hb4.size
            clear hown7 hg7 HO6 ho7 hnb hM hML hsl hb6
            go_wp2_with fail
            refine (newReader_any (some ⟨g7, 0, none⟩) 4 c7 M w7 _ HO7.out.len HO7.out.in (Nat.le_refl _) HO7.out.nil (by omega)).mono ?_
            rintro e w8 ⟨rc, rfl, hrc, hrd, hb8⟩
            have HR8 := Lib.hid hrd
            have hz8 := hb8.size
            clear hrd
            go_wp2_with fail
            obtain ⟨l9, hv9⟩ := values_short n (by omega) (by omega)
            rw [HM.out] at hv9
            refine (values_at rc rc false M [] true l9 w8 hv9 HR8.out HMW.out (by rw [HO7.out.len]; omega)).mono ?_
            rintro e w9 ⟨a9, n9, c9, hn9, rfl, ho9, hr9, hon9⟩
            have hn9' : n9 = 0 := hn9.symm
            subst hn9'
            have HR9 := Lib.hid hr9
            have hb9 := ((hb4.trans (hb7.mono hb4')).trans (hb8.mono (by omega))).trans (hon9.toBelow (by omega) (by omega))
            clear hn9 ho9 hr9 hon9 hv9 HR8 HO7 HMW
            go_wp2_with fail
            refine (bad_rd rc rc true l9 w9 HR9.out).mono ?_
            rintro e w10 ⟨rfl, rfl⟩
            go_wp2_with fail
            go_roundw
            case rel => exact ⟨n + 1, by omega, by omega, by go_num, hb9⟩
            case measure => simp [intOf] <;> omega
        · have i1 : ¬ (n : Int) < 65538 := by omega
          go_wp2_with fail
          refine (reads_lit wr 0 none 0 0 [] rfl (Or.inl rfl) (Nat.zero_le _) (fun _ h => by cases h) (fun _ => rfl) (Nat.le_refl _) (by decide) [0, 1, 2, 3, 4, 5, 6, 7] 8 rfl (by decide) _ rfl).mono ?_
          rintro e wa ⟨rfl, hba⟩
          have hbb := hB.trans (hba.mono hsB)
          go_wp2_with fail
          refine (awake02_any wa).mono ?_
          rintro e wc ⟨rfl, hbc⟩
          have hbd := HE10.out.trans ((hbb.trans (hbc.mono hbb.size)).mono HE10.out.size)
          go_wp2_with fail
          go_ret
          exact ⟨rfl, hbd⟩
end Go.Proofs.YtiggpcmikhojmaaGreatDoor
