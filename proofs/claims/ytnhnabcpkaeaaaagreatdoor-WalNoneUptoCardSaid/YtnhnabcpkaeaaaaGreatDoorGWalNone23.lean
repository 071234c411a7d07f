/- Is a wal as the document's? Conditions: they lie so and say the same. -/
import Derived.Test.YtnhnabcpkaeaaaaGreatDoorGWalNone22
import Derived.Test.YtnhnabcpkaeaaaaGreatDoorGWalNone19
set_option linter.unusedVariables false
set_option linter.unusedSimpArgs false
namespace Go.Proofs.YtnhnabcpkaeaaaaGreatDoor
open Go.RowKit
set_option maxRecDepth 20000
set_option maxHeartbeats 4000000 in
theorem like18_any {w : World} {B wb sb db B' rb n : Nat} {s : WP} (h : WalIs w B wb sb db s) (hr : RSayIs w B' rb s) (hok : s.Ok n) (hn : n ≤ 1048576) :
    Calls Tryz.prog 12 #[.pointer (some ⟨wb, 0, none⟩), .pointer (some ⟨rb, 0, none⟩)] w fun e w' => e = .returned (.bool true) ∧ Below w.heap.size w w' := by
  have H := Lib.hid h
  have HOK := Lib.hid hok
  obtain ⟨v, es, hs, hm⟩ := hr
  have HS := Lib.hid hs
  have HM := Lib.hid hm
  obtain ⟨term, hterm⟩ : ∃ x, s.term = x := ⟨_, rfl⟩
  obtain ⟨vote, hvote⟩ : ∃ x, s.vote = x := ⟨_, rfl⟩
  obtain ⟨base, hbase⟩ : ∃ x, s.base = x := ⟨_, rfl⟩
  obtain ⟨before, hbefore⟩ : ∃ x, s.before = x := ⟨_, rfl⟩
  obtain ⟨m, hlen⟩ : ∃ m, s.L.length = m := ⟨_, rfl⟩
  have hmn : m ≤ n := by rw [← hlen]; exact hok.len
  have hblk : w.heap[rb]? = some (.cells #[.int .i64 term, .int .i64 vote, .int .i64 base, .int .i64 before, v] 63 (0, 0)) := by rw [← hterm, ← hvote, ← hbase, ← hbefore]; exact hs.blk
  obtain ⟨a, c, hv, hcap, hnil, hin⟩ := hs.ens.lie
  have hel : es.length = m := by rw [← hlen, ← hm, List.length_map]
  rw [hv, hel] at hblk
  have HBLK := Lib.hid hblk
  have HIN := Lib.hid hin
  have HEL := Lib.hid hel
  have hlt := hs.lt
  have hvo : Calls Tryz.prog 14 #[.pointer (some ⟨wb, 0, none⟩)] w fun e w' => e = .returned (.tuple #[.int .i64 term, .int .i64 vote]) ∧ Below w.heap.size w w' := by
    rw [← hterm, ← hvote]; exact wvoted_any h
  have hba : ∀ w', Below w.heap.size w w' → Calls Tryz.prog 15 #[.pointer (some ⟨wb, 0, none⟩)] w' fun e w'' => e = .returned (.tuple #[.int .i64 base, .int .i64 before]) ∧ Below w'.heap.size w' w'' := fun w' hb => by
    rw [← hbase, ← hbefore]
    exact wbased_any ⟨(hb.block wb h.lt).trans h.blk, h.say.below hb (Nat.le_refl _), h.low⟩
  have hen : ∀ w', Below w.heap.size w w' → Calls Tryz.prog 16 #[.pointer (some ⟨wb, 0, none⟩)] w' (EntsAt s.L m w') := fun w' hb =>
    wents_any ⟨(hb.block wb h.lt).trans h.blk, h.say.below hb (Nat.le_refl _), h.low⟩ hlen (by omega) hok.small
  have HVO := Lib.hid hvo
  have HBA := Lib.hid hba
  have HEN := Lib.hid hen
  clear h hok hs hm hterm hvote hbase hbefore hlen hblk hv hcap hnil hin hel hvo hba hen
  go_enter Tryz.func12, Tryz.ntmps12
  go_wp2_with fail
  refine HVO.out.mono ?_
  rintro e w1 ⟨rfl, hb1⟩
  go_wp2_with fail
  refine (HBA.out w1 hb1).mono ?_
  rintro e w2 ⟨rfl, hb2⟩
  have HB2 := Lib.hid (hb1.trans (hb2.mono hb1.size))
  have hk2 := (HB2.out.block rb hlt).trans HBLK.out
  have hrl2 : rb < w2.heap.size := Nat.lt_of_lt_of_le hlt HB2.out.size
  have HC := Lib.hid (fun (wS : World) (hb : Below w2.heap.size w2 wS) => (show wS.cell? ⟨rb, 0, none⟩ = some (.int .i64 term) ∧ wS.cell? ⟨rb, 1, none⟩ = some (.int .i64 vote) ∧ wS.cell? ⟨rb, 2, none⟩ = some (.int .i64 base) ∧ wS.cell? ⟨rb, 3, none⟩ = some (.int .i64 before) ∧ wS.cell? ⟨rb, 4, none⟩ = some (.slice a m c) from
    have hk := (hb.block rb hrl2).trans hk2
    ⟨Go.Joins.cell_of_block hk 0, Go.Joins.cell_of_block hk 1, Go.Joins.cell_of_block hk 2, Go.Joins.cell_of_block hk 3, Go.Joins.cell_of_block hk 4⟩))
  clear hb1 hb2 hk2
  go_upto_region 3 with fail
  refine heldS_begin (fun w' => Below w2.heap.size w2 w') (by kernel_rfl) ((Below.refl _ _).drew) ?_
  intro hS0
  (first | (refine takeS_no 0 rfl (by kernel_rfl) (by kernel_rfl) (by kernel_rfl) (fun _ _ _ h => h) (by rfl) (by assumption) ?_) | (refine takeS_yes (v := ?_) 0 rfl (by kernel_rfl) (by kernel_rfl) (by kernel_rfl) (fun _ _ _ h => h) (by rfl) (by assumption) ?_ ?_; rotate_left; focus (intro wS hSw; obtain ⟨q0, q1, q2, q3, q4⟩ := HC.out wS hSw; go_simp; first | done | with_reducible rfl)))
  (try simp only [Act.put, List.setIfInBounds_toArray, List.set_cons_zero, List.set_cons_succ])
  (first | (refine takeS_no 1 rfl (by kernel_rfl) (by kernel_rfl) (by kernel_rfl) (fun _ _ _ h => h) (by rfl) (by assumption) ?_) | (refine takeS_yes (v := ?_) 1 rfl (by kernel_rfl) (by kernel_rfl) (by kernel_rfl) (fun _ _ _ h => h) (by rfl) (by assumption) ?_ ?_; rotate_left; focus (intro wS hSw; obtain ⟨q0, q1, q2, q3, q4⟩ := HC.out wS hSw; go_simp; first | done | with_reducible rfl)))
  (try simp only [Act.put, List.setIfInBounds_toArray, List.set_cons_zero, List.set_cons_succ])
  (first | (refine takeS_no 2 rfl (by kernel_rfl) (by kernel_rfl) (by kernel_rfl) (fun _ _ _ h => h) (by rfl) (by assumption) ?_) | (refine takeS_yes (v := ?_) 2 rfl (by kernel_rfl) (by kernel_rfl) (by kernel_rfl) (fun _ _ _ h => h) (by rfl) (by assumption) ?_ ?_; rotate_left; focus (intro wS hSw; obtain ⟨q0, q1, q2, q3, q4⟩ := HC.out wS hSw; go_simp; first | done | with_reducible rfl)))
  (try simp only [Act.put, List.setIfInBounds_toArray, List.set_cons_zero, List.set_cons_succ])
  (first | (refine takeS_no 3 rfl (by kernel_rfl) (by kernel_rfl) (by kernel_rfl) (fun _ _ _ h => h) (by rfl) (by assumption) ?_) | (refine takeS_yes (v := ?_) 3 rfl (by kernel_rfl) (by kernel_rfl) (by kernel_rfl) (fun _ _ _ h => h) (by rfl) (by assumption) ?_ ?_; rotate_left; focus (intro wS hSw; obtain ⟨q0, q1, q2, q3, q4⟩ := HC.out wS hSw; go_simp; first | done | with_reducible rfl)))
  (try simp only [Act.put, List.setIfInBounds_toArray, List.set_cons_zero, List.set_cons_succ])
  (first | (refine takeS_no 4 rfl (by kernel_rfl) (by kernel_rfl) (by kernel_rfl) (fun _ _ _ h => h) (by rfl) (by assumption) ?_) | (refine takeS_yes (v := ?_) 4 rfl (by kernel_rfl) (by kernel_rfl) (by kernel_rfl) (fun _ _ _ h => h) (by rfl) (by assumption) ?_ ?_; rotate_left; focus (intro wS hSw; obtain ⟨q0, q1, q2, q3, q4⟩ := HC.out wS hSw; go_simp; first | done | with_reducible rfl)))
  (try simp only [Act.put, List.setIfInBounds_toArray, List.set_cons_zero, List.set_cons_succ])
  (first | (refine takeS_no 5 rfl (by kernel_rfl) (by kernel_rfl) (by kernel_rfl) (fun _ _ _ h => h) (by rfl) (by assumption) ?_) | (refine takeS_yes (v := ?_) 5 rfl (by kernel_rfl) (by kernel_rfl) (by kernel_rfl) (fun _ _ _ h => h) (by rfl) (by assumption) ?_ ?_; rotate_left; focus (intro wS hSw; obtain ⟨q0, q1, q2, q3, q4⟩ := HC.out wS hSw; go_simp; first | done | with_reducible rfl)))
  (try simp only [Act.put, List.setIfInBounds_toArray, List.set_cons_zero, List.set_cons_succ])
  (first | (refine takeS_no 6 rfl (by kernel_rfl) (by kernel_rfl) (by kernel_rfl) (fun _ _ _ h => h) (by rfl) (by assumption) ?_) | (refine takeS_yes (v := ?_) 6 rfl (by kernel_rfl) (by kernel_rfl) (by kernel_rfl) (fun _ _ _ h => h) (by rfl) (by assumption) ?_ ?_; rotate_left; focus (intro wS hSw; obtain ⟨q0, q1, q2, q3, q4⟩ := HC.out wS hSw; go_simp; first | done | with_reducible rfl)))
  (try simp only [Act.put, List.setIfInBounds_toArray, List.set_cons_zero, List.set_cons_succ])
  (first | (refine takeS_no 7 rfl (by kernel_rfl) (by kernel_rfl) (by kernel_rfl) (fun _ _ _ h => h) (by rfl) (by assumption) ?_) | (refine takeS_yes (v := ?_) 7 rfl (by kernel_rfl) (by kernel_rfl) (by kernel_rfl) (fun _ _ _ h => h) (by rfl) (by assumption) ?_ ?_; rotate_left; focus (intro wS hSw; obtain ⟨q0, q1, q2, q3, q4⟩ := HC.out wS hSw; go_simp; first | done | with_reducible rfl)))
  (try simp only [Act.put, List.setIfInBounds_toArray, List.set_cons_zero, List.set_cons_succ])
  (first | (refine takeS_no 8 rfl (by kernel_rfl) (by kernel_rfl) (by kernel_rfl) (fun _ _ _ h => h) (by rfl) (by assumption) ?_) | (refine takeS_yes (v := ?_) 8 rfl (by kernel_rfl) (by kernel_rfl) (by kernel_rfl) (fun _ _ _ h => h) (by rfl) (by assumption) ?_ ?_; rotate_left; focus (intro wS hSw; obtain ⟨q0, q1, q2, q3, q4⟩ := HC.out wS hSw; go_simp; first | done | with_reducible rfl)))
  (try simp only [Act.put, List.setIfInBounds_toArray, List.set_cons_zero, List.set_cons_succ])
  (first | (refine takeS_no 9 rfl (by kernel_rfl) (by kernel_rfl) (by kernel_rfl) (fun _ _ _ h => h) (by rfl) (by assumption) ?_) | (refine takeS_yes (v := ?_) 9 rfl (by kernel_rfl) (by kernel_rfl) (by kernel_rfl) (fun _ _ _ h => h) (by rfl) (by assumption) ?_ ?_; rotate_left; focus (intro wS hSw; obtain ⟨q0, q1, q2, q3, q4⟩ := HC.out wS hSw; go_simp; first | done | with_reducible rfl)))
  (try simp only [Act.put, List.setIfInBounds_toArray, List.set_cons_zero, List.set_cons_succ])
  (first | (refine takeS_no 10 rfl (by kernel_rfl) (by kernel_rfl) (by kernel_rfl) (fun _ _ _ h => h) (by rfl) (by assumption) ?_) | (refine takeS_yes (v := ?_) 10 rfl (by kernel_rfl) (by kernel_rfl) (by kernel_rfl) (fun _ _ _ h => h) (by rfl) (by assumption) ?_ ?_; rotate_left; focus (intro wS hSw; obtain ⟨q0, q1, q2, q3, q4⟩ := HC.out wS hSw; go_simp; first | done | with_reducible rfl)))
  (try simp only [Act.put, List.setIfInBounds_toArray, List.set_cons_zero, List.set_cons_succ])
  (first | (refine takeS_no 11 rfl (by kernel_rfl) (by kernel_rfl) (by kernel_rfl) (fun _ _ _ h => h) (by rfl) (by assumption) ?_) | (refine takeS_yes (v := ?_) 11 rfl (by kernel_rfl) (by kernel_rfl) (by kernel_rfl) (fun _ _ _ h => h) (by rfl) (by assumption) ?_ ?_; rotate_left; focus (intro wS hSw; obtain ⟨q0, q1, q2, q3, q4⟩ := HC.out wS hSw; go_simp; first | done | with_reducible rfl)))
  (try simp only [Act.put, List.setIfInBounds_toArray, List.set_cons_zero, List.set_cons_succ])
  (first | (refine takeS_no 12 rfl (by kernel_rfl) (by kernel_rfl) (by kernel_rfl) (fun _ _ _ h => h) (by rfl) (by assumption) ?_) | (refine takeS_yes (v := ?_) 12 rfl (by kernel_rfl) (by kernel_rfl) (by kernel_rfl) (fun _ _ _ h => h) (by rfl) (by assumption) ?_ ?_; rotate_left; focus (intro wS hSw; obtain ⟨q0, q1, q2, q3, q4⟩ := HC.out wS hSw; go_simp; first | done | with_reducible rfl)))
  (try simp only [Act.put, List.setIfInBounds_toArray, List.set_cons_zero, List.set_cons_succ])
  (first | (refine takeS_no 13 rfl (by kernel_rfl) (by kernel_rfl) (by kernel_rfl) (fun _ _ _ h => h) (by rfl) (by assumption) ?_) | (refine takeS_yes (v := ?_) 13 rfl (by kernel_rfl) (by kernel_rfl) (by kernel_rfl) (fun _ _ _ h => h) (by rfl) (by assumption) ?_ ?_; rotate_left; focus (intro wS hSw; obtain ⟨q0, q1, q2, q3, q4⟩ := HC.out wS hSw; go_simp; first | done | with_reducible rfl)))
  (try simp only [Act.put, List.setIfInBounds_toArray, List.set_cons_zero, List.set_cons_succ])
  (first | (refine takeS_no 14 rfl (by kernel_rfl) (by kernel_rfl) (by kernel_rfl) (fun _ _ _ h => h) (by rfl) (by assumption) ?_) | (refine takeS_yes (v := ?_) 14 rfl (by kernel_rfl) (by kernel_rfl) (by kernel_rfl) (fun _ _ _ h => h) (by rfl) (by assumption) ?_ ?_; rotate_left; focus (intro wS hSw; obtain ⟨q0, q1, q2, q3, q4⟩ := HC.out wS hSw; go_simp; first | done | with_reducible rfl)))
  (try simp only [Act.put, List.setIfInBounds_toArray, List.set_cons_zero, List.set_cons_succ])
  (first | (refine takeS_no 15 rfl (by kernel_rfl) (by kernel_rfl) (by kernel_rfl) (fun _ _ _ h => h) (by rfl) (by assumption) ?_) | (refine takeS_yes (v := ?_) 15 rfl (by kernel_rfl) (by kernel_rfl) (by kernel_rfl) (fun _ _ _ h => h) (by rfl) (by assumption) ?_ ?_; rotate_left; focus (intro wS hSw; obtain ⟨q0, q1, q2, q3, q4⟩ := HC.out wS hSw; go_simp; first | done | with_reducible rfl)))
  (try simp only [Act.put, List.setIfInBounds_toArray, List.set_cons_zero, List.set_cons_succ])
  (first | (refine takeS_no 16 rfl (by kernel_rfl) (by kernel_rfl) (by kernel_rfl) (fun _ _ _ h => h) (by rfl) (by assumption) ?_) | (refine takeS_yes (v := ?_) 16 rfl (by kernel_rfl) (by kernel_rfl) (by kernel_rfl) (fun _ _ _ h => h) (by rfl) (by assumption) ?_ ?_; rotate_left; focus (intro wS hSw; obtain ⟨q0, q1, q2, q3, q4⟩ := HC.out wS hSw; go_simp; first | done | with_reducible rfl)))
  (try simp only [Act.put, List.setIfInBounds_toArray, List.set_cons_zero, List.set_cons_succ])
  (first | (refine takeS_no 17 rfl (by kernel_rfl) (by kernel_rfl) (by kernel_rfl) (fun _ _ _ h => h) (by rfl) (by assumption) ?_) | (refine takeS_yes (v := ?_) 17 rfl (by kernel_rfl) (by kernel_rfl) (by kernel_rfl) (fun _ _ _ h => h) (by rfl) (by assumption) ?_ ?_; rotate_left; focus (intro wS hSw; obtain ⟨q0, q1, q2, q3, q4⟩ := HC.out wS hSw; go_simp; first | done | with_reducible rfl)))
  (try simp only [Act.put, List.setIfInBounds_toArray, List.set_cons_zero, List.set_cons_succ])
  (first | (refine takeS_no 18 rfl (by kernel_rfl) (by kernel_rfl) (by kernel_rfl) (fun _ _ _ h => h) (by rfl) (by assumption) ?_) | (refine takeS_yes (v := ?_) 18 rfl (by kernel_rfl) (by kernel_rfl) (by kernel_rfl) (fun _ _ _ h => h) (by rfl) (by assumption) ?_ ?_; rotate_left; focus (intro wS hSw; obtain ⟨q0, q1, q2, q3, q4⟩ := HC.out wS hSw; go_simp; first | done | with_reducible rfl)))
  (try simp only [Act.put, List.setIfInBounds_toArray, List.set_cons_zero, List.set_cons_succ])
  (first | (refine takeS_no 19 rfl (by kernel_rfl) (by kernel_rfl) (by kernel_rfl) (fun _ _ _ h => h) (by rfl) (by assumption) ?_) | (refine takeS_yes (v := ?_) 19 rfl (by kernel_rfl) (by kernel_rfl) (by kernel_rfl) (fun _ _ _ h => h) (by rfl) (by assumption) ?_ ?_; rotate_left; focus (intro wS hSw; obtain ⟨q0, q1, q2, q3, q4⟩ := HC.out wS hSw; go_simp; first | done | with_reducible rfl)))
  (try simp only [Act.put, List.setIfInBounds_toArray, List.set_cons_zero, List.set_cons_succ])
  (first | (refine takeS_no 20 rfl (by kernel_rfl) (by kernel_rfl) (by kernel_rfl) (fun _ _ _ h => h) (by rfl) (by assumption) ?_) | (refine takeS_yes (v := ?_) 20 rfl (by kernel_rfl) (by kernel_rfl) (by kernel_rfl) (fun _ _ _ h => h) (by rfl) (by assumption) ?_ ?_; rotate_left; focus (intro wS hSw; obtain ⟨q0, q1, q2, q3, q4⟩ := HC.out wS hSw; go_simp; first | done | with_reducible rfl)))
  (try simp only [Act.put, List.setIfInBounds_toArray, List.set_cons_zero, List.set_cons_succ])
  (first | (refine takeS_no 21 rfl (by kernel_rfl) (by kernel_rfl) (by kernel_rfl) (fun _ _ _ h => h) (by rfl) (by assumption) ?_) | (refine takeS_yes (v := ?_) 21 rfl (by kernel_rfl) (by kernel_rfl) (by kernel_rfl) (fun _ _ _ h => h) (by rfl) (by assumption) ?_ ?_; rotate_left; focus (intro wS hSw; obtain ⟨q0, q1, q2, q3, q4⟩ := HC.out wS hSw; go_simp; first | done | with_reducible rfl)))
  (try simp only [Act.put, List.setIfInBounds_toArray, List.set_cons_zero, List.set_cons_succ])
  (first | (refine takeS_no 22 rfl (by kernel_rfl) (by kernel_rfl) (by kernel_rfl) (fun _ _ _ h => h) (by rfl) (by assumption) ?_) | (refine takeS_yes (v := ?_) 22 rfl (by kernel_rfl) (by kernel_rfl) (by kernel_rfl) (fun _ _ _ h => h) (by rfl) (by assumption) ?_ ?_; rotate_left; focus (intro wS hSw; obtain ⟨q0, q1, q2, q3, q4⟩ := HC.out wS hSw; go_simp; first | done | with_reducible rfl)))
  (try simp only [Act.put, List.setIfInBounds_toArray, List.set_cons_zero, List.set_cons_succ])
  (first | (refine takeS_no 23 rfl (by kernel_rfl) (by kernel_rfl) (by kernel_rfl) (fun _ _ _ h => h) (by rfl) (by assumption) ?_) | (refine takeS_yes (v := ?_) 23 rfl (by kernel_rfl) (by kernel_rfl) (by kernel_rfl) (fun _ _ _ h => h) (by rfl) (by assumption) ?_ ?_; rotate_left; focus (intro wS hSw; obtain ⟨q0, q1, q2, q3, q4⟩ := HC.out wS hSw; go_simp; first | done | with_reducible rfl)))
  (try simp only [Act.put, List.setIfInBounds_toArray, List.set_cons_zero, List.set_cons_succ])
  (first | (refine takeS_no 24 rfl (by kernel_rfl) (by kernel_rfl) (by kernel_rfl) (fun _ _ _ h => h) (by rfl) (by assumption) ?_) | (refine takeS_yes (v := ?_) 24 rfl (by kernel_rfl) (by kernel_rfl) (by kernel_rfl) (fun _ _ _ h => h) (by rfl) (by assumption) ?_ ?_; rotate_left; focus (intro wS hSw; obtain ⟨q0, q1, q2, q3, q4⟩ := HC.out wS hSw; go_simp; first | done | with_reducible rfl)))
  (try simp only [Act.put, List.setIfInBounds_toArray, List.set_cons_zero, List.set_cons_succ])
  (first | (refine takeS_no 25 rfl (by kernel_rfl) (by kernel_rfl) (by kernel_rfl) (fun _ _ _ h => h) (by rfl) (by assumption) ?_) | (refine takeS_yes (v := ?_) 25 rfl (by kernel_rfl) (by kernel_rfl) (by kernel_rfl) (fun _ _ _ h => h) (by rfl) (by assumption) ?_ ?_; rotate_left; focus (intro wS hSw; obtain ⟨q0, q1, q2, q3, q4⟩ := HC.out wS hSw; go_simp; first | done | with_reducible rfl)))
  (try simp only [Act.put, List.setIfInBounds_toArray, List.set_cons_zero, List.set_cons_succ])
  (first | (refine takeS_no 26 rfl (by kernel_rfl) (by kernel_rfl) (by kernel_rfl) (fun _ _ _ h => h) (by rfl) (by assumption) ?_) | (refine takeS_yes (v := ?_) 26 rfl (by kernel_rfl) (by kernel_rfl) (by kernel_rfl) (fun _ _ _ h => h) (by rfl) (by assumption) ?_ ?_; rotate_left; focus (intro wS hSw; obtain ⟨q0, q1, q2, q3, q4⟩ := HC.out wS hSw; go_simp; first | done | with_reducible rfl)))
  (try simp only [Act.put, List.setIfInBounds_toArray, List.set_cons_zero, List.set_cons_succ])
  (first | (refine takeS_no 27 rfl (by kernel_rfl) (by kernel_rfl) (by kernel_rfl) (fun _ _ _ h => h) (by rfl) (by assumption) ?_) | (refine takeS_yes (v := ?_) 27 rfl (by kernel_rfl) (by kernel_rfl) (by kernel_rfl) (fun _ _ _ h => h) (by rfl) (by assumption) ?_ ?_; rotate_left; focus (intro wS hSw; obtain ⟨q0, q1, q2, q3, q4⟩ := HC.out wS hSw; go_simp; first | done | with_reducible rfl)))
  (try simp only [Act.put, List.setIfInBounds_toArray, List.set_cons_zero, List.set_cons_succ])
  (first | (refine takeS_no 28 rfl (by kernel_rfl) (by kernel_rfl) (by kernel_rfl) (fun _ _ _ h => h) (by rfl) (by assumption) ?_) | (refine takeS_yes (v := ?_) 28 rfl (by kernel_rfl) (by kernel_rfl) (by kernel_rfl) (fun _ _ _ h => h) (by rfl) (by assumption) ?_ ?_; rotate_left; focus (intro wS hSw; obtain ⟨q0, q1, q2, q3, q4⟩ := HC.out wS hSw; go_simp; first | done | with_reducible rfl)))
  (try simp only [Act.put, List.setIfInBounds_toArray, List.set_cons_zero, List.set_cons_succ])
  (first | (refine takeS_no 29 rfl (by kernel_rfl) (by kernel_rfl) (by kernel_rfl) (fun _ _ _ h => h) (by rfl) (by assumption) ?_) | (refine takeS_yes (v := ?_) 29 rfl (by kernel_rfl) (by kernel_rfl) (by kernel_rfl) (fun _ _ _ h => h) (by rfl) (by assumption) ?_ ?_; rotate_left; focus (intro wS hSw; obtain ⟨q0, q1, q2, q3, q4⟩ := HC.out wS hSw; go_simp; first | done | with_reducible rfl)))
  (try simp only [Act.put, List.setIfInBounds_toArray, List.set_cons_zero, List.set_cons_succ])
  (first | (refine takeS_no 30 rfl (by kernel_rfl) (by kernel_rfl) (by kernel_rfl) (fun _ _ _ h => h) (by rfl) (by assumption) ?_) | (refine takeS_yes (v := ?_) 30 rfl (by kernel_rfl) (by kernel_rfl) (by kernel_rfl) (fun _ _ _ h => h) (by rfl) (by assumption) ?_ ?_; rotate_left; focus (intro wS hSw; obtain ⟨q0, q1, q2, q3, q4⟩ := HC.out wS hSw; go_simp; first | done | with_reducible rfl)))
  (try simp only [Act.put, List.setIfInBounds_toArray, List.set_cons_zero, List.set_cons_succ])
  (first | (refine takeS_no 31 rfl (by kernel_rfl) (by kernel_rfl) (by kernel_rfl) (fun _ _ _ h => h) (by rfl) (by assumption) ?_) | (refine takeS_yes (v := ?_) 31 rfl (by kernel_rfl) (by kernel_rfl) (by kernel_rfl) (fun _ _ _ h => h) (by rfl) (by assumption) ?_ ?_; rotate_left; focus (intro wS hSw; obtain ⟨q0, q1, q2, q3, q4⟩ := HC.out wS hSw; go_simp; first | done | with_reducible rfl)))
  (try simp only [Act.put, List.setIfInBounds_toArray, List.set_cons_zero, List.set_cons_succ])
  (first | (refine takeS_no 33 rfl (by kernel_rfl) (by kernel_rfl) (by kernel_rfl) (fun _ _ _ h => h) (by rfl) (by assumption) ?_) | (refine takeS_yes (v := ?_) 33 rfl (by kernel_rfl) (by kernel_rfl) (by kernel_rfl) (fun _ _ _ h => h) (by rfl) (by assumption) ?_ ?_; rotate_left; focus (intro wS hSw; obtain ⟨q0, q1, q2, q3, q4⟩ := HC.out wS hSw; go_simp; first | done | with_reducible rfl)))
  (try simp only [Act.put, List.setIfInBounds_toArray, List.set_cons_zero, List.set_cons_succ])
  (first | (refine takeS_no 34 rfl (by kernel_rfl) (by kernel_rfl) (by kernel_rfl) (fun _ _ _ h => h) (by rfl) (by assumption) ?_) | (refine takeS_yes (v := ?_) 34 rfl (by kernel_rfl) (by kernel_rfl) (by kernel_rfl) (fun _ _ _ h => h) (by rfl) (by assumption) ?_ ?_; rotate_left; focus (intro wS hSw; obtain ⟨q0, q1, q2, q3, q4⟩ := HC.out wS hSw; go_simp; first | done | with_reducible rfl)))
  (try simp only [Act.put, List.setIfInBounds_toArray, List.set_cons_zero, List.set_cons_succ])
  (first | (refine takeS_no 35 rfl (by kernel_rfl) (by kernel_rfl) (by kernel_rfl) (fun _ _ _ h => h) (by rfl) (by assumption) ?_) | (refine takeS_yes (v := ?_) 35 rfl (by kernel_rfl) (by kernel_rfl) (by kernel_rfl) (fun _ _ _ h => h) (by rfl) (by assumption) ?_ ?_; rotate_left; focus (intro wS hSw; obtain ⟨q0, q1, q2, q3, q4⟩ := HC.out wS hSw; go_simp; first | done | with_reducible rfl)))
  (try simp only [Act.put, List.setIfInBounds_toArray, List.set_cons_zero, List.set_cons_succ])
  (first | (refine takeS_no 36 rfl (by kernel_rfl) (by kernel_rfl) (by kernel_rfl) (fun _ _ _ h => h) (by rfl) (by assumption) ?_) | (refine takeS_yes (v := ?_) 36 rfl (by kernel_rfl) (by kernel_rfl) (by kernel_rfl) (fun _ _ _ h => h) (by rfl) (by assumption) ?_ ?_; rotate_left; focus (intro wS hSw; obtain ⟨q0, q1, q2, q3, q4⟩ := HC.out wS hSw; go_simp; first | done | with_reducible rfl)))
  (try simp only [Act.put, List.setIfInBounds_toArray, List.set_cons_zero, List.set_cons_succ])
  refine takeS_alone 32 rfl (by kernel_rfl) (by rfl) (fun K hK => ?_)
  go_simp
  (refine (HEN.out w2.drew (HB2.out.drew)).mono ?_; rintro e w4 ⟨a4, c4, es4, rfl, ho4, hm4, hb4⟩; have hS4 : Below w2.heap.size w2 w4 := (Below.refl _ _).drew.trans hb4; have HO4 := Lib.hid (And.intro ho4 (And.intro hm4 hb4)); clear ho4 hm4 hb4)
  refine hK.out _ _ (by assumption) ?_
  clear hK K
  (try simp only [Act.put, List.setIfInBounds_toArray, List.set_cons_zero, List.set_cons_succ])
  refine takeS_alone 37 rfl (by kernel_rfl) (by rfl) (fun K hK => ?_)
  go_simp
  (obtain ⟨a5, c5, hv5, hcap5, hnil5, hin5⟩ := HO4.out.1.lie; have hl4 : es4.length = m := by { have h1 := congrArg List.length HO4.out.2.1; rw [List.length_map, ← HM.out, List.length_map, HEL.out] at h1; exact h1 }; injection hv5 with hv5 hv6 hv7; subst hv5; refine (sameEs_any a4 m c4 a m c es4 es w4 w4.heap.size hl4 HEL.out (HO4.out.2.1.trans HM.out.symm) hin5 ((HIN.out.below enSub_kept (HB2.out.trans (hS4.mono HB2.out.size)) (Nat.le_refl _)).mono enSub_rising (Nat.le_trans HB2.out.size hS4.size)) (Nat.le_refl _) (by omega) (fun x hx => by { have h1 : x.plain ∈ s.L := (by { rw [← HO4.out.2.1]; exact List.mem_map.2 ⟨x, hx, rfl⟩ }); exact HOK.out.small _ h1 })).mono ?_; rintro e w5 ⟨rfl, hb5⟩; have hS5 : Below w2.heap.size w2 w5 := hS4.trans (hb5.mono hS4.size); clear hb5 hin5 hv6 hv7 hl4 hcap5 hnil5)
  refine hK.out _ _ (by assumption) ?_
  clear hK K
  (try simp only [Act.put, List.setIfInBounds_toArray, List.set_cons_zero, List.set_cons_succ])
  (first | (refine takeS_no 38 rfl (by kernel_rfl) (by kernel_rfl) (by kernel_rfl) (fun _ _ _ h => h) (by rfl) (by assumption) ?_) | (refine takeS_yes (v := ?_) 38 rfl (by kernel_rfl) (by kernel_rfl) (by kernel_rfl) (fun _ _ _ h => h) (by rfl) (by assumption) ?_ ?_; rotate_left; focus (intro wS hSw; obtain ⟨q0, q1, q2, q3, q4⟩ := HC.out wS hSw; go_simp; first | done | with_reducible rfl)))
  (try simp only [Act.put, List.setIfInBounds_toArray, List.set_cons_zero, List.set_cons_succ])
  (first | (refine takeS_no 39 rfl (by kernel_rfl) (by kernel_rfl) (by kernel_rfl) (fun _ _ _ h => h) (by rfl) (by assumption) ?_) | (refine takeS_yes (v := ?_) 39 rfl (by kernel_rfl) (by kernel_rfl) (by kernel_rfl) (fun _ _ _ h => h) (by rfl) (by assumption) ?_ ?_; rotate_left; focus (intro wS hSw; obtain ⟨q0, q1, q2, q3, q4⟩ := HC.out wS hSw; go_simp; first | done | with_reducible rfl)))
  (try simp only [Act.put, List.setIfInBounds_toArray, List.set_cons_zero, List.set_cons_succ])
  refine wpAnyH_done (by kernel_rfl) ?_ _
  (try simp only [Exit.then])
  (try (rename (∀ (_ : Act) (_ : World), _ → _) => hK0; refine hK0 _ _ ?_; clear hK0))
  have HS5 := Lib.hid hS5
  clear hS5 hS4 hS0
  go_wp2_with fail
  go_ret
  exact ⟨rfl, HB2.out.trans (HS5.out.mono HB2.out.size)⟩
end Go.Proofs.YtnhnabcpkaeaaaaGreatDoor
