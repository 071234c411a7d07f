/- The law WalNone, walked. Conditions: the deed lies as it reads, all of it is small. -/
import Derived.Test.YtnhnabcpkaeaaaaGreatDoorGWalNone22
import Derived.Test.YtnhnabcpkaeaaaaGreatDoorGWalNone23
set_option linter.unusedVariables false
set_option linter.unusedSimpArgs false
namespace Go.Proofs.YtnhnabcpkaeaaaaGreatDoor
open Go.RowKit
set_option maxRecDepth 20000
theorem full_put (l : List (Int × List Int)) (h0 : putEP l = 0) (h1 : 0 < (putP l).length) (h2 : (putP l).length ≤ 4194304) : putWP 0 WP.zero [] l = (WP.zero, [], 5) := by
  have hd := full_append walS.data.toList wal_named.good (putP l) h1 h2
  unfold putWP
  rw [if_neg (by rw [h0]; simp), hd, if_pos (by simp)]
theorem full_vote : putWP 0 WP.zero [] [(1, pairD 1 1)] = (WP.zero, [], 5) := by
  have hl : (putP [(1, pairD 1 1)]).length = 25 := by rw [putP_cons, List.length_append, frameB_len, pairD_len]; rfl
  exact full_put _ (by unfold putEP putEP; dsimp only; rw [if_neg (by decide), if_neg (by rw [pairD_len]; omega)]) (by rw [hl]; omega) (by rw [hl]; omega)
theorem full_cmd : putWP 0 WP.zero [] (cmdPs 1 [1]) = (WP.zero, [], 5) := by
  have hl := cmdPs_bytes 1 [1]
  exact full_put _ (putEP_cmd _ _) (by rw [hl]; simp) (by rw [hl]; simp)
theorem sync_none : (dSync [] walS.data.toList).1 = [] := rfl
set_option maxHeartbeats 8000000 in
theorem walk_none18 (W : World) (d : De) (hx : deSub W W.heap.size d) (hq : DeWf d) :
    Calls Tryz.prog 4 #[.agg #[.int .i64 d.kind, .int .i64 d.index, .int .i64 d.term, .bool d.same, .slice d.eo d.ents.length d.ec]] W fun e w' => e = .returned (.bool true) ∧ Below W.heap.size W w' := by
  have hb0 := (Below.refl W.heap.size W).alloc (Nat.le_refl _) (.cells #[.int .i64 d.kind, .int .i64 d.index, .int .i64 d.term, .bool d.same, .slice d.eo d.ents.length d.ec] 40)
  have hk0 := heap_alloc_new W (.cells #[.int .i64 d.kind, .int .i64 d.index, .int .i64 d.term, .bool d.same, .slice d.eo d.ents.length d.ec] 40)
  have HX := Lib.hid (show EnsIn W W.heap.size d.eo d.ents from hx)
  have HQ := Lib.hid hq
  clear hx hq
  go_enter Tryz.func4, Tryz.ntmps4
  go_upto_region 1 with fail
  generalize W.alloc (.cells #[.int .i64 d.kind, .int .i64 d.index, .int .i64 d.term, .bool d.same, .slice d.eo d.ents.length d.ec] 40) = w0 at hb0 hk0 ⊢
  go_wp2_with fail
  refine (awake18_any w0).mono ?_
  rintro e w1 ⟨rfl, hb1⟩
  have hk1 := (hb1.block _ (Array.getElem?_eq_some_iff.1 hk0).1).trans hk0
  have HB1 := Lib.hid (hb0.trans (hb1.mono hb0.size))
  have hz1 : W.heap.size < w1.heap.size := (Array.getElem?_eq_some_iff.1 hk1).1
  have d0 := Go.Joins.cell_of_block hk1 0
  have d1 := Go.Joins.cell_of_block hk1 1
  have d2 := Go.Joins.cell_of_block hk1 2
  have d3 := Go.Joins.cell_of_block hk1 3
  have d4 := Go.Joins.cell_of_block hk1 4
  have hb2 := (Below.refl w1.heap.size w1).alloc (Nat.le_refl _) (.cells #[.int .i64 d.kind, .int .i64 d.index, .int .i64 d.term, .bool d.same, .slice d.eo d.ents.length d.ec] 40)
  have hk2 := heap_alloc_new w1 (.cells #[.int .i64 d.kind, .int .i64 d.index, .int .i64 d.term, .bool d.same, .slice d.eo d.ents.length d.ec] 40)
  clear hb0 hb1 hk0
  go_wp2_with fail
  generalize w1.alloc (.cells #[.int .i64 d.kind, .int .i64 d.index, .int .i64 d.term, .bool d.same, .slice d.eo d.ents.length d.ec] 40) = w2 at hb2 hk2 ⊢
  have HB2 := Lib.hid (HB1.out.trans (hb2.mono (Nat.le_of_lt hz1)))
  refine (light18_any w1.heap.size d w2 hk2 ((HX.out.below enSub_kept HB2.out (Nat.le_refl _)).mono enSub_rising HB2.out.size) HQ.out).mono ?_
  rintro e w3 ⟨⟨lt, rfl⟩, hb3⟩
  have HB3 := Lib.hid (HB2.out.trans (hb3.mono HB2.out.size))
  have hk3 := (hb3.block _ (Nat.lt_of_lt_of_le hz1 hb2.size)).trans ((hb2.block _ hz1).trans hk1)
  clear hb2 hk2 hb3 d0 d1 d2 d3 d4 hk1
  cases lt with
  | false =>
    go_wp2_with fail
    go_ret
    exact ⟨rfl, HB3.out⟩
  | true =>
  have hb4 := (Below.refl w3.heap.size w3).alloc (Nat.le_refl _) (.cells #[.pointer none, .pointer none] 45)
  have hk4 := heap_alloc_new w3 (.cells #[.pointer none, .pointer none] 45)
  have hz4 : (w3.alloc (.cells #[.pointer none, .pointer none] 45)).heap.size = w3.heap.size + 1 := by simp
  have hb5 := (Below.refl (w3.alloc (.cells #[.pointer none, .pointer none] 45)).heap.size (w3.alloc (.cells #[.pointer none, .pointer none] 45))).alloc (Nat.le_refl _) (.cells #[.pointer none, .pointer (some ⟨w3.heap.size, 0, none⟩)] 28)
  have hk5 := heap_alloc_new (w3.alloc (.cells #[.pointer none, .pointer none] 45)) (.cells #[.pointer none, .pointer (some ⟨w3.heap.size, 0, none⟩)] 28)
  go_upto_region 6 with fail
  generalize w3.alloc (.cells #[.pointer none, .pointer none] 45) = w4 at hb4 hk4 hz4 hb5 hk5 ⊢
  generalize w4.alloc (.cells #[.pointer none, .pointer (some ⟨w3.heap.size, 0, none⟩)] 28) = w5 at hb5 hk5 ⊢
  rw [hz4] at hk5
  have hz34 : w3.heap.size < w4.heap.size := by omega
  have hkw := (hb5.block w3.heap.size hz34).trans hk4
  have hk5b := (hb5.block _ (by have := HB3.out.size; have := (Array.getElem?_eq_some_iff.1 hk3).1; omega)).trans ((hb4.block _ (Array.getElem?_eq_some_iff.1 hk3).1).trans hk3)
  have HB5 := Lib.hid (HB3.out.trans ((hb4.mono HB3.out.size).trans (hb5.mono (Nat.le_trans HB3.out.size hb4.size))))
  have HGO := Lib.hid (show ∀ k : Nat, k < 2 → ∃ p, w5.cell? ⟨w3.heap.size + 1, k, none⟩ = some (.pointer p) ∧ WGone w5 (.pointer p) from fun k hk => by
    match k, hk with
    | 0, _ => exact ⟨none, Go.Joins.cell_of_block hk5 0, Or.inl rfl⟩
    | 1, _ => exact ⟨_, Go.Joins.cell_of_block hk5 1, Or.inr ⟨w3.heap.size, rfl, (Array.getElem?_eq_some_iff.1 hkw).1, Go.Joins.cell_of_block hkw 0⟩⟩)
  have HKB := Lib.hid hk5b
  have hl5 : w3.heap.size + 1 < w5.heap.size := (Array.getElem?_eq_some_iff.1 hk5).1
  have hl6 : W.heap.size < w5.heap.size := (Array.getElem?_eq_some_iff.1 hk5b).1
  generalize w3.heap.size + 1 = lb at HGO hl5 ⊢
  clear hb4 hk4 hz4 hb5 hk5 hz34 hkw hk5b hk3
  obtain ⟨n, hn⟩ : ∃ n, d.ents.length = n := ⟨_, rfl⟩
  rw [hn]
  go_wp2_with fail
  go_loopw [4, 5, 6, 7, 8] (fun i _ _ _ _ wr => ∃ k : Nat, k ≤ 2 ∧ i = .int .i64 k ∧ Below w5.heap.size w5 wr) (fun i _ _ _ _ _ => 2 - (intOf i).toNat)
  case atStart => exact ⟨0, by omega, rfl, Below.refl _ _⟩
  case round =>
    obtain ⟨k, hk, rfl, hbel⟩ := hrel
    have HBEL := Lib.hid hbel
    clear hbel
    by_cases hlt : k < 2
    · obtain ⟨p, hp, hgone⟩ := HGO.out k hlt
      have hcell : ∀ w', Below w5.heap.size w5 w' → w'.cell? ⟨lb, k, none⟩ = some (.pointer p) := fun w' hb => (hb.cell (p := ⟨lb, k, none⟩) hl5).trans hp
      have HCE := Lib.hid hcell
      have HGN := Lib.hid (fun (w' : World) (hb : Below w5.heap.size w5 w') => hgone.below hb)
      have i1 : (k : Int) < 2 := by omega
      have c0 := hcell wr HBEL.out
      clear hp hgone hcell
      go_wp2_with fail
      refine (voted_gone (.pointer p) wr (HGN.out wr HBEL.out)).mono ?_
      rintro e w6 ⟨rfl, hb6⟩
      have HB6 := Lib.hid (HBEL.out.trans (hb6.mono HBEL.out.size))
      have c1 := HCE.out w6 HB6.out
      clear c0 hb6
      go_wp2_with fail
      refine (base_gone (.pointer p) w6 (HGN.out w6 HB6.out)).mono ?_
      rintro e w7 ⟨rfl, hb7⟩
      have HB7 := Lib.hid (HB6.out.trans (hb7.mono HB6.out.size))
      clear c1 hb7
      go_upto_region 11 with fail
      have hS7 : Below w5.heap.size w5 w7.drew := HB7.out.drew
      have HC := Lib.hid (fun (wS : World) (hb : Below w5.heap.size w5 wS) => And.intro (HCE.out wS hb) (show wS.cell? ⟨W.heap.size, 1, none⟩ = some (.int .i64 d.index) ∧ wS.cell? ⟨W.heap.size, 2, none⟩ = some (.int .i64 d.term) ∧ wS.cell? ⟨W.heap.size, 4, none⟩ = some (.slice d.eo n d.ec) from
        have hk := (hb.block _ hl6).trans HKB.out
        ⟨Go.Joins.cell_of_block hk 1, Go.Joins.cell_of_block hk 2, by rw [← hn]; exact Go.Joins.cell_of_block hk 4⟩))
      refine heldS_begin (fun w' => Below w5.heap.size w5 w') (by kernel_rfl) (hS7) ?_
      intro hS0
      (first | (refine takeS_no 0 rfl (by kernel_rfl) (by kernel_rfl) (by kernel_rfl) (fun _ _ _ h => h) (by rfl) (by assumption) ?_) | (refine takeS_yes (v := ?_) 0 rfl (by kernel_rfl) (by kernel_rfl) (by kernel_rfl) (fun _ _ _ h => h) (by rfl) (by assumption) ?_ ?_; rotate_left; focus (intro wS hSw; obtain ⟨q0, q1, q2, q4⟩ := HC.out wS hSw; go_simp; first | done | with_reducible rfl)))
      (try simp only [Act.put, List.setIfInBounds_toArray, List.set_cons_zero, List.set_cons_succ])
      (first | (refine takeS_no 1 rfl (by kernel_rfl) (by kernel_rfl) (by kernel_rfl) (fun _ _ _ h => h) (by rfl) (by assumption) ?_) | (refine takeS_yes (v := ?_) 1 rfl (by kernel_rfl) (by kernel_rfl) (by kernel_rfl) (fun _ _ _ h => h) (by rfl) (by assumption) ?_ ?_; rotate_left; focus (intro wS hSw; obtain ⟨q0, q1, q2, q4⟩ := HC.out wS hSw; go_simp; first | done | with_reducible rfl)))
      (try simp only [Act.put, List.setIfInBounds_toArray, List.set_cons_zero, List.set_cons_succ])
      (first | (refine takeS_no 2 rfl (by kernel_rfl) (by kernel_rfl) (by kernel_rfl) (fun _ _ _ h => h) (by rfl) (by assumption) ?_) | (refine takeS_yes (v := ?_) 2 rfl (by kernel_rfl) (by kernel_rfl) (by kernel_rfl) (fun _ _ _ h => h) (by rfl) (by assumption) ?_ ?_; rotate_left; focus (intro wS hSw; obtain ⟨q0, q1, q2, q4⟩ := HC.out wS hSw; go_simp; first | done | with_reducible rfl)))
      (try simp only [Act.put, List.setIfInBounds_toArray, List.set_cons_zero, List.set_cons_succ])
      (first | (refine takeS_no 3 rfl (by kernel_rfl) (by kernel_rfl) (by kernel_rfl) (fun _ _ _ h => h) (by rfl) (by assumption) ?_) | (refine takeS_yes (v := ?_) 3 rfl (by kernel_rfl) (by kernel_rfl) (by kernel_rfl) (fun _ _ _ h => h) (by rfl) (by assumption) ?_ ?_; rotate_left; focus (intro wS hSw; obtain ⟨q0, q1, q2, q4⟩ := HC.out wS hSw; go_simp; first | done | with_reducible rfl)))
      (try simp only [Act.put, List.setIfInBounds_toArray, List.set_cons_zero, List.set_cons_succ])
      (first | (refine takeS_no 4 rfl (by kernel_rfl) (by kernel_rfl) (by kernel_rfl) (fun _ _ _ h => h) (by rfl) (by assumption) ?_) | (refine takeS_yes (v := ?_) 4 rfl (by kernel_rfl) (by kernel_rfl) (by kernel_rfl) (fun _ _ _ h => h) (by rfl) (by assumption) ?_ ?_; rotate_left; focus (intro wS hSw; obtain ⟨q0, q1, q2, q4⟩ := HC.out wS hSw; go_simp; first | done | with_reducible rfl)))
      (try simp only [Act.put, List.setIfInBounds_toArray, List.set_cons_zero, List.set_cons_succ])
      (first | (refine takeS_no 5 rfl (by kernel_rfl) (by kernel_rfl) (by kernel_rfl) (fun _ _ _ h => h) (by rfl) (by assumption) ?_) | (refine takeS_yes (v := ?_) 5 rfl (by kernel_rfl) (by kernel_rfl) (by kernel_rfl) (fun _ _ _ h => h) (by rfl) (by assumption) ?_ ?_; rotate_left; focus (intro wS hSw; obtain ⟨q0, q1, q2, q4⟩ := HC.out wS hSw; go_simp; first | done | with_reducible rfl)))
      (try simp only [Act.put, List.setIfInBounds_toArray, List.set_cons_zero, List.set_cons_succ])
      (first | (refine takeS_no 6 rfl (by kernel_rfl) (by kernel_rfl) (by kernel_rfl) (fun _ _ _ h => h) (by rfl) (by assumption) ?_) | (refine takeS_yes (v := ?_) 6 rfl (by kernel_rfl) (by kernel_rfl) (by kernel_rfl) (fun _ _ _ h => h) (by rfl) (by assumption) ?_ ?_; rotate_left; focus (intro wS hSw; obtain ⟨q0, q1, q2, q4⟩ := HC.out wS hSw; go_simp; first | done | with_reducible rfl)))
      (try simp only [Act.put, List.setIfInBounds_toArray, List.set_cons_zero, List.set_cons_succ])
      (first | (refine takeS_no 7 rfl (by kernel_rfl) (by kernel_rfl) (by kernel_rfl) (fun _ _ _ h => h) (by rfl) (by assumption) ?_) | (refine takeS_yes (v := ?_) 7 rfl (by kernel_rfl) (by kernel_rfl) (by kernel_rfl) (fun _ _ _ h => h) (by rfl) (by assumption) ?_ ?_; rotate_left; focus (intro wS hSw; obtain ⟨q0, q1, q2, q4⟩ := HC.out wS hSw; go_simp; first | done | with_reducible rfl)))
      (try simp only [Act.put, List.setIfInBounds_toArray, List.set_cons_zero, List.set_cons_succ])
      (first | (refine takeS_no 8 rfl (by kernel_rfl) (by kernel_rfl) (by kernel_rfl) (fun _ _ _ h => h) (by rfl) (by assumption) ?_) | (refine takeS_yes (v := ?_) 8 rfl (by kernel_rfl) (by kernel_rfl) (by kernel_rfl) (fun _ _ _ h => h) (by rfl) (by assumption) ?_ ?_; rotate_left; focus (intro wS hSw; obtain ⟨q0, q1, q2, q4⟩ := HC.out wS hSw; go_simp; first | done | with_reducible rfl)))
      (try simp only [Act.put, List.setIfInBounds_toArray, List.set_cons_zero, List.set_cons_succ])
      (first | (refine takeS_no 9 rfl (by kernel_rfl) (by kernel_rfl) (by kernel_rfl) (fun _ _ _ h => h) (by rfl) (by assumption) ?_) | (refine takeS_yes (v := ?_) 9 rfl (by kernel_rfl) (by kernel_rfl) (by kernel_rfl) (fun _ _ _ h => h) (by rfl) (by assumption) ?_ ?_; rotate_left; focus (intro wS hSw; obtain ⟨q0, q1, q2, q4⟩ := HC.out wS hSw; go_simp; first | done | with_reducible rfl)))
      (try simp only [Act.put, List.setIfInBounds_toArray, List.set_cons_zero, List.set_cons_succ])
      (first | (refine takeS_no 10 rfl (by kernel_rfl) (by kernel_rfl) (by kernel_rfl) (fun _ _ _ h => h) (by rfl) (by assumption) ?_) | (refine takeS_yes (v := ?_) 10 rfl (by kernel_rfl) (by kernel_rfl) (by kernel_rfl) (fun _ _ _ h => h) (by rfl) (by assumption) ?_ ?_; rotate_left; focus (intro wS hSw; obtain ⟨q0, q1, q2, q4⟩ := HC.out wS hSw; go_simp; first | done | with_reducible rfl)))
      (try simp only [Act.put, List.setIfInBounds_toArray, List.set_cons_zero, List.set_cons_succ])
      (first | (refine takeS_no 11 rfl (by kernel_rfl) (by kernel_rfl) (by kernel_rfl) (fun _ _ _ h => h) (by rfl) (by assumption) ?_) | (refine takeS_yes (v := ?_) 11 rfl (by kernel_rfl) (by kernel_rfl) (by kernel_rfl) (fun _ _ _ h => h) (by rfl) (by assumption) ?_ ?_; rotate_left; focus (intro wS hSw; obtain ⟨q0, q1, q2, q4⟩ := HC.out wS hSw; go_simp; first | done | with_reducible rfl)))
      (try simp only [Act.put, List.setIfInBounds_toArray, List.set_cons_zero, List.set_cons_succ])
      (first | (refine takeS_no 12 rfl (by kernel_rfl) (by kernel_rfl) (by kernel_rfl) (fun _ _ _ h => h) (by rfl) (by assumption) ?_) | (refine takeS_yes (v := ?_) 12 rfl (by kernel_rfl) (by kernel_rfl) (by kernel_rfl) (fun _ _ _ h => h) (by rfl) (by assumption) ?_ ?_; rotate_left; focus (intro wS hSw; obtain ⟨q0, q1, q2, q4⟩ := HC.out wS hSw; go_simp; first | done | with_reducible rfl)))
      (try simp only [Act.put, List.setIfInBounds_toArray, List.set_cons_zero, List.set_cons_succ])
      refine takeS_alone 13 rfl (by kernel_rfl) (by rfl) (fun K hK => ?_)
      go_simp
      (refine (entries_gone (.pointer p) w7.drew (HGN.out _ hS7)).mono ?_; rintro e w8 ⟨rfl, hb8⟩; have hS8 : Below w5.heap.size w5 w8 := hS7.trans (hb8.mono hS7.size); clear hb8)
      refine hK.out _ _ (by assumption) ?_
      clear hK K
      (try simp only [Act.put, List.setIfInBounds_toArray, List.set_cons_zero, List.set_cons_succ])
      (first | (refine takeS_no 14 rfl (by kernel_rfl) (by kernel_rfl) (by kernel_rfl) (fun _ _ _ h => h) (by rfl) (by assumption) ?_) | (refine takeS_yes (v := ?_) 14 rfl (by kernel_rfl) (by kernel_rfl) (by kernel_rfl) (fun _ _ _ h => h) (by rfl) (by assumption) ?_ ?_; rotate_left; focus (intro wS hSw; obtain ⟨q0, q1, q2, q4⟩ := HC.out wS hSw; go_simp; first | done | with_reducible rfl)))
      (try simp only [Act.put, List.setIfInBounds_toArray, List.set_cons_zero, List.set_cons_succ])
      (first | (refine takeS_no 15 rfl (by kernel_rfl) (by kernel_rfl) (by kernel_rfl) (fun _ _ _ h => h) (by rfl) (by assumption) ?_) | (refine takeS_yes (v := ?_) 15 rfl (by kernel_rfl) (by kernel_rfl) (by kernel_rfl) (fun _ _ _ h => h) (by rfl) (by assumption) ?_ ?_; rotate_left; focus (intro wS hSw; obtain ⟨q0, q1, q2, q4⟩ := HC.out wS hSw; go_simp; first | done | with_reducible rfl)))
      (try simp only [Act.put, List.setIfInBounds_toArray, List.set_cons_zero, List.set_cons_succ])
      (first | (refine takeS_no 16 rfl (by kernel_rfl) (by kernel_rfl) (by kernel_rfl) (fun _ _ _ h => h) (by rfl) (by assumption) ?_) | (refine takeS_yes (v := ?_) 16 rfl (by kernel_rfl) (by kernel_rfl) (by kernel_rfl) (fun _ _ _ h => h) (by rfl) (by assumption) ?_ ?_; rotate_left; focus (intro wS hSw; obtain ⟨q0, q1, q2, q4⟩ := HC.out wS hSw; go_simp; first | done | with_reducible rfl)))
      (try simp only [Act.put, List.setIfInBounds_toArray, List.set_cons_zero, List.set_cons_succ])
      (first | (refine takeS_no 17 rfl (by kernel_rfl) (by kernel_rfl) (by kernel_rfl) (fun _ _ _ h => h) (by rfl) (by assumption) ?_) | (refine takeS_yes (v := ?_) 17 rfl (by kernel_rfl) (by kernel_rfl) (by kernel_rfl) (fun _ _ _ h => h) (by rfl) (by assumption) ?_ ?_; rotate_left; focus (intro wS hSw; obtain ⟨q0, q1, q2, q4⟩ := HC.out wS hSw; go_simp; first | done | with_reducible rfl)))
      (try simp only [Act.put, List.setIfInBounds_toArray, List.set_cons_zero, List.set_cons_succ])
      (first | (refine takeS_no 18 rfl (by kernel_rfl) (by kernel_rfl) (by kernel_rfl) (fun _ _ _ h => h) (by rfl) (by assumption) ?_) | (refine takeS_yes (v := ?_) 18 rfl (by kernel_rfl) (by kernel_rfl) (by kernel_rfl) (fun _ _ _ h => h) (by rfl) (by assumption) ?_ ?_; rotate_left; focus (intro wS hSw; obtain ⟨q0, q1, q2, q4⟩ := HC.out wS hSw; go_simp; first | done | with_reducible rfl)))
      (try simp only [Act.put, List.setIfInBounds_toArray, List.set_cons_zero, List.set_cons_succ])
      (first | (refine takeS_no 19 rfl (by kernel_rfl) (by kernel_rfl) (by kernel_rfl) (fun _ _ _ h => h) (by rfl) (by assumption) ?_) | (refine takeS_yes (v := ?_) 19 rfl (by kernel_rfl) (by kernel_rfl) (by kernel_rfl) (fun _ _ _ h => h) (by rfl) (by assumption) ?_ ?_; rotate_left; focus (intro wS hSw; obtain ⟨q0, q1, q2, q4⟩ := HC.out wS hSw; go_simp; first | done | with_reducible rfl)))
      (try simp only [Act.put, List.setIfInBounds_toArray, List.set_cons_zero, List.set_cons_succ])
      (first | (refine takeS_no 20 rfl (by kernel_rfl) (by kernel_rfl) (by kernel_rfl) (fun _ _ _ h => h) (by rfl) (by assumption) ?_) | (refine takeS_yes (v := ?_) 20 rfl (by kernel_rfl) (by kernel_rfl) (by kernel_rfl) (fun _ _ _ h => h) (by rfl) (by assumption) ?_ ?_; rotate_left; focus (intro wS hSw; obtain ⟨q0, q1, q2, q4⟩ := HC.out wS hSw; go_simp; first | done | with_reducible rfl)))
      (try simp only [Act.put, List.setIfInBounds_toArray, List.set_cons_zero, List.set_cons_succ])
      (first | (refine takeS_no 21 rfl (by kernel_rfl) (by kernel_rfl) (by kernel_rfl) (fun _ _ _ h => h) (by rfl) (by assumption) ?_) | (refine takeS_yes (v := ?_) 21 rfl (by kernel_rfl) (by kernel_rfl) (by kernel_rfl) (fun _ _ _ h => h) (by rfl) (by assumption) ?_ ?_; rotate_left; focus (intro wS hSw; obtain ⟨q0, q1, q2, q4⟩ := HC.out wS hSw; go_simp; first | done | with_reducible rfl)))
      (try simp only [Act.put, List.setIfInBounds_toArray, List.set_cons_zero, List.set_cons_succ])
      (first | (refine takeS_no 22 rfl (by kernel_rfl) (by kernel_rfl) (by kernel_rfl) (fun _ _ _ h => h) (by rfl) (by assumption) ?_) | (refine takeS_yes (v := ?_) 22 rfl (by kernel_rfl) (by kernel_rfl) (by kernel_rfl) (fun _ _ _ h => h) (by rfl) (by assumption) ?_ ?_; rotate_left; focus (intro wS hSw; obtain ⟨q0, q1, q2, q4⟩ := HC.out wS hSw; go_simp; first | done | with_reducible rfl)))
      (try simp only [Act.put, List.setIfInBounds_toArray, List.set_cons_zero, List.set_cons_succ])
      (first | (refine takeS_no 23 rfl (by kernel_rfl) (by kernel_rfl) (by kernel_rfl) (fun _ _ _ h => h) (by rfl) (by assumption) ?_) | (refine takeS_yes (v := ?_) 23 rfl (by kernel_rfl) (by kernel_rfl) (by kernel_rfl) (fun _ _ _ h => h) (by rfl) (by assumption) ?_ ?_; rotate_left; focus (intro wS hSw; obtain ⟨q0, q1, q2, q4⟩ := HC.out wS hSw; go_simp; first | done | with_reducible rfl)))
      (try simp only [Act.put, List.setIfInBounds_toArray, List.set_cons_zero, List.set_cons_succ])
      (first | (refine takeS_no 24 rfl (by kernel_rfl) (by kernel_rfl) (by kernel_rfl) (fun _ _ _ h => h) (by rfl) (by assumption) ?_) | (refine takeS_yes (v := ?_) 24 rfl (by kernel_rfl) (by kernel_rfl) (by kernel_rfl) (fun _ _ _ h => h) (by rfl) (by assumption) ?_ ?_; rotate_left; focus (intro wS hSw; obtain ⟨q0, q1, q2, q4⟩ := HC.out wS hSw; go_simp; first | done | with_reducible rfl)))
      (try simp only [Act.put, List.setIfInBounds_toArray, List.set_cons_zero, List.set_cons_succ])
      (first | (refine takeS_no 25 rfl (by kernel_rfl) (by kernel_rfl) (by kernel_rfl) (fun _ _ _ h => h) (by rfl) (by assumption) ?_) | (refine takeS_yes (v := ?_) 25 rfl (by kernel_rfl) (by kernel_rfl) (by kernel_rfl) (fun _ _ _ h => h) (by rfl) (by assumption) ?_ ?_; rotate_left; focus (intro wS hSw; obtain ⟨q0, q1, q2, q4⟩ := HC.out wS hSw; go_simp; first | done | with_reducible rfl)))
      (try simp only [Act.put, List.setIfInBounds_toArray, List.set_cons_zero, List.set_cons_succ])
      refine takeS_alone 26 rfl (by kernel_rfl) (by rfl) (fun K hK => ?_)
      go_simp
      (refine (vote_gone (.pointer p) d.index d.term w8 (HGN.out _ hS8)).mono ?_; rintro e w9 ⟨rfl, hb9⟩; have hS9 : Below w5.heap.size w5 w9 := hS8.trans (hb9.mono hS8.size); clear hb9)
      refine hK.out _ _ (by assumption) ?_
      clear hK K
      (try simp only [Act.put, List.setIfInBounds_toArray, List.set_cons_zero, List.set_cons_succ])
      (first | (refine takeS_no 27 rfl (by kernel_rfl) (by kernel_rfl) (by kernel_rfl) (fun _ _ _ h => h) (by rfl) (by assumption) ?_) | (refine takeS_yes (v := ?_) 27 rfl (by kernel_rfl) (by kernel_rfl) (by kernel_rfl) (fun _ _ _ h => h) (by rfl) (by assumption) ?_ ?_; rotate_left; focus (intro wS hSw; obtain ⟨q0, q1, q2, q4⟩ := HC.out wS hSw; go_simp; first | done | with_reducible rfl)))
      (try simp only [Act.put, List.setIfInBounds_toArray, List.set_cons_zero, List.set_cons_succ])
      (first | (refine takeS_no 28 rfl (by kernel_rfl) (by kernel_rfl) (by kernel_rfl) (fun _ _ _ h => h) (by rfl) (by assumption) ?_) | (refine takeS_yes (v := ?_) 28 rfl (by kernel_rfl) (by kernel_rfl) (by kernel_rfl) (fun _ _ _ h => h) (by rfl) (by assumption) ?_ ?_; rotate_left; focus (intro wS hSw; obtain ⟨q0, q1, q2, q4⟩ := HC.out wS hSw; go_simp; first | done | with_reducible rfl)))
      (try simp only [Act.put, List.setIfInBounds_toArray, List.set_cons_zero, List.set_cons_succ])
      (first | (refine takeS_no 29 rfl (by kernel_rfl) (by kernel_rfl) (by kernel_rfl) (fun _ _ _ h => h) (by rfl) (by assumption) ?_) | (refine takeS_yes (v := ?_) 29 rfl (by kernel_rfl) (by kernel_rfl) (by kernel_rfl) (fun _ _ _ h => h) (by rfl) (by assumption) ?_ ?_; rotate_left; focus (intro wS hSw; obtain ⟨q0, q1, q2, q4⟩ := HC.out wS hSw; go_simp; first | done | with_reducible rfl)))
      (try simp only [Act.put, List.setIfInBounds_toArray, List.set_cons_zero, List.set_cons_succ])
      (first | (refine takeS_no 30 rfl (by kernel_rfl) (by kernel_rfl) (by kernel_rfl) (fun _ _ _ h => h) (by rfl) (by assumption) ?_) | (refine takeS_yes (v := ?_) 30 rfl (by kernel_rfl) (by kernel_rfl) (by kernel_rfl) (fun _ _ _ h => h) (by rfl) (by assumption) ?_ ?_; rotate_left; focus (intro wS hSw; obtain ⟨q0, q1, q2, q4⟩ := HC.out wS hSw; go_simp; first | done | with_reducible rfl)))
      (try simp only [Act.put, List.setIfInBounds_toArray, List.set_cons_zero, List.set_cons_succ])
      (first | (refine takeS_no 31 rfl (by kernel_rfl) (by kernel_rfl) (by kernel_rfl) (fun _ _ _ h => h) (by rfl) (by assumption) ?_) | (refine takeS_yes (v := ?_) 31 rfl (by kernel_rfl) (by kernel_rfl) (by kernel_rfl) (fun _ _ _ h => h) (by rfl) (by assumption) ?_ ?_; rotate_left; focus (intro wS hSw; obtain ⟨q0, q1, q2, q4⟩ := HC.out wS hSw; go_simp; first | done | with_reducible rfl)))
      (try simp only [Act.put, List.setIfInBounds_toArray, List.set_cons_zero, List.set_cons_succ])
      (first | (refine takeS_no 32 rfl (by kernel_rfl) (by kernel_rfl) (by kernel_rfl) (fun _ _ _ h => h) (by rfl) (by assumption) ?_) | (refine takeS_yes (v := ?_) 32 rfl (by kernel_rfl) (by kernel_rfl) (by kernel_rfl) (fun _ _ _ h => h) (by rfl) (by assumption) ?_ ?_; rotate_left; focus (intro wS hSw; obtain ⟨q0, q1, q2, q4⟩ := HC.out wS hSw; go_simp; first | done | with_reducible rfl)))
      (try simp only [Act.put, List.setIfInBounds_toArray, List.set_cons_zero, List.set_cons_succ])
      (first | (refine takeS_no 33 rfl (by kernel_rfl) (by kernel_rfl) (by kernel_rfl) (fun _ _ _ h => h) (by rfl) (by assumption) ?_) | (refine takeS_yes (v := ?_) 33 rfl (by kernel_rfl) (by kernel_rfl) (by kernel_rfl) (fun _ _ _ h => h) (by rfl) (by assumption) ?_ ?_; rotate_left; focus (intro wS hSw; obtain ⟨q0, q1, q2, q4⟩ := HC.out wS hSw; go_simp; first | done | with_reducible rfl)))
      (try simp only [Act.put, List.setIfInBounds_toArray, List.set_cons_zero, List.set_cons_succ])
      (first | (refine takeS_no 34 rfl (by kernel_rfl) (by kernel_rfl) (by kernel_rfl) (fun _ _ _ h => h) (by rfl) (by assumption) ?_) | (refine takeS_yes (v := ?_) 34 rfl (by kernel_rfl) (by kernel_rfl) (by kernel_rfl) (fun _ _ _ h => h) (by rfl) (by assumption) ?_ ?_; rotate_left; focus (intro wS hSw; obtain ⟨q0, q1, q2, q4⟩ := HC.out wS hSw; go_simp; first | done | with_reducible rfl)))
      (try simp only [Act.put, List.setIfInBounds_toArray, List.set_cons_zero, List.set_cons_succ])
      (first | (refine takeS_no 35 rfl (by kernel_rfl) (by kernel_rfl) (by kernel_rfl) (fun _ _ _ h => h) (by rfl) (by assumption) ?_) | (refine takeS_yes (v := ?_) 35 rfl (by kernel_rfl) (by kernel_rfl) (by kernel_rfl) (fun _ _ _ h => h) (by rfl) (by assumption) ?_ ?_; rotate_left; focus (intro wS hSw; obtain ⟨q0, q1, q2, q4⟩ := HC.out wS hSw; go_simp; first | done | with_reducible rfl)))
      (try simp only [Act.put, List.setIfInBounds_toArray, List.set_cons_zero, List.set_cons_succ])
      (first | (refine takeS_no 36 rfl (by kernel_rfl) (by kernel_rfl) (by kernel_rfl) (fun _ _ _ h => h) (by rfl) (by assumption) ?_) | (refine takeS_yes (v := ?_) 36 rfl (by kernel_rfl) (by kernel_rfl) (by kernel_rfl) (fun _ _ _ h => h) (by rfl) (by assumption) ?_ ?_; rotate_left; focus (intro wS hSw; obtain ⟨q0, q1, q2, q4⟩ := HC.out wS hSw; go_simp; first | done | with_reducible rfl)))
      (try simp only [Act.put, List.setIfInBounds_toArray, List.set_cons_zero, List.set_cons_succ])
      (first | (refine takeS_no 37 rfl (by kernel_rfl) (by kernel_rfl) (by kernel_rfl) (fun _ _ _ h => h) (by rfl) (by assumption) ?_) | (refine takeS_yes (v := ?_) 37 rfl (by kernel_rfl) (by kernel_rfl) (by kernel_rfl) (fun _ _ _ h => h) (by rfl) (by assumption) ?_ ?_; rotate_left; focus (intro wS hSw; obtain ⟨q0, q1, q2, q4⟩ := HC.out wS hSw; go_simp; first | done | with_reducible rfl)))
      (try simp only [Act.put, List.setIfInBounds_toArray, List.set_cons_zero, List.set_cons_succ])
      refine takeS_alone 38 rfl (by kernel_rfl) (by rfl) (fun K hK => ?_)
      go_simp
      (refine (append_gone (.pointer p) d.index d.eo n d.ec w9 (HGN.out _ hS9)).mono ?_; rintro e w10 ⟨rfl, hb10⟩; have hS10 : Below w5.heap.size w5 w10 := hS9.trans (hb10.mono hS9.size); clear hb10)
      refine hK.out _ _ (by assumption) ?_
      clear hK K
      (try simp only [Act.put, List.setIfInBounds_toArray, List.set_cons_zero, List.set_cons_succ])
      (first | (refine takeS_no 39 rfl (by kernel_rfl) (by kernel_rfl) (by kernel_rfl) (fun _ _ _ h => h) (by rfl) (by assumption) ?_) | (refine takeS_yes (v := ?_) 39 rfl (by kernel_rfl) (by kernel_rfl) (by kernel_rfl) (fun _ _ _ h => h) (by rfl) (by assumption) ?_ ?_; rotate_left; focus (intro wS hSw; obtain ⟨q0, q1, q2, q4⟩ := HC.out wS hSw; go_simp; first | done | with_reducible rfl)))
      (try simp only [Act.put, List.setIfInBounds_toArray, List.set_cons_zero, List.set_cons_succ])
      (first | (refine takeS_no 40 rfl (by kernel_rfl) (by kernel_rfl) (by kernel_rfl) (fun _ _ _ h => h) (by rfl) (by assumption) ?_) | (refine takeS_yes (v := ?_) 40 rfl (by kernel_rfl) (by kernel_rfl) (by kernel_rfl) (fun _ _ _ h => h) (by rfl) (by assumption) ?_ ?_; rotate_left; focus (intro wS hSw; obtain ⟨q0, q1, q2, q4⟩ := HC.out wS hSw; go_simp; first | done | with_reducible rfl)))
      (try simp only [Act.put, List.setIfInBounds_toArray, List.set_cons_zero, List.set_cons_succ])
      (first | (refine takeS_no 41 rfl (by kernel_rfl) (by kernel_rfl) (by kernel_rfl) (fun _ _ _ h => h) (by rfl) (by assumption) ?_) | (refine takeS_yes (v := ?_) 41 rfl (by kernel_rfl) (by kernel_rfl) (by kernel_rfl) (fun _ _ _ h => h) (by rfl) (by assumption) ?_ ?_; rotate_left; focus (intro wS hSw; obtain ⟨q0, q1, q2, q4⟩ := HC.out wS hSw; go_simp; first | done | with_reducible rfl)))
      (try simp only [Act.put, List.setIfInBounds_toArray, List.set_cons_zero, List.set_cons_succ])
      (first | (refine takeS_no 42 rfl (by kernel_rfl) (by kernel_rfl) (by kernel_rfl) (fun _ _ _ h => h) (by rfl) (by assumption) ?_) | (refine takeS_yes (v := ?_) 42 rfl (by kernel_rfl) (by kernel_rfl) (by kernel_rfl) (fun _ _ _ h => h) (by rfl) (by assumption) ?_ ?_; rotate_left; focus (intro wS hSw; obtain ⟨q0, q1, q2, q4⟩ := HC.out wS hSw; go_simp; first | done | with_reducible rfl)))
      (try simp only [Act.put, List.setIfInBounds_toArray, List.set_cons_zero, List.set_cons_succ])
      (first | (refine takeS_no 43 rfl (by kernel_rfl) (by kernel_rfl) (by kernel_rfl) (fun _ _ _ h => h) (by rfl) (by assumption) ?_) | (refine takeS_yes (v := ?_) 43 rfl (by kernel_rfl) (by kernel_rfl) (by kernel_rfl) (fun _ _ _ h => h) (by rfl) (by assumption) ?_ ?_; rotate_left; focus (intro wS hSw; obtain ⟨q0, q1, q2, q4⟩ := HC.out wS hSw; go_simp; first | done | with_reducible rfl)))
      (try simp only [Act.put, List.setIfInBounds_toArray, List.set_cons_zero, List.set_cons_succ])
      (first | (refine takeS_no 44 rfl (by kernel_rfl) (by kernel_rfl) (by kernel_rfl) (fun _ _ _ h => h) (by rfl) (by assumption) ?_) | (refine takeS_yes (v := ?_) 44 rfl (by kernel_rfl) (by kernel_rfl) (by kernel_rfl) (fun _ _ _ h => h) (by rfl) (by assumption) ?_ ?_; rotate_left; focus (intro wS hSw; obtain ⟨q0, q1, q2, q4⟩ := HC.out wS hSw; go_simp; first | done | with_reducible rfl)))
      (try simp only [Act.put, List.setIfInBounds_toArray, List.set_cons_zero, List.set_cons_succ])
      (first | (refine takeS_no 45 rfl (by kernel_rfl) (by kernel_rfl) (by kernel_rfl) (fun _ _ _ h => h) (by rfl) (by assumption) ?_) | (refine takeS_yes (v := ?_) 45 rfl (by kernel_rfl) (by kernel_rfl) (by kernel_rfl) (fun _ _ _ h => h) (by rfl) (by assumption) ?_ ?_; rotate_left; focus (intro wS hSw; obtain ⟨q0, q1, q2, q4⟩ := HC.out wS hSw; go_simp; first | done | with_reducible rfl)))
      (try simp only [Act.put, List.setIfInBounds_toArray, List.set_cons_zero, List.set_cons_succ])
      refine takeS_alone 46 rfl (by kernel_rfl) (by rfl) (fun K hK => ?_)
      go_simp
      (refine (sync_gone (.pointer p) w10 (HGN.out _ hS10)).mono ?_; rintro e w11 ⟨rfl, hb11⟩; have hS11 : Below w5.heap.size w5 w11 := hS10.trans (hb11.mono hS10.size); clear hb11)
      refine hK.out _ _ (by assumption) ?_
      clear hK K
      (try simp only [Act.put, List.setIfInBounds_toArray, List.set_cons_zero, List.set_cons_succ])
      (first | (refine takeS_no 47 rfl (by kernel_rfl) (by kernel_rfl) (by kernel_rfl) (fun _ _ _ h => h) (by rfl) (by assumption) ?_) | (refine takeS_yes (v := ?_) 47 rfl (by kernel_rfl) (by kernel_rfl) (by kernel_rfl) (fun _ _ _ h => h) (by rfl) (by assumption) ?_ ?_; rotate_left; focus (intro wS hSw; obtain ⟨q0, q1, q2, q4⟩ := HC.out wS hSw; go_simp; first | done | with_reducible rfl)))
      (try simp only [Act.put, List.setIfInBounds_toArray, List.set_cons_zero, List.set_cons_succ])
      (first | (refine takeS_no 48 rfl (by kernel_rfl) (by kernel_rfl) (by kernel_rfl) (fun _ _ _ h => h) (by rfl) (by assumption) ?_) | (refine takeS_yes (v := ?_) 48 rfl (by kernel_rfl) (by kernel_rfl) (by kernel_rfl) (fun _ _ _ h => h) (by rfl) (by assumption) ?_ ?_; rotate_left; focus (intro wS hSw; obtain ⟨q0, q1, q2, q4⟩ := HC.out wS hSw; go_simp; first | done | with_reducible rfl)))
      (try simp only [Act.put, List.setIfInBounds_toArray, List.set_cons_zero, List.set_cons_succ])
      (first | (refine takeS_no 49 rfl (by kernel_rfl) (by kernel_rfl) (by kernel_rfl) (fun _ _ _ h => h) (by rfl) (by assumption) ?_) | (refine takeS_yes (v := ?_) 49 rfl (by kernel_rfl) (by kernel_rfl) (by kernel_rfl) (fun _ _ _ h => h) (by rfl) (by assumption) ?_ ?_; rotate_left; focus (intro wS hSw; obtain ⟨q0, q1, q2, q4⟩ := HC.out wS hSw; go_simp; first | done | with_reducible rfl)))
      (try simp only [Act.put, List.setIfInBounds_toArray, List.set_cons_zero, List.set_cons_succ])
      (first | (refine takeS_no 50 rfl (by kernel_rfl) (by kernel_rfl) (by kernel_rfl) (fun _ _ _ h => h) (by rfl) (by assumption) ?_) | (refine takeS_yes (v := ?_) 50 rfl (by kernel_rfl) (by kernel_rfl) (by kernel_rfl) (fun _ _ _ h => h) (by rfl) (by assumption) ?_ ?_; rotate_left; focus (intro wS hSw; obtain ⟨q0, q1, q2, q4⟩ := HC.out wS hSw; go_simp; first | done | with_reducible rfl)))
      (try simp only [Act.put, List.setIfInBounds_toArray, List.set_cons_zero, List.set_cons_succ])
      (first | (refine takeS_no 51 rfl (by kernel_rfl) (by kernel_rfl) (by kernel_rfl) (fun _ _ _ h => h) (by rfl) (by assumption) ?_) | (refine takeS_yes (v := ?_) 51 rfl (by kernel_rfl) (by kernel_rfl) (by kernel_rfl) (fun _ _ _ h => h) (by rfl) (by assumption) ?_ ?_; rotate_left; focus (intro wS hSw; obtain ⟨q0, q1, q2, q4⟩ := HC.out wS hSw; go_simp; first | done | with_reducible rfl)))
      (try simp only [Act.put, List.setIfInBounds_toArray, List.set_cons_zero, List.set_cons_succ])
      (first | (refine takeS_no 52 rfl (by kernel_rfl) (by kernel_rfl) (by kernel_rfl) (fun _ _ _ h => h) (by rfl) (by assumption) ?_) | (refine takeS_yes (v := ?_) 52 rfl (by kernel_rfl) (by kernel_rfl) (by kernel_rfl) (fun _ _ _ h => h) (by rfl) (by assumption) ?_ ?_; rotate_left; focus (intro wS hSw; obtain ⟨q0, q1, q2, q4⟩ := HC.out wS hSw; go_simp; first | done | with_reducible rfl)))
      (try simp only [Act.put, List.setIfInBounds_toArray, List.set_cons_zero, List.set_cons_succ])
      (first | (refine takeS_no 53 rfl (by kernel_rfl) (by kernel_rfl) (by kernel_rfl) (fun _ _ _ h => h) (by rfl) (by assumption) ?_) | (refine takeS_yes (v := ?_) 53 rfl (by kernel_rfl) (by kernel_rfl) (by kernel_rfl) (fun _ _ _ h => h) (by rfl) (by assumption) ?_ ?_; rotate_left; focus (intro wS hSw; obtain ⟨q0, q1, q2, q4⟩ := HC.out wS hSw; go_simp; first | done | with_reducible rfl)))
      (try simp only [Act.put, List.setIfInBounds_toArray, List.set_cons_zero, List.set_cons_succ])
      (first | (refine takeS_no 54 rfl (by kernel_rfl) (by kernel_rfl) (by kernel_rfl) (fun _ _ _ h => h) (by rfl) (by assumption) ?_) | (refine takeS_yes (v := ?_) 54 rfl (by kernel_rfl) (by kernel_rfl) (by kernel_rfl) (fun _ _ _ h => h) (by rfl) (by assumption) ?_ ?_; rotate_left; focus (intro wS hSw; obtain ⟨q0, q1, q2, q4⟩ := HC.out wS hSw; go_simp; first | done | with_reducible rfl)))
      (try simp only [Act.put, List.setIfInBounds_toArray, List.set_cons_zero, List.set_cons_succ])
      (first | (refine takeS_no 55 rfl (by kernel_rfl) (by kernel_rfl) (by kernel_rfl) (fun _ _ _ h => h) (by rfl) (by assumption) ?_) | (refine takeS_yes (v := ?_) 55 rfl (by kernel_rfl) (by kernel_rfl) (by kernel_rfl) (fun _ _ _ h => h) (by rfl) (by assumption) ?_ ?_; rotate_left; focus (intro wS hSw; obtain ⟨q0, q1, q2, q4⟩ := HC.out wS hSw; go_simp; first | done | with_reducible rfl)))
      (try simp only [Act.put, List.setIfInBounds_toArray, List.set_cons_zero, List.set_cons_succ])
      (first | (refine takeS_no 56 rfl (by kernel_rfl) (by kernel_rfl) (by kernel_rfl) (fun _ _ _ h => h) (by rfl) (by assumption) ?_) | (refine takeS_yes (v := ?_) 56 rfl (by kernel_rfl) (by kernel_rfl) (by kernel_rfl) (fun _ _ _ h => h) (by rfl) (by assumption) ?_ ?_; rotate_left; focus (intro wS hSw; obtain ⟨q0, q1, q2, q4⟩ := HC.out wS hSw; go_simp; first | done | with_reducible rfl)))
      (try simp only [Act.put, List.setIfInBounds_toArray, List.set_cons_zero, List.set_cons_succ])
      (first | (refine takeS_no 57 rfl (by kernel_rfl) (by kernel_rfl) (by kernel_rfl) (fun _ _ _ h => h) (by rfl) (by assumption) ?_) | (refine takeS_yes (v := ?_) 57 rfl (by kernel_rfl) (by kernel_rfl) (by kernel_rfl) (fun _ _ _ h => h) (by rfl) (by assumption) ?_ ?_; rotate_left; focus (intro wS hSw; obtain ⟨q0, q1, q2, q4⟩ := HC.out wS hSw; go_simp; first | done | with_reducible rfl)))
      (try simp only [Act.put, List.setIfInBounds_toArray, List.set_cons_zero, List.set_cons_succ])
      refine takeS_alone 58 rfl (by kernel_rfl) (by rfl) (fun K hK => ?_)
      go_simp
      (refine (compact_gone p d.index d.term w11 (HGN.out _ hS11)).mono ?_; rintro e w12 ⟨rfl, hb12⟩; have hS12 : Below w5.heap.size w5 w12 := hS11.trans (hb12.mono hS11.size); clear hb12)
      refine hK.out _ _ (by assumption) ?_
      clear hK K
      (try simp only [Act.put, List.setIfInBounds_toArray, List.set_cons_zero, List.set_cons_succ])
      (first | (refine takeS_no 59 rfl (by kernel_rfl) (by kernel_rfl) (by kernel_rfl) (fun _ _ _ h => h) (by rfl) (by assumption) ?_) | (refine takeS_yes (v := ?_) 59 rfl (by kernel_rfl) (by kernel_rfl) (by kernel_rfl) (fun _ _ _ h => h) (by rfl) (by assumption) ?_ ?_; rotate_left; focus (intro wS hSw; obtain ⟨q0, q1, q2, q4⟩ := HC.out wS hSw; go_simp; first | done | with_reducible rfl)))
      (try simp only [Act.put, List.setIfInBounds_toArray, List.set_cons_zero, List.set_cons_succ])
      (first | (refine takeS_no 60 rfl (by kernel_rfl) (by kernel_rfl) (by kernel_rfl) (fun _ _ _ h => h) (by rfl) (by assumption) ?_) | (refine takeS_yes (v := ?_) 60 rfl (by kernel_rfl) (by kernel_rfl) (by kernel_rfl) (fun _ _ _ h => h) (by rfl) (by assumption) ?_ ?_; rotate_left; focus (intro wS hSw; obtain ⟨q0, q1, q2, q4⟩ := HC.out wS hSw; go_simp; first | done | with_reducible rfl)))
      (try simp only [Act.put, List.setIfInBounds_toArray, List.set_cons_zero, List.set_cons_succ])
      refine wpAnyH_done (by kernel_rfl) ?_ _
      (try simp only [Exit.then])
      (try (rename (∀ (_ : Act) (_ : World), _ → _) => hK0; refine hK0 _ _ ?_; clear hK0))
      have HS12 := Lib.hid hS12
      clear hS0 hS7 hS8 hS9 hS10 hS11 hS12
      go_wp2_with fail
      go_roundw
      case rel => exact ⟨k + 1, by omega, by go_num, HS12.out⟩
      case measure => simp [intOf]; omega
    · obtain rfl : k = 2 := by omega
      have HBR := Lib.hid (HB5.out.trans (HBEL.out.mono HB5.out.size))
      clear hl5 hl6
      go_wp2_with fail
      refine (open_nilW wr).mono ?_
      rintro e v1 ⟨rfl, hb1⟩
      have HV1 := Lib.hid (HBR.out.trans (hb1.mono HBR.out.size))
      clear hb1
      go_wp2_with fail
      refine (dnew_any 0 v1 0 (by decide) (by decide)).mono ?_
      rintro e v2 ⟨rfl, hd2, hb2⟩
      have hz2 := hb2.size
      generalize hdb : v1.heap.size + 1 = db at hd2 ⊢
      generalize hmb : v1.heap.size = mb at hd2
      have hmbW : W.heap.size ≤ mb := hmb ▸ HV1.out.size
      have hmbl : mb < v2.heap.size := Nat.lt_of_lt_of_le hd2.mlt hd2.le
      have HD2 := Lib.hid hd2
      have HV2 := Lib.hid (show Below W.heap.size W v2 from HV1.out.trans (hb2.mono HV1.out.size))
      clear hd2 hb2
      go_wp2_with fail
      refine (wopen_any HD2.out (by omega) [] 6 dread_nil (fun x hx => by cases hx) (by simp)).mono ?_
      intro e v3 ho
      unfold OpenAt at ho
      rw [open_nil, openL_nil] at ho
      obtain ⟨wb, sb, rfl, hw3, hg3⟩ := ho
      have hmbs : mb < sb := Nat.lt_of_lt_of_le hmbl hw3.wal.say.lo
      have HW3 := Lib.hid hw3
      have HV3 := Lib.hid (HV2.out.trans ((grown_atW hg3 (Nat.le_of_lt hmbl)).mono hmbW))
      clear hw3 hg3
      go_wp2_with fail
      refine (wvote_any HW3.out (by omega) (WP.Ok.zero 10) hmbs (by omega) 1 1 (by omega) (by omega) _ full_vote).mono ?_
      rintro e v4 ⟨rfl, hw4, hb4⟩
      have HW4 := Lib.hid hw4
      have HV4 := Lib.hid (HV3.out.trans (hb4.mono hmbW))
      clear hw4 hb4
      dsimp only at HW4 ⊢
      go_wp2_with fail
      refine (cmd18_any 1 v4).mono ?_
      rintro e v5 ⟨rfl, hb5⟩
      have HW5 := Lib.hid (HW4.out.below hb5)
      have HV5 := Lib.hid (HV4.out.trans (hb5.mono HV4.out.size))
      clear hb5
      have hba := (Below.refl v5.heap.size v5).alloc (Nat.le_refl _) (.cells #[.int .i64 2, .int .u8 2, .int .i64 1, .int .i64 1, .int .u8 0, .string ⟨#[]⟩, .slice none 0 0, .int .i64 0, .slice none 0 0] 60)
      have hka := heap_alloc_new v5 (.cells #[.int .i64 2, .int .u8 2, .int .i64 1, .int .i64 1, .int .u8 0, .string ⟨#[]⟩, .slice none 0 0, .int .i64 0, .slice none 0 0] 60)
      have HW6 := Lib.hid (HW5.out.below hba)
      have HV6 := Lib.hid (HV5.out.trans (hba.mono HV5.out.size))
      have HE6 := Lib.hid (cmds_in [1] _ hka rfl)
      clear hba hka
      go_wp2_with fail
      generalize v5.alloc (.cells #[.int .i64 2, .int .u8 2, .int .i64 1, .int .i64 1, .int .u8 0, .string ⟨#[]⟩, .slice none 0 0, .int .i64 0, .slice none 0 0] 60) = v6 at HW6 HV6 HE6 ⊢
      refine (wappend_any (m := 1) HW6.out (by omega) (WP.Ok.zero 10) 1 (some ⟨v5.heap.size, 0, none⟩) 1 [1] rfl (by omega) HE6.out (fun k hk => n64_1 k (by simp at hk; omega)) hmbs (by omega) (by decide) _ full_cmd).mono ?_
      rintro e v7 ⟨rfl, hw7, hb7⟩
      dsimp only at hw7 ⊢
      have HW7 := Lib.hid hw7
      have HV7 := Lib.hid (HV6.out.trans (hb7.mono hmbW))
      clear hw7 hb7
      go_wp2_with fail
      refine (wcompact0_any HW7.out (by omega) hmbs).mono ?_
      rintro e v8 ⟨rfl, hw8, hb8⟩
      have HW8 := Lib.hid hw8
      have HV8 := Lib.hid (HV7.out.trans (hb8.mono hmbW))
      clear hw8 hb8
      go_wp2_with fail
      have c0 := Go.Joins.cell_of_block HW8.out.wal.blk 0
      have c1 := Go.Joins.cell_of_block HW8.out.wal.blk 1
      refine (wsync_dk ⟨sb, c0⟩ c1 HW8.out.dk (by omega)).mono ?_
      rintro e v9 ⟨rfl, hd9, hg9⟩
      dsimp only at hd9 ⊢
      rw [sync_none] at hd9
      have HW9 := Lib.hid (HW8.out.disked hg9 hd9)
      have HV9 := Lib.hid (HV8.out.trans ((grown_atW hg9 (Nat.le_of_lt (Nat.lt_of_lt_of_le HW8.out.dk.mlt HW8.out.dk.le))).mono hmbW))
      clear hd9 hg9 c0 c1
      have hba := (Below.refl v9.heap.size v9).alloc (Nat.le_refl _) (.cells #[.int .i64 0, .int .i64 0, .int .i64 0, .int .i64 0, .slice none 0 0] 63)
      have hka := heap_alloc_new v9 (.cells #[.int .i64 0, .int .i64 0, .int .i64 0, .int .i64 0, .slice none 0 0] 63)
      have HR := Lib.hid (RSayIs.ofW hka (Nat.le_refl _))
      have HWA := Lib.hid (HW9.out.below hba)
      have HVA := Lib.hid (HV9.out.trans (hba.mono HV9.out.size))
      clear hba hka
      go_wp2_with fail
      generalize v9.alloc (.cells #[.int .i64 0, .int .i64 0, .int .i64 0, .int .i64 0, .slice none 0 0] 63) = va at HR HWA HVA ⊢
      refine (like18_any HWA.out.wal HR.out (WP.Ok.zero 0) (by omega)).mono ?_
      rintro e vb ⟨rfl, hbb⟩
      have HVB := Lib.hid (HVA.out.trans (hbb.mono HVA.out.size))
      clear hbb
      go_wp2_with fail
      go_ret
      exact ⟨rfl, HVB.out⟩
end Go.Proofs.YtnhnabcpkaeaaaaGreatDoor
