/- The document's log: Last, At, Term. Conditions: the log lies as its entries say; its numbers are not too great. -/
import Derived.Test.YtljfanhkbbfngaaGLogDoes4
import Derived.Test.YtljfanhkbbfngaaGLogDoes1
set_option linter.unusedVariables false
set_option linter.unusedSimpArgs false
namespace Go.Proofs.Ytljfanhkbbfngaa
open Go.RowKit
set_option maxRecDepth 20000
theorem rlast_any (B rb : Nat) (base term : Int) (v : Value) (es : List En) (r t : Int) (w : World) (hr : lastS base term (es.map En.plain) = (r, t)) (hL : RfAt w B rb base term v es) (hN : LogNums base es.length 0) :
    Calls Try.prog 39 #[.pointer (some ⟨rb, 0, none⟩)] w (TwoAt r t w) := by
  obtain ⟨a, c, hv⟩ := hL.form
  subst hv
  obtain ⟨h1, h2, _, _, h5⟩ := hN
  unfold lastS at hr
  rw [List.length_map] at hr
  have HL := Lib.hid hL
  obtain ⟨n, hn⟩ : ∃ n, es.length = n := ⟨_, rfl⟩
  rw [hn] at h5 hr
  have c0 := hL.c0
  have c1 := hL.c1
  have c2 : w.cell? ⟨rb, 2, none⟩ = some (.slice a n c) := by rw [← hn]; exact hL.c2
  have HN := Lib.hid hn
  clear hL hn
  by_cases h0 : n = 0
  · rw [if_pos h0] at hr
    obtain ⟨hr1, hr2⟩ := Prod.mk.injEq .. ▸ hr
    subst hr1 hr2 h0
    clear hr
    go_enter Try.func39, Try.ntmps39
    go_wp2_with fail
    go_quiet (fail)
    go_wp2_with fail
    go_ret2
    exact ⟨rfl, below_drewN (Below.refl _ _) _⟩
  · rw [if_neg h0] at hr
    obtain ⟨hr1, hr2⟩ := Prod.mk.injEq .. ▸ hr
    obtain ⟨m, rfl⟩ : ∃ m, n = m + 1 := ⟨n - 1, by omega⟩
    have hrow : w.ownsRow B 59 9 (.slice a (m + 1) c) (m + 1) (es.flatMap enCells) := by have := HL.out.row; rw [HN.out] at this; exact this
    obtain ⟨g, cc, hg⟩ := Go.Joins.ownsRow_form hrow (by omega)
    injection hg with hg1 _ _
    subst hg1
    have d1 := term_cell hrow HN.out (show m < m + 1 by omega)
    rw [show m + 1 - 1 = m by omega] at hr2
    rw [hr2] at d1
    have w1 : IntKind.i64.wrap ((m : Int) + 1 - 1) = m := by rw [IntWalk.i64_in _ (by omega)]; omega
    have w2 : IntKind.i64.wrap (base + ((m : Int) + 1)) = base + ((m : Int) + 1) := IntWalk.i64_in _ (by omega)
    have i1 : (m : Int) < (m : Int) + 1 := by omega
    have i2 : (0 : Int) < (m : Int) + 1 := by omega
    have i0 : (0 : Int) ≤ m := by omega
    have e1 : (m : Int) + 1 - 1 = m := by omega
    have HR1 := Lib.hid hr1
    clear hr hr1 hr2 hrow h0
    go_enter Try.func39, Try.ntmps39
    go_wp2_with fail
    go_quiet (fail)
    go_wp2_with fail
    go_ret2
    exact ⟨by rw [← HR1.out]; push_cast; rfl, below_drewN (Below.refl _ _) _⟩
theorem rat_none (B rb : Nat) (base term : Int) (v : Value) (es : List En) (i : Int) (w : World) (hk : ¬ (base < i ∧ i - base ≤ es.length)) (hL : RfAt w B rb base term v es) (hN : LogNums base es.length i) :
    Calls Try.prog 33 #[.pointer (some ⟨rb, 0, none⟩), .int .i64 i] w (AtAt (En.zero.plain, false) w) := by
  obtain ⟨a, c, hv⟩ := hL.form
  subst hv
  obtain ⟨n, hn⟩ : ∃ n, es.length = n := ⟨_, rfl⟩
  have hb0 := (Below.refl w.heap.size w).alloc (Nat.le_refl _) (.cells zeroEnA 59)
  have hk0 := heap_alloc_new w (.cells zeroEnA 59)
  have hL0 := hL.below hb0 (Nat.le_refl _)
  obtain ⟨h1, h2, h3, h4, h5⟩ := hN
  rw [hn] at hk h5
  have c0 := hL0.c0
  have c2 : (w.alloc (.cells zeroEnA 59)).cell? ⟨rb, 2, none⟩ = some (.slice a n c) := by rw [← hn]; exact hL0.c2
  have w1 : IntKind.i64.wrap (base + (n : Int)) = base + n := IntWalk.i64_in _ (by omega)
  have HB0 := Lib.hid hb0
  have HK0 := Lib.hid hk0
  have HK := Lib.hid hk
  clear hb0 hk0 hL hL0 hk hn
  dsimp only [zeroEnA] at HB0 HK0 c0 c2
  go_enter Try.func33, Try.ntmps33
  go_upto_region 1 with fail
  generalize w.alloc (.cells #[.int .i64 0, .int .u8 0, .int .i64 0, .int .i64 0, .int .u8 0, .string ⟨#[]⟩, .slice none 0 0, .int .i64 0, .slice none 0 0] 59) = w0 at HB0 HK0 c0 c2 ⊢
  by_cases g1 : i ≤ base
  rotate_left
  focus
    have dr : decide (i ≤ base) = false := by simpa using g1
    have g2 : base + (n : Int) < i := by have := HK.out; omega
    have dr2 : decide (base + (n : Int) < i) = true := by simpa using g2
    go_quiet (fail)
  rotate_left
  focus
    have dr : decide (i ≤ base) = true := by simpa using g1
    have g2 : True := trivial
    have dr2 : True := trivial
    go_quiet (fail)
  all_goals (clear dr dr2 g1 g2 c0 c2 w1)
  all_goals (generalize hwd : w0.drewN _ = wd; have hb1 : Below w.heap.size w wd := by { rw [← hwd]; exact below_drewN HB0.out _ }; have K1 := Lib.hid (show wd.heap[w.heap.size]? = some (.cells zeroEnA 59 (0, 0)) from (by { rw [← hwd]; exact HK0.out })); clear hwd)
  all_goals (go_wp2_with (refine wpList_store_row rfl 59 (.tmp 4) (.tmp 26) rfl w.heap.size (enCells En.zero).toArray rfl rfl 59 _ K1.out (info_enC _) rfl (enArr_one _) ?_; rw [setRow_sameL (cs := (enCells En.zero).toArray) K1.out]))
  all_goals (exact bodyPost_ret (results_cell_row_ld rfl _ _ w.heap.size 59 _ _ _ _ rfl rfl K1.out Try.underlying59 rfl info_en9) rfl ⟨En.zero, rfl, rfl, ⟨Or.inl rfl, Or.inl rfl⟩, ⟨fun _ => rfl, fun _ => rfl⟩, hb1⟩)
set_option maxHeartbeats 4000000 in
theorem rat_val (B rb : Nat) (base term : Int) (v : Value) (es : List En) (i : Int) (k : Nat) (x : En) (w : World) (hi : i = base + 1 + k) (hx : es[k]? = some x) (hL : RfAt w B rb base term v es) (hN : LogNums base es.length i) :
    Calls Try.prog 33 #[.pointer (some ⟨rb, 0, none⟩), .int .i64 i] w fun e w' => e = .returned (.tuple #[enVal x, .bool true]) ∧ Below w.heap.size w w' := by
  have hkn : k < es.length := (List.getElem?_eq_some_iff.1 hx).1
  obtain ⟨g, c, hv⟩ := Go.Joins.ownsRow_form hL.row (by omega)
  subst hv
  obtain ⟨n, hn⟩ : ∃ n, es.length = n := ⟨_, rfl⟩
  have hb0 := (Below.refl w.heap.size w).alloc (Nat.le_refl _) (.cells zeroEnA 59)
  have hk0 := heap_alloc_new w (.cells zeroEnA 59)
  have hL0 := hL.below hb0 (Nat.le_refl _)
  have hgl := (World.ownsRow.lt hL.row g rfl).2
  have hrl := hL.lt
  have hxm : x ∈ es := List.mem_of_getElem? hx
  have HSB := Lib.hid (hL.sub x hxm)
  have HNL := Lib.hid (hL.nils x hxm)
  obtain ⟨h1, h2, h3, h4, h5⟩ := hN
  have w1 : IntKind.i64.wrap (base + (n : Int)) = base + n := IntWalk.i64_in _ (by omega)
  have w2 : IntKind.i64.wrap (i - base) = (k : Int) + 1 := by rw [IntWalk.i64_in _ (by omega)]; omega
  have w3 : IntKind.i64.wrap ((k : Int) + 1 - 1) = k := by rw [IntWalk.i64_in _ (by omega)]; omega
  have w4 : IntKind.i64.wrap (k : Int) = k := IntWalk.i64_in _ (by omega)
  have i0 : (0 : Int) ≤ k := by omega
  have dr : decide (i ≤ base) = false := by simp; omega
  have dr2 : decide (base + (n : Int) < i) = false := by simp; omega
  have i1 : (k : Int) < n := by omega
  obtain ⟨x0, x1, x2, x3, ck, text, ao, args, ac, num, vo, vs, vc⟩ := x
  have hcc : ∀ w' : World, (∀ g', g' < w.heap.size → w'.heap[g']? = w.heap[g']?) → w'.cell? ⟨rb, 0, none⟩ = some (.int .i64 base) ∧ w'.cell? ⟨rb, 2, none⟩ = some (.slice (some ⟨g, 0, none⟩) n c) ∧ ∀ j, j < 9 → w'.cell? ⟨g, k * 9 + j, none⟩ = (enCells ⟨x0, x1, x2, x3, ck, text, ao, args, ac, num, vo, vs, vc⟩)[j]? := fun w' hw => by
    refine ⟨(by simp only [World.cell?, hw rb hrl]; exact hL.c0), (by simp only [World.cell?, hw rb hrl]; have := hL.c2; rw [hn] at this; exact this), fun j hj => ?_⟩
    have hf := flat_get enCells_len es k _ hx j hj
    have hc := World.ownsRow.cellAt hL.row (k * 9 + j) (by have := hkn; omega)
    simp only [World.cell?, hw g hgl]
    exact hc.trans hf
  have HC := Lib.hid (show ∀ w' : World, (∀ g', g' < w.heap.size → w'.heap[g']? = w.heap[g']?) → w'.cell? ⟨rb, 0, none⟩ = some (.int .i64 base) ∧ w'.cell? ⟨rb, 2, none⟩ = some (.slice (some ⟨g, 0, none⟩) n c) ∧ w'.cell? ⟨g, k * 9, none⟩ = some (.int .i64 x0) ∧ w'.cell? ⟨g, k * 9 + 1, none⟩ = some (.int .u8 x1) ∧ w'.cell? ⟨g, k * 9 + 2, none⟩ = some (.int .i64 x2) ∧ w'.cell? ⟨g, k * 9 + 3, none⟩ = some (.int .i64 x3) ∧ w'.cell? ⟨g, k * 9 + 4, none⟩ = some (.int .u8 ck) ∧ w'.cell? ⟨g, k * 9 + 5, none⟩ = some (.string text) ∧ w'.cell? ⟨g, k * 9 + 6, none⟩ = some (.slice ao args.length ac) ∧ w'.cell? ⟨g, k * 9 + 7, none⟩ = some (.int .i64 num) ∧ w'.cell? ⟨g, k * 9 + 8, none⟩ = some (.slice vo vs.length vc) from fun w' hw => by
    obtain ⟨q0, q2, qq⟩ := hcc w' hw
    exact ⟨q0, q2, qq 0 (by decide), qq 1 (by decide), qq 2 (by decide), qq 3 (by decide), qq 4 (by decide), qq 5 (by decide), qq 6 (by decide), qq 7 (by decide), qq 8 (by decide)⟩)
  clear hcc
  have HB0 := Lib.hid hb0
  have HK0 := Lib.hid hk0
  have hS0 : ∀ g', g' < w.heap.size → (w.alloc (.cells zeroEnA 59)).heap[g']? = w.heap[g']? := fun g' hg' => hb0.block g' hg'
  have hc00 := (HC.out _ hS0).1
  have hc02 := (HC.out _ hS0).2.1
  clear hb0 hk0 hL hL0 hx hn hi hxm hkn
  dsimp only [zeroEnA] at HB0 HK0 hS0 hc00 hc02
  go_enter Try.func33, Try.ntmps33
  go_upto_region 1 with fail
  generalize w.alloc (.cells #[.int .i64 0, .int .u8 0, .int .i64 0, .int .i64 0, .int .u8 0, .string ⟨#[]⟩, .slice none 0 0, .int .i64 0, .slice none 0 0] 59) = w0 at HB0 HK0 hS0 hc00 hc02 ⊢
  go_quiet (fail)
  clear hc00 hc02
  generalize hwd : w0.drewN _ = wd
  have hb1 : Below w.heap.size w wd := by rw [← hwd]; exact below_drewN HB0.out _
  have hk1 : wd.heap[w.heap.size]? = some (.cells zeroEnA 59 (0, 0)) := by rw [← hwd]; exact HK0.out
  have hs1 : ∀ g', g' < w.heap.size → wd.heap[g']? = w.heap[g']? := by rw [← hwd]; exact hS0
  have HB1 := Lib.hid hb1
  have HK1 := Lib.hid hk1
  have HS1 := Lib.hid hs1
  clear hwd hb1 hk1 hs1 hS0 HB0 HK0
  go_upto_region 3 with fail
  refine heldS_begin (fun (w' : World) => ∀ g', g' < w.heap.size → w'.heap[g']? = w.heap[g']?) (by kernel_rfl) (HS1.out) ?_
  intro hS0
  (first | (refine takeS_no 0 rfl (by kernel_rfl) (by kernel_rfl) (by kernel_rfl) (fun _ _ _ h => h) (by rfl) (by assumption) ?_) | (refine takeS_yes (v := ?_) 0 rfl (by kernel_rfl) (by kernel_rfl) (by kernel_rfl) (fun _ _ _ h => h) (by rfl) (by assumption) ?_ ?_; rotate_left; focus (intro wS hSw; obtain ⟨q0, q2, r0, r1, r2, r3, r4, r5, r6, r7, r8⟩ := HC.out wS hSw; go_simp; first | done | with_reducible rfl)))
  (try simp only [Act.put, List.setIfInBounds_toArray, List.set_cons_zero, List.set_cons_succ])
  (first | (refine takeS_no 1 rfl (by kernel_rfl) (by kernel_rfl) (by kernel_rfl) (fun _ _ _ h => h) (by rfl) (by assumption) ?_) | (refine takeS_yes (v := ?_) 1 rfl (by kernel_rfl) (by kernel_rfl) (by kernel_rfl) (fun _ _ _ h => h) (by rfl) (by assumption) ?_ ?_; rotate_left; focus (intro wS hSw; obtain ⟨q0, q2, r0, r1, r2, r3, r4, r5, r6, r7, r8⟩ := HC.out wS hSw; go_simp; first | done | with_reducible rfl)))
  (try simp only [Act.put, List.setIfInBounds_toArray, List.set_cons_zero, List.set_cons_succ])
  (first | (refine takeS_no 2 rfl (by kernel_rfl) (by kernel_rfl) (by kernel_rfl) (fun _ _ _ h => h) (by rfl) (by assumption) ?_) | (refine takeS_yes (v := ?_) 2 rfl (by kernel_rfl) (by kernel_rfl) (by kernel_rfl) (fun _ _ _ h => h) (by rfl) (by assumption) ?_ ?_; rotate_left; focus (intro wS hSw; obtain ⟨q0, q2, r0, r1, r2, r3, r4, r5, r6, r7, r8⟩ := HC.out wS hSw; go_simp; first | done | with_reducible rfl)))
  (try simp only [Act.put, List.setIfInBounds_toArray, List.set_cons_zero, List.set_cons_succ])
  (first | (refine takeS_no 3 rfl (by kernel_rfl) (by kernel_rfl) (by kernel_rfl) (fun _ _ _ h => h) (by rfl) (by assumption) ?_) | (refine takeS_yes (v := ?_) 3 rfl (by kernel_rfl) (by kernel_rfl) (by kernel_rfl) (fun _ _ _ h => h) (by rfl) (by assumption) ?_ ?_; rotate_left; focus (intro wS hSw; obtain ⟨q0, q2, r0, r1, r2, r3, r4, r5, r6, r7, r8⟩ := HC.out wS hSw; go_simp; first | done | with_reducible rfl)))
  (try simp only [Act.put, List.setIfInBounds_toArray, List.set_cons_zero, List.set_cons_succ])
  (first | (refine takeS_no 4 rfl (by kernel_rfl) (by kernel_rfl) (by kernel_rfl) (fun _ _ _ h => h) (by rfl) (by assumption) ?_) | (refine takeS_yes (v := ?_) 4 rfl (by kernel_rfl) (by kernel_rfl) (by kernel_rfl) (fun _ _ _ h => h) (by rfl) (by assumption) ?_ ?_; rotate_left; focus (intro wS hSw; obtain ⟨q0, q2, r0, r1, r2, r3, r4, r5, r6, r7, r8⟩ := HC.out wS hSw; go_simp; first | done | with_reducible rfl)))
  (try simp only [Act.put, List.setIfInBounds_toArray, List.set_cons_zero, List.set_cons_succ])
  (first | (refine takeS_no 5 rfl (by kernel_rfl) (by kernel_rfl) (by kernel_rfl) (fun _ _ _ h => h) (by rfl) (by assumption) ?_) | (refine takeS_yes (v := ?_) 5 rfl (by kernel_rfl) (by kernel_rfl) (by kernel_rfl) (fun _ _ _ h => h) (by rfl) (by assumption) ?_ ?_; rotate_left; focus (intro wS hSw; obtain ⟨q0, q2, r0, r1, r2, r3, r4, r5, r6, r7, r8⟩ := HC.out wS hSw; go_simp; first | done | with_reducible rfl)))
  (try simp only [Act.put, List.setIfInBounds_toArray, List.set_cons_zero, List.set_cons_succ])
  (first | (refine takeS_no 6 rfl (by kernel_rfl) (by kernel_rfl) (by kernel_rfl) (fun _ _ _ h => h) (by rfl) (by assumption) ?_) | (refine takeS_yes (v := ?_) 6 rfl (by kernel_rfl) (by kernel_rfl) (by kernel_rfl) (fun _ _ _ h => h) (by rfl) (by assumption) ?_ ?_; rotate_left; focus (intro wS hSw; obtain ⟨q0, q2, r0, r1, r2, r3, r4, r5, r6, r7, r8⟩ := HC.out wS hSw; go_simp; first | done | with_reducible rfl)))
  (try simp only [Act.put, List.setIfInBounds_toArray, List.set_cons_zero, List.set_cons_succ])
  (first | (refine takeS_no 7 rfl (by kernel_rfl) (by kernel_rfl) (by kernel_rfl) (fun _ _ _ h => h) (by rfl) (by assumption) ?_) | (refine takeS_yes (v := ?_) 7 rfl (by kernel_rfl) (by kernel_rfl) (by kernel_rfl) (fun _ _ _ h => h) (by rfl) (by assumption) ?_ ?_; rotate_left; focus (intro wS hSw; obtain ⟨q0, q2, r0, r1, r2, r3, r4, r5, r6, r7, r8⟩ := HC.out wS hSw; go_simp; first | done | with_reducible rfl)))
  (try simp only [Act.put, List.setIfInBounds_toArray, List.set_cons_zero, List.set_cons_succ])
  (first | (refine takeS_no 8 rfl (by kernel_rfl) (by kernel_rfl) (by kernel_rfl) (fun _ _ _ h => h) (by rfl) (by assumption) ?_) | (refine takeS_yes (v := ?_) 8 rfl (by kernel_rfl) (by kernel_rfl) (by kernel_rfl) (fun _ _ _ h => h) (by rfl) (by assumption) ?_ ?_; rotate_left; focus (intro wS hSw; obtain ⟨q0, q2, r0, r1, r2, r3, r4, r5, r6, r7, r8⟩ := HC.out wS hSw; go_simp; first | done | with_reducible rfl)))
  (try simp only [Act.put, List.setIfInBounds_toArray, List.set_cons_zero, List.set_cons_succ])
  (first | (refine takeS_no 9 rfl (by kernel_rfl) (by kernel_rfl) (by kernel_rfl) (fun _ _ _ h => h) (by rfl) (by assumption) ?_) | (refine takeS_yes (v := ?_) 9 rfl (by kernel_rfl) (by kernel_rfl) (by kernel_rfl) (fun _ _ _ h => h) (by rfl) (by assumption) ?_ ?_; rotate_left; focus (intro wS hSw; obtain ⟨q0, q2, r0, r1, r2, r3, r4, r5, r6, r7, r8⟩ := HC.out wS hSw; go_simp; first | done | with_reducible rfl)))
  (try simp only [Act.put, List.setIfInBounds_toArray, List.set_cons_zero, List.set_cons_succ])
  (first | (refine takeS_no 10 rfl (by kernel_rfl) (by kernel_rfl) (by kernel_rfl) (fun _ _ _ h => h) (by rfl) (by assumption) ?_) | (refine takeS_yes (v := ?_) 10 rfl (by kernel_rfl) (by kernel_rfl) (by kernel_rfl) (fun _ _ _ h => h) (by rfl) (by assumption) ?_ ?_; rotate_left; focus (intro wS hSw; obtain ⟨q0, q2, r0, r1, r2, r3, r4, r5, r6, r7, r8⟩ := HC.out wS hSw; go_simp; first | done | with_reducible rfl)))
  (try simp only [Act.put, List.setIfInBounds_toArray, List.set_cons_zero, List.set_cons_succ])
  (first | (refine takeS_no 11 rfl (by kernel_rfl) (by kernel_rfl) (by kernel_rfl) (fun _ _ _ h => h) (by rfl) (by assumption) ?_) | (refine takeS_yes (v := ?_) 11 rfl (by kernel_rfl) (by kernel_rfl) (by kernel_rfl) (fun _ _ _ h => h) (by rfl) (by assumption) ?_ ?_; rotate_left; focus (intro wS hSw; obtain ⟨q0, q2, r0, r1, r2, r3, r4, r5, r6, r7, r8⟩ := HC.out wS hSw; go_simp; first | done | with_reducible rfl)))
  (try simp only [Act.put, List.setIfInBounds_toArray, List.set_cons_zero, List.set_cons_succ])
  (first | (refine takeS_no 12 rfl (by kernel_rfl) (by kernel_rfl) (by kernel_rfl) (fun _ _ _ h => h) (by rfl) (by assumption) ?_) | (refine takeS_yes (v := ?_) 12 rfl (by kernel_rfl) (by kernel_rfl) (by kernel_rfl) (fun _ _ _ h => h) (by rfl) (by assumption) ?_ ?_; rotate_left; focus (intro wS hSw; obtain ⟨q0, q2, r0, r1, r2, r3, r4, r5, r6, r7, r8⟩ := HC.out wS hSw; go_simp; first | done | with_reducible rfl)))
  (try simp only [Act.put, List.setIfInBounds_toArray, List.set_cons_zero, List.set_cons_succ])
  refine takeS_alone 13 rfl (by kernel_rfl) (by rfl) (fun K hK => ?_)
  skip
  (refine wp_store_row 59 (.tmp 4) (.tmp 39) rfl w.heap.size (enCells ⟨x0, x1, x2, x3, ck, text, ao, args, ac, num, vo, vs, vc⟩).toArray rfl rfl 59 zeroEnA HK1.out (info_enC _) rfl (enArr_one _) ?_; have hS2 : ∀ g', g' < w.heap.size → (wd.drew.setRow w.heap.size (enCells ⟨x0, x1, x2, x3, ck, text, ao, args, ac, num, vo, vs, vc⟩).toArray).heap[g']? = w.heap[g']? := fun g' hg' => (setRow_other _ _ _ _ (by omega)).trans (HS1.out g' hg'))
  refine hK.out _ _ (by assumption) ?_
  clear hK K
  (try simp only [Act.put, List.setIfInBounds_toArray, List.set_cons_zero, List.set_cons_succ])
  (first | (refine takeS_no 14 rfl (by kernel_rfl) (by kernel_rfl) (by kernel_rfl) (fun _ _ _ h => h) (by rfl) (by assumption) ?_) | (refine takeS_yes (v := ?_) 14 rfl (by kernel_rfl) (by kernel_rfl) (by kernel_rfl) (fun _ _ _ h => h) (by rfl) (by assumption) ?_ ?_; rotate_left; focus (intro wS hSw; obtain ⟨q0, q2, r0, r1, r2, r3, r4, r5, r6, r7, r8⟩ := HC.out wS hSw; go_simp; first | done | with_reducible rfl)))
  (try simp only [Act.put, List.setIfInBounds_toArray, List.set_cons_zero, List.set_cons_succ])
  refine wpAnyH_done (by kernel_rfl) ?_ _
  generalize hye : (⟨x0, x1, x2, x3, ck, text, ao, args, ac, num, vo, vs, vc⟩ : En) = y at hS2 HSB HNL ⊢
  have hk9 := setRow_heap wd.drew w.heap.size zeroEnA (enCells y).toArray 59 (0, 0) HK1.out
  have hg9 := grown_row wd.drew w.heap.size (enCells y).toArray
  have hb9 : Below w.heap.size w (wd.drew.setRow w.heap.size (enCells y).toArray) := (Below.drew HB1.out).grown hg9 (by simpa using HB1.out.size) (fun q hq => by cases hq; exact Nat.le_refl _)
  have HYE := Lib.hid hye
  clear hye
  generalize wd.drew.setRow w.heap.size (enCells y).toArray = w9 at hk9 hg9 hb9 hS2 ⊢
  have hs9 : enSub w9 w9.heap.size y := enSub_keeps (K := fun _ => True) HSB.out ⟨hb9.size, fun g' hg' _ => hS2 g' hg'⟩ (enK_sub HSB.out fun _ _ => trivial)
  have HK9 := Lib.hid hk9
  have HS9 := Lib.hid hs9
  have HB9 := Lib.hid hb9
  clear hk9 hs9 hb9 hS2 hS0 hg9
  simp only [Exit.then]
  rename (∀ (_ : Act) (_ : World), _ → _) => hK0
  refine hK0 _ _ ?_
  clear hK0
  go_wp2_with fail
  exact bodyPost_ret (results_cell_row_ld rfl _ _ w.heap.size 59 _ _ _ _ rfl rfl HK9.out Try.underlying59 rfl (info_enC y)) rfl ⟨by rw [HYE.out]; rfl, HB9.out⟩
theorem rat_some (B rb : Nat) (base term : Int) (v : Value) (es : List En) (i : Int) (k : Nat) (x : En) (w : World) (hi : i = base + 1 + k) (hx : es[k]? = some x) (hL : RfAt w B rb base term v es) (hN : LogNums base es.length i) :
    Calls Try.prog 33 #[.pointer (some ⟨rb, 0, none⟩), .int .i64 i] w (AtAt (x.plain, true) w) :=
  (rat_val B rb base term v es i k x w hi hx hL hN).mono fun e w' ⟨h1, h2⟩ => ⟨x, h1, rfl, enSub_rising _ _ _ _ (enSub_kept _ _ _ _ _ (hL.sub x (List.mem_of_getElem? hx)) h2 (Nat.le_refl _)) h2.size, hL.nils x (List.mem_of_getElem? hx), h2⟩
theorem rat_any (B rb : Nat) (base term : Int) (v : Value) (es : List En) (i : Int) (r : EnP × Bool) (w : World) (hr : atS base (es.map En.plain) i = r) (hL : RfAt w B rb base term v es) (hN : LogNums base es.length i) :
    Calls Try.prog 33 #[.pointer (some ⟨rb, 0, none⟩), .int .i64 i] w (AtAt r w) := by
  subst hr
  by_cases c : base < i ∧ i - base ≤ es.length
  · obtain ⟨k, hk⟩ : ∃ k : Nat, i = base + 1 + k := ⟨(i - base - 1).toNat, by omega⟩
    have hkn : k < es.length := by omega
    rw [atS_in (k := k) (by rw [List.length_map]; exact hkn) hk, List.getElem_map]
    exact rat_some B rb base term v es i k _ w hk (List.getElem?_eq_getElem hkn) hL hN
  · rw [atS_out (by rw [List.length_map]; exact c)]
    exact rat_none B rb base term v es i w c hL hN
theorem at_any (B lb : Nat) (base term : Int) (v : Value) (es : List En) (i : Int) (r : EnP × Bool) (w : World) (hr : atS base (es.map En.plain) i = r) (hL : LogAt w B lb base term v es) (hN : LogNums base es.length i) (hq : EnsArg es) :
    Calls Try.prog 43 #[.pointer (some ⟨lb, 0, none⟩), .int .i64 i] w (AtAt r w) := by
  subst hr
  by_cases c : base < i ∧ i - base ≤ es.length
  · obtain ⟨k, hk⟩ : ∃ k : Nat, i = base + 1 + k := ⟨(i - base - 1).toNat, by omega⟩
    have hkn : k < es.length := by omega
    rw [atS_in (k := k) (by rw [List.length_map]; exact hkn) hk, List.getElem_map]
    exact at_some B lb base term v es i k _ w hk (List.getElem?_eq_getElem hkn) hL hN hq
  · rw [atS_out (by rw [List.length_map]; exact c)]
    exact at_none B lb base term v es i w c hL hN
set_option maxHeartbeats 1000000 in
theorem rterm_any (B rb : Nat) (base term : Int) (v : Value) (es : List En) (i : Int) (r : Int) (ok : Bool) (w : World) (hr : termS base term (es.map En.plain) i = (r, ok)) (hL : RfAt w B rb base term v es) (hN : LogNums base es.length i) :
    Calls Try.prog 13 #[.pointer (some ⟨rb, 0, none⟩), .int .i64 i] w (PlaceAt r ok w) := by
  have c0 := hL.c0
  have c1 := hL.c1
  have HL := Lib.hid hL
  have HN := Lib.hid hN
  clear hL hN
  by_cases h : i = base
  · subst h
    rw [termS_base] at hr
    obtain ⟨rfl, rfl⟩ := Prod.mk.inj hr
    clear hr
    go_enter Try.func13, Try.ntmps13
    go_wp2_with fail
    go_ret2
    exact ⟨rfl, Below.refl _ _⟩
  · rw [termS_at h] at hr
    obtain ⟨⟨p, is⟩, hp⟩ : ∃ q, atS base (es.map En.plain) i = q := ⟨_, rfl⟩
    rw [hp] at hr
    obtain ⟨rfl, rfl⟩ := Prod.mk.inj hr
    have HP := Lib.hid hp
    clear hr hp
    have dr : decide (i = base) = false := by simpa using h
    go_enter Try.func13, Try.ntmps13
    go_wp2_with fail
    refine (rat_any B rb base term v es i _ w HP.out HL.out HN.out).mono ?_
    rintro e w1 ⟨x, rfl, hxp, _, _, hb⟩
    have hxt : x.term = p.term := congrArg EnP.term hxp
    obtain ⟨x0, x1, x2, x3, ck, text, ao, args, ac, num, vo, vs, vc⟩ := x
    dsimp only at hxt
    dsimp only [enVal]
    have hb1 : Below w.heap.size w (w1.alloc (.cells #[.int .i64 x0, .int .u8 x1, .int .i64 x2, .int .i64 x3, .int .u8 ck, .string text, .slice ao args.length ac, .int .i64 num, .slice vo vs.length vc] 59)) := hb.alloc hb.size _
    have hk := heap_alloc_new w1 (.cells #[.int .i64 x0, .int .u8 x1, .int .i64 x2, .int .i64 x3, .int .u8 ck, .string text, .slice ao args.length ac, .int .i64 num, .slice vo vs.length vc] 59)
    have HB := Lib.hid hb1
    have HXT := Lib.hid hxt
    clear hxp hxt hb hb1 c0 c1
    go_upto_region 4 with fail
    generalize w1.alloc (.cells #[.int .i64 x0, .int .u8 x1, .int .i64 x2, .int .i64 x3, .int .u8 ck, .string text, .slice ao args.length ac, .int .i64 num, .slice vo vs.length vc] 59) = w2 at HB hk ⊢
    have d0 := Go.Joins.cell_of_block hk 0
    clear hk
    go_wp2_with fail
    go_ret2
    exact ⟨by rw [show p.term = x0 from HXT.out.symm]; rfl, HB.out⟩
end Go.Proofs.Ytljfanhkbbfngaa
/- A few blocks laid one behind the other. Any program. Conditions: none. -/
namespace Go.Proofs.Ytljfanhkbbfngaa
open Go.RowKit
theorem keep_alloc {w : World} {g : Nat} {x : Obj} (h : w.heap[g]? = some x) (o : Obj) : (w.alloc o).heap[g]? = some x :=
  ((World.grownBy_alloc w o none).block g (Array.getElem?_eq_some_iff.1 h).1 (by simp)).trans h
theorem alloc2_facts (w : World) (A B : Array Value) (T1 T2 : TypeId) : Below w.heap.size w ((w.alloc (.cells A T1)).alloc (.cells B T2)) ∧ ((w.alloc (.cells A T1)).alloc (.cells B T2)).heap[w.heap.size]? = some (.cells A T1 (0, 0)) ∧ ((w.alloc (.cells A T1)).alloc (.cells B T2)).heap[w.heap.size + 1]? = some (.cells B T2 (0, 0)) ∧ ((w.alloc (.cells A T1)).alloc (.cells B T2)).heap.size = w.heap.size + 2 := by
  refine ⟨((Below.refl _ _).alloc (Nat.le_refl _) _).alloc (by simp) _, keep_alloc (heap_alloc_new w _) _, ?_, by simp⟩
  have := heap_alloc_new (w.alloc (.cells A T1)) (.cells B T2)
  simpa using this
end Go.Proofs.Ytljfanhkbbfngaa
