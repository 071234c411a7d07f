/- Commands of a wal: their frames; that they are carried. Conditions: as each says. -/
import Derived.Test.YtnhnabcpkaeaaaaGreatDoorGWalNone17
import Derived.Test.YtnhnabcpkaeaaaaGreatDoorGWalNone9
import Derived.Test.YtnhnabcpkaeaaaaGreatDoorGWalNone10
set_option linter.unusedVariables false
set_option linter.unusedSimpArgs false
namespace Go.Proofs.YtnhnabcpkaeaaaaGreatDoor
open Go.RowKit
set_option maxRecDepth 20000
def cmdP (k : Int) : EnP := ⟨2, 2, 1, k, 0, ⟨#[]⟩, [], 0, []⟩
theorem eqI_zero (a : Option Addr) (c : Nat) (w : World) : Calls Tryz.prog 90 #[.slice none 0 0, .slice a 0 c] w fun e w' => e = .returned (.bool true) ∧ w = w' := by
  go_enter Tryz.func90, Tryz.ntmps90
  go_wp2_with fail
  refine wp_loop_rounds 1 ?_
  rw [rounds_succ]
  go_wp2_with fail
  go_ret
  exact ⟨rfl, rfl⟩
theorem eqV_zero (a : Option Addr) (c : Nat) (w : World) : Calls Tryz.prog 91 #[.slice none 0 0, .slice a 0 c] w fun e w' => e = .returned (.bool true) ∧ w = w' := by
  go_enter Tryz.func91, Tryz.ntmps91
  go_wp2_with fail
  refine wp_loop_rounds 1 ?_
  rw [rounds_succ]
  go_wp2_with fail
  go_ret
  exact ⟨rfl, rfl⟩
theorem cmd_w (k : Int) (L : List Int) (w : World) (hL : entryB (cmdP k) = L) : Calls Tryz.prog 89 #[.agg #[.int .i64 2, .int .u8 2, .int .i64 1, .int .i64 k, .int .u8 0, .string ⟨#[]⟩, .slice none 0 0, .int .i64 0, .slice none 0 0]] w (BytesNew L w.heap.size w) :=
  hL ▸ wentry_any 2 2 1 k 0 ⟨#[]⟩ none 0 0 [] 0 none 0 0 [] w rfl rfl (Or.inl rfl) (Or.inl rfl) (fun v hv => by cases hv) (by omega) (by omega) (by decide)
theorem cmdP_fit (k : Int) (hk : N64 k) : EnFit (cmdP k) := by
  unfold EnFit cmdP CmFit VasFit
  dsimp only
  refine ⟨⟨by decide, by decide⟩, ⟨by decide, by decide⟩, hk, ⟨by decide, ⟨by decide, by decide⟩, by decide, fun v hv => by cases hv⟩, by decide, fun v hv => by cases hv⟩
theorem cmdB_len (k : Int) : (entryB (cmdP k)).length = 46 := by
  unfold entryB cmdP commandB valuesB
  dsimp only
  rw [List.length_append, List.length_cons, List.length_append, List.length_append, List.length_append, List.length_cons, List.length_append, List.length_append, List.length_append, List.length_append, numB_len, numB_len, numB_len, numB_len, textB_len, numB_len, numB_len]
  rfl
theorem cmdB_wf (k : Int) : BytesWf (entryB (cmdP k)) := entryB_wf _ rfl rfl (fun v hv => by cases hv)
theorem cmdB_back (k : Int) (hk : N64 k) : entryS false (entryB (cmdP k)) = (cmdP k, false, []) := by
  have := entryS_back (cmdP k) [] (cmdP_fit k hk)
  rwa [List.append_nil] at this
theorem grown_rowW (w : World) (g : Nat) (cs : Array Value) : w.grownBy (w.setRow g cs) (some g) := ⟨rfl, rfl, rfl, by simp, fun k _ hk => setRow_other w g k cs (fun e => hk (by rw [e]))⟩
theorem cmdZ_one : (#[.int .u8 0, .string ⟨#[]⟩, .slice none 0 0, .int .i64 0] : Array Value).all (·.oneCell') = true := by simp [Value.oneCell']
theorem cmdO_one (ao : Option Addr) (ac : Nat) : (#[.int .u8 0, .string ⟨#[]⟩, .slice ao 0 ac, .int .i64 0] : Array Value).all (·.oneCell') = true := by simp [Value.oneCell']
theorem info_cmdZ : (Tryz.prog.info? 57).map (·.size) = some (#[.int .u8 0, .string ⟨#[]⟩, .slice none 0 0, .int .i64 0] : Array Value).size := by kernel_rfl
theorem info_cmdO (ao vo : Option Addr) (ac : Nat) : (Tryz.prog.info? 57).map (·.size) = some (#[.int .u8 0, .string ⟨#[]⟩, .slice ao 0 ac, .int .i64 0] : Array Value).size := by kernel_rfl
set_option maxHeartbeats 2000000 in
theorem carried_any (k : Int) (hk : N64 k) (w : World) : Calls Tryz.prog 51 #[.agg #[.int .i64 2, .int .u8 2, .int .i64 1, .int .i64 k, .int .u8 0, .string ⟨#[]⟩, .slice none 0 0, .int .i64 0, .slice none 0 0]] w fun e w' => e = .returned (.bool true) ∧ Below w.heap.size w w' := by
  have hb0 := (Below.refl w.heap.size w).alloc (Nat.le_refl _) (.cells #[.int .i64 2, .int .u8 2, .int .i64 1, .int .i64 k, .int .u8 0, .string ⟨#[]⟩, .slice none 0 0, .int .i64 0, .slice none 0 0] 60)
  have hk0 := heap_alloc_new w (.cells #[.int .i64 2, .int .u8 2, .int .i64 1, .int .i64 k, .int .u8 0, .string ⟨#[]⟩, .slice none 0 0, .int .i64 0, .slice none 0 0] 60)
  go_enter Tryz.func51, Tryz.ntmps51
  go_upto_region 1 with fail
  generalize w.alloc (.cells #[.int .i64 2, .int .u8 2, .int .i64 1, .int .i64 k, .int .u8 0, .string ⟨#[]⟩, .slice none 0 0, .int .i64 0, .slice none 0 0] 60) = w0 at hb0 hk0 ⊢
  obtain ⟨q0, q1, q2, q3, q4, q5, q6, q7, q8⟩ := cells9 hk0
  obtain ⟨L, hL⟩ : ∃ L, entryB (cmdP k) = L := ⟨_, rfl⟩
  have HL := Lib.hid hL
  clear hL
  go_wp2_with fail
  refine (cmd_w k L w0 HL.out).mono ?_
  rintro e w1 ⟨a1, c1, rfl, ho1, hb1⟩
  have HO1 := Lib.hid ho1
  have hk1 := (hb1.block _ (Array.getElem?_eq_some_iff.1 hk0).1).trans hk0
  have hb01 := hb0.trans (hb1.mono hb0.size)
  have hlen : L.length = 46 := by rw [← HL.out]; exact cmdB_len k
  have HLEN := Lib.hid hlen
  have hnil := own_none ho1
  have HNIL := Lib.hid hnil
  clear ho1 hb1 hb0 hk0 q0 q1 q2 q3 q4 q5 q6 q7 q8 hnil
  rw [hlen]
  go_wp2_with fail
  refine (newReader_any a1 46 c1 L w1 w1.heap.size hlen (own_bytes' HO1.out) (Nat.le_refl _) HNIL.out (by omega)).mono ?_
  rintro e w2 ⟨rb, rfl, hrlo, hrd, hb2⟩
  have hk2 := (hb2.block _ (Array.getElem?_eq_some_iff.1 hk1).1).trans hk1
  have hb02 := hb01.trans (hb2.mono hb01.size)
  have HRD := Lib.hid hrd
  have hlt0 := (Array.getElem?_eq_some_iff.1 hk1).1
  clear hrd hb2 hk1 hb01
  go_wp2_with fail
  refine (rdEntry_any rb rb false L (cmdP k, false, []) w2 (HL.out ▸ cmdB_back k hk) HRD.out (HL.out ▸ cmdB_wf k) (by rw [HLEN.out]; omega)).mono ?_
  rintro e w3 ⟨f, hfp, rfl, hfo, hr3, ho3⟩
  obtain ⟨x0, x1, x2, x3, ck, text, ao, args, ac, num, vo, vs, vc⟩ := f
  simp only [En.plain, cmdP, EnP.mk.injEq] at hfp
  obtain ⟨rfl, rfl, rfl, h3, rfl, rfl, rfl, rfl, rfl⟩ := hfp
  obtain rfl := h3.symm
  unfold enVal
  dsimp only [List.length_nil]
  have hk3 := (ho3.block _ (Array.getElem?_eq_some_iff.1 hk2).1 (by omega)).trans hk2
  have hb03 := hb02.trans (ho3.toBelow hb02.size (by omega))
  have HR3 := Lib.hid hr3
  clear hfo hr3 ho3 hk2 hb02 HRD
  have hb4 := (Below.refl w3.heap.size w3).alloc (Nat.le_refl _) (.cells #[.int .i64 2, .int .u8 2, .int .i64 1, .int .i64 k, .int .u8 0, .string ⟨#[]⟩, .slice ao 0 ac, .int .i64 0, .slice vo 0 vc] 60)
  have hk4 := heap_alloc_new w3 (.cells #[.int .i64 2, .int .u8 2, .int .i64 1, .int .i64 k, .int .u8 0, .string ⟨#[]⟩, .slice ao 0 ac, .int .i64 0, .slice vo 0 vc] 60)
  go_upto_region 3 with fail
  generalize w3.alloc (.cells #[.int .i64 2, .int .u8 2, .int .i64 1, .int .i64 k, .int .u8 0, .string ⟨#[]⟩, .slice ao 0 ac, .int .i64 0, .slice vo 0 vc] 60) = w4 at hb4 hk4 ⊢
  have hS : w4.heap[w.heap.size]? = some (.cells #[.int .i64 2, .int .u8 2, .int .i64 1, .int .i64 k, .int .u8 0, .string ⟨#[]⟩, .slice none 0 0, .int .i64 0, .slice none 0 0] 60 (0, 0)) ∧ w4.heap[w3.heap.size]? = some (.cells #[.int .i64 2, .int .u8 2, .int .i64 1, .int .i64 k, .int .u8 0, .string ⟨#[]⟩, .slice ao 0 ac, .int .i64 0, .slice vo 0 vc] 60 (0, 0)) := ⟨(hb4.block _ (Array.getElem?_eq_some_iff.1 hk3).1).trans hk3, hk4⟩
  have hb04 := hb03.trans (hb4.mono hb03.size)
  have hz34 : w3.heap.size < w4.heap.size := (Array.getElem?_eq_some_iff.1 hk4).1
  have hz03 : w.heap.size < w3.heap.size := (Array.getElem?_eq_some_iff.1 hk3).1
  have H4 := Lib.hid (And.intro hb04 (HR3.out.below hb4))
  have HC := Lib.hid (fun (wS : World) (hh : wS.heap[w.heap.size]? = some (.cells #[.int .i64 2, .int .u8 2, .int .i64 1, .int .i64 k, .int .u8 0, .string ⟨#[]⟩, .slice none 0 0, .int .i64 0, .slice none 0 0] 60 (0, 0)) ∧ wS.heap[w3.heap.size]? = some (.cells #[.int .i64 2, .int .u8 2, .int .i64 1, .int .i64 k, .int .u8 0, .string ⟨#[]⟩, .slice ao 0 ac, .int .i64 0, .slice vo 0 vc] 60 (0, 0))) => And.intro (cells9 hh.1) (cells9 hh.2))
  clear hk3 hb03 hb4 hk4 hb04 HR3
  refine heldS_begin (fun (w' : World) => w'.heap[w.heap.size]? = some (.cells #[.int .i64 2, .int .u8 2, .int .i64 1, .int .i64 k, .int .u8 0, .string ⟨#[]⟩, .slice none 0 0, .int .i64 0, .slice none 0 0] 60 (0, 0)) ∧ w'.heap[w3.heap.size]? = some (.cells #[.int .i64 2, .int .u8 2, .int .i64 1, .int .i64 k, .int .u8 0, .string ⟨#[]⟩, .slice ao 0 ac, .int .i64 0, .slice vo 0 vc] 60 (0, 0))) (by kernel_rfl) (hS) ?_
  intro hS0
  (first | (refine takeS_no 0 rfl (by kernel_rfl) (by kernel_rfl) (by kernel_rfl) (fun _ _ _ h => h) (by rfl) (by assumption) ?_) | (refine takeS_yes (v := ?_) 0 rfl (by kernel_rfl) (by kernel_rfl) (by kernel_rfl) (fun _ _ _ h => h) (by rfl) (by assumption) ?_ ?_; rotate_left; focus (intro wS hSw; obtain ⟨⟨q0, q1, q2, q3, q4, q5, q6, q7, q8⟩, r0, r1, r2, r3, r4, r5, r6, r7, r8⟩ := HC.out wS hSw; go_simp; first | done | with_reducible rfl)))
  (try simp only [Act.put, List.setIfInBounds_toArray, List.set_cons_zero, List.set_cons_succ])
  (first | (refine takeS_no 1 rfl (by kernel_rfl) (by kernel_rfl) (by kernel_rfl) (fun _ _ _ h => h) (by rfl) (by assumption) ?_) | (refine takeS_yes (v := ?_) 1 rfl (by kernel_rfl) (by kernel_rfl) (by kernel_rfl) (fun _ _ _ h => h) (by rfl) (by assumption) ?_ ?_; rotate_left; focus (intro wS hSw; obtain ⟨⟨q0, q1, q2, q3, q4, q5, q6, q7, q8⟩, r0, r1, r2, r3, r4, r5, r6, r7, r8⟩ := HC.out wS hSw; go_simp; first | done | with_reducible rfl)))
  (try simp only [Act.put, List.setIfInBounds_toArray, List.set_cons_zero, List.set_cons_succ])
  (first | (refine takeS_no 2 rfl (by kernel_rfl) (by kernel_rfl) (by kernel_rfl) (fun _ _ _ h => h) (by rfl) (by assumption) ?_) | (refine takeS_yes (v := ?_) 2 rfl (by kernel_rfl) (by kernel_rfl) (by kernel_rfl) (fun _ _ _ h => h) (by rfl) (by assumption) ?_ ?_; rotate_left; focus (intro wS hSw; obtain ⟨⟨q0, q1, q2, q3, q4, q5, q6, q7, q8⟩, r0, r1, r2, r3, r4, r5, r6, r7, r8⟩ := HC.out wS hSw; go_simp; first | done | with_reducible rfl)))
  (try simp only [Act.put, List.setIfInBounds_toArray, List.set_cons_zero, List.set_cons_succ])
  (first | (refine takeS_no 3 rfl (by kernel_rfl) (by kernel_rfl) (by kernel_rfl) (fun _ _ _ h => h) (by rfl) (by assumption) ?_) | (refine takeS_yes (v := ?_) 3 rfl (by kernel_rfl) (by kernel_rfl) (by kernel_rfl) (fun _ _ _ h => h) (by rfl) (by assumption) ?_ ?_; rotate_left; focus (intro wS hSw; obtain ⟨⟨q0, q1, q2, q3, q4, q5, q6, q7, q8⟩, r0, r1, r2, r3, r4, r5, r6, r7, r8⟩ := HC.out wS hSw; go_simp; first | done | with_reducible rfl)))
  (try simp only [Act.put, List.setIfInBounds_toArray, List.set_cons_zero, List.set_cons_succ])
  have hbd : Below w4.heap.size w4 w4.drew := (Below.refl _ _).drew
  have HBD := Lib.hid hbd
  have hzd := hbd.size
  generalize w4.drew = wd at hS0 HBD hzd ⊢
  clear hbd hS
  have hSo : ∀ o, (wd.alloc o).heap[w.heap.size]? = some (.cells #[.int .i64 2, .int .u8 2, .int .i64 1, .int .i64 k, .int .u8 0, .string ⟨#[]⟩, .slice none 0 0, .int .i64 0, .slice none 0 0] 60 (0, 0)) ∧ (wd.alloc o).heap[w3.heap.size]? = some (.cells #[.int .i64 2, .int .u8 2, .int .i64 1, .int .i64 k, .int .u8 0, .string ⟨#[]⟩, .slice ao 0 ac, .int .i64 0, .slice vo 0 vc] 60 (0, 0)) := fun o => ⟨(((Below.refl wd.heap.size wd).alloc (Nat.le_refl _) o).block _ (by omega)).trans hS0.1, (((Below.refl wd.heap.size wd).alloc (Nat.le_refl _) o).block _ (by omega)).trans hS0.2⟩
  have hSo2 : ∀ o o', ((wd.alloc o).alloc o').heap[w.heap.size]? = some (.cells #[.int .i64 2, .int .u8 2, .int .i64 1, .int .i64 k, .int .u8 0, .string ⟨#[]⟩, .slice none 0 0, .int .i64 0, .slice none 0 0] 60 (0, 0)) ∧ ((wd.alloc o).alloc o').heap[w3.heap.size]? = some (.cells #[.int .i64 2, .int .u8 2, .int .i64 1, .int .i64 k, .int .u8 0, .string ⟨#[]⟩, .slice ao 0 ac, .int .i64 0, .slice vo 0 vc] 60 (0, 0)) := fun o o' => ⟨(((Below.refl (wd.alloc o).heap.size (wd.alloc o)).alloc (Nat.le_refl _) o').block _ (by simp; omega)).trans (hSo o).1, (((Below.refl (wd.alloc o).heap.size (wd.alloc o)).alloc (Nat.le_refl _) o').block _ (by simp; omega)).trans (hSo o).2⟩
  refine takeS_two 4 5 rfl rfl (by kernel_rfl) (by rfl) (by rfl) (fun K hK => ?_) (fun K hK => ?_)
  rotate_left
  focus
    go_simp
    (have hS1 := hSo (.cells #[.int .u8 0, .string ⟨#[]⟩, .slice none 0 0, .int .i64 0] 57); have hS2 := hSo2 (.cells #[.int .u8 0, .string ⟨#[]⟩, .slice none 0 0, .int .i64 0] 57) (.cells #[.int .u8 0, .string ⟨#[]⟩, .slice none 0 0, .int .i64 0] 57))
    refine hK.out _ _ (by assumption) ?_
    clear hK K
    (try simp only [Act.put, List.setIfInBounds_toArray, List.set_cons_zero, List.set_cons_succ])
    refine takeS_alone 4 rfl (by kernel_rfl) (by rfl) (fun K hK => ?_)
    go_simp
    (have hS1 := hSo (.cells #[.int .u8 0, .string ⟨#[]⟩, .slice none 0 0, .int .i64 0] 57); have hS2 := hSo2 (.cells #[.int .u8 0, .string ⟨#[]⟩, .slice none 0 0, .int .i64 0] 57) (.cells #[.int .u8 0, .string ⟨#[]⟩, .slice none 0 0, .int .i64 0] 57))
    refine hK.out _ _ (by assumption) ?_
    clear hK K
    (try simp only [Act.put, List.setIfInBounds_toArray, List.set_cons_zero, List.set_cons_succ])
  rotate_left
  focus
    go_simp
    (have hS1 := hSo (.cells #[.int .u8 0, .string ⟨#[]⟩, .slice none 0 0, .int .i64 0] 57); have hS2 := hSo2 (.cells #[.int .u8 0, .string ⟨#[]⟩, .slice none 0 0, .int .i64 0] 57) (.cells #[.int .u8 0, .string ⟨#[]⟩, .slice none 0 0, .int .i64 0] 57))
    refine hK.out _ _ (by assumption) ?_
    clear hK K
    (try simp only [Act.put, List.setIfInBounds_toArray, List.set_cons_zero, List.set_cons_succ])
    refine takeS_alone 5 rfl (by kernel_rfl) (by rfl) (fun K hK => ?_)
    go_simp
    (have hS1 := hSo (.cells #[.int .u8 0, .string ⟨#[]⟩, .slice none 0 0, .int .i64 0] 57); have hS2 := hSo2 (.cells #[.int .u8 0, .string ⟨#[]⟩, .slice none 0 0, .int .i64 0] 57) (.cells #[.int .u8 0, .string ⟨#[]⟩, .slice none 0 0, .int .i64 0] 57))
    refine hK.out _ _ (by assumption) ?_
    clear hK K
    (try simp only [Act.put, List.setIfInBounds_toArray, List.set_cons_zero, List.set_cons_succ])
  all_goals
    skip
  all_goals (clear hSo hSo2 hS1)
  all_goals (have hb1 := (Below.refl wd.heap.size wd).alloc (Nat.le_refl _) (.cells #[.int .u8 0, .string ⟨#[]⟩, .slice none 0 0, .int .i64 0] 57))
  all_goals (have hz1 : (wd.alloc (.cells #[.int .u8 0, .string ⟨#[]⟩, .slice none 0 0, .int .i64 0] 57)).heap.size = wd.heap.size + 1 := by simp)
  all_goals (have hk1 := heap_alloc_new wd (.cells #[.int .u8 0, .string ⟨#[]⟩, .slice none 0 0, .int .i64 0] 57))
  all_goals (generalize wd.alloc (.cells #[.int .u8 0, .string ⟨#[]⟩, .slice none 0 0, .int .i64 0] 57) = wa at hb1 hz1 hk1 hS2 ⊢)
  all_goals (have hb2 := (Below.refl wa.heap.size wa).alloc (Nat.le_refl _) (.cells #[.int .u8 0, .string ⟨#[]⟩, .slice none 0 0, .int .i64 0] 57))
  all_goals (have hk2 := heap_alloc_new wa (.cells #[.int .u8 0, .string ⟨#[]⟩, .slice none 0 0, .int .i64 0] 57))
  all_goals (rw [hz1] at hk2)
  all_goals (generalize wa.alloc (.cells #[.int .u8 0, .string ⟨#[]⟩, .slice none 0 0, .int .i64 0] 57) = wb at hb2 hk2 hS2 ⊢)
  all_goals (have hk1 := (hb2.block wd.heap.size (by omega)).trans hk1)
  all_goals (have hBB := Lib.hid (hb1.trans (hb2.mono hb1.size)))
  all_goals (have hSb := hS2; clear hS2 hb1 hb2)
  · skip
    refine takeS_alone 6 rfl (by kernel_rfl) (by rfl) (fun K hK => ?_)
    skip
    (refine wp_store_row 57 (.tmp 5) (.tmp 13) rfl (wd.heap.size) #[.int .u8 0, .string ⟨#[]⟩, .slice none 0 0, .int .i64 0] rfl rfl 57 #[.int .u8 0, .string ⟨#[]⟩, .slice none 0 0, .int .i64 0] hk1 info_cmdZ rfl cmdZ_one ?_; have hS4 : (wb.setRow (wd.heap.size) #[.int .u8 0, .string ⟨#[]⟩, .slice none 0 0, .int .i64 0]).heap[w.heap.size]? = some (.cells #[.int .i64 2, .int .u8 2, .int .i64 1, .int .i64 k, .int .u8 0, .string ⟨#[]⟩, .slice none 0 0, .int .i64 0, .slice none 0 0] 60 (0, 0)) ∧ (wb.setRow (wd.heap.size) #[.int .u8 0, .string ⟨#[]⟩, .slice none 0 0, .int .i64 0]).heap[w3.heap.size]? = some (.cells #[.int .i64 2, .int .u8 2, .int .i64 1, .int .i64 k, .int .u8 0, .string ⟨#[]⟩, .slice ao 0 ac, .int .i64 0, .slice vo 0 vc] 60 (0, 0)) := ⟨(setRow_other _ _ _ _ (by omega)).trans hSb.1, (setRow_other _ _ _ _ (by omega)).trans hSb.2⟩)
    refine hK.out _ _ (by assumption) ?_
    clear hK K
    (try simp only [Act.put, List.setIfInBounds_toArray, List.set_cons_zero, List.set_cons_succ])
    refine takeS_alone 7 rfl (by kernel_rfl) (by rfl) (fun K hK => ?_)
    skip
    (refine wp_store_row 57 (.tmp 6) (.tmp 15) rfl (wd.heap.size + 1) #[.int .u8 0, .string ⟨#[]⟩, .slice ao 0 ac, .int .i64 0] rfl rfl 57 #[.int .u8 0, .string ⟨#[]⟩, .slice none 0 0, .int .i64 0] ((setRow_other _ _ _ _ (by omega)).trans hk2) (info_cmdO ao vo ac) rfl (cmdO_one ao ac) ?_; have hS5 : ((wb.setRow (wd.heap.size) #[.int .u8 0, .string ⟨#[]⟩, .slice none 0 0, .int .i64 0]).setRow (wd.heap.size + 1) #[.int .u8 0, .string ⟨#[]⟩, .slice ao 0 ac, .int .i64 0]).heap[w.heap.size]? = some (.cells #[.int .i64 2, .int .u8 2, .int .i64 1, .int .i64 k, .int .u8 0, .string ⟨#[]⟩, .slice none 0 0, .int .i64 0, .slice none 0 0] 60 (0, 0)) ∧ ((wb.setRow (wd.heap.size) #[.int .u8 0, .string ⟨#[]⟩, .slice none 0 0, .int .i64 0]).setRow (wd.heap.size + 1) #[.int .u8 0, .string ⟨#[]⟩, .slice ao 0 ac, .int .i64 0]).heap[w3.heap.size]? = some (.cells #[.int .i64 2, .int .u8 2, .int .i64 1, .int .i64 k, .int .u8 0, .string ⟨#[]⟩, .slice ao 0 ac, .int .i64 0, .slice vo 0 vc] 60 (0, 0)) := ⟨(setRow_other _ _ _ _ (by omega)).trans hS4.1, (setRow_other _ _ _ _ (by omega)).trans hS4.2⟩)
    refine hK.out _ _ (by assumption) ?_
    clear hK K
    (try simp only [Act.put, List.setIfInBounds_toArray, List.set_cons_zero, List.set_cons_succ])
    refine wpAnyH_done (by kernel_rfl) ?_ _
    have kc := (setRow_other (wb.setRow (wd.heap.size) #[.int .u8 0, .string ⟨#[]⟩, .slice none 0 0, .int .i64 0]) (wd.heap.size + 1) (wd.heap.size) #[.int .u8 0, .string ⟨#[]⟩, .slice ao 0 ac, .int .i64 0] (by omega)).trans (setRow_heap wb (wd.heap.size) #[.int .u8 0, .string ⟨#[]⟩, .slice none 0 0, .int .i64 0] #[.int .u8 0, .string ⟨#[]⟩, .slice none 0 0, .int .i64 0] _ _ hk1)
    have ko := setRow_heap (wb.setRow (wd.heap.size) #[.int .u8 0, .string ⟨#[]⟩, .slice none 0 0, .int .i64 0]) (wd.heap.size + 1) #[.int .u8 0, .string ⟨#[]⟩, .slice none 0 0, .int .i64 0] #[.int .u8 0, .string ⟨#[]⟩, .slice ao 0 ac, .int .i64 0] _ _ ((setRow_other wb (wd.heap.size) (wd.heap.size + 1) #[.int .u8 0, .string ⟨#[]⟩, .slice none 0 0, .int .i64 0] (by omega)).trans hk2)
    have hbz := ((HBD.out.trans (hBB.out.mono hzd)).grown (grown_rowW wb (wd.heap.size) #[.int .u8 0, .string ⟨#[]⟩, .slice none 0 0, .int .i64 0]) (by have := hBB.out.size; omega) (fun q hq => by cases hq; omega)).grown (grown_rowW (wb.setRow (wd.heap.size) #[.int .u8 0, .string ⟨#[]⟩, .slice none 0 0, .int .i64 0]) (wd.heap.size + 1) #[.int .u8 0, .string ⟨#[]⟩, .slice ao 0 ac, .int .i64 0]) (by have := hBB.out.size; simp; omega) (fun q hq => by cases hq; omega)
    generalize (wb.setRow (wd.heap.size) #[.int .u8 0, .string ⟨#[]⟩, .slice none 0 0, .int .i64 0]).setRow (wd.heap.size + 1) #[.int .u8 0, .string ⟨#[]⟩, .slice ao 0 ac, .int .i64 0] = wz at kc ko hbz hS5 ⊢
    obtain ⟨q0, q1, q2, q3, q4, q5, q6, q7, q8⟩ := cells9 hS5.1
    obtain ⟨r0, r1, r2, r3, r4, r5, r6, r7, r8⟩ := cells9 hS5.2
    have u0 := Go.Joins.cell_of_block kc 0
    have u1 := Go.Joins.cell_of_block kc 1
    have u2 := Go.Joins.cell_of_block kc 2
    have u3 := Go.Joins.cell_of_block kc 3
    have v0 := Go.Joins.cell_of_block ko 0
    have v1 := Go.Joins.cell_of_block ko 1
    have v2 := Go.Joins.cell_of_block ko 2
    have v3 := Go.Joins.cell_of_block ko 3
    have HZ := Lib.hid (And.intro (H4.out.2.below hbz) (H4.out.1.trans (hbz.mono (Nat.le_trans H4.out.1.size (Nat.le_refl _)))))
    clear hS5 hS4 hSb kc ko hbz hS0 hk1 hk2 hz1
    (try simp only [Exit.then])
    (try (rename (∀ (_ : Act) (_ : World), _ → _) => hK0; refine hK0 _ _ ?_; clear hK0))
    go_wp2_with fail
    refine (done_rd rb rb false [] wz HZ.out.1).mono ?_
    rintro e w6 ⟨rfl, rfl⟩
    go_wp2_with fail
    refine (eqI_zero vo vc wz).mono ?_
    rintro e w6 ⟨rfl, rfl⟩
    go_wp2_with fail
    refine (eqV_zero ao ac wz).mono ?_
    rintro e w6 ⟨rfl, rfl⟩
    go_wp2_with fail
    go_ret
    exact ⟨rfl, HZ.out.2⟩
  · skip
    refine takeS_alone 6 rfl (by kernel_rfl) (by rfl) (fun K hK => ?_)
    skip
    (refine wp_store_row 57 (.tmp 5) (.tmp 13) rfl (wd.heap.size + 1) #[.int .u8 0, .string ⟨#[]⟩, .slice none 0 0, .int .i64 0] rfl rfl 57 #[.int .u8 0, .string ⟨#[]⟩, .slice none 0 0, .int .i64 0] hk2 info_cmdZ rfl cmdZ_one ?_; have hS4 : (wb.setRow (wd.heap.size + 1) #[.int .u8 0, .string ⟨#[]⟩, .slice none 0 0, .int .i64 0]).heap[w.heap.size]? = some (.cells #[.int .i64 2, .int .u8 2, .int .i64 1, .int .i64 k, .int .u8 0, .string ⟨#[]⟩, .slice none 0 0, .int .i64 0, .slice none 0 0] 60 (0, 0)) ∧ (wb.setRow (wd.heap.size + 1) #[.int .u8 0, .string ⟨#[]⟩, .slice none 0 0, .int .i64 0]).heap[w3.heap.size]? = some (.cells #[.int .i64 2, .int .u8 2, .int .i64 1, .int .i64 k, .int .u8 0, .string ⟨#[]⟩, .slice ao 0 ac, .int .i64 0, .slice vo 0 vc] 60 (0, 0)) := ⟨(setRow_other _ _ _ _ (by omega)).trans hSb.1, (setRow_other _ _ _ _ (by omega)).trans hSb.2⟩)
    refine hK.out _ _ (by assumption) ?_
    clear hK K
    (try simp only [Act.put, List.setIfInBounds_toArray, List.set_cons_zero, List.set_cons_succ])
    refine takeS_alone 7 rfl (by kernel_rfl) (by rfl) (fun K hK => ?_)
    skip
    (refine wp_store_row 57 (.tmp 6) (.tmp 15) rfl (wd.heap.size) #[.int .u8 0, .string ⟨#[]⟩, .slice ao 0 ac, .int .i64 0] rfl rfl 57 #[.int .u8 0, .string ⟨#[]⟩, .slice none 0 0, .int .i64 0] ((setRow_other _ _ _ _ (by omega)).trans hk1) (info_cmdO ao vo ac) rfl (cmdO_one ao ac) ?_; have hS5 : ((wb.setRow (wd.heap.size + 1) #[.int .u8 0, .string ⟨#[]⟩, .slice none 0 0, .int .i64 0]).setRow (wd.heap.size) #[.int .u8 0, .string ⟨#[]⟩, .slice ao 0 ac, .int .i64 0]).heap[w.heap.size]? = some (.cells #[.int .i64 2, .int .u8 2, .int .i64 1, .int .i64 k, .int .u8 0, .string ⟨#[]⟩, .slice none 0 0, .int .i64 0, .slice none 0 0] 60 (0, 0)) ∧ ((wb.setRow (wd.heap.size + 1) #[.int .u8 0, .string ⟨#[]⟩, .slice none 0 0, .int .i64 0]).setRow (wd.heap.size) #[.int .u8 0, .string ⟨#[]⟩, .slice ao 0 ac, .int .i64 0]).heap[w3.heap.size]? = some (.cells #[.int .i64 2, .int .u8 2, .int .i64 1, .int .i64 k, .int .u8 0, .string ⟨#[]⟩, .slice ao 0 ac, .int .i64 0, .slice vo 0 vc] 60 (0, 0)) := ⟨(setRow_other _ _ _ _ (by omega)).trans hS4.1, (setRow_other _ _ _ _ (by omega)).trans hS4.2⟩)
    refine hK.out _ _ (by assumption) ?_
    clear hK K
    (try simp only [Act.put, List.setIfInBounds_toArray, List.set_cons_zero, List.set_cons_succ])
    refine wpAnyH_done (by kernel_rfl) ?_ _
    have kc := (setRow_other (wb.setRow (wd.heap.size + 1) #[.int .u8 0, .string ⟨#[]⟩, .slice none 0 0, .int .i64 0]) (wd.heap.size) (wd.heap.size + 1) #[.int .u8 0, .string ⟨#[]⟩, .slice ao 0 ac, .int .i64 0] (by omega)).trans (setRow_heap wb (wd.heap.size + 1) #[.int .u8 0, .string ⟨#[]⟩, .slice none 0 0, .int .i64 0] #[.int .u8 0, .string ⟨#[]⟩, .slice none 0 0, .int .i64 0] _ _ hk2)
    have ko := setRow_heap (wb.setRow (wd.heap.size + 1) #[.int .u8 0, .string ⟨#[]⟩, .slice none 0 0, .int .i64 0]) (wd.heap.size) #[.int .u8 0, .string ⟨#[]⟩, .slice none 0 0, .int .i64 0] #[.int .u8 0, .string ⟨#[]⟩, .slice ao 0 ac, .int .i64 0] _ _ ((setRow_other wb (wd.heap.size + 1) (wd.heap.size) #[.int .u8 0, .string ⟨#[]⟩, .slice none 0 0, .int .i64 0] (by omega)).trans hk1)
    have hbz := ((HBD.out.trans (hBB.out.mono hzd)).grown (grown_rowW wb (wd.heap.size + 1) #[.int .u8 0, .string ⟨#[]⟩, .slice none 0 0, .int .i64 0]) (by have := hBB.out.size; omega) (fun q hq => by cases hq; omega)).grown (grown_rowW (wb.setRow (wd.heap.size + 1) #[.int .u8 0, .string ⟨#[]⟩, .slice none 0 0, .int .i64 0]) (wd.heap.size) #[.int .u8 0, .string ⟨#[]⟩, .slice ao 0 ac, .int .i64 0]) (by have := hBB.out.size; simp; omega) (fun q hq => by cases hq; omega)
    generalize (wb.setRow (wd.heap.size + 1) #[.int .u8 0, .string ⟨#[]⟩, .slice none 0 0, .int .i64 0]).setRow (wd.heap.size) #[.int .u8 0, .string ⟨#[]⟩, .slice ao 0 ac, .int .i64 0] = wz at kc ko hbz hS5 ⊢
    obtain ⟨q0, q1, q2, q3, q4, q5, q6, q7, q8⟩ := cells9 hS5.1
    obtain ⟨r0, r1, r2, r3, r4, r5, r6, r7, r8⟩ := cells9 hS5.2
    have u0 := Go.Joins.cell_of_block kc 0
    have u1 := Go.Joins.cell_of_block kc 1
    have u2 := Go.Joins.cell_of_block kc 2
    have u3 := Go.Joins.cell_of_block kc 3
    have v0 := Go.Joins.cell_of_block ko 0
    have v1 := Go.Joins.cell_of_block ko 1
    have v2 := Go.Joins.cell_of_block ko 2
    have v3 := Go.Joins.cell_of_block ko 3
    have HZ := Lib.hid (And.intro (H4.out.2.below hbz) (H4.out.1.trans (hbz.mono (Nat.le_trans H4.out.1.size (Nat.le_refl _)))))
    clear hS5 hS4 hSb kc ko hbz hS0 hk1 hk2 hz1
    (try simp only [Exit.then])
    (try (rename (∀ (_ : Act) (_ : World), _ → _) => hK0; refine hK0 _ _ ?_; clear hK0))
    go_wp2_with fail
    refine (done_rd rb rb false [] wz HZ.out.1).mono ?_
    rintro e w6 ⟨rfl, rfl⟩
    go_wp2_with fail
    refine (eqI_zero vo vc wz).mono ?_
    rintro e w6 ⟨rfl, rfl⟩
    go_wp2_with fail
    refine (eqV_zero ao ac wz).mono ?_
    rintro e w6 ⟨rfl, rfl⟩
    go_wp2_with fail
    go_ret
    exact ⟨rfl, HZ.out.2⟩
end Go.Proofs.YtnhnabcpkaeaaaaGreatDoor
/- The frame of a command; commands that are all carried. Conditions: they lie as they read. -/
namespace Go.Proofs.YtnhnabcpkaeaaaaGreatDoor
open Go.RowKit
set_option maxRecDepth 20000
def cmdEn (k : Int) : En := ⟨2, 2, 1, k, 0, ⟨#[]⟩, none, [], 0, 0, none, [], 0⟩
/-- The data of a command's frame. -/
def cmdD (i k : Int) : List Int := numB 8 i ++ entryB (cmdP k)
theorem cmdD_len (i k : Int) : (cmdD i k).length = 54 := by unfold cmdD; rw [List.length_append, numB_len, cmdB_len]
theorem cmdD_wf (i k : Int) : BytesWf (cmdD i k) := fun x hx => (List.mem_append.1 hx).elim (numB_wf 8 i x) (cmdB_wf k x)
theorem apnd1_any (k : Int) (hk : N64 k) (w : World) : Calls Tryz.prog 50 #[.agg #[.int .i64 2, .int .u8 2, .int .i64 1, .int .i64 k, .int .u8 0, .string ⟨#[]⟩, .slice none 0 0, .int .i64 0, .slice none 0 0]] w fun e w' => e = .returned (.bool false) ∧ Below w.heap.size w w' := by
  have hb0 := (Below.refl w.heap.size w).alloc (Nat.le_refl _) (.cells #[.int .i64 2, .int .u8 2, .int .i64 1, .int .i64 k, .int .u8 0, .string ⟨#[]⟩, .slice none 0 0, .int .i64 0, .slice none 0 0] 60)
  have hk0 := heap_alloc_new w (.cells #[.int .i64 2, .int .u8 2, .int .i64 1, .int .i64 k, .int .u8 0, .string ⟨#[]⟩, .slice none 0 0, .int .i64 0, .slice none 0 0] 60)
  go_enter Tryz.func50, Tryz.ntmps50
  go_upto_region 1 with fail
  generalize w.alloc (.cells #[.int .i64 2, .int .u8 2, .int .i64 1, .int .i64 k, .int .u8 0, .string ⟨#[]⟩, .slice none 0 0, .int .i64 0, .slice none 0 0] 60) = w0 at hb0 hk0 ⊢
  obtain ⟨q0, q1, q2, q3, q4, q5, q6, q7, q8⟩ := cells9 hk0
  go_wp2_with fail
  refine (carried_any k hk w0).mono ?_
  rintro e w1 ⟨rfl, hb1⟩
  go_wp2_with fail
  go_ret
  exact ⟨rfl, hb0.trans (hb1.mono hb0.size)⟩
set_option maxHeartbeats 2000000 in
theorem indexE_any (ao : Option Addr) (m cap : Nat) (ks : List Int) (w : World) (hm : ks.length = m) (hx : EnsIn w w.heap.size ao (ks.map cmdEn)) (hk : ∀ k ∈ ks, N64 k) (hl : m ≤ 1000000) :
    Calls Tryz.prog 88 #[.slice ao m cap, .func (.func 50) #[] #[]] w fun e w' => e = .returned (.int .i64 (-1)) ∧ Below w.heap.size w w' := by
  have hfn : ∀ args w, (callFunc 50 args).run Tryz.prog w = .ok (.enter 50 args) w := fun _ _ => rfl
  have HX := Lib.hid hx
  have HM := Lib.hid hm
  have HK := Lib.hid hk
  clear hx hm hk
  go_enter Tryz.func88, Tryz.ntmps88
  go_wp2_with fail
  go_loopw [5, 8] (fun _ i wr => ∃ k : Nat, k ≤ m ∧ i = .int .i64 k ∧ Below w.heap.size w wr) (fun _ i _ => m - (intOf i).toNat)
  case atStart => exact ⟨0, by omega, rfl, Below.refl _ _⟩
  case round =>
    obtain ⟨k, hk, rfl, hbel⟩ := hrel
    have HB := Lib.hid hbel
    clear hbel
    by_cases hlt : k < m
    · have hkn : k < ks.length := by rw [HM.out]; exact hlt
      have hxk : (ks.map cmdEn)[k]? = some (cmdEn ks[k]) := by rw [List.getElem?_map, List.getElem?_eq_getElem hkn]; rfl
      obtain ⟨b, off, rfl, hb, hc, _⟩ := HX.out.at hxk
      have hn64 := HK.out _ (List.getElem_mem hkn)
      generalize ks[k] = x at hc hn64
      have c0 := (HB.out.cell (p := ⟨b, off + k * 9 + 0, none⟩) hb).trans (hc 0 (by decide))
      have c1 := (HB.out.cell (p := ⟨b, off + k * 9 + 1, none⟩) hb).trans (hc 1 (by decide))
      have c2 := (HB.out.cell (p := ⟨b, off + k * 9 + 2, none⟩) hb).trans (hc 2 (by decide))
      have c3 := (HB.out.cell (p := ⟨b, off + k * 9 + 3, none⟩) hb).trans (hc 3 (by decide))
      have c4 := (HB.out.cell (p := ⟨b, off + k * 9 + 4, none⟩) hb).trans (hc 4 (by decide))
      have c5 := (HB.out.cell (p := ⟨b, off + k * 9 + 5, none⟩) hb).trans (hc 5 (by decide))
      have c6 := (HB.out.cell (p := ⟨b, off + k * 9 + 6, none⟩) hb).trans (hc 6 (by decide))
      have c7 := (HB.out.cell (p := ⟨b, off + k * 9 + 7, none⟩) hb).trans (hc 7 (by decide))
      have c8 := (HB.out.cell (p := ⟨b, off + k * 9 + 8, none⟩) hb).trans (hc 8 (by decide))
      simp only [cmdEn, enCells, List.getElem?_cons_zero, List.getElem?_cons_succ, List.length_nil, Nat.add_zero] at c0 c1 c2 c3 c4 c5 c6 c7 c8
      have i1 : (k : Int) < m := by omega
      clear hc hxk
      go_wp2_with fail
      refine (apnd1_any x hn64 wr).mono ?_
      rintro e w5 ⟨rfl, hb5⟩
      have HB5 := Lib.hid (HB.out.trans (hb5.mono HB.out.size))
      clear hb5 c0 c1 c2 c3 c4 c5 c6 c7 c8
      go_wp2_with fail
      go_roundw
      case rel => exact ⟨k + 1, by omega, by go_num, HB5.out⟩
      case measure => simp [intOf]; omega
    · obtain rfl : k = m := by omega
      go_wp2_with fail
      go_ret
      exact ⟨rfl, HB.out⟩
theorem containsE_any (ao : Option Addr) (m cap : Nat) (ks : List Int) (w : World) (hm : ks.length = m) (hx : EnsIn w w.heap.size ao (ks.map cmdEn)) (hk : ∀ k ∈ ks, N64 k) (hl : m ≤ 1000000) :
    Calls Tryz.prog 49 #[.slice ao m cap, .func (.func 50) #[] #[]] w fun e w' => e = .returned (.bool false) ∧ Below w.heap.size w w' := by
  have HC := Lib.hid (indexE_any ao m cap ks w hm hx hk hl)
  clear hm hx hk hl
  go_enter Tryz.func49, Tryz.ntmps49
  go_wp2_with fail
  refine HC.out.mono ?_
  rintro e w5 ⟨rfl, hb⟩
  go_wp2_with fail
  go_ret
  exact ⟨rfl, hb⟩
set_option maxHeartbeats 2000000 in
theorem wentryf_any (i k : Int) (w : World) :
    Calls Tryz.prog 52 #[.int .i64 i, .agg #[.int .i64 2, .int .u8 2, .int .i64 1, .int .i64 k, .int .u8 0, .string ⟨#[]⟩, .slice none 0 0, .int .i64 0, .slice none 0 0]] w fun e w' => ∃ a c, e = .returned (.agg #[.int .i64 2, .slice a 54 c]) ∧ BytesIn w' w'.heap.size a (cmdD i k) ∧ (a = none → c = 0) ∧ (∀ ad, a = some ad → w.heap.size ≤ ad.block) ∧ Below w.heap.size w w' := by
  have hb1 := (Below.refl w.heap.size w).alloc (Nat.le_refl _) (.cells #[.int .i64 2, .int .u8 2, .int .i64 1, .int .i64 k, .int .u8 0, .string ⟨#[]⟩, .slice none 0 0, .int .i64 0, .slice none 0 0] 60)
  have hk1 := heap_alloc_new w (.cells #[.int .i64 2, .int .u8 2, .int .i64 1, .int .i64 k, .int .u8 0, .string ⟨#[]⟩, .slice none 0 0, .int .i64 0, .slice none 0 0] 60)
  have hz1 : (w.alloc (.cells #[.int .i64 2, .int .u8 2, .int .i64 1, .int .i64 k, .int .u8 0, .string ⟨#[]⟩, .slice none 0 0, .int .i64 0, .slice none 0 0] 60)).heap.size = w.heap.size + 1 := by simp
  have hb2 := (Below.refl (w.alloc (.cells #[.int .i64 2, .int .u8 2, .int .i64 1, .int .i64 k, .int .u8 0, .string ⟨#[]⟩, .slice none 0 0, .int .i64 0, .slice none 0 0] 60)).heap.size (w.alloc (.cells #[.int .i64 2, .int .u8 2, .int .i64 1, .int .i64 k, .int .u8 0, .string ⟨#[]⟩, .slice none 0 0, .int .i64 0, .slice none 0 0] 60))).alloc (Nat.le_refl _) (.cells #[.int .i64 0, .slice none 0 0] 83)
  have hk2 := heap_alloc_new (w.alloc (.cells #[.int .i64 2, .int .u8 2, .int .i64 1, .int .i64 k, .int .u8 0, .string ⟨#[]⟩, .slice none 0 0, .int .i64 0, .slice none 0 0] 60)) (.cells #[.int .i64 0, .slice none 0 0] 83)
  go_enter Tryz.func52, Tryz.ntmps52
  go_upto_region 1 with fail
  generalize w.alloc (.cells #[.int .i64 2, .int .u8 2, .int .i64 1, .int .i64 k, .int .u8 0, .string ⟨#[]⟩, .slice none 0 0, .int .i64 0, .slice none 0 0] 60) = wa at hb1 hk1 hz1 hb2 hk2 ⊢
  rw [hz1] at hk2
  generalize wa.alloc (.cells #[.int .i64 0, .slice none 0 0] 83) = w1 at hb2 hk2 ⊢
  have hk1 := (hb2.block _ (by omega)).trans hk1
  have hb1 := hb1.trans (hb2.mono (by omega))
  have hlt1 := (Array.getElem?_eq_some_iff.1 hk2).1
  obtain ⟨L1, hL1⟩ : ∃ L, numB 8 i = L := ⟨_, rfl⟩
  obtain ⟨L2, hL2⟩ : ∃ L, entryB (cmdP k) = L := ⟨_, rfl⟩
  have n1 : L1.length = 8 := by rw [← hL1]; exact numB_len 8 i
  have n2 : L2.length = 46 := by rw [← hL2]; exact cmdB_len k
  have HL := Lib.hid (And.intro hL1 hL2)
  have HW := Lib.hid (And.intro (show BytesWf L1 from hL1 ▸ numB_wf 8 i) (show BytesWf L2 from hL2 ▸ cmdB_wf k))
  have HN := Lib.hid (And.intro n1 n2)
  have HB1 := Lib.hid hb1
  have HK2 := Lib.hid hk2
  have HC := Lib.hid (fun (wS : World) (hh : wS.heap[w.heap.size]? = some (.cells #[.int .i64 2, .int .u8 2, .int .i64 1, .int .i64 k, .int .u8 0, .string ⟨#[]⟩, .slice none 0 0, .int .i64 0, .slice none 0 0] 60 (0, 0))) => cells9 hh)
  clear hL1 hL2 n1 n2 hb1 hb2 hz1 hk2
  have hbd : Below w1.heap.size w1 w1.drew := (Below.refl _ _).drew
  have HBD := Lib.hid hbd
  clear hbd
  refine heldS_begin (fun (w' : World) => w'.heap[w.heap.size]? = some (.cells #[.int .i64 2, .int .u8 2, .int .i64 1, .int .i64 k, .int .u8 0, .string ⟨#[]⟩, .slice none 0 0, .int .i64 0, .slice none 0 0] 60 (0, 0))) (by kernel_rfl) (hk1) ?_
  intro hS0
  (first | (refine takeS_no 0 rfl (by kernel_rfl) (by kernel_rfl) (by kernel_rfl) (fun _ _ _ h => h) (by rfl) (by assumption) ?_) | (refine takeS_yes (v := ?_) 0 rfl (by kernel_rfl) (by kernel_rfl) (by kernel_rfl) (fun _ _ _ h => h) (by rfl) (by assumption) ?_ ?_; rotate_left; focus (intro wS hSw; obtain ⟨q0, q1, q2, q3, q4, q5, q6, q7, q8⟩ := HC.out wS hSw; go_simp; first | done | with_reducible rfl)))
  (try simp only [Act.put, List.setIfInBounds_toArray, List.set_cons_zero, List.set_cons_succ])
  (first | (refine takeS_no 2 rfl (by kernel_rfl) (by kernel_rfl) (by kernel_rfl) (fun _ _ _ h => h) (by rfl) (by assumption) ?_) | (refine takeS_yes (v := ?_) 2 rfl (by kernel_rfl) (by kernel_rfl) (by kernel_rfl) (fun _ _ _ h => h) (by rfl) (by assumption) ?_ ?_; rotate_left; focus (intro wS hSw; obtain ⟨q0, q1, q2, q3, q4, q5, q6, q7, q8⟩ := HC.out wS hSw; go_simp; first | done | with_reducible rfl)))
  (try simp only [Act.put, List.setIfInBounds_toArray, List.set_cons_zero, List.set_cons_succ])
  refine takeS_alone 1 rfl (by kernel_rfl) (by rfl) (fun K hK => ?_)
  go_simp
  (refine (number_w i L1 _ HL.out.1).mono ?_; rintro e w2 ⟨a1, c1, rfl, ho1, hb2⟩; have hS2 := (hb2.block w.heap.size (by have := HBD.out.size; omega)).trans hS0; have HO1 := Lib.hid ho1; have HB2 := Lib.hid hb2; clear ho1 hb2; rw [HN.out.1])
  refine hK.out _ _ (by assumption) ?_
  clear hK K
  (try simp only [Act.put, List.setIfInBounds_toArray, List.set_cons_zero, List.set_cons_succ])
  refine takeS_alone 3 rfl (by kernel_rfl) (by rfl) (fun K hK => ?_)
  go_simp
  (refine (cmd_w k L2 w2 HL.out.2).mono ?_; rintro e w3 ⟨a2, c2, rfl, ho2, hb3⟩; have hS3 := (hb3.block w.heap.size (by have := HBD.out.size; have := HB2.out.size; omega)).trans hS2; have HO2 := Lib.hid ho2; have HB3 := Lib.hid hb3; clear ho2 hb3; rw [HN.out.2])
  refine hK.out _ _ (by assumption) ?_
  clear hK K
  (try simp only [Act.put, List.setIfInBounds_toArray, List.set_cons_zero, List.set_cons_succ])
  refine takeS_alone 4 rfl (by kernel_rfl) (by rfl) (fun K hK => ?_)
  go_simp
  (have hba := (Below.refl w3.heap.size w3).alloc (Nat.le_refl _) (.cells #[.slice a1 8 c1, .slice a2 46 c2] 22); have hka := heap_alloc_new w3 (.cells #[.slice a1 8 c1, .slice a2 46 c2] 22); have hS4 := (hba.block w.heap.size (by have := HBD.out.size; have := HB2.out.size; have := HB3.out.size; omega)).trans hS3)
  refine hK.out _ _ (by assumption) ?_
  clear hK K
  (try simp only [Act.put, List.setIfInBounds_toArray, List.set_cons_zero, List.set_cons_succ])
  generalize w3.alloc (.cells #[.slice a1 8 c1, .slice a2 46 c2] 22) = w4 at hba hka hS4 ⊢
  have hx1 : BytesIn w4 w4.heap.size a1 L1 := own_bytes' (own_below (own_below HO1.out HB3.out (Nat.le_refl _)) hba (Nat.le_refl _))
  have hx2 : BytesIn w4 w4.heap.size a2 L2 := own_bytes' (own_below HO2.out hba (Nat.le_refl _))
  have hb4 : Below w1.heap.size w1 w4 := HBD.out.trans ((HB2.out.mono HBD.out.size).trans ((HB3.out.mono (Nat.le_trans HBD.out.size HB2.out.size)).trans (hba.mono (Nat.le_trans HBD.out.size (Nat.le_trans HB2.out.size HB3.out.size)))))
  have hz4 := hb4.size
  have HX := Lib.hid (And.intro hx1 hx2)
  have HB4 := Lib.hid hb4
  have HD := Lib.hid (show L1 ++ L2 = cmdD i k by rw [← HL.out.1, ← HL.out.2]; rfl)
  clear hx1 hx2 hb4 hba hS3 hS2 HO1 HO2
  refine takeS_alone 5 rfl (by kernel_rfl) (by rfl) (fun K hK => ?_)
  go_simp
  (refine (join2_x w3.heap.size a1 a2 8 46 c1 c2 L1 L2 (cmdD i k) w4 hka HN.out.1 HN.out.2 HX.out.1 HX.out.2 HW.out.1 HW.out.2 HD.out 54 (cmdD_len i k) (by omega)).mono ?_; rintro e w5 ⟨a3, c3, rfl, hx3, hn3, hc3, hq3, hb5⟩; have hS5 := (hb5.block w.heap.size (by omega)).trans hS4; have hk5 := (hb5.block (w.heap.size + 1) (by omega)).trans ((HB4.out.block (w.heap.size + 1) hlt1).trans HK2.out); have d0 := Go.Joins.cell_of_block hk5 0; have d1 := Go.Joins.cell_of_block hk5 1; have f0 := Go.Joins.unfrozen_of_block hk5 0; have f1 := Go.Joins.unfrozen_of_block hk5 1; have HR := Lib.hid (And.intro hx3 (And.intro hn3 hq3)); have HB5 := Lib.hid hb5; have HK5 := Lib.hid hk5; clear hx3 hn3 hq3 hb5 hk5)
  refine hK.out _ _ (by assumption) ?_
  clear hK K
  (try simp only [Act.put, List.setIfInBounds_toArray, List.set_cons_zero, List.set_cons_succ])
  (first | (refine takeS_no 6 rfl (by kernel_rfl) (by kernel_rfl) (by kernel_rfl) (fun _ _ _ h => h) (by rfl) (by assumption) ?_) | (refine takeS_yes (v := ?_) 6 rfl (by kernel_rfl) (by kernel_rfl) (by kernel_rfl) (fun _ _ _ h => h) (by rfl) (by assumption) ?_ ?_; rotate_left; focus (intro wS hSw; obtain ⟨q0, q1, q2, q3, q4, q5, q6, q7, q8⟩ := HC.out wS hSw; go_simp; first | done | with_reducible rfl)))
  (try simp only [Act.put, List.setIfInBounds_toArray, List.set_cons_zero, List.set_cons_succ])
  refine takeS_alone 7 rfl (by kernel_rfl) (by rfl) (fun K hK => ?_)
  go_simp
  (have hS6 : ((w5.setCell ⟨w.heap.size + 1, 0, none⟩ (.int .i64 2)).setCell ⟨w.heap.size + 1, 1, none⟩ (.slice a3 54 c3)).heap[w.heap.size]? = some (.cells #[.int .i64 2, .int .u8 2, .int .i64 1, .int .i64 k, .int .u8 0, .string ⟨#[]⟩, .slice none 0 0, .int .i64 0, .slice none 0 0] 60 (0, 0)) := (heap_setCell_other _ _ _ _ (show w.heap.size ≠ w.heap.size + 1 by omega)).trans ((heap_setCell_other _ _ _ _ (show w.heap.size ≠ w.heap.size + 1 by omega)).trans hS5))
  refine hK.out _ _ (by assumption) ?_
  clear hK K
  (try simp only [Act.put, List.setIfInBounds_toArray, List.set_cons_zero, List.set_cons_succ])
  refine wpAnyH_done (by kernel_rfl) ?_ _
  (try simp only [Exit.then])
  (try (rename (∀ (_ : Act) (_ : World), _ → _) => hK0; refine hK0 _ _ ?_; clear hK0))
  have HRES := Lib.hid (block_twoW HK5.out (.int .i64 2) (.slice a3 54 c3))
  have hbW : Below w.heap.size w w5 := HB1.out.trans ((HB4.out.mono HB1.out.size).trans (HB5.out.mono (Nat.le_trans HB1.out.size hz4)))
  have hlo : w.heap.size ≤ w4.heap.size := Nat.le_trans HB1.out.size hz4
  have hg := grown_twoW w5 (w.heap.size + 1) (.int .i64 2) (.slice a3 54 c3)
  have HBW := Lib.hid hbW
  have HG := Lib.hid hg
  clear hS6 hS5 hS4 hS0 hg hbW d0 d1 f0 f1
  go_wp2_with fail
  refine bodyPost_ret (results_cell_row rfl _ _ (w.heap.size + 1) 83 _ _ _ rfl HRES.out Tryz.underlying83 rfl info_frW) rfl ⟨a3, c3, rfl, ?_, HR.out.2.1, (fun ad hq => Nat.le_trans (by omega) (HR.out.2.2 ad hq)), (HBW.out.setCell (p := ⟨w.heap.size + 1, 0, none⟩) (by show w.heap.size ≤ w.heap.size + 1; omega) _).setCell (p := ⟨w.heap.size + 1, 1, none⟩) (by show w.heap.size ≤ w.heap.size + 1; omega) _⟩
  rcases HR.out.1 with h | ⟨b, off, e1, hlt, hc⟩
  · exact Or.inl h
  · have hb := HR.out.2.2 _ e1
    have hne : w.heap.size + 1 ≠ b := fun e => by dsimp only at hb; omega
    refine Or.inr ⟨b, off, e1, by have := HG.out.size; omega, fun j hj => ?_⟩
    exact (World.cell?_setCell_far _ _ _ _ hne).trans ((World.cell?_setCell_far _ _ _ _ hne).trans (hc j hj))
end Go.Proofs.YtnhnabcpkaeaaaaGreatDoor
