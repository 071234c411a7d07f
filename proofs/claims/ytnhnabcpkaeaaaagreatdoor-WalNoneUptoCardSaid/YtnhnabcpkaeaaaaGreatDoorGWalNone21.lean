/- The document's writers: the bytes of a fact, a command, a reply, an entry. Conditions: what is written is not too long. -/
import Derived.Test.YtnhnabcpkaeaaaaGreatDoorGWalNone20
import Derived.Test.YtnhnabcpkaeaaaaGreatDoorGWalNone10
import Derived.Test.YtnhnabcpkaeaaaaGreatDoorGWalNone5
set_option linter.unusedVariables false
set_option linter.unusedSimpArgs false
namespace Go.Proofs.YtnhnabcpkaeaaaaGreatDoor
open Go.RowKit
set_option maxRecDepth 20000
set_option maxHeartbeats 2000000 in
theorem rCommand_any (ck : Int) (text : ByteArray) (ao : Option Addr) (n cap : Nat) (num : Int) (args : List Va) (L : List Int) (w : World) (hL : commandB ck text num args = L) (hn : args.length = n) (hx : ValsIn w w.heap.size ao args) (htx : ∀ v ∈ args, v.text.size ≤ 1099511627776) (hts : text.size ≤ 1099511627776) (hl : L.length ≤ 100000000000) (hnl : n ≤ 1099511627776) :
    Calls Tryz.prog 112 #[.agg #[.int .u8 ck, .string text, .slice ao n cap, .int .i64 num]] w (RNew L w) := by
  have hb0 := (Below.refl w.heap.size w).alloc (Nat.le_refl _) (.cells #[.int .u8 ck, .string text, .slice ao n cap, .int .i64 num] 57)
  have hk0 := heap_alloc_new w (.cells #[.int .u8 ck, .string text, .slice ao n cap, .int .i64 num] 57)
  have hs0 : (w.alloc (.cells #[.int .u8 ck, .string text, .slice ao n cap, .int .i64 num] 57)).heap.size = w.heap.size + 1 := by simp
  have HB0 := Lib.hid hb0
  have HK0 := Lib.hid hk0
  have HS0 := Lib.hid hs0
  have HL := Lib.hid hL
  clear hb0 hk0 hs0 hL
  have hvl : 13 + text.size + (valuesB args).length = L.length := by rw [← HL.out, commandB_len]
  have HX := Lib.hid hx
  have HN := Lib.hid hn
  have HTX := Lib.hid htx
  have HVL := Lib.hid hvl
  clear hx hn htx hvl
  go_enter Tryz.func112, Tryz.ntmps112
  go_wp2_with fail
  have hb0 := HB0.out
  have hk0 := HK0.out
  have hs0 := HS0.out
  generalize w.alloc (.cells #[.int .u8 ck, .string text, .slice ao n cap, .int .i64 num] 57) = w0 at hb0 hk0 hs0 ⊢
  clear HB0 HK0 HS0
  have HCL := Lib.hid (show ∀ w', Below (w.heap.size + 1) w0 w' → w'.cell? ⟨w.heap.size, 0, none⟩ = some (.int .u8 ck) ∧ w'.cell? ⟨w.heap.size, 1, none⟩ = some (.string text) ∧ w'.cell? ⟨w.heap.size, 2, none⟩ = some (.slice ao n cap) ∧ w'.cell? ⟨w.heap.size, 3, none⟩ = some (.int .i64 num) from fun w' h => have hk := (h.block w.heap.size (Nat.lt_succ_self _)).trans hk0; ⟨Go.Joins.cell_of_block hk 0, Go.Joins.cell_of_block hk 1, Go.Joins.cell_of_block hk 2, Go.Joins.cell_of_block hk 3⟩)
  have HSZ := Lib.hid (show ∀ w', Below (w.heap.size + 1) w0 w' → w.heap.size + 1 ≤ w'.heap.size from fun w' h => hs0 ▸ h.size)
  have HWD := Lib.hid (show ∀ w', Below (w.heap.size + 1) w0 w' → Below w.heap.size w w' from fun w' h => hb0.trans (h.mono (Nat.le_succ _)))
  clear hb0 hk0 hs0
  refine heldS_begin (fun w' => Below (w.heap.size + 1) w0 w') (by kernel_rfl) ((Below.refl _ _).drew) ?_
  intro hS0
  (first | (refine takeS_no 0 rfl (by kernel_rfl) (by kernel_rfl) (by kernel_rfl) (fun _ _ _ h => h) (by rfl) (by assumption) ?_) | (refine takeS_yes (v := ?_) 0 rfl (by kernel_rfl) (by kernel_rfl) (by kernel_rfl) (fun _ _ _ h => h) (by rfl) (by assumption) ?_ ?_; rotate_left; focus (intro wS hSw; obtain ⟨d0, d1, d2, d3⟩ := HCL.out wS hSw; go_simp; first | done | with_reducible rfl)))
  (try simp only [Act.put, List.setIfInBounds_toArray, List.set_cons_zero, List.set_cons_succ])
  (first | (refine takeS_no 1 rfl (by kernel_rfl) (by kernel_rfl) (by kernel_rfl) (fun _ _ _ h => h) (by rfl) (by assumption) ?_) | (refine takeS_yes (v := ?_) 1 rfl (by kernel_rfl) (by kernel_rfl) (by kernel_rfl) (fun _ _ _ h => h) (by rfl) (by assumption) ?_ ?_; rotate_left; focus (intro wS hSw; obtain ⟨d0, d1, d2, d3⟩ := HCL.out wS hSw; go_simp; first | done | with_reducible rfl)))
  (try simp only [Act.put, List.setIfInBounds_toArray, List.set_cons_zero, List.set_cons_succ])
  (first | (refine takeS_no 3 rfl (by kernel_rfl) (by kernel_rfl) (by kernel_rfl) (fun _ _ _ h => h) (by rfl) (by assumption) ?_) | (refine takeS_yes (v := ?_) 3 rfl (by kernel_rfl) (by kernel_rfl) (by kernel_rfl) (fun _ _ _ h => h) (by rfl) (by assumption) ?_ ?_; rotate_left; focus (intro wS hSw; obtain ⟨d0, d1, d2, d3⟩ := HCL.out wS hSw; go_simp; first | done | with_reducible rfl)))
  (try simp only [Act.put, List.setIfInBounds_toArray, List.set_cons_zero, List.set_cons_succ])
  (first | (refine takeS_no 4 rfl (by kernel_rfl) (by kernel_rfl) (by kernel_rfl) (fun _ _ _ h => h) (by rfl) (by assumption) ?_) | (refine takeS_yes (v := ?_) 4 rfl (by kernel_rfl) (by kernel_rfl) (by kernel_rfl) (fun _ _ _ h => h) (by rfl) (by assumption) ?_ ?_; rotate_left; focus (intro wS hSw; obtain ⟨d0, d1, d2, d3⟩ := HCL.out wS hSw; go_simp; first | done | with_reducible rfl)))
  (try simp only [Act.put, List.setIfInBounds_toArray, List.set_cons_zero, List.set_cons_succ])
  refine takeS_two 2 5 rfl rfl (by kernel_rfl) (by rfl) (by rfl) (fun K hK => ?_) (fun K hK => ?_)
  rotate_left
  focus
    go_simp
    (have hz := HSZ.out _ hS0; refine (rText_any text _ _ rfl hts).mono ?_; rintro e x1 ⟨aB, nB, qB, rfl, ho, hb⟩; have hlB := ho.len; rw [textB_len] at hlB; have LB := Lib.hid hlB; clear hlB; have HB := Lib.hid (ho.le hz); have b1 := Below.trans hS0 (hb.mono hz); clear ho hb hz)
    refine hK.out _ _ (by assumption) ?_
    clear hK K
    (try simp only [Act.put, List.setIfInBounds_toArray, List.set_cons_zero, List.set_cons_succ])
    refine takeS_alone 2 rfl (by kernel_rfl) (by rfl) (fun K hK => ?_)
    go_simp
    (have hlit := BOwn.lit x1 [ck] (by simp); have hz := HSZ.out _ b1; have hA := (Below.refl x1.heap.size x1).alloc (Nat.le_refl _) (.cells #[.int .u8 ck] 5); have b2 := Below.alloc b1 hz (.cells #[.int .u8 ck] 5); have HA : Hid (BOwn (x1.alloc (.cells #[.int .u8 ck] 5)) (w.heap.size + 1) (some ⟨x1.heap.size, 0, none⟩) 1 1 [ck]) := Lib.hid (BOwn.le hlit hz); have HB := Lib.hid (HB.out.below hA (Nat.le_refl _)); clear hlit hA; generalize hx2 : World.alloc x1 (.cells #[.int .u8 ck] 5) = x2 at b2 HA HB ⊢; clear hx2 hz)
    refine hK.out _ _ (by assumption) ?_
    clear hK K
    (try simp only [Act.put, List.setIfInBounds_toArray, List.set_cons_zero, List.set_cons_succ])
  rotate_left
  focus
    go_simp
    (have hlit := BOwn.lit w0 [ck] (by simp); have hz := HSZ.out _ (Below.refl _ w0); have b1 : Below (w.heap.size + 1) w0 (w0.alloc (.cells #[.int .u8 ck] 5)).drew := ((Below.refl _ w0).alloc hz _).drew; have HA : Hid (BOwn (w0.alloc (.cells #[.int .u8 ck] 5)).drew (w.heap.size + 1) (some ⟨w0.heap.size, 0, none⟩) 1 1 [ck]) := Lib.hid (BOwn.below (BOwn.le hlit hz) (below_drewN (Below.refl _ _) 1) (Nat.le_refl _)); clear hlit; generalize hx1 : (w0.alloc (.cells #[.int .u8 ck] 5)).drew = x1 at b1 HA ⊢; clear hx1 hz)
    refine hK.out _ _ (by assumption) ?_
    clear hK K
    (try simp only [Act.put, List.setIfInBounds_toArray, List.set_cons_zero, List.set_cons_succ])
    refine takeS_alone 5 rfl (by kernel_rfl) (by rfl) (fun K hK => ?_)
    go_simp
    (refine (rText_any text _ _ rfl hts).mono ?_; rintro e x2 ⟨aB, nB, qB, rfl, ho, hb⟩; have hlB := ho.len; rw [textB_len] at hlB; have LB := Lib.hid hlB; clear hlB; have HB := Lib.hid (ho.le (HSZ.out _ b1)); have HA := Lib.hid (HA.out.below hb (Nat.le_refl _)); have b2 := b1.trans (hb.mono (HSZ.out _ b1)); clear ho hb)
    refine hK.out _ _ (by assumption) ?_
    clear hK K
    (try simp only [Act.put, List.setIfInBounds_toArray, List.set_cons_zero, List.set_cons_succ])
  all_goals
    refine takeS_alone 6 rfl (by kernel_rfl) (by rfl) (fun K hK => ?_)
    skip
    (refine oper_append_bo (.tmp 6) (.tmp 9) rfl (w.heap.size + 1) rfl HA.out rfl HB.out.len _ HB.out.in HB.out.nil (by have := LB.out; have := HVL.out; omega) (HSZ.out _ b2) ?_; intro aD nD qD x3 ho hg hn; have LD := Lib.hid hn; clear hn; have b3 := b2.grown hg (HSZ.out _ b2) (fun k hk => (HA.out.lt k hk).1); have HD := Lib.hid ho; clear ho hg)
    refine hK.out _ _ (by assumption) ?_
    clear hK K
    (try simp only [Act.put, List.setIfInBounds_toArray, List.set_cons_zero, List.set_cons_succ])
    (first | (refine takeS_no 7 rfl (by kernel_rfl) (by kernel_rfl) (by kernel_rfl) (fun _ _ _ h => h) (by rfl) (by assumption) ?_) | (refine takeS_yes (v := ?_) 7 rfl (by kernel_rfl) (by kernel_rfl) (by kernel_rfl) (fun _ _ _ h => h) (by rfl) (by assumption) ?_ ?_; rotate_left; focus (intro wS hSw; obtain ⟨d0, d1, d2, d3⟩ := HCL.out wS hSw; go_simp; first | done | with_reducible rfl)))
    (try simp only [Act.put, List.setIfInBounds_toArray, List.set_cons_zero, List.set_cons_succ])
    refine wpAnyH_done (by kernel_rfl) ?_ _
  all_goals
    go_wp2_with fail
    refine heldS_begin (fun w' => Below (w.heap.size + 1) w0 w') (by kernel_rfl) (Below.drew b3) ?_
    intro hS0
    (first | (refine takeS_no 0 rfl (by kernel_rfl) (by kernel_rfl) (by kernel_rfl) (fun _ _ _ h => h) (by rfl) (by assumption) ?_) | (refine takeS_yes (v := ?_) 0 rfl (by kernel_rfl) (by kernel_rfl) (by kernel_rfl) (fun _ _ _ h => h) (by rfl) (by assumption) ?_ ?_; rotate_left; focus (intro wS hSw; obtain ⟨d0, d1, d2, d3⟩ := HCL.out wS hSw; go_simp; first | done | with_reducible rfl)))
    (try simp only [Act.put, List.setIfInBounds_toArray, List.set_cons_zero, List.set_cons_succ])
    (first | (refine takeS_no 1 rfl (by kernel_rfl) (by kernel_rfl) (by kernel_rfl) (fun _ _ _ h => h) (by rfl) (by assumption) ?_) | (refine takeS_yes (v := ?_) 1 rfl (by kernel_rfl) (by kernel_rfl) (by kernel_rfl) (fun _ _ _ h => h) (by rfl) (by assumption) ?_ ?_; rotate_left; focus (intro wS hSw; obtain ⟨d0, d1, d2, d3⟩ := HCL.out wS hSw; go_simp; first | done | with_reducible rfl)))
    (try simp only [Act.put, List.setIfInBounds_toArray, List.set_cons_zero, List.set_cons_succ])
    (first | (refine takeS_no 2 rfl (by kernel_rfl) (by kernel_rfl) (by kernel_rfl) (fun _ _ _ h => h) (by rfl) (by assumption) ?_) | (refine takeS_yes (v := ?_) 2 rfl (by kernel_rfl) (by kernel_rfl) (by kernel_rfl) (fun _ _ _ h => h) (by rfl) (by assumption) ?_ ?_; rotate_left; focus (intro wS hSw; obtain ⟨d0, d1, d2, d3⟩ := HCL.out wS hSw; go_simp; first | done | with_reducible rfl)))
    (try simp only [Act.put, List.setIfInBounds_toArray, List.set_cons_zero, List.set_cons_succ])
    (first | (refine takeS_no 5 rfl (by kernel_rfl) (by kernel_rfl) (by kernel_rfl) (fun _ _ _ h => h) (by rfl) (by assumption) ?_) | (refine takeS_yes (v := ?_) 5 rfl (by kernel_rfl) (by kernel_rfl) (by kernel_rfl) (fun _ _ _ h => h) (by rfl) (by assumption) ?_ ?_; rotate_left; focus (intro wS hSw; obtain ⟨d0, d1, d2, d3⟩ := HCL.out wS hSw; go_simp; first | done | with_reducible rfl)))
    (try simp only [Act.put, List.setIfInBounds_toArray, List.set_cons_zero, List.set_cons_succ])
    (first | (refine takeS_no 6 rfl (by kernel_rfl) (by kernel_rfl) (by kernel_rfl) (fun _ _ _ h => h) (by rfl) (by assumption) ?_) | (refine takeS_yes (v := ?_) 6 rfl (by kernel_rfl) (by kernel_rfl) (by kernel_rfl) (fun _ _ _ h => h) (by rfl) (by assumption) ?_ ?_; rotate_left; focus (intro wS hSw; obtain ⟨d0, d1, d2, d3⟩ := HCL.out wS hSw; go_simp; first | done | with_reducible rfl)))
    (try simp only [Act.put, List.setIfInBounds_toArray, List.set_cons_zero, List.set_cons_succ])
    refine takeS_alone 3 rfl (by kernel_rfl) (by rfl) (fun K hK => ?_)
    go_simp
    (have b3 := hS0; have hz0 := HSZ.out _ b3; refine (rNumber_any num _ _ rfl).mono ?_; rintro e x4 ⟨aB, nB, qB, rfl, ho, hb⟩; obtain rfl : nB = 8 := (by rw [← ho.len]; exact numB_len _ _); have HB := Lib.hid (ho.le hz0); have HD := Lib.hid ((BOwn.below HD.out (below_drewN (Below.refl _ _) 1) (Nat.le_refl _)).below hb (Nat.le_refl _)); have b4 := b3.trans (hb.mono hz0); clear ho hb hz0)
    refine hK.out _ _ (by assumption) ?_
    clear hK K
    (try simp only [Act.put, List.setIfInBounds_toArray, List.set_cons_zero, List.set_cons_succ])
    refine takeS_alone 4 rfl (by kernel_rfl) (by rfl) (fun K hK => ?_)
    skip
    (refine oper_append_bo (.tmp 11) (.tmp 14) rfl (w.heap.size + 1) rfl HD.out rfl HB.out.len _ HB.out.in HB.out.nil (by have := LD.out; have := LB.out; have := HVL.out; omega) (HSZ.out _ b4) ?_; intro aC nC qC x5 ho hg hn; have LC := Lib.hid hn; clear hn; have b5 := b4.grown hg (HSZ.out _ b4) (fun k hk => (HD.out.lt k hk).1); have HC := Lib.hid ho; clear ho hg)
    refine hK.out _ _ (by assumption) ?_
    clear hK K
    (try simp only [Act.put, List.setIfInBounds_toArray, List.set_cons_zero, List.set_cons_succ])
    refine takeS_alone 7 rfl (by kernel_rfl) (by rfl) (fun K hK => ?_)
    go_simp
    (refine (rValues_any ao n cap args _ _ rfl HN.out (RowsIn.mono noSub_rising (RowsIn.below noSub_kept HX.out (HWD.out _ b5) (Nat.le_refl _)) (Nat.le_of_lt (HSZ.out _ b5))) HTX.out (by have := HVL.out; omega) hnl).mono ?_; rintro e x6 ⟨aV, nV, qV, rfl, ho, hb⟩; have lV := ho.len; have LV := Lib.hid lV; clear lV; have HV := Lib.hid (ho.le (HSZ.out _ b5)); have HC := Lib.hid (HC.out.below hb (Nat.le_refl _)); have b6 := b5.trans (hb.mono (HSZ.out _ b5)); clear ho hb)
    refine hK.out _ _ (by assumption) ?_
    clear hK K
    (try simp only [Act.put, List.setIfInBounds_toArray, List.set_cons_zero, List.set_cons_succ])
    refine takeS_alone 8 rfl (by kernel_rfl) (by rfl) (fun K hK => ?_)
    skip
    (refine oper_append_bo (.tmp 15) (.tmp 18) rfl (w.heap.size + 1) rfl HC.out rfl HV.out.len _ HV.out.in HV.out.nil (by have := LD.out; have := LB.out; have := LC.out; have := LV.out; have := HVL.out; omega) (HSZ.out _ b6) ?_; intro aR nR qR x7 ho hg hn; have LR := Lib.hid hn; clear hn; have b7 := b6.grown hg (HSZ.out _ b6) (fun k hk => (HC.out.lt k hk).1); have HR := Lib.hid ho; clear ho hg)
    refine hK.out _ _ (by assumption) ?_
    clear hK K
    (try simp only [Act.put, List.setIfInBounds_toArray, List.set_cons_zero, List.set_cons_succ])
    (first | (refine takeS_no 9 rfl (by kernel_rfl) (by kernel_rfl) (by kernel_rfl) (fun _ _ _ h => h) (by rfl) (by assumption) ?_) | (refine takeS_yes (v := ?_) 9 rfl (by kernel_rfl) (by kernel_rfl) (by kernel_rfl) (fun _ _ _ h => h) (by rfl) (by assumption) ?_ ?_; rotate_left; focus (intro wS hSw; obtain ⟨d0, d1, d2, d3⟩ := HCL.out wS hSw; go_simp; first | done | with_reducible rfl)))
    (try simp only [Act.put, List.setIfInBounds_toArray, List.set_cons_zero, List.set_cons_succ])
    refine wpAnyH_done (by kernel_rfl) ?_ _
    go_wp2_with fail
    go_ret
    exact ⟨_, _, _, rfl, by have h := HR.out.le (Nat.le_succ _); simp only [List.append_assoc] at h; rw [← HL.out]; exact h, HWD.out _ b7⟩
set_option maxHeartbeats 2000000 in
theorem rEntry_any (x0 x1 x2 x3 ck : Int) (text : ByteArray) (ao : Option Addr) (n cap : Nat) (num : Int) (args : List Va) (vo : Option Addr) (vn vc : Nat) (vs : List Int) (L : List Int) (w : World) (hL : entryB ⟨x0, x1, x2, x3, ck, text, args, num, vs⟩ = L) (hn : args.length = n) (hvn : vs.length = vn) (hx : ValsIn w w.heap.size ao args) (hy : NumsIn w w.heap.size vo vs) (htx : ∀ v ∈ args, v.text.size ≤ 1099511627776) (hts : text.size ≤ 1099511627776) (hl : L.length ≤ 100000000000) (hnl : n ≤ 1099511627776) (hvl : vn ≤ 1099511627776) :
    Calls Tryz.prog 82 #[.agg #[.int .i64 x0, .int .u8 x1, .int .i64 x2, .int .i64 x3, .int .u8 ck, .string text, .slice ao n cap, .int .i64 num, .slice vo vn vc]] w (RNew L w) := by
  have hb0 := (Below.refl w.heap.size w).alloc (Nat.le_refl _) (.cells #[.int .i64 x0, .int .u8 x1, .int .i64 x2, .int .i64 x3, .int .u8 ck, .string text, .slice ao n cap, .int .i64 num, .slice vo vn vc] 60)
  have hk0 := heap_alloc_new w (.cells #[.int .i64 x0, .int .u8 x1, .int .i64 x2, .int .i64 x3, .int .u8 ck, .string text, .slice ao n cap, .int .i64 num, .slice vo vn vc] 60)
  have hs0 : (w.alloc (.cells #[.int .i64 x0, .int .u8 x1, .int .i64 x2, .int .i64 x3, .int .u8 ck, .string text, .slice ao n cap, .int .i64 num, .slice vo vn vc] 60)).heap.size = w.heap.size + 1 := by simp
  have HB0 := Lib.hid hb0
  have HK0 := Lib.hid hk0
  have HS0 := Lib.hid hs0
  have HL := Lib.hid hL
  clear hb0 hk0 hs0 hL
  have hel : 29 + (commandB ck text num args).length + (vs.flatMap (numB 8)).length = L.length := by rw [← HL.out]; unfold entryB; simp only [List.length_append, List.length_cons, numB_len]; omega
  have HX := Lib.hid hx
  have HY := Lib.hid hy
  have HN := Lib.hid hn
  have HVN := Lib.hid hvn
  have HTX := Lib.hid htx
  have HEL := Lib.hid hel
  clear hx hy hn hvn htx hel
  go_enter Tryz.func82, Tryz.ntmps82
  go_wp2_with fail
  have hb0 := HB0.out
  have hk0 := HK0.out
  have hs0 := HS0.out
  generalize w.alloc (.cells #[.int .i64 x0, .int .u8 x1, .int .i64 x2, .int .i64 x3, .int .u8 ck, .string text, .slice ao n cap, .int .i64 num, .slice vo vn vc] 60) = w0 at hb0 hk0 hs0 ⊢
  clear HB0 HK0 HS0
  have HCL := Lib.hid (show ∀ w', Below (w.heap.size + 1) w0 w' → w'.cell? ⟨w.heap.size, 0, none⟩ = some (.int .i64 x0) ∧ w'.cell? ⟨w.heap.size, 1, none⟩ = some (.int .u8 x1) ∧ w'.cell? ⟨w.heap.size, 2, none⟩ = some (.int .i64 x2) ∧ w'.cell? ⟨w.heap.size, 3, none⟩ = some (.int .i64 x3) ∧ w'.cell? ⟨w.heap.size, 4, none⟩ = some (.int .u8 ck) ∧ w'.cell? ⟨w.heap.size, 5, none⟩ = some (.string text) ∧ w'.cell? ⟨w.heap.size, 6, none⟩ = some (.slice ao n cap) ∧ w'.cell? ⟨w.heap.size, 7, none⟩ = some (.int .i64 num) ∧ w'.cell? ⟨w.heap.size, 8, none⟩ = some (.slice vo vn vc) from fun w' h => have hk := (h.block w.heap.size (Nat.lt_succ_self _)).trans hk0; ⟨Go.Joins.cell_of_block hk 0, Go.Joins.cell_of_block hk 1, Go.Joins.cell_of_block hk 2, Go.Joins.cell_of_block hk 3, Go.Joins.cell_of_block hk 4, Go.Joins.cell_of_block hk 5, Go.Joins.cell_of_block hk 6, Go.Joins.cell_of_block hk 7, Go.Joins.cell_of_block hk 8⟩)
  have HSZ := Lib.hid (show ∀ w', Below (w.heap.size + 1) w0 w' → w.heap.size + 1 ≤ w'.heap.size from fun w' h => hs0 ▸ h.size)
  have HWD := Lib.hid (show ∀ w', Below (w.heap.size + 1) w0 w' → Below w.heap.size w w' from fun w' h => hb0.trans (h.mono (Nat.le_succ _)))
  clear hb0 hk0 hs0
  refine heldS_begin (fun w' => Below (w.heap.size + 1) w0 w') (by kernel_rfl) ((Below.refl _ _).drew) ?_
  intro hS0
  (first | (refine takeS_no 0 rfl (by kernel_rfl) (by kernel_rfl) (by kernel_rfl) (fun _ _ _ h => h) (by rfl) (by assumption) ?_) | (refine takeS_yes (v := ?_) 0 rfl (by kernel_rfl) (by kernel_rfl) (by kernel_rfl) (fun _ _ _ h => h) (by rfl) (by assumption) ?_ ?_; rotate_left; focus (intro wS hSw; obtain ⟨d0, d1, d2, d3, d4, d5, d6, d7, d8⟩ := HCL.out wS hSw; go_simp; first | done | with_reducible rfl)))
  (try simp only [Act.put, List.setIfInBounds_toArray, List.set_cons_zero, List.set_cons_succ])
  (first | (refine takeS_no 1 rfl (by kernel_rfl) (by kernel_rfl) (by kernel_rfl) (fun _ _ _ h => h) (by rfl) (by assumption) ?_) | (refine takeS_yes (v := ?_) 1 rfl (by kernel_rfl) (by kernel_rfl) (by kernel_rfl) (fun _ _ _ h => h) (by rfl) (by assumption) ?_ ?_; rotate_left; focus (intro wS hSw; obtain ⟨d0, d1, d2, d3, d4, d5, d6, d7, d8⟩ := HCL.out wS hSw; go_simp; first | done | with_reducible rfl)))
  (try simp only [Act.put, List.setIfInBounds_toArray, List.set_cons_zero, List.set_cons_succ])
  (first | (refine takeS_no 3 rfl (by kernel_rfl) (by kernel_rfl) (by kernel_rfl) (fun _ _ _ h => h) (by rfl) (by assumption) ?_) | (refine takeS_yes (v := ?_) 3 rfl (by kernel_rfl) (by kernel_rfl) (by kernel_rfl) (fun _ _ _ h => h) (by rfl) (by assumption) ?_ ?_; rotate_left; focus (intro wS hSw; obtain ⟨d0, d1, d2, d3, d4, d5, d6, d7, d8⟩ := HCL.out wS hSw; go_simp; first | done | with_reducible rfl)))
  (try simp only [Act.put, List.setIfInBounds_toArray, List.set_cons_zero, List.set_cons_succ])
  (first | (refine takeS_no 4 rfl (by kernel_rfl) (by kernel_rfl) (by kernel_rfl) (fun _ _ _ h => h) (by rfl) (by assumption) ?_) | (refine takeS_yes (v := ?_) 4 rfl (by kernel_rfl) (by kernel_rfl) (by kernel_rfl) (fun _ _ _ h => h) (by rfl) (by assumption) ?_ ?_; rotate_left; focus (intro wS hSw; obtain ⟨d0, d1, d2, d3, d4, d5, d6, d7, d8⟩ := HCL.out wS hSw; go_simp; first | done | with_reducible rfl)))
  (try simp only [Act.put, List.setIfInBounds_toArray, List.set_cons_zero, List.set_cons_succ])
  refine takeS_two 2 5 rfl rfl (by kernel_rfl) (by rfl) (by rfl) (fun K hK => ?_) (fun K hK => ?_)
  rotate_left
  focus
    go_simp
    (have hlit := BOwn.lit w0 [x1] (by simp); have hz := HSZ.out _ (Below.refl _ w0); have b1 : Below (w.heap.size + 1) w0 (w0.alloc (.cells #[.int .u8 x1] 5)).drew := ((Below.refl _ w0).alloc hz _).drew; have HB : Hid (BOwn (w0.alloc (.cells #[.int .u8 x1] 5)).drew (w.heap.size + 1) (some ⟨w0.heap.size, 0, none⟩) 1 1 [x1]) := Lib.hid (BOwn.below (BOwn.le hlit hz) (below_drewN (Below.refl _ _) 1) (Nat.le_refl _)); clear hlit; generalize hx1 : (w0.alloc (.cells #[.int .u8 x1] 5)).drew = y1 at b1 HB ⊢; clear hx1 hz)
    refine hK.out _ _ (by assumption) ?_
    clear hK K
    (try simp only [Act.put, List.setIfInBounds_toArray, List.set_cons_zero, List.set_cons_succ])
    refine takeS_alone 2 rfl (by kernel_rfl) (by rfl) (fun K hK => ?_)
    go_simp
    (have hz := HSZ.out _ b1; refine (rNumber_any x0 _ _ rfl).mono ?_; rintro e y2 ⟨aA, nA, qA, rfl, ho, hb⟩; obtain rfl : nA = 8 := (by rw [← ho.len]; exact numB_len _ _); have HA := Lib.hid (ho.le hz); have HB := Lib.hid (HB.out.below hb (Nat.le_refl _)); have b2 := b1.trans (hb.mono hz); clear ho hb hz)
    refine hK.out _ _ (by assumption) ?_
    clear hK K
    (try simp only [Act.put, List.setIfInBounds_toArray, List.set_cons_zero, List.set_cons_succ])
  rotate_left
  focus
    go_simp
    (have hz := HSZ.out _ hS0; refine (rNumber_any x0 _ _ rfl).mono ?_; rintro e y1 ⟨aA, nA, qA, rfl, ho, hb⟩; obtain rfl : nA = 8 := (by rw [← ho.len]; exact numB_len _ _); have HA := Lib.hid (ho.le hz); have b1 := Below.trans hS0 (hb.mono hz); clear ho hb hz)
    refine hK.out _ _ (by assumption) ?_
    clear hK K
    (try simp only [Act.put, List.setIfInBounds_toArray, List.set_cons_zero, List.set_cons_succ])
    refine takeS_alone 5 rfl (by kernel_rfl) (by rfl) (fun K hK => ?_)
    go_simp
    (have hlit := BOwn.lit y1 [x1] (by simp); have hz := HSZ.out _ b1; have hA := (Below.refl y1.heap.size y1).alloc (Nat.le_refl _) (.cells #[.int .u8 x1] 5); have b2 := Below.alloc b1 hz (.cells #[.int .u8 x1] 5); have HB : Hid (BOwn (y1.alloc (.cells #[.int .u8 x1] 5)) (w.heap.size + 1) (some ⟨y1.heap.size, 0, none⟩) 1 1 [x1]) := Lib.hid (BOwn.le hlit hz); have HA := Lib.hid (HA.out.below hA (Nat.le_refl _)); clear hlit hA; generalize hx2 : World.alloc y1 (.cells #[.int .u8 x1] 5) = y2 at b2 HA HB ⊢; clear hx2 hz)
    refine hK.out _ _ (by assumption) ?_
    clear hK K
    (try simp only [Act.put, List.setIfInBounds_toArray, List.set_cons_zero, List.set_cons_succ])
  all_goals
    refine takeS_alone 6 rfl (by kernel_rfl) (by rfl) (fun K hK => ?_)
    skip
    (refine oper_append_bo (.tmp 7) (.tmp 10) rfl (w.heap.size + 1) rfl HA.out rfl HB.out.len _ HB.out.in HB.out.nil (by decide) (HSZ.out _ b2) ?_; intro aD nD qD y3 ho hg hn; obtain rfl : nD = 9 := hn; have b3 := b2.grown hg (HSZ.out _ b2) (fun k hk => (HA.out.lt k hk).1); have HD := Lib.hid ho; clear ho hg)
    refine hK.out _ _ (by assumption) ?_
    clear hK K
    (try simp only [Act.put, List.setIfInBounds_toArray, List.set_cons_zero, List.set_cons_succ])
    (first | (refine takeS_no 7 rfl (by kernel_rfl) (by kernel_rfl) (by kernel_rfl) (fun _ _ _ h => h) (by rfl) (by assumption) ?_) | (refine takeS_yes (v := ?_) 7 rfl (by kernel_rfl) (by kernel_rfl) (by kernel_rfl) (fun _ _ _ h => h) (by rfl) (by assumption) ?_ ?_; rotate_left; focus (intro wS hSw; obtain ⟨d0, d1, d2, d3, d4, d5, d6, d7, d8⟩ := HCL.out wS hSw; go_simp; first | done | with_reducible rfl)))
    (try simp only [Act.put, List.setIfInBounds_toArray, List.set_cons_zero, List.set_cons_succ])
    refine wpAnyH_done (by kernel_rfl) ?_ _
  all_goals
    clear HA HB
    go_wp2_with fail
    refine heldS_begin (fun w' => Below (w.heap.size + 1) w0 w') (by kernel_rfl) (Below.drew b3) ?_
    intro hS0
    (first | (refine takeS_no 0 rfl (by kernel_rfl) (by kernel_rfl) (by kernel_rfl) (fun _ _ _ h => h) (by rfl) (by assumption) ?_) | (refine takeS_yes (v := ?_) 0 rfl (by kernel_rfl) (by kernel_rfl) (by kernel_rfl) (fun _ _ _ h => h) (by rfl) (by assumption) ?_ ?_; rotate_left; focus (intro wS hSw; obtain ⟨d0, d1, d2, d3, d4, d5, d6, d7, d8⟩ := HCL.out wS hSw; go_simp; first | done | with_reducible rfl)))
    (try simp only [Act.put, List.setIfInBounds_toArray, List.set_cons_zero, List.set_cons_succ])
    (first | (refine takeS_no 1 rfl (by kernel_rfl) (by kernel_rfl) (by kernel_rfl) (fun _ _ _ h => h) (by rfl) (by assumption) ?_) | (refine takeS_yes (v := ?_) 1 rfl (by kernel_rfl) (by kernel_rfl) (by kernel_rfl) (fun _ _ _ h => h) (by rfl) (by assumption) ?_ ?_; rotate_left; focus (intro wS hSw; obtain ⟨d0, d1, d2, d3, d4, d5, d6, d7, d8⟩ := HCL.out wS hSw; go_simp; first | done | with_reducible rfl)))
    (try simp only [Act.put, List.setIfInBounds_toArray, List.set_cons_zero, List.set_cons_succ])
    (first | (refine takeS_no 2 rfl (by kernel_rfl) (by kernel_rfl) (by kernel_rfl) (fun _ _ _ h => h) (by rfl) (by assumption) ?_) | (refine takeS_yes (v := ?_) 2 rfl (by kernel_rfl) (by kernel_rfl) (by kernel_rfl) (fun _ _ _ h => h) (by rfl) (by assumption) ?_ ?_; rotate_left; focus (intro wS hSw; obtain ⟨d0, d1, d2, d3, d4, d5, d6, d7, d8⟩ := HCL.out wS hSw; go_simp; first | done | with_reducible rfl)))
    (try simp only [Act.put, List.setIfInBounds_toArray, List.set_cons_zero, List.set_cons_succ])
    (first | (refine takeS_no 5 rfl (by kernel_rfl) (by kernel_rfl) (by kernel_rfl) (fun _ _ _ h => h) (by rfl) (by assumption) ?_) | (refine takeS_yes (v := ?_) 5 rfl (by kernel_rfl) (by kernel_rfl) (by kernel_rfl) (fun _ _ _ h => h) (by rfl) (by assumption) ?_ ?_; rotate_left; focus (intro wS hSw; obtain ⟨d0, d1, d2, d3, d4, d5, d6, d7, d8⟩ := HCL.out wS hSw; go_simp; first | done | with_reducible rfl)))
    (try simp only [Act.put, List.setIfInBounds_toArray, List.set_cons_zero, List.set_cons_succ])
    (first | (refine takeS_no 6 rfl (by kernel_rfl) (by kernel_rfl) (by kernel_rfl) (fun _ _ _ h => h) (by rfl) (by assumption) ?_) | (refine takeS_yes (v := ?_) 6 rfl (by kernel_rfl) (by kernel_rfl) (by kernel_rfl) (fun _ _ _ h => h) (by rfl) (by assumption) ?_ ?_; rotate_left; focus (intro wS hSw; obtain ⟨d0, d1, d2, d3, d4, d5, d6, d7, d8⟩ := HCL.out wS hSw; go_simp; first | done | with_reducible rfl)))
    (try simp only [Act.put, List.setIfInBounds_toArray, List.set_cons_zero, List.set_cons_succ])
    refine takeS_alone 3 rfl (by kernel_rfl) (by rfl) (fun K hK => ?_)
    go_simp
    (have b3 := hS0; have hz0 := HSZ.out _ b3; refine (rNumber_any x2 _ _ rfl).mono ?_; rintro e y4 ⟨aB, nB, qB, rfl, ho, hb⟩; obtain rfl : nB = 8 := (by rw [← ho.len]; exact numB_len _ _); have HB := Lib.hid (ho.le hz0); have HD := Lib.hid ((BOwn.below HD.out (below_drewN (Below.refl _ _) 1) (Nat.le_refl _)).below hb (Nat.le_refl _)); have b4 := b3.trans (hb.mono hz0); clear ho hb hz0)
    refine hK.out _ _ (by assumption) ?_
    clear hK K
    (try simp only [Act.put, List.setIfInBounds_toArray, List.set_cons_zero, List.set_cons_succ])
    refine takeS_alone 4 rfl (by kernel_rfl) (by rfl) (fun K hK => ?_)
    skip
    (refine oper_append_bo (.tmp 12) (.tmp 15) rfl (w.heap.size + 1) rfl HD.out rfl HB.out.len _ HB.out.in HB.out.nil (by decide) (HSZ.out _ b4) ?_; intro aC nC qC y5 ho hg hn; obtain rfl : nC = 17 := hn; have b5 := b4.grown hg (HSZ.out _ b4) (fun k hk => (HD.out.lt k hk).1); have HC := Lib.hid ho; clear ho hg)
    refine hK.out _ _ (by assumption) ?_
    clear hK K
    (try simp only [Act.put, List.setIfInBounds_toArray, List.set_cons_zero, List.set_cons_succ])
    refine takeS_alone 7 rfl (by kernel_rfl) (by rfl) (fun K hK => ?_)
    go_simp
    (have hz5 := HSZ.out _ b5; refine (rNumber_any x3 _ _ rfl).mono ?_; rintro e y6 ⟨aE, nE, qE, rfl, ho, hb⟩; obtain rfl : nE = 8 := (by rw [← ho.len]; exact numB_len _ _); have HE := Lib.hid (ho.le hz5); have HC := Lib.hid (HC.out.below hb (Nat.le_refl _)); have b6 := b5.trans (hb.mono hz5); clear ho hb hz5)
    refine hK.out _ _ (by assumption) ?_
    clear hK K
    (try simp only [Act.put, List.setIfInBounds_toArray, List.set_cons_zero, List.set_cons_succ])
    refine takeS_alone 8 rfl (by kernel_rfl) (by rfl) (fun K hK => ?_)
    skip
    (refine oper_append_bo (.tmp 16) (.tmp 19) rfl (w.heap.size + 1) rfl HC.out rfl HE.out.len _ HE.out.in HE.out.nil (by decide) (HSZ.out _ b6) ?_; intro aG nG qG y7 ho hg hn; obtain rfl : nG = 25 := hn; have b7 := b6.grown hg (HSZ.out _ b6) (fun k hk => (HC.out.lt k hk).1); have HG := Lib.hid ho; clear ho hg)
    refine hK.out _ _ (by assumption) ?_
    clear hK K
    (try simp only [Act.put, List.setIfInBounds_toArray, List.set_cons_zero, List.set_cons_succ])
    (first | (refine takeS_no 9 rfl (by kernel_rfl) (by kernel_rfl) (by kernel_rfl) (fun _ _ _ h => h) (by rfl) (by assumption) ?_) | (refine takeS_yes (v := ?_) 9 rfl (by kernel_rfl) (by kernel_rfl) (by kernel_rfl) (fun _ _ _ h => h) (by rfl) (by assumption) ?_ ?_; rotate_left; focus (intro wS hSw; obtain ⟨d0, d1, d2, d3, d4, d5, d6, d7, d8⟩ := HCL.out wS hSw; go_simp; first | done | with_reducible rfl)))
    (try simp only [Act.put, List.setIfInBounds_toArray, List.set_cons_zero, List.set_cons_succ])
    refine wpAnyH_done (by kernel_rfl) ?_ _
    clear HB HC HD HE
    obtain ⟨e0, e1, e2, e3, e4, e5, e6, e7, e8⟩ := HCL.out _ b7
    have hsz7 := HSZ.out _ b7
    obtain ⟨cq, hcq⟩ : ∃ q, commandB ck text num args = q := ⟨_, rfl⟩
    have hcl : cq.length ≤ 100000000000 := by have := HEL.out; rw [hcq] at this; omega
    have HCQ := Lib.hid hcq
    clear e0 e1 e2 e3 hcq
    go_wp2_with fail
    refine (rCommand_any ck text ao n cap num args cq y7 HCQ.out HN.out (RowsIn.mono noSub_rising (RowsIn.below noSub_kept HX.out (HWD.out _ b7) (Nat.le_refl _)) (HWD.out _ b7).size) HTX.out hts hcl hnl).mono ?_
    rintro e y8 ⟨aH, nH, qH, rfl, ho, hb⟩
    have HLH := Lib.hid ho.len
    have HH := Lib.hid (ho.le hsz7)
    have HG := Lib.hid (HG.out.below hb (Nat.le_refl _))
    have b8 := b7.trans (hb.mono hsz7)
    have hsz8 := HSZ.out _ b8
    clear ho hb e4 e5 e6 e7 e8 hsz7
    go_wp2_with (at_builtin; refine wpList_append_bo rfl (.tmp 21) (.tmp 24) rfl (w.heap.size + 1) rfl HG.out rfl HH.out.len _ HH.out.in HH.out.nil (by have := HLH.out; omega) hsz8 ?_)
    intro aI nI qI y9 ho hg hn
    have HNI := Lib.hid hn
    have b9 := b8.grown hg hsz8 (fun k hk => (HG.out.lt k hk).1)
    have HI := Lib.hid ho
    have hsz9 := HSZ.out _ b9
    obtain ⟨_, _, _, _, _, _, _, _, e8⟩ := HCL.out _ b9
    clear ho hg hn HH HG hsz8
    go_wp2_with fail
    refine (rcountW_any vn y9 (by omega)).mono ?_
    rintro e y10 ⟨aJ, nJ, qJ, rfl, ho, hb⟩
    obtain rfl : nJ = 4 := (by rw [← ho.len]; exact numB_len _ _)
    have HJ := Lib.hid (ho.le hsz9)
    have HI := Lib.hid (HI.out.below hb (Nat.le_refl _))
    have b10 := b9.trans (hb.mono hsz9)
    have hsz10 := HSZ.out _ b10
    clear ho hb e8 hsz9
    go_wp2_with (at_builtin; refine wpList_append_bo rfl (.tmp 26) (.tmp 30) rfl (w.heap.size + 1) rfl HI.out rfl HJ.out.len _ HJ.out.in HJ.out.nil (by have := HNI.out; have := HLH.out; omega) hsz10 ?_)
    intro aK nK qK y11 ho hg hn
    have b11 := b10.grown hg hsz10 (fun k hk => (HI.out.lt k hk).1)
    obtain ⟨hd, hhd⟩ : ∃ q, numB 8 x0 ++ [x1] ++ numB 8 x2 ++ numB 8 x3 ++ cq ++ numB 4 vn = q := ⟨_, rfl⟩
    have hhl : hd.length = 29 + cq.length := by rw [← hhd]; simp only [List.length_append, List.length_singleton, numB_len]; omega
    have ho2 : BOwn y11 (w.heap.size + 1) aK nK qK hd := by rw [← hhd]; simpa using ho
    have HK := Lib.hid ho2
    have HHD := Lib.hid hhd
    have HHL := Lib.hid hhl
    obtain ⟨_, _, _, _, _, _, _, _, e8⟩ := HCL.out _ b11
    clear ho ho2 hg hn HJ HI HNI hsz10 hhd hhl
    go_wp2_with fail
    go_loopw [3, 4] (fun v i wr => ∃ (k m : Nat) (a : Option Addr) (c : Nat), k ≤ vn ∧ i = .int .i64 k ∧ v = .slice a m c ∧ BOwn wr (w.heap.size + 1) a m c (hd ++ (vs.take k).flatMap (numB 8)) ∧ Below (w.heap.size + 1) w0 wr) (fun _ i _ => vn - (intOf i).toNat)
    case atStart => exact ⟨0, nK, aK, qK, by omega, rfl, rfl, by simpa using HK.out, b11⟩
    case round =>
      clear HK b11 e8
      obtain ⟨k, m, a, c, hk, rfl, rfl, hown, hbel⟩ := hrel
      have HO := Lib.hid hown
      have hsz := HSZ.out _ hbel
      clear hown
      obtain ⟨_, _, _, _, _, _, _, _, e8⟩ := HCL.out _ hbel
      by_cases hlt : k < vn
      · have hkx : vs[k]? = some (vs[k]'(by rw [HVN.out]; exact hlt)) := List.getElem?_eq_getElem _
        have htk : vs.take (k + 1) = vs.take k ++ [vs[k]'(by rw [HVN.out]; exact hlt)] := List.take_succ_eq_append_getElem _
        have hle := flatMap_at_le (numB 8) vs k _ hkx
        obtain ⟨b, off, hao, hbb, hc, hsub⟩ := HY.out.at hkx
        generalize vs[k]'(by rw [HVN.out]; exact hlt) = x at hc hkx htk hle hsub
        have hml : m = 29 + cq.length + ((vs.take k).flatMap (numB 8)).length := by rw [← HO.out.len, List.length_append, HHL.out]
        have hmq : m + 8 ≤ 100000000000 := by have := HEL.out; rw [HCQ.out] at this; rw [numB_len] at hle; omega
        have hnew : hd ++ ((vs.take k).flatMap (numB 8) ++ numB 8 x) = hd ++ (vs.take (k + 1)).flatMap (numB 8) := by rw [htk, List.flatMap_append]; simp
        have hbw := HWD.out _ hbel
        have c0 : wr.cell? ⟨b, off + k, none⟩ = some (.int .i64 x) := (hbw.cell (p := ⟨b, _, none⟩) hbb).trans (by simpa [iCells] using hc 0 (by decide))
        have i1 : (k : Int) < vn := by omega
        have HNEW := Lib.hid hnew
        have HMQ := Lib.hid hmq
        subst hao
        clear hc hkx htk hle hml hnew hmq hsub hbw
        go_wp2_with fail
        refine (rNumber_any x _ wr rfl).mono ?_
        rintro e w2 ⟨a1, m1, c1, rfl, ho1, hb1⟩
        obtain rfl : m1 = 8 := (by rw [← ho1.len]; exact numB_len _ _)
        have HO1 := Lib.hid ho1
        have hb2 := hbel.trans (hb1.mono hsz)
        have hsz1 := HSZ.out _ hb2
        clear ho1 c0 e8
        go_wp2_with (at_builtin; refine wpList_append_bo rfl (.tmp 39) (.tmp 45) rfl (w.heap.size + 1) rfl (HO.out.below hb1 (Nat.le_refl _)) rfl HO1.out.len _ HO1.out.in HO1.out.nil (by have := HMQ.out; omega) hsz1 ?_)
        intro a2 n2 c2 w3 hown hg hn2
        have hb3 := hb2.grown hg hsz1 (fun k hk => (HO.out.lt k hk).1)
        have hown3 : BOwn w3 (w.heap.size + 1) a2 n2 c2 (hd ++ (vs.take (k + 1)).flatMap (numB 8)) := by rw [← HNEW.out]; simpa using hown
        have HO2 := Lib.hid hown3
        clear hown hown3 hg hn2
        go_wp2_with fail
        go_roundw
        case rel => exact ⟨k + 1, n2, a2, c2, by omega, by go_num, rfl, HO2.out, hb3⟩
        case measure => simp [intOf]; omega
      · obtain rfl : k = vn := by omega
        have hown := HO.out
        rw [List.take_of_length_le (l := vs) (by rw [HVN.out]; exact Nat.le_refl _)] at hown
        have hown2 : BOwn wr w.heap.size a m c L := by
          have h := hown.le (Nat.le_succ w.heap.size)
          rw [← HHD.out, ← HCQ.out] at h
          rw [← HL.out]
          unfold entryB
          dsimp only
          rw [HVN.out]
          simpa using h
        have HR := Lib.hid hown2
        clear hown hown2
        go_wp2_with fail
        go_ret
        exact ⟨_, _, _, rfl, HR.out, HWD.out _ hbel⟩
end Go.Proofs.YtnhnabcpkaeaaaaGreatDoor
