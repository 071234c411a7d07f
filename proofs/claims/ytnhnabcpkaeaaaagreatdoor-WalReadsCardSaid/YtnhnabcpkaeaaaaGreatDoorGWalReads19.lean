/- The reader of the document's answer: Entry. Conditions: its bytes lie as their reading says. -/
import Derived.Test.YtnhnabcpkaeaaaaGreatDoorGWalReads18
set_option linter.unusedVariables false
set_option linter.unusedSimpArgs false
namespace Go.Proofs.YtnhnabcpkaeaaaaGreatDoor
open Go.RowKit
set_option maxRecDepth 20000
set_option maxHeartbeats 8000000 in
theorem rrEntry_any (M db : Nat) (bad : Bool) (left : List Int) (r : EnP × Bool × List Int) (w : World) (hr : entryS bad left = r) (h : Ref w M db bad left) (hw : BytesWf left) :
    Calls Tryz.prog 80 #[.pointer (some ⟨db, 0, none⟩)] w fun e w' => ∃ f : En, f.plain = r.1 ∧ e = .returned (enVal f) ∧ (VasOwn w' w.heap.size f.aao f.args.length f.acap f.args ∧ IntsOwn w' w.heap.size f.vao f.vs.length f.vcap f.vs) ∧ Ref w' M db r.2.1 r.2.2 ∧ Only db w w' := by
  have hdb := h.lt
  have hM := h.le
  obtain ⟨⟨x0, b_0, l_0⟩, h_0⟩ : ∃ r, numS bad left = r := ⟨_, rfl⟩
  have q_0 := numS_shrinks bad left hw
  rw [h_0] at q_0
  dsimp only at q_0
  obtain ⟨⟨x1, b_1, l_1⟩, h_1⟩ : ∃ r, kindS b_0 l_0 = r := ⟨_, rfl⟩
  have q_1 := kindS_shrinks b_0 l_0 q_0.1
  rw [h_1] at q_1
  dsimp only at q_1
  have hk1 : 0 ≤ x1 ∧ x1 < 256 := by
    have h1 := getN_small (takeS_wf (n := 1) (bad := b_0) (left := l_0) q_0.1).1 (takeS_wf (n := 1) (bad := b_0) (left := l_0) q_0.1).2.2.1
    have h2 : getN (takeS 1 b_0 l_0).1 = x1 := congrArg Prod.fst h_1
    rw [h2] at h1
    exact h1
  have hu1 : IntKind.u8.wrap x1 = x1 := by
    unfold IntKind.wrap
    simp [IntKind.signed, IntKind.bits]
    omega
  have hkt1 : ∀ w1 : World, Ref w1 M db b_0 l_0 → Calls Tryz.prog 106 #[.pointer (some ⟨db, 0, none⟩), .int .i64 1] w1 (RSaidAt M db x1 b_1 l_1 w1) := fun w1 hr => by
    have h1 := rsaid_any M db 1 b_0 l_0 w1 hr q_0.1 (by omega)
    have h2 : getN (takeS 1 b_0 l_0).1 = x1 := congrArg Prod.fst h_1
    have h3 : (takeS 1 b_0 l_0).2 = (b_1, l_1) := congrArg Prod.snd h_1
    rw [h2, h3] at h1
    exact h1
  have HKT1 := Lib.hid hkt1
  obtain ⟨⟨x2, b_2, l_2⟩, h_2⟩ : ∃ r, numS b_1 l_1 = r := ⟨_, rfl⟩
  have q_2 := numS_shrinks b_1 l_1 q_1.1
  rw [h_2] at q_2
  dsimp only at q_2
  obtain ⟨⟨x3, b_3, l_3⟩, h_3⟩ : ∃ r, numS b_2 l_2 = r := ⟨_, rfl⟩
  have q_3 := numS_shrinks b_2 l_2 q_2.1
  rw [h_3] at q_3
  dsimp only at q_3
  obtain ⟨⟨xc, b_4, l_4⟩, h_4⟩ : ∃ r, commandS b_3 l_3 = r := ⟨_, rfl⟩
  have q_4 := commandS_shrinks b_3 l_3 q_3.1
  rw [h_4] at q_4
  dsimp only at q_4
  obtain ⟨⟨x8, b_5, l_5⟩, h_5⟩ : ∃ r, intsS b_4 l_4 = r := ⟨_, rfl⟩
  have q_5 := intsS_shrinks b_4 l_4 q_4.1
  rw [h_5] at q_5
  dsimp only at q_5
  have hcw := countS_wf (bad := b_4) (left := l_4) q_4.1
  have h_r : (let c := countS b_4 l_4; let r := rowS numS c.1.toNat c.2.1 c.2.2; ((if r.2.1 = true then [] else r.1), r.2)) = (x8, b_5, l_5) := h_5
  obtain ⟨⟨n_c, b_c, l_c⟩, h_c⟩ : ∃ r, countS b_4 l_4 = r := ⟨_, rfl⟩
  rw [h_c] at hcw h_r
  dsimp only at hcw h_r
  obtain ⟨N, rfl⟩ : ∃ N : Nat, n_c = N := ⟨n_c.toNat, by omega⟩
  have hN : N ≤ 65536 := by omega
  rw [Int.toNat_natCast] at h_r
  obtain ⟨⟨tot, b_t, l_t⟩, h_t⟩ : ∃ r, rowS numS N b_c l_c = r := ⟨_, rfl⟩
  rw [h_t] at h_r
  dsimp only at h_r
  simp only [Prod.mk.injEq] at h_r
  obtain ⟨h_tot, h_bt, h_lt⟩ := h_r
  subst h_bt h_lt
  have HTOT := Lib.hid h_tot
  have HTR := Lib.hid h_t
  have HCW := Lib.hid hcw
  have HCC := Lib.hid h_c
  clear h_tot h_t hcw h_c
  have HS := Lib.hid (show (if b_t = true then ⟨0, 0, 0, 0, 0, ByteArray.empty, [], 0, []⟩ else ⟨x0, x1, x2, x3, xc.kind, xc.text, xc.args, xc.num, x8⟩, b_t, l_t) = r by rw [← hr]; unfold entryS; dsimp only; simp only [h_0, h_1, h_2, h_3, h_4, h_5])
  have HH0 := Lib.hid h_0
  have HW0 := Lib.hid q_0.1
  have HH1 := Lib.hid h_1
  have HW1 := Lib.hid q_1.1
  have HH2 := Lib.hid h_2
  have HW2 := Lib.hid q_2.1
  have HH3 := Lib.hid h_3
  have HW3 := Lib.hid q_3.1
  have HH4 := Lib.hid h_4
  have HW4 := Lib.hid q_4.1
  have HH5 := Lib.hid h_5
  have HW5 := Lib.hid q_5.1
  have HW := Lib.hid hw
  clear hr h_0 q_0 h_1 q_1 hkt1 h_2 q_2 h_3 q_3 h_4 q_4 h_5 q_5
  have hA := (Below.refl w.heap.size w).alloc (Nat.le_refl _) (.cells #[.int .i64 0, .int .u8 0, .int .i64 0, .int .i64 0, .int .u8 0, .string ⟨#[]⟩, .slice none 0 0, .int .i64 0, .slice none 0 0] 60)
  have hA2 := (Below.refl (w.alloc (.cells #[.int .i64 0, .int .u8 0, .int .i64 0, .int .i64 0, .int .u8 0, .string ⟨#[]⟩, .slice none 0 0, .int .i64 0, .slice none 0 0] 60)).heap.size (w.alloc (.cells #[.int .i64 0, .int .u8 0, .int .i64 0, .int .i64 0, .int .u8 0, .string ⟨#[]⟩, .slice none 0 0, .int .i64 0, .slice none 0 0] 60))).alloc (Nat.le_refl _) (.cells #[.int .i64 0, .int .u8 0, .int .i64 0, .int .i64 0, .int .u8 0, .string ⟨#[]⟩, .slice none 0 0, .int .i64 0, .slice none 0 0] 60)
  have R0 := Lib.hid ((h.below hA).below hA2)
  have O0 := Lib.hid (((Only.refl db w).alloc (.cells #[.int .i64 0, .int .u8 0, .int .i64 0, .int .i64 0, .int .u8 0, .string ⟨#[]⟩, .slice none 0 0, .int .i64 0, .slice none 0 0] 60)).alloc (.cells #[.int .i64 0, .int .u8 0, .int .i64 0, .int .i64 0, .int .u8 0, .string ⟨#[]⟩, .slice none 0 0, .int .i64 0, .slice none 0 0] 60))
  have Z0 := Lib.hid ((hA2.block w.heap.size (by simp)).trans (heap_alloc_new w (.cells #[.int .i64 0, .int .u8 0, .int .i64 0, .int .i64 0, .int .u8 0, .string ⟨#[]⟩, .slice none 0 0, .int .i64 0, .slice none 0 0] 60)))
  have hG0 := heap_alloc_new (w.alloc (.cells #[.int .i64 0, .int .u8 0, .int .i64 0, .int .i64 0, .int .u8 0, .string ⟨#[]⟩, .slice none 0 0, .int .i64 0, .slice none 0 0] 60)) (.cells #[.int .i64 0, .int .u8 0, .int .i64 0, .int .i64 0, .int .u8 0, .string ⟨#[]⟩, .slice none 0 0, .int .i64 0, .slice none 0 0] 60)
  rw [World.size_alloc] at hG0
  have G0 := Lib.hid hG0
  have hz0 : w.heap.size + 2 ≤ ((w.alloc (.cells #[.int .i64 0, .int .u8 0, .int .i64 0, .int .i64 0, .int .u8 0, .string ⟨#[]⟩, .slice none 0 0, .int .i64 0, .slice none 0 0] 60)).alloc (.cells #[.int .i64 0, .int .u8 0, .int .i64 0, .int .i64 0, .int .u8 0, .string ⟨#[]⟩, .slice none 0 0, .int .i64 0, .slice none 0 0] 60)).heap.size := by simp
  clear h hA hA2 hG0
  go_enter Tryz.func80, Tryz.ntmps80
  go_wp2_with fail
  generalize (w.alloc (.cells #[.int .i64 0, .int .u8 0, .int .i64 0, .int .i64 0, .int .u8 0, .string ⟨#[]⟩, .slice none 0 0, .int .i64 0, .slice none 0 0] 60)).alloc (.cells #[.int .i64 0, .int .u8 0, .int .i64 0, .int .i64 0, .int .u8 0, .string ⟨#[]⟩, .slice none 0 0, .int .i64 0, .slice none 0 0] 60) = w0 at R0 O0 Z0 G0 hz0 ⊢
  refine (rnum_any M db bad left x0 b_0 l_0 w0 HH0.out R0.out HW.out).mono ?_
  rintro e w1 ⟨rfl, hr, ho⟩
  have R1 := Lib.hid hr
  have O1 := Lib.hid (O0.out.trans ho)
  have hs1 := ho.1
  have hz1 : w.heap.size + 2 ≤ w1.heap.size := Nat.le_trans hz0 hs1
  have Z1 := Lib.hid ((ho.2 w.heap.size (by omega) (by omega)).trans Z0.out)
  have G1 := Lib.hid ((ho.2 (w.heap.size + 1) (by omega) (by omega)).trans G0.out)
  clear hr ho R0 O0 Z0 G0 
  have f0 : w1.frozen? ⟨w.heap.size + 1, 0, none⟩ = false := Go.Joins.unfrozen_of_block G1.out 0
  have e0 : w1.cell? ⟨w.heap.size + 1, 0, none⟩ = some (.int .i64 0) := Go.Joins.cell_of_block G1.out 0
  go_wp2_with fail
  have q : (w1.setCell ⟨w.heap.size + 1, 0, none⟩ (.int .i64 x0)).heap[w.heap.size + 1]? = some (.cells #[.int .i64 x0, .int .u8 0, .int .i64 0, .int .i64 0, .int .u8 0, .string ⟨#[]⟩, .slice none 0 0, .int .i64 0, .slice none 0 0] 60 (0, 0)) := (Go.Joins.block_setCell (i := 0) G1.out (.int .i64 x0))
  have r_ : Ref (w1.setCell ⟨w.heap.size + 1, 0, none⟩ (.int .i64 x0)) M db b_0 l_0 := (R1.out.other (g := w.heap.size + 1) (i := 0) (by omega) (by omega) (.int .i64 x0))
  have o_ : Only db w (w1.setCell ⟨w.heap.size + 1, 0, none⟩ (.int .i64 x0)) := (O1.out.new (g := w.heap.size + 1) (i := 0) (by omega) (.int .i64 x0))
  have z_ : (w1.setCell ⟨w.heap.size + 1, 0, none⟩ (.int .i64 x0)).heap[w.heap.size]? = some (.cells #[.int .i64 0, .int .u8 0, .int .i64 0, .int .i64 0, .int .u8 0, .string ⟨#[]⟩, .slice none 0 0, .int .i64 0, .slice none 0 0] 60 (0, 0)) := ((heap_setCell_other _ ⟨w.heap.size + 1, 0, none⟩ _ (.int .i64 x0) (show w.heap.size ≠ w.heap.size + 1 by omega)).trans Z1.out)
  have hz_ : w.heap.size + 2 ≤ (w1.setCell ⟨w.heap.size + 1, 0, none⟩ (.int .i64 x0)).heap.size := by simpa using hz1
  generalize (w1.setCell ⟨w.heap.size + 1, 0, none⟩ (.int .i64 x0)) = w2 at q r_ o_ z_ hz_  ⊢
  have G2 := Lib.hid q
  have R2 := Lib.hid r_
  have O2 := Lib.hid o_
  have Z2 := Lib.hid z_
  have hz2 : w.heap.size + 2 ≤ w2.heap.size := hz_
  clear q r_ o_ z_ hz_  f0 e0 R1 O1 Z1 G1 
  refine (HKT1.out w2 R2.out).mono ?_
  rintro e w3 ⟨rfl, hr, ho⟩
  have R3 := Lib.hid hr
  have O3 := Lib.hid (O2.out.trans ho)
  have hs3 := ho.1
  have hz3 : w.heap.size + 2 ≤ w3.heap.size := Nat.le_trans hz2 hs3
  have Z3 := Lib.hid ((ho.2 w.heap.size (by omega) (by omega)).trans Z2.out)
  have G3 := Lib.hid ((ho.2 (w.heap.size + 1) (by omega) (by omega)).trans G2.out)
  clear hr ho R2 O2 Z2 G2 
  have f1 : w3.frozen? ⟨w.heap.size + 1, 1, none⟩ = false := Go.Joins.unfrozen_of_block G3.out 1
  have e1 : w3.cell? ⟨w.heap.size + 1, 1, none⟩ = some (.int .u8 0) := Go.Joins.cell_of_block G3.out 1
  go_wp2_with fail
  have q : (w3.setCell ⟨w.heap.size + 1, 1, none⟩ (.int .u8 x1)).heap[w.heap.size + 1]? = some (.cells #[.int .i64 x0, .int .u8 x1, .int .i64 0, .int .i64 0, .int .u8 0, .string ⟨#[]⟩, .slice none 0 0, .int .i64 0, .slice none 0 0] 60 (0, 0)) := (Go.Joins.block_setCell (i := 1) G3.out (.int .u8 x1))
  have r_ : Ref (w3.setCell ⟨w.heap.size + 1, 1, none⟩ (.int .u8 x1)) M db b_1 l_1 := (R3.out.other (g := w.heap.size + 1) (i := 1) (by omega) (by omega) (.int .u8 x1))
  have o_ : Only db w (w3.setCell ⟨w.heap.size + 1, 1, none⟩ (.int .u8 x1)) := (O3.out.new (g := w.heap.size + 1) (i := 1) (by omega) (.int .u8 x1))
  have z_ : (w3.setCell ⟨w.heap.size + 1, 1, none⟩ (.int .u8 x1)).heap[w.heap.size]? = some (.cells #[.int .i64 0, .int .u8 0, .int .i64 0, .int .i64 0, .int .u8 0, .string ⟨#[]⟩, .slice none 0 0, .int .i64 0, .slice none 0 0] 60 (0, 0)) := ((heap_setCell_other _ ⟨w.heap.size + 1, 1, none⟩ _ (.int .u8 x1) (show w.heap.size ≠ w.heap.size + 1 by omega)).trans Z3.out)
  have hz_ : w.heap.size + 2 ≤ (w3.setCell ⟨w.heap.size + 1, 1, none⟩ (.int .u8 x1)).heap.size := by simpa using hz3
  generalize (w3.setCell ⟨w.heap.size + 1, 1, none⟩ (.int .u8 x1)) = w4 at q r_ o_ z_ hz_  ⊢
  have G4 := Lib.hid q
  have R4 := Lib.hid r_
  have O4 := Lib.hid o_
  have Z4 := Lib.hid z_
  have hz4 : w.heap.size + 2 ≤ w4.heap.size := hz_
  clear q r_ o_ z_ hz_  f1 e1 R3 O3 Z3 G3 
  refine (rnum_any M db b_1 l_1 x2 b_2 l_2 w4 HH2.out R4.out HW1.out).mono ?_
  rintro e w5 ⟨rfl, hr, ho⟩
  have R5 := Lib.hid hr
  have O5 := Lib.hid (O4.out.trans ho)
  have hs5 := ho.1
  have hz5 : w.heap.size + 2 ≤ w5.heap.size := Nat.le_trans hz4 hs5
  have Z5 := Lib.hid ((ho.2 w.heap.size (by omega) (by omega)).trans Z4.out)
  have G5 := Lib.hid ((ho.2 (w.heap.size + 1) (by omega) (by omega)).trans G4.out)
  clear hr ho R4 O4 Z4 G4 
  have f2 : w5.frozen? ⟨w.heap.size + 1, 2, none⟩ = false := Go.Joins.unfrozen_of_block G5.out 2
  have e2 : w5.cell? ⟨w.heap.size + 1, 2, none⟩ = some (.int .i64 0) := Go.Joins.cell_of_block G5.out 2
  go_wp2_with fail
  have q : (w5.setCell ⟨w.heap.size + 1, 2, none⟩ (.int .i64 x2)).heap[w.heap.size + 1]? = some (.cells #[.int .i64 x0, .int .u8 x1, .int .i64 x2, .int .i64 0, .int .u8 0, .string ⟨#[]⟩, .slice none 0 0, .int .i64 0, .slice none 0 0] 60 (0, 0)) := (Go.Joins.block_setCell (i := 2) G5.out (.int .i64 x2))
  have r_ : Ref (w5.setCell ⟨w.heap.size + 1, 2, none⟩ (.int .i64 x2)) M db b_2 l_2 := (R5.out.other (g := w.heap.size + 1) (i := 2) (by omega) (by omega) (.int .i64 x2))
  have o_ : Only db w (w5.setCell ⟨w.heap.size + 1, 2, none⟩ (.int .i64 x2)) := (O5.out.new (g := w.heap.size + 1) (i := 2) (by omega) (.int .i64 x2))
  have z_ : (w5.setCell ⟨w.heap.size + 1, 2, none⟩ (.int .i64 x2)).heap[w.heap.size]? = some (.cells #[.int .i64 0, .int .u8 0, .int .i64 0, .int .i64 0, .int .u8 0, .string ⟨#[]⟩, .slice none 0 0, .int .i64 0, .slice none 0 0] 60 (0, 0)) := ((heap_setCell_other _ ⟨w.heap.size + 1, 2, none⟩ _ (.int .i64 x2) (show w.heap.size ≠ w.heap.size + 1 by omega)).trans Z5.out)
  have hz_ : w.heap.size + 2 ≤ (w5.setCell ⟨w.heap.size + 1, 2, none⟩ (.int .i64 x2)).heap.size := by simpa using hz5
  generalize (w5.setCell ⟨w.heap.size + 1, 2, none⟩ (.int .i64 x2)) = w6 at q r_ o_ z_ hz_  ⊢
  have G6 := Lib.hid q
  have R6 := Lib.hid r_
  have O6 := Lib.hid o_
  have Z6 := Lib.hid z_
  have hz6 : w.heap.size + 2 ≤ w6.heap.size := hz_
  clear q r_ o_ z_ hz_  f2 e2 R5 O5 Z5 G5 
  refine (rnum_any M db b_2 l_2 x3 b_3 l_3 w6 HH3.out R6.out HW2.out).mono ?_
  rintro e w7 ⟨rfl, hr, ho⟩
  have R7 := Lib.hid hr
  have O7 := Lib.hid (O6.out.trans ho)
  have hs7 := ho.1
  have hz7 : w.heap.size + 2 ≤ w7.heap.size := Nat.le_trans hz6 hs7
  have Z7 := Lib.hid ((ho.2 w.heap.size (by omega) (by omega)).trans Z6.out)
  have G7 := Lib.hid ((ho.2 (w.heap.size + 1) (by omega) (by omega)).trans G6.out)
  clear hr ho R6 O6 Z6 G6 
  have f3 : w7.frozen? ⟨w.heap.size + 1, 3, none⟩ = false := Go.Joins.unfrozen_of_block G7.out 3
  have e3 : w7.cell? ⟨w.heap.size + 1, 3, none⟩ = some (.int .i64 0) := Go.Joins.cell_of_block G7.out 3
  go_wp2_with fail
  have q : (w7.setCell ⟨w.heap.size + 1, 3, none⟩ (.int .i64 x3)).heap[w.heap.size + 1]? = some (.cells #[.int .i64 x0, .int .u8 x1, .int .i64 x2, .int .i64 x3, .int .u8 0, .string ⟨#[]⟩, .slice none 0 0, .int .i64 0, .slice none 0 0] 60 (0, 0)) := (Go.Joins.block_setCell (i := 3) G7.out (.int .i64 x3))
  have r_ : Ref (w7.setCell ⟨w.heap.size + 1, 3, none⟩ (.int .i64 x3)) M db b_3 l_3 := (R7.out.other (g := w.heap.size + 1) (i := 3) (by omega) (by omega) (.int .i64 x3))
  have o_ : Only db w (w7.setCell ⟨w.heap.size + 1, 3, none⟩ (.int .i64 x3)) := (O7.out.new (g := w.heap.size + 1) (i := 3) (by omega) (.int .i64 x3))
  have z_ : (w7.setCell ⟨w.heap.size + 1, 3, none⟩ (.int .i64 x3)).heap[w.heap.size]? = some (.cells #[.int .i64 0, .int .u8 0, .int .i64 0, .int .i64 0, .int .u8 0, .string ⟨#[]⟩, .slice none 0 0, .int .i64 0, .slice none 0 0] 60 (0, 0)) := ((heap_setCell_other _ ⟨w.heap.size + 1, 3, none⟩ _ (.int .i64 x3) (show w.heap.size ≠ w.heap.size + 1 by omega)).trans Z7.out)
  have hz_ : w.heap.size + 2 ≤ (w7.setCell ⟨w.heap.size + 1, 3, none⟩ (.int .i64 x3)).heap.size := by simpa using hz7
  generalize (w7.setCell ⟨w.heap.size + 1, 3, none⟩ (.int .i64 x3)) = w8 at q r_ o_ z_ hz_  ⊢
  have G8 := Lib.hid q
  have R8 := Lib.hid r_
  have O8 := Lib.hid o_
  have Z8 := Lib.hid z_
  have hz8 : w.heap.size + 2 ≤ w8.heap.size := hz_
  clear q r_ o_ z_ hz_  f3 e3 R7 O7 Z7 G7 
  refine (rrCommand_any M db b_3 l_3 (xc, b_4, l_4) w8 HH4.out R8.out HW3.out).mono ?_
  rintro e w9 ⟨⟨x4, x5, a6, x6, c6, x7⟩, hp, he, hown, hr, ho⟩
  dsimp only at hown hr hp
  unfold cmVal at he
  dsimp only at he
  obtain ⟨n6, hn6⟩ : ∃ n6, x6.length = n6 := ⟨_, rfl⟩
  rw [hn6] at he hown
  subst he
  have N6 := Lib.hid hn6
  have NC := Lib.hid (show xc = (⟨x4, x5, x6, x7⟩ : CmP) from hp.symm)
  have W6_9 := Lib.hid (hown.le (base' := w.heap.size + 2) hz8)
  clear hown hn6 hp
  have R9 := Lib.hid hr
  have O9 := Lib.hid (O8.out.trans ho)
  have hs9 := ho.1
  have hz9 : w.heap.size + 2 ≤ w9.heap.size := Nat.le_trans hz8 hs9
  have Z9 := Lib.hid ((ho.2 w.heap.size (by omega) (by omega)).trans Z8.out)
  have G9 := Lib.hid ((ho.2 (w.heap.size + 1) (by omega) (by omega)).trans G8.out)
  clear hr ho R8 O8 Z8 G8 
  have f4 : w9.frozen? ⟨w.heap.size + 1, 4, none⟩ = false := Go.Joins.unfrozen_of_block G9.out 4
  have f5 : w9.frozen? ⟨w.heap.size + 1, 5, none⟩ = false := Go.Joins.unfrozen_of_block G9.out 5
  have f6 : w9.frozen? ⟨w.heap.size + 1, 6, none⟩ = false := Go.Joins.unfrozen_of_block G9.out 6
  have f7 : w9.frozen? ⟨w.heap.size + 1, 7, none⟩ = false := Go.Joins.unfrozen_of_block G9.out 7
  have e4 : w9.cell? ⟨w.heap.size + 1, 4, none⟩ = some (.int .u8 0) := Go.Joins.cell_of_block G9.out 4
  have e5 : w9.cell? ⟨w.heap.size + 1, 5, none⟩ = some (.string ⟨#[]⟩) := Go.Joins.cell_of_block G9.out 5
  have e6 : w9.cell? ⟨w.heap.size + 1, 6, none⟩ = some (.slice none 0 0) := Go.Joins.cell_of_block G9.out 6
  have e7 : w9.cell? ⟨w.heap.size + 1, 7, none⟩ = some (.int .i64 0) := Go.Joins.cell_of_block G9.out 7
  go_wp2_with fail
  have q : ((((w9.setCell ⟨w.heap.size + 1, 4, none⟩ (.int .u8 x4)).setCell ⟨w.heap.size + 1, 5, none⟩ (.string x5)).setCell ⟨w.heap.size + 1, 6, none⟩ (.slice a6 n6 c6)).setCell ⟨w.heap.size + 1, 7, none⟩ (.int .i64 x7)).heap[w.heap.size + 1]? = some (.cells #[.int .i64 x0, .int .u8 x1, .int .i64 x2, .int .i64 x3, .int .u8 x4, .string x5, .slice a6 n6 c6, .int .i64 x7, .slice none 0 0] 60 (0, 0)) := (Go.Joins.block_setCell (i := 7) (Go.Joins.block_setCell (i := 6) (Go.Joins.block_setCell (i := 5) (Go.Joins.block_setCell (i := 4) G9.out (.int .u8 x4)) (.string x5)) (.slice a6 n6 c6)) (.int .i64 x7))
  have r_ : Ref ((((w9.setCell ⟨w.heap.size + 1, 4, none⟩ (.int .u8 x4)).setCell ⟨w.heap.size + 1, 5, none⟩ (.string x5)).setCell ⟨w.heap.size + 1, 6, none⟩ (.slice a6 n6 c6)).setCell ⟨w.heap.size + 1, 7, none⟩ (.int .i64 x7)) M db b_4 l_4 := ((((R9.out.other (g := w.heap.size + 1) (i := 4) (by omega) (by omega) (.int .u8 x4)).other (g := w.heap.size + 1) (i := 5) (by omega) (by omega) (.string x5)).other (g := w.heap.size + 1) (i := 6) (by omega) (by omega) (.slice a6 n6 c6)).other (g := w.heap.size + 1) (i := 7) (by omega) (by omega) (.int .i64 x7))
  have o_ : Only db w ((((w9.setCell ⟨w.heap.size + 1, 4, none⟩ (.int .u8 x4)).setCell ⟨w.heap.size + 1, 5, none⟩ (.string x5)).setCell ⟨w.heap.size + 1, 6, none⟩ (.slice a6 n6 c6)).setCell ⟨w.heap.size + 1, 7, none⟩ (.int .i64 x7)) := ((((O9.out.new (g := w.heap.size + 1) (i := 4) (by omega) (.int .u8 x4)).new (g := w.heap.size + 1) (i := 5) (by omega) (.string x5)).new (g := w.heap.size + 1) (i := 6) (by omega) (.slice a6 n6 c6)).new (g := w.heap.size + 1) (i := 7) (by omega) (.int .i64 x7))
  have z_ : ((((w9.setCell ⟨w.heap.size + 1, 4, none⟩ (.int .u8 x4)).setCell ⟨w.heap.size + 1, 5, none⟩ (.string x5)).setCell ⟨w.heap.size + 1, 6, none⟩ (.slice a6 n6 c6)).setCell ⟨w.heap.size + 1, 7, none⟩ (.int .i64 x7)).heap[w.heap.size]? = some (.cells #[.int .i64 0, .int .u8 0, .int .i64 0, .int .i64 0, .int .u8 0, .string ⟨#[]⟩, .slice none 0 0, .int .i64 0, .slice none 0 0] 60 (0, 0)) := ((heap_setCell_other _ ⟨w.heap.size + 1, 7, none⟩ _ (.int .i64 x7) (show w.heap.size ≠ w.heap.size + 1 by omega)).trans ((heap_setCell_other _ ⟨w.heap.size + 1, 6, none⟩ _ (.slice a6 n6 c6) (show w.heap.size ≠ w.heap.size + 1 by omega)).trans ((heap_setCell_other _ ⟨w.heap.size + 1, 5, none⟩ _ (.string x5) (show w.heap.size ≠ w.heap.size + 1 by omega)).trans ((heap_setCell_other _ ⟨w.heap.size + 1, 4, none⟩ _ (.int .u8 x4) (show w.heap.size ≠ w.heap.size + 1 by omega)).trans Z9.out))))
  have v6_ := ((((W6_9.out.only (Only.set (w.heap.size + 1) _ 4 (.int .u8 x4)) (by omega)).only (Only.set (w.heap.size + 1) _ 5 (.string x5)) (by omega)).only (Only.set (w.heap.size + 1) _ 6 (.slice a6 n6 c6)) (by omega)).only (Only.set (w.heap.size + 1) _ 7 (.int .i64 x7)) (by omega))
  have hz_ : w.heap.size + 2 ≤ ((((w9.setCell ⟨w.heap.size + 1, 4, none⟩ (.int .u8 x4)).setCell ⟨w.heap.size + 1, 5, none⟩ (.string x5)).setCell ⟨w.heap.size + 1, 6, none⟩ (.slice a6 n6 c6)).setCell ⟨w.heap.size + 1, 7, none⟩ (.int .i64 x7)).heap.size := by simpa using hz9
  generalize ((((w9.setCell ⟨w.heap.size + 1, 4, none⟩ (.int .u8 x4)).setCell ⟨w.heap.size + 1, 5, none⟩ (.string x5)).setCell ⟨w.heap.size + 1, 6, none⟩ (.slice a6 n6 c6)).setCell ⟨w.heap.size + 1, 7, none⟩ (.int .i64 x7)) = w10 at q r_ o_ z_ hz_ v6_ ⊢
  have G10 := Lib.hid q
  have R10 := Lib.hid r_
  have O10 := Lib.hid o_
  have Z10 := Lib.hid z_
  have hz10 : w.heap.size + 2 ≤ w10.heap.size := hz_
  have W6_10 := Lib.hid v6_
  clear q r_ o_ z_ hz_ v6_ f4 f5 f6 f7 e4 e5 e6 e7 R9 O9 Z9 G9 W6_9
  refine (rcount_any M db b_4 l_4 N b_c l_c w10 HCC.out R10.out HW4.out).mono ?_
  rintro e w11 ⟨rfl, hr, ho⟩
  have R11 := Lib.hid hr
  have O11 := Lib.hid (O10.out.trans ho)
  have hs11 := ho.1
  have hz11 : w.heap.size + 2 ≤ w11.heap.size := Nat.le_trans hz10 hs11
  have Z11 := Lib.hid ((ho.2 w.heap.size (by omega) (by omega)).trans Z10.out)
  have G11 := Lib.hid ((ho.2 (w.heap.size + 1) (by omega) (by omega)).trans G10.out)
  have W6_11 := Lib.hid (W6_10.out.only ho (by omega))
  clear hr ho R10 O10 Z10 G10 W6_10
  go_wp2_with fail
  go_loopw [4] (fun i wr => ∃ (m : Nat) (acc : List Int) (b : Bool) (l : List Int) (a8 : Option Addr) (n8 c8 : Nat), i = .int .i64 m ∧ (acc ++ (rowS numS m b l).1, (rowS numS m b l).2) = (tot, b_t, l_t) ∧ acc.length + m ≤ 65536 ∧ acc.length = n8 ∧ IntsOwn wr (w.heap.size + 2) a8 n8 c8 acc ∧ wr.heap[w.heap.size + 1]? = some (.cells #[.int .i64 x0, .int .u8 x1, .int .i64 x2, .int .i64 x3, .int .u8 x4, .string x5, .slice a6 n6 c6, .int .i64 x7, .slice a8 n8 c8] 60 (0, 0)) ∧ wr.heap[w.heap.size]? = some (.cells #[.int .i64 0, .int .u8 0, .int .i64 0, .int .i64 0, .int .u8 0, .string ⟨#[]⟩, .slice none 0 0, .int .i64 0, .slice none 0 0] 60 (0, 0)) ∧ Ref wr M db b l ∧ Only db w wr ∧ w.heap.size + 2 ≤ wr.heap.size ∧ BytesWf l ∧ VasOwn wr (w.heap.size + 2) a6 n6 c6 x6) (fun i _ => (intOf i).toNat)
  case atStart => exact ⟨N, [], b_c, l_c, none, 0, 0, rfl, by rw [HTR.out]; rfl, by simpa using hN, rfl, IntsOwn.nil _ _, G11.out, Z11.out, R11.out, O11.out, hz11, HCW.out.2.2.1, W6_11.out⟩
  case round =>
    clear R11 O11 Z11 G11 HCC HTR HCW W6_11
    obtain ⟨m, acc, b, l, a8, n8, c8, rfl, heq, hlen, hal, hown, hg_, hz_, hr_, ho_, hsz_, hwf_, hw6⟩ := hrel
    have HE := Lib.hid heq
    have W8_0 := Lib.hid hown
    have W6_0 := Lib.hid hw6
    have G0 := Lib.hid hg_
    have Z0 := Lib.hid hz_
    have R0 := Lib.hid hr_
    have O0 := Lib.hid ho_
    have HWF := Lib.hid hwf_
    have hz0 := hsz_
    have d1 := hr_.badCell.1
    have HAL := Lib.hid hal
    clear heq hown hg_ hz_ hr_ ho_ hwf_ hal hw6
    by_cases hend : b = true ∨ m = 0
    · have hfin : acc = tot ∧ b = b_t ∧ l = l_t := by
        have h1 := HE.out
        rcases hend with h0 | h0
        · subst h0
          rw [rowS_bad] at h1
          simpa using h1
        · subst h0
          simpa [rowS] using h1
      obtain ⟨htot, hb, hl⟩ := hfin
      obtain rfl := hb.symm
      obtain rfl := hl.symm
      clear hb hl HE
      have HTO := Lib.hid htot
      clear htot
      cases b_t with
      | true =>
        have hTO := HTO.out
        clear HTO
        by_cases hm0 : m = 0
        · subst hm0
          skip
          have e0 : wr.cell? ⟨w.heap.size + 1, 0, none⟩ = some (.int .i64 x0) := Go.Joins.cell_of_block G0.out 0
          have e1 : wr.cell? ⟨w.heap.size + 1, 1, none⟩ = some (.int .u8 x1) := Go.Joins.cell_of_block G0.out 1
          have e2 : wr.cell? ⟨w.heap.size + 1, 2, none⟩ = some (.int .i64 x2) := Go.Joins.cell_of_block G0.out 2
          have e3 : wr.cell? ⟨w.heap.size + 1, 3, none⟩ = some (.int .i64 x3) := Go.Joins.cell_of_block G0.out 3
          have e4 : wr.cell? ⟨w.heap.size + 1, 4, none⟩ = some (.int .u8 x4) := Go.Joins.cell_of_block G0.out 4
          have e5 : wr.cell? ⟨w.heap.size + 1, 5, none⟩ = some (.string x5) := Go.Joins.cell_of_block G0.out 5
          have e6 : wr.cell? ⟨w.heap.size + 1, 6, none⟩ = some (.slice a6 n6 c6) := Go.Joins.cell_of_block G0.out 6
          have e7 : wr.cell? ⟨w.heap.size + 1, 7, none⟩ = some (.int .i64 x7) := Go.Joins.cell_of_block G0.out 7
          have e8 : wr.cell? ⟨w.heap.size + 1, 8, none⟩ = some (.slice a8 n8 c8) := Go.Joins.cell_of_block G0.out 8
          have g0 : wr.frozen? ⟨w.heap.size, 0, none⟩ = false := Go.Joins.unfrozen_of_block Z0.out 0
          have g1 : wr.frozen? ⟨w.heap.size, 1, none⟩ = false := Go.Joins.unfrozen_of_block Z0.out 1
          have g2 : wr.frozen? ⟨w.heap.size, 2, none⟩ = false := Go.Joins.unfrozen_of_block Z0.out 2
          have g3 : wr.frozen? ⟨w.heap.size, 3, none⟩ = false := Go.Joins.unfrozen_of_block Z0.out 3
          have g4 : wr.frozen? ⟨w.heap.size, 4, none⟩ = false := Go.Joins.unfrozen_of_block Z0.out 4
          have g5 : wr.frozen? ⟨w.heap.size, 5, none⟩ = false := Go.Joins.unfrozen_of_block Z0.out 5
          have g6 : wr.frozen? ⟨w.heap.size, 6, none⟩ = false := Go.Joins.unfrozen_of_block Z0.out 6
          have g7 : wr.frozen? ⟨w.heap.size, 7, none⟩ = false := Go.Joins.unfrozen_of_block Z0.out 7
          have g8 : wr.frozen? ⟨w.heap.size, 8, none⟩ = false := Go.Joins.unfrozen_of_block Z0.out 8
          have hbc : wr.cell? ⟨db, 2, none⟩ = some (.bool true) := R0.out.badCell.1
          have z0 : wr.cell? ⟨w.heap.size, 0, none⟩ = some (.int .i64 0) := Go.Joins.cell_of_block Z0.out 0
          have z1 : wr.cell? ⟨w.heap.size, 1, none⟩ = some (.int .u8 0) := Go.Joins.cell_of_block Z0.out 1
          have z2 : wr.cell? ⟨w.heap.size, 2, none⟩ = some (.int .i64 0) := Go.Joins.cell_of_block Z0.out 2
          have z3 : wr.cell? ⟨w.heap.size, 3, none⟩ = some (.int .i64 0) := Go.Joins.cell_of_block Z0.out 3
          have z4 : wr.cell? ⟨w.heap.size, 4, none⟩ = some (.int .u8 0) := Go.Joins.cell_of_block Z0.out 4
          have z5 : wr.cell? ⟨w.heap.size, 5, none⟩ = some (.string ⟨#[]⟩) := Go.Joins.cell_of_block Z0.out 5
          have z6 : wr.cell? ⟨w.heap.size, 6, none⟩ = some (.slice none 0 0) := Go.Joins.cell_of_block Z0.out 6
          have z7 : wr.cell? ⟨w.heap.size, 7, none⟩ = some (.int .i64 0) := Go.Joins.cell_of_block Z0.out 7
          have z8 : wr.cell? ⟨w.heap.size, 8, none⟩ = some (.slice none 0 0) := Go.Joins.cell_of_block Z0.out 8
          go_wp2_with fail
          have q : (((((((((wr.setCell ⟨w.heap.size, 0, none⟩ (.int .i64 0)).setCell ⟨w.heap.size, 1, none⟩ (.int .u8 0)).setCell ⟨w.heap.size, 2, none⟩ (.int .i64 0)).setCell ⟨w.heap.size, 3, none⟩ (.int .i64 0)).setCell ⟨w.heap.size, 4, none⟩ (.int .u8 0)).setCell ⟨w.heap.size, 5, none⟩ (.string ⟨#[]⟩)).setCell ⟨w.heap.size, 6, none⟩ (.slice none 0 0)).setCell ⟨w.heap.size, 7, none⟩ (.int .i64 0)).setCell ⟨w.heap.size, 8, none⟩ (.slice none 0 0)).heap[w.heap.size]? = some (.cells #[.int .i64 0, .int .u8 0, .int .i64 0, .int .i64 0, .int .u8 0, .string ⟨#[]⟩, .slice none 0 0, .int .i64 0, .slice none 0 0] 60 (0, 0)) := (Go.Joins.block_setCell (i := 8) (Go.Joins.block_setCell (i := 7) (Go.Joins.block_setCell (i := 6) (Go.Joins.block_setCell (i := 5) (Go.Joins.block_setCell (i := 4) (Go.Joins.block_setCell (i := 3) (Go.Joins.block_setCell (i := 2) (Go.Joins.block_setCell (i := 1) (Go.Joins.block_setCell (i := 0) Z0.out (.int .i64 0)) (.int .u8 0)) (.int .i64 0)) (.int .i64 0)) (.int .u8 0)) (.string ⟨#[]⟩)) (.slice none 0 0)) (.int .i64 0)) (.slice none 0 0))
          have r_ : Ref (((((((((wr.setCell ⟨w.heap.size, 0, none⟩ (.int .i64 0)).setCell ⟨w.heap.size, 1, none⟩ (.int .u8 0)).setCell ⟨w.heap.size, 2, none⟩ (.int .i64 0)).setCell ⟨w.heap.size, 3, none⟩ (.int .i64 0)).setCell ⟨w.heap.size, 4, none⟩ (.int .u8 0)).setCell ⟨w.heap.size, 5, none⟩ (.string ⟨#[]⟩)).setCell ⟨w.heap.size, 6, none⟩ (.slice none 0 0)).setCell ⟨w.heap.size, 7, none⟩ (.int .i64 0)).setCell ⟨w.heap.size, 8, none⟩ (.slice none 0 0)) M db _ l_t := (((((((((R0.out.other (g := w.heap.size) (i := 0) hM (by omega) (.int .i64 0)).other (g := w.heap.size) (i := 1) hM (by omega) (.int .u8 0)).other (g := w.heap.size) (i := 2) hM (by omega) (.int .i64 0)).other (g := w.heap.size) (i := 3) hM (by omega) (.int .i64 0)).other (g := w.heap.size) (i := 4) hM (by omega) (.int .u8 0)).other (g := w.heap.size) (i := 5) hM (by omega) (.string ⟨#[]⟩)).other (g := w.heap.size) (i := 6) hM (by omega) (.slice none 0 0)).other (g := w.heap.size) (i := 7) hM (by omega) (.int .i64 0)).other (g := w.heap.size) (i := 8) hM (by omega) (.slice none 0 0))
          have o_ : Only db w (((((((((wr.setCell ⟨w.heap.size, 0, none⟩ (.int .i64 0)).setCell ⟨w.heap.size, 1, none⟩ (.int .u8 0)).setCell ⟨w.heap.size, 2, none⟩ (.int .i64 0)).setCell ⟨w.heap.size, 3, none⟩ (.int .i64 0)).setCell ⟨w.heap.size, 4, none⟩ (.int .u8 0)).setCell ⟨w.heap.size, 5, none⟩ (.string ⟨#[]⟩)).setCell ⟨w.heap.size, 6, none⟩ (.slice none 0 0)).setCell ⟨w.heap.size, 7, none⟩ (.int .i64 0)).setCell ⟨w.heap.size, 8, none⟩ (.slice none 0 0)) := (((((((((O0.out.new (g := w.heap.size) (i := 0) (Nat.le_refl _) (.int .i64 0)).new (g := w.heap.size) (i := 1) (Nat.le_refl _) (.int .u8 0)).new (g := w.heap.size) (i := 2) (Nat.le_refl _) (.int .i64 0)).new (g := w.heap.size) (i := 3) (Nat.le_refl _) (.int .i64 0)).new (g := w.heap.size) (i := 4) (Nat.le_refl _) (.int .u8 0)).new (g := w.heap.size) (i := 5) (Nat.le_refl _) (.string ⟨#[]⟩)).new (g := w.heap.size) (i := 6) (Nat.le_refl _) (.slice none 0 0)).new (g := w.heap.size) (i := 7) (Nat.le_refl _) (.int .i64 0)).new (g := w.heap.size) (i := 8) (Nat.le_refl _) (.slice none 0 0))
          have v6_ := (((((((((W6_0.out.only (Only.set w.heap.size _ 0 (.int .i64 0)) (by omega)).only (Only.set w.heap.size _ 1 (.int .u8 0)) (by omega)).only (Only.set w.heap.size _ 2 (.int .i64 0)) (by omega)).only (Only.set w.heap.size _ 3 (.int .i64 0)) (by omega)).only (Only.set w.heap.size _ 4 (.int .u8 0)) (by omega)).only (Only.set w.heap.size _ 5 (.string ⟨#[]⟩)) (by omega)).only (Only.set w.heap.size _ 6 (.slice none 0 0)) (by omega)).only (Only.set w.heap.size _ 7 (.int .i64 0)) (by omega)).only (Only.set w.heap.size _ 8 (.slice none 0 0)) (by omega))
          have v8_ := (((((((((W8_0.out.only (Only.set w.heap.size _ 0 (.int .i64 0)) (by omega)).only (Only.set w.heap.size _ 1 (.int .u8 0)) (by omega)).only (Only.set w.heap.size _ 2 (.int .i64 0)) (by omega)).only (Only.set w.heap.size _ 3 (.int .i64 0)) (by omega)).only (Only.set w.heap.size _ 4 (.int .u8 0)) (by omega)).only (Only.set w.heap.size _ 5 (.string ⟨#[]⟩)) (by omega)).only (Only.set w.heap.size _ 6 (.slice none 0 0)) (by omega)).only (Only.set w.heap.size _ 7 (.int .i64 0)) (by omega)).only (Only.set w.heap.size _ 8 (.slice none 0 0)) (by omega))
          generalize (((((((((wr.setCell ⟨w.heap.size, 0, none⟩ (.int .i64 0)).setCell ⟨w.heap.size, 1, none⟩ (.int .u8 0)).setCell ⟨w.heap.size, 2, none⟩ (.int .i64 0)).setCell ⟨w.heap.size, 3, none⟩ (.int .i64 0)).setCell ⟨w.heap.size, 4, none⟩ (.int .u8 0)).setCell ⟨w.heap.size, 5, none⟩ (.string ⟨#[]⟩)).setCell ⟨w.heap.size, 6, none⟩ (.slice none 0 0)).setCell ⟨w.heap.size, 7, none⟩ (.int .i64 0)).setCell ⟨w.heap.size, 8, none⟩ (.slice none 0 0)) = w99 at q r_ o_ v6_ v8_ ⊢
          have d0 : w99.cell? ⟨w.heap.size, 0, none⟩ = some (.int .i64 0) := Go.Joins.cell_of_block q 0
          have d1 : w99.cell? ⟨w.heap.size, 1, none⟩ = some (.int .u8 0) := Go.Joins.cell_of_block q 1
          have d2 : w99.cell? ⟨w.heap.size, 2, none⟩ = some (.int .i64 0) := Go.Joins.cell_of_block q 2
          have d3 : w99.cell? ⟨w.heap.size, 3, none⟩ = some (.int .i64 0) := Go.Joins.cell_of_block q 3
          have d4 : w99.cell? ⟨w.heap.size, 4, none⟩ = some (.int .u8 0) := Go.Joins.cell_of_block q 4
          have d5 : w99.cell? ⟨w.heap.size, 5, none⟩ = some (.string ⟨#[]⟩) := Go.Joins.cell_of_block q 5
          have d6 : w99.cell? ⟨w.heap.size, 6, none⟩ = some (.slice none 0 0) := Go.Joins.cell_of_block q 6
          have d7 : w99.cell? ⟨w.heap.size, 7, none⟩ = some (.int .i64 0) := Go.Joins.cell_of_block q 7
          have d8 : w99.cell? ⟨w.heap.size, 8, none⟩ = some (.slice none 0 0) := Go.Joins.cell_of_block q 8
          have hS := HS.out
          try simp only [if_true, if_false, Bool.false_eq_true, reduceIte] at hS
          subst hS
          exact bodyPost_ret (v := .agg #[.int .i64 0, .int .u8 0, .int .i64 0, .int .i64 0, .int .u8 0, .string ⟨#[]⟩, .slice none 0 0, .int .i64 0, .slice none 0 0]) (by simp [results, Tryz.results80, go_sem, d0, d1, d2, d3, d4, d5, d6, d7, d8]) rfl ⟨⟨0, 0, 0, 0, 0, ByteArray.empty, none, [], 0, 0, none, [], 0⟩, rfl, rfl, ⟨VasOwn.nil _ _, IntsOwn.nil _ _⟩, r_, o_⟩
        · obtain ⟨m2, rfl⟩ : ∃ m2, m = m2 + 1 := ⟨m - 1, by omega⟩
          have j1 : (0 : Int) < (m2 : Int) + 1 := by omega
          clear hm0
          skip
          have e0 : wr.cell? ⟨w.heap.size + 1, 0, none⟩ = some (.int .i64 x0) := Go.Joins.cell_of_block G0.out 0
          have e1 : wr.cell? ⟨w.heap.size + 1, 1, none⟩ = some (.int .u8 x1) := Go.Joins.cell_of_block G0.out 1
          have e2 : wr.cell? ⟨w.heap.size + 1, 2, none⟩ = some (.int .i64 x2) := Go.Joins.cell_of_block G0.out 2
          have e3 : wr.cell? ⟨w.heap.size + 1, 3, none⟩ = some (.int .i64 x3) := Go.Joins.cell_of_block G0.out 3
          have e4 : wr.cell? ⟨w.heap.size + 1, 4, none⟩ = some (.int .u8 x4) := Go.Joins.cell_of_block G0.out 4
          have e5 : wr.cell? ⟨w.heap.size + 1, 5, none⟩ = some (.string x5) := Go.Joins.cell_of_block G0.out 5
          have e6 : wr.cell? ⟨w.heap.size + 1, 6, none⟩ = some (.slice a6 n6 c6) := Go.Joins.cell_of_block G0.out 6
          have e7 : wr.cell? ⟨w.heap.size + 1, 7, none⟩ = some (.int .i64 x7) := Go.Joins.cell_of_block G0.out 7
          have e8 : wr.cell? ⟨w.heap.size + 1, 8, none⟩ = some (.slice a8 n8 c8) := Go.Joins.cell_of_block G0.out 8
          have g0 : wr.frozen? ⟨w.heap.size, 0, none⟩ = false := Go.Joins.unfrozen_of_block Z0.out 0
          have g1 : wr.frozen? ⟨w.heap.size, 1, none⟩ = false := Go.Joins.unfrozen_of_block Z0.out 1
          have g2 : wr.frozen? ⟨w.heap.size, 2, none⟩ = false := Go.Joins.unfrozen_of_block Z0.out 2
          have g3 : wr.frozen? ⟨w.heap.size, 3, none⟩ = false := Go.Joins.unfrozen_of_block Z0.out 3
          have g4 : wr.frozen? ⟨w.heap.size, 4, none⟩ = false := Go.Joins.unfrozen_of_block Z0.out 4
          have g5 : wr.frozen? ⟨w.heap.size, 5, none⟩ = false := Go.Joins.unfrozen_of_block Z0.out 5
          have g6 : wr.frozen? ⟨w.heap.size, 6, none⟩ = false := Go.Joins.unfrozen_of_block Z0.out 6
          have g7 : wr.frozen? ⟨w.heap.size, 7, none⟩ = false := Go.Joins.unfrozen_of_block Z0.out 7
          have g8 : wr.frozen? ⟨w.heap.size, 8, none⟩ = false := Go.Joins.unfrozen_of_block Z0.out 8
          have hbc : wr.cell? ⟨db, 2, none⟩ = some (.bool true) := R0.out.badCell.1
          have z0 : wr.cell? ⟨w.heap.size, 0, none⟩ = some (.int .i64 0) := Go.Joins.cell_of_block Z0.out 0
          have z1 : wr.cell? ⟨w.heap.size, 1, none⟩ = some (.int .u8 0) := Go.Joins.cell_of_block Z0.out 1
          have z2 : wr.cell? ⟨w.heap.size, 2, none⟩ = some (.int .i64 0) := Go.Joins.cell_of_block Z0.out 2
          have z3 : wr.cell? ⟨w.heap.size, 3, none⟩ = some (.int .i64 0) := Go.Joins.cell_of_block Z0.out 3
          have z4 : wr.cell? ⟨w.heap.size, 4, none⟩ = some (.int .u8 0) := Go.Joins.cell_of_block Z0.out 4
          have z5 : wr.cell? ⟨w.heap.size, 5, none⟩ = some (.string ⟨#[]⟩) := Go.Joins.cell_of_block Z0.out 5
          have z6 : wr.cell? ⟨w.heap.size, 6, none⟩ = some (.slice none 0 0) := Go.Joins.cell_of_block Z0.out 6
          have z7 : wr.cell? ⟨w.heap.size, 7, none⟩ = some (.int .i64 0) := Go.Joins.cell_of_block Z0.out 7
          have z8 : wr.cell? ⟨w.heap.size, 8, none⟩ = some (.slice none 0 0) := Go.Joins.cell_of_block Z0.out 8
          go_wp2_with fail
          have q : (((((((((wr.setCell ⟨w.heap.size, 0, none⟩ (.int .i64 0)).setCell ⟨w.heap.size, 1, none⟩ (.int .u8 0)).setCell ⟨w.heap.size, 2, none⟩ (.int .i64 0)).setCell ⟨w.heap.size, 3, none⟩ (.int .i64 0)).setCell ⟨w.heap.size, 4, none⟩ (.int .u8 0)).setCell ⟨w.heap.size, 5, none⟩ (.string ⟨#[]⟩)).setCell ⟨w.heap.size, 6, none⟩ (.slice none 0 0)).setCell ⟨w.heap.size, 7, none⟩ (.int .i64 0)).setCell ⟨w.heap.size, 8, none⟩ (.slice none 0 0)).heap[w.heap.size]? = some (.cells #[.int .i64 0, .int .u8 0, .int .i64 0, .int .i64 0, .int .u8 0, .string ⟨#[]⟩, .slice none 0 0, .int .i64 0, .slice none 0 0] 60 (0, 0)) := (Go.Joins.block_setCell (i := 8) (Go.Joins.block_setCell (i := 7) (Go.Joins.block_setCell (i := 6) (Go.Joins.block_setCell (i := 5) (Go.Joins.block_setCell (i := 4) (Go.Joins.block_setCell (i := 3) (Go.Joins.block_setCell (i := 2) (Go.Joins.block_setCell (i := 1) (Go.Joins.block_setCell (i := 0) Z0.out (.int .i64 0)) (.int .u8 0)) (.int .i64 0)) (.int .i64 0)) (.int .u8 0)) (.string ⟨#[]⟩)) (.slice none 0 0)) (.int .i64 0)) (.slice none 0 0))
          have r_ : Ref (((((((((wr.setCell ⟨w.heap.size, 0, none⟩ (.int .i64 0)).setCell ⟨w.heap.size, 1, none⟩ (.int .u8 0)).setCell ⟨w.heap.size, 2, none⟩ (.int .i64 0)).setCell ⟨w.heap.size, 3, none⟩ (.int .i64 0)).setCell ⟨w.heap.size, 4, none⟩ (.int .u8 0)).setCell ⟨w.heap.size, 5, none⟩ (.string ⟨#[]⟩)).setCell ⟨w.heap.size, 6, none⟩ (.slice none 0 0)).setCell ⟨w.heap.size, 7, none⟩ (.int .i64 0)).setCell ⟨w.heap.size, 8, none⟩ (.slice none 0 0)) M db _ l_t := (((((((((R0.out.other (g := w.heap.size) (i := 0) hM (by omega) (.int .i64 0)).other (g := w.heap.size) (i := 1) hM (by omega) (.int .u8 0)).other (g := w.heap.size) (i := 2) hM (by omega) (.int .i64 0)).other (g := w.heap.size) (i := 3) hM (by omega) (.int .i64 0)).other (g := w.heap.size) (i := 4) hM (by omega) (.int .u8 0)).other (g := w.heap.size) (i := 5) hM (by omega) (.string ⟨#[]⟩)).other (g := w.heap.size) (i := 6) hM (by omega) (.slice none 0 0)).other (g := w.heap.size) (i := 7) hM (by omega) (.int .i64 0)).other (g := w.heap.size) (i := 8) hM (by omega) (.slice none 0 0))
          have o_ : Only db w (((((((((wr.setCell ⟨w.heap.size, 0, none⟩ (.int .i64 0)).setCell ⟨w.heap.size, 1, none⟩ (.int .u8 0)).setCell ⟨w.heap.size, 2, none⟩ (.int .i64 0)).setCell ⟨w.heap.size, 3, none⟩ (.int .i64 0)).setCell ⟨w.heap.size, 4, none⟩ (.int .u8 0)).setCell ⟨w.heap.size, 5, none⟩ (.string ⟨#[]⟩)).setCell ⟨w.heap.size, 6, none⟩ (.slice none 0 0)).setCell ⟨w.heap.size, 7, none⟩ (.int .i64 0)).setCell ⟨w.heap.size, 8, none⟩ (.slice none 0 0)) := (((((((((O0.out.new (g := w.heap.size) (i := 0) (Nat.le_refl _) (.int .i64 0)).new (g := w.heap.size) (i := 1) (Nat.le_refl _) (.int .u8 0)).new (g := w.heap.size) (i := 2) (Nat.le_refl _) (.int .i64 0)).new (g := w.heap.size) (i := 3) (Nat.le_refl _) (.int .i64 0)).new (g := w.heap.size) (i := 4) (Nat.le_refl _) (.int .u8 0)).new (g := w.heap.size) (i := 5) (Nat.le_refl _) (.string ⟨#[]⟩)).new (g := w.heap.size) (i := 6) (Nat.le_refl _) (.slice none 0 0)).new (g := w.heap.size) (i := 7) (Nat.le_refl _) (.int .i64 0)).new (g := w.heap.size) (i := 8) (Nat.le_refl _) (.slice none 0 0))
          have v6_ := (((((((((W6_0.out.only (Only.set w.heap.size _ 0 (.int .i64 0)) (by omega)).only (Only.set w.heap.size _ 1 (.int .u8 0)) (by omega)).only (Only.set w.heap.size _ 2 (.int .i64 0)) (by omega)).only (Only.set w.heap.size _ 3 (.int .i64 0)) (by omega)).only (Only.set w.heap.size _ 4 (.int .u8 0)) (by omega)).only (Only.set w.heap.size _ 5 (.string ⟨#[]⟩)) (by omega)).only (Only.set w.heap.size _ 6 (.slice none 0 0)) (by omega)).only (Only.set w.heap.size _ 7 (.int .i64 0)) (by omega)).only (Only.set w.heap.size _ 8 (.slice none 0 0)) (by omega))
          have v8_ := (((((((((W8_0.out.only (Only.set w.heap.size _ 0 (.int .i64 0)) (by omega)).only (Only.set w.heap.size _ 1 (.int .u8 0)) (by omega)).only (Only.set w.heap.size _ 2 (.int .i64 0)) (by omega)).only (Only.set w.heap.size _ 3 (.int .i64 0)) (by omega)).only (Only.set w.heap.size _ 4 (.int .u8 0)) (by omega)).only (Only.set w.heap.size _ 5 (.string ⟨#[]⟩)) (by omega)).only (Only.set w.heap.size _ 6 (.slice none 0 0)) (by omega)).only (Only.set w.heap.size _ 7 (.int .i64 0)) (by omega)).only (Only.set w.heap.size _ 8 (.slice none 0 0)) (by omega))
          generalize (((((((((wr.setCell ⟨w.heap.size, 0, none⟩ (.int .i64 0)).setCell ⟨w.heap.size, 1, none⟩ (.int .u8 0)).setCell ⟨w.heap.size, 2, none⟩ (.int .i64 0)).setCell ⟨w.heap.size, 3, none⟩ (.int .i64 0)).setCell ⟨w.heap.size, 4, none⟩ (.int .u8 0)).setCell ⟨w.heap.size, 5, none⟩ (.string ⟨#[]⟩)).setCell ⟨w.heap.size, 6, none⟩ (.slice none 0 0)).setCell ⟨w.heap.size, 7, none⟩ (.int .i64 0)).setCell ⟨w.heap.size, 8, none⟩ (.slice none 0 0)) = w99 at q r_ o_ v6_ v8_ ⊢
          have d0 : w99.cell? ⟨w.heap.size, 0, none⟩ = some (.int .i64 0) := Go.Joins.cell_of_block q 0
          have d1 : w99.cell? ⟨w.heap.size, 1, none⟩ = some (.int .u8 0) := Go.Joins.cell_of_block q 1
          have d2 : w99.cell? ⟨w.heap.size, 2, none⟩ = some (.int .i64 0) := Go.Joins.cell_of_block q 2
          have d3 : w99.cell? ⟨w.heap.size, 3, none⟩ = some (.int .i64 0) := Go.Joins.cell_of_block q 3
          have d4 : w99.cell? ⟨w.heap.size, 4, none⟩ = some (.int .u8 0) := Go.Joins.cell_of_block q 4
          have d5 : w99.cell? ⟨w.heap.size, 5, none⟩ = some (.string ⟨#[]⟩) := Go.Joins.cell_of_block q 5
          have d6 : w99.cell? ⟨w.heap.size, 6, none⟩ = some (.slice none 0 0) := Go.Joins.cell_of_block q 6
          have d7 : w99.cell? ⟨w.heap.size, 7, none⟩ = some (.int .i64 0) := Go.Joins.cell_of_block q 7
          have d8 : w99.cell? ⟨w.heap.size, 8, none⟩ = some (.slice none 0 0) := Go.Joins.cell_of_block q 8
          have hS := HS.out
          try simp only [if_true, if_false, Bool.false_eq_true, reduceIte] at hS
          subst hS
          exact bodyPost_ret (v := .agg #[.int .i64 0, .int .u8 0, .int .i64 0, .int .i64 0, .int .u8 0, .string ⟨#[]⟩, .slice none 0 0, .int .i64 0, .slice none 0 0]) (by simp [results, Tryz.results80, go_sem, d0, d1, d2, d3, d4, d5, d6, d7, d8]) rfl ⟨⟨0, 0, 0, 0, 0, ByteArray.empty, none, [], 0, 0, none, [], 0⟩, rfl, rfl, ⟨VasOwn.nil _ _, IntsOwn.nil _ _⟩, r_, o_⟩
      | false =>
        obtain rfl : m = 0 := hend.resolve_left (by simp)
        obtain rfl : x8 = acc := by have h1 := HTO.out; have h2 := HTOT.out; simp only [if_true, if_false, Bool.false_eq_true, reduceIte] at h2; exact (h1.trans h2).symm
        have N8 := Lib.hid HAL.out
        clear hend HTO HTOT
        have e0 : wr.cell? ⟨w.heap.size + 1, 0, none⟩ = some (.int .i64 x0) := Go.Joins.cell_of_block G0.out 0
        have e1 : wr.cell? ⟨w.heap.size + 1, 1, none⟩ = some (.int .u8 x1) := Go.Joins.cell_of_block G0.out 1
        have e2 : wr.cell? ⟨w.heap.size + 1, 2, none⟩ = some (.int .i64 x2) := Go.Joins.cell_of_block G0.out 2
        have e3 : wr.cell? ⟨w.heap.size + 1, 3, none⟩ = some (.int .i64 x3) := Go.Joins.cell_of_block G0.out 3
        have e4 : wr.cell? ⟨w.heap.size + 1, 4, none⟩ = some (.int .u8 x4) := Go.Joins.cell_of_block G0.out 4
        have e5 : wr.cell? ⟨w.heap.size + 1, 5, none⟩ = some (.string x5) := Go.Joins.cell_of_block G0.out 5
        have e6 : wr.cell? ⟨w.heap.size + 1, 6, none⟩ = some (.slice a6 n6 c6) := Go.Joins.cell_of_block G0.out 6
        have e7 : wr.cell? ⟨w.heap.size + 1, 7, none⟩ = some (.int .i64 x7) := Go.Joins.cell_of_block G0.out 7
        have e8 : wr.cell? ⟨w.heap.size + 1, 8, none⟩ = some (.slice a8 n8 c8) := Go.Joins.cell_of_block G0.out 8
        have g0 : wr.frozen? ⟨w.heap.size, 0, none⟩ = false := Go.Joins.unfrozen_of_block Z0.out 0
        have g1 : wr.frozen? ⟨w.heap.size, 1, none⟩ = false := Go.Joins.unfrozen_of_block Z0.out 1
        have g2 : wr.frozen? ⟨w.heap.size, 2, none⟩ = false := Go.Joins.unfrozen_of_block Z0.out 2
        have g3 : wr.frozen? ⟨w.heap.size, 3, none⟩ = false := Go.Joins.unfrozen_of_block Z0.out 3
        have g4 : wr.frozen? ⟨w.heap.size, 4, none⟩ = false := Go.Joins.unfrozen_of_block Z0.out 4
        have g5 : wr.frozen? ⟨w.heap.size, 5, none⟩ = false := Go.Joins.unfrozen_of_block Z0.out 5
        have g6 : wr.frozen? ⟨w.heap.size, 6, none⟩ = false := Go.Joins.unfrozen_of_block Z0.out 6
        have g7 : wr.frozen? ⟨w.heap.size, 7, none⟩ = false := Go.Joins.unfrozen_of_block Z0.out 7
        have g8 : wr.frozen? ⟨w.heap.size, 8, none⟩ = false := Go.Joins.unfrozen_of_block Z0.out 8
        have hbc : wr.cell? ⟨db, 2, none⟩ = some (.bool false) := R0.out.badCell.1
        have z0 : wr.cell? ⟨w.heap.size, 0, none⟩ = some (.int .i64 0) := Go.Joins.cell_of_block Z0.out 0
        have z1 : wr.cell? ⟨w.heap.size, 1, none⟩ = some (.int .u8 0) := Go.Joins.cell_of_block Z0.out 1
        have z2 : wr.cell? ⟨w.heap.size, 2, none⟩ = some (.int .i64 0) := Go.Joins.cell_of_block Z0.out 2
        have z3 : wr.cell? ⟨w.heap.size, 3, none⟩ = some (.int .i64 0) := Go.Joins.cell_of_block Z0.out 3
        have z4 : wr.cell? ⟨w.heap.size, 4, none⟩ = some (.int .u8 0) := Go.Joins.cell_of_block Z0.out 4
        have z5 : wr.cell? ⟨w.heap.size, 5, none⟩ = some (.string ⟨#[]⟩) := Go.Joins.cell_of_block Z0.out 5
        have z6 : wr.cell? ⟨w.heap.size, 6, none⟩ = some (.slice none 0 0) := Go.Joins.cell_of_block Z0.out 6
        have z7 : wr.cell? ⟨w.heap.size, 7, none⟩ = some (.int .i64 0) := Go.Joins.cell_of_block Z0.out 7
        have z8 : wr.cell? ⟨w.heap.size, 8, none⟩ = some (.slice none 0 0) := Go.Joins.cell_of_block Z0.out 8
        go_wp2_with fail
        have q : (((((((((wr.setCell ⟨w.heap.size, 0, none⟩ (.int .i64 x0)).setCell ⟨w.heap.size, 1, none⟩ (.int .u8 x1)).setCell ⟨w.heap.size, 2, none⟩ (.int .i64 x2)).setCell ⟨w.heap.size, 3, none⟩ (.int .i64 x3)).setCell ⟨w.heap.size, 4, none⟩ (.int .u8 x4)).setCell ⟨w.heap.size, 5, none⟩ (.string x5)).setCell ⟨w.heap.size, 6, none⟩ (.slice a6 n6 c6)).setCell ⟨w.heap.size, 7, none⟩ (.int .i64 x7)).setCell ⟨w.heap.size, 8, none⟩ (.slice a8 n8 c8)).heap[w.heap.size]? = some (.cells #[.int .i64 x0, .int .u8 x1, .int .i64 x2, .int .i64 x3, .int .u8 x4, .string x5, .slice a6 n6 c6, .int .i64 x7, .slice a8 n8 c8] 60 (0, 0)) := (Go.Joins.block_setCell (i := 8) (Go.Joins.block_setCell (i := 7) (Go.Joins.block_setCell (i := 6) (Go.Joins.block_setCell (i := 5) (Go.Joins.block_setCell (i := 4) (Go.Joins.block_setCell (i := 3) (Go.Joins.block_setCell (i := 2) (Go.Joins.block_setCell (i := 1) (Go.Joins.block_setCell (i := 0) Z0.out (.int .i64 x0)) (.int .u8 x1)) (.int .i64 x2)) (.int .i64 x3)) (.int .u8 x4)) (.string x5)) (.slice a6 n6 c6)) (.int .i64 x7)) (.slice a8 n8 c8))
        have r_ : Ref (((((((((wr.setCell ⟨w.heap.size, 0, none⟩ (.int .i64 x0)).setCell ⟨w.heap.size, 1, none⟩ (.int .u8 x1)).setCell ⟨w.heap.size, 2, none⟩ (.int .i64 x2)).setCell ⟨w.heap.size, 3, none⟩ (.int .i64 x3)).setCell ⟨w.heap.size, 4, none⟩ (.int .u8 x4)).setCell ⟨w.heap.size, 5, none⟩ (.string x5)).setCell ⟨w.heap.size, 6, none⟩ (.slice a6 n6 c6)).setCell ⟨w.heap.size, 7, none⟩ (.int .i64 x7)).setCell ⟨w.heap.size, 8, none⟩ (.slice a8 n8 c8)) M db _ l_t := (((((((((R0.out.other (g := w.heap.size) (i := 0) hM (by omega) (.int .i64 x0)).other (g := w.heap.size) (i := 1) hM (by omega) (.int .u8 x1)).other (g := w.heap.size) (i := 2) hM (by omega) (.int .i64 x2)).other (g := w.heap.size) (i := 3) hM (by omega) (.int .i64 x3)).other (g := w.heap.size) (i := 4) hM (by omega) (.int .u8 x4)).other (g := w.heap.size) (i := 5) hM (by omega) (.string x5)).other (g := w.heap.size) (i := 6) hM (by omega) (.slice a6 n6 c6)).other (g := w.heap.size) (i := 7) hM (by omega) (.int .i64 x7)).other (g := w.heap.size) (i := 8) hM (by omega) (.slice a8 n8 c8))
        have o_ : Only db w (((((((((wr.setCell ⟨w.heap.size, 0, none⟩ (.int .i64 x0)).setCell ⟨w.heap.size, 1, none⟩ (.int .u8 x1)).setCell ⟨w.heap.size, 2, none⟩ (.int .i64 x2)).setCell ⟨w.heap.size, 3, none⟩ (.int .i64 x3)).setCell ⟨w.heap.size, 4, none⟩ (.int .u8 x4)).setCell ⟨w.heap.size, 5, none⟩ (.string x5)).setCell ⟨w.heap.size, 6, none⟩ (.slice a6 n6 c6)).setCell ⟨w.heap.size, 7, none⟩ (.int .i64 x7)).setCell ⟨w.heap.size, 8, none⟩ (.slice a8 n8 c8)) := (((((((((O0.out.new (g := w.heap.size) (i := 0) (Nat.le_refl _) (.int .i64 x0)).new (g := w.heap.size) (i := 1) (Nat.le_refl _) (.int .u8 x1)).new (g := w.heap.size) (i := 2) (Nat.le_refl _) (.int .i64 x2)).new (g := w.heap.size) (i := 3) (Nat.le_refl _) (.int .i64 x3)).new (g := w.heap.size) (i := 4) (Nat.le_refl _) (.int .u8 x4)).new (g := w.heap.size) (i := 5) (Nat.le_refl _) (.string x5)).new (g := w.heap.size) (i := 6) (Nat.le_refl _) (.slice a6 n6 c6)).new (g := w.heap.size) (i := 7) (Nat.le_refl _) (.int .i64 x7)).new (g := w.heap.size) (i := 8) (Nat.le_refl _) (.slice a8 n8 c8))
        have v6_ := (((((((((W6_0.out.only (Only.set w.heap.size _ 0 (.int .i64 x0)) (by omega)).only (Only.set w.heap.size _ 1 (.int .u8 x1)) (by omega)).only (Only.set w.heap.size _ 2 (.int .i64 x2)) (by omega)).only (Only.set w.heap.size _ 3 (.int .i64 x3)) (by omega)).only (Only.set w.heap.size _ 4 (.int .u8 x4)) (by omega)).only (Only.set w.heap.size _ 5 (.string x5)) (by omega)).only (Only.set w.heap.size _ 6 (.slice a6 n6 c6)) (by omega)).only (Only.set w.heap.size _ 7 (.int .i64 x7)) (by omega)).only (Only.set w.heap.size _ 8 (.slice a8 n8 c8)) (by omega))
        have v8_ := (((((((((W8_0.out.only (Only.set w.heap.size _ 0 (.int .i64 x0)) (by omega)).only (Only.set w.heap.size _ 1 (.int .u8 x1)) (by omega)).only (Only.set w.heap.size _ 2 (.int .i64 x2)) (by omega)).only (Only.set w.heap.size _ 3 (.int .i64 x3)) (by omega)).only (Only.set w.heap.size _ 4 (.int .u8 x4)) (by omega)).only (Only.set w.heap.size _ 5 (.string x5)) (by omega)).only (Only.set w.heap.size _ 6 (.slice a6 n6 c6)) (by omega)).only (Only.set w.heap.size _ 7 (.int .i64 x7)) (by omega)).only (Only.set w.heap.size _ 8 (.slice a8 n8 c8)) (by omega))
        generalize (((((((((wr.setCell ⟨w.heap.size, 0, none⟩ (.int .i64 x0)).setCell ⟨w.heap.size, 1, none⟩ (.int .u8 x1)).setCell ⟨w.heap.size, 2, none⟩ (.int .i64 x2)).setCell ⟨w.heap.size, 3, none⟩ (.int .i64 x3)).setCell ⟨w.heap.size, 4, none⟩ (.int .u8 x4)).setCell ⟨w.heap.size, 5, none⟩ (.string x5)).setCell ⟨w.heap.size, 6, none⟩ (.slice a6 n6 c6)).setCell ⟨w.heap.size, 7, none⟩ (.int .i64 x7)).setCell ⟨w.heap.size, 8, none⟩ (.slice a8 n8 c8)) = w99 at q r_ o_ v6_ v8_ ⊢
        have d0 : w99.cell? ⟨w.heap.size, 0, none⟩ = some (.int .i64 x0) := Go.Joins.cell_of_block q 0
        have d1 : w99.cell? ⟨w.heap.size, 1, none⟩ = some (.int .u8 x1) := Go.Joins.cell_of_block q 1
        have d2 : w99.cell? ⟨w.heap.size, 2, none⟩ = some (.int .i64 x2) := Go.Joins.cell_of_block q 2
        have d3 : w99.cell? ⟨w.heap.size, 3, none⟩ = some (.int .i64 x3) := Go.Joins.cell_of_block q 3
        have d4 : w99.cell? ⟨w.heap.size, 4, none⟩ = some (.int .u8 x4) := Go.Joins.cell_of_block q 4
        have d5 : w99.cell? ⟨w.heap.size, 5, none⟩ = some (.string x5) := Go.Joins.cell_of_block q 5
        have d6 : w99.cell? ⟨w.heap.size, 6, none⟩ = some (.slice a6 n6 c6) := Go.Joins.cell_of_block q 6
        have d7 : w99.cell? ⟨w.heap.size, 7, none⟩ = some (.int .i64 x7) := Go.Joins.cell_of_block q 7
        have d8 : w99.cell? ⟨w.heap.size, 8, none⟩ = some (.slice a8 n8 c8) := Go.Joins.cell_of_block q 8
        have hS := HS.out
        try simp only [if_true, if_false, Bool.false_eq_true, reduceIte] at hS
        subst hS
        have hc := NC.out
        subst hc
        obtain rfl := N6.out
        have v69 := v6_.le (base' := w.heap.size) (by omega)
        obtain rfl := N8.out
        have v89 := v8_.le (base' := w.heap.size) (by omega)
        exact bodyPost_ret (v := .agg #[.int .i64 x0, .int .u8 x1, .int .i64 x2, .int .i64 x3, .int .u8 x4, .string x5, .slice a6 x6.length c6, .int .i64 x7, .slice a8 x8.length c8]) (by simp [results, Tryz.results80, go_sem, d0, d1, d2, d3, d4, d5, d6, d7, d8]) rfl ⟨⟨x0, x1, x2, x3, x4, x5, a6, x6, c6, x7, a8, x8, c8⟩, rfl, rfl, ⟨v69, v89⟩, r_, o_⟩
    · obtain ⟨rfl, m', rfl⟩ : b = false ∧ ∃ m', m = m' + 1 := by
        refine ⟨by cases b with
          | true => exact absurd (Or.inl rfl) hend
          | false => rfl, m - 1, by omega⟩
      have j1 : (0 : Int) < (m' : Int) + 1 := by omega
      clear hend
      have hsh := numS_shrinks false l HWF.out
      have HE2 := HE.out
      rw [rowS, if_neg (by simp)] at HE2
      obtain ⟨⟨x, b1, l1⟩, hx⟩ : ∃ r, numS false l = r := ⟨_, rfl⟩
      have hone := rnum_any M db false l x b1 l1 wr hx R0.out HWF.out
      rw [hx] at hsh HE2
      dsimp only at hsh HE2
      have H2 := Lib.hid HE2
      have HSH := Lib.hid hsh
      have HONE := Lib.hid hone
      clear HE2 hsh hone HE hx
      go_wp2_with fail
      refine HONE.out.mono ?_
      rintro e w1 ⟨rfl, hr1, ho1⟩
      have W8_1 := Lib.hid (W8_0.out.only ho1 (by omega))
      have W6_1 := Lib.hid (W6_0.out.only ho1 (by omega))
      have G1 := Lib.hid ((ho1.2 (w.heap.size + 1) (by omega) (by omega)).trans G0.out)
      have Z1 := Lib.hid ((ho1.2 w.heap.size (by omega) (by omega)).trans Z0.out)
      have R1 := Lib.hid hr1
      have O1 := Lib.hid (O0.out.trans ho1)
      have hz1 : w.heap.size + 2 ≤ w1.heap.size := Nat.le_trans hz0 ho1.1
      have hzB : ∀ o, w.heap.size + 2 ≤ (w1.alloc o).heap.size := fun o => by rw [World.size_alloc]; omega
      have e8 : w1.cell? ⟨w.heap.size + 1, 8, none⟩ = some (.slice a8 n8 c8) := Go.Joins.cell_of_block G1.out 8
      clear hr1 ho1 HONE R0 O0 Z0 G0 W8_0 W6_0 d1
      go_wp2_with (at_builtin; refine wpList_append_rows (sub := noSub) Tryz.underlying58 infoI rfl (by decide) iCells_len iCells_one rfl (.tmp 38) (.tmp 40) rfl (w.heap.size + 2) _ n8 (acc.flatMap iCells) rfl (World.ownsRow.alloc W8_1.out _) (some ⟨w1.heap.size, 0, none⟩) 1 1 [x] rfl rfl (w1.heap.size + 1) (rowsIn_block iCells_len _ _ (heap_alloc_new w1 _) rfl (by omega) (fun _ _ => trivial)) (by simp) (by have := HAL.out; unfold maxLen; omega) (by have := HAL.out; omega) (hzB _) ?_)
      intro v2 w2 h2 hg2 _
      have hB := (Below.refl w1.heap.size w1).alloc (Nat.le_refl _) (.cells #[.int .i64 x] 3)
      have hrowB := World.ownsRow.alloc W8_1.out (.cells #[.int .i64 x] 3)
      have hne : ∀ g, (Value.slice a8 n8 c8).ownBlock = some g → w.heap.size + 2 ≤ g := fun g hg => (W8_1.out.lt g hg).1
      obtain ⟨a9, c9, hv9⟩ := row_slice h2
      subst hv9
      have hgb : w2.heap[w.heap.size + 1]? = some (.cells #[.int .i64 x0, .int .u8 x1, .int .i64 x2, .int .i64 x3, .int .u8 x4, .string x5, .slice a6 n6 c6, .int .i64 x7, .slice a8 n8 c8] 60 (0, 0)) := (hg2.block (w.heap.size + 1) (by rw [World.size_alloc]; omega) (fun e => by have := hne _ e.symm; omega)).trans ((hB.block _ (by omega)).trans G1.out)
      have hzb : w2.heap[w.heap.size]? = some (.cells #[.int .i64 0, .int .u8 0, .int .i64 0, .int .i64 0, .int .u8 0, .string ⟨#[]⟩, .slice none 0 0, .int .i64 0, .slice none 0 0] 60 (0, 0)) := (hg2.block w.heap.size (by rw [World.size_alloc]; omega) (fun e => by have := hne _ e.symm; omega)).trans ((hB.block _ (by omega)).trans Z1.out)
      have R2 := Lib.hid ((R1.out.below hB).grown hg2 (fun g hg => by have := hne g hg; omega))
      have O2 := Lib.hid ((O1.out.alloc (.cells #[.int .i64 x] 3)).grown hg2 (fun g hg => by have := hne g hg; omega))
      have hz2 : w.heap.size + 2 ≤ w2.heap.size := Nat.le_trans (hzB (.cells #[.int .i64 x] 3)) hg2.size
      have W6_2 := Lib.hid (show VasOwn w2 (w.heap.size + 2) a6 n6 c6 x6 from by
        have h := World.ownsRow.alloc W6_1.out (.cells #[.int .i64 x] 3)
        exact World.ownsRow.kept h hg2 (own_apart h hrowB (by decide)))
      have H3 := Lib.hid h2
      have G2 := Lib.hid hgb
      have Z2 := Lib.hid hzb
      clear e8
      have e8 : w2.cell? ⟨w.heap.size + 1, 8, none⟩ = some (.slice a8 n8 c8) := Go.Joins.cell_of_block hgb 8
      have f8 : w2.frozen? ⟨w.heap.size + 1, 8, none⟩ = false := Go.Joins.unfrozen_of_block hgb 8
      clear hB hrowB hne h2 hg2 hgb hzb W8_1 W6_1 R1 O1 G1 Z1
      go_wp2_with fail
      have q : (w2.setCell ⟨w.heap.size + 1, 8, none⟩ (.slice a9 (n8 + 1) c9)).heap[w.heap.size + 1]? = some (.cells #[.int .i64 x0, .int .u8 x1, .int .i64 x2, .int .i64 x3, .int .u8 x4, .string x5, .slice a6 n6 c6, .int .i64 x7, .slice a9 (n8 + 1) c9] 60 (0, 0)) := Go.Joins.block_setCell (i := 8) G2.out (.slice a9 (n8 + 1) c9)
      go_roundw
      case rel =>
        refine ⟨m', acc ++ [x], b1, l1, a9, n8 + 1, c9, by go_num, ?_, by simp; omega, by simp [HAL.out], ?_, q, (heap_setCell_other _ ⟨w.heap.size + 1, 8, none⟩ _ _ (show w.heap.size ≠ w.heap.size + 1 by omega)).trans Z2.out, R2.out.other (by omega) (by omega) _, O2.out.new (by omega) _, by simpa using hz2, HSH.out.1, W6_2.out.only (Only.set (w.heap.size + 1) _ 8 _) (by omega)⟩
        · rw [List.append_assoc]; exact H2.out
        · unfold IntsOwn; rw [List.flatMap_append]; exact own_only' H3.out (Only.set (w.heap.size + 1) _ 8 _) (by omega)
      case measure => simp [intOf]
end Go.Proofs.YtnhnabcpkaeaaaaGreatDoor
