/- The reader of the document's answer: Reply. Conditions: its bytes lie as their reading says. -/
import Derived.Test.YtiggpcmikhojmaaGreatDoorGWireNumbers24
import Derived.Test.YtiggpcmikhojmaaGreatDoorGWireNumbers11
set_option linter.unusedVariables false
namespace Go.Proofs.YtiggpcmikhojmaaGreatDoor
open Go.RowKit
set_option maxRecDepth 20000
theorem valuesS_bad (l : List Int) : valuesS true l = ([], true, l) := by
  have h1 : takeS 4 true l = ([], true, l) := if_pos (Or.inl rfl)
  have h2 : countS true l = (0, true, l) := by unfold countS; rw [h1]; exact if_pos (Or.inl rfl)
  unfold valuesS rowsS
  rw [h2]
  rfl
set_option maxHeartbeats 8000000 in
theorem rrReply_any (M db : Nat) (bad : Bool) (left : List Int) (r : RpP × Bool × List Int) (w : World) (hr : replyS bad left = r) (h : Ref w M db bad left) (hw : BytesWf left) :
    Calls Tryz.prog 93 #[.pointer (some ⟨db, 0, none⟩)] w fun e w' => ∃ f : Rp, f.plain = r.1 ∧ e = .returned (rpVal f) ∧ (FasOwn w' w.heap.size f.fo f.facts.length f.fcap f.facts ∧ VasOwn w' w.heap.size f.so f.said.length f.scap f.said) ∧ Ref w' M db r.2.1 r.2.2 ∧ Only db w w' := by
  have hdb := h.lt
  have hM := h.le
  obtain ⟨⟨x0, b_0, l_0⟩, h_0⟩ : ∃ r, numS bad left = r := ⟨_, rfl⟩
  have q_0 := numS_shrinks bad left hw
  rw [h_0] at q_0
  dsimp only at q_0
  obtain ⟨⟨x1, b_1, l_1⟩, h_1⟩ : ∃ r, numS b_0 l_0 = r := ⟨_, rfl⟩
  have q_1 := numS_shrinks b_0 l_0 q_0.1
  rw [h_1] at q_1
  dsimp only at q_1
  obtain ⟨⟨x2, b_2, l_2⟩, h_2⟩ : ∃ r, factsS b_1 l_1 = r := ⟨_, rfl⟩
  have q_2 := factsS_shrinks b_1 l_1 q_1.1
  rw [h_2] at q_2
  dsimp only at q_2
  have hcw := countS_wf (bad := b_1) (left := l_1) q_1.1
  have h_r : (let c := countS b_1 l_1; let r := rowS factS c.1.toNat c.2.1 c.2.2; ((if r.2.1 = true then [] else r.1), r.2)) = (x2, b_2, l_2) := h_2
  obtain ⟨⟨n_c, b_c, l_c⟩, h_c⟩ : ∃ r, countS b_1 l_1 = r := ⟨_, rfl⟩
  rw [h_c] at hcw h_r
  dsimp only at hcw h_r
  obtain ⟨N, rfl⟩ : ∃ N : Nat, n_c = N := ⟨n_c.toNat, by omega⟩
  have hN : N ≤ 65536 := by omega
  rw [Int.toNat_natCast] at h_r
  obtain ⟨⟨tot, b_t, l_t⟩, h_t⟩ : ∃ r, rowS factS N b_c l_c = r := ⟨_, rfl⟩
  rw [h_t] at h_r
  dsimp only at h_r
  simp only [Prod.mk.injEq] at h_r
  obtain ⟨h_tot, h_bt, h_lt⟩ := h_r
  subst h_bt h_lt
  have HTOT := Lib.hid h_tot
  have HTR := Lib.hid h_t
  have HCW := Lib.hid hcw
  have HCC := Lib.hid h_c
  clear h_tot h_t hcw h_c
  obtain ⟨⟨x3, b_3, l_3⟩, h_3⟩ : ∃ r, valuesS b_t l_t = r := ⟨_, rfl⟩
  have q_3 := valuesS_shrinks b_t l_t q_2.1
  rw [h_3] at q_3
  dsimp only at q_3
  have HS := Lib.hid (show (if b_3 = true then ⟨0, 0, [], []⟩ else ⟨x0, x1, x2, x3⟩, b_3, l_3) = r by rw [← hr]; unfold replyS; dsimp only; simp only [h_0, h_1, h_2, h_3])
  have HH0 := Lib.hid h_0
  have HW0 := Lib.hid q_0.1
  have HH1 := Lib.hid h_1
  have HW1 := Lib.hid q_1.1
  have HH2 := Lib.hid h_2
  have HW2 := Lib.hid q_2.1
  have HH3 := Lib.hid h_3
  have HW3 := Lib.hid q_3.1
  have HW := Lib.hid hw
  clear hr h_0 q_0 h_1 q_1 h_2 q_2 h_3 q_3
  have hA := (Below.refl w.heap.size w).alloc (Nat.le_refl _) (.cells #[.int .i64 0, .int .i64 0, .slice none 0 0, .slice none 0 0] 34)
  have hA2 := (Below.refl (w.alloc (.cells #[.int .i64 0, .int .i64 0, .slice none 0 0, .slice none 0 0] 34)).heap.size (w.alloc (.cells #[.int .i64 0, .int .i64 0, .slice none 0 0, .slice none 0 0] 34))).alloc (Nat.le_refl _) (.cells #[.int .i64 0, .int .i64 0, .slice none 0 0, .slice none 0 0] 34)
  have R0 := Lib.hid ((h.below hA).below hA2)
  have O0 := Lib.hid (((Only.refl db w).alloc (.cells #[.int .i64 0, .int .i64 0, .slice none 0 0, .slice none 0 0] 34)).alloc (.cells #[.int .i64 0, .int .i64 0, .slice none 0 0, .slice none 0 0] 34))
  have Z0 := Lib.hid ((hA2.block w.heap.size (by simp)).trans (heap_alloc_new w (.cells #[.int .i64 0, .int .i64 0, .slice none 0 0, .slice none 0 0] 34)))
  have hG0 := heap_alloc_new (w.alloc (.cells #[.int .i64 0, .int .i64 0, .slice none 0 0, .slice none 0 0] 34)) (.cells #[.int .i64 0, .int .i64 0, .slice none 0 0, .slice none 0 0] 34)
  rw [World.size_alloc] at hG0
  have G0 := Lib.hid hG0
  have hz0 : w.heap.size + 2 ≤ ((w.alloc (.cells #[.int .i64 0, .int .i64 0, .slice none 0 0, .slice none 0 0] 34)).alloc (.cells #[.int .i64 0, .int .i64 0, .slice none 0 0, .slice none 0 0] 34)).heap.size := by simp
  clear h hA hA2 hG0
  go_enter Tryz.func93, Tryz.ntmps93
  go_wp2_with fail
  generalize (w.alloc (.cells #[.int .i64 0, .int .i64 0, .slice none 0 0, .slice none 0 0] 34)).alloc (.cells #[.int .i64 0, .int .i64 0, .slice none 0 0, .slice none 0 0] 34) = w0 at R0 O0 Z0 G0 hz0 ⊢
  refine (rnum_any M db bad left x0 b_0 l_0 w0 HH0.out R0.out HW.out).mono ?_
  rintro e w1 ⟨rfl, hr, ho⟩
  have R1 := Lib.hid hr
  have O1 := Lib.hid (O0.out.trans ho)
  have hs1 := ho.1
  have hz1 : w.heap.size + 2 ≤ w1.heap.size := Nat.le_trans hz0 hs1
  have Z1 := Lib.hid ((ho.2 w.heap.size (by omega) (by omega)).trans Z0.out)
  have G1 := Lib.hid ((ho.2 (w.heap.size + 1) (by omega) (by omega)).trans G0.out)
  clear hr ho R0 O0 Z0 G0 
  have f0 : w1.frozen? ⟨w.heap.size + 1, 0, none⟩ = false := Go.Joins.unfrozen_of_block G1.out 0
  have e0 : w1.cell? ⟨w.heap.size + 1, 0, none⟩ = some (.int .i64 0) := Go.Joins.cell_of_block G1.out 0
  go_wp2_with fail
  have q : (w1.setCell ⟨w.heap.size + 1, 0, none⟩ (.int .i64 x0)).heap[w.heap.size + 1]? = some (.cells #[.int .i64 x0, .int .i64 0, .slice none 0 0, .slice none 0 0] 34 (0, 0)) := (Go.Joins.block_setCell (i := 0) G1.out (.int .i64 x0))
  have r_ : Ref (w1.setCell ⟨w.heap.size + 1, 0, none⟩ (.int .i64 x0)) M db b_0 l_0 := (R1.out.other (g := w.heap.size + 1) (i := 0) (by omega) (by omega) (.int .i64 x0))
  have o_ : Only db w (w1.setCell ⟨w.heap.size + 1, 0, none⟩ (.int .i64 x0)) := (O1.out.new (g := w.heap.size + 1) (i := 0) (by omega) (.int .i64 x0))
  have z_ : (w1.setCell ⟨w.heap.size + 1, 0, none⟩ (.int .i64 x0)).heap[w.heap.size]? = some (.cells #[.int .i64 0, .int .i64 0, .slice none 0 0, .slice none 0 0] 34 (0, 0)) := ((heap_setCell_other _ ⟨w.heap.size + 1, 0, none⟩ _ (.int .i64 x0) (show w.heap.size ≠ w.heap.size + 1 by omega)).trans Z1.out)
  have hz_ : w.heap.size + 2 ≤ (w1.setCell ⟨w.heap.size + 1, 0, none⟩ (.int .i64 x0)).heap.size := by simpa using hz1
  generalize (w1.setCell ⟨w.heap.size + 1, 0, none⟩ (.int .i64 x0)) = w2 at q r_ o_ z_ hz_  ⊢
  have G2 := Lib.hid q
  have R2 := Lib.hid r_
  have O2 := Lib.hid o_
  have Z2 := Lib.hid z_
  have hz2 : w.heap.size + 2 ≤ w2.heap.size := hz_
  clear q r_ o_ z_ hz_  f0 e0 R1 O1 Z1 G1 
  refine (rnum_any M db b_0 l_0 x1 b_1 l_1 w2 HH1.out R2.out HW0.out).mono ?_
  rintro e w3 ⟨rfl, hr, ho⟩
  have R3 := Lib.hid hr
  have O3 := Lib.hid (O2.out.trans ho)
  have hs3 := ho.1
  have hz3 : w.heap.size + 2 ≤ w3.heap.size := Nat.le_trans hz2 hs3
  have Z3 := Lib.hid ((ho.2 w.heap.size (by omega) (by omega)).trans Z2.out)
  have G3 := Lib.hid ((ho.2 (w.heap.size + 1) (by omega) (by omega)).trans G2.out)
  clear hr ho R2 O2 Z2 G2 
  have f1 : w3.frozen? ⟨w.heap.size + 1, 1, none⟩ = false := Go.Joins.unfrozen_of_block G3.out 1
  have e1 : w3.cell? ⟨w.heap.size + 1, 1, none⟩ = some (.int .i64 0) := Go.Joins.cell_of_block G3.out 1
  go_wp2_with fail
  have q : (w3.setCell ⟨w.heap.size + 1, 1, none⟩ (.int .i64 x1)).heap[w.heap.size + 1]? = some (.cells #[.int .i64 x0, .int .i64 x1, .slice none 0 0, .slice none 0 0] 34 (0, 0)) := (Go.Joins.block_setCell (i := 1) G3.out (.int .i64 x1))
  have r_ : Ref (w3.setCell ⟨w.heap.size + 1, 1, none⟩ (.int .i64 x1)) M db b_1 l_1 := (R3.out.other (g := w.heap.size + 1) (i := 1) (by omega) (by omega) (.int .i64 x1))
  have o_ : Only db w (w3.setCell ⟨w.heap.size + 1, 1, none⟩ (.int .i64 x1)) := (O3.out.new (g := w.heap.size + 1) (i := 1) (by omega) (.int .i64 x1))
  have z_ : (w3.setCell ⟨w.heap.size + 1, 1, none⟩ (.int .i64 x1)).heap[w.heap.size]? = some (.cells #[.int .i64 0, .int .i64 0, .slice none 0 0, .slice none 0 0] 34 (0, 0)) := ((heap_setCell_other _ ⟨w.heap.size + 1, 1, none⟩ _ (.int .i64 x1) (show w.heap.size ≠ w.heap.size + 1 by omega)).trans Z3.out)
  have hz_ : w.heap.size + 2 ≤ (w3.setCell ⟨w.heap.size + 1, 1, none⟩ (.int .i64 x1)).heap.size := by simpa using hz3
  generalize (w3.setCell ⟨w.heap.size + 1, 1, none⟩ (.int .i64 x1)) = w4 at q r_ o_ z_ hz_  ⊢
  have G4 := Lib.hid q
  have R4 := Lib.hid r_
  have O4 := Lib.hid o_
  have Z4 := Lib.hid z_
  have hz4 : w.heap.size + 2 ≤ w4.heap.size := hz_
  clear q r_ o_ z_ hz_  f1 e1 R3 O3 Z3 G3 
  refine (rcount_any M db b_1 l_1 N b_c l_c w4 HCC.out R4.out HW1.out).mono ?_
  rintro e w5 ⟨rfl, hr, ho⟩
  have R5 := Lib.hid hr
  have O5 := Lib.hid (O4.out.trans ho)
  have hs5 := ho.1
  have hz5 : w.heap.size + 2 ≤ w5.heap.size := Nat.le_trans hz4 hs5
  have Z5 := Lib.hid ((ho.2 w.heap.size (by omega) (by omega)).trans Z4.out)
  have G5 := Lib.hid ((ho.2 (w.heap.size + 1) (by omega) (by omega)).trans G4.out)
  clear hr ho R4 O4 Z4 G4 
  go_wp2_with fail
  go_loopw [4] (fun i wr => ∃ (m : Nat) (acc : List Fa) (b : Bool) (l : List Int) (a2 : Option Addr) (n2 c2 : Nat), i = .int .i64 m ∧ (acc.map Fa.plain ++ (rowS factS m b l).1, (rowS factS m b l).2) = (tot, b_t, l_t) ∧ acc.length + m ≤ 65536 ∧ FasOwn wr (w.heap.size + 2) a2 n2 c2 acc ∧ wr.heap[w.heap.size + 1]? = some (.cells #[.int .i64 x0, .int .i64 x1, .slice a2 n2 c2, .slice none 0 0] 34 (0, 0)) ∧ wr.heap[w.heap.size]? = some (.cells #[.int .i64 0, .int .i64 0, .slice none 0 0, .slice none 0 0] 34 (0, 0)) ∧ Ref wr M db b l ∧ Only db w wr ∧ w.heap.size + 2 ≤ wr.heap.size ∧ BytesWf l) (fun i _ => (intOf i).toNat)
  case atStart => exact ⟨N, [], b_c, l_c, none, 0, 0, rfl, by rw [HTR.out]; rfl, by simpa using hN, FasOwn.nil _ _, G5.out, Z5.out, R5.out, O5.out, hz5, HCW.out.2.2.1⟩
  case round =>
    clear R5 O5 Z5 G5 HCC HTR HCW 
    obtain ⟨m, acc, b, l, a2, n2, c2, rfl, heq, hlen, hown, hg_, hz_, hr_, ho_, hsz_, hwf_⟩ := hrel
    have HE := Lib.hid heq
    have W2_0 := Lib.hid hown
    have G0 := Lib.hid hg_
    have Z0 := Lib.hid hz_
    have R0 := Lib.hid hr_
    have O0 := Lib.hid ho_
    have HWF := Lib.hid hwf_
    have hz0 := hsz_
    have d1 := hr_.badCell.1
    clear heq hown hg_ hz_ hr_ ho_ hwf_  
    by_cases hend : b = true ∨ m = 0
    · have hfin : acc.map Fa.plain = tot ∧ b = b_t ∧ l = l_t := by
        have h1 := HE.out
        rcases hend with h0 | h0
        · subst h0
          rw [rowS_bad] at h1
          simpa using h1
        · subst h0
          simpa [rowS] using h1
      obtain ⟨htot, hb, hl⟩ := hfin
      obtain rfl := hb.symm
      obtain rfl := hl.symm
      clear hb hl HE
      have HTO := Lib.hid htot
      clear htot
      cases b_t with
      | true =>
        have hTO := HTO.out
        clear HTO
        by_cases hm0 : m = 0
        · subst hm0
          go_wp2_with fail
          have hv9 := HH3.out
          rw [valuesS_bad] at hv9
          simp only [Prod.mk.injEq] at hv9
          obtain ⟨rfl, rfl, rfl⟩ := hv9
          refine (rvalues_any M db true l_t [] true l_t wr HH3.out R0.out HWF.out).mono ?_
          rintro e w1 ⟨a3, n3, c3, hn3, rfl, hown, hr, ho⟩
          have N3 := Lib.hid hn3
          have W3_1 := Lib.hid (hown.le (base' := w.heap.size + 2) hz0)
          clear hown hn3
          have R1 := Lib.hid hr
          have O1 := Lib.hid (O0.out.trans ho)
          have hs1 := ho.1
          have hz1 : w.heap.size + 2 ≤ w1.heap.size := Nat.le_trans hz0 hs1
          have Z1 := Lib.hid ((ho.2 w.heap.size (by omega) (by omega)).trans Z0.out)
          have G1 := Lib.hid ((ho.2 (w.heap.size + 1) (by omega) (by omega)).trans G0.out)
          have W2_1 := Lib.hid (W2_0.out.only ho (by omega))
          clear hr ho R0 O0 Z0 G0 W2_0
          have f3 : w1.frozen? ⟨w.heap.size + 1, 3, none⟩ = false := Go.Joins.unfrozen_of_block G1.out 3
          have e0 : w1.cell? ⟨w.heap.size + 1, 0, none⟩ = some (.int .i64 x0) := Go.Joins.cell_of_block G1.out 0
          have e1 : w1.cell? ⟨w.heap.size + 1, 1, none⟩ = some (.int .i64 x1) := Go.Joins.cell_of_block G1.out 1
          have e2 : w1.cell? ⟨w.heap.size + 1, 2, none⟩ = some (.slice a2 n2 c2) := Go.Joins.cell_of_block G1.out 2
          have e3 : w1.cell? ⟨w.heap.size + 1, 3, none⟩ = some (.slice none 0 0) := Go.Joins.cell_of_block G1.out 3
          have g0 : w1.frozen? ⟨w.heap.size, 0, none⟩ = false := Go.Joins.unfrozen_of_block Z1.out 0
          have g1 : w1.frozen? ⟨w.heap.size, 1, none⟩ = false := Go.Joins.unfrozen_of_block Z1.out 1
          have g2 : w1.frozen? ⟨w.heap.size, 2, none⟩ = false := Go.Joins.unfrozen_of_block Z1.out 2
          have g3 : w1.frozen? ⟨w.heap.size, 3, none⟩ = false := Go.Joins.unfrozen_of_block Z1.out 3
          have hbc : ∀ u, (w1.setCell ⟨w.heap.size + 1, 3, none⟩ u).cell? ⟨db, 2, none⟩ = some (.bool true) := fun u => (R1.out.other (g := w.heap.size + 1) (i := 3) (by omega) (by omega) u).badCell.1
          have z0 : ∀ u, (w1.setCell ⟨w.heap.size + 1, 3, none⟩ u).cell? ⟨w.heap.size, 0, none⟩ = some (.int .i64 0) := fun u => Go.Joins.cell_of_block ((heap_setCell_other _ ⟨w.heap.size + 1, 3, none⟩ _ u (show w.heap.size ≠ w.heap.size + 1 by omega)).trans Z1.out) 0
          have z1 : ∀ u, (w1.setCell ⟨w.heap.size + 1, 3, none⟩ u).cell? ⟨w.heap.size, 1, none⟩ = some (.int .i64 0) := fun u => Go.Joins.cell_of_block ((heap_setCell_other _ ⟨w.heap.size + 1, 3, none⟩ _ u (show w.heap.size ≠ w.heap.size + 1 by omega)).trans Z1.out) 1
          have z2 : ∀ u, (w1.setCell ⟨w.heap.size + 1, 3, none⟩ u).cell? ⟨w.heap.size, 2, none⟩ = some (.slice none 0 0) := fun u => Go.Joins.cell_of_block ((heap_setCell_other _ ⟨w.heap.size + 1, 3, none⟩ _ u (show w.heap.size ≠ w.heap.size + 1 by omega)).trans Z1.out) 2
          have z3 : ∀ u, (w1.setCell ⟨w.heap.size + 1, 3, none⟩ u).cell? ⟨w.heap.size, 3, none⟩ = some (.slice none 0 0) := fun u => Go.Joins.cell_of_block ((heap_setCell_other _ ⟨w.heap.size + 1, 3, none⟩ _ u (show w.heap.size ≠ w.heap.size + 1 by omega)).trans Z1.out) 3
          go_wp2_with fail
          have q : (((((w1.setCell ⟨w.heap.size + 1, 3, none⟩ (.slice a3 n3 c3)).setCell ⟨w.heap.size, 0, none⟩ (.int .i64 0)).setCell ⟨w.heap.size, 1, none⟩ (.int .i64 0)).setCell ⟨w.heap.size, 2, none⟩ (.slice none 0 0)).setCell ⟨w.heap.size, 3, none⟩ (.slice none 0 0)).heap[w.heap.size]? = some (.cells #[.int .i64 0, .int .i64 0, .slice none 0 0, .slice none 0 0] 34 (0, 0)) := (Go.Joins.block_setCell (i := 3) (Go.Joins.block_setCell (i := 2) (Go.Joins.block_setCell (i := 1) (Go.Joins.block_setCell (i := 0) ((heap_setCell_other _ ⟨w.heap.size + 1, 3, none⟩ _ (.slice a3 n3 c3) (show w.heap.size ≠ w.heap.size + 1 by omega)).trans Z1.out) (.int .i64 0)) (.int .i64 0)) (.slice none 0 0)) (.slice none 0 0))
          have r_ : Ref (((((w1.setCell ⟨w.heap.size + 1, 3, none⟩ (.slice a3 n3 c3)).setCell ⟨w.heap.size, 0, none⟩ (.int .i64 0)).setCell ⟨w.heap.size, 1, none⟩ (.int .i64 0)).setCell ⟨w.heap.size, 2, none⟩ (.slice none 0 0)).setCell ⟨w.heap.size, 3, none⟩ (.slice none 0 0)) M db _ l_t := (((((R1.out.other (g := w.heap.size + 1) (i := 3) (by omega) (by omega) (.slice a3 n3 c3)).other (g := w.heap.size) (i := 0) hM (by omega) (.int .i64 0)).other (g := w.heap.size) (i := 1) hM (by omega) (.int .i64 0)).other (g := w.heap.size) (i := 2) hM (by omega) (.slice none 0 0)).other (g := w.heap.size) (i := 3) hM (by omega) (.slice none 0 0))
          have o_ : Only db w (((((w1.setCell ⟨w.heap.size + 1, 3, none⟩ (.slice a3 n3 c3)).setCell ⟨w.heap.size, 0, none⟩ (.int .i64 0)).setCell ⟨w.heap.size, 1, none⟩ (.int .i64 0)).setCell ⟨w.heap.size, 2, none⟩ (.slice none 0 0)).setCell ⟨w.heap.size, 3, none⟩ (.slice none 0 0)) := (((((O1.out.new (g := w.heap.size + 1) (i := 3) (by omega) (.slice a3 n3 c3)).new (g := w.heap.size) (i := 0) (Nat.le_refl _) (.int .i64 0)).new (g := w.heap.size) (i := 1) (Nat.le_refl _) (.int .i64 0)).new (g := w.heap.size) (i := 2) (Nat.le_refl _) (.slice none 0 0)).new (g := w.heap.size) (i := 3) (Nat.le_refl _) (.slice none 0 0))
          have v2_ := (((((W2_1.out.only (Only.set (w.heap.size + 1) _ 3 (.slice a3 n3 c3)) (by omega)).only (Only.set w.heap.size _ 0 (.int .i64 0)) (by omega)).only (Only.set w.heap.size _ 1 (.int .i64 0)) (by omega)).only (Only.set w.heap.size _ 2 (.slice none 0 0)) (by omega)).only (Only.set w.heap.size _ 3 (.slice none 0 0)) (by omega))
          have v3_ := (((((W3_1.out.only (Only.set (w.heap.size + 1) _ 3 (.slice a3 n3 c3)) (by omega)).only (Only.set w.heap.size _ 0 (.int .i64 0)) (by omega)).only (Only.set w.heap.size _ 1 (.int .i64 0)) (by omega)).only (Only.set w.heap.size _ 2 (.slice none 0 0)) (by omega)).only (Only.set w.heap.size _ 3 (.slice none 0 0)) (by omega))
          generalize (((((w1.setCell ⟨w.heap.size + 1, 3, none⟩ (.slice a3 n3 c3)).setCell ⟨w.heap.size, 0, none⟩ (.int .i64 0)).setCell ⟨w.heap.size, 1, none⟩ (.int .i64 0)).setCell ⟨w.heap.size, 2, none⟩ (.slice none 0 0)).setCell ⟨w.heap.size, 3, none⟩ (.slice none 0 0)) = w99 at q r_ o_ v2_ v3_ ⊢
          have d0 : w99.cell? ⟨w.heap.size, 0, none⟩ = some (.int .i64 0) := Go.Joins.cell_of_block q 0
          have d1 : w99.cell? ⟨w.heap.size, 1, none⟩ = some (.int .i64 0) := Go.Joins.cell_of_block q 1
          have d2 : w99.cell? ⟨w.heap.size, 2, none⟩ = some (.slice none 0 0) := Go.Joins.cell_of_block q 2
          have d3 : w99.cell? ⟨w.heap.size, 3, none⟩ = some (.slice none 0 0) := Go.Joins.cell_of_block q 3
          have hS := HS.out
          try simp only [if_true] at hS
          subst hS
          exact bodyPost_ret (v := .agg #[.int .i64 0, .int .i64 0, .slice none 0 0, .slice none 0 0]) (by simp [results, Tryz.results93, go_sem, d0, d1, d2, d3]) rfl ⟨⟨0, 0, none, [], 0, none, [], 0⟩, rfl, rfl, ⟨FasOwn.nil _ _, VasOwn.nil _ _⟩, r_, o_⟩
        · obtain ⟨m2, rfl⟩ : ∃ m2, m = m2 + 1 := ⟨m - 1, by omega⟩
          have j1 : (0 : Int) < (m2 : Int) + 1 := by omega
          clear hm0
          go_wp2_with fail
          have hv9 := HH3.out
          rw [valuesS_bad] at hv9
          simp only [Prod.mk.injEq] at hv9
          obtain ⟨rfl, rfl, rfl⟩ := hv9
          refine (rvalues_any M db true l_t [] true l_t wr HH3.out R0.out HWF.out).mono ?_
          rintro e w1 ⟨a3, n3, c3, hn3, rfl, hown, hr, ho⟩
          have N3 := Lib.hid hn3
          have W3_1 := Lib.hid (hown.le (base' := w.heap.size + 2) hz0)
          clear hown hn3
          have R1 := Lib.hid hr
          have O1 := Lib.hid (O0.out.trans ho)
          have hs1 := ho.1
          have hz1 : w.heap.size + 2 ≤ w1.heap.size := Nat.le_trans hz0 hs1
          have Z1 := Lib.hid ((ho.2 w.heap.size (by omega) (by omega)).trans Z0.out)
          have G1 := Lib.hid ((ho.2 (w.heap.size + 1) (by omega) (by omega)).trans G0.out)
          have W2_1 := Lib.hid (W2_0.out.only ho (by omega))
          clear hr ho R0 O0 Z0 G0 W2_0
          have f3 : w1.frozen? ⟨w.heap.size + 1, 3, none⟩ = false := Go.Joins.unfrozen_of_block G1.out 3
          have e0 : w1.cell? ⟨w.heap.size + 1, 0, none⟩ = some (.int .i64 x0) := Go.Joins.cell_of_block G1.out 0
          have e1 : w1.cell? ⟨w.heap.size + 1, 1, none⟩ = some (.int .i64 x1) := Go.Joins.cell_of_block G1.out 1
          have e2 : w1.cell? ⟨w.heap.size + 1, 2, none⟩ = some (.slice a2 n2 c2) := Go.Joins.cell_of_block G1.out 2
          have e3 : w1.cell? ⟨w.heap.size + 1, 3, none⟩ = some (.slice none 0 0) := Go.Joins.cell_of_block G1.out 3
          have g0 : w1.frozen? ⟨w.heap.size, 0, none⟩ = false := Go.Joins.unfrozen_of_block Z1.out 0
          have g1 : w1.frozen? ⟨w.heap.size, 1, none⟩ = false := Go.Joins.unfrozen_of_block Z1.out 1
          have g2 : w1.frozen? ⟨w.heap.size, 2, none⟩ = false := Go.Joins.unfrozen_of_block Z1.out 2
          have g3 : w1.frozen? ⟨w.heap.size, 3, none⟩ = false := Go.Joins.unfrozen_of_block Z1.out 3
          have hbc : ∀ u, (w1.setCell ⟨w.heap.size + 1, 3, none⟩ u).cell? ⟨db, 2, none⟩ = some (.bool true) := fun u => (R1.out.other (g := w.heap.size + 1) (i := 3) (by omega) (by omega) u).badCell.1
          have z0 : ∀ u, (w1.setCell ⟨w.heap.size + 1, 3, none⟩ u).cell? ⟨w.heap.size, 0, none⟩ = some (.int .i64 0) := fun u => Go.Joins.cell_of_block ((heap_setCell_other _ ⟨w.heap.size + 1, 3, none⟩ _ u (show w.heap.size ≠ w.heap.size + 1 by omega)).trans Z1.out) 0
          have z1 : ∀ u, (w1.setCell ⟨w.heap.size + 1, 3, none⟩ u).cell? ⟨w.heap.size, 1, none⟩ = some (.int .i64 0) := fun u => Go.Joins.cell_of_block ((heap_setCell_other _ ⟨w.heap.size + 1, 3, none⟩ _ u (show w.heap.size ≠ w.heap.size + 1 by omega)).trans Z1.out) 1
          have z2 : ∀ u, (w1.setCell ⟨w.heap.size + 1, 3, none⟩ u).cell? ⟨w.heap.size, 2, none⟩ = some (.slice none 0 0) := fun u => Go.Joins.cell_of_block ((heap_setCell_other _ ⟨w.heap.size + 1, 3, none⟩ _ u (show w.heap.size ≠ w.heap.size + 1 by omega)).trans Z1.out) 2
          have z3 : ∀ u, (w1.setCell ⟨w.heap.size + 1, 3, none⟩ u).cell? ⟨w.heap.size, 3, none⟩ = some (.slice none 0 0) := fun u => Go.Joins.cell_of_block ((heap_setCell_other _ ⟨w.heap.size + 1, 3, none⟩ _ u (show w.heap.size ≠ w.heap.size + 1 by omega)).trans Z1.out) 3
          go_wp2_with fail
          have q : (((((w1.setCell ⟨w.heap.size + 1, 3, none⟩ (.slice a3 n3 c3)).setCell ⟨w.heap.size, 0, none⟩ (.int .i64 0)).setCell ⟨w.heap.size, 1, none⟩ (.int .i64 0)).setCell ⟨w.heap.size, 2, none⟩ (.slice none 0 0)).setCell ⟨w.heap.size, 3, none⟩ (.slice none 0 0)).heap[w.heap.size]? = some (.cells #[.int .i64 0, .int .i64 0, .slice none 0 0, .slice none 0 0] 34 (0, 0)) := (Go.Joins.block_setCell (i := 3) (Go.Joins.block_setCell (i := 2) (Go.Joins.block_setCell (i := 1) (Go.Joins.block_setCell (i := 0) ((heap_setCell_other _ ⟨w.heap.size + 1, 3, none⟩ _ (.slice a3 n3 c3) (show w.heap.size ≠ w.heap.size + 1 by omega)).trans Z1.out) (.int .i64 0)) (.int .i64 0)) (.slice none 0 0)) (.slice none 0 0))
          have r_ : Ref (((((w1.setCell ⟨w.heap.size + 1, 3, none⟩ (.slice a3 n3 c3)).setCell ⟨w.heap.size, 0, none⟩ (.int .i64 0)).setCell ⟨w.heap.size, 1, none⟩ (.int .i64 0)).setCell ⟨w.heap.size, 2, none⟩ (.slice none 0 0)).setCell ⟨w.heap.size, 3, none⟩ (.slice none 0 0)) M db _ l_t := (((((R1.out.other (g := w.heap.size + 1) (i := 3) (by omega) (by omega) (.slice a3 n3 c3)).other (g := w.heap.size) (i := 0) hM (by omega) (.int .i64 0)).other (g := w.heap.size) (i := 1) hM (by omega) (.int .i64 0)).other (g := w.heap.size) (i := 2) hM (by omega) (.slice none 0 0)).other (g := w.heap.size) (i := 3) hM (by omega) (.slice none 0 0))
          have o_ : Only db w (((((w1.setCell ⟨w.heap.size + 1, 3, none⟩ (.slice a3 n3 c3)).setCell ⟨w.heap.size, 0, none⟩ (.int .i64 0)).setCell ⟨w.heap.size, 1, none⟩ (.int .i64 0)).setCell ⟨w.heap.size, 2, none⟩ (.slice none 0 0)).setCell ⟨w.heap.size, 3, none⟩ (.slice none 0 0)) := (((((O1.out.new (g := w.heap.size + 1) (i := 3) (by omega) (.slice a3 n3 c3)).new (g := w.heap.size) (i := 0) (Nat.le_refl _) (.int .i64 0)).new (g := w.heap.size) (i := 1) (Nat.le_refl _) (.int .i64 0)).new (g := w.heap.size) (i := 2) (Nat.le_refl _) (.slice none 0 0)).new (g := w.heap.size) (i := 3) (Nat.le_refl _) (.slice none 0 0))
          have v2_ := (((((W2_1.out.only (Only.set (w.heap.size + 1) _ 3 (.slice a3 n3 c3)) (by omega)).only (Only.set w.heap.size _ 0 (.int .i64 0)) (by omega)).only (Only.set w.heap.size _ 1 (.int .i64 0)) (by omega)).only (Only.set w.heap.size _ 2 (.slice none 0 0)) (by omega)).only (Only.set w.heap.size _ 3 (.slice none 0 0)) (by omega))
          have v3_ := (((((W3_1.out.only (Only.set (w.heap.size + 1) _ 3 (.slice a3 n3 c3)) (by omega)).only (Only.set w.heap.size _ 0 (.int .i64 0)) (by omega)).only (Only.set w.heap.size _ 1 (.int .i64 0)) (by omega)).only (Only.set w.heap.size _ 2 (.slice none 0 0)) (by omega)).only (Only.set w.heap.size _ 3 (.slice none 0 0)) (by omega))
          generalize (((((w1.setCell ⟨w.heap.size + 1, 3, none⟩ (.slice a3 n3 c3)).setCell ⟨w.heap.size, 0, none⟩ (.int .i64 0)).setCell ⟨w.heap.size, 1, none⟩ (.int .i64 0)).setCell ⟨w.heap.size, 2, none⟩ (.slice none 0 0)).setCell ⟨w.heap.size, 3, none⟩ (.slice none 0 0)) = w99 at q r_ o_ v2_ v3_ ⊢
          have d0 : w99.cell? ⟨w.heap.size, 0, none⟩ = some (.int .i64 0) := Go.Joins.cell_of_block q 0
          have d1 : w99.cell? ⟨w.heap.size, 1, none⟩ = some (.int .i64 0) := Go.Joins.cell_of_block q 1
          have d2 : w99.cell? ⟨w.heap.size, 2, none⟩ = some (.slice none 0 0) := Go.Joins.cell_of_block q 2
          have d3 : w99.cell? ⟨w.heap.size, 3, none⟩ = some (.slice none 0 0) := Go.Joins.cell_of_block q 3
          have hS := HS.out
          try simp only [if_true] at hS
          subst hS
          exact bodyPost_ret (v := .agg #[.int .i64 0, .int .i64 0, .slice none 0 0, .slice none 0 0]) (by simp [results, Tryz.results93, go_sem, d0, d1, d2, d3]) rfl ⟨⟨0, 0, none, [], 0, none, [], 0⟩, rfl, rfl, ⟨FasOwn.nil _ _, VasOwn.nil _ _⟩, r_, o_⟩
      | false =>
        obtain rfl : m = 0 := hend.resolve_left (by simp)
        have N2 := Lib.hid (show acc.map Fa.plain = x2 by have h1 := HTO.out; have h2 := HTOT.out; simp only [if_false, Bool.false_eq_true] at h2; exact h1.trans h2)
        clear hend HTO HTOT
        go_wp2_with fail
        refine (rvalues_any M db false l_t x3 b_3 l_3 wr HH3.out R0.out HWF.out).mono ?_
        rintro e w1 ⟨a3, n3, c3, hn3, rfl, hown, hr, ho⟩
        have N3 := Lib.hid hn3
        have W3_1 := Lib.hid (hown.le (base' := w.heap.size + 2) hz0)
        clear hown hn3
        have R1 := Lib.hid hr
        have O1 := Lib.hid (O0.out.trans ho)
        have hs1 := ho.1
        have hz1 : w.heap.size + 2 ≤ w1.heap.size := Nat.le_trans hz0 hs1
        have Z1 := Lib.hid ((ho.2 w.heap.size (by omega) (by omega)).trans Z0.out)
        have G1 := Lib.hid ((ho.2 (w.heap.size + 1) (by omega) (by omega)).trans G0.out)
        have W2_1 := Lib.hid (W2_0.out.only ho (by omega))
        clear hr ho R0 O0 Z0 G0 W2_0
        have f3 : w1.frozen? ⟨w.heap.size + 1, 3, none⟩ = false := Go.Joins.unfrozen_of_block G1.out 3
        have e0 : w1.cell? ⟨w.heap.size + 1, 0, none⟩ = some (.int .i64 x0) := Go.Joins.cell_of_block G1.out 0
        have e1 : w1.cell? ⟨w.heap.size + 1, 1, none⟩ = some (.int .i64 x1) := Go.Joins.cell_of_block G1.out 1
        have e2 : w1.cell? ⟨w.heap.size + 1, 2, none⟩ = some (.slice a2 n2 c2) := Go.Joins.cell_of_block G1.out 2
        have e3 : w1.cell? ⟨w.heap.size + 1, 3, none⟩ = some (.slice none 0 0) := Go.Joins.cell_of_block G1.out 3
        have g0 : w1.frozen? ⟨w.heap.size, 0, none⟩ = false := Go.Joins.unfrozen_of_block Z1.out 0
        have g1 : w1.frozen? ⟨w.heap.size, 1, none⟩ = false := Go.Joins.unfrozen_of_block Z1.out 1
        have g2 : w1.frozen? ⟨w.heap.size, 2, none⟩ = false := Go.Joins.unfrozen_of_block Z1.out 2
        have g3 : w1.frozen? ⟨w.heap.size, 3, none⟩ = false := Go.Joins.unfrozen_of_block Z1.out 3
        have hbc : ∀ u, (w1.setCell ⟨w.heap.size + 1, 3, none⟩ u).cell? ⟨db, 2, none⟩ = some (.bool b_3) := fun u => (R1.out.other (g := w.heap.size + 1) (i := 3) (by omega) (by omega) u).badCell.1
        have z0 : ∀ u, (w1.setCell ⟨w.heap.size + 1, 3, none⟩ u).cell? ⟨w.heap.size, 0, none⟩ = some (.int .i64 0) := fun u => Go.Joins.cell_of_block ((heap_setCell_other _ ⟨w.heap.size + 1, 3, none⟩ _ u (show w.heap.size ≠ w.heap.size + 1 by omega)).trans Z1.out) 0
        have z1 : ∀ u, (w1.setCell ⟨w.heap.size + 1, 3, none⟩ u).cell? ⟨w.heap.size, 1, none⟩ = some (.int .i64 0) := fun u => Go.Joins.cell_of_block ((heap_setCell_other _ ⟨w.heap.size + 1, 3, none⟩ _ u (show w.heap.size ≠ w.heap.size + 1 by omega)).trans Z1.out) 1
        have z2 : ∀ u, (w1.setCell ⟨w.heap.size + 1, 3, none⟩ u).cell? ⟨w.heap.size, 2, none⟩ = some (.slice none 0 0) := fun u => Go.Joins.cell_of_block ((heap_setCell_other _ ⟨w.heap.size + 1, 3, none⟩ _ u (show w.heap.size ≠ w.heap.size + 1 by omega)).trans Z1.out) 2
        have z3 : ∀ u, (w1.setCell ⟨w.heap.size + 1, 3, none⟩ u).cell? ⟨w.heap.size, 3, none⟩ = some (.slice none 0 0) := fun u => Go.Joins.cell_of_block ((heap_setCell_other _ ⟨w.heap.size + 1, 3, none⟩ _ u (show w.heap.size ≠ w.heap.size + 1 by omega)).trans Z1.out) 3
        cases b_3 with
        | true =>
          go_wp2_with fail
          have q : (((((w1.setCell ⟨w.heap.size + 1, 3, none⟩ (.slice a3 n3 c3)).setCell ⟨w.heap.size, 0, none⟩ (.int .i64 0)).setCell ⟨w.heap.size, 1, none⟩ (.int .i64 0)).setCell ⟨w.heap.size, 2, none⟩ (.slice none 0 0)).setCell ⟨w.heap.size, 3, none⟩ (.slice none 0 0)).heap[w.heap.size]? = some (.cells #[.int .i64 0, .int .i64 0, .slice none 0 0, .slice none 0 0] 34 (0, 0)) := (Go.Joins.block_setCell (i := 3) (Go.Joins.block_setCell (i := 2) (Go.Joins.block_setCell (i := 1) (Go.Joins.block_setCell (i := 0) ((heap_setCell_other _ ⟨w.heap.size + 1, 3, none⟩ _ (.slice a3 n3 c3) (show w.heap.size ≠ w.heap.size + 1 by omega)).trans Z1.out) (.int .i64 0)) (.int .i64 0)) (.slice none 0 0)) (.slice none 0 0))
          have r_ : Ref (((((w1.setCell ⟨w.heap.size + 1, 3, none⟩ (.slice a3 n3 c3)).setCell ⟨w.heap.size, 0, none⟩ (.int .i64 0)).setCell ⟨w.heap.size, 1, none⟩ (.int .i64 0)).setCell ⟨w.heap.size, 2, none⟩ (.slice none 0 0)).setCell ⟨w.heap.size, 3, none⟩ (.slice none 0 0)) M db _ l_3 := (((((R1.out.other (g := w.heap.size + 1) (i := 3) (by omega) (by omega) (.slice a3 n3 c3)).other (g := w.heap.size) (i := 0) hM (by omega) (.int .i64 0)).other (g := w.heap.size) (i := 1) hM (by omega) (.int .i64 0)).other (g := w.heap.size) (i := 2) hM (by omega) (.slice none 0 0)).other (g := w.heap.size) (i := 3) hM (by omega) (.slice none 0 0))
          have o_ : Only db w (((((w1.setCell ⟨w.heap.size + 1, 3, none⟩ (.slice a3 n3 c3)).setCell ⟨w.heap.size, 0, none⟩ (.int .i64 0)).setCell ⟨w.heap.size, 1, none⟩ (.int .i64 0)).setCell ⟨w.heap.size, 2, none⟩ (.slice none 0 0)).setCell ⟨w.heap.size, 3, none⟩ (.slice none 0 0)) := (((((O1.out.new (g := w.heap.size + 1) (i := 3) (by omega) (.slice a3 n3 c3)).new (g := w.heap.size) (i := 0) (Nat.le_refl _) (.int .i64 0)).new (g := w.heap.size) (i := 1) (Nat.le_refl _) (.int .i64 0)).new (g := w.heap.size) (i := 2) (Nat.le_refl _) (.slice none 0 0)).new (g := w.heap.size) (i := 3) (Nat.le_refl _) (.slice none 0 0))
          have v2_ := (((((W2_1.out.only (Only.set (w.heap.size + 1) _ 3 (.slice a3 n3 c3)) (by omega)).only (Only.set w.heap.size _ 0 (.int .i64 0)) (by omega)).only (Only.set w.heap.size _ 1 (.int .i64 0)) (by omega)).only (Only.set w.heap.size _ 2 (.slice none 0 0)) (by omega)).only (Only.set w.heap.size _ 3 (.slice none 0 0)) (by omega))
          have v3_ := (((((W3_1.out.only (Only.set (w.heap.size + 1) _ 3 (.slice a3 n3 c3)) (by omega)).only (Only.set w.heap.size _ 0 (.int .i64 0)) (by omega)).only (Only.set w.heap.size _ 1 (.int .i64 0)) (by omega)).only (Only.set w.heap.size _ 2 (.slice none 0 0)) (by omega)).only (Only.set w.heap.size _ 3 (.slice none 0 0)) (by omega))
          generalize (((((w1.setCell ⟨w.heap.size + 1, 3, none⟩ (.slice a3 n3 c3)).setCell ⟨w.heap.size, 0, none⟩ (.int .i64 0)).setCell ⟨w.heap.size, 1, none⟩ (.int .i64 0)).setCell ⟨w.heap.size, 2, none⟩ (.slice none 0 0)).setCell ⟨w.heap.size, 3, none⟩ (.slice none 0 0)) = w99 at q r_ o_ v2_ v3_ ⊢
          have d0 : w99.cell? ⟨w.heap.size, 0, none⟩ = some (.int .i64 0) := Go.Joins.cell_of_block q 0
          have d1 : w99.cell? ⟨w.heap.size, 1, none⟩ = some (.int .i64 0) := Go.Joins.cell_of_block q 1
          have d2 : w99.cell? ⟨w.heap.size, 2, none⟩ = some (.slice none 0 0) := Go.Joins.cell_of_block q 2
          have d3 : w99.cell? ⟨w.heap.size, 3, none⟩ = some (.slice none 0 0) := Go.Joins.cell_of_block q 3
          have hS := HS.out
          try simp only [if_true] at hS
          subst hS
          exact bodyPost_ret (v := .agg #[.int .i64 0, .int .i64 0, .slice none 0 0, .slice none 0 0]) (by simp [results, Tryz.results93, go_sem, d0, d1, d2, d3]) rfl ⟨⟨0, 0, none, [], 0, none, [], 0⟩, rfl, rfl, ⟨FasOwn.nil _ _, VasOwn.nil _ _⟩, r_, o_⟩
        | false =>
          go_wp2_with fail
          have q : (((((w1.setCell ⟨w.heap.size + 1, 3, none⟩ (.slice a3 n3 c3)).setCell ⟨w.heap.size, 0, none⟩ (.int .i64 x0)).setCell ⟨w.heap.size, 1, none⟩ (.int .i64 x1)).setCell ⟨w.heap.size, 2, none⟩ (.slice a2 n2 c2)).setCell ⟨w.heap.size, 3, none⟩ (.slice a3 n3 c3)).heap[w.heap.size]? = some (.cells #[.int .i64 x0, .int .i64 x1, .slice a2 n2 c2, .slice a3 n3 c3] 34 (0, 0)) := (Go.Joins.block_setCell (i := 3) (Go.Joins.block_setCell (i := 2) (Go.Joins.block_setCell (i := 1) (Go.Joins.block_setCell (i := 0) ((heap_setCell_other _ ⟨w.heap.size + 1, 3, none⟩ _ (.slice a3 n3 c3) (show w.heap.size ≠ w.heap.size + 1 by omega)).trans Z1.out) (.int .i64 x0)) (.int .i64 x1)) (.slice a2 n2 c2)) (.slice a3 n3 c3))
          have r_ : Ref (((((w1.setCell ⟨w.heap.size + 1, 3, none⟩ (.slice a3 n3 c3)).setCell ⟨w.heap.size, 0, none⟩ (.int .i64 x0)).setCell ⟨w.heap.size, 1, none⟩ (.int .i64 x1)).setCell ⟨w.heap.size, 2, none⟩ (.slice a2 n2 c2)).setCell ⟨w.heap.size, 3, none⟩ (.slice a3 n3 c3)) M db _ l_3 := (((((R1.out.other (g := w.heap.size + 1) (i := 3) (by omega) (by omega) (.slice a3 n3 c3)).other (g := w.heap.size) (i := 0) hM (by omega) (.int .i64 x0)).other (g := w.heap.size) (i := 1) hM (by omega) (.int .i64 x1)).other (g := w.heap.size) (i := 2) hM (by omega) (.slice a2 n2 c2)).other (g := w.heap.size) (i := 3) hM (by omega) (.slice a3 n3 c3))
          have o_ : Only db w (((((w1.setCell ⟨w.heap.size + 1, 3, none⟩ (.slice a3 n3 c3)).setCell ⟨w.heap.size, 0, none⟩ (.int .i64 x0)).setCell ⟨w.heap.size, 1, none⟩ (.int .i64 x1)).setCell ⟨w.heap.size, 2, none⟩ (.slice a2 n2 c2)).setCell ⟨w.heap.size, 3, none⟩ (.slice a3 n3 c3)) := (((((O1.out.new (g := w.heap.size + 1) (i := 3) (by omega) (.slice a3 n3 c3)).new (g := w.heap.size) (i := 0) (Nat.le_refl _) (.int .i64 x0)).new (g := w.heap.size) (i := 1) (Nat.le_refl _) (.int .i64 x1)).new (g := w.heap.size) (i := 2) (Nat.le_refl _) (.slice a2 n2 c2)).new (g := w.heap.size) (i := 3) (Nat.le_refl _) (.slice a3 n3 c3))
          have v2_ := (((((W2_1.out.only (Only.set (w.heap.size + 1) _ 3 (.slice a3 n3 c3)) (by omega)).only (Only.set w.heap.size _ 0 (.int .i64 x0)) (by omega)).only (Only.set w.heap.size _ 1 (.int .i64 x1)) (by omega)).only (Only.set w.heap.size _ 2 (.slice a2 n2 c2)) (by omega)).only (Only.set w.heap.size _ 3 (.slice a3 n3 c3)) (by omega))
          have v3_ := (((((W3_1.out.only (Only.set (w.heap.size + 1) _ 3 (.slice a3 n3 c3)) (by omega)).only (Only.set w.heap.size _ 0 (.int .i64 x0)) (by omega)).only (Only.set w.heap.size _ 1 (.int .i64 x1)) (by omega)).only (Only.set w.heap.size _ 2 (.slice a2 n2 c2)) (by omega)).only (Only.set w.heap.size _ 3 (.slice a3 n3 c3)) (by omega))
          generalize (((((w1.setCell ⟨w.heap.size + 1, 3, none⟩ (.slice a3 n3 c3)).setCell ⟨w.heap.size, 0, none⟩ (.int .i64 x0)).setCell ⟨w.heap.size, 1, none⟩ (.int .i64 x1)).setCell ⟨w.heap.size, 2, none⟩ (.slice a2 n2 c2)).setCell ⟨w.heap.size, 3, none⟩ (.slice a3 n3 c3)) = w99 at q r_ o_ v2_ v3_ ⊢
          have d0 : w99.cell? ⟨w.heap.size, 0, none⟩ = some (.int .i64 x0) := Go.Joins.cell_of_block q 0
          have d1 : w99.cell? ⟨w.heap.size, 1, none⟩ = some (.int .i64 x1) := Go.Joins.cell_of_block q 1
          have d2 : w99.cell? ⟨w.heap.size, 2, none⟩ = some (.slice a2 n2 c2) := Go.Joins.cell_of_block q 2
          have d3 : w99.cell? ⟨w.heap.size, 3, none⟩ = some (.slice a3 n3 c3) := Go.Joins.cell_of_block q 3
          have hS := HS.out
          try simp only [if_false, Bool.false_eq_true] at hS
          subst hS
          have v29 := v2_.le (base' := w.heap.size) (by omega)
          obtain rfl := v29.len
          obtain rfl := N3.out
          have v39 := v3_.le (base' := w.heap.size) (by omega)
          exact bodyPost_ret (v := .agg #[.int .i64 x0, .int .i64 x1, .slice a2 acc.length c2, .slice a3 x3.length c3]) (by simp [results, Tryz.results93, go_sem, d0, d1, d2, d3]) rfl ⟨⟨x0, x1, a2, acc, c2, a3, x3, c3⟩, by simp [Rp.plain, N2.out], rfl, ⟨v29, v39⟩, r_, o_⟩
    · obtain ⟨rfl, m', rfl⟩ : b = false ∧ ∃ m', m = m' + 1 := by
        refine ⟨by cases b with
          | true => exact absurd (Or.inl rfl) hend
          | false => rfl, m - 1, by omega⟩
      have j1 : (0 : Int) < (m' : Int) + 1 := by omega
      clear hend
      have hsh := factS_shrinks false l HWF.out
      have HE2 := HE.out
      rw [rowS, if_neg (by simp)] at HE2
      obtain ⟨⟨x, b1, l1⟩, hx⟩ : ∃ r, factS false l = r := ⟨_, rfl⟩
      have hone := rrFact_any M db false l (x, b1, l1) wr hx R0.out HWF.out
      rw [hx] at hsh HE2
      dsimp only at hsh HE2
      have H2 := Lib.hid HE2
      have HSH := Lib.hid hsh
      have HONE := Lib.hid hone
      clear HE2 hsh hone HE hx
      go_wp2_with fail
      refine HONE.out.mono ?_
      rintro e w1 ⟨⟨id, ty, ao, args, cap⟩, hp, he, hav, hr1, ho1⟩
      unfold faVal at he
      dsimp only at he hav hr1
      obtain ⟨nn, hn⟩ : ∃ nn, args.length = nn := ⟨_, rfl⟩
      rw [hn] at he hav
      subst he
      have HP := Lib.hid hp
      have HNN := Lib.hid hn
      have HLT := Lib.hid (show ∀ f ∈ acc, ∀ k, (Value.slice f.ao f.args.length f.cap).ownBlock = some k → k < wr.heap.size from fun f hf k hk => ((W2_0.out.own f hf).lt k hk).2)
      have HAL := Lib.hid (show ∀ k, (Value.slice ao nn cap).ownBlock = some k → wr.heap.size ≤ k from fun k hk => (hav.lt k hk).1)
      have hA := (Below.refl w1.heap.size w1).alloc (Nat.le_refl _) (.cells #[.int .i64 id, .int .i64 ty, .slice ao nn cap] 27)
      have W2_1 := Lib.hid ((W2_0.out.only ho1 (by omega)).below hA (Nat.le_refl _))
      have HAV := Lib.hid ((hav.le (base' := w.heap.size + 2) hz0).below hA (Nat.le_refl _))
      have G1 := Lib.hid ((hA.block (w.heap.size + 1) (Nat.lt_of_lt_of_le (by omega) ho1.1)).trans ((ho1.2 (w.heap.size + 1) (by omega) (by omega)).trans G0.out))
      have Z1 := Lib.hid ((hA.block w.heap.size (Nat.lt_of_lt_of_le (by omega) ho1.1)).trans ((ho1.2 w.heap.size (by omega) (by omega)).trans Z0.out))
      have R1 := Lib.hid (hr1.below hA)
      have O1 := Lib.hid ((O0.out.trans ho1).alloc (.cells #[.int .i64 id, .int .i64 ty, .slice ao nn cap] 27))
      have hzA : w.heap.size + 2 ≤ (w1.alloc (.cells #[.int .i64 id, .int .i64 ty, .slice ao nn cap] 27)).heap.size := Nat.le_trans hz0 (Nat.le_trans ho1.1 hA.size)
      have hzB : ∀ o, w.heap.size + 2 ≤ ((w1.alloc (.cells #[.int .i64 id, .int .i64 ty, .slice ao nn cap] 27)).alloc o).heap.size := fun o => by rw [World.size_alloc]; omega
      have e2 : (w1.alloc (.cells #[.int .i64 id, .int .i64 ty, .slice ao nn cap] 27)).cell? ⟨w.heap.size + 1, 2, none⟩ = some (.slice a2 n2 c2) := Go.Joins.cell_of_block G1.out 2
      clear hp hn hav hr1 ho1 hA HONE R0 O0 Z0 G0 W2_0 d1
      go_wp2_with (at_builtin; refine wpList_append_rows (sub := noSub) Tryz.underlying32 infoFa rfl (by decide) faCells_len faCells_one rfl (.tmp 28) (.tmp 30) rfl (w.heap.size + 2) _ n2 (acc.flatMap faCells) rfl (W2_1.out.row.alloc _) _ 1 1 [⟨id, ty, ao, args, cap⟩] rfl rfl ((w1.alloc (.cells #[.int .i64 id, .int .i64 ty, .slice ao nn cap] 27)).heap.size + 1) (by have hRI := rowsIn_block (B := (w1.alloc (.cells #[.int .i64 id, .int .i64 ty, .slice ao nn cap] 27)).heap.size + 1) (sub := noSub) faCells_len [⟨id, ty, ao, args, cap⟩] _ (heap_alloc_new (w1.alloc (.cells #[.int .i64 id, .int .i64 ty, .slice ao nn cap] 27)) (.cells #[.int .i64 id, .int .i64 ty, .slice ao nn cap] 27)) (by simp [faCells, HNN.out]) (by omega) (fun _ _ => trivial); first | exact hRI | (rw [World.size_alloc] at hRI; simpa using hRI)) (by simp) (by have := W2_1.out.len; unfold maxLen; omega) (by have := W2_1.out.len; omega) (hzB _) ?_)
      intro v2 w2 h2 hg2 _
      generalize w1.alloc (.cells #[.int .i64 id, .int .i64 ty, .slice ao nn cap] 27) = wA at W2_1 HAV G1 Z1 R1 O1 hzA hzB e2 hg2
      have hB := (Below.refl wA.heap.size wA).alloc (Nat.le_refl _) (.cells #[.int .i64 id, .int .i64 ty, .slice ao nn cap] 27)
      have hrowB := W2_1.out.row.alloc (.cells #[.int .i64 id, .int .i64 ty, .slice ao nn cap] 27)
      have hne : ∀ g, (Value.slice a2 n2 c2).ownBlock = some g → w.heap.size + 2 ≤ g := fun g hg => (W2_1.out.row.lt g hg).1
      obtain ⟨a9, c9, hv9⟩ := row_slice h2
      subst hv9
      have hgb : w2.heap[w.heap.size + 1]? = some (.cells #[.int .i64 x0, .int .i64 x1, .slice a2 n2 c2, .slice none 0 0] 34 (0, 0)) := (hg2.block (w.heap.size + 1) (by rw [World.size_alloc]; omega) (fun e => by have := hne _ e.symm; omega)).trans ((hB.block _ (by omega)).trans G1.out)
      have hzb : w2.heap[w.heap.size]? = some (.cells #[.int .i64 0, .int .i64 0, .slice none 0 0, .slice none 0 0] 34 (0, 0)) := (hg2.block w.heap.size (by rw [World.size_alloc]; omega) (fun e => by have := hne _ e.symm; omega)).trans ((hB.block _ (by omega)).trans Z1.out)
      have R2 := Lib.hid ((R1.out.below hB).grown hg2 (fun g hg => by have := hne g hg; omega))
      have O2 := Lib.hid ((O1.out.alloc (.cells #[.int .i64 id, .int .i64 ty, .slice ao nn cap] 27)).grown hg2 (fun g hg => by have := hne g hg; omega))
      have hz2 : w.heap.size + 2 ≤ w2.heap.size := Nat.le_trans (hzB (.cells #[.int .i64 id, .int .i64 ty, .slice ao nn cap] 27)) hg2.size
      have HF2 := Lib.hid (show ∀ f ∈ acc, faOwn w2 (w.heap.size + 2) f from fun f hf => by
        have h := World.ownsRow.alloc (W2_1.out.own f hf) (.cells #[.int .i64 id, .int .i64 ty, .slice ao nn cap] 27)
        exact World.ownsRow.kept h hg2 (own_apart h hrowB (by decide)))
      have HA2 := Lib.hid (show VasOwn w2 (w.heap.size + 2) ao nn cap args from by
        have h := World.ownsRow.alloc HAV.out (.cells #[.int .i64 id, .int .i64 ty, .slice ao nn cap] 27)
        exact World.ownsRow.kept h hg2 (own_apart h hrowB (by decide)))
      have H3 := Lib.hid h2
      have HSE := Lib.hid W2_1.out.sep
      have HLN := Lib.hid W2_1.out.len
      have G2 := Lib.hid hgb
      have Z2 := Lib.hid hzb
      clear e2
      have e2 : w2.cell? ⟨w.heap.size + 1, 2, none⟩ = some (.slice a2 n2 c2) := Go.Joins.cell_of_block hgb 2
      have f2 : w2.frozen? ⟨w.heap.size + 1, 2, none⟩ = false := Go.Joins.unfrozen_of_block hgb 2
      clear hB hrowB hne h2 hg2 hgb hzb W2_1 HAV R1 O1 G1 Z1
      go_wp2_with fail
      have q : (w2.setCell ⟨w.heap.size + 1, 2, none⟩ (.slice a9 (n2 + 1) c9)).heap[w.heap.size + 1]? = some (.cells #[.int .i64 x0, .int .i64 x1, .slice a9 (n2 + 1) c9, .slice none 0 0] 34 (0, 0)) := Go.Joins.block_setCell (i := 2) G2.out (.slice a9 (n2 + 1) c9)
      go_roundw
      case rel =>
        refine ⟨m', acc ++ [⟨id, ty, ao, args, cap⟩], b1, l1, a9, n2 + 1, c9, by go_num, ?_, by simp; omega, ⟨by simp [HLN.out], ?_, ?_, ?_⟩, q, (heap_setCell_other _ ⟨w.heap.size + 1, 2, none⟩ _ _ (show w.heap.size ≠ w.heap.size + 1 by omega)).trans Z2.out, R2.out.other (by omega) (by omega) _, O2.out.new (by omega) _, by simpa using hz2, HSH.out.1⟩
        · rw [List.map_append, List.append_assoc, ← H2.out, ← HP.out]; rfl
        · rw [List.flatMap_append]; exact own_only' H3.out (Only.set (w.heap.size + 1) _ 2 _) (by omega)
        · intro f hf
          rcases List.mem_append.1 hf with hf | hf
          · exact own_only' (HF2.out f hf) (Only.set (w.heap.size + 1) _ 2 _) (by omega)
          · rw [List.mem_singleton.1 hf]
            unfold faOwn
            dsimp only
            rw [HNN.out]
            exact HA2.out.only (Only.set (w.heap.size + 1) _ 2 _) (by omega)
        · rw [List.pairwise_append]
          refine ⟨HSE.out, List.pairwise_singleton _ _, fun f hf g hg => ?_⟩
          rw [List.mem_singleton.1 hg]
          refine sepF_old (HF2.out f hf) (HLT.out f hf) ?_
          dsimp only
          rw [HNN.out]
          exact HAL.out
      case measure => simp [intOf]
end Go.Proofs.YtiggpcmikhojmaaGreatDoor
