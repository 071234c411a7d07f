/- LentReply, KeptReply, LentEntry, KeptEntry: things that are lent are found as they were, as long as nobody writes behind their ends. Conditions: they lie as their reading says. -/
import Derived.Test.YtglgcjkglhlggaaGreatDoorGLetterPuts13
import Derived.Test.YtglgcjkglhlggaaGreatDoorGLetterPuts1
import Derived.Test.YtglgcjkglhlggaaGreatDoorGLetterPuts12
import Derived.Test.YtglgcjkglhlggaaGreatDoorGLetterPuts0
import Derived.Maps.AppendAt
set_option linter.unusedVariables false
set_option linter.unusedSimpArgs false
namespace Go.Proofs.YtglgcjkglhlggaaGreatDoor
open Go.RowKit
set_option maxRecDepth 20000
theorem LentV.blocks {w w' : World} {B g : Nat} {xs : List Va} (h : LentV w B g xs) (hs : ∀ g, B ≤ g → g < w.heap.size → w'.heap[g]? = w.heap[g]?) : LentV w' B g xs := own_blocks' h hs
theorem LentI.blocks {w w' : World} {B g : Nat} {xs : List Int} (h : LentI w B g xs) (hs : ∀ g, B ≤ g → g < w.heap.size → w'.heap[g]? = w.heap[g]?) : LentI w' B g xs := own_blocks' h hs
theorem keptI_at (ao : Option Addr) (n cap c2 g B : Nat) (go : Option Addr) (xs : List Int) (w : World) (B2 : Nat) (hg : go = some ⟨g, 0, none⟩) (hc : c2 = n + 12) (hn : xs.length = n) (hx : NumsIn w B2 ao xs) (hB : B2 ≤ w.heap.size) (hL : LentI w B g xs) (hl : n ≤ 1099511627776) :
    Calls Tryz.prog 41 #[.slice go n c2, .slice ao n cap] w fun e w' => e = .returned (.bool true) ∧ Below w.heap.size w w' := by
  subst hg hc
  exact keptI_any ao n cap g B xs w hn (RowsIn.mono noSub_rising hx hB) hL hl
set_option maxHeartbeats 4000000 in
theorem lentEn_any (x0 x1 x2 x3 ck : Int) (text : ByteArray) (ao : Option Addr) (cap : Nat) (args : List Va) (num : Int) (vo : Option Addr) (vc : Nat) (vs : List Int) (w : World) (hx : ValsIn w w.heap.size ao args) (hy : NumsIn w w.heap.size vo vs) (hao : ao = none → cap = 0) (hvo : vo = none → vc = 0) (hl : args.length ≤ 1099511627776) (hl2 : vs.length ≤ 1099511627776) :
    Calls Tryz.prog 59 #[.agg #[.int .i64 x0, .int .u8 x1, .int .i64 x2, .int .i64 x3, .int .u8 ck, .string text, .slice ao args.length cap, .int .i64 num, .slice vo vs.length vc]] w fun e w' => ∃ (g1 g2 : Nat), e = .returned (.agg #[.int .i64 x0, .int .u8 x1, .int .i64 x2, .int .i64 x3, .int .u8 ck, .string text, .slice (some ⟨g1, 0, none⟩) args.length (args.length + 12), .int .i64 num, .slice (some ⟨g2, 0, none⟩) vs.length (vs.length + 12)]) ∧ LentV w' w.heap.size g1 args ∧ LentI w' w.heap.size g2 vs ∧ Below w.heap.size w w' := by
  obtain ⟨hb2, h1, h2, hz2⟩ := alloc2_facts w #[.int .i64 x0, .int .u8 x1, .int .i64 x2, .int .i64 x3, .int .u8 ck, .string text, .slice ao args.length cap, .int .i64 num, .slice vo vs.length vc] #[.int .i64 0, .int .u8 0, .int .i64 0, .int .i64 0, .int .u8 0, .string ⟨#[]⟩, .slice none 0 0, .int .i64 0, .slice none 0 0] 55 55
  have HX := Lib.hid hx
  have HY := Lib.hid hy
  have HAO := Lib.hid hao
  have HVO := Lib.hid hvo
  clear hx hy hao hvo
  have HB2 := Lib.hid hb2
  have H1 := Lib.hid h1
  have H2 := Lib.hid h2
  have HZ := Lib.hid hz2
  clear hb2 h1 h2 hz2
  go_enter Tryz.func59, Tryz.ntmps59
  go_wp2_with fail
  have hb2 := HB2.out
  have h1 := H1.out
  have h2 := H2.out
  have hz2 := HZ.out
  generalize ((w.alloc (.cells #[.int .i64 x0, .int .u8 x1, .int .i64 x2, .int .i64 x3, .int .u8 ck, .string text, .slice ao args.length cap, .int .i64 num, .slice vo vs.length vc] 55)).alloc (.cells #[.int .i64 0, .int .u8 0, .int .i64 0, .int .i64 0, .int .u8 0, .string ⟨#[]⟩, .slice none 0 0, .int .i64 0, .slice none 0 0] 55)) = w2 at hb2 h1 h2 hz2 ⊢
  have H1 := Lib.hid h1
  have H2 := Lib.hid h2
  have HZ := Lib.hid hz2
  clear h1 h2 hz2 HB2
  refine (lentC_any ck text num ao args.length cap args w2 rfl (RowsIn.mono noSub_rising (RowsIn.below noSub_kept HX.out hb2 (Nat.le_refl _)) hb2.size) HAO.out hl).mono ?_
  rintro e w3 ⟨g1, rfl, hg1, hL, hb3⟩
  have k1 := (hb3.block w.heap.size (by have := HZ.out; omega)).trans H1.out
  have k2 := (hb3.block (w.heap.size + 1) (by have := HZ.out; omega)).trans H2.out
  have c0 : w3.cell? ⟨w.heap.size, 0, none⟩ = some (.int .i64 x0) := Go.Joins.cell_of_block k1 0
  have c1 : w3.cell? ⟨w.heap.size, 1, none⟩ = some (.int .u8 x1) := Go.Joins.cell_of_block k1 1
  have c2 : w3.cell? ⟨w.heap.size, 2, none⟩ = some (.int .i64 x2) := Go.Joins.cell_of_block k1 2
  have c3 : w3.cell? ⟨w.heap.size, 3, none⟩ = some (.int .i64 x3) := Go.Joins.cell_of_block k1 3
  have c4 : w3.cell? ⟨w.heap.size, 4, none⟩ = some (.int .u8 ck) := Go.Joins.cell_of_block k1 4
  have c5 : w3.cell? ⟨w.heap.size, 5, none⟩ = some (.string text) := Go.Joins.cell_of_block k1 5
  have c6 : w3.cell? ⟨w.heap.size, 6, none⟩ = some (.slice ao args.length cap) := Go.Joins.cell_of_block k1 6
  have c7 : w3.cell? ⟨w.heap.size, 7, none⟩ = some (.int .i64 num) := Go.Joins.cell_of_block k1 7
  have c8 : w3.cell? ⟨w.heap.size, 8, none⟩ = some (.slice vo vs.length vc) := Go.Joins.cell_of_block k1 8
  have fc4 : w3.frozen? ⟨w.heap.size, 4, none⟩ = false := Go.Joins.unfrozen_of_block k1 4
  have fc5 : w3.frozen? ⟨w.heap.size, 5, none⟩ = false := Go.Joins.unfrozen_of_block k1 5
  have fc6 : w3.frozen? ⟨w.heap.size, 6, none⟩ = false := Go.Joins.unfrozen_of_block k1 6
  have fc7 : w3.frozen? ⟨w.heap.size, 7, none⟩ = false := Go.Joins.unfrozen_of_block k1 7
  have hb3' := hb2.trans (hb3.mono hb2.size)
  obtain ⟨w4, hw4⟩ : ∃ w', (((w3.setCell ⟨w.heap.size, 4, none⟩ (.int .u8 ck)).setCell ⟨w.heap.size, 5, none⟩ (.string text)).setCell ⟨w.heap.size, 6, none⟩ (.slice (some ⟨g1, 0, none⟩) args.length (args.length + 12))).setCell ⟨w.heap.size, 7, none⟩ (.int .i64 num) = w' := ⟨_, rfl⟩
  have k3 : w4.heap[w.heap.size]? = some (.cells #[.int .i64 x0, .int .u8 x1, .int .i64 x2, .int .i64 x3, .int .u8 ck, .string text, .slice (some ⟨g1, 0, none⟩) args.length (args.length + 12), .int .i64 num, .slice vo vs.length vc] 55 (0, 0)) := hw4 ▸ Go.Joins.block_setCell (i := 7) (Go.Joins.block_setCell (i := 6) (Go.Joins.block_setCell (i := 5) (Go.Joins.block_setCell (i := 4) k1 _) _) _) _
  have k4 : w4.heap[w.heap.size + 1]? = some (.cells #[.int .i64 0, .int .u8 0, .int .i64 0, .int .i64 0, .int .u8 0, .string ⟨#[]⟩, .slice none 0 0, .int .i64 0, .slice none 0 0] 55 (0, 0)) := by rw [← hw4, heap_setCell_other _ _ _ _ (by simp), heap_setCell_other _ _ _ _ (by simp), heap_setCell_other _ _ _ _ (by simp), heap_setCell_other _ _ _ _ (by simp)]; exact k2
  have hb4 : Below w.heap.size w w4 := hw4 ▸ (((hb3'.setCell (p := ⟨w.heap.size, 4, none⟩) (Nat.le_refl _) _).setCell (p := ⟨w.heap.size, 5, none⟩) (Nat.le_refl _) _).setCell (p := ⟨w.heap.size, 6, none⟩) (Nat.le_refl _) _).setCell (p := ⟨w.heap.size, 7, none⟩) (Nat.le_refl _) _
  have hz4 : w4.heap.size = w3.heap.size := by rw [← hw4]; simp
  have hz23 := hb3.size
  have hL4 : LentV w4 w2.heap.size g1 args := hL.blocks fun g hg _ => by rw [← hw4, heap_setCell_other _ _ _ _ (by have := HZ.out; simp; omega), heap_setCell_other _ _ _ _ (by have := HZ.out; simp; omega), heap_setCell_other _ _ _ _ (by have := HZ.out; simp; omega), heap_setCell_other _ _ _ _ (by have := HZ.out; simp; omega)]
  have HL4 := Lib.hid hL4
  have K3 := Lib.hid k3
  have K4 := Lib.hid k4
  have HW4 := Lib.hid hw4
  have HB4 := Lib.hid hb4
  have HZ4 := Lib.hid hz4
  have HZ23 := Lib.hid hz23
  have HB2 := Lib.hid hb2.size
  clear hL k1 k2 k3 k4 hw4 hb4 hz4 hz23 hL4 hb3 hb3' hb2
  go_wp2_with fail
  rw [HW4.out]
  clear c0 c1 c2 c3 c4 c5 c6 c7 c8 fc4 fc5 fc6 fc7
  refine (lentI_any vo vs.length vc vs w4 rfl (RowsIn.mono noSub_rising (RowsIn.below noSub_kept HY.out HB4.out (Nat.le_refl _)) HB4.out.size) HVO.out hl2).mono ?_
  rintro e w5 ⟨g2, rfl, hg2, _, hV, hb5⟩
  have z1 := HZ.out
  have z2 := HZ4.out
  have z3 := HZ23.out
  have k1 := (hb5.block w.heap.size (by omega)).trans K3.out
  have k2 := (hb5.block (w.heap.size + 1) (by omega)).trans K4.out
  have c0 : w5.cell? ⟨w.heap.size, 0, none⟩ = some (.int .i64 x0) := Go.Joins.cell_of_block k1 0
  have c1 : w5.cell? ⟨w.heap.size, 1, none⟩ = some (.int .u8 x1) := Go.Joins.cell_of_block k1 1
  have c2 : w5.cell? ⟨w.heap.size, 2, none⟩ = some (.int .i64 x2) := Go.Joins.cell_of_block k1 2
  have c3 : w5.cell? ⟨w.heap.size, 3, none⟩ = some (.int .i64 x3) := Go.Joins.cell_of_block k1 3
  have c4 : w5.cell? ⟨w.heap.size, 4, none⟩ = some (.int .u8 ck) := Go.Joins.cell_of_block k1 4
  have c5 : w5.cell? ⟨w.heap.size, 5, none⟩ = some (.string text) := Go.Joins.cell_of_block k1 5
  have c6 : w5.cell? ⟨w.heap.size, 6, none⟩ = some (.slice (some ⟨g1, 0, none⟩) args.length (args.length + 12)) := Go.Joins.cell_of_block k1 6
  have c7 : w5.cell? ⟨w.heap.size, 7, none⟩ = some (.int .i64 num) := Go.Joins.cell_of_block k1 7
  have c8 : w5.cell? ⟨w.heap.size, 8, none⟩ = some (.slice vo vs.length vc) := Go.Joins.cell_of_block k1 8
  have fc8 : w5.frozen? ⟨w.heap.size, 8, none⟩ = false := Go.Joins.unfrozen_of_block k1 8
  have d0 : w5.cell? ⟨w.heap.size + 1, 0, none⟩ = some (.int .i64 0) := Go.Joins.cell_of_block k2 0
  have d1 : w5.cell? ⟨w.heap.size + 1, 1, none⟩ = some (.int .u8 0) := Go.Joins.cell_of_block k2 1
  have d2 : w5.cell? ⟨w.heap.size + 1, 2, none⟩ = some (.int .i64 0) := Go.Joins.cell_of_block k2 2
  have d3 : w5.cell? ⟨w.heap.size + 1, 3, none⟩ = some (.int .i64 0) := Go.Joins.cell_of_block k2 3
  have d4 : w5.cell? ⟨w.heap.size + 1, 4, none⟩ = some (.int .u8 0) := Go.Joins.cell_of_block k2 4
  have d5 : w5.cell? ⟨w.heap.size + 1, 5, none⟩ = some (.string ⟨#[]⟩) := Go.Joins.cell_of_block k2 5
  have d6 : w5.cell? ⟨w.heap.size + 1, 6, none⟩ = some (.slice none 0 0) := Go.Joins.cell_of_block k2 6
  have d7 : w5.cell? ⟨w.heap.size + 1, 7, none⟩ = some (.int .i64 0) := Go.Joins.cell_of_block k2 7
  have d8 : w5.cell? ⟨w.heap.size + 1, 8, none⟩ = some (.slice none 0 0) := Go.Joins.cell_of_block k2 8
  have fd0 : w5.frozen? ⟨w.heap.size + 1, 0, none⟩ = false := Go.Joins.unfrozen_of_block k2 0
  have fd1 : w5.frozen? ⟨w.heap.size + 1, 1, none⟩ = false := Go.Joins.unfrozen_of_block k2 1
  have fd2 : w5.frozen? ⟨w.heap.size + 1, 2, none⟩ = false := Go.Joins.unfrozen_of_block k2 2
  have fd3 : w5.frozen? ⟨w.heap.size + 1, 3, none⟩ = false := Go.Joins.unfrozen_of_block k2 3
  have fd4 : w5.frozen? ⟨w.heap.size + 1, 4, none⟩ = false := Go.Joins.unfrozen_of_block k2 4
  have fd5 : w5.frozen? ⟨w.heap.size + 1, 5, none⟩ = false := Go.Joins.unfrozen_of_block k2 5
  have fd6 : w5.frozen? ⟨w.heap.size + 1, 6, none⟩ = false := Go.Joins.unfrozen_of_block k2 6
  have fd7 : w5.frozen? ⟨w.heap.size + 1, 7, none⟩ = false := Go.Joins.unfrozen_of_block k2 7
  have fd8 : w5.frozen? ⟨w.heap.size + 1, 8, none⟩ = false := Go.Joins.unfrozen_of_block k2 8
  have HL5 := Lib.hid (HL4.out.below hb5 (Nat.le_refl _))
  have HV := Lib.hid hV
  have HB5 := Lib.hid (HB4.out.trans (hb5.mono HB4.out.size))
  have hz5 : w4.heap.size ≤ w5.heap.size := hb5.size
  have HZS := Lib.hid (And.intro z1 (And.intro z2 (And.intro z3 hz5)))
  clear hV k1 k2 hb5 z1 z2 z3 hz5
  go_wp2_with fail
  have hkeep : ∀ g, w2.heap.size ≤ g → g < w5.heap.size → ((((((((((w5.setCell ⟨w.heap.size, 8, none⟩ (.slice (some ⟨g2, 0, none⟩) vs.length (vs.length + 12))).setCell ⟨w.heap.size + 1, 0, none⟩ (.int .i64 x0)).setCell ⟨w.heap.size + 1, 1, none⟩ (.int .u8 x1)).setCell ⟨w.heap.size + 1, 2, none⟩ (.int .i64 x2)).setCell ⟨w.heap.size + 1, 3, none⟩ (.int .i64 x3)).setCell ⟨w.heap.size + 1, 4, none⟩ (.int .u8 ck)).setCell ⟨w.heap.size + 1, 5, none⟩ (.string text)).setCell ⟨w.heap.size + 1, 6, none⟩ (.slice (some ⟨g1, 0, none⟩) args.length (args.length + 12))).setCell ⟨w.heap.size + 1, 7, none⟩ (.int .i64 num)).setCell ⟨w.heap.size + 1, 8, none⟩ (.slice (some ⟨g2, 0, none⟩) vs.length (vs.length + 12))).heap[g]? = w5.heap[g]? := fun g hg _ => by
    have := HZS.out
    rw [heap_setCell_other _ _ _ _ (by simp; omega), heap_setCell_other _ _ _ _ (by simp; omega), heap_setCell_other _ _ _ _ (by simp; omega), heap_setCell_other _ _ _ _ (by simp; omega), heap_setCell_other _ _ _ _ (by simp; omega), heap_setCell_other _ _ _ _ (by simp; omega), heap_setCell_other _ _ _ _ (by simp; omega), heap_setCell_other _ _ _ _ (by simp; omega), heap_setCell_other _ _ _ _ (by simp; omega), heap_setCell_other _ _ _ _ (by simp; omega)]
  have hfl := LentV.blocks HL5.out hkeep
  have hvl := LentI.blocks HV.out (fun g hg hlt => hkeep g (by have := HZS.out; omega) hlt)
  have hbb := ((((((((((HB5.out.setCell (p := ⟨w.heap.size, 8, none⟩) (Nat.le_refl _) (.slice (some ⟨g2, 0, none⟩) vs.length (vs.length + 12))).setCell (p := ⟨w.heap.size + 1, 0, none⟩) (Nat.le_succ _) (.int .i64 x0)).setCell (p := ⟨w.heap.size + 1, 1, none⟩) (Nat.le_succ _) (.int .u8 x1)).setCell (p := ⟨w.heap.size + 1, 2, none⟩) (Nat.le_succ _) (.int .i64 x2)).setCell (p := ⟨w.heap.size + 1, 3, none⟩) (Nat.le_succ _) (.int .i64 x3)).setCell (p := ⟨w.heap.size + 1, 4, none⟩) (Nat.le_succ _) (.int .u8 ck)).setCell (p := ⟨w.heap.size + 1, 5, none⟩) (Nat.le_succ _) (.string text)).setCell (p := ⟨w.heap.size + 1, 6, none⟩) (Nat.le_succ _) (.slice (some ⟨g1, 0, none⟩) args.length (args.length + 12))).setCell (p := ⟨w.heap.size + 1, 7, none⟩) (Nat.le_succ _) (.int .i64 num)).setCell (p := ⟨w.heap.size + 1, 8, none⟩) (Nat.le_succ _) (.slice (some ⟨g2, 0, none⟩) vs.length (vs.length + 12)))
  exact bodyPost_ret (v := .agg #[.int .i64 x0, .int .u8 x1, .int .i64 x2, .int .i64 x3, .int .u8 ck, .string text, .slice (some ⟨g1, 0, none⟩) args.length (args.length + 12), .int .i64 num, .slice (some ⟨g2, 0, none⟩) vs.length (vs.length + 12)]) (by simp [results, Tryz.results59, go_sem, d0, d1, d2, d3, d4, d5, d6, d7, d8]) rfl ⟨g1, g2, rfl, hfl.le HB2.out, hvl.le (by have := HZS.out; omega), hbb⟩
set_option maxHeartbeats 2000000 in
theorem keptEn_any (x0 x1 x2 x3 ck : Int) (text : ByteArray) (ao : Option Addr) (cap : Nat) (args : List Va) (num : Int) (vo : Option Addr) (vc : Nat) (vs : List Int) (g1 g2 B : Nat) (w : World) (hx : ValsIn w w.heap.size ao args) (hy : NumsIn w w.heap.size vo vs) (hL : LentV w B g1 args) (hV : LentI w B g2 vs) (hl : args.length ≤ 1099511627776) (hl2 : vs.length ≤ 1099511627776) :
    Calls Tryz.prog 75 #[.agg #[.int .i64 x0, .int .u8 x1, .int .i64 x2, .int .i64 x3, .int .u8 ck, .string text, .slice (some ⟨g1, 0, none⟩) args.length (args.length + 12), .int .i64 num, .slice (some ⟨g2, 0, none⟩) vs.length (vs.length + 12)], .agg #[.int .i64 x0, .int .u8 x1, .int .i64 x2, .int .i64 x3, .int .u8 ck, .string text, .slice ao args.length cap, .int .i64 num, .slice vo vs.length vc]] w fun e w' => e = .returned (.bool true) ∧ Below w.heap.size w w' := by
  obtain ⟨hb2, h1, h2, hz2⟩ := alloc2_facts w #[.int .i64 x0, .int .u8 x1, .int .i64 x2, .int .i64 x3, .int .u8 ck, .string text, .slice (some ⟨g1, 0, none⟩) args.length (args.length + 12), .int .i64 num, .slice (some ⟨g2, 0, none⟩) vs.length (vs.length + 12)] #[.int .i64 x0, .int .u8 x1, .int .i64 x2, .int .i64 x3, .int .u8 ck, .string text, .slice ao args.length cap, .int .i64 num, .slice vo vs.length vc] 55 55
  have HX := Lib.hid hx
  have HY := Lib.hid hy
  have HL := Lib.hid hL
  have HV := Lib.hid hV
  clear hx hy hL hV
  have HB2 := Lib.hid hb2
  have H1 := Lib.hid h1
  have H2 := Lib.hid h2
  have HZ := Lib.hid hz2
  clear hb2 h1 h2 hz2
  go_enter Tryz.func75, Tryz.ntmps75
  go_wp2_with fail
  have hb2 := HB2.out
  have h1 := H1.out
  have h2 := H2.out
  have hz2 := HZ.out
  generalize ((w.alloc (.cells #[.int .i64 x0, .int .u8 x1, .int .i64 x2, .int .i64 x3, .int .u8 ck, .string text, .slice (some ⟨g1, 0, none⟩) args.length (args.length + 12), .int .i64 num, .slice (some ⟨g2, 0, none⟩) vs.length (vs.length + 12)] 55)).alloc (.cells #[.int .i64 x0, .int .u8 x1, .int .i64 x2, .int .i64 x3, .int .u8 ck, .string text, .slice ao args.length cap, .int .i64 num, .slice vo vs.length vc] 55)) = w2 at hb2 h1 h2 hz2 ⊢
  have H1 := Lib.hid h1
  have H2 := Lib.hid h2
  have HZ := Lib.hid hz2
  clear h1 h2 hz2 HB2
  have hL2 := HL.out.below hb2 (Nat.le_refl _)
  have hV2 := HV.out.below hb2 (Nat.le_refl _)
  have HX2 := Lib.hid (RowsIn.mono noSub_rising (RowsIn.below noSub_kept HX.out hb2 (Nat.le_refl _)) hb2.size)
  have HY2 := Lib.hid (RowsIn.mono noSub_rising (RowsIn.below noSub_kept HY.out hb2 (Nat.le_refl _)) hb2.size)
  have HL2 := Lib.hid hL2
  have HV2 := Lib.hid hV2
  have HSAME := Lib.hid (show Calls Tryz.prog 63 #[.agg #[.int .i64 x0, .int .u8 x1, .int .i64 x2, .int .i64 x3, .int .u8 ck, .string text, .slice (some ⟨g1, 0, none⟩) args.length (args.length + 12), .int .i64 num, .slice (some ⟨g2, 0, none⟩) vs.length (vs.length + 12)], .agg #[.int .i64 x0, .int .u8 x1, .int .i64 x2, .int .i64 x3, .int .u8 ck, .string text, .slice ao args.length cap, .int .i64 num, .slice vo vs.length vc]] w2 fun e w' => e = .returned (.bool true) ∧ Below w2.heap.size w2 w' from
    sameE_any ⟨x0, x1, x2, x3, ck, text, some ⟨g1, 0, none⟩, args, args.length + 12, num, some ⟨g2, 0, none⟩, vs, vs.length + 12⟩ ⟨x0, x1, x2, x3, ck, text, ao, args, cap, num, vo, vs, vc⟩ w2 w2.heap.size rfl ⟨RowsIn.mono noSub_rising hL2.rows hL2.lt.2, RowsIn.mono noSub_rising hV2.rows hV2.lt.2⟩ ⟨HX2.out, HY2.out⟩ (Nat.le_refl _) (by show args.length ≤ _; omega) (by show vs.length ≤ _; omega))
  clear hL2 hV2
  refine HSAME.out.mono ?_
  rintro e w3 ⟨rfl, hb3⟩
  have k1 := (hb3.block w.heap.size (by have := HZ.out; omega)).trans H1.out
  have k2 := (hb3.block (w.heap.size + 1) (by have := HZ.out; omega)).trans H2.out
  have c0 : w3.cell? ⟨w.heap.size, 0, none⟩ = some (.int .i64 x0) := Go.Joins.cell_of_block k1 0
  have c1 : w3.cell? ⟨w.heap.size, 1, none⟩ = some (.int .u8 x1) := Go.Joins.cell_of_block k1 1
  have c2 : w3.cell? ⟨w.heap.size, 2, none⟩ = some (.int .i64 x2) := Go.Joins.cell_of_block k1 2
  have c3 : w3.cell? ⟨w.heap.size, 3, none⟩ = some (.int .i64 x3) := Go.Joins.cell_of_block k1 3
  have c4 : w3.cell? ⟨w.heap.size, 4, none⟩ = some (.int .u8 ck) := Go.Joins.cell_of_block k1 4
  have c5 : w3.cell? ⟨w.heap.size, 5, none⟩ = some (.string text) := Go.Joins.cell_of_block k1 5
  have c6 : w3.cell? ⟨w.heap.size, 6, none⟩ = some (.slice (some ⟨g1, 0, none⟩) args.length (args.length + 12)) := Go.Joins.cell_of_block k1 6
  have c7 : w3.cell? ⟨w.heap.size, 7, none⟩ = some (.int .i64 num) := Go.Joins.cell_of_block k1 7
  have c8 : w3.cell? ⟨w.heap.size, 8, none⟩ = some (.slice (some ⟨g2, 0, none⟩) vs.length (vs.length + 12)) := Go.Joins.cell_of_block k1 8
  have d0 : w3.cell? ⟨w.heap.size + 1, 0, none⟩ = some (.int .i64 x0) := Go.Joins.cell_of_block k2 0
  have d1 : w3.cell? ⟨w.heap.size + 1, 1, none⟩ = some (.int .u8 x1) := Go.Joins.cell_of_block k2 1
  have d2 : w3.cell? ⟨w.heap.size + 1, 2, none⟩ = some (.int .i64 x2) := Go.Joins.cell_of_block k2 2
  have d3 : w3.cell? ⟨w.heap.size + 1, 3, none⟩ = some (.int .i64 x3) := Go.Joins.cell_of_block k2 3
  have d4 : w3.cell? ⟨w.heap.size + 1, 4, none⟩ = some (.int .u8 ck) := Go.Joins.cell_of_block k2 4
  have d5 : w3.cell? ⟨w.heap.size + 1, 5, none⟩ = some (.string text) := Go.Joins.cell_of_block k2 5
  have d6 : w3.cell? ⟨w.heap.size + 1, 6, none⟩ = some (.slice ao args.length cap) := Go.Joins.cell_of_block k2 6
  have d7 : w3.cell? ⟨w.heap.size + 1, 7, none⟩ = some (.int .i64 num) := Go.Joins.cell_of_block k2 7
  have d8 : w3.cell? ⟨w.heap.size + 1, 8, none⟩ = some (.slice vo vs.length vc) := Go.Joins.cell_of_block k2 8
  have HR1 := Lib.hid (show w3.rangeAt w.heap.size 4 [.int .u8 ck, .string text, .slice (some ⟨g1, 0, none⟩) args.length (args.length + 12), .int .i64 num] from range_cons c4 (range_cons c5 (range_cons c6 (range_cons c7 range_new))))
  have HR2 := Lib.hid (show w3.rangeAt (w.heap.size + 1) 4 [.int .u8 ck, .string text, .slice ao args.length cap, .int .i64 num] from range_cons d4 (range_cons d5 (range_cons d6 (range_cons d7 range_new))))
  have hb4 := hb2.trans (hb3.mono hb2.size)
  clear k1 k2 HSAME c0 c1 c2 c3 c4 c5 c6 c7 c8 d0 d1 d2 d3 d4 d5 d6 d7 d8
  go_wp2_with (first | (refine wpList_load_want (by rfl) 53 (.tmp 9) rfl w.heap.size 4 rfl [.int .u8 ck, .string text, .slice (some ⟨g1, 0, none⟩) args.length (args.length + 12), .int .i64 num] _ HR1.out Tryz.underlying53 rfl info_cm ?_) | (refine wpList_load_want (by rfl) 53 (.tmp 11) rfl (w.heap.size + 1) 4 rfl [.int .u8 ck, .string text, .slice ao args.length cap, .int .i64 num] _ HR2.out Tryz.underlying53 rfl info_cm ?_))
  refine (keptC_any ck text num ao args.length cap g1 B args w3 rfl (RowsIn.mono noSub_rising (RowsIn.below noSub_kept HX2.out hb3 (Nat.le_refl _)) hb3.size) (HL2.out.below hb3 (Nat.le_refl _)) hl).mono ?_
  rintro e w4 ⟨rfl, hb5⟩
  have hb6 := hb3.trans (hb5.mono hb3.size)
  have k1 := (hb6.block w.heap.size (by have := HZ.out; omega)).trans H1.out
  have k2 := (hb6.block (w.heap.size + 1) (by have := HZ.out; omega)).trans H2.out
  have c8 : w4.cell? ⟨w.heap.size, 8, none⟩ = some (.slice (some ⟨g2, 0, none⟩) vs.length (vs.length + 12)) := Go.Joins.cell_of_block k1 8
  have d8 : w4.cell? ⟨w.heap.size + 1, 8, none⟩ = some (.slice vo vs.length vc) := Go.Joins.cell_of_block k2 8
  clear k1 k2
  go_wp2_with fail
  refine (keptI_at vo vs.length vc (vs.length + 12) g2 B (some ⟨g2, 0, none⟩) vs w4 w2.heap.size rfl rfl rfl (RowsIn.below noSub_kept HY2.out hb6 (Nat.le_refl _)) hb6.size (HV2.out.below hb6 (Nat.le_refl _)) hl2).mono ?_
  rintro e w5 ⟨rfl, hb7⟩
  clear c8 d8
  go_wp2_with fail
  go_ret
  exact ⟨rfl, (hb4.trans (hb5.mono hb4.size)).trans (hb7.mono (Nat.le_trans hb2.size hb6.size))⟩
end Go.Proofs.YtglgcjkglhlggaaGreatDoor
/- LentEntries: a row of entries is copied, each entry's values and voters too, with marks behind all ends. Conditions: the entries lie as their reading says. -/
namespace Go.Proofs.YtglgcjkglhlggaaGreatDoor
open Go.RowKit
set_option maxRecDepth 20000
theorem sizeEntry' : ∀ w, (sizeOf (Tryz.prog.elem 23)).run Tryz.prog w = .ok 9 w := fun _ => by kernel_rfl
theorem sliceEntry' : Tryz.prog.underlying 23 = some (.slice (Tryz.prog.elem 23)) := by kernel_rfl
/-- An entry whose lists are lent. -/
structure EnLent (w : World) (B : Nat) (f : En) : Prop where
  args : ∃ g, f.aao = some ⟨g, 0, none⟩ ∧ f.acap = f.args.length + 12 ∧ LentV w B g f.args
  vs : ∃ g, f.vao = some ⟨g, 0, none⟩ ∧ f.vcap = f.vs.length + 12 ∧ LentI w B g f.vs
theorem EnLent.below {w w' : World} {B B' : Nat} {f : En} (h : EnLent w B f) (hb : Below B' w w') (hB : w.heap.size ≤ B') : EnLent w' B f := by
  obtain ⟨⟨g, h1, h2, h3⟩, ⟨g', h1', h2', h3'⟩⟩ := h
  exact ⟨⟨g, h1, h2, own_below h3 hb hB⟩, ⟨g', h1', h2', own_below h3' hb hB⟩⟩
theorem EnLent.blocks {w w' : World} {B : Nat} {f : En} (h : EnLent w B f) (hs : ∀ g, B ≤ g → g < w.heap.size → w'.heap[g]? = w.heap[g]?) : EnLent w' B f := by
  obtain ⟨⟨g, h1, h2, h3⟩, ⟨g', h1', h2', h3'⟩⟩ := h
  exact ⟨⟨g, h1, h2, own_blocks' h3 hs⟩, ⟨g', h1', h2', own_blocks' h3' hs⟩⟩
theorem EnLent.le {w : World} {B B' : Nat} {f : En} (h : EnLent w B f) (hB : B' ≤ B) : EnLent w B' f := by
  obtain ⟨⟨g, h1, h2, h3⟩, ⟨g', h1', h2', h3'⟩⟩ := h
  exact ⟨⟨g, h1, h2, h3.le hB⟩, ⟨g', h1', h2', h3'.le hB⟩⟩
theorem EnLent.kept {w w' : World} {B : Nat} {f : En} {row : Option Nat} {B2 E2 S2 n2 : Nat} {u : Value} {xs : List Value} (h : EnLent w B f) (hg : w.grownBy w' row) (hu : w.ownsRow B2 E2 S2 u n2 xs) (he : E2 ≠ 58) (he2 : E2 ≠ 3) (hr : row = u.ownBlock) : EnLent w' B f := by
  obtain ⟨⟨g, h1, h2, h3⟩, ⟨g', h1', h2', h3'⟩⟩ := h
  exact ⟨⟨g, h1, h2, World.ownsRow.kept h3 hg (by rw [hr]; exact own_apart h3 hu (Ne.symm he))⟩, ⟨g', h1', h2', World.ownsRow.kept h3' hg (by rw [hr]; exact own_apart h3' hu (Ne.symm he2))⟩⟩
theorem EnLent.sub {w : World} {B : Nat} {f : En} (h : EnLent w B f) : enSub w w.heap.size f := by
  obtain ⟨⟨g, h1, h2, h3⟩, ⟨g', h1', h2', h3'⟩⟩ := h
  unfold enSub
  rw [h1, h1']
  exact ⟨RowsIn.mono noSub_rising h3.rows h3.lt.2, RowsIn.mono noSub_rising h3'.rows h3'.lt.2⟩
/-- A row of lent entries, with marks behind its end. -/
structure EnsLent (w : World) (B g n : Nat) (frs : List En) : Prop where
  row : w.ownsRow B 55 9 (.slice (some ⟨g, 0, none⟩) (n + 12) (n + 12)) (n + 12) (frs.flatMap enCells ++ mks mkE 1 12)
  lent : ∀ f ∈ frs, EnLent w B f
theorem EnsLent.blocks {w w' : World} {B g n : Nat} {frs : List En} (h : EnsLent w B g n frs) (hs : ∀ g, B ≤ g → g < w.heap.size → w'.heap[g]? = w.heap[g]?) : EnsLent w' B g n frs :=
  ⟨own_blocks' h.row hs, fun f hf => (h.lent f hf).blocks hs⟩
theorem EnsLent.below {w w' : World} {B g n B' : Nat} {frs : List En} (h : EnsLent w B g n frs) (hb : Below B' w w') (hB : w.heap.size ≤ B') : EnsLent w' B g n frs :=
  ⟨own_below h.row hb hB, fun f hf => (h.lent f hf).below hb hB⟩
theorem EnsLent.le {w : World} {B B' g n : Nat} {frs : List En} (h : EnsLent w B g n frs) (hB : B' ≤ B) : EnsLent w B' g n frs :=
  ⟨Go.Joins.ownsRow_le h.row hB, fun f hf => (h.lent f hf).le hB⟩
theorem EnsLent.lt {w : World} {B g n : Nat} {frs : List En} (h : EnsLent w B g n frs) : B ≤ g ∧ g < w.heap.size := World.ownsRow.lt h.row g rfl
theorem EnsLent.rows {w : World} {B g n : Nat} {frs : List En} (h : EnsLent w B g n frs) (hn : frs.length = n) : EnsIn w w.heap.size (some ⟨g, 0, none⟩) frs := by
  refine Or.inr ⟨g, 0, rfl, h.lt.2, fun i x hx => ⟨fun j hj => ?_, (h.lent x (List.mem_of_getElem? hx)).sub⟩⟩
  have hi := (List.getElem?_eq_some_iff.1 hx).1
  have hl := flat_len enCells_len frs
  rw [Nat.zero_add, World.ownsRow.cellAt h.row _ (by omega), List.getElem?_append_left (by omega)]
  exact flat_get enCells_len frs i x hx j hj
def LentEsPost (fs : List En) (w : World) (e : Ending) (w' : World) : Prop :=
  ∃ frs : List En, e = .returned (.slice (some ⟨w.heap.size, 0, none⟩) fs.length (fs.length + 12)) ∧ frs.map En.plain = fs.map En.plain ∧ EnsLent w' w.heap.size w.heap.size fs.length frs ∧ Below w.heap.size w w'
/-- What a copied entry asks for. -/
structure EnOkL (f : En) : Prop where
  anil : f.aao = none → f.acap = 0
  vnil : f.vao = none → f.vcap = 0
  args : f.args.length ≤ 1099511627776
  vs : f.vs.length ≤ 1099511627776
set_option maxHeartbeats 4000000 in
theorem lentEs_any (ao : Option Addr) (cap : Nat) (fs : List En) (w : World) (hx : EnsIn w w.heap.size ao fs) (hq : ∀ f ∈ fs, EnOkL f) (hl : fs.length ≤ 1099511627776) :
    Calls Tryz.prog 27 #[.slice ao fs.length cap] w (LentEsPost fs w) := by
  obtain ⟨i0, hi, hz0, hz1, hz2⟩ := info_parts infoEn
  have hm1 : (0 : Int) ≤ (fs.length : Int) + 12 := by omega
  have HX := Lib.hid hx
  have HQ := Lib.hid hq
  clear hx hq
  go_enter Tryz.func27, Tryz.ntmps27
  go_wp2_with (at_make; refine wpList_make_own _ rfl _ _ 23 rfl w.heap.size 55 i0 (.agg #[.int .i64 0, .int .u8 0, .int .i64 0, .int .i64 0, .int .u8 0, .string ByteArray.empty, .slice none 0 0, .int .i64 0, .slice none 0 0]) 9 Tryz.underlying23 hi hz0 hz1 .i64 .i64 _ (fs.length + 12) rfl rfl (by omega) (by rw [hz2]; omega) (by unfold maxLen; omega) (Nat.le_refl _) ?_)
  intro w1 hown1 hg1
  have hb1 : Below w.heap.size w w1 := (Below.refl _ _).grown hg1 (Nat.le_refl _) (fun k hk => by cases hk)
  have H1 := Lib.hid hown1
  clear hown1 hg1
  go_wp2_with fail
  go_loopw [3, 4, 5] (fun v i _ wr => ∃ (k : Nat) (frs : List En), k ≤ fs.length ∧ i = .int .i64 k ∧ v = .slice (some ⟨w.heap.size, 0, none⟩) k (fs.length + 12) ∧ frs.map En.plain = (fs.take k).map En.plain ∧ (∀ f ∈ frs, EnLent wr w.heap.size f) ∧
    wr.ownsRow w.heap.size 55 9 (.slice (some ⟨w.heap.size, 0, none⟩) k (fs.length + 12)) k (frs.flatMap enCells) ∧ Below w.heap.size w wr) (fun _ i _ _ => fs.length - (intOf i).toNat)
  case atStart => exact ⟨0, [], by omega, rfl, rfl, by simp, by simp, H1.out, hb1⟩
  case round =>
    clear hb1 H1
    obtain ⟨k, frs, hk, rfl, rfl, hmap, hlf, hown, hbel⟩ := hrel
    have HM := Lib.hid hmap
    have HF := Lib.hid hlf
    have HO := Lib.hid hown
    clear hmap hlf hown
    have hs := hbel.size
    by_cases hlt : k < fs.length
    · have hkx : fs[k]? = some (fs[k]'hlt) := List.getElem?_eq_getElem hlt
      obtain ⟨b, off, hao, hb, hc, hsub⟩ := HX.out.at hkx
      have hq0 := HQ.out _ (List.getElem_mem (l := fs) (n := k) hlt)
      have htk : (fs.take (k + 1)).map En.plain = (fs.take k).map En.plain ++ [(fs[k]'hlt).plain] := by
        rw [List.take_succ_eq_append_getElem hlt, List.map_append]; rfl
      generalize fs[k]'hlt = f at hc hq0 htk hsub
      obtain ⟨x0, x1, x2, x3, ck, text, ao, fd, fc, num, vo, vs, vc⟩ := f
      obtain ⟨hq1, hq3, hq2, hq4⟩ := hq0
      dsimp only at hq1 hq2 hq3 hq4
      have c0 : wr.cell? ⟨b, off + k * 9, none⟩ = some (.int .i64 x0) := (hbel.cell (p := ⟨b, _, none⟩) hb).trans (hc 0 (by decide))
      have c1 : wr.cell? ⟨b, off + k * 9 + 1, none⟩ = some (.int .u8 x1) := (hbel.cell (p := ⟨b, _, none⟩) hb).trans (hc 1 (by decide))
      have c2 : wr.cell? ⟨b, off + k * 9 + 1 + 1, none⟩ = some (.int .i64 x2) := (hbel.cell (p := ⟨b, _, none⟩) hb).trans (hc 2 (by decide))
      have c3 : wr.cell? ⟨b, off + k * 9 + 1 + 1 + 1, none⟩ = some (.int .i64 x3) := (hbel.cell (p := ⟨b, _, none⟩) hb).trans (hc 3 (by decide))
      have c4 : wr.cell? ⟨b, off + k * 9 + 1 + 1 + 1 + 1, none⟩ = some (.int .u8 ck) := (hbel.cell (p := ⟨b, _, none⟩) hb).trans (hc 4 (by decide))
      have c5 : wr.cell? ⟨b, off + k * 9 + 1 + 1 + 1 + 1 + 1, none⟩ = some (.string text) := (hbel.cell (p := ⟨b, _, none⟩) hb).trans (hc 5 (by decide))
      have c6 : wr.cell? ⟨b, off + k * 9 + 1 + 1 + 1 + 1 + 1 + 1, none⟩ = some (.slice ao fd.length fc) := (hbel.cell (p := ⟨b, _, none⟩) hb).trans (hc 6 (by decide))
      have c7 : wr.cell? ⟨b, off + k * 9 + 1 + 1 + 1 + 1 + 1 + 1 + 1, none⟩ = some (.int .i64 num) := (hbel.cell (p := ⟨b, _, none⟩) hb).trans (hc 7 (by decide))
      have c8 : wr.cell? ⟨b, off + k * 9 + 1 + 1 + 1 + 1 + 1 + 1 + 1 + 1, none⟩ = some (.slice vo vs.length vc) := (hbel.cell (p := ⟨b, _, none⟩) hb).trans (hc 8 (by decide))
      have HT := Lib.hid htk
      have HC := Lib.hid hsub
      have HQ1 := Lib.hid hq1
      have HQ3 := Lib.hid hq3
      have i1 : (k : Int) < fs.length := by omega
      subst hao
      clear hc hkx htk hsub hq1 hq3
      go_wp2_with fail
      refine (lentEn_any x0 x1 x2 x3 ck text ao fc fd num vo vc vs wr (RowsIn.mono noSub_rising (RowsIn.below noSub_kept HC.out.1 hbel (Nat.le_refl _)) hs) (RowsIn.mono noSub_rising (RowsIn.below noSub_kept HC.out.2 hbel (Nat.le_refl _)) hs) HQ1.out HQ3.out hq2 hq4).mono ?_
      rintro e w3 ⟨g1, g2, rfl, hL, hV, hb3⟩
      have hown3 := own_below HO.out hb3 (Nat.le_refl _)
      have hlf3 : ∀ f ∈ frs, EnLent w3 w.heap.size f := fun f hf => (HF.out f hf).below hb3 (Nat.le_refl _)
      have hnew : EnLent w3 w.heap.size ⟨x0, x1, x2, x3, ck, text, some ⟨g1, 0, none⟩, fd, fd.length + 12, num, some ⟨g2, 0, none⟩, vs, vs.length + 12⟩ := ⟨⟨g1, rfl, rfl, hL.le hs⟩, ⟨g2, rfl, rfl, hV.le hs⟩⟩
      have hbel3 := hbel.trans (hb3.mono hs)
      have hs3 := hbel3.size
      have HO3 := Lib.hid hown3
      have HF3 := Lib.hid hlf3
      have HN3 := Lib.hid hnew
      clear hown3 hlf3 hnew hL hV c0 c1 c2 c3 c4 c5 c6 c7 c8
      have hlen : ∀ o1 o2, ((w3.alloc o1).alloc o2).heap.size = w3.heap.size + 2 := fun _ _ => by simp
      go_wp2_with (at_builtin; refine wpList_append_fits _ rfl (.tmp 22) (.tmp 24) 23 rfl w.heap.size 55 i0 9 Tryz.underlying23 hi hz1 w.heap.size k (fs.length + 12) (frs.flatMap enCells) rfl ((HO3.out.alloc _).alloc _) ⟨w3.heap.size + 1, 0, none⟩ 1 1 [.int .i64 x0, .int .u8 x1, .int .i64 x2, .int .i64 x3, .int .u8 ck, .string text, .slice (some ⟨g1, 0, none⟩) fd.length (fd.length + 12), .int .i64 num, .slice (some ⟨g2, 0, none⟩) vs.length (vs.length + 12)] rfl rfl ?c1 (by simp [Value.oneCell']) (by omega) ?_)
      case c1 =>
        have := cells_new (w3.alloc (.cells #[.int .i64 x0, .int .u8 x1, .int .i64 x2, .int .i64 x3, .int .u8 ck, .string text, .slice (some ⟨g1, 0, none⟩) fd.length (fd.length + 12), .int .i64 num, .slice (some ⟨g2, 0, none⟩) vs.length (vs.length + 12)] 55)) 55 [.int .i64 x0, .int .u8 x1, .int .i64 x2, .int .i64 x3, .int .u8 ck, .string text, .slice (some ⟨g1, 0, none⟩) fd.length (fd.length + 12), .int .i64 num, .slice (some ⟨g2, 0, none⟩) vs.length (vs.length + 12)]
        simpa using this
      intro w4 hown4 hg4
      have hA := (HO3.out.alloc (.cells #[.int .i64 x0, .int .u8 x1, .int .i64 x2, .int .i64 x3, .int .u8 ck, .string text, .slice (some ⟨g1, 0, none⟩) fd.length (fd.length + 12), .int .i64 num, .slice (some ⟨g2, 0, none⟩) vs.length (vs.length + 12)] 55)).alloc (.cells #[.int .i64 x0, .int .u8 x1, .int .i64 x2, .int .i64 x3, .int .u8 ck, .string text, .slice (some ⟨g1, 0, none⟩) fd.length (fd.length + 12), .int .i64 num, .slice (some ⟨g2, 0, none⟩) vs.length (vs.length + 12)] 55)
      have hBA : Below w3.heap.size w3 ((w3.alloc (.cells #[.int .i64 x0, .int .u8 x1, .int .i64 x2, .int .i64 x3, .int .u8 ck, .string text, .slice (some ⟨g1, 0, none⟩) fd.length (fd.length + 12), .int .i64 num, .slice (some ⟨g2, 0, none⟩) vs.length (vs.length + 12)] 55)).alloc (.cells #[.int .i64 x0, .int .u8 x1, .int .i64 x2, .int .i64 x3, .int .u8 ck, .string text, .slice (some ⟨g1, 0, none⟩) fd.length (fd.length + 12), .int .i64 num, .slice (some ⟨g2, 0, none⟩) vs.length (vs.length + 12)] 55)) := ((Below.refl _ _).alloc (Nat.le_refl _) _).alloc (by simp) _
      have hlf4 : ∀ f ∈ frs ++ [⟨x0, x1, x2, x3, ck, text, some ⟨g1, 0, none⟩, fd, fd.length + 12, num, some ⟨g2, 0, none⟩, vs, vs.length + 12⟩], EnLent w4 w.heap.size f := fun f hf => by
        rcases List.mem_append.1 hf with hf | hf
        · exact ((HF3.out f hf).below hBA (Nat.le_refl _)).kept hg4 hA (by decide) (by decide) rfl
        · rw [List.mem_singleton.1 hf]
          exact (HN3.out.below hBA (Nat.le_refl _)).kept hg4 hA (by decide) (by decide) rfl
      have hb4 : Below w.heap.size w w4 := (hbel3.trans (hBA.mono hs3)).grown hg4 (by simp; omega) (fun k hk => by cases hk; exact Nat.le_refl _)
      have HF4 := Lib.hid hlf4
      have HO4 := Lib.hid hown4
      clear hlf4 hown4 hg4 hA hBA hlen
      go_wp2_with fail
      go_roundw
      case rel => exact ⟨k + 1, frs ++ [⟨x0, x1, x2, x3, ck, text, some ⟨g1, 0, none⟩, fd, fd.length + 12, num, some ⟨g2, 0, none⟩, vs, vs.length + 12⟩], by omega, by go_num, rfl, by rw [List.map_append, HM.out, HT.out]; rfl, HF4.out, by rw [List.flatMap_append]; exact HO4.out, hb4⟩
      case measure => simp [intOf]; omega
    · obtain rfl : k = fs.length := by omega
      have hM2 := HM.out
      rw [List.take_length] at hM2
      have HM2 := Lib.hid hM2
      clear hM2
      have hsl : ∀ w', (Instr.sliceAt 23 (.slice (some ⟨w.heap.size, 0, none⟩) (fs.length + 12) (fs.length + 12)) none (some (.int .i64 (fs.length : Int))) none).run Tryz.prog w' = .ok (.slice (some ⟨w.heap.size, 0, none⟩) fs.length (fs.length + 12)) w' := fun w' => by
        have h1 := run_sub_h sliceEntry' sizeEntry' (some ⟨w.heap.size, 0, none⟩) (fs.length + 12) (fs.length + 12) fs.length (by omega) .i64 (fs.length : Int) rfl w'
        rwa [subA_zero _ _ _ (by intro a ha; cases ha; rfl)] at h1
      go_wp2_with fail
      go_loopw [3, 6] (fun v i wr => ∃ q : Nat, q ≤ 12 ∧ i = .int .i64 q ∧ v = .slice (some ⟨w.heap.size, 0, none⟩) (fs.length + q) (fs.length + 12) ∧ (∀ f ∈ frs, EnLent wr w.heap.size f) ∧
        wr.ownsRow w.heap.size 55 9 (.slice (some ⟨w.heap.size, 0, none⟩) (fs.length + q) (fs.length + 12)) (fs.length + q) (frs.flatMap enCells ++ mks mkE 1 q) ∧ Below w.heap.size w wr) (fun _ i _ => 12 - (intOf i).toNat)
      case atStart => exact ⟨0, by omega, rfl, rfl, HF.out, by simpa [mks] using HO.out, hbel⟩
      case round =>
        clear hbel HF HO hs
        obtain ⟨q, hq, rfl, rfl, hlf, hown, hbel⟩ := hrel
        have HF := Lib.hid hlf
        have HO := Lib.hid hown
        clear hlf hown
        have hs := hbel.size
        by_cases hltq : q < 12
        · have i2 : (q : Int) < 12 := by omega
          clear hsl
          go_wp2_with fail
          refine (markE_at 1 _ 1 q (by omega) rfl (by omega) (by omega) wr).mono ?_
          rintro e w3 ⟨rfl, hb3⟩
          have hown3 := own_below HO.out hb3 (Nat.le_refl _)
          have hlf3 : ∀ f ∈ frs, EnLent w3 w.heap.size f := fun f hf => (HF.out f hf).below hb3 (Nat.le_refl _)
          have hbel3 := hbel.trans (hb3.mono hs)
          have hs3 := hbel3.size
          have HO3 := Lib.hid hown3
          have HF3 := Lib.hid hlf3
          clear hown3 hlf3
          go_wp2_with (at_builtin; refine wpList_append_fits _ rfl (.tmp 30) (.tmp 33) 23 rfl w.heap.size 55 i0 9 Tryz.underlying23 hi hz1 w.heap.size (fs.length + q) (fs.length + 12) (frs.flatMap enCells ++ mks mkE 1 q) rfl (HO3.out.alloc _) ⟨w3.heap.size, 0, none⟩ 1 1 [.int .i64 (markN 1 q), .int .u8 0, .int .i64 0, .int .i64 0, .int .u8 0, .string ⟨#[]⟩, .slice none 0 0, .int .i64 0, .slice none 0 0] rfl rfl (cells_new _ 55 [.int .i64 (markN 1 q), .int .u8 0, .int .i64 0, .int .i64 0, .int .u8 0, .string ⟨#[]⟩, .slice none 0 0, .int .i64 0, .slice none 0 0]) (by simp [Value.oneCell']) (by omega) ?_)
          intro w4 hown4 hg4
          have hA := HO3.out.alloc (.cells #[.int .i64 (markN 1 q), .int .u8 0, .int .i64 0, .int .i64 0, .int .u8 0, .string ⟨#[]⟩, .slice none 0 0, .int .i64 0, .slice none 0 0] 55)
          have hBA : Below w3.heap.size w3 (w3.alloc (.cells #[.int .i64 (markN 1 q), .int .u8 0, .int .i64 0, .int .i64 0, .int .u8 0, .string ⟨#[]⟩, .slice none 0 0, .int .i64 0, .slice none 0 0] 55)) := (Below.refl _ _).alloc (Nat.le_refl _) _
          have hlf4 : ∀ f ∈ frs, EnLent w4 w.heap.size f := fun f hf => ((HF3.out f hf).below hBA (Nat.le_refl _)).kept hg4 hA (by decide) (by decide) rfl
          have hb4 : Below w.heap.size w w4 := (hbel3.trans (hBA.mono hs3)).grown hg4 (by simp; omega) (fun k hk => by cases hk; exact Nat.le_refl _)
          have HF4 := Lib.hid hlf4
          have HO4 := Lib.hid hown4
          clear hlf4 hown4 hg4 hA hBA
          go_wp2_with fail
          go_roundw
          case rel => exact ⟨q + 1, by omega, by go_num, by rw [Nat.add_assoc], HF4.out, by have := HO4.out; rw [mks_succ]; exact this, hb4⟩
          case measure => simp [intOf]; omega
        · obtain rfl : q = 12 := by omega
          go_wp2_with fail
          go_ret
          exact ⟨frs, rfl, HM2.out, ⟨HO.out, HF.out⟩, hbel⟩
end Go.Proofs.YtglgcjkglhlggaaGreatDoor
/- KeptEntries: entries that were lent are found as they were. Conditions: they lie as their reading says. -/
namespace Go.Proofs.YtglgcjkglhlggaaGreatDoor
open Go.RowKit
set_option maxRecDepth 20000
set_option maxHeartbeats 4000000 in
theorem keptEs_any (ao : Option Addr) (cap g B : Nat) (fs frs : List En) (w : World) (hx : EnsIn w w.heap.size ao fs) (hL : EnsLent w B g fs.length frs) (hmap : frs.map En.plain = fs.map En.plain) (hd : ∀ f ∈ fs, f.args.length ≤ 1099511627776 ∧ f.vs.length ≤ 1099511627776) (hl : fs.length ≤ 1099511627776) :
    Calls Tryz.prog 40 #[.slice (some ⟨g, 0, none⟩) fs.length (fs.length + 12 : Nat), .slice ao fs.length cap] w fun e w' => e = .returned (.bool true) ∧ Below w.heap.size w w' := by
  have hrow := hL.row
  have hlent := hL.lent
  have hgl := (hrow.lt g rfl).2
  have hfl : frs.length = fs.length := by have := congrArg List.length hmap; simpa using this
  have hsl : ∀ w', (Instr.sliceAt 23 (.slice (some ⟨g, 0, none⟩) fs.length (fs.length + 12)) none (some (.int .i64 ((fs.length : Int) + 12))) none).run Tryz.prog w' = .ok (.slice (some ⟨g, 0, none⟩) (fs.length + 12) (fs.length + 12)) w' := fun w' => by
    have h1 := run_sub_h sliceEntry' sizeEntry' (some ⟨g, 0, none⟩) fs.length (fs.length + 12) (fs.length + 12) (Nat.le_refl _) .i64 ((fs.length : Int) + 12) (by omega) w'
    rwa [subA_zero _ _ _ (by intro a ha; cases ha; rfl)] at h1
  have HX := Lib.hid hx
  have HR := Lib.hid hrow
  have HLE := Lib.hid hlent
  have HM := Lib.hid hmap
  have HD := Lib.hid hd
  have HFL := Lib.hid hfl
  clear hx hrow hlent hmap hd hfl hL
  go_enter Tryz.func40, Tryz.ntmps40
  go_wp2_with fail
  clear hsl
  go_loopw [6] (fun i wr => ∃ k : Nat, k ≤ fs.length + 12 ∧ i = .int .i64 k ∧ Below w.heap.size w wr) (fun i _ => fs.length + 12 - (intOf i).toNat)
  case atStart => exact ⟨0, by omega, rfl, Below.refl _ _⟩
  case round =>
    obtain ⟨k, hk, rfl, hbel⟩ := hrel
    by_cases hlt : k < fs.length
    · have hky : fs[k]? = some (fs[k]'hlt) := List.getElem?_eq_getElem hlt
      obtain ⟨b, off, hao, hb, hc, ed⟩ := HX.out.at hky
      have hkf : k < frs.length := by rw [HFL.out]; exact hlt
      have hx0 : frs[k]? = some (frs[k]'hkf) := List.getElem?_eq_getElem hkf
      have hfl2 := flat_len (k := 9) enCells_len frs
      have ha : ∀ j, j < 9 → w.cell? ⟨g, k * 9 + j, none⟩ = (enCells (frs[k]'hkf))[j]? := fun j hj => by
        rw [World.ownsRow.cellAt HR.out (k * 9 + j) (by omega), List.getElem?_append_left (by omega)]; exact flat_get (k := 9) enCells_len frs k _ hx0 j hj
      have hle := HLE.out (frs[k]'hkf) (List.getElem_mem hkf)
      have hdl := HD.out (fs[k]'hlt) (List.getElem_mem hlt)
      have hp : (frs[k]'hkf).plain = (fs[k]'hlt).plain := by
        have := congrArg (fun l => l[k]?) HM.out
        simp only [List.getElem?_map, hx0, hky, Option.map_some] at this
        exact Option.some.inj this
      generalize frs[k]'hkf = x at ha hle hp hx0
      generalize fs[k]'hlt = y at hc ed hdl hp hky
      obtain ⟨x0, x1, x2, x3, ck, text, xa, xd, xc, num, xv, xs, xvc⟩ := x
      obtain ⟨y0, y1, y2, y3, ck2, text2, ya, yd, yc, num2, yv, ys, yvc⟩ := y
      simp only [En.plain, EnP.mk.injEq] at hp
      obtain ⟨rfl, rfl, rfl, rfl, rfl, rfl, rfl, rfl, rfl⟩ := hp
      obtain ⟨⟨fg, hfg, hfc, hfL⟩, ⟨vg, hvg, hvc, hvL⟩⟩ := hle
      dsimp only at hdl hfg hfc hfL hvg hvc hvL
      have c0 : ∀ x' : Calm w.heap.size w, x'.1.cell? ⟨b, off + k * 9, none⟩ = some (.int .i64 x0) := fun x' => x'.cell (hc 0 (by decide)) hb
      have c1 : ∀ x' : Calm w.heap.size w, x'.1.cell? ⟨b, off + k * 9 + 1, none⟩ = some (.int .u8 x1) := fun x' => x'.cell (hc 1 (by decide)) hb
      have c2 : ∀ x' : Calm w.heap.size w, x'.1.cell? ⟨b, off + k * 9 + 2, none⟩ = some (.int .i64 x2) := fun x' => x'.cell (hc 2 (by decide)) hb
      have c3 : ∀ x' : Calm w.heap.size w, x'.1.cell? ⟨b, off + k * 9 + 3, none⟩ = some (.int .i64 x3) := fun x' => x'.cell (hc 3 (by decide)) hb
      have c4 : ∀ x' : Calm w.heap.size w, x'.1.cell? ⟨b, off + k * 9 + 4, none⟩ = some (.int .u8 ck) := fun x' => x'.cell (hc 4 (by decide)) hb
      have c5 : ∀ x' : Calm w.heap.size w, x'.1.cell? ⟨b, off + k * 9 + 5, none⟩ = some (.string text) := fun x' => x'.cell (hc 5 (by decide)) hb
      have c6 : ∀ x' : Calm w.heap.size w, x'.1.cell? ⟨b, off + k * 9 + 6, none⟩ = some (.slice ya xd.length yc) := fun x' => x'.cell (hc 6 (by decide)) hb
      have c7 : ∀ x' : Calm w.heap.size w, x'.1.cell? ⟨b, off + k * 9 + 7, none⟩ = some (.int .i64 num) := fun x' => x'.cell (hc 7 (by decide)) hb
      have c8 : ∀ x' : Calm w.heap.size w, x'.1.cell? ⟨b, off + k * 9 + 8, none⟩ = some (.slice yv xs.length yvc) := fun x' => x'.cell (hc 8 (by decide)) hb
      have e0 : ∀ x' : Calm w.heap.size w, x'.1.cell? ⟨g, k * 9, none⟩ = some (.int .i64 x0) := fun x' => x'.cell (ha 0 (by decide)) hgl
      have e1 : ∀ x' : Calm w.heap.size w, x'.1.cell? ⟨g, k * 9 + 1, none⟩ = some (.int .u8 x1) := fun x' => x'.cell (ha 1 (by decide)) hgl
      have e2 : ∀ x' : Calm w.heap.size w, x'.1.cell? ⟨g, k * 9 + 2, none⟩ = some (.int .i64 x2) := fun x' => x'.cell (ha 2 (by decide)) hgl
      have e3 : ∀ x' : Calm w.heap.size w, x'.1.cell? ⟨g, k * 9 + 3, none⟩ = some (.int .i64 x3) := fun x' => x'.cell (ha 3 (by decide)) hgl
      have e4 : ∀ x' : Calm w.heap.size w, x'.1.cell? ⟨g, k * 9 + 4, none⟩ = some (.int .u8 ck) := fun x' => x'.cell (ha 4 (by decide)) hgl
      have e5 : ∀ x' : Calm w.heap.size w, x'.1.cell? ⟨g, k * 9 + 5, none⟩ = some (.string text) := fun x' => x'.cell (ha 5 (by decide)) hgl
      have e6 : ∀ x' : Calm w.heap.size w, x'.1.cell? ⟨g, k * 9 + 6, none⟩ = some (.slice xa xd.length xc) := fun x' => x'.cell (ha 6 (by decide)) hgl
      have e7 : ∀ x' : Calm w.heap.size w, x'.1.cell? ⟨g, k * 9 + 7, none⟩ = some (.int .i64 num) := fun x' => x'.cell (ha 7 (by decide)) hgl
      have e8 : ∀ x' : Calm w.heap.size w, x'.1.cell? ⟨g, k * 9 + 8, none⟩ = some (.slice xv xs.length xvc) := fun x' => x'.cell (ha 8 (by decide)) hgl
      have hcall : ∀ x' : Calm w.heap.size w, Calls Tryz.prog 75 #[.agg #[.int .i64 x0, .int .u8 x1, .int .i64 x2, .int .i64 x3, .int .u8 ck, .string text, .slice xa xd.length xc, .int .i64 num, .slice xv xs.length xvc], .agg #[.int .i64 x0, .int .u8 x1, .int .i64 x2, .int .i64 x3, .int .u8 ck, .string text, .slice ya xd.length yc, .int .i64 num, .slice yv xs.length yvc]] x'.1 fun e w' => e = .returned (.bool true) ∧ Below x'.1.heap.size x'.1 w' := fun x' => by
        have h := keptEn_any x0 x1 x2 x3 ck text ya yc xd num yv yvc xs fg vg B x'.1 (RowsIn.mono noSub_rising (RowsIn.below noSub_kept ed.1 x'.2 (Nat.le_refl _)) x'.2.size) (RowsIn.mono noSub_rising (RowsIn.below noSub_kept ed.2 x'.2 (Nat.le_refl _)) x'.2.size) (hfL.below x'.2 (Nat.le_refl _)) (hvL.below x'.2 (Nat.le_refl _)) hdl.1 hdl.2
        rw [hfg, hfc, hvg, hvc]; exact h
      have HC := Lib.hid hcall
      subst hao
      have i1 : (k : Int) < fs.length := by omega
      have i2 : (k : Int) < (fs.length : Int) + 12 := by omega
      have i3 : (k : Int) < ((fs.length + 12 : Nat) : Int) := by omega
      have d1 : decide ((fs.length : Int) ≤ k) = false := by simp; omega
      have d2 : decide (fs.length ≤ k) = false := by simp; omega
      have d3 : decide (k < fs.length) = true := by simpa using hlt
      clear hcall ed ha hx0 hky hfL hvL hfg hfc hvg hvc hc hfl2
      go_wp2_with fail
      refine wp_region_calm (B := w.heap.size) (W0 := w) hbel (by kernel_rfl) (by kernel_rfl) ?_
      repeat (go_big_quiet_step ((go_at_call 75; exact Calm.call (Nat.le_refl _) (HC.out _))))
      refine wpQuiet_nil ?_
      intro w5 hb5
      clear c0 e0 c1 e1 c2 e2 c3 e3 c4 e4 c5 e5 c6 e6 c7 e7 c8 e8
      go_wp2_with fail
      go_roundw
      case rel => exact ⟨k + 1, by omega, by go_num, hb5⟩
      case measure => simp [intOf]; omega
    · by_cases hlt2 : k < fs.length + 12
      · obtain ⟨m, rfl⟩ : ∃ m, k = fs.length + m := ⟨k - fs.length, by omega⟩
        have hfl2 := flat_len (k := 9) enCells_len frs
        have hfe := HFL.out
        have ha : ∀ j, j < 9 → w.cell? ⟨g, (fs.length + m) * 9 + j, none⟩ = (mkE 1 m)[j]? := fun j hj => by
          rw [World.ownsRow.cellAt HR.out _ (by omega), List.getElem?_append_right (by omega), show (fs.length + m) * 9 + j - (frs.flatMap enCells).length = m * 9 + j by omega]
          exact mks_get mkE_len 1 12 m j (by omega) hj
        obtain ⟨mm, hmm⟩ : ∃ mm, markN 1 m = mm := ⟨_, rfl⟩
        have hmk : mkE 1 m = [.int .i64 mm, .int .u8 0, .int .i64 0, .int .i64 0, .int .u8 0, .string ByteArray.empty, .slice none 0 0, .int .i64 0, .slice none 0 0] := by rw [← hmm]; rfl
        rw [hmk] at ha
        have HMM := Lib.hid hmm
        have c0 : ∀ x' : Calm w.heap.size w, x'.1.cell? ⟨g, (fs.length + m) * 9, none⟩ = some (.int .i64 mm) := fun x' => x'.cell (ha 0 (by decide)) hgl
        have c1 : ∀ x' : Calm w.heap.size w, x'.1.cell? ⟨g, (fs.length + m) * 9 + 1, none⟩ = some (.int .u8 0) := fun x' => x'.cell (ha 1 (by decide)) hgl
        have c2 : ∀ x' : Calm w.heap.size w, x'.1.cell? ⟨g, (fs.length + m) * 9 + 2, none⟩ = some (.int .i64 0) := fun x' => x'.cell (ha 2 (by decide)) hgl
        have c3 : ∀ x' : Calm w.heap.size w, x'.1.cell? ⟨g, (fs.length + m) * 9 + 3, none⟩ = some (.int .i64 0) := fun x' => x'.cell (ha 3 (by decide)) hgl
        have c4 : ∀ x' : Calm w.heap.size w, x'.1.cell? ⟨g, (fs.length + m) * 9 + 4, none⟩ = some (.int .u8 0) := fun x' => x'.cell (ha 4 (by decide)) hgl
        have c5 : ∀ x' : Calm w.heap.size w, x'.1.cell? ⟨g, (fs.length + m) * 9 + 5, none⟩ = some (.string ByteArray.empty) := fun x' => x'.cell (ha 5 (by decide)) hgl
        have c6 : ∀ x' : Calm w.heap.size w, x'.1.cell? ⟨g, (fs.length + m) * 9 + 6, none⟩ = some (.slice none 0 0) := fun x' => x'.cell (ha 6 (by decide)) hgl
        have c7 : ∀ x' : Calm w.heap.size w, x'.1.cell? ⟨g, (fs.length + m) * 9 + 7, none⟩ = some (.int .i64 0) := fun x' => x'.cell (ha 7 (by decide)) hgl
        have c8 : ∀ x' : Calm w.heap.size w, x'.1.cell? ⟨g, (fs.length + m) * 9 + 8, none⟩ = some (.slice none 0 0) := fun x' => x'.cell (ha 8 (by decide)) hgl
        have hcall : ∀ x' : Calm w.heap.size w, Calls Tryz.prog 63 #[.agg #[.int .i64 mm, .int .u8 0, .int .i64 0, .int .i64 0, .int .u8 0, .string ByteArray.empty, .slice none 0 0, .int .i64 0, .slice none 0 0], .agg #[.int .i64 mm, .int .u8 0, .int .i64 0, .int .i64 0, .int .u8 0, .string ByteArray.empty, .slice none 0 0, .int .i64 0, .slice none 0 0]] x'.1 fun e w' => e = .returned (.bool true) ∧ Below x'.1.heap.size x'.1 w' := fun x' =>
          sameMarkE mm x'.1
        have HC := Lib.hid hcall
        have i1 : ¬ (fs.length : Int) + m < fs.length := by omega
        have i2 : (fs.length : Int) + m < (fs.length : Int) + 12 := by omega
        have i4 : (fs.length : Int) ≤ (fs.length : Int) + m := by omega
        have d1 : decide ((fs.length : Int) + m < fs.length) = false := by simp; omega
        have d2 : decide ((fs.length : Int) ≤ (fs.length : Int) + m) = true := by simp; omega
        have n1 : ((fs.length : Int) + m).toNat = fs.length + m := by omega
        have n2 : IntKind.i64.wrap (m : Int) = m := IntWalk.i64_in _ (by omega)
        have n3 : (0 : Int) ≤ (fs.length : Int) + m := by omega
        clear hcall ha hmm hmk hfl2 hfe
        go_wp2_with fail
        refine wp_region_calm (B := w.heap.size) (W0 := w) hbel (by kernel_rfl) (by kernel_rfl) ?_
        repeat (go_big_quiet_step (first | (go_at_call 60; exact Calm.call (Nat.le_refl _) (markE_is 1 _ 1 m mm HMM.out (by omega) (by omega) (by omega) (by omega) _)) | (go_at_call 63; exact Calm.call (Nat.le_refl _) (HC.out _))))
        refine wpQuiet_nil ?_
        intro w5 hb5
        clear c0 c1 c2 c3 c4 c5 c6 c7 c8
        go_wp2_with fail
        go_roundw
        case rel => exact ⟨fs.length + m + 1, by omega, by go_num, hb5⟩
        case measure => simp [intOf]; omega
      · go_wp2_with fail
        go_ret
        exact ⟨rfl, hbel⟩
end Go.Proofs.YtglgcjkglhlggaaGreatDoor
/- What is written between two marks of the heap, and nothing else. No program. Conditions: as each says. -/
namespace Go.Proofs.YtglgcjkglhlggaaGreatDoor
open Go.RowKit
set_option maxRecDepth 20000
/-- Neither below B anything is changed, nor of what is from T on. -/
structure Mid (B T : Nat) (w w' : World) : Prop where
  below : Below B w w'
  far : ∀ b, T ≤ b → b < w.heap.size → w'.heap[b]? = w.heap[b]?
theorem Mid.refl (B T : Nat) (w : World) : Mid B T w w := ⟨Below.refl _ _, fun _ _ _ => rfl⟩
theorem Mid.trans_below {B T : Nat} {w w' w'' : World} (h : Mid B T w w') (hb : Below w'.heap.size w' w'') (hB : B ≤ w'.heap.size) : Mid B T w w'' :=
  ⟨h.below.trans (hb.mono hB), fun b h1 h2 => (hb.block b (Nat.lt_of_lt_of_le h2 h.below.size)).trans (h.far b h1 h2)⟩
end Go.Proofs.YtglgcjkglhlggaaGreatDoor
/- What is written over keeps its shape: blocks between two marks of the heap, of certain types. No program. Conditions: as each says. -/
namespace Go.Proofs.YtglgcjkglhlggaaGreatDoor
open Go.RowKit
set_option maxRecDepth 20000
/-- A block of so many cells of a type. -/
def Blk (w : World) (g : Nat) (E : TypeId) (m : Nat) : Prop := ∃ cs, w.heap[g]? = some (.cells cs E (0, 0)) ∧ cs.size = m
theorem Blk.lt {w : World} {g m : Nat} {E : TypeId} (h : Blk w g E m) : g < w.heap.size := by
  obtain ⟨cs, h, _⟩ := h
  exact (Array.getElem?_eq_some_iff.1 h).1
theorem Blk.set {w : World} {g m : Nat} {E : TypeId} (h : Blk w g E m) (b i : Nat) (v : Value) : Blk (w.setCell ⟨b, i, none⟩ v) g E m := by
  obtain ⟨cs, h, hm⟩ := h
  by_cases e : g = b
  · subst e
    exact ⟨_, heap_setCell_same w g i cs E v h, by simpa using hm⟩
  · exact ⟨cs, (heap_setCell_other w ⟨b, i, none⟩ g v e).trans h, hm⟩
theorem Blk.below {w w' : World} {g m B : Nat} {E : TypeId} (h : Blk w g E m) (hb : Below B w w') (hB : w.heap.size ≤ B) : Blk w' g E m := by
  have hl := h.lt
  obtain ⟨cs, h, hm⟩ := h
  exact ⟨cs, (hb.block g (by omega)).trans h, hm⟩
theorem Blk.cell {w : World} {g m : Nat} {E : TypeId} (h : Blk w g E m) {i : Nat} (hi : i < m) : ∃ v, w.cell? ⟨g, i, none⟩ = some v := by
  obtain ⟨cs, h, hm⟩ := h
  exact ⟨cs[i]'(by omega), (Go.Joins.cell_of_block h i).trans (Array.getElem?_eq_getElem _)⟩
theorem Blk.free {w : World} {g m : Nat} {E : TypeId} (h : Blk w g E m) (i : Nat) : w.frozen? ⟨g, i, none⟩ = false := by
  obtain ⟨cs, h, hm⟩ := h
  exact Go.Joins.unfrozen_of_block h i
theorem Blk.of_own {w : World} {B g E SZ n c : Nat} {xs : List Value} (h : w.ownsRow B E SZ (.slice (some ⟨g, 0, none⟩) n c) n xs) : Blk w g E (c * SZ) := by
  rcases h.2 with ⟨h', _⟩ | ⟨_, _, cur, h', _, k2, _, _, k5, _⟩
  · cases h'
  · cases h'
    exact ⟨cur, k2, k5⟩
/-- Blocks of certain types between B and T may be written over; all keep their shape, the others what is in them. -/
structure OverK (B T : Nat) (Ts : List TypeId) (w w' : World) : Prop where
  mid : Mid B T w w'
  blk : ∀ g E m, Blk w g E m → Blk w' g E m
  far : ∀ (g : Nat) (cs : Array Value) (E : TypeId), w.heap[g]? = some (.cells cs E (0, 0)) → E ∉ Ts → w'.heap[g]? = some (.cells cs E (0, 0))
theorem OverK.refl (B T : Nat) (Ts : List TypeId) (w : World) : OverK B T Ts w w := ⟨Mid.refl _ _ _, fun _ _ _ h => h, fun _ _ _ h _ => h⟩
theorem Mid.trans {B T : Nat} {w w' w'' : World} (h : Mid B T w w') (h2 : Mid B T w' w'') : Mid B T w w'' :=
  ⟨h.below.trans h2.below, fun b h1 h3 => (h2.far b h1 (Nat.lt_of_lt_of_le h3 h.below.size)).trans (h.far b h1 h3)⟩
theorem OverK.trans {B T : Nat} {Ts Us : List TypeId} {w w' w'' : World} (h : OverK B T Ts w w') (h2 : OverK B T Us w' w'') (hs : ∀ E, E ∈ Us → E ∈ Ts) : OverK B T Ts w w'' :=
  ⟨h.mid.trans h2.mid, fun g E m hb => h2.blk g E m (h.blk g E m hb), fun g cs E hg hE => h2.far g cs E (h.far g cs E hg hE) (fun he => hE (hs E he))⟩
theorem OverK.then_below {B T : Nat} {Ts : List TypeId} {w w' w'' : World} (h : OverK B T Ts w w') (hb : Below w'.heap.size w' w'') (hB : B ≤ w'.heap.size) : OverK B T Ts w w'' :=
  ⟨h.mid.trans_below hb hB, fun g E m hg => (h.blk g E m hg).below hb (Nat.le_refl _), fun g cs E hg hE => by
    have h1 := h.far g cs E hg hE
    exact (hb.block g (Array.getElem?_eq_some_iff.1 h1).1).trans h1⟩
theorem OverK.set {B T : Nat} {Ts : List TypeId} {w w' : World} (h : OverK B T Ts w w') {g m : Nat} {E : TypeId} (hk : Blk w' g E m) (hE : E ∈ Ts) (hB : B ≤ g) (hT : g < T) (i : Nat) (v : Value) : OverK B T Ts w (w'.setCell ⟨g, i, none⟩ v) := by
  refine ⟨⟨h.mid.below.setCell (p := ⟨g, i, none⟩) hB v, fun b h1 h2 => ?_⟩, fun b E m hb => (h.blk b E m hb).set g i v, fun b cs E' hg hE' => ?_⟩
  · rw [heap_setCell_other _ _ _ _ (by show b ≠ g; omega)]
    exact h.mid.far b h1 h2
  · have h1 := h.far b cs E' hg hE'
    by_cases e : b = g
    · subst e
      obtain ⟨cs2, h2, _⟩ := hk
      rw [h1] at h2
      cases h2
      exact absurd hE hE'
    · exact (heap_setCell_other w' ⟨g, i, none⟩ b v e).trans h1
theorem OverK.size {B T : Nat} {Ts : List TypeId} {w w' : World} (h : OverK B T Ts w w') : w.heap.size ≤ w'.heap.size := h.mid.below.size
/-- A row that may be written over, with twelve places behind its end. -/
def Room (w : World) (B T : Nat) (E : TypeId) (SZ : Nat) (a : Option Addr) (n c : Nat) : Prop := ∃ g, a = some ⟨g, 0, none⟩ ∧ B ≤ g ∧ g < T ∧ c = n + 12 ∧ Blk w g E ((n + 12) * SZ)
theorem Room.over {w w' : World} {B T n c : Nat} {E : TypeId} {SZ : Nat} {a : Option Addr} {Ts : List TypeId} (h : Room w B T E SZ a n c) (ho : OverK B T Ts w w') : Room w' B T E SZ a n c := by
  obtain ⟨g, h1, h2, h3, h4, h5⟩ := h
  exact ⟨g, h1, h2, h3, h4, ho.blk _ _ _ h5⟩
theorem Room.below {w w' : World} {B T n c : Nat} {E : TypeId} {SZ : Nat} {a : Option Addr} (h : Room w B T E SZ a n c) (hb : Below w.heap.size w w') : Room w' B T E SZ a n c := by
  obtain ⟨g, h1, h2, h3, h4, h5⟩ := h
  exact ⟨g, h1, h2, h3, h4, h5.below hb (Nat.le_refl _)⟩
end Go.Proofs.YtglgcjkglhlggaaGreatDoor
/- OverBytes: a lent row of bytes is written over, the marks behind it, too; nothing else is changed. Conditions: the row is a lent one. -/
namespace Go.Proofs.YtglgcjkglhlggaaGreatDoor
open Go.RowKit
set_option maxRecDepth 20000
end Go.Proofs.YtglgcjkglhlggaaGreatDoor
