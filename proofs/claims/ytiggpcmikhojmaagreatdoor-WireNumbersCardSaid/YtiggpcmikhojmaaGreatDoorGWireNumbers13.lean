/- LentReply, KeptReply, LentEntry, KeptEntry: things that are lent are found as they were, as long as nobody writes behind their ends. Conditions: they lie as their reading says. -/
import Derived.Test.YtiggpcmikhojmaaGreatDoorGWireNumbers12
import Derived.Test.YtiggpcmikhojmaaGreatDoorGWireNumbers8
set_option linter.unusedVariables false
namespace Go.Proofs.YtiggpcmikhojmaaGreatDoor
open Go.RowKit
set_option maxRecDepth 20000
theorem LentV.blocks {w w' : World} {B g : Nat} {xs : List Va} (h : LentV w B g xs) (hs : ∀ g, B ≤ g → g < w.heap.size → w'.heap[g]? = w.heap[g]?) : LentV w' B g xs := own_blocks' h hs
theorem LentI.blocks {w w' : World} {B g : Nat} {xs : List Int} (h : LentI w B g xs) (hs : ∀ g, B ≤ g → g < w.heap.size → w'.heap[g]? = w.heap[g]?) : LentI w' B g xs := own_blocks' h hs
theorem keptI_at (ao : Option Addr) (n cap c2 g B : Nat) (go : Option Addr) (xs : List Int) (w : World) (B2 : Nat) (hg : go = some ⟨g, 0, none⟩) (hc : c2 = n + 12) (hn : xs.length = n) (hx : NumsIn w B2 ao xs) (hB : B2 ≤ w.heap.size) (hL : LentI w B g xs) (hl : n ≤ 1099511627776) :
    Calls Tryz.prog 78 #[.slice go n c2, .slice ao n cap] w fun e w' => e = .returned (.bool true) ∧ Below w.heap.size w w' := by
  subst hg hc
  exact keptI_any ao n cap g B xs w hn (RowsIn.mono noSub_rising hx hB) hL hl
set_option maxHeartbeats 2000000 in
theorem lentRp_any (er num : Int) (fo : Option Addr) (fc : Nat) (facts : List Fa) (so : Option Addr) (sc : Nat) (said : List Va) (w : World) (hx : FasIn w w.heap.size fo facts) (hs : ValsIn w w.heap.size so said) (hq : ∀ f ∈ facts, (f.ao = none → f.cap = 0) ∧ f.args.length ≤ 1099511627776) (hso : so = none → sc = 0) (hl : facts.length ≤ 1099511627776) (hl2 : said.length ≤ 1099511627776) :
    Calls Tryz.prog 25 #[.agg #[.int .i64 er, .int .i64 num, .slice fo facts.length fc, .slice so said.length sc]] w fun e w' => ∃ (g1 g2 : Nat) (frs : List Fa), e = .returned (.agg #[.int .i64 er, .int .i64 num, .slice (some ⟨g1, 0, none⟩) facts.length (facts.length + 12), .slice (some ⟨g2, 0, none⟩) said.length (said.length + 12)]) ∧ frs.map Fa.plain = facts.map Fa.plain ∧ FasLent w' w.heap.size g1 facts.length frs ∧ LentV w' w.heap.size g2 said ∧ Below w.heap.size w w' := by
  obtain ⟨hb2, h1, h2, hz2⟩ := alloc2_facts w #[.int .i64 er, .int .i64 num, .slice fo facts.length fc, .slice so said.length sc] #[.int .i64 0, .int .i64 0, .slice none 0 0, .slice none 0 0] 34 34
  have HX := Lib.hid hx
  have HS := Lib.hid hs
  have HQ := Lib.hid hq
  have HSO := Lib.hid hso
  clear hx hs hq hso
  have HB2 := Lib.hid hb2
  have H1 := Lib.hid h1
  have H2 := Lib.hid h2
  have HZ := Lib.hid hz2
  clear hb2 h1 h2 hz2
  go_enter Tryz.func25, Tryz.ntmps25
  go_wp2_with fail
  have hb2 := HB2.out
  have h1 := H1.out
  have h2 := H2.out
  have hz2 := HZ.out
  generalize ((w.alloc (.cells #[.int .i64 er, .int .i64 num, .slice fo facts.length fc, .slice so said.length sc] 34)).alloc (.cells #[.int .i64 0, .int .i64 0, .slice none 0 0, .slice none 0 0] 34)) = w2 at hb2 h1 h2 hz2 ⊢
  have H1 := Lib.hid h1
  have H2 := Lib.hid h2
  have HZ := Lib.hid hz2
  clear h1 h2 hz2 HB2
  refine (lentFas_any fo fc facts w2 (RowsIn.mono faSub_rising (RowsIn.below faSub_kept HX.out hb2 (Nat.le_refl _)) hb2.size) HQ.out hl).mono ?_
  rintro e w3 ⟨frs, rfl, hmap, hL, hb3⟩
  obtain ⟨g1, hg1⟩ : ∃ g, w2.heap.size = g := ⟨_, rfl⟩
  rw [hg1]
  have hLb : FasLent w3 w2.heap.size g1 facts.length frs := hg1 ▸ hL
  have k1 := (hb3.block w.heap.size (by have := HZ.out; omega)).trans H1.out
  have k2 := (hb3.block (w.heap.size + 1) (by have := HZ.out; omega)).trans H2.out
  have c0 : w3.cell? ⟨w.heap.size, 0, none⟩ = some (.int .i64 er) := Go.Joins.cell_of_block k1 0
  have c1 : w3.cell? ⟨w.heap.size, 1, none⟩ = some (.int .i64 num) := Go.Joins.cell_of_block k1 1
  have c2 : w3.cell? ⟨w.heap.size, 2, none⟩ = some (.slice fo facts.length fc) := Go.Joins.cell_of_block k1 2
  have c3 : w3.cell? ⟨w.heap.size, 3, none⟩ = some (.slice so said.length sc) := Go.Joins.cell_of_block k1 3
  have fc2 : w3.frozen? ⟨w.heap.size, 2, none⟩ = false := Go.Joins.unfrozen_of_block k1 2
  have d0 : w3.cell? ⟨w.heap.size + 1, 0, none⟩ = some (.int .i64 0) := Go.Joins.cell_of_block k2 0
  have d1 : w3.cell? ⟨w.heap.size + 1, 1, none⟩ = some (.int .i64 0) := Go.Joins.cell_of_block k2 1
  have d2 : w3.cell? ⟨w.heap.size + 1, 2, none⟩ = some (.slice none 0 0) := Go.Joins.cell_of_block k2 2
  have d3 : w3.cell? ⟨w.heap.size + 1, 3, none⟩ = some (.slice none 0 0) := Go.Joins.cell_of_block k2 3
  have hb3' := hb2.trans (hb3.mono hb2.size)
  obtain ⟨w4, hw4⟩ : ∃ w', w3.setCell ⟨w.heap.size, 2, none⟩ (.slice (some ⟨g1, 0, none⟩) facts.length (facts.length + 12)) = w' := ⟨_, rfl⟩
  have k3 : w4.heap[w.heap.size]? = some (.cells #[.int .i64 er, .int .i64 num, .slice (some ⟨g1, 0, none⟩) facts.length (facts.length + 12), .slice so said.length sc] 34 (0, 0)) := hw4 ▸ Go.Joins.block_setCell (i := 2) k1 _
  have k4 : w4.heap[w.heap.size + 1]? = some (.cells #[.int .i64 0, .int .i64 0, .slice none 0 0, .slice none 0 0] 34 (0, 0)) := by rw [← hw4, heap_setCell_other _ _ _ _ (by simp)]; exact k2
  have hb4 : Below w.heap.size w w4 := hw4 ▸ hb3'.setCell (p := ⟨w.heap.size, 2, none⟩) (Nat.le_refl _) _
  have hz4 : w4.heap.size = w3.heap.size := by rw [← hw4]; simp
  have hz23 := hb3.size
  have hL4 : FasLent w4 w2.heap.size g1 facts.length frs := hLb.blocks fun g hg _ => by rw [← hw4, heap_setCell_other _ _ _ _ (by have := HZ.out; simp; omega)]
  have HL4 := Lib.hid hL4
  have HMAP := Lib.hid hmap
  have K3 := Lib.hid k3
  have K4 := Lib.hid k4
  have HW4 := Lib.hid hw4
  have HB4 := Lib.hid hb4
  have HZ4 := Lib.hid hz4
  have HZ23 := Lib.hid hz23
  have HB2 := Lib.hid hb2.size
  clear hL hLb k1 k2 k3 k4 hw4 hb4 hz4 hz23 hL4 hb3 hb3' hmap hg1 hb2
  go_wp2_with fail
  rw [HW4.out]
  clear c0 c1 c2 c3 fc2 d0 d1 d2 d3
  refine (lentV_at so said.length sc said w4 w.heap.size rfl (RowsIn.below noSub_kept HS.out HB4.out (Nat.le_refl _)) HB4.out.size HSO.out hl2).mono ?_
  rintro e w5 ⟨g2, rfl, hg2, _, hV, hb5⟩
  have z1 := HZ.out
  have z2 := HZ4.out
  have z3 := HZ23.out
  have k1 := (hb5.block w.heap.size (by omega)).trans K3.out
  have k2 := (hb5.block (w.heap.size + 1) (by omega)).trans K4.out
  have c0 : w5.cell? ⟨w.heap.size, 0, none⟩ = some (.int .i64 er) := Go.Joins.cell_of_block k1 0
  have c1 : w5.cell? ⟨w.heap.size, 1, none⟩ = some (.int .i64 num) := Go.Joins.cell_of_block k1 1
  have c2 : w5.cell? ⟨w.heap.size, 2, none⟩ = some (.slice (some ⟨g1, 0, none⟩) facts.length (facts.length + 12)) := Go.Joins.cell_of_block k1 2
  have c3 : w5.cell? ⟨w.heap.size, 3, none⟩ = some (.slice so said.length sc) := Go.Joins.cell_of_block k1 3
  have fc3 : w5.frozen? ⟨w.heap.size, 3, none⟩ = false := Go.Joins.unfrozen_of_block k1 3
  have d0 : w5.cell? ⟨w.heap.size + 1, 0, none⟩ = some (.int .i64 0) := Go.Joins.cell_of_block k2 0
  have d1 : w5.cell? ⟨w.heap.size + 1, 1, none⟩ = some (.int .i64 0) := Go.Joins.cell_of_block k2 1
  have d2 : w5.cell? ⟨w.heap.size + 1, 2, none⟩ = some (.slice none 0 0) := Go.Joins.cell_of_block k2 2
  have d3 : w5.cell? ⟨w.heap.size + 1, 3, none⟩ = some (.slice none 0 0) := Go.Joins.cell_of_block k2 3
  have fd0 : w5.frozen? ⟨w.heap.size + 1, 0, none⟩ = false := Go.Joins.unfrozen_of_block k2 0
  have fd1 : w5.frozen? ⟨w.heap.size + 1, 1, none⟩ = false := Go.Joins.unfrozen_of_block k2 1
  have fd2 : w5.frozen? ⟨w.heap.size + 1, 2, none⟩ = false := Go.Joins.unfrozen_of_block k2 2
  have fd3 : w5.frozen? ⟨w.heap.size + 1, 3, none⟩ = false := Go.Joins.unfrozen_of_block k2 3
  have HL5 := Lib.hid (HL4.out.below hb5 (Nat.le_refl _))
  have HV := Lib.hid hV
  have HB5 := Lib.hid (HB4.out.trans (hb5.mono HB4.out.size))
  have hz5 : w4.heap.size ≤ w5.heap.size := hb5.size
  have HZS := Lib.hid (And.intro z1 (And.intro z2 (And.intro z3 hz5)))
  clear hV k1 k2 hb5 z1 z2 z3 hz5
  go_wp2_with fail
  have hkeep : ∀ g, w2.heap.size ≤ g → g < w5.heap.size → (((((w5.setCell ⟨w.heap.size, 3, none⟩ (.slice (some ⟨g2, 0, none⟩) said.length (said.length + 12))).setCell ⟨w.heap.size + 1, 0, none⟩ (.int .i64 er)).setCell ⟨w.heap.size + 1, 1, none⟩ (.int .i64 num)).setCell ⟨w.heap.size + 1, 2, none⟩ (.slice (some ⟨g1, 0, none⟩) facts.length (facts.length + 12))).setCell ⟨w.heap.size + 1, 3, none⟩ (.slice (some ⟨g2, 0, none⟩) said.length (said.length + 12))).heap[g]? = w5.heap[g]? := fun g hg _ => by
    have := HZS.out
    rw [heap_setCell_other _ _ _ _ (by simp; omega), heap_setCell_other _ _ _ _ (by simp; omega), heap_setCell_other _ _ _ _ (by simp; omega), heap_setCell_other _ _ _ _ (by simp; omega), heap_setCell_other _ _ _ _ (by simp; omega)]
  have hfl := FasLent.blocks HL5.out hkeep
  have hvl := LentV.blocks HV.out (fun g hg hlt => hkeep g (by have := HZS.out; omega) hlt)
  have hbb := (((((HB5.out.setCell (p := ⟨w.heap.size, 3, none⟩) (Nat.le_refl _) (.slice (some ⟨g2, 0, none⟩) said.length (said.length + 12))).setCell (p := ⟨w.heap.size + 1, 0, none⟩) (Nat.le_succ _) (.int .i64 er)).setCell (p := ⟨w.heap.size + 1, 1, none⟩) (Nat.le_succ _) (.int .i64 num)).setCell (p := ⟨w.heap.size + 1, 2, none⟩) (Nat.le_succ _) (.slice (some ⟨g1, 0, none⟩) facts.length (facts.length + 12))).setCell (p := ⟨w.heap.size + 1, 3, none⟩) (Nat.le_succ _) (.slice (some ⟨g2, 0, none⟩) said.length (said.length + 12)))
  exact bodyPost_ret (v := .agg #[.int .i64 er, .int .i64 num, .slice (some ⟨g1, 0, none⟩) facts.length (facts.length + 12), .slice (some ⟨g2, 0, none⟩) said.length (said.length + 12)]) (by simp [results, Tryz.results25, go_sem, d0, d1, d2, d3]) rfl ⟨g1, g2, frs, rfl, HMAP.out, hfl.le HB2.out, hvl.le (by have := HZS.out; omega), hbb⟩
set_option maxHeartbeats 2000000 in
theorem keptRp_any (er num : Int) (fo : Option Addr) (fc : Nat) (facts : List Fa) (so : Option Addr) (sc : Nat) (said : List Va) (frs : List Fa) (g1 g2 B : Nat) (w : World) (hx : FasIn w w.heap.size fo facts) (hs : ValsIn w w.heap.size so said) (hmap : frs.map Fa.plain = facts.map Fa.plain) (hL : FasLent w B g1 facts.length frs) (hV : LentV w B g2 said) (hd : ∀ f ∈ facts, f.args.length ≤ 1099511627776) (hl : facts.length ≤ 1099511627776) (hl2 : said.length ≤ 1099511627776) :
    Calls Tryz.prog 38 #[.agg #[.int .i64 er, .int .i64 num, .slice (some ⟨g1, 0, none⟩) facts.length (facts.length + 12), .slice (some ⟨g2, 0, none⟩) said.length (said.length + 12)], .agg #[.int .i64 er, .int .i64 num, .slice fo facts.length fc, .slice so said.length sc]] w fun e w' => e = .returned (.bool true) ∧ Below w.heap.size w w' := by
  obtain ⟨hb2, h1, h2, hz2⟩ := alloc2_facts w #[.int .i64 er, .int .i64 num, .slice (some ⟨g1, 0, none⟩) facts.length (facts.length + 12), .slice (some ⟨g2, 0, none⟩) said.length (said.length + 12)] #[.int .i64 er, .int .i64 num, .slice fo facts.length fc, .slice so said.length sc] 34 34
  have hfl : frs.length = facts.length := by have := congrArg List.length hmap; simpa using this
  have HX := Lib.hid hx
  have HS := Lib.hid hs
  have HL := Lib.hid hL
  have HV := Lib.hid hV
  have HD := Lib.hid hd
  have HMAP := Lib.hid hmap
  have HFL := Lib.hid hfl
  clear hx hs hL hV hd hmap hfl
  have HB2 := Lib.hid hb2
  have H1 := Lib.hid h1
  have H2 := Lib.hid h2
  have HZ := Lib.hid hz2
  clear hb2 h1 h2 hz2
  go_enter Tryz.func38, Tryz.ntmps38
  go_wp2_with fail
  have hb2 := HB2.out
  have h1 := H1.out
  have h2 := H2.out
  have hz2 := HZ.out
  generalize ((w.alloc (.cells #[.int .i64 er, .int .i64 num, .slice (some ⟨g1, 0, none⟩) facts.length (facts.length + 12), .slice (some ⟨g2, 0, none⟩) said.length (said.length + 12)] 34)).alloc (.cells #[.int .i64 er, .int .i64 num, .slice fo facts.length fc, .slice so said.length sc] 34)) = w2 at hb2 h1 h2 hz2 ⊢
  have H1 := Lib.hid h1
  have H2 := Lib.hid h2
  have HZ := Lib.hid hz2
  clear h1 h2 hz2 HB2
  have hL2 := HL.out.below hb2 (Nat.le_refl _)
  have hV2 := HV.out.below hb2 (Nat.le_refl _)
  have HX2 := Lib.hid (RowsIn.mono faSub_rising (RowsIn.below faSub_kept HX.out hb2 (Nat.le_refl _)) hb2.size)
  have HS2 := Lib.hid (RowsIn.mono noSub_rising (RowsIn.below noSub_kept HS.out hb2 (Nat.le_refl _)) hb2.size)
  have HL2 := Lib.hid hL2
  have HV2 := Lib.hid hV2
  have HSAME := Lib.hid (show Calls Tryz.prog 75 #[.agg #[.int .i64 er, .int .i64 num, .slice (some ⟨g1, 0, none⟩) facts.length (facts.length + 12), .slice (some ⟨g2, 0, none⟩) said.length (said.length + 12)], .agg #[.int .i64 er, .int .i64 num, .slice fo facts.length fc, .slice so said.length sc]] w2 fun e w' => e = .returned (.bool true) ∧ Below w2.heap.size w2 w' from by
    have h := sameRp_any ⟨er, num, some ⟨g1, 0, none⟩, frs, facts.length + 12, some ⟨g2, 0, none⟩, said, said.length + 12⟩ ⟨er, num, fo, facts, fc, so, said, sc⟩ w2 w2.heap.size (by unfold Rp.plain; dsimp only; rw [HMAP.out]) ⟨hL2.rows HFL.out, RowsIn.mono noSub_rising hV2.rows hV2.lt.2⟩ ⟨HX2.out, HS2.out⟩ (Nat.le_refl _) (by show frs.length ≤ _; rw [HFL.out]; exact hl) (fun f hf => by
      have hm : f.plain ∈ facts.map Fa.plain := by rw [← HMAP.out]; exact List.mem_map_of_mem hf
      obtain ⟨y, hy, he⟩ := List.mem_map.1 hm
      have : y.args = f.args := congrArg FaP.args he
      rw [← this]
      exact HD.out y hy) (by show said.length ≤ _; omega)
    unfold rpVal at h
    dsimp only at h
    rw [HFL.out] at h
    exact h)
  clear hL2 hV2
  refine HSAME.out.mono ?_
  rintro e w3 ⟨rfl, hb3⟩
  have k1 := (hb3.block w.heap.size (by have := HZ.out; omega)).trans H1.out
  have k2 := (hb3.block (w.heap.size + 1) (by have := HZ.out; omega)).trans H2.out
  have c2 : w3.cell? ⟨w.heap.size, 2, none⟩ = some (.slice (some ⟨g1, 0, none⟩) facts.length (facts.length + 12)) := Go.Joins.cell_of_block k1 2
  have d2 : w3.cell? ⟨w.heap.size + 1, 2, none⟩ = some (.slice fo facts.length fc) := Go.Joins.cell_of_block k2 2
  have hb4 := hb2.trans (hb3.mono hb2.size)
  clear k1 k2 HSAME
  go_wp2_with fail
  refine (keptFas_any fo fc g1 B facts frs w3 (RowsIn.mono faSub_rising (RowsIn.below faSub_kept HX2.out hb3 (Nat.le_refl _)) hb3.size) (HL2.out.below hb3 (Nat.le_refl _)).row (HL2.out.below hb3 (Nat.le_refl _)).lent HMAP.out HD.out hl).mono ?_
  rintro e w4 ⟨rfl, hb5⟩
  have hb6 := hb3.trans (hb5.mono hb3.size)
  have k1 := (hb6.block w.heap.size (by have := HZ.out; omega)).trans H1.out
  have k2 := (hb6.block (w.heap.size + 1) (by have := HZ.out; omega)).trans H2.out
  have c3 : w4.cell? ⟨w.heap.size, 3, none⟩ = some (.slice (some ⟨g2, 0, none⟩) said.length (said.length + 12)) := Go.Joins.cell_of_block k1 3
  have d3 : w4.cell? ⟨w.heap.size + 1, 3, none⟩ = some (.slice so said.length sc) := Go.Joins.cell_of_block k2 3
  clear k1 k2 c2 d2
  go_wp2_with fail
  refine (keptV_at so said.length sc (said.length + 12) g2 B (some ⟨g2, 0, none⟩) said w4 w2.heap.size rfl rfl rfl (RowsIn.below noSub_kept HS2.out hb6 (Nat.le_refl _)) hb6.size (HV2.out.below hb6 (Nat.le_refl _)) hl2).mono ?_
  rintro e w5 ⟨rfl, hb7⟩
  clear c3 d3
  go_wp2_with fail
  go_ret
  exact ⟨rfl, (hb4.trans (hb5.mono hb4.size)).trans (hb7.mono (Nat.le_trans hb2.size hb6.size))⟩
set_option maxHeartbeats 4000000 in
theorem lentEn_any (x0 x1 x2 x3 ck : Int) (text : ByteArray) (ao : Option Addr) (cap : Nat) (args : List Va) (num : Int) (vo : Option Addr) (vc : Nat) (vs : List Int) (w : World) (hx : ValsIn w w.heap.size ao args) (hy : NumsIn w w.heap.size vo vs) (hao : ao = none → cap = 0) (hvo : vo = none → vc = 0) (hl : args.length ≤ 1099511627776) (hl2 : vs.length ≤ 1099511627776) :
    Calls Tryz.prog 26 #[.agg #[.int .i64 x0, .int .u8 x1, .int .i64 x2, .int .i64 x3, .int .u8 ck, .string text, .slice ao args.length cap, .int .i64 num, .slice vo vs.length vc]] w fun e w' => ∃ (g1 g2 : Nat), e = .returned (.agg #[.int .i64 x0, .int .u8 x1, .int .i64 x2, .int .i64 x3, .int .u8 ck, .string text, .slice (some ⟨g1, 0, none⟩) args.length (args.length + 12), .int .i64 num, .slice (some ⟨g2, 0, none⟩) vs.length (vs.length + 12)]) ∧ LentV w' w.heap.size g1 args ∧ LentI w' w.heap.size g2 vs ∧ Below w.heap.size w w' := by
  obtain ⟨hb2, h1, h2, hz2⟩ := alloc2_facts w #[.int .i64 x0, .int .u8 x1, .int .i64 x2, .int .i64 x3, .int .u8 ck, .string text, .slice ao args.length cap, .int .i64 num, .slice vo vs.length vc] #[.int .i64 0, .int .u8 0, .int .i64 0, .int .i64 0, .int .u8 0, .string ⟨#[]⟩, .slice none 0 0, .int .i64 0, .slice none 0 0] 38 38
  have HX := Lib.hid hx
  have HY := Lib.hid hy
  have HAO := Lib.hid hao
  have HVO := Lib.hid hvo
  clear hx hy hao hvo
  have HB2 := Lib.hid hb2
  have H1 := Lib.hid h1
  have H2 := Lib.hid h2
  have HZ := Lib.hid hz2
  clear hb2 h1 h2 hz2
  go_enter Tryz.func26, Tryz.ntmps26
  go_wp2_with fail
  have hb2 := HB2.out
  have h1 := H1.out
  have h2 := H2.out
  have hz2 := HZ.out
  generalize ((w.alloc (.cells #[.int .i64 x0, .int .u8 x1, .int .i64 x2, .int .i64 x3, .int .u8 ck, .string text, .slice ao args.length cap, .int .i64 num, .slice vo vs.length vc] 38)).alloc (.cells #[.int .i64 0, .int .u8 0, .int .i64 0, .int .i64 0, .int .u8 0, .string ⟨#[]⟩, .slice none 0 0, .int .i64 0, .slice none 0 0] 38)) = w2 at hb2 h1 h2 hz2 ⊢
  have H1 := Lib.hid h1
  have H2 := Lib.hid h2
  have HZ := Lib.hid hz2
  clear h1 h2 hz2 HB2
  refine (lentC_any ck text num ao args.length cap args w2 rfl (RowsIn.mono noSub_rising (RowsIn.below noSub_kept HX.out hb2 (Nat.le_refl _)) hb2.size) HAO.out hl).mono ?_
  rintro e w3 ⟨g1, rfl, hg1, hL, hb3⟩
  have k1 := (hb3.block w.heap.size (by have := HZ.out; omega)).trans H1.out
  have k2 := (hb3.block (w.heap.size + 1) (by have := HZ.out; omega)).trans H2.out
  have c0 : w3.cell? ⟨w.heap.size, 0, none⟩ = some (.int .i64 x0) := Go.Joins.cell_of_block k1 0
  have c1 : w3.cell? ⟨w.heap.size, 1, none⟩ = some (.int .u8 x1) := Go.Joins.cell_of_block k1 1
  have c2 : w3.cell? ⟨w.heap.size, 2, none⟩ = some (.int .i64 x2) := Go.Joins.cell_of_block k1 2
  have c3 : w3.cell? ⟨w.heap.size, 3, none⟩ = some (.int .i64 x3) := Go.Joins.cell_of_block k1 3
  have c4 : w3.cell? ⟨w.heap.size, 4, none⟩ = some (.int .u8 ck) := Go.Joins.cell_of_block k1 4
  have c5 : w3.cell? ⟨w.heap.size, 5, none⟩ = some (.string text) := Go.Joins.cell_of_block k1 5
  have c6 : w3.cell? ⟨w.heap.size, 6, none⟩ = some (.slice ao args.length cap) := Go.Joins.cell_of_block k1 6
  have c7 : w3.cell? ⟨w.heap.size, 7, none⟩ = some (.int .i64 num) := Go.Joins.cell_of_block k1 7
  have c8 : w3.cell? ⟨w.heap.size, 8, none⟩ = some (.slice vo vs.length vc) := Go.Joins.cell_of_block k1 8
  have fc4 : w3.frozen? ⟨w.heap.size, 4, none⟩ = false := Go.Joins.unfrozen_of_block k1 4
  have fc5 : w3.frozen? ⟨w.heap.size, 5, none⟩ = false := Go.Joins.unfrozen_of_block k1 5
  have fc6 : w3.frozen? ⟨w.heap.size, 6, none⟩ = false := Go.Joins.unfrozen_of_block k1 6
  have fc7 : w3.frozen? ⟨w.heap.size, 7, none⟩ = false := Go.Joins.unfrozen_of_block k1 7
  have hb3' := hb2.trans (hb3.mono hb2.size)
  obtain ⟨w4, hw4⟩ : ∃ w', (((w3.setCell ⟨w.heap.size, 4, none⟩ (.int .u8 ck)).setCell ⟨w.heap.size, 5, none⟩ (.string text)).setCell ⟨w.heap.size, 6, none⟩ (.slice (some ⟨g1, 0, none⟩) args.length (args.length + 12))).setCell ⟨w.heap.size, 7, none⟩ (.int .i64 num) = w' := ⟨_, rfl⟩
  have k3 : w4.heap[w.heap.size]? = some (.cells #[.int .i64 x0, .int .u8 x1, .int .i64 x2, .int .i64 x3, .int .u8 ck, .string text, .slice (some ⟨g1, 0, none⟩) args.length (args.length + 12), .int .i64 num, .slice vo vs.length vc] 38 (0, 0)) := hw4 ▸ Go.Joins.block_setCell (i := 7) (Go.Joins.block_setCell (i := 6) (Go.Joins.block_setCell (i := 5) (Go.Joins.block_setCell (i := 4) k1 _) _) _) _
  have k4 : w4.heap[w.heap.size + 1]? = some (.cells #[.int .i64 0, .int .u8 0, .int .i64 0, .int .i64 0, .int .u8 0, .string ⟨#[]⟩, .slice none 0 0, .int .i64 0, .slice none 0 0] 38 (0, 0)) := by rw [← hw4, heap_setCell_other _ _ _ _ (by simp), heap_setCell_other _ _ _ _ (by simp), heap_setCell_other _ _ _ _ (by simp), heap_setCell_other _ _ _ _ (by simp)]; exact k2
  have hb4 : Below w.heap.size w w4 := hw4 ▸ (((hb3'.setCell (p := ⟨w.heap.size, 4, none⟩) (Nat.le_refl _) _).setCell (p := ⟨w.heap.size, 5, none⟩) (Nat.le_refl _) _).setCell (p := ⟨w.heap.size, 6, none⟩) (Nat.le_refl _) _).setCell (p := ⟨w.heap.size, 7, none⟩) (Nat.le_refl _) _
  have hz4 : w4.heap.size = w3.heap.size := by rw [← hw4]; simp
  have hz23 := hb3.size
  have hL4 : LentV w4 w2.heap.size g1 args := hL.blocks fun g hg _ => by rw [← hw4, heap_setCell_other _ _ _ _ (by have := HZ.out; simp; omega), heap_setCell_other _ _ _ _ (by have := HZ.out; simp; omega), heap_setCell_other _ _ _ _ (by have := HZ.out; simp; omega), heap_setCell_other _ _ _ _ (by have := HZ.out; simp; omega)]
  have HL4 := Lib.hid hL4
  have K3 := Lib.hid k3
  have K4 := Lib.hid k4
  have HW4 := Lib.hid hw4
  have HB4 := Lib.hid hb4
  have HZ4 := Lib.hid hz4
  have HZ23 := Lib.hid hz23
  have HB2 := Lib.hid hb2.size
  clear hL k1 k2 k3 k4 hw4 hb4 hz4 hz23 hL4 hb3 hb3' hb2
  go_wp2_with fail
  rw [HW4.out]
  clear c0 c1 c2 c3 c4 c5 c6 c7 c8 fc4 fc5 fc6 fc7
  refine (lentI_any vo vs.length vc vs w4 rfl (RowsIn.mono noSub_rising (RowsIn.below noSub_kept HY.out HB4.out (Nat.le_refl _)) HB4.out.size) HVO.out hl2).mono ?_
  rintro e w5 ⟨g2, rfl, hg2, _, hV, hb5⟩
  have z1 := HZ.out
  have z2 := HZ4.out
  have z3 := HZ23.out
  have k1 := (hb5.block w.heap.size (by omega)).trans K3.out
  have k2 := (hb5.block (w.heap.size + 1) (by omega)).trans K4.out
  have c0 : w5.cell? ⟨w.heap.size, 0, none⟩ = some (.int .i64 x0) := Go.Joins.cell_of_block k1 0
  have c1 : w5.cell? ⟨w.heap.size, 1, none⟩ = some (.int .u8 x1) := Go.Joins.cell_of_block k1 1
  have c2 : w5.cell? ⟨w.heap.size, 2, none⟩ = some (.int .i64 x2) := Go.Joins.cell_of_block k1 2
  have c3 : w5.cell? ⟨w.heap.size, 3, none⟩ = some (.int .i64 x3) := Go.Joins.cell_of_block k1 3
  have c4 : w5.cell? ⟨w.heap.size, 4, none⟩ = some (.int .u8 ck) := Go.Joins.cell_of_block k1 4
  have c5 : w5.cell? ⟨w.heap.size, 5, none⟩ = some (.string text) := Go.Joins.cell_of_block k1 5
  have c6 : w5.cell? ⟨w.heap.size, 6, none⟩ = some (.slice (some ⟨g1, 0, none⟩) args.length (args.length + 12)) := Go.Joins.cell_of_block k1 6
  have c7 : w5.cell? ⟨w.heap.size, 7, none⟩ = some (.int .i64 num) := Go.Joins.cell_of_block k1 7
  have c8 : w5.cell? ⟨w.heap.size, 8, none⟩ = some (.slice vo vs.length vc) := Go.Joins.cell_of_block k1 8
  have fc8 : w5.frozen? ⟨w.heap.size, 8, none⟩ = false := Go.Joins.unfrozen_of_block k1 8
  have d0 : w5.cell? ⟨w.heap.size + 1, 0, none⟩ = some (.int .i64 0) := Go.Joins.cell_of_block k2 0
  have d1 : w5.cell? ⟨w.heap.size + 1, 1, none⟩ = some (.int .u8 0) := Go.Joins.cell_of_block k2 1
  have d2 : w5.cell? ⟨w.heap.size + 1, 2, none⟩ = some (.int .i64 0) := Go.Joins.cell_of_block k2 2
  have d3 : w5.cell? ⟨w.heap.size + 1, 3, none⟩ = some (.int .i64 0) := Go.Joins.cell_of_block k2 3
  have d4 : w5.cell? ⟨w.heap.size + 1, 4, none⟩ = some (.int .u8 0) := Go.Joins.cell_of_block k2 4
  have d5 : w5.cell? ⟨w.heap.size + 1, 5, none⟩ = some (.string ⟨#[]⟩) := Go.Joins.cell_of_block k2 5
  have d6 : w5.cell? ⟨w.heap.size + 1, 6, none⟩ = some (.slice none 0 0) := Go.Joins.cell_of_block k2 6
  have d7 : w5.cell? ⟨w.heap.size + 1, 7, none⟩ = some (.int .i64 0) := Go.Joins.cell_of_block k2 7
  have d8 : w5.cell? ⟨w.heap.size + 1, 8, none⟩ = some (.slice none 0 0) := Go.Joins.cell_of_block k2 8
  have fd0 : w5.frozen? ⟨w.heap.size + 1, 0, none⟩ = false := Go.Joins.unfrozen_of_block k2 0
  have fd1 : w5.frozen? ⟨w.heap.size + 1, 1, none⟩ = false := Go.Joins.unfrozen_of_block k2 1
  have fd2 : w5.frozen? ⟨w.heap.size + 1, 2, none⟩ = false := Go.Joins.unfrozen_of_block k2 2
  have fd3 : w5.frozen? ⟨w.heap.size + 1, 3, none⟩ = false := Go.Joins.unfrozen_of_block k2 3
  have fd4 : w5.frozen? ⟨w.heap.size + 1, 4, none⟩ = false := Go.Joins.unfrozen_of_block k2 4
  have fd5 : w5.frozen? ⟨w.heap.size + 1, 5, none⟩ = false := Go.Joins.unfrozen_of_block k2 5
  have fd6 : w5.frozen? ⟨w.heap.size + 1, 6, none⟩ = false := Go.Joins.unfrozen_of_block k2 6
  have fd7 : w5.frozen? ⟨w.heap.size + 1, 7, none⟩ = false := Go.Joins.unfrozen_of_block k2 7
  have fd8 : w5.frozen? ⟨w.heap.size + 1, 8, none⟩ = false := Go.Joins.unfrozen_of_block k2 8
  have HL5 := Lib.hid (HL4.out.below hb5 (Nat.le_refl _))
  have HV := Lib.hid hV
  have HB5 := Lib.hid (HB4.out.trans (hb5.mono HB4.out.size))
  have hz5 : w4.heap.size ≤ w5.heap.size := hb5.size
  have HZS := Lib.hid (And.intro z1 (And.intro z2 (And.intro z3 hz5)))
  clear hV k1 k2 hb5 z1 z2 z3 hz5
  go_wp2_with fail
  have hkeep : ∀ g, w2.heap.size ≤ g → g < w5.heap.size → ((((((((((w5.setCell ⟨w.heap.size, 8, none⟩ (.slice (some ⟨g2, 0, none⟩) vs.length (vs.length + 12))).setCell ⟨w.heap.size + 1, 0, none⟩ (.int .i64 x0)).setCell ⟨w.heap.size + 1, 1, none⟩ (.int .u8 x1)).setCell ⟨w.heap.size + 1, 2, none⟩ (.int .i64 x2)).setCell ⟨w.heap.size + 1, 3, none⟩ (.int .i64 x3)).setCell ⟨w.heap.size + 1, 4, none⟩ (.int .u8 ck)).setCell ⟨w.heap.size + 1, 5, none⟩ (.string text)).setCell ⟨w.heap.size + 1, 6, none⟩ (.slice (some ⟨g1, 0, none⟩) args.length (args.length + 12))).setCell ⟨w.heap.size + 1, 7, none⟩ (.int .i64 num)).setCell ⟨w.heap.size + 1, 8, none⟩ (.slice (some ⟨g2, 0, none⟩) vs.length (vs.length + 12))).heap[g]? = w5.heap[g]? := fun g hg _ => by
    have := HZS.out
    rw [heap_setCell_other _ _ _ _ (by simp; omega), heap_setCell_other _ _ _ _ (by simp; omega), heap_setCell_other _ _ _ _ (by simp; omega), heap_setCell_other _ _ _ _ (by simp; omega), heap_setCell_other _ _ _ _ (by simp; omega), heap_setCell_other _ _ _ _ (by simp; omega), heap_setCell_other _ _ _ _ (by simp; omega), heap_setCell_other _ _ _ _ (by simp; omega), heap_setCell_other _ _ _ _ (by simp; omega), heap_setCell_other _ _ _ _ (by simp; omega)]
  have hfl := LentV.blocks HL5.out hkeep
  have hvl := LentI.blocks HV.out (fun g hg hlt => hkeep g (by have := HZS.out; omega) hlt)
  have hbb := ((((((((((HB5.out.setCell (p := ⟨w.heap.size, 8, none⟩) (Nat.le_refl _) (.slice (some ⟨g2, 0, none⟩) vs.length (vs.length + 12))).setCell (p := ⟨w.heap.size + 1, 0, none⟩) (Nat.le_succ _) (.int .i64 x0)).setCell (p := ⟨w.heap.size + 1, 1, none⟩) (Nat.le_succ _) (.int .u8 x1)).setCell (p := ⟨w.heap.size + 1, 2, none⟩) (Nat.le_succ _) (.int .i64 x2)).setCell (p := ⟨w.heap.size + 1, 3, none⟩) (Nat.le_succ _) (.int .i64 x3)).setCell (p := ⟨w.heap.size + 1, 4, none⟩) (Nat.le_succ _) (.int .u8 ck)).setCell (p := ⟨w.heap.size + 1, 5, none⟩) (Nat.le_succ _) (.string text)).setCell (p := ⟨w.heap.size + 1, 6, none⟩) (Nat.le_succ _) (.slice (some ⟨g1, 0, none⟩) args.length (args.length + 12))).setCell (p := ⟨w.heap.size + 1, 7, none⟩) (Nat.le_succ _) (.int .i64 num)).setCell (p := ⟨w.heap.size + 1, 8, none⟩) (Nat.le_succ _) (.slice (some ⟨g2, 0, none⟩) vs.length (vs.length + 12)))
  exact bodyPost_ret (v := .agg #[.int .i64 x0, .int .u8 x1, .int .i64 x2, .int .i64 x3, .int .u8 ck, .string text, .slice (some ⟨g1, 0, none⟩) args.length (args.length + 12), .int .i64 num, .slice (some ⟨g2, 0, none⟩) vs.length (vs.length + 12)]) (by simp [results, Tryz.results26, go_sem, d0, d1, d2, d3, d4, d5, d6, d7, d8]) rfl ⟨g1, g2, rfl, hfl.le HB2.out, hvl.le (by have := HZS.out; omega), hbb⟩
set_option maxHeartbeats 2000000 in
theorem keptEn_any (x0 x1 x2 x3 ck : Int) (text : ByteArray) (ao : Option Addr) (cap : Nat) (args : List Va) (num : Int) (vo : Option Addr) (vc : Nat) (vs : List Int) (g1 g2 B : Nat) (w : World) (hx : ValsIn w w.heap.size ao args) (hy : NumsIn w w.heap.size vo vs) (hL : LentV w B g1 args) (hV : LentI w B g2 vs) (hl : args.length ≤ 1099511627776) (hl2 : vs.length ≤ 1099511627776) :
    Calls Tryz.prog 39 #[.agg #[.int .i64 x0, .int .u8 x1, .int .i64 x2, .int .i64 x3, .int .u8 ck, .string text, .slice (some ⟨g1, 0, none⟩) args.length (args.length + 12), .int .i64 num, .slice (some ⟨g2, 0, none⟩) vs.length (vs.length + 12)], .agg #[.int .i64 x0, .int .u8 x1, .int .i64 x2, .int .i64 x3, .int .u8 ck, .string text, .slice ao args.length cap, .int .i64 num, .slice vo vs.length vc]] w fun e w' => e = .returned (.bool true) ∧ Below w.heap.size w w' := by
  obtain ⟨hb2, h1, h2, hz2⟩ := alloc2_facts w #[.int .i64 x0, .int .u8 x1, .int .i64 x2, .int .i64 x3, .int .u8 ck, .string text, .slice (some ⟨g1, 0, none⟩) args.length (args.length + 12), .int .i64 num, .slice (some ⟨g2, 0, none⟩) vs.length (vs.length + 12)] #[.int .i64 x0, .int .u8 x1, .int .i64 x2, .int .i64 x3, .int .u8 ck, .string text, .slice ao args.length cap, .int .i64 num, .slice vo vs.length vc] 38 38
  have HX := Lib.hid hx
  have HY := Lib.hid hy
  have HL := Lib.hid hL
  have HV := Lib.hid hV
  clear hx hy hL hV
  have HB2 := Lib.hid hb2
  have H1 := Lib.hid h1
  have H2 := Lib.hid h2
  have HZ := Lib.hid hz2
  clear hb2 h1 h2 hz2
  go_enter Tryz.func39, Tryz.ntmps39
  go_wp2_with fail
  have hb2 := HB2.out
  have h1 := H1.out
  have h2 := H2.out
  have hz2 := HZ.out
  generalize ((w.alloc (.cells #[.int .i64 x0, .int .u8 x1, .int .i64 x2, .int .i64 x3, .int .u8 ck, .string text, .slice (some ⟨g1, 0, none⟩) args.length (args.length + 12), .int .i64 num, .slice (some ⟨g2, 0, none⟩) vs.length (vs.length + 12)] 38)).alloc (.cells #[.int .i64 x0, .int .u8 x1, .int .i64 x2, .int .i64 x3, .int .u8 ck, .string text, .slice ao args.length cap, .int .i64 num, .slice vo vs.length vc] 38)) = w2 at hb2 h1 h2 hz2 ⊢
  have H1 := Lib.hid h1
  have H2 := Lib.hid h2
  have HZ := Lib.hid hz2
  clear h1 h2 hz2 HB2
  have hL2 := HL.out.below hb2 (Nat.le_refl _)
  have hV2 := HV.out.below hb2 (Nat.le_refl _)
  have HX2 := Lib.hid (RowsIn.mono noSub_rising (RowsIn.below noSub_kept HX.out hb2 (Nat.le_refl _)) hb2.size)
  have HY2 := Lib.hid (RowsIn.mono noSub_rising (RowsIn.below noSub_kept HY.out hb2 (Nat.le_refl _)) hb2.size)
  have HL2 := Lib.hid hL2
  have HV2 := Lib.hid hV2
  have HSAME := Lib.hid (show Calls Tryz.prog 77 #[.agg #[.int .i64 x0, .int .u8 x1, .int .i64 x2, .int .i64 x3, .int .u8 ck, .string text, .slice (some ⟨g1, 0, none⟩) args.length (args.length + 12), .int .i64 num, .slice (some ⟨g2, 0, none⟩) vs.length (vs.length + 12)], .agg #[.int .i64 x0, .int .u8 x1, .int .i64 x2, .int .i64 x3, .int .u8 ck, .string text, .slice ao args.length cap, .int .i64 num, .slice vo vs.length vc]] w2 fun e w' => e = .returned (.bool true) ∧ Below w2.heap.size w2 w' from
    sameE_any ⟨x0, x1, x2, x3, ck, text, some ⟨g1, 0, none⟩, args, args.length + 12, num, some ⟨g2, 0, none⟩, vs, vs.length + 12⟩ ⟨x0, x1, x2, x3, ck, text, ao, args, cap, num, vo, vs, vc⟩ w2 w2.heap.size rfl ⟨RowsIn.mono noSub_rising hL2.rows hL2.lt.2, RowsIn.mono noSub_rising hV2.rows hV2.lt.2⟩ ⟨HX2.out, HY2.out⟩ (Nat.le_refl _) (by show args.length ≤ _; omega) (by show vs.length ≤ _; omega))
  clear hL2 hV2
  refine HSAME.out.mono ?_
  rintro e w3 ⟨rfl, hb3⟩
  have k1 := (hb3.block w.heap.size (by have := HZ.out; omega)).trans H1.out
  have k2 := (hb3.block (w.heap.size + 1) (by have := HZ.out; omega)).trans H2.out
  have c0 : w3.cell? ⟨w.heap.size, 0, none⟩ = some (.int .i64 x0) := Go.Joins.cell_of_block k1 0
  have c1 : w3.cell? ⟨w.heap.size, 1, none⟩ = some (.int .u8 x1) := Go.Joins.cell_of_block k1 1
  have c2 : w3.cell? ⟨w.heap.size, 2, none⟩ = some (.int .i64 x2) := Go.Joins.cell_of_block k1 2
  have c3 : w3.cell? ⟨w.heap.size, 3, none⟩ = some (.int .i64 x3) := Go.Joins.cell_of_block k1 3
  have c4 : w3.cell? ⟨w.heap.size, 4, none⟩ = some (.int .u8 ck) := Go.Joins.cell_of_block k1 4
  have c5 : w3.cell? ⟨w.heap.size, 5, none⟩ = some (.string text) := Go.Joins.cell_of_block k1 5
  have c6 : w3.cell? ⟨w.heap.size, 6, none⟩ = some (.slice (some ⟨g1, 0, none⟩) args.length (args.length + 12)) := Go.Joins.cell_of_block k1 6
  have c7 : w3.cell? ⟨w.heap.size, 7, none⟩ = some (.int .i64 num) := Go.Joins.cell_of_block k1 7
  have c8 : w3.cell? ⟨w.heap.size, 8, none⟩ = some (.slice (some ⟨g2, 0, none⟩) vs.length (vs.length + 12)) := Go.Joins.cell_of_block k1 8
  have d0 : w3.cell? ⟨w.heap.size + 1, 0, none⟩ = some (.int .i64 x0) := Go.Joins.cell_of_block k2 0
  have d1 : w3.cell? ⟨w.heap.size + 1, 1, none⟩ = some (.int .u8 x1) := Go.Joins.cell_of_block k2 1
  have d2 : w3.cell? ⟨w.heap.size + 1, 2, none⟩ = some (.int .i64 x2) := Go.Joins.cell_of_block k2 2
  have d3 : w3.cell? ⟨w.heap.size + 1, 3, none⟩ = some (.int .i64 x3) := Go.Joins.cell_of_block k2 3
  have d4 : w3.cell? ⟨w.heap.size + 1, 4, none⟩ = some (.int .u8 ck) := Go.Joins.cell_of_block k2 4
  have d5 : w3.cell? ⟨w.heap.size + 1, 5, none⟩ = some (.string text) := Go.Joins.cell_of_block k2 5
  have d6 : w3.cell? ⟨w.heap.size + 1, 6, none⟩ = some (.slice ao args.length cap) := Go.Joins.cell_of_block k2 6
  have d7 : w3.cell? ⟨w.heap.size + 1, 7, none⟩ = some (.int .i64 num) := Go.Joins.cell_of_block k2 7
  have d8 : w3.cell? ⟨w.heap.size + 1, 8, none⟩ = some (.slice vo vs.length vc) := Go.Joins.cell_of_block k2 8
  have HR1 := Lib.hid (show w3.rangeAt w.heap.size 4 [.int .u8 ck, .string text, .slice (some ⟨g1, 0, none⟩) args.length (args.length + 12), .int .i64 num] from range_cons c4 (range_cons c5 (range_cons c6 (range_cons c7 range_new))))
  have HR2 := Lib.hid (show w3.rangeAt (w.heap.size + 1) 4 [.int .u8 ck, .string text, .slice ao args.length cap, .int .i64 num] from range_cons d4 (range_cons d5 (range_cons d6 (range_cons d7 range_new))))
  have hb4 := hb2.trans (hb3.mono hb2.size)
  clear k1 k2 HSAME c0 c1 c2 c3 c4 c5 c6 c7 c8 d0 d1 d2 d3 d4 d5 d6 d7 d8
  go_wp2_with (first | (refine wpList_load_want (by rfl) 30 (.tmp 9) rfl w.heap.size 4 rfl [.int .u8 ck, .string text, .slice (some ⟨g1, 0, none⟩) args.length (args.length + 12), .int .i64 num] _ HR1.out Tryz.underlying30 rfl info_cm ?_) | (refine wpList_load_want (by rfl) 30 (.tmp 11) rfl (w.heap.size + 1) 4 rfl [.int .u8 ck, .string text, .slice ao args.length cap, .int .i64 num] _ HR2.out Tryz.underlying30 rfl info_cm ?_))
  refine (keptC_any ck text num ao args.length cap g1 B args w3 rfl (RowsIn.mono noSub_rising (RowsIn.below noSub_kept HX2.out hb3 (Nat.le_refl _)) hb3.size) (HL2.out.below hb3 (Nat.le_refl _)) hl).mono ?_
  rintro e w4 ⟨rfl, hb5⟩
  have hb6 := hb3.trans (hb5.mono hb3.size)
  have k1 := (hb6.block w.heap.size (by have := HZ.out; omega)).trans H1.out
  have k2 := (hb6.block (w.heap.size + 1) (by have := HZ.out; omega)).trans H2.out
  have c8 : w4.cell? ⟨w.heap.size, 8, none⟩ = some (.slice (some ⟨g2, 0, none⟩) vs.length (vs.length + 12)) := Go.Joins.cell_of_block k1 8
  have d8 : w4.cell? ⟨w.heap.size + 1, 8, none⟩ = some (.slice vo vs.length vc) := Go.Joins.cell_of_block k2 8
  clear k1 k2
  go_wp2_with fail
  refine (keptI_at vo vs.length vc (vs.length + 12) g2 B (some ⟨g2, 0, none⟩) vs w4 w2.heap.size rfl rfl rfl (RowsIn.below noSub_kept HY2.out hb6 (Nat.le_refl _)) hb6.size (HV2.out.below hb6 (Nat.le_refl _)) hl2).mono ?_
  rintro e w5 ⟨rfl, hb7⟩
  clear c8 d8
  go_wp2_with fail
  go_ret
  exact ⟨rfl, (hb4.trans (hb5.mono hb4.size)).trans (hb7.mono (Nat.le_trans hb2.size hb6.size))⟩
end Go.Proofs.YtiggpcmikhojmaaGreatDoor
/- A region that draws its order, some of whose operations come in whatever order: an invariant over what has come up so far. Any program. Conditions: each operation that may come up next keeps the invariant. -/
namespace Go.Proofs.YtiggpcmikhojmaaGreatDoor
open Go.RowKit
theorem weave {P : Program} {md : Region.Mode} {ops : Array Oper} {Q : Exit → Act → World → Prop} {S : World → Prop} (I : Nat → Array Bool → Act → World → Prop) (m : Nat)
    (hstep : ∀ n listed a w, I (n + 1) listed a w → ∃ rs, Region.ready md ops listed = rs ∧ rs ≠ [] ∧ ∀ i ∈ rs, ∃ oi, ops.toList[i]? = some oi ∧ Region.wanted oi (yielded ops a.tmps) = true ∧ ∀ K' : Act → World → Prop, Shut (∀ a' w', I n (listed.setIfInBounds i true) a' w' → K' a' w') → Oper.wp P oi a w K' Q)
    (hIS : ∀ n listed a w, I n listed a w → S w)
    (hfin : ∀ listed a w, I 0 listed a w → wpAnyH P md ops Q S m listed a w) : ∀ n listed a w, I n listed a w → wpAnyH P md ops Q S (n + m) listed a w := by
  intro n
  induction n with
  | zero => intro listed a w h; rw [Nat.zero_add]; exact hfin listed a w h
  | succ n ih =>
    intro listed a w h
    obtain ⟨rs, hr, hne, hs⟩ := hstep n listed a w h
    rw [Nat.succ_add]
    refine wpAnyH_ready hr hne (fun i hi => ?_)
    obtain ⟨oi, ho, hw, hp⟩ := hs i hi
    refine wpOp_step (by rw [← Array.getElem?_toList]; exact ho) (fun K' hK => ?_)
    rw [if_pos hw]
    exact hp K' (fun a' w' hI => hK a' w' ⟨hIS _ _ _ _ hI, ih _ _ _ hI⟩)
theorem weave_at {P : Program} {md : Region.Mode} {ops : Array Oper} {Q : Exit → Act → World → Prop} {S : World → Prop} (I : Nat → Array Bool → Act → World → Prop) (m n : Nat) (L : Array Bool) (A : Act) {listed : Array Bool} {a : Act} {w : World} (hl : listed = L) (ha : a = A) (h0 : I n L A w)
    (hstep : ∀ n listed a w, I (n + 1) listed a w → ∃ rs, Region.ready md ops listed = rs ∧ rs ≠ [] ∧ ∀ i ∈ rs, ∃ oi, ops.toList[i]? = some oi ∧ Region.wanted oi (yielded ops a.tmps) = true ∧ ∀ K' : Act → World → Prop, Shut (∀ a' w', I n (listed.setIfInBounds i true) a' w' → K' a' w') → Oper.wp P oi a w K' Q)
    (hIS : ∀ n listed a w, I n listed a w → S w)
    (hfin : ∀ listed a w, I 0 listed a w → wpAnyH P md ops Q S m listed a w) : wpAnyH P md ops Q S (n + m) listed a w := by
  subst hl ha
  exact weave I m hstep hIS hfin n _ _ _ h0
end Go.Proofs.YtiggpcmikhojmaaGreatDoor
