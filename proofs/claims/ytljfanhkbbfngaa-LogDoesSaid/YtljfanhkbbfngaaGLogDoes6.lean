/- Copies of entries, in memory of their own. Conditions: as each says. -/
import Derived.Test.YtljfanhkbbfngaaGLogDoes4
import Derived.Test.YtljfanhkbbfngaaGLogDoes5
set_option linter.unusedVariables false
set_option linter.unusedSimpArgs false
namespace Go.Proofs.Ytljfanhkbbfngaa
open Go.RowKit
set_option maxRecDepth 20000
theorem lcopyI_any (ao : Option Addr) (n cap : Nat) (xs : List Int) (w : World) (hn : xs.length = n) (hx : NumsIn w w.heap.size ao xs) (hao : ao = none → cap = 0) (hl : n ≤ 1099511627776) :
    Calls Try.prog 55 #[.slice ao n cap] w fun e w' => ∃ a c, e = .returned (.slice a n c) ∧ w'.ownsRow w.heap.size 3 1 (.slice a n c) n (xs.flatMap iCells) ∧ Below w.heap.size w w' := by
  have HX := Lib.hid hx
  have HA := Lib.hid hao
  have HN := Lib.hid hn
  clear hx hao hn
  go_enter Try.func55, Try.ntmps55
  go_wp2_with (at_builtin; refine wpList_append_rows (sub := noSub) Try.underlying24 infoI rfl (by decide) iCells_len iCells_one rfl (.tmp 4) (.tmp 5) rfl w.heap.size (.slice none 0 0) 0 [] rfl (World.ownsRow_nil _ _ _ _) ao n cap xs HN.out rfl w.heap.size HX.out HA.out (by unfold maxLen; omega) (by omega) (Nat.le_refl _) ?_)
  intro v2 w2 hown hg _
  have hb : Below w.heap.size w w2 := (Below.refl w.heap.size w).grown hg (Nat.le_refl _) (fun k hk => by cases hk)
  (try rw [Nat.zero_add, List.nil_append] at hown)
  obtain ⟨a, c, rfl⟩ := row_slice hown
  have HO := Lib.hid hown
  clear hown hg
  go_wp2_with fail
  go_ret
  exact ⟨a, c, rfl, HO.out, hb⟩
theorem lcopyV_any (ao : Option Addr) (n cap : Nat) (xs : List Va) (w : World) (hn : xs.length = n) (hx : ValsIn w w.heap.size ao xs) (hao : ao = none → cap = 0) (hl : n ≤ 1099511627776) :
    Calls Try.prog 61 #[.slice ao n cap] w fun e w' => ∃ a c, e = .returned (.slice a n c) ∧ w'.ownsRow w.heap.size 76 3 (.slice a n c) n (xs.flatMap vaCells) ∧ Below w.heap.size w w' := by
  have HX := Lib.hid hx
  have HA := Lib.hid hao
  have HN := Lib.hid hn
  clear hx hao hn
  go_enter Try.func61, Try.ntmps61
  go_wp2_with (at_builtin; refine wpList_append_rows (sub := noSub) Try.underlying55 infoVa rfl (by decide) vaCells_len vaCells_one rfl (.tmp 4) (.tmp 5) rfl w.heap.size (.slice none 0 0) 0 [] rfl (World.ownsRow_nil _ _ _ _) ao n cap xs HN.out rfl w.heap.size HX.out HA.out (by unfold maxLen; omega) (by omega) (Nat.le_refl _) ?_)
  intro v2 w2 hown hg _
  have hb : Below w.heap.size w w2 := (Below.refl w.heap.size w).grown hg (Nat.le_refl _) (fun k hk => by cases hk)
  (try rw [Nat.zero_add, List.nil_append] at hown)
  obtain ⟨a, c, rfl⟩ := row_slice hown
  have HO := Lib.hid hown
  clear hown hg
  go_wp2_with fail
  go_ret
  exact ⟨a, c, rfl, HO.out, hb⟩
set_option maxHeartbeats 2000000 in
theorem lcopyC_any (ck : Int) (text : ByteArray) (num : Int) (ao : Option Addr) (n cap : Nat) (xs : List Va) (w : World) (hn : xs.length = n) (hx : ValsIn w w.heap.size ao xs) (hao : ao = none → cap = 0) (hl : n ≤ 1099511627776) :
    Calls Try.prog 54 #[.agg #[.int .u8 ck, .string text, .slice ao n cap, .int .i64 num]] w fun e w' => ∃ (ca : Option Addr) (cc : Nat), e = .returned (.agg #[.int .u8 ck, .string text, .slice ca n cc, .int .i64 num]) ∧ w'.ownsRow w.heap.size 76 3 (.slice ca n cc) n (xs.flatMap vaCells) ∧ Below w.heap.size w w' := by
  obtain ⟨hb2, h1, h2, hz2⟩ := alloc2_facts w #[.int .u8 ck, .string text, .slice ao n cap, .int .i64 num] #[.int .u8 0, .string ⟨#[]⟩, .slice none 0 0, .int .i64 0] 57 57
  have HX := Lib.hid hx
  have HA := Lib.hid hao
  have HN := Lib.hid hn
  have HB2 := Lib.hid hb2
  have H1 := Lib.hid h1
  have H2 := Lib.hid h2
  have HZ := Lib.hid hz2
  clear hx hao hn hb2 h1 h2 hz2
  go_enter Try.func54, Try.ntmps54
  go_wp2_with fail
  have hb2 := HB2.out
  have h1 := H1.out
  have h2 := H2.out
  have hz2 := HZ.out
  generalize ((w.alloc (.cells #[.int .u8 ck, .string text, .slice ao n cap, .int .i64 num] 57)).alloc (.cells #[.int .u8 0, .string ⟨#[]⟩, .slice none 0 0, .int .i64 0] 57)) = w2 at hb2 h1 h2 hz2 ⊢
  have H1 := Lib.hid h1
  have H2 := Lib.hid h2
  have HZ := Lib.hid hz2
  clear h1 h2 hz2 HB2
  refine (lcopyV_any ao n cap xs w2 HN.out ((RowsIn.below noSub_kept HX.out hb2 (Nat.le_refl _)).mono noSub_rising hb2.size) HA.out hl).mono ?_
  rintro e w3 ⟨ca, cc, rfl, hL, hb3⟩
  have k1 := (hb3.block w.heap.size (by have := HZ.out; omega)).trans H1.out
  have k2 := (hb3.block (w.heap.size + 1) (by have := HZ.out; omega)).trans H2.out
  have c0 : w3.cell? ⟨w.heap.size, 0, none⟩ = some (.int .u8 ck) := Go.Joins.cell_of_block k1 0
  have c1 : w3.cell? ⟨w.heap.size, 1, none⟩ = some (.string text) := Go.Joins.cell_of_block k1 1
  have c2 : w3.cell? ⟨w.heap.size, 2, none⟩ = some (.slice ao n cap) := Go.Joins.cell_of_block k1 2
  have c3 : w3.cell? ⟨w.heap.size, 3, none⟩ = some (.int .i64 num) := Go.Joins.cell_of_block k1 3
  have f2 : w3.frozen? ⟨w.heap.size, 2, none⟩ = false := Go.Joins.unfrozen_of_block k1 2
  have d0 : w3.cell? ⟨w.heap.size + 1, 0, none⟩ = some (.int .u8 0) := Go.Joins.cell_of_block k2 0
  have d1 : w3.cell? ⟨w.heap.size + 1, 1, none⟩ = some (.string ⟨#[]⟩) := Go.Joins.cell_of_block k2 1
  have d2 : w3.cell? ⟨w.heap.size + 1, 2, none⟩ = some (.slice none 0 0) := Go.Joins.cell_of_block k2 2
  have d3 : w3.cell? ⟨w.heap.size + 1, 3, none⟩ = some (.int .i64 0) := Go.Joins.cell_of_block k2 3
  have g0 : w3.frozen? ⟨w.heap.size + 1, 0, none⟩ = false := Go.Joins.unfrozen_of_block k2 0
  have g1 : w3.frozen? ⟨w.heap.size + 1, 1, none⟩ = false := Go.Joins.unfrozen_of_block k2 1
  have g2 : w3.frozen? ⟨w.heap.size + 1, 2, none⟩ = false := Go.Joins.unfrozen_of_block k2 2
  have g3 : w3.frozen? ⟨w.heap.size + 1, 3, none⟩ = false := Go.Joins.unfrozen_of_block k2 3
  have HL := Lib.hid hL
  have HBB := Lib.hid (hb2.trans (hb3.mono hb2.size))
  clear hL k1 k2 hb3
  go_wp2_with fail
  have hlb : ((((((w3.setCell ⟨w.heap.size, 2, none⟩ (.slice ca n cc)).setCell ⟨w.heap.size + 1, 0, none⟩ (.int .u8 ck)).setCell ⟨w.heap.size + 1, 1, none⟩ (.string text)).setCell ⟨w.heap.size + 1, 2, none⟩ (.slice ca n cc))).setCell ⟨w.heap.size + 1, 3, none⟩ (.int .i64 num)).ownsRow w2.heap.size 76 3 (.slice ca n cc) n (xs.flatMap vaCells) := by
    have hz := HZ.out
    refine ownsRow_setCell_other (ownsRow_setCell_other (ownsRow_setCell_other (ownsRow_setCell_other (ownsRow_setCell_other HL.out ?_ _) ?_ _) ?_ _) ?_ _) ?_ _ <;> (intro e; have := (World.ownsRow.lt HL.out _ e).1; simp at this; omega)
  have hbb := ((((HBB.out.setCell (p := ⟨w.heap.size, 2, none⟩) (Nat.le_refl _) (.slice ca n cc)).setCell (p := ⟨w.heap.size + 1, 0, none⟩) (Nat.le_succ _) (.int .u8 ck)).setCell (p := ⟨w.heap.size + 1, 1, none⟩) (Nat.le_succ _) (.string text)).setCell (p := ⟨w.heap.size + 1, 2, none⟩) (Nat.le_succ _) (.slice ca n cc)).setCell (p := ⟨w.heap.size + 1, 3, none⟩) (Nat.le_succ _) (.int .i64 num)
  exact bodyPost_ret (v := .agg #[.int .u8 ck, .string text, .slice ca n cc, .int .i64 num]) (by simp [results, Try.results54, go_sem, d0, d1, d2, d3]) rfl ⟨ca, cc, rfl, Go.Joins.ownsRow_le hlb (by have := HZ.out; omega), hbb⟩
theorem cells_newD (w : World) (T : TypeId) (cs : List Value) : ∀ j u, cs[j]? = some u → (w.alloc (.cells cs.toArray T)).cell? ((⟨w.heap.size, 0, none⟩ : Addr).add j) = some u := by
  intro j u hu
  have hadd : (⟨w.heap.size, 0, none⟩ : Addr).add j = ⟨w.heap.size, j, none⟩ := by unfold Addr.add; split <;> simp_all
  rw [hadd, World.cell?_alloc_at _ _ _ _ rfl]
  simpa using hu
theorem own_blocksD {w w' : World} {base e size n : Nat} {v : Value} {xs : List Value} (h : w.ownsRow base e size v n xs) (hs : ∀ g, base ≤ g → g < w.heap.size → w'.heap[g]? = w.heap[g]?) : w'.ownsRow base e size v n xs := by
  refine ⟨h.1, h.2.imp id ?_⟩
  rintro ⟨g, cap, cur, h1, h2, h3, h4, h5, h6, h7⟩
  exact ⟨g, cap, cur, h1, h2, (hs g h2 (Array.getElem?_eq_some_iff.1 h3).1).trans h3, h4, h5, h6, h7⟩
set_option maxHeartbeats 2000000 in
theorem lcopyEn_any (x0 x1 x2 x3 ck : Int) (text : ByteArray) (ao : Option Addr) (cap : Nat) (args : List Va) (num : Int) (vo : Option Addr) (vc : Nat) (vs : List Int) (w : World) (hx : ValsIn w w.heap.size ao args) (hy : NumsIn w w.heap.size vo vs) (hao : ao = none → cap = 0) (hvo : vo = none → vc = 0) (hl : args.length ≤ 1099511627776) (hl2 : vs.length ≤ 1099511627776) :
    Calls Try.prog 35 #[.agg #[.int .i64 x0, .int .u8 x1, .int .i64 x2, .int .i64 x3, .int .u8 ck, .string text, .slice ao args.length cap, .int .i64 num, .slice vo vs.length vc]] w fun e w' => ∃ (ca : Option Addr) (cc : Nat) (da : Option Addr) (dc : Nat), e = .returned (.agg #[.int .i64 x0, .int .u8 x1, .int .i64 x2, .int .i64 x3, .int .u8 ck, .string text, .slice ca args.length cc, .int .i64 num, .slice da vs.length dc]) ∧ w'.ownsRow w.heap.size 76 3 (.slice ca args.length cc) args.length (args.flatMap vaCells) ∧ w'.ownsRow w.heap.size 3 1 (.slice da vs.length dc) vs.length (vs.flatMap iCells) ∧ Below w.heap.size w w' := by
  obtain ⟨hb2, h1, h2, hz2⟩ := alloc2_facts w #[.int .i64 x0, .int .u8 x1, .int .i64 x2, .int .i64 x3, .int .u8 ck, .string text, .slice ao args.length cap, .int .i64 num, .slice vo vs.length vc] #[.int .i64 0, .int .u8 0, .int .i64 0, .int .i64 0, .int .u8 0, .string ⟨#[]⟩, .slice none 0 0, .int .i64 0, .slice none 0 0] 59 59
  have HX := Lib.hid hx
  have HY := Lib.hid hy
  have HAO := Lib.hid hao
  have HVO := Lib.hid hvo
  clear hx hy hao hvo
  have HB2 := Lib.hid hb2
  have H1 := Lib.hid h1
  have H2 := Lib.hid h2
  have HZ := Lib.hid hz2
  clear hb2 h1 h2 hz2
  go_enter Try.func35, Try.ntmps35
  go_wp2_with fail
  have hb2 := HB2.out
  have h1 := H1.out
  have h2 := H2.out
  have hz2 := HZ.out
  generalize ((w.alloc (.cells #[.int .i64 x0, .int .u8 x1, .int .i64 x2, .int .i64 x3, .int .u8 ck, .string text, .slice ao args.length cap, .int .i64 num, .slice vo vs.length vc] 59)).alloc (.cells #[.int .i64 0, .int .u8 0, .int .i64 0, .int .i64 0, .int .u8 0, .string ⟨#[]⟩, .slice none 0 0, .int .i64 0, .slice none 0 0] 59)) = w2 at hb2 h1 h2 hz2 ⊢
  have H1 := Lib.hid h1
  have H2 := Lib.hid h2
  have HZ := Lib.hid hz2
  clear h1 h2 hz2 HB2
  refine (lcopyC_any ck text num ao args.length cap args w2 rfl (RowsIn.mono noSub_rising (RowsIn.below noSub_kept HX.out hb2 (Nat.le_refl _)) hb2.size) HAO.out hl).mono ?_
  rintro e w3 ⟨ca, cc, rfl, hL, hb3⟩
  have k1 := (hb3.block w.heap.size (by have := HZ.out; omega)).trans H1.out
  have k2 := (hb3.block (w.heap.size + 1) (by have := HZ.out; omega)).trans H2.out
  have c0 : w3.cell? ⟨w.heap.size, 0, none⟩ = some (.int .i64 x0) := Go.Joins.cell_of_block k1 0
  have c1 : w3.cell? ⟨w.heap.size, 1, none⟩ = some (.int .u8 x1) := Go.Joins.cell_of_block k1 1
  have c2 : w3.cell? ⟨w.heap.size, 2, none⟩ = some (.int .i64 x2) := Go.Joins.cell_of_block k1 2
  have c3 : w3.cell? ⟨w.heap.size, 3, none⟩ = some (.int .i64 x3) := Go.Joins.cell_of_block k1 3
  have c4 : w3.cell? ⟨w.heap.size, 4, none⟩ = some (.int .u8 ck) := Go.Joins.cell_of_block k1 4
  have c5 : w3.cell? ⟨w.heap.size, 5, none⟩ = some (.string text) := Go.Joins.cell_of_block k1 5
  have c6 : w3.cell? ⟨w.heap.size, 6, none⟩ = some (.slice ao args.length cap) := Go.Joins.cell_of_block k1 6
  have c7 : w3.cell? ⟨w.heap.size, 7, none⟩ = some (.int .i64 num) := Go.Joins.cell_of_block k1 7
  have c8 : w3.cell? ⟨w.heap.size, 8, none⟩ = some (.slice vo vs.length vc) := Go.Joins.cell_of_block k1 8
  have fc4 : w3.frozen? ⟨w.heap.size, 4, none⟩ = false := Go.Joins.unfrozen_of_block k1 4
  have fc5 : w3.frozen? ⟨w.heap.size, 5, none⟩ = false := Go.Joins.unfrozen_of_block k1 5
  have fc6 : w3.frozen? ⟨w.heap.size, 6, none⟩ = false := Go.Joins.unfrozen_of_block k1 6
  have fc7 : w3.frozen? ⟨w.heap.size, 7, none⟩ = false := Go.Joins.unfrozen_of_block k1 7
  have hb3' := hb2.trans (hb3.mono hb2.size)
  obtain ⟨w4, hw4⟩ : ∃ w', (((w3.setCell ⟨w.heap.size, 4, none⟩ (.int .u8 ck)).setCell ⟨w.heap.size, 5, none⟩ (.string text)).setCell ⟨w.heap.size, 6, none⟩ (.slice ca args.length cc)).setCell ⟨w.heap.size, 7, none⟩ (.int .i64 num) = w' := ⟨_, rfl⟩
  have k3 : w4.heap[w.heap.size]? = some (.cells #[.int .i64 x0, .int .u8 x1, .int .i64 x2, .int .i64 x3, .int .u8 ck, .string text, .slice ca args.length cc, .int .i64 num, .slice vo vs.length vc] 59 (0, 0)) := hw4 ▸ Go.Joins.block_setCell (i := 7) (Go.Joins.block_setCell (i := 6) (Go.Joins.block_setCell (i := 5) (Go.Joins.block_setCell (i := 4) k1 _) _) _) _
  have k4 : w4.heap[w.heap.size + 1]? = some (.cells #[.int .i64 0, .int .u8 0, .int .i64 0, .int .i64 0, .int .u8 0, .string ⟨#[]⟩, .slice none 0 0, .int .i64 0, .slice none 0 0] 59 (0, 0)) := by rw [← hw4, heap_setCell_other _ _ _ _ (by simp), heap_setCell_other _ _ _ _ (by simp), heap_setCell_other _ _ _ _ (by simp), heap_setCell_other _ _ _ _ (by simp)]; exact k2
  have hb4 : Below w.heap.size w w4 := hw4 ▸ (((hb3'.setCell (p := ⟨w.heap.size, 4, none⟩) (Nat.le_refl _) _).setCell (p := ⟨w.heap.size, 5, none⟩) (Nat.le_refl _) _).setCell (p := ⟨w.heap.size, 6, none⟩) (Nat.le_refl _) _).setCell (p := ⟨w.heap.size, 7, none⟩) (Nat.le_refl _) _
  have hz4 : w4.heap.size = w3.heap.size := by rw [← hw4]; simp
  have hz23 := hb3.size
  have hL4 : w4.ownsRow w2.heap.size 76 3 (.slice ca args.length cc) args.length (args.flatMap vaCells) := own_blocksD hL fun g hg _ => by rw [← hw4, heap_setCell_other _ _ _ _ (by have := HZ.out; simp; omega), heap_setCell_other _ _ _ _ (by have := HZ.out; simp; omega), heap_setCell_other _ _ _ _ (by have := HZ.out; simp; omega), heap_setCell_other _ _ _ _ (by have := HZ.out; simp; omega)]
  have HL4 := Lib.hid hL4
  have K3 := Lib.hid k3
  have K4 := Lib.hid k4
  have HW4 := Lib.hid hw4
  have HB4 := Lib.hid hb4
  have HZ4 := Lib.hid hz4
  have HZ23 := Lib.hid hz23
  have HB2 := Lib.hid hb2.size
  clear hL k1 k2 k3 k4 hw4 hb4 hz4 hz23 hL4 hb3 hb3' hb2
  go_wp2_with fail
  rw [HW4.out]
  clear c0 c1 c2 c3 c4 c5 c6 c7 c8 fc4 fc5 fc6 fc7
  refine (lcopyI_any vo vs.length vc vs w4 rfl (RowsIn.mono noSub_rising (RowsIn.below noSub_kept HY.out HB4.out (Nat.le_refl _)) HB4.out.size) HVO.out hl2).mono ?_
  rintro e w5 ⟨da, dc, rfl, hV, hb5⟩
  have z1 := HZ.out
  have z2 := HZ4.out
  have z3 := HZ23.out
  have k1 := (hb5.block w.heap.size (by omega)).trans K3.out
  have k2 := (hb5.block (w.heap.size + 1) (by omega)).trans K4.out
  have c0 : w5.cell? ⟨w.heap.size, 0, none⟩ = some (.int .i64 x0) := Go.Joins.cell_of_block k1 0
  have c1 : w5.cell? ⟨w.heap.size, 1, none⟩ = some (.int .u8 x1) := Go.Joins.cell_of_block k1 1
  have c2 : w5.cell? ⟨w.heap.size, 2, none⟩ = some (.int .i64 x2) := Go.Joins.cell_of_block k1 2
  have c3 : w5.cell? ⟨w.heap.size, 3, none⟩ = some (.int .i64 x3) := Go.Joins.cell_of_block k1 3
  have c4 : w5.cell? ⟨w.heap.size, 4, none⟩ = some (.int .u8 ck) := Go.Joins.cell_of_block k1 4
  have c5 : w5.cell? ⟨w.heap.size, 5, none⟩ = some (.string text) := Go.Joins.cell_of_block k1 5
  have c6 : w5.cell? ⟨w.heap.size, 6, none⟩ = some (.slice ca args.length cc) := Go.Joins.cell_of_block k1 6
  have c7 : w5.cell? ⟨w.heap.size, 7, none⟩ = some (.int .i64 num) := Go.Joins.cell_of_block k1 7
  have c8 : w5.cell? ⟨w.heap.size, 8, none⟩ = some (.slice vo vs.length vc) := Go.Joins.cell_of_block k1 8
  have fc8 : w5.frozen? ⟨w.heap.size, 8, none⟩ = false := Go.Joins.unfrozen_of_block k1 8
  have d0 : w5.cell? ⟨w.heap.size + 1, 0, none⟩ = some (.int .i64 0) := Go.Joins.cell_of_block k2 0
  have d1 : w5.cell? ⟨w.heap.size + 1, 1, none⟩ = some (.int .u8 0) := Go.Joins.cell_of_block k2 1
  have d2 : w5.cell? ⟨w.heap.size + 1, 2, none⟩ = some (.int .i64 0) := Go.Joins.cell_of_block k2 2
  have d3 : w5.cell? ⟨w.heap.size + 1, 3, none⟩ = some (.int .i64 0) := Go.Joins.cell_of_block k2 3
  have d4 : w5.cell? ⟨w.heap.size + 1, 4, none⟩ = some (.int .u8 0) := Go.Joins.cell_of_block k2 4
  have d5 : w5.cell? ⟨w.heap.size + 1, 5, none⟩ = some (.string ⟨#[]⟩) := Go.Joins.cell_of_block k2 5
  have d6 : w5.cell? ⟨w.heap.size + 1, 6, none⟩ = some (.slice none 0 0) := Go.Joins.cell_of_block k2 6
  have d7 : w5.cell? ⟨w.heap.size + 1, 7, none⟩ = some (.int .i64 0) := Go.Joins.cell_of_block k2 7
  have d8 : w5.cell? ⟨w.heap.size + 1, 8, none⟩ = some (.slice none 0 0) := Go.Joins.cell_of_block k2 8
  have fd0 : w5.frozen? ⟨w.heap.size + 1, 0, none⟩ = false := Go.Joins.unfrozen_of_block k2 0
  have fd1 : w5.frozen? ⟨w.heap.size + 1, 1, none⟩ = false := Go.Joins.unfrozen_of_block k2 1
  have fd2 : w5.frozen? ⟨w.heap.size + 1, 2, none⟩ = false := Go.Joins.unfrozen_of_block k2 2
  have fd3 : w5.frozen? ⟨w.heap.size + 1, 3, none⟩ = false := Go.Joins.unfrozen_of_block k2 3
  have fd4 : w5.frozen? ⟨w.heap.size + 1, 4, none⟩ = false := Go.Joins.unfrozen_of_block k2 4
  have fd5 : w5.frozen? ⟨w.heap.size + 1, 5, none⟩ = false := Go.Joins.unfrozen_of_block k2 5
  have fd6 : w5.frozen? ⟨w.heap.size + 1, 6, none⟩ = false := Go.Joins.unfrozen_of_block k2 6
  have fd7 : w5.frozen? ⟨w.heap.size + 1, 7, none⟩ = false := Go.Joins.unfrozen_of_block k2 7
  have fd8 : w5.frozen? ⟨w.heap.size + 1, 8, none⟩ = false := Go.Joins.unfrozen_of_block k2 8
  have HL5 := Lib.hid (own_below HL4.out hb5 (Nat.le_refl _))
  have HV := Lib.hid hV
  have HB5 := Lib.hid (HB4.out.trans (hb5.mono HB4.out.size))
  have hz5 : w4.heap.size ≤ w5.heap.size := hb5.size
  have HZS := Lib.hid (And.intro z1 (And.intro z2 (And.intro z3 hz5)))
  clear hV k1 k2 hb5 z1 z2 z3 hz5
  go_wp2_with fail
  have hkeep : ∀ g, w2.heap.size ≤ g → g < w5.heap.size → ((((((((((w5.setCell ⟨w.heap.size, 8, none⟩ (.slice da vs.length dc)).setCell ⟨w.heap.size + 1, 0, none⟩ (.int .i64 x0)).setCell ⟨w.heap.size + 1, 1, none⟩ (.int .u8 x1)).setCell ⟨w.heap.size + 1, 2, none⟩ (.int .i64 x2)).setCell ⟨w.heap.size + 1, 3, none⟩ (.int .i64 x3)).setCell ⟨w.heap.size + 1, 4, none⟩ (.int .u8 ck)).setCell ⟨w.heap.size + 1, 5, none⟩ (.string text)).setCell ⟨w.heap.size + 1, 6, none⟩ (.slice ca args.length cc)).setCell ⟨w.heap.size + 1, 7, none⟩ (.int .i64 num)).setCell ⟨w.heap.size + 1, 8, none⟩ (.slice da vs.length dc)).heap[g]? = w5.heap[g]? := fun g hg _ => by
    have := HZS.out
    rw [heap_setCell_other _ _ _ _ (by simp; omega), heap_setCell_other _ _ _ _ (by simp; omega), heap_setCell_other _ _ _ _ (by simp; omega), heap_setCell_other _ _ _ _ (by simp; omega), heap_setCell_other _ _ _ _ (by simp; omega), heap_setCell_other _ _ _ _ (by simp; omega), heap_setCell_other _ _ _ _ (by simp; omega), heap_setCell_other _ _ _ _ (by simp; omega), heap_setCell_other _ _ _ _ (by simp; omega), heap_setCell_other _ _ _ _ (by simp; omega)]
  have hfl := own_blocksD HL5.out hkeep
  have hvl := own_blocksD HV.out (fun g hg hlt => hkeep g (by have := HZS.out; omega) hlt)
  have hbb := ((((((((((HB5.out.setCell (p := ⟨w.heap.size, 8, none⟩) (Nat.le_refl _) (.slice da vs.length dc)).setCell (p := ⟨w.heap.size + 1, 0, none⟩) (Nat.le_succ _) (.int .i64 x0)).setCell (p := ⟨w.heap.size + 1, 1, none⟩) (Nat.le_succ _) (.int .u8 x1)).setCell (p := ⟨w.heap.size + 1, 2, none⟩) (Nat.le_succ _) (.int .i64 x2)).setCell (p := ⟨w.heap.size + 1, 3, none⟩) (Nat.le_succ _) (.int .i64 x3)).setCell (p := ⟨w.heap.size + 1, 4, none⟩) (Nat.le_succ _) (.int .u8 ck)).setCell (p := ⟨w.heap.size + 1, 5, none⟩) (Nat.le_succ _) (.string text)).setCell (p := ⟨w.heap.size + 1, 6, none⟩) (Nat.le_succ _) (.slice ca args.length cc)).setCell (p := ⟨w.heap.size + 1, 7, none⟩) (Nat.le_succ _) (.int .i64 num)).setCell (p := ⟨w.heap.size + 1, 8, none⟩) (Nat.le_succ _) (.slice da vs.length dc))
  exact bodyPost_ret (v := .agg #[.int .i64 x0, .int .u8 x1, .int .i64 x2, .int .i64 x3, .int .u8 ck, .string text, .slice ca args.length cc, .int .i64 num, .slice da vs.length dc]) (by simp [results, Try.results35, go_sem, d0, d1, d2, d3, d4, d5, d6, d7, d8]) rfl ⟨ca, cc, da, dc, rfl, Go.Joins.ownsRow_le hfl HB2.out, Go.Joins.ownsRow_le hvl (by have := HZS.out; omega), hbb⟩
theorem EnsOwn.pushD {wp w w' : World} {base B : Nat} {v v' : Value} {es : List En} {e : En} (h : EnsOwn w base v es) (hp : ∀ f ∈ es, enOwn wp base f) (hB : wp.heap.size ≤ B) (hb : base ≤ B) (ho : enOwn w B e)
    (hown : w'.ownsRow base 59 9 v' (es.length + 1) (es.flatMap enCells ++ enCells e)) (hg : w.grownBy w' v.ownBlock) : EnsOwn w' base v' (es ++ [e]) := by
  have hall : ∀ f ∈ es ++ [e], enOwn w base f := fun f hf => by
    rcases List.mem_append.1 hf with hf | hf
    · exact h.own f hf
    · rw [List.mem_singleton.1 hf]
      exact ho.le hb
  refine ⟨?_, fun f hf => ?_, ?_⟩
  · rw [List.length_append, List.flatMap_append]
    simpa using hown
  · have hf2 := hall f hf
    exact ⟨hf2.1.kept hg (own_apart hf2.1 h.row (by decide)), hf2.2.kept hg (own_apart hf2.2 h.row (by decide))⟩
  · rw [List.pairwise_append]
    refine ⟨h.sep, List.pairwise_singleton _ _, fun f hf g hg2 => ?_⟩
    rw [List.mem_singleton.1 hg2]
    have hf2 := hp f hf
    constructor
    · cases hq : (argV f).ownBlock with
      | none => exact Or.inl rfl
      | some q =>
        refine Or.inr fun e2 => ?_
        have h1 := (World.ownsRow.lt hf2.1 q hq).2
        have h2 := (World.ownsRow.lt ho.1 q e2.symm).1
        omega
    · cases hq : (votV f).ownBlock with
      | none => exact Or.inl rfl
      | some q =>
        refine Or.inr fun e2 => ?_
        have h1 := (World.ownsRow.lt hf2.2 q hq).2
        have h2 := (World.ownsRow.lt ho.2 q e2.symm).1
        omega
set_option maxHeartbeats 4000000 in
theorem lcopyEs_any (ao : Option Addr) (cap n : Nat) (fs : List En) (w : World) (hn : fs.length = n) (hx : EnsIn w w.heap.size ao fs) (hq : EnsArg fs) (hl : n ≤ 1099511627776) :
    Calls Try.prog 16 #[.slice ao n cap] w (CopiedAs fs n w) := by
  obtain ⟨i0, hi, hz0, hz1, hz2⟩ := info_parts infoEn
  have HX := Lib.hid hx
  have HQ := Lib.hid hq
  have HN := Lib.hid hn
  clear hx hq hn
  go_enter Try.func16, Try.ntmps16
  go_wp2_with fail
  go_loopw [3, 4] (fun v i wr => ∃ (k : Nat) (frs : List En), k ≤ n ∧ i = .int .i64 k ∧ frs.map En.plain = (fs.take k).map En.plain ∧ EnsOwn wr w.heap.size v frs ∧ frs.length = k ∧ Below w.heap.size w wr) (fun _ i _ => n - (intOf i).toNat)
  case atStart => exact ⟨0, [], by omega, rfl, by simp, EnsOwn.nil _ _, rfl, Below.refl _ _⟩
  case round =>
    obtain ⟨k, frs, hk, rfl, hmap, ho, hfl, hbel⟩ := hrel
    have HM := Lib.hid hmap
    have HO := Lib.hid ho
    have HFL := Lib.hid hfl
    have hs := hbel.size
    obtain ⟨av, cv, hav⟩ := row_slice ho.row
    subst hav
    clear hmap ho
    rw [hfl] at HO ⊢
    clear hfl
    by_cases hlt : k < n
    · have hlt' : k < fs.length := by rw [HN.out]; exact hlt
      have hkx : fs[k]? = some (fs[k]'hlt') := List.getElem?_eq_getElem hlt'
      obtain ⟨b, off, hao, hb, hc, hsub⟩ := HX.out.at hkx
      have hq1 := HQ.out.1 _ (List.getElem_mem hlt')
      have hq2 := HQ.out.2 _ (List.getElem_mem hlt')
      have htk : (fs.take (k + 1)).map En.plain = (fs.take k).map En.plain ++ [(fs[k]'hlt').plain] := by
        rw [List.take_succ_eq_append_getElem hlt', List.map_append]; rfl
      generalize fs[k]'hlt' = f at hc hq1 hq2 htk hsub
      obtain ⟨x0, x1, x2, x3, ck, text, ao, fd, fc, num, vo, vs, vc⟩ := f
      obtain ⟨hq3, hq4⟩ := hq2
      dsimp only at hq1 hq3 hq4
      have c0 : wr.cell? ⟨b, off + k * 9, none⟩ = some (.int .i64 x0) := (hbel.cell (p := ⟨b, _, none⟩) hb).trans (hc 0 (by decide))
      have c1 : wr.cell? ⟨b, off + k * 9 + 1, none⟩ = some (.int .u8 x1) := (hbel.cell (p := ⟨b, _, none⟩) hb).trans (hc 1 (by decide))
      have c2 : wr.cell? ⟨b, off + k * 9 + 1 + 1, none⟩ = some (.int .i64 x2) := (hbel.cell (p := ⟨b, _, none⟩) hb).trans (hc 2 (by decide))
      have c3 : wr.cell? ⟨b, off + k * 9 + 1 + 1 + 1, none⟩ = some (.int .i64 x3) := (hbel.cell (p := ⟨b, _, none⟩) hb).trans (hc 3 (by decide))
      have c4 : wr.cell? ⟨b, off + k * 9 + 1 + 1 + 1 + 1, none⟩ = some (.int .u8 ck) := (hbel.cell (p := ⟨b, _, none⟩) hb).trans (hc 4 (by decide))
      have c5 : wr.cell? ⟨b, off + k * 9 + 1 + 1 + 1 + 1 + 1, none⟩ = some (.string text) := (hbel.cell (p := ⟨b, _, none⟩) hb).trans (hc 5 (by decide))
      have c6 : wr.cell? ⟨b, off + k * 9 + 1 + 1 + 1 + 1 + 1 + 1, none⟩ = some (.slice ao fd.length fc) := (hbel.cell (p := ⟨b, _, none⟩) hb).trans (hc 6 (by decide))
      have c7 : wr.cell? ⟨b, off + k * 9 + 1 + 1 + 1 + 1 + 1 + 1 + 1, none⟩ = some (.int .i64 num) := (hbel.cell (p := ⟨b, _, none⟩) hb).trans (hc 7 (by decide))
      have c8 : wr.cell? ⟨b, off + k * 9 + 1 + 1 + 1 + 1 + 1 + 1 + 1 + 1, none⟩ = some (.slice vo vs.length vc) := (hbel.cell (p := ⟨b, _, none⟩) hb).trans (hc 8 (by decide))
      have HT := Lib.hid htk
      have HC := Lib.hid hsub
      have HQ1 := Lib.hid hq3
      have HQ3 := Lib.hid hq4
      have i1 : (k : Int) < n := by omega
      subst hao
      clear hc hkx htk hsub hq3 hq4
      go_wp2_with fail
      refine (lcopyEn_any x0 x1 x2 x3 ck text ao fc fd num vo vc vs wr (RowsIn.mono noSub_rising (RowsIn.below noSub_kept HC.out.1 hbel (Nat.le_refl _)) hs) (RowsIn.mono noSub_rising (RowsIn.below noSub_kept HC.out.2 hbel (Nat.le_refl _)) hs) HQ1.out HQ3.out hq1.1 hq1.2).mono ?_
      rintro e w3 ⟨ga, gc, da, dc, rfl, hL, hV, hb3⟩
      have HO3 := Lib.hid (HO.out.below hb3 (Nat.le_refl _))
      have hbel3 := hbel.trans (hb3.mono hs)
      have hs3 := hbel3.size
      have HE3 := Lib.hid (show enOwn w3 wr.heap.size ⟨x0, x1, x2, x3, ck, text, ga, fd, gc, num, da, vs, dc⟩ from ⟨hL, hV⟩)
      have HZ3 := Lib.hid hb3.size
      clear hL hV c0 c1 c2 c3 c4 c5 c6 c7 c8 hb3
      go_wp2_with (at_builtin; refine wpList_append_own_at _ rfl (.tmp 17) (.tmp 19) 22 rfl w.heap.size 59 i0 (.agg #[.int .i64 0, .int .u8 0, .int .i64 0, .int .i64 0, .int .u8 0, .string ByteArray.empty, .slice none 0 0, .int .i64 0, .slice none 0 0]) 9 112 Try.underlying22 hi hz0 hz1 hz2 rfl (by decide) (.slice av k cv) k (frs.flatMap enCells) rfl (by have h := HO3.out.row; rw [HFL.out] at h; exact (h.alloc _).alloc _) ⟨w3.heap.size + 1, 0, none⟩ 1 1 (enCells ⟨x0, x1, x2, x3, ck, text, ga, fd, gc, num, da, vs, dc⟩) rfl rfl ?c1 (enCells_one _) (by unfold maxLen; omega) (by omega) (by simp; omega) ?_)
      case c1 =>
        have := cells_newD (w3.alloc (.cells #[.int .i64 x0, .int .u8 x1, .int .i64 x2, .int .i64 x3, .int .u8 ck, .string text, .slice ga fd.length gc, .int .i64 num, .slice da vs.length dc] 59)) 59 [.int .i64 x0, .int .u8 x1, .int .i64 x2, .int .i64 x3, .int .u8 ck, .string text, .slice ga fd.length gc, .int .i64 num, .slice da vs.length dc]
        rw [World.size_alloc] at this
        exact this
      intro v4 w4 hown4 hg4 _ _
      have hA : EnsOwn ((w3.alloc (.cells #[.int .i64 x0, .int .u8 x1, .int .i64 x2, .int .i64 x3, .int .u8 ck, .string text, .slice ga fd.length gc, .int .i64 num, .slice da vs.length dc] 59)).alloc (.cells #[.int .i64 x0, .int .u8 x1, .int .i64 x2, .int .i64 x3, .int .u8 ck, .string text, .slice ga fd.length gc, .int .i64 num, .slice da vs.length dc] 59)) w.heap.size (.slice av k cv) frs := HO3.out.below (((Below.refl w3.heap.size w3).alloc (Nat.le_refl _) _).alloc (by simp) _) (Nat.le_refl _)
      have hE : enOwn ((w3.alloc (.cells #[.int .i64 x0, .int .u8 x1, .int .i64 x2, .int .i64 x3, .int .u8 ck, .string text, .slice ga fd.length gc, .int .i64 num, .slice da vs.length dc] 59)).alloc (.cells #[.int .i64 x0, .int .u8 x1, .int .i64 x2, .int .i64 x3, .int .u8 ck, .string text, .slice ga fd.length gc, .int .i64 num, .slice da vs.length dc] 59)) wr.heap.size ⟨x0, x1, x2, x3, ck, text, ga, fd, gc, num, da, vs, dc⟩ := HE3.out.below (((Below.refl w3.heap.size w3).alloc (Nat.le_refl _) _).alloc (by simp) _) (Nat.le_refl _)
      have ho4 : EnsOwn w4 w.heap.size v4 (frs ++ [⟨x0, x1, x2, x3, ck, text, ga, fd, gc, num, da, vs, dc⟩]) := EnsOwn.pushD (wp := wr) (B := wr.heap.size) hA (fun f hf => HO.out.own f hf) (Nat.le_refl _) hs hE (by rw [HFL.out]; exact hown4) hg4
      have hb4 : Below w.heap.size w w4 := ((hbel3.alloc hs3 _).alloc (by simp; omega) _).grown hg4 (by simp; omega) (fun g hg => (World.ownsRow.lt hA.row g hg).1)
      have HO4 := Lib.hid ho4
      clear hown4 hg4 hA hE ho4
      go_wp2_with fail
      go_roundw
      case rel => exact ⟨k + 1, _, by omega, by go_num, by rw [HT.out, List.map_append, HM.out]; rfl, HO4.out, by rw [List.length_append, HFL.out]; rfl, hb4⟩
      case measure => simp [intOf]; omega
    · obtain rfl : k = n := by omega
      go_wp2_with fail
      go_ret
      exact ⟨av, cv, frs, rfl, HO.out, by rw [HM.out, List.take_of_length_le (by rw [HN.out]; omega)], hbel⟩
end Go.Proofs.Ytljfanhkbbfngaa
/- The document's log: what its writing methods do. Conditions: the log lies as its entries say; its numbers are not too great. -/
namespace Go.Proofs.Ytljfanhkbbfngaa
open Go.RowKit
set_option maxRecDepth 20000
/-- An append to a row of the call's own, of rows that are only read: an operation alone. -/
theorem oper_append_rows {α : Type} {k bytes : Nat} {cells : α → List Value} {sub : World → Nat → α → Prop} {z : Value} {T E : TypeId} {w : World} {o : Oper} {a : Act} {K : Act → World → Prop} {Q : Exit → Act → World → Prop} (hT : Try.prog.underlying T = some (.slice E))
    (hinfo : (Try.prog.info? E).map (fun i => (i.zero, i.size, i.bytes)) = some (some z, k, bytes)) (hzs : z.cells.size = k) (h0 : 0 < k) (hk : ∀ x, (cells x).length = k) (hone : ∀ x, ∀ u ∈ cells x, u.oneCell' = true) (s x : Operand)
    (ho : o.op = .call { callee := .builtin .append, args := #[s, x], argTypes := #[T, T] })
    (base : Nat) (v : Value) (n : Nat) (l : List Value) (hs : a.eval s = v) (hown : w.ownsRow base E k v n l)
    (ao : Option Addr) (m cap : Nat) (xs : List α) (hm : xs.length = m) (hx : a.eval x = .slice ao m cap) (B : Nat) (hin : RowsIn k cells sub w B ao xs) (hao : ao = none → cap = 0) (hmax : n + m ≤ maxLen) (hlim : (n + m) * bytes ≤ 140737488355328) (hbase : base ≤ w.heap.size)
    (h : ∀ v' w', w'.ownsRow base E k v' (n + m) (l ++ xs.flatMap cells) → w.grownBy w' v.ownBlock → K (a.put o.dst v') w') : Oper.wp Try.prog o a w K Q := by
  obtain ⟨i0, hi, hz0, hz1, hz2⟩ := info_parts hinfo
  subst hm
  cases ao with
  | none =>
    have hnil : xs = [] := by
      rcases hin with h | ⟨b, off, h1, _⟩
      · exact h
      · cases h1
    subst hnil
    rw [hao rfl] at hx
    have hrun := run_append_owned_none (P := Try.prog) (w := w) base T o.type E i0 k hT hi v n _ hown
    unfold Oper.wp
    simp only [List.length_nil] at hx
    simp [execOp, ho, resolve, invoke, builtin, hs, hx, hrun, Result.andThen]
    exact h v w (by simpa using hown) (World.grownBy.refl _ _)
  | some ad =>
    obtain ⟨v', w', hrun, r1, r2, _⟩ := run_append_own_at (P := Try.prog) w base T o.type E i0 z k bytes hT hi hz0 hz1 hz2 hzs h0 v n _ hown ad xs.length cap (xs.flatMap cells) (flat_len hk xs) (fun j u hu => cells_of_rows hk h0 hin (Below.refl _ _) rfl hu) (fun u hu => by
      obtain ⟨y, _, hy⟩ := List.mem_flatMap.1 hu
      exact hone y u hy) hmax hlim hbase
    unfold Oper.wp
    simp [execOp, ho, resolve, invoke, builtin, hs, hx, hrun, Result.andThen]
    exact h v' w' r1 r2
/-- The document's log with a row laid anew. -/
theorem RfAt.put {w w2 : World} {B rb : Nat} {base term : Int} {v v2 : Value} {es es2 xs : List En} (h : RfAt w B rb base term v es) (hb : Below w.heap.size w w2) (hB : B ≤ w.heap.size) (ho : w2.ownsRow w.heap.size 59 9 v2 es2.length (es2.flatMap enCells))
    (hs : ∀ e ∈ es2, enSub w w.heap.size e) (hn : ∀ e ∈ es2, EnNil e) (ha : ∀ e ∈ es2, enK (fun g => g ≠ rb) e) (hf : ∀ e ∈ es2, e ∈ es ∨ e ∈ xs) :
    RfAt (w2.setCell ⟨rb, 2, none⟩ v2) B rb base term v2 es2 ∧ RTurned rb v v2 es es2 xs w (w2.setCell ⟨rb, 2, none⟩ v2) ∧ Below B w (w2.setCell ⟨rb, 2, none⟩ v2) := by
  have hlt := h.lt
  have hg := grown_setL w2 ⟨rb, 2, none⟩ v2
  have hk : Keeps (fun g => g ≠ rb) w (w2.setCell ⟨rb, 2, none⟩ v2) := ⟨Nat.le_trans hb.size hg.size, fun g h1 h2 => (hg.block g (Nat.lt_of_lt_of_le h1 hb.size) (fun e => h2 (Option.some.inj e))).trans (hb.block g h1)⟩
  have hbk := Go.Joins.block_setCell (i := 2) ((hb.block rb hlt).trans h.blk) v2
  refine ⟨⟨by simpa using hbk, Go.Joins.ownsRow_le (World.ownsRow.kept ho hg (Or.inr fun e => by have h1 : w.heap.size ≤ rb := (World.ownsRow.lt ho rb e).1; omega)) hB, fun e he => enSub_keeps (hs e he) hk (ha e he), hn, h.low, ha⟩, ⟨hk, Or.inr fun g hg => (World.ownsRow.lt ho g hg).1, hf⟩, (hb.mono hB).setCell (p := ⟨rb, 2, none⟩) h.low v2⟩
def RPutAt (B rb : Nat) (base term : Int) (v : Value) (es es2 xs : List En) (r : Value) (w : World) (e : Ending) (w' : World) : Prop :=
  ∃ v', e = .returned r ∧ RfAt w' B rb base term v' es2 ∧ RTurned rb v v' es es2 xs w w' ∧ Below B w w'
theorem RTurned.same {rb : Nat} {v : Value} {es xs : List En} {w w' : World} (h : Below w.heap.size w w') : RTurned rb v v es es xs w w' := ⟨Keeps.of_below h, Or.inl rfl, fun e he => Or.inl he⟩
set_option maxHeartbeats 4000000 in
theorem rappend_any (B rb : Nat) (base term : Int) (v : Value) (es : List En) (ao : Option Addr) (m cap : Nat) (ms : List En) (r : Int) (w : World) (hr : r = if m = 0 then 0 else base + es.length + 1) (hL : RfAt w B rb base term v es) (hN : LogNums base es.length 0) (hB : B ≤ w.heap.size) (hn : ms.length = m) (hx : EnsIn w w.heap.size ao ms) (hao : ao = none → cap = 0) (hq : EnsArg ms) (ha : ∀ e ∈ ms, enK (fun g => g ≠ rb) e) (hnm : es.length + m ≤ 1000000) :
    Calls Try.prog 15 #[.pointer (some ⟨rb, 0, none⟩), .slice ao m cap] w (RPutAt B rb base term v es (es ++ ms) ms (.int .i64 r) w) := by
  subst hr
  obtain ⟨a, c, hv⟩ := hL.form
  subst hv
  obtain ⟨h1, h2, _, _, h5⟩ := hN
  have hsub : ∀ e ∈ ms, enSub w w.heap.size e := fun e he => by
    rcases hx with h | ⟨b, off, _, _, h3⟩
    · rw [h] at he; cases he
    · obtain ⟨q, hq⟩ := List.getElem?_of_mem he
      exact (h3 q e hq).2
  have HSUB := Lib.hid hsub
  have HL := Lib.hid hL
  have HX := Lib.hid hx
  have HA := Lib.hid hao
  have HQ := Lib.hid hq
  have HK := Lib.hid ha
  have HM := Lib.hid hn
  obtain ⟨n, hn0⟩ : ∃ n, es.length = n := ⟨_, rfl⟩
  have c0 := hL.c0
  have c2 : w.cell? ⟨rb, 2, none⟩ = some (.slice a n c) := by rw [← hn0]; exact hL.c2
  have hrl := hL.lt
  rw [hn0] at hnm h5 ⊢
  have HN := Lib.hid hn0
  by_cases hm0 : m = 0
  · subst hm0
    obtain rfl : ms = [] := List.eq_nil_of_length_eq_zero hn
    clear hL hx hao hq ha hn hn0 hsub
    go_enter Try.func15, Try.ntmps15
    go_wp2_with fail
    go_ret
    exact ⟨_, rfl, by rw [List.append_nil]; have h := HL.out; rw [HN.out] at h; exact h, by rw [List.append_nil]; exact RTurned.same (Below.refl _ _), Below.refl _ _⟩
  · have m0 : ¬ (m : Int) = 0 := by omega
    have w1 : IntKind.i64.wrap (base + (n : Int)) = base + n := IntWalk.i64_in _ (by omega)
    have w2 : IntKind.i64.wrap (base + (n : Int) + 1) = base + n + 1 := IntWalk.i64_in _ (by omega)
    have hin : EnsIn w w.heap.size a es := by
      have h := own_rowsIn enCells_len (sub := enSub) rfl hL.row (fun x hx => hL.sub x hx)
      exact h
    rw [if_neg hm0]
    clear hL hx hao hq ha hn hn0 hsub
    go_enter Try.func15, Try.ntmps15
    go_wp2_with fail
    go_quiet (fail)
    generalize hwd : w.drewN _ = wd
    have hbd : Below w.heap.size w wd := by rw [← hwd]; exact below_drewN (Below.refl _ _) _
    clear hwd
    have hrow := HL.out.row
    have hnl := own_none hrow
    have c2' : ∀ o, (wd.alloc o).cell? ⟨rb, 2, none⟩ = some (.slice a n c) := fun o => by
      have h := Go.Joins.cell_of_block (keep_alloc ((hbd.block rb hrl).trans HL.out.blk) o) 2
      rw [HN.out] at h
      exact h
    have HIN := Lib.hid (hin.below enSub_kept (hbd.alloc hbd.size (.cells #[] 59)) (Nat.le_refl _))
    have HNL := Lib.hid hnl
    clear hin hnl hrow c0 c2 w1 w2
    go_wp2_with (at_builtin; refine wpList_append_rows Try.underlying22 infoEn rfl (by decide) enCells_len enCells_one rfl (.tmp 21) (.tmp 25) rfl wd.heap.size (.slice (some ⟨wd.heap.size, 0, none⟩) 0 0) 0 [] rfl (World.ownsRow_lit wd #[] 0 (Nat.le_refl _) (by unfold maxLen; omega) rfl) a n c es HN.out rfl w.heap.size HIN.out HNL.out (by unfold maxLen; omega) (by omega) (by simp) ?_)
    intro v1 w1 hown1 hg1 _
    have hb1 : Below w.heap.size w w1 := (hbd.alloc hbd.size _).grown hg1 (by have := hbd.size; simp; omega) (fun k hk => by cases hk; exact hbd.size)
    (try rw [Nat.zero_add] at hown1)
    (try rw [List.nil_append] at hown1)
    obtain ⟨a1, k1, rfl⟩ := row_slice hown1
    have HO1 := Lib.hid hown1
    have HIN2 := Lib.hid (HX.out.below enSub_kept hb1 (Nat.le_refl _))
    have hz1 : wd.heap.size ≤ w1.heap.size := by have := hg1.size; simp at this; omega
    clear hown1 hg1 c2'
    go_wp2_with (at_builtin; refine wpList_append_rows Try.underlying22 infoEn rfl (by decide) enCells_len enCells_one rfl (.tmp 26) (.tmp 27) rfl wd.heap.size (.slice a1 n k1) n (es.flatMap enCells) rfl HO1.out ao m cap ms HM.out rfl w.heap.size HIN2.out HA.out (by unfold maxLen; omega) (by omega) hz1 ?_)
    intro v2 w2 hown2 hg2 _
    obtain ⟨a2, k2, rfl⟩ := row_slice hown2
    have hb2 : Below w.heap.size w w2 := hb1.grown hg2 hb1.size (fun k hk => by have h1 := (World.ownsRow.lt HO1.out k hk).1; have := hbd.size; omega)
    have hk2 := (hb2.block rb hrl).trans HL.out.blk
    have d2 := Go.Joins.cell_of_block hk2 2
    have f2 := Go.Joins.unfrozen_of_block hk2 2
    have hput := HL.out.put (es2 := es ++ ms) (xs := ms) hb2 hB (Go.Joins.ownsRow_le (by rw [List.length_append, HN.out, HM.out, List.flatMap_append]; exact hown2) hbd.size) (fun e he => (List.mem_append.1 he).elim (HL.out.sub e) (HSUB.out e)) (fun e he => (List.mem_append.1 he).elim (HL.out.nils e) (HQ.out.2 e)) (fun e he => (List.mem_append.1 he).elim (HL.out.apart e) (HK.out e)) (fun e he => List.mem_append.1 he)
    have HPUT := Lib.hid hput
    clear hown2 hg2 hk2 hput hb1 hb2 hz1
    go_wp2_with fail
    go_ret
    obtain ⟨hp1, hp2, hp3⟩ := HPUT.out
    rw [HN.out] at hp2
    exact ⟨_, rfl, hp1, hp2, hp3⟩
end Go.Proofs.Ytljfanhkbbfngaa
/- Two operations of a region that may come up in either order. Any program. Conditions: as each says. -/
namespace Go.Proofs.Ytljfanhkbbfngaa
open Go.RowKit
theorem takeS_two {P : Program} {md : Region.Mode} {ops : Array Oper} {Q : Exit → Act → World → Prop} {S : World → Prop} (i j : Nat) {oi oj : Oper} {fuel : Nat} {listed : Array Bool} {a : Act} {w : World} (hi : ops.toList[i]? = some oi) (hj : ops.toList[j]? = some oj) (hr : Region.ready md ops listed = [i, j]) (hwi : Region.wanted oi (yielded ops a.tmps) = true) (hwj : Region.wanted oj (yielded ops a.tmps) = true)
    (h1 : ∀ K' : Act → World → Prop, Shut (∀ a w, S w → wpAnyH P md ops Q S fuel (listed.setIfInBounds i true) a w → K' a w) → Oper.wp P oi a w K' Q)
    (h2 : ∀ K' : Act → World → Prop, Shut (∀ a w, S w → wpAnyH P md ops Q S fuel (listed.setIfInBounds j true) a w → K' a w) → Oper.wp P oj a w K' Q) : wpAnyH P md ops Q S (fuel + 1) listed a w :=
  wpAnyH_ready (rs := [i, j]) hr (by simp) (AllReadyH.cons (by rw [← Array.getElem?_toList]; exact hi) (fun K hK => by rw [if_pos hwi]; exact h1 K (fun a w hS hW => hK.out a w hS (fun _ => hW)))
    (AllReadyH.cons (by rw [← Array.getElem?_toList]; exact hj) (fun K hK => by rw [if_pos hwj]; exact h2 K (fun a w hS hW => hK.out a w hS (fun _ => hW))) AllReadyH.nil))
end Go.Proofs.Ytljfanhkbbfngaa
