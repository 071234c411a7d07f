/- ApartBytes: rows of bytes that lie apart are found to do so, also where their blocks are greater than they. Conditions: each row is the caller's own. -/
import Derived.Test.YtglgcjkglhlggaaGreatDoorGLetterPuts22
import Derived.Test.YtglgcjkglhlggaaGreatDoorGLetterPuts23
import Derived.Test.YtglgcjkglhlggaaGreatDoorGLetterPuts12
import Derived.Test.YtglgcjkglhlggaaGreatDoorGLetterPuts15
import Derived.Test.YtglgcjkglhlggaaGreatDoorGLetterPuts21
import Derived.Test.YtglgcjkglhlggaaGreatDoorGLetterPuts6
set_option linter.unusedVariables false
set_option linter.unusedSimpArgs false
namespace Go.Proofs.YtglgcjkglhlggaaGreatDoor
open Go.RowKit
set_option maxRecDepth 20000
set_option maxHeartbeats 4000000 in
theorem apartW_bag (M B bb K : Nat) (v : Value) (R : Nat → Value) (n : Nat → Nat) (C0 : Nat → List Value) (w : World) (hb : BagIs w bb v) (hL : w.ownsRow M 25 1 v K ((List.range K).map R)) (hR : RowsX (fun g => M ≤ g) B K R n C0 w) (hMb : M ≤ bb) (hBM : B ≤ M) (hsep : SepAll K R) (hK : K ≤ 1000) (hn : ∀ j, j < K → n j ≤ 1099511627776) (hB : B ≤ w.heap.size) :
    Calls Tryz.prog 48 #[.pointer (some ⟨bb, 0, none⟩)] w fun e w' => e = .returned (.bool true) ∧ Below B w w' := by
  obtain ⟨lo, lc, hv, _, _, _⟩ := row_form hL
  subst hv
  have HL := Lib.hid hL
  have HR := Lib.hid hR
  have HS := Lib.hid hsep
  have HN := Lib.hid hn
  have H0 := Lib.hid hb
  have hbel0 : Below B w w := Below.refl _ _
  have hlt0 := hb.lt
  clear hL hR hsep hn hb
  have c0 : w.cell? ⟨bb, 0, none⟩ = some (.slice none 0 0) := H0.out.cell 0
  go_enter Tryz.func48, Tryz.ntmps48
  go_wp2_with fail
  refine (flatNil_Limbs _).mono ?_
  rintro e w1 ⟨rfl, hb1⟩
  have H1 := Lib.hid (H0.out.below hb1 hlt0)
  have hbel1 := hbel0.trans (hb1.mono (Nat.le_trans hB hbel0.size))
  have hlt1 := H1.out.lt
  have HL1 := Lib.hid (own_below HL.out hb1 (Nat.le_refl _))
  have HR1 := Lib.hid (show RowsX (fun g => M ≤ g) B K R n C0 w1 from fun j hj => RowX.below (HR.out j hj) hb1 (Nat.le_refl _))
  clear c0
  have c1 : w1.cell? ⟨bb, 1, none⟩ = some (.slice none 0 0) := H1.out.cell 1
  go_wp2_with fail
  refine (flatNil_Words _).mono ?_
  rintro e w2 ⟨rfl, hb2⟩
  have H2 := Lib.hid (H1.out.below hb2 hlt1)
  have hbel2 := hbel1.trans (hb2.mono (Nat.le_trans hB hbel1.size))
  have hlt2 := H2.out.lt
  have HL2 := Lib.hid (own_below HL1.out hb2 (Nat.le_refl _))
  have HR2 := Lib.hid (show RowsX (fun g => M ≤ g) B K R n C0 w2 from fun j hj => RowX.below (HR1.out j hj) hb2 (Nat.le_refl _))
  clear c1
  have c2 : w2.cell? ⟨bb, 2, none⟩ = some (.slice none 0 0) := H2.out.cell 2
  go_wp2_with fail
  refine (flatNil_Ints _).mono ?_
  rintro e w3 ⟨rfl, hb3⟩
  have H3 := Lib.hid (H2.out.below hb3 hlt2)
  have hbel3 := hbel2.trans (hb3.mono (Nat.le_trans hB hbel2.size))
  have hlt3 := H3.out.lt
  have HL3 := Lib.hid (own_below HL2.out hb3 (Nat.le_refl _))
  have HR3 := Lib.hid (show RowsX (fun g => M ≤ g) B K R n C0 w3 from fun j hj => RowX.below (HR2.out j hj) hb3 (Nat.le_refl _))
  clear c2
  have c3 : w3.cell? ⟨bb, 3, none⟩ = some (.slice none 0 0) := H3.out.cell 3
  go_wp2_with fail
  refine (flatNil_Longs _).mono ?_
  rintro e w4 ⟨rfl, hb4⟩
  have H4 := Lib.hid (H3.out.below hb4 hlt3)
  have hbel4 := hbel3.trans (hb4.mono (Nat.le_trans hB hbel3.size))
  have hlt4 := H4.out.lt
  have HL4 := Lib.hid (own_below HL3.out hb4 (Nat.le_refl _))
  have HR4 := Lib.hid (show RowsX (fun g => M ≤ g) B K R n C0 w4 from fun j hj => RowX.below (HR3.out j hj) hb4 (Nat.le_refl _))
  clear c3
  have c4 : w4.cell? ⟨bb, 4, none⟩ = some (.slice none 0 0) := H4.out.cell 4
  go_wp2_with fail
  refine (flatNil_Texts _).mono ?_
  rintro e w5 ⟨rfl, hb5⟩
  have H5 := Lib.hid (H4.out.below hb5 hlt4)
  have hbel5 := hbel4.trans (hb5.mono (Nat.le_trans hB hbel4.size))
  have hlt5 := H5.out.lt
  have HL5 := Lib.hid (own_below HL4.out hb5 (Nat.le_refl _))
  have HR5 := Lib.hid (show RowsX (fun g => M ≤ g) B K R n C0 w5 from fun j hj => RowX.below (HR4.out j hj) hb5 (Nat.le_refl _))
  clear c4
  have c5 : w5.cell? ⟨bb, 5, none⟩ = some (.slice lo K lc) := H5.out.cell 5
  go_wp2_with fail
  refine (flatW_any (fun g => M ≤ g ∧ g < w5.heap.size) B K lo lc R n C0 w5 (Go.Joins.ownsRow_le HL5.out hBM) (fun j hj => RowX.re (HR5.out j hj) (fun g _ h => h.1)) (fun g hg => HL5.out.lt g hg) (fun g h => h.2) HS.out (Nat.le_trans hK (by decide)) HN.out (Nat.le_trans hB hbel5.size)).mono ?_
  rintro e w6 ⟨rfl, hk⟩
  have H6 := Lib.hid (show BagIs w6 bb (.slice lo K lc) from (hk.apart bb hlt5 (fun ⟨j, hj, e⟩ => (HR5.out j hj).no bb e hMb)).trans H5.out)
  have hbel6 := hbel5.trans hk.below
  have hlt6 := H6.out.lt
  clear c5
  have c6 : w6.cell? ⟨bb, 6, none⟩ = some (.slice none 0 0) := H6.out.cell 6
  go_wp2_with fail
  refine (flatNil_Values _).mono ?_
  rintro e w7 ⟨rfl, hb7⟩
  have H7 := Lib.hid (H6.out.below hb7 hlt6)
  have hbel7 := hbel6.trans (hb7.mono (Nat.le_trans hB hbel6.size))
  have hlt7 := H7.out.lt
  clear c6
  have c7 : w7.cell? ⟨bb, 7, none⟩ = some (.slice none 0 0) := H7.out.cell 7
  go_wp2_with fail
  refine (flatNil_Facts _).mono ?_
  rintro e w8 ⟨rfl, hb8⟩
  have H8 := Lib.hid (H7.out.below hb8 hlt7)
  have hbel8 := hbel7.trans (hb8.mono (Nat.le_trans hB hbel7.size))
  have hlt8 := H8.out.lt
  clear c7
  have c8 : w8.cell? ⟨bb, 8, none⟩ = some (.slice none 0 0) := H8.out.cell 8
  go_wp2_with fail
  refine (flatNil_Lexes _).mono ?_
  rintro e w9 ⟨rfl, hb9⟩
  have H9 := Lib.hid (H8.out.below hb9 hlt8)
  have hbel9 := hbel8.trans (hb9.mono (Nat.le_trans hB hbel8.size))
  have hlt9 := H9.out.lt
  clear c8
  have c9 : w9.cell? ⟨bb, 9, none⟩ = some (.slice none 0 0) := H9.out.cell 9
  go_wp2_with fail
  refine (flatNil_Nodes _).mono ?_
  rintro e w10 ⟨rfl, hb10⟩
  have H10 := Lib.hid (H9.out.below hb10 hlt9)
  have hbel10 := hbel9.trans (hb10.mono (Nat.le_trans hB hbel9.size))
  have hlt10 := H10.out.lt
  clear c9
  have c10 : w10.cell? ⟨bb, 10, none⟩ = some (.slice none 0 0) := H10.out.cell 10
  go_wp2_with fail
  refine (flatNil_Exprs _).mono ?_
  rintro e w11 ⟨rfl, hb11⟩
  have H11 := Lib.hid (H10.out.below hb11 hlt10)
  have hbel11 := hbel10.trans (hb11.mono (Nat.le_trans hB hbel10.size))
  have hlt11 := H11.out.lt
  clear c10
  have c11 : w11.cell? ⟨bb, 11, none⟩ = some (.slice none 0 0) := H11.out.cell 11
  go_wp2_with fail
  refine (flatNil_Args _).mono ?_
  rintro e w12 ⟨rfl, hb12⟩
  have H12 := Lib.hid (H11.out.below hb12 hlt11)
  have hbel12 := hbel11.trans (hb12.mono (Nat.le_trans hB hbel11.size))
  have hlt12 := H12.out.lt
  clear c11
  have c12 : w12.cell? ⟨bb, 12, none⟩ = some (.slice none 0 0) := H12.out.cell 12
  go_wp2_with fail
  refine (flatNil_Conds _).mono ?_
  rintro e w13 ⟨rfl, hb13⟩
  have H13 := Lib.hid (H12.out.below hb13 hlt12)
  have hbel13 := hbel12.trans (hb13.mono (Nat.le_trans hB hbel12.size))
  have hlt13 := H13.out.lt
  clear c12
  have c13 : w13.cell? ⟨bb, 13, none⟩ = some (.slice none 0 0) := H13.out.cell 13
  go_wp2_with fail
  refine (flatNil_Acts _).mono ?_
  rintro e w14 ⟨rfl, hb14⟩
  have H14 := Lib.hid (H13.out.below hb14 hlt13)
  have hbel14 := hbel13.trans (hb14.mono (Nat.le_trans hB hbel13.size))
  have hlt14 := H14.out.lt
  clear c13
  have c14 : w14.cell? ⟨bb, 14, none⟩ = some (.slice none 0 0) := H14.out.cell 14
  go_wp2_with fail
  refine (flatNil_Types _).mono ?_
  rintro e w15 ⟨rfl, hb15⟩
  have H15 := Lib.hid (H14.out.below hb15 hlt14)
  have hbel15 := hbel14.trans (hb15.mono (Nat.le_trans hB hbel14.size))
  have hlt15 := H15.out.lt
  clear c14
  have c15 : w15.cell? ⟨bb, 15, none⟩ = some (.slice none 0 0) := H15.out.cell 15
  go_wp2_with fail
  refine (flatNil_RuleRow _).mono ?_
  rintro e w16 ⟨rfl, hb16⟩
  have H16 := Lib.hid (H15.out.below hb16 hlt15)
  have hbel16 := hbel15.trans (hb16.mono (Nat.le_trans hB hbel15.size))
  have hlt16 := H16.out.lt
  clear c15
  have c16 : w16.cell? ⟨bb, 16, none⟩ = some (.slice none 0 0) := H16.out.cell 16
  go_wp2_with fail
  refine (flatNil_RulesRow _).mono ?_
  rintro e w17 ⟨rfl, hb17⟩
  have H17 := Lib.hid (H16.out.below hb17 hlt16)
  have hbel17 := hbel16.trans (hb17.mono (Nat.le_trans hB hbel16.size))
  have hlt17 := H17.out.lt
  clear c16
  have c17 : w17.cell? ⟨bb, 17, none⟩ = some (.slice none 0 0) := H17.out.cell 17
  go_wp2_with fail
  refine (flatNil_Tokens _).mono ?_
  rintro e w18 ⟨rfl, hb18⟩
  have H18 := Lib.hid (H17.out.below hb18 hlt17)
  have hbel18 := hbel17.trans (hb18.mono (Nat.le_trans hB hbel17.size))
  have hlt18 := H18.out.lt
  clear c17
  have c18 : w18.cell? ⟨bb, 18, none⟩ = some (.slice none 0 0) := H18.out.cell 18
  go_wp2_with fail
  refine (flatNil_Commands _).mono ?_
  rintro e w19 ⟨rfl, hb19⟩
  have H19 := Lib.hid (H18.out.below hb19 hlt18)
  have hbel19 := hbel18.trans (hb19.mono (Nat.le_trans hB hbel18.size))
  have hlt19 := H19.out.lt
  clear c18
  have c19 : w19.cell? ⟨bb, 19, none⟩ = some (.slice none 0 0) := H19.out.cell 19
  go_wp2_with fail
  refine (flatNil_Replies _).mono ?_
  rintro e w20 ⟨rfl, hb20⟩
  have H20 := Lib.hid (H19.out.below hb20 hlt19)
  have hbel20 := hbel19.trans (hb20.mono (Nat.le_trans hB hbel19.size))
  have hlt20 := H20.out.lt
  clear c19
  have c20 : w20.cell? ⟨bb, 20, none⟩ = some (.slice none 0 0) := H20.out.cell 20
  go_wp2_with fail
  refine (flatNil_Entries _).mono ?_
  rintro e w21 ⟨rfl, hb21⟩
  have H21 := Lib.hid (H20.out.below hb21 hlt20)
  have hbel21 := hbel20.trans (hb21.mono (Nat.le_trans hB hbel20.size))
  have hlt21 := H21.out.lt
  clear c20
  have c21 : w21.cell? ⟨bb, 21, none⟩ = some (.slice none 0 0) := H21.out.cell 21
  go_wp2_with fail
  refine (flatNil_Letters _).mono ?_
  rintro e w22 ⟨rfl, hb22⟩
  have H22 := Lib.hid (H21.out.below hb22 hlt21)
  have hbel22 := hbel21.trans (hb22.mono (Nat.le_trans hB hbel21.size))
  have hlt22 := H22.out.lt
  clear c21
  have c22 : w22.cell? ⟨bb, 22, none⟩ = some (.slice none 0 0) := H22.out.cell 22
  go_wp2_with fail
  refine (flatNil_Snaps _).mono ?_
  rintro e w23 ⟨rfl, hb23⟩
  have H23 := Lib.hid (H22.out.below hb23 hlt22)
  have hbel23 := hbel22.trans (hb23.mono (Nat.le_trans hB hbel22.size))
  have hlt23 := H23.out.lt
  clear c22
  have c23 : w23.cell? ⟨bb, 23, none⟩ = some (.slice none 0 0) := H23.out.cell 23
  go_wp2_with fail
  refine (flatNil_Steps _).mono ?_
  rintro e w24 ⟨rfl, hb24⟩
  have H24 := Lib.hid (H23.out.below hb24 hlt23)
  have hbel24 := hbel23.trans (hb24.mono (Nat.le_trans hB hbel23.size))
  have hlt24 := H24.out.lt
  clear c23
  have c24 : w24.cell? ⟨bb, 24, none⟩ = some (.slice none 0 0) := H24.out.cell 24
  go_wp2_with fail
  refine (flatNil_Tales _).mono ?_
  rintro e w25 ⟨rfl, hb25⟩
  have H25 := Lib.hid (H24.out.below hb25 hlt24)
  have hbel25 := hbel24.trans (hb25.mono (Nat.le_trans hB hbel24.size))
  have hlt25 := H25.out.lt
  clear c24
  have c25 : w25.cell? ⟨bb, 25, none⟩ = some (.slice none 0 0) := H25.out.cell 25
  go_wp2_with fail
  refine (flatNil_States _).mono ?_
  rintro e w26 ⟨rfl, hb26⟩
  have H26 := Lib.hid (H25.out.below hb26 hlt25)
  have hbel26 := hbel25.trans (hb26.mono (Nat.le_trans hB hbel25.size))
  have hlt26 := H26.out.lt
  clear c25
  have c26 : w26.cell? ⟨bb, 26, none⟩ = some (.slice none 0 0) := H26.out.cell 26
  go_wp2_with fail
  refine (flatNil_Sessions _).mono ?_
  rintro e w27 ⟨rfl, hb27⟩
  have H27 := Lib.hid (H26.out.below hb27 hlt26)
  have hbel27 := hbel26.trans (hb27.mono (Nat.le_trans hB hbel26.size))
  have hlt27 := H27.out.lt
  clear c26
  have c27 : w27.cell? ⟨bb, 27, none⟩ = some (.slice none 0 0) := H27.out.cell 27
  go_wp2_with fail
  refine (flatNil_Machines _).mono ?_
  rintro e w28 ⟨rfl, hb28⟩
  have H28 := Lib.hid (H27.out.below hb28 hlt27)
  have hbel28 := hbel27.trans (hb28.mono (Nat.le_trans hB hbel27.size))
  have hlt28 := H28.out.lt
  clear c27
  have c28 : w28.cell? ⟨bb, 28, none⟩ = some (.slice none 0 0) := H28.out.cell 28
  go_wp2_with fail
  refine (flatNil_Frames _).mono ?_
  rintro e w29 ⟨rfl, hb29⟩
  have H29 := Lib.hid (H28.out.below hb29 hlt28)
  have hbel29 := hbel28.trans (hb29.mono (Nat.le_trans hB hbel28.size))
  have hlt29 := H29.out.lt
  clear c28
  go_wp2_with fail
  go_ret
  exact ⟨rfl, hbel29⟩
set_option maxHeartbeats 2000000 in
theorem apartBytesW_any (B lb K lc : Nat) (R : Nat → Value) (n : Nat → Nat) (C0 : Nat → List Value) (w : World) (hc : ∀ j, j < K → w.cell? ⟨lb, j, none⟩ = some (R j)) (hlb : lb < w.heap.size) (hR : RowsX (fun _ => False) B K R n C0 w) (hsep : SepAll K R) (hK : K ≤ 1000) (hn : ∀ j, j < K → n j ≤ 1099511627776) (hB : B ≤ w.heap.size) :
    Calls Tryz.prog 16 #[.slice (some ⟨lb, 0, none⟩) K lc] w fun e w' => e = .returned (.bool true) ∧ Below B w w' := by
  have HR := Lib.hid hR
  have HS := Lib.hid hsep
  have HN := Lib.hid hn
  have HC := Lib.hid hc
  clear hR hsep hn hc
  go_enter Tryz.func16, Tryz.ntmps16
  go_wp2_with fail
  have hb0 : BagIs (w.alloc (.cells (bagB (.slice none 0 0)) 106)) w.heap.size (.slice none 0 0) := heap_alloc_new w _
  have hbe : Below w.heap.size w (w.alloc (.cells (bagB (.slice none 0 0)) 106)) := (Below.refl _ _).alloc (Nat.le_refl _) _
  unfold bagB at hb0 hbe
  generalize w.alloc _ = w1 at hb0 hbe ⊢
  go_loopw [4] (fun i wr => ∃ (k : Nat) (v : Value), k ≤ K ∧ i = .int .i64 k ∧ BagIs wr w.heap.size v ∧ wr.ownsRow w.heap.size 25 1 v k ((List.range k).map R) ∧ Below w.heap.size w wr) (fun i _ => K - (intOf i).toNat)
  case atStart => exact ⟨0, _, by omega, rfl, hb0, World.ownsRow_nil _ _ _ _, hbe⟩
  case round =>
    clear hb0 hbe
    obtain ⟨k, v, hk, rfl, hbag, hrow, hbel⟩ := hrel
    have HB := Lib.hid hbag
    have HRW := Lib.hid hrow
    clear hbag hrow
    have hs := hbel.size
    by_cases hlt : k < K
    · have i1 : (k : Int) < K := by omega
      obtain ⟨a, c, hRk, _, _, _⟩ := row_formX (HR.out k hlt)
      have c0 : wr.cell? ⟨lb, k, none⟩ = some (.slice a (n k) c) := by rw [hbel.cell (p := ⟨lb, k, none⟩) hlb, HC.out k hlt, hRk]
      generalize n k = nk at c0 hRk
      have HRK := Lib.hid hRk
      clear hRk
      go_wp2_with fail
      refine (putB_bag w.heap.size w.heap.size v k _ a nk c wr HB.out HRW.out hs (Nat.le_refl _) (by omega)).mono ?_
      rintro e w3 ⟨rfl, v3, hb3, hr3, hB3⟩
      have H3 := Lib.hid hb3
      have H4 := Lib.hid hr3
      clear hb3 hr3 c0
      go_wp2_with fail
      go_roundw
      case rel => exact ⟨k + 1, v3, by omega, by go_num, H3.out, by rw [List.range_succ, List.map_append]; simp only [List.map_cons, List.map_nil]; rw [HRK.out]; exact H4.out, hbel.trans hB3⟩
      case measure => simp [intOf]; omega
    · obtain rfl : K = k := by omega
      go_wp2_with fail
      refine (apartW_bag w.heap.size B w.heap.size K v R n C0 wr HB.out HRW.out (fun j hj => RowX.below (RowX.re (HR.out j hj) (fun g hg h => by omega)) hbel (Nat.le_refl _)) (Nat.le_refl _) hB HS.out hK HN.out (by omega)).mono ?_
      rintro e w3 ⟨rfl, hb3⟩
      go_wp2_with fail
      go_ret
      exact ⟨rfl, (hbel.mono hB).trans hb3⟩
end Go.Proofs.YtglgcjkglhlggaaGreatDoor
/- The law LetterPuts, walked. Conditions: the letter lies in memory as it is read. -/
namespace Go.Proofs.YtglgcjkglhlggaaGreatDoor
open Go.RowKit
set_option maxRecDepth 20000
theorem freeRow_rowX {w : World} {B n c : Nat} {a : Option Addr} {xs : List Int} (h : FreeRow w B a n c xs) (hn : xs.length = n) (h0 : a = none ∨ 0 < n) : RowX (fun _ => False) w B (.slice a n c) n (xs.map bv) := by
  refine ⟨by rw [List.length_map, hn, Nat.mul_one], ?_⟩
  rcases h with ⟨rfl, rfl, rfl⟩ | ⟨g, rfl, h1, h2, h3, h4, h5⟩
  · exact Or.inl ⟨rfl, rfl⟩
  · have hp : 0 < n := h0.resolve_left (by simp)
    have hg : g < w.heap.size := by
      obtain ⟨u, hu⟩ := Option.isSome_iff_exists.1 (h4 0 (by omega)).1
      exact World.block_lt_of_cell? w _ hu
    exact Or.inr ⟨g, c, rfl, h1, hg, fun h => h, h2, h3, h4, h5⟩
theorem RowX.far {No : Nat → Prop} {B n : Nat} {w w' : World} {v : Value} {xs : List Value} (h : RowX No w B v n xs) (hf : ∀ b, B ≤ b → b < w.heap.size → w'.heap[b]? = w.heap[b]?) (hs : w.heap.size ≤ w'.heap.size) : RowX No w' B v n xs := by
  refine ⟨h.1, ?_⟩
  rcases h.2 with h1 | ⟨g, c, h1, h2, h3, h4, h5, h6, h7, h8⟩
  · exact Or.inl h1
  · have hb := hf g h2 h3
    exact Or.inr ⟨g, c, h1, h2, Nat.lt_of_lt_of_le h3 hs, h4, h5, h6, fun i hi => ⟨by rw [World.cell?_of_block (a := ⟨g, i, none⟩) hb]; exact (h7 i hi).1, (World.frozen?_of_block (a := ⟨g, i, none⟩) hb).trans (h7 i hi).2⟩, fun i hi => (World.cell?_of_block (a := ⟨g, i, none⟩) hb).trans (h8 i hi)⟩
theorem RowX.le {No : Nat → Prop} {B B2 n : Nat} {w : World} {v : Value} {xs : List Value} (h : RowX No w B v n xs) (hB : B2 ≤ B) : RowX No w B2 v n xs := by
  refine ⟨h.1, ?_⟩
  rcases h.2 with h1 | ⟨g, c, h1, h2, h3⟩
  · exact Or.inl h1
  · exact Or.inr ⟨g, c, h1, Nat.le_trans hB h2, h3⟩
theorem RowX.bytes {No : Nat → Prop} {B n c : Nat} {w : World} {a : Option Addr} {xs : List Int} (h : RowX No w B (.slice a n c) n (xs.map bv)) : BytesIn w w.heap.size a xs := by
  have hl : xs.length = n := by have := h.1; rw [List.length_map, Nat.mul_one] at this; exact this
  rcases h.2 with ⟨h1, hz⟩ | ⟨g, c', h1, h2, h3, h4, h5, h6, h7, h8⟩
  · subst hz; exact Or.inl (List.length_eq_zero_iff.1 hl)
  · cases h1
    refine Or.inr ⟨g, 0, rfl, h3, fun i hi => ?_⟩
    rw [Nat.zero_add, h8 i (by omega), List.getElem?_map, List.getElem?_eq_getElem hi]
    simp [bv, List.getD, hi]
theorem putL2_len {p : LtP} {bs : List Int} {er : Int} (h : putL2 p = (bs, er)) : bs.length ≤ 1048576 := by
  unfold putL2 at h
  split at h
  · cases h; simp
  · split at h
    · cases h; simp
    · cases h; omega
def dup {α : Type} (u v : α) (j : Nat) : α := if j = 0 then u else v
set_option maxHeartbeats 8000000 in
theorem letterPuts_any (W : World) (l : Lt) (B0 : Nat) (hx : ltSub W B0 l) (hB0 : B0 ≤ W.heap.size) (hq : LtArg l) :
    Calls Tryz.prog 3 #[ltVal l] W fun e w' => e = .returned (.bool true) ∧ Below W.heap.size W w' := by
  have hb0 := (Below.refl W.heap.size W).alloc (Nat.le_refl _) (.cells (ltArr l) 27)
  have hk := heap_alloc_new W (.cells (ltArr l) 27)
  have hs0 : (W.alloc (.cells (ltArr l) 27)).heap.size = W.heap.size + 1 := by simp
  have HB0 := Lib.hid hb0
  have HK := Lib.hid hk
  have HS0 := Lib.hid (Nat.le_of_eq hs0.symm)
  have HX := Lib.hid (ltSub_mono hx hB0)
  have HQ := Lib.hid hq
  clear hb0 hk hs0 hx hq
  unfold ltVal
  go_enter Tryz.func3, Tryz.ntmps3
  go_upto_region 1 with fail
  have hb0 := HB0.out
  have hk := HK.out
  have hs0 := HS0.out
  clear HB0 HK HS0
  unfold ltArr at hb0 hk hs0
  generalize W.alloc (.cells #[.int .u8 l.kind, .int .i64 l.fr, .int .i64 l.tov, .int .i64 l.term, .int .i64 l.index, .int .i64 l.was, .bool l.ok, .int .i64 l.commit, .int .i64 l.round, .slice l.eo l.es.length l.ecap, .slice l.vo l.vs.length l.vcap, .slice l.io l.im.length l.icap] 27) = w0 at hb0 hk hs0 ⊢
  have HK := Lib.hid hk
  clear hk
  have hrg := rng_block HK.out
  go_wp2_with (refine wpList_load_mid rfl 27 (.tmp 1) rfl W.heap.size 0 rfl (ltArr l).toList _ hrg Tryz.underlying27 rfl (info_lt3 l) ?_)
  refine (great21_any l w0 (ltSub_mono (ltSub_below HX.out hb0 (Nat.le_refl _)) (by omega)) HQ.out).mono ?_
  rintro e w1 ⟨g, rfl, hg, b1⟩
  have hs1 := b1.size
  have hlt0 : W.heap.size < w0.heap.size := by omega
  have B1 : Below W.heap.size W w1 := hb0.trans (b1.mono (by omega))
  have K1 := Lib.hid ((b1.block W.heap.size hlt0).trans HK.out)
  have HG := Lib.hid hg
  clear hg HK hrg
  cases g with
  | true =>
    go_wp2_with fail
    refine (awake21_any _).mono ?_
    rintro e w2 ⟨rfl, b2⟩
    go_wp2_with fail
    go_ret
    exact ⟨rfl, B1.trans (b2.mono B1.size)⟩
  | false =>
  have HF := Lib.hid (HG.out rfl)
  clear HG
  obtain ⟨PR, hPR⟩ := pair_of (rightL l.plain)
  have HPR := Lib.hid hPR
  obtain ⟨⟨bs, er⟩, hput⟩ : ∃ z, putL2 l.plain = z := ⟨_, rfl⟩
  have HPUT := Lib.hid hput
  clear hPR hput
  have hrg := rng_block K1.out
  go_wp2_with (refine wpList_load_mid rfl 27 (.tmp 1) rfl W.heap.size 0 rfl (ltArr l).toList _ hrg Tryz.underlying27 rfl (info_lt3 l) ?_)
  clear hrg
  refine (lentLt_any l w1 (ltSub_mono (ltSub_below HX.out B1 (Nat.le_refl _)) B1.size) HF.out).mono ?_
  rintro e w2 ⟨x, rfl, hpx, hL, b2⟩
  have hs2 := b2.size
  have B2 : Below W.heap.size W w2 := B1.trans (b2.mono B1.size)
  have K2 := Lib.hid ((b2.block W.heap.size (by omega)).trans K1.out)
  have HL2 := Lib.hid hL
  have HFX := Lib.hid (hL.fine hpx HF.out)
  have HPX := Lib.hid hpx
  have hk0 := heap_alloc_new w2 (.cells (ltArr zeroT) 27)
  rw [zeroT_arr] at hk0
  have hal := (Below.refl w2.heap.size w2).alloc (Nat.le_refl _) (.cells (ltArr x) 27)
  have hki := heap_alloc_new w2 (.cells (ltArr x) 27)
  have HAL := Lib.hid hal
  have HKI := Lib.hid hki
  clear hL hpx hal hki
  go_upto_region 4 with (refine wpList_store_row rfl 27 (.tmp 3) (.tmp 15) rfl w2.heap.size (ltArr x) rfl (by first | rfl | simp) 27 _ hk0 (info_lt2 x) rfl (ltArr_one x) ?_; rw [World.setRow_alloc_new])
  clear hk0
  have hal := HAL.out
  have hsi := hal.size
  have hgi := (Array.getElem?_eq_some_iff.1 HKI.out).1
  generalize w2.alloc (.cells (ltArr x) 27) = v2 at hal hsi hgi HKI ⊢
  obtain ⟨gi, hgie⟩ : ∃ gi, w2.heap.size = gi := ⟨_, rfl⟩
  have HGI := Lib.hid hgie
  rw [hgie] at HKI hgi ⊢
  have hgw : W.heap.size < gi := by omega
  have V2 : Below W.heap.size W v2 := B2.trans (hal.mono B2.size)
  have BV := Lib.hid hal
  have KV := Lib.hid ((hal.block W.heap.size (by omega)).trans K2.out)
  have HLV := Lib.hid (HL2.out.below hal (Nat.le_refl _))
  have HRI := Lib.hid (show ∀ w', Below v2.heap.size v2 w' → w'.rangeAt gi 0 (ltArr x).toList from fun w' h => rng_block ((h.block gi hgi).trans HKI.out))
  have HRL := Lib.hid (show ∀ w', Below v2.heap.size v2 w' → w'.rangeAt W.heap.size 0 (ltArr l).toList from fun w' h => rng_block ((h.block W.heap.size (by omega)).trans KV.out))
  clear hal HAL
  refine heldS_begin (fun w' => Below v2.heap.size v2 w') (by kernel_rfl) ((Below.refl _ _).drew) ?_
  intro hS0
  refine takeS_yes (v := .agg (ltArr x).toList.toArray) 0 rfl (by kernel_rfl) (by kernel_rfl) (by kernel_rfl) (fun _ _ _ h => h) (by rfl) hS0 (load_held 27 (.tmp 3) rfl gi 0 rfl (ltArr x).toList _ HRI.out Tryz.underlying27 rfl (info_lt3 x)) ?_
  (try simp only [Act.put, List.setIfInBounds_toArray, List.set_cons_zero, List.set_cons_succ])
  refine takeS_yes (v := .agg (ltArr l).toList.toArray) 2 rfl (by kernel_rfl) (by kernel_rfl) (by kernel_rfl) (fun _ _ _ h => h) (by rfl) hS0 (load_held 27 (.tmp 1) rfl W.heap.size 0 rfl (ltArr l).toList _ HRL.out Tryz.underlying27 rfl (info_lt3 l)) ?_
  (try simp only [Act.put, List.setIfInBounds_toArray, List.set_cons_zero, List.set_cons_succ])
  have HLU := Lib.hid (HLV.out.below hS0 (Nat.le_refl _))
  generalize v2.drew = u2 at hS0 HLU ⊢
  have hsu := hS0.size
  refine takeS_alone 1 rfl (by kernel_rfl) (by rfl) (fun K hK => ?_)
  go_simp
  refine (lright_any x u2 HLU.out.sub HFX.out PR.1 (by rw [HPX.out]; exact HPR.out)).mono ?_
  rintro e w3 ⟨rfl, b3⟩
  have hs3 := b3.size
  have hS3 : Below v2.heap.size v2 w3 := hS0.trans (b3.mono hsu)
  have B3 : Below W.heap.size W w3 := V2.trans (hS3.mono V2.size)
  have HL3 := Lib.hid (HLU.out.below b3 (Nat.le_refl _))
  refine hK.out _ _ hS3 ?_
  clear hK K
  (try simp only [Act.put, List.setIfInBounds_toArray, List.set_cons_zero, List.set_cons_succ])
  refine takeS_alone 3 rfl (by kernel_rfl) (by rfl) (fun K hK => ?_)
  go_simp
  refine (rright21_any l w3 (ltSub_mono (ltSub_below HX.out B3 (Nat.le_refl _)) B3.size) HF.out PR.1 HPR.out).mono ?_
  rintro e w4 ⟨rfl, b4⟩
  have hs4 := b4.size
  have hS4 : Below v2.heap.size v2 w4 := hS3.trans (b4.mono (by omega))
  have B4 : Below W.heap.size W w4 := B3.trans (b4.mono B3.size)
  have HL4 := Lib.hid (HL3.out.below b4 (Nat.le_refl _))
  refine hK.out _ _ hS4 ?_
  clear hK K
  (try simp only [Act.put, List.setIfInBounds_toArray, List.set_cons_zero, List.set_cons_succ])
  (first | (refine takeS_no 4 rfl (by kernel_rfl) (by kernel_rfl) (by kernel_rfl) (fun _ _ _ h => h) (by rfl) (by assumption) ?_) | (refine takeS_yes (v := ?_) 4 rfl (by kernel_rfl) (by kernel_rfl) (by kernel_rfl) (fun _ _ _ h => h) (by rfl) (by assumption) ?_ ?_; rotate_left; focus (intro wS hSw; go_simp; first | done | with_reducible rfl)))
  (try simp only [Act.put, List.setIfInBounds_toArray, List.set_cons_zero, List.set_cons_succ])
  (first | (refine takeS_no 5 rfl (by kernel_rfl) (by kernel_rfl) (by kernel_rfl) (fun _ _ _ h => h) (by rfl) (by assumption) ?_) | (refine takeS_yes (v := ?_) 5 rfl (by kernel_rfl) (by kernel_rfl) (by kernel_rfl) (fun _ _ _ h => h) (by rfl) (by assumption) ?_ ?_; rotate_left; focus (intro wS hSw; go_simp; first | done | with_reducible rfl)))
  (try simp only [Act.put, List.setIfInBounds_toArray, List.set_cons_zero, List.set_cons_succ])
  refine wpAnyH_done (by kernel_rfl) ?_ _
  have K4 := Lib.hid ((hS4.block W.heap.size (by omega)).trans KV.out)
  have I4 := Lib.hid ((hS4.block gi hgi).trans HKI.out)
  have S4 := Lib.hid hS4
  clear hS0 hS3 hS4 HL3 HLU HLV HRI HRL KV HKI
  have hri := rng_block I4.out
  go_wp2_with (refine wpList_load_mid rfl 27 (.tmp 3) rfl gi 0 rfl (ltArr x).toList _ hri Tryz.underlying27 rfl (info_lt3 x) ?_)
  clear hri
  refine (lput_x x w4 HL4.out.sub HFX.out bs er (by rw [HPX.out]; exact HPUT.out)).mono ?_
  rintro e w5 ⟨a, ca, rfl, _, _, _, _, hfa, ha0, b5⟩
  have hs5 := b5.size
  have B5 : Below W.heap.size W w5 := B4.trans (b5.mono B4.size)
  have K5 := Lib.hid ((b5.block W.heap.size (by omega)).trans K4.out)
  have I5 := Lib.hid ((b5.block gi (by omega)).trans I4.out)
  have HL5 := Lib.hid (HL4.out.below b5 (Nat.le_refl _))
  have HA5 := Lib.hid (freeRow_rowX hfa rfl ha0)
  obtain ⟨bn, hbn⟩ : ∃ z, bs.length = z := ⟨_, rfl⟩
  rw [hbn] at HA5 ⊢
  have HBN := Lib.hid hbn
  clear hfa ha0 HL4 hbn K4 I4
  have hri := rng_block I5.out
  go_wp2_with (refine wpList_load_mid rfl 27 (.tmp 3) rfl gi 0 rfl (ltArr x).toList _ hri Tryz.underlying27 rfl (info_lt3 x) ?_)
  clear hri
  refine (lput_x x w5 HL5.out.sub HFX.out bs er (by rw [HPX.out]; exact HPUT.out)).mono ?_
  rintro e w6 ⟨b, cb, rfl, _, _, _, _, hfb, hb0, b6⟩
  have hs6 := b6.size
  have B6 : Below W.heap.size W w6 := B5.trans (b6.mono B5.size)
  have K6 := Lib.hid ((b6.block W.heap.size (by omega)).trans K5.out)
  have I6 := Lib.hid ((b6.block gi (by omega)).trans I5.out)
  have HL6 := Lib.hid (HL5.out.below b6 (Nat.le_refl _))
  have HA6 := Lib.hid (HA5.out.below b6 (Nat.le_refl _))
  have HB6 := Lib.hid (freeRow_rowX hfb rfl hb0)
  rw [HBN.out] at HB6 ⊢
  clear hfb hb0 HL5 K5 I5
  have hri := rng_block I6.out
  have hrl := rng_block K6.out
  go_wp2_with (first | (refine load_want (by rfl) 27 (.tmp 3) rfl gi 0 rfl (ltArr x).toList _ hri Tryz.underlying27 rfl (info_lt3 x) ?_) | (refine load_want (by rfl) 27 (.tmp 1) rfl W.heap.size 0 rfl (ltArr l).toList _ hrl Tryz.underlying27 rfl (info_lt3 l) ?_))
  clear hri hrl
  refine (keptLt_any x l w6 w1.heap.size HPX.out HL6.out (ltSub_mono (ltSub_below HX.out B6 (Nat.le_refl _)) B6.size) HF.out).mono ?_
  rintro e w7 ⟨rfl, b7⟩
  have hs7 := b7.size
  have B7 : Below W.heap.size W w7 := B6.trans (b7.mono B6.size)
  have K7 := Lib.hid ((b7.block W.heap.size (by omega)).trans K6.out)
  have I7 := Lib.hid ((b7.block gi (by omega)).trans I6.out)
  have HA7 := Lib.hid (HA6.out.below b7 (Nat.le_refl _))
  have HB7 := Lib.hid (HB6.out.below b7 (Nat.le_refl _))
  have HR7 := Lib.hid (HL2.out.room (((((BV.out.trans (S4.out.mono (by omega))).trans (b5.mono (by omega))).trans (b6.mono (by omega))).trans (b7.mono (by omega)))))
  clear HA6 HB6 HL6 HL2 K6 I6 BV S4
  have hri := rng_block I7.out
  go_wp2_with (refine wpList_load_mid rfl 27 (.tmp 3) rfl gi 0 rfl (ltArr x).toList _ hri Tryz.underlying27 rfl (info_lt3 x) ?_)
  clear hri
  refine (overLt_any x w7 w1.heap.size w2.heap.size HR7.out HFX.out (by omega) (by omega)).mono ?_
  rintro e w8 ⟨rfl, ho⟩
  have hs8 : w7.heap.size ≤ w8.heap.size := ho.size
  have B8 : Below W.heap.size W w8 := B7.trans (ho.mid.below.mono (by omega))
  have K8 := Lib.hid ((ho.mid.below.block W.heap.size (by omega)).trans K7.out)
  have HA8 := Lib.hid (HA7.out.far (fun b hb hb2 => ho.mid.far b (by omega) hb2) hs8)
  have HB8 := Lib.hid (HB7.out.far (fun b hb hb2 => ho.mid.far b (by omega) hb2) hs8)
  clear ho HA7 HB7 HR7 K7 I7
  have hrl := rng_block K8.out
  go_wp2_with (refine wpList_load_mid rfl 27 (.tmp 1) rfl W.heap.size 0 rfl (ltArr l).toList _ hrl Tryz.underlying27 rfl (info_lt3 l) ?_)
  clear hrl
  refine (rput21_any l w8 (ltSub_mono (ltSub_below HX.out B8 (Nat.le_refl _)) B8.size) HF.out bs er HPUT.out).mono ?_
  rintro e w9 ⟨c, cc, rfl, hic, _, _, _, b9⟩
  have hs9 := b9.size
  have B9 : Below W.heap.size W w9 := B8.trans (b9.mono B8.size)
  have HA9 := Lib.hid (HA8.out.below b9 (Nat.le_refl _))
  have HB9 := Lib.hid (HB8.out.below b9 (Nat.le_refl _))
  have HIC := Lib.hid hic
  rw [HBN.out]
  have hbl : bn ≤ 1048576 := by rw [← HBN.out]; exact putL2_len HPUT.out
  clear hic HA8 HB8 K8
  go_wp2_with fail
  refine (sameB_any a bn ca c bn cc bs w9 HBN.out HBN.out HA9.out.bytes HIC.out (by omega)).mono ?_
  rintro e w10 ⟨rfl, b10⟩
  have hs10 := b10.size
  have B10 : Below W.heap.size W w10 := B9.trans (b10.mono B9.size)
  have HA10 := Lib.hid (HA9.out.below b10 (Nat.le_refl _))
  have HB10 := Lib.hid (HB9.out.below b10 (Nat.le_refl _))
  clear HA9 HB9
  go_wp2_with fail
  refine (apartBytesW_any w4.heap.size w10.heap.size 2 2 (dup (.slice a bn ca) (.slice b bn cb)) (fun _ => bn) (fun _ => bs.map bv) _ (fun j hj => ?_) (by simp) (fun j hj => ?_) (fun i j hi hj hne => ?_) (by decide) (fun j hj => by omega) (by simp; omega)).mono ?_
  · have h2 : j = 0 ∨ j = 1 := by omega
    rcases h2 with rfl | rfl
    · exact Go.Joins.cell_of_block (heap_alloc_new w10 _) 0
    · exact Go.Joins.cell_of_block (heap_alloc_new w10 _) 1
  · have h2 : j = 0 ∨ j = 1 := by omega
    rcases h2 with rfl | rfl
    · exact HA10.out.alloc _
    · exact (HB10.out.le hs5).alloc _
  · have hab : Sep (.slice a bn ca) (.slice b bn cb) := fun q h1 h2 => by
      have h3 := (HA5.out.lt q h1).2
      have h4 := (HB10.out.lt q h2).1
      omega
    have h2 : i = 0 ∨ i = 1 := by omega
    have h3 : j = 0 ∨ j = 1 := by omega
    rcases h2 with rfl | rfl <;> rcases h3 with rfl | rfl
    · exact absurd rfl hne
    · exact hab
    · exact hab.symm
    · exact absurd rfl hne
  rintro e w11 ⟨rfl, b11⟩
  have B11 : Below W.heap.size W w11 := (B10.alloc B10.size _).trans (b11.mono B4.size)
  go_wp2_with fail
  refine (awake21_any _).mono ?_
  rintro e w12 ⟨rfl, b12⟩
  go_wp2_with fail
  go_ret
  exact ⟨rfl, B11.trans (b12.mono B11.size)⟩
theorem walk_LetterPuts {H : Type} {enc : TypeId × Value → H} {d : DataW H} {p : List MemPlace} (W : World) (cs : Array Value) (hc : cs.size = Tryz.prog.cellsOf 27) (h : DataW.Trod enc Tryz.prog W 0 (fun _ => true) true 27 (.agg cs) d p) (hz : DSized Tryz.prog 27 d) :
    Calls Tryz.prog 3 #[.agg cs] W fun e w' => e = .returned (.bool true) ∧ Below W.heap.size W w' := by
  obtain ⟨l, hl, hxl, hql⟩ := open_letter hc h hz
  rw [hl]
  exact letterPuts_any W l _ hxl (Nat.le_refl _) hql
end Go.Proofs.YtglgcjkglhlggaaGreatDoor
