/- ApartBytes: rows of bytes that lie apart are found to do so. Conditions: each row is the caller's own, in a block of its own. -/
import Derived.Test.YtiggpcmikhojmaaGreatDoorGWireNumbers9
import Derived.Test.YtiggpcmikhojmaaGreatDoorGWireNumbers21
import Derived.Test.YtiggpcmikhojmaaGreatDoorGWireNumbers20
import Derived.Test.YtiggpcmikhojmaaGreatDoorGWireNumbers4
import Derived.Test.YtiggpcmikhojmaaGreatDoorGWireNumbers13
set_option linter.unusedVariables false
namespace Go.Proofs.YtiggpcmikhojmaaGreatDoor
open Go.RowKit
set_option maxRecDepth 20000
/-- The bag that holds rows of bytes alone. -/
def bagB (v : Value) : Array Value := #[.slice none 0 0, .slice none 0 0, .slice none 0 0, .slice none 0 0, .slice none 0 0, v, .slice none 0 0, .slice none 0 0, .slice none 0 0, .slice none 0 0, .slice none 0 0, .slice none 0 0, .slice none 0 0, .slice none 0 0, .slice none 0 0, .slice none 0 0, .slice none 0 0, .slice none 0 0, .slice none 0 0, .slice none 0 0, .slice none 0 0, .slice none 0 0, .slice none 0 0, .slice none 0 0, .slice none 0 0, .slice none 0 0, .slice none 0 0, .slice none 0 0, .slice none 0 0]
def BagIs (w : World) (bb : Nat) (v : Value) : Prop := w.heap[bb]? = some (.cells (bagB v) 145 (0, 0))
theorem BagIs.cell {w : World} {bb : Nat} {v : Value} (h : BagIs w bb v) (i : Nat) : w.cell? ⟨bb, i, none⟩ = (bagB v)[i]? := Go.Joins.cell_of_block h i
theorem BagIs.lt {w : World} {bb : Nat} {v : Value} (h : BagIs w bb v) : bb < w.heap.size := (Array.getElem?_eq_some_iff.1 h).1
theorem BagIs.below {w w' : World} {bb B : Nat} {v : Value} (h : BagIs w bb v) (hb : Below B w w') (hB : bb < B) : BagIs w' bb v := (hb.block bb hB).trans h
theorem BagIs.apart {w : World} {bb B E SZ n : Nat} {v u : Value} {xs : List Value} (h : BagIs w bb v) (ho : w.ownsRow B E SZ u n xs) (he : E ≠ 145) : u.ownBlock ≠ some bb := by
  intro hh
  rcases ho.2 with ⟨rfl, _⟩ | ⟨g, cap, cur, rfl, _, g1, _⟩
  · simp [Value.ownBlock] at hh
  · simp [Value.ownBlock] at hh
    subst hh
    unfold BagIs at h
    rw [g1] at h
    simp only [Option.some.injEq, Obj.cells.injEq] at h
    exact he h.2.1
theorem putB_bag (B bb : Nat) (v : Value) (m : Nat) (rows : List Value) (a : Option Addr) (n c : Nat) (w : World) (hb : BagIs w bb v) (hown : w.ownsRow B 43 1 v m rows) (hB : B ≤ w.heap.size) (hBb : B ≤ bb) (hm : m ≤ 1000) :
    Calls Tryz.prog 79 #[.pointer (some ⟨bb, 0, none⟩), .slice a n c] w fun e w' => e = .returned (.tuple #[]) ∧ ∃ v', BagIs w' bb v' ∧ w'.ownsRow B 43 1 v' (m + 1) (rows ++ [.slice a n c]) ∧ Below B w w' := by
  obtain ⟨i0, hi, hz0, hz1, hz2⟩ := info_parts infoRowB
  have c5 : w.cell? ⟨bb, 5, none⟩ = some v := hb.cell 5
  have HB := Lib.hid hb
  have HO := Lib.hid hown
  have hbl := hb.lt
  clear hb hown
  go_enter Tryz.func79, Tryz.ntmps79
  go_wp2_with (at_builtin; refine wpList_append_own _ rfl (.tmp 8) (.tmp 10) 52 rfl B 43 i0 (.slice none 0 0) 1 24 Tryz.underlying52 hi hz0 hz1 hz2 rfl (by decide) v m rows rfl (HO.out.alloc _) ⟨w.heap.size, 0, none⟩ 1 1 [.slice a n c] rfl rfl (cell_one_new _ _ _) (by simp [Value.oneCell']) (by unfold maxLen; omega) (by omega) (by simp; omega) ?_)
  intro v' w3 hown3 hg3 _
  obtain ⟨a3, c3, hv3, _, _, _⟩ := row_form hown3
  subst hv3
  have hbA : BagIs (w.alloc (.cells #[.slice a n c] 43)) bb v := HB.out.below ((Below.refl w.heap.size w).alloc (Nat.le_refl _) _) hbl
  have hb3 : BagIs w3 bb v := (hg3.block bb (by simp; omega) (fun h => HB.out.apart HO.out (by decide) h.symm)).trans hbA
  have d5 : w3.cell? ⟨bb, 5, none⟩ = some v := hb3.cell 5
  have f5 : w3.frozen? ⟨bb, 5, none⟩ = false := Go.Joins.unfrozen_of_block hb3 5
  have hbs : BagIs (w3.setCell ⟨bb, 5, none⟩ (.slice a3 (m + 1) c3)) bb (.slice a3 (m + 1) c3) := Go.Joins.block_setCell hb3 _
  have hrow : (w3.setCell ⟨bb, 5, none⟩ (.slice a3 (m + 1) c3)).ownsRow B 43 1 (.slice a3 (m + 1) c3) (m + 1) (rows ++ [.slice a n c]) := by
    refine ownsRow_setCell_other hown3 ?_ _
    have := hb3.apart hown3 (by decide)
    cases h : (Value.slice a3 (m + 1) c3).ownBlock with
    | none => simp
    | some g => rw [h] at this; simpa using this
  have hbw : Below B w (w3.setCell ⟨bb, 5, none⟩ (.slice a3 (m + 1) c3)) := ((((Below.refl B w).alloc hB _).grown hg3 (by simp; omega) (fun k hk => (HO.out.lt k hk).1)).setCell (p := ⟨bb, 5, none⟩) hBb _)
  have H1 := Lib.hid hbs
  have H2 := Lib.hid hrow
  have H3 := Lib.hid hbw
  clear hbs hrow hbw hown3 hg3 hb3 hbA
  go_wp2_with fail
  go_end0
  exact ⟨rfl, _, H1.out, H2.out, H3.out⟩
set_option maxHeartbeats 4000000 in
theorem apartB_bag (B bb K : Nat) (v : Value) (R : Nat → Value) (n : Nat → Nat) (C0 : Nat → List Value) (w : World) (hb : BagIs w bb v) (hL : w.ownsRow B 43 1 v K ((List.range K).map R)) (hR : RowsAt B 5 1 K R n C0 w) (hsep : SepAll K R) (hK : K ≤ 1000) (hn : ∀ j, j < K → n j ≤ 1099511627776) (hB : B ≤ w.heap.size) :
    Calls Tryz.prog 80 #[.pointer (some ⟨bb, 0, none⟩)] w fun e w' => e = .returned (.bool true) ∧ Below B w w' := by
  obtain ⟨lo, lc, hv, _, _, _⟩ := row_form hL
  subst hv
  have HL := Lib.hid hL
  have HR := Lib.hid hR
  have HS := Lib.hid hsep
  have HN := Lib.hid hn
  have H0 := Lib.hid hb
  have hbel0 : Below B w w := Below.refl _ _
  have hlt0 := hb.lt
  clear hL hR hsep hn hb
  have c0 : w.cell? ⟨bb, 0, none⟩ = some (.slice none 0 0) := H0.out.cell 0
  go_enter Tryz.func80, Tryz.ntmps80
  go_wp2_with fail
  refine (flatNil_Limbs _).mono ?_
  rintro e w1 ⟨rfl, hb1⟩
  have H1 := Lib.hid (H0.out.below hb1 hlt0)
  have hbel1 := hbel0.trans (hb1.mono (Nat.le_trans hB hbel0.size))
  have hlt1 := H1.out.lt
  have HL1 := Lib.hid (own_below HL.out hb1 (Nat.le_refl _))
  have HR1 := Lib.hid (show RowsAt B 5 1 K R n C0 w1 from fun j hj => own_below (HR.out j hj) hb1 (Nat.le_refl _))
  clear c0
  have c1 : w1.cell? ⟨bb, 1, none⟩ = some (.slice none 0 0) := H1.out.cell 1
  go_wp2_with fail
  refine (flatNil_Words _).mono ?_
  rintro e w2 ⟨rfl, hb2⟩
  have H2 := Lib.hid (H1.out.below hb2 hlt1)
  have hbel2 := hbel1.trans (hb2.mono (Nat.le_trans hB hbel1.size))
  have hlt2 := H2.out.lt
  have HL2 := Lib.hid (own_below HL1.out hb2 (Nat.le_refl _))
  have HR2 := Lib.hid (show RowsAt B 5 1 K R n C0 w2 from fun j hj => own_below (HR1.out j hj) hb2 (Nat.le_refl _))
  clear c1
  have c2 : w2.cell? ⟨bb, 2, none⟩ = some (.slice none 0 0) := H2.out.cell 2
  go_wp2_with fail
  refine (flatNil_Ints _).mono ?_
  rintro e w3 ⟨rfl, hb3⟩
  have H3 := Lib.hid (H2.out.below hb3 hlt2)
  have hbel3 := hbel2.trans (hb3.mono (Nat.le_trans hB hbel2.size))
  have hlt3 := H3.out.lt
  have HL3 := Lib.hid (own_below HL2.out hb3 (Nat.le_refl _))
  have HR3 := Lib.hid (show RowsAt B 5 1 K R n C0 w3 from fun j hj => own_below (HR2.out j hj) hb3 (Nat.le_refl _))
  clear c2
  have c3 : w3.cell? ⟨bb, 3, none⟩ = some (.slice none 0 0) := H3.out.cell 3
  go_wp2_with fail
  refine (flatNil_Longs _).mono ?_
  rintro e w4 ⟨rfl, hb4⟩
  have H4 := Lib.hid (H3.out.below hb4 hlt3)
  have hbel4 := hbel3.trans (hb4.mono (Nat.le_trans hB hbel3.size))
  have hlt4 := H4.out.lt
  have HL4 := Lib.hid (own_below HL3.out hb4 (Nat.le_refl _))
  have HR4 := Lib.hid (show RowsAt B 5 1 K R n C0 w4 from fun j hj => own_below (HR3.out j hj) hb4 (Nat.le_refl _))
  clear c3
  have c4 : w4.cell? ⟨bb, 4, none⟩ = some (.slice none 0 0) := H4.out.cell 4
  go_wp2_with fail
  refine (flatNil_Texts _).mono ?_
  rintro e w5 ⟨rfl, hb5⟩
  have H5 := Lib.hid (H4.out.below hb5 hlt4)
  have hbel5 := hbel4.trans (hb5.mono (Nat.le_trans hB hbel4.size))
  have hlt5 := H5.out.lt
  have HL5 := Lib.hid (own_below HL4.out hb5 (Nat.le_refl _))
  have HR5 := Lib.hid (show RowsAt B 5 1 K R n C0 w5 from fun j hj => own_below (HR4.out j hj) hb5 (Nat.le_refl _))
  clear c4
  have c5 : w5.cell? ⟨bb, 5, none⟩ = some (.slice lo K lc) := H5.out.cell 5
  go_wp2_with fail
  refine (flatB_any B K lo lc R n C0 w5 HL5.out HR5.out HS.out (Nat.le_trans hK (by decide)) HN.out (Nat.le_trans hB hbel5.size)).mono ?_
  rintro e w6 ⟨rfl, hk⟩
  have H6 := Lib.hid (show BagIs w6 bb (.slice lo K lc) from hk.other bb _ _ _ H5.out (by decide))
  have hbel6 := hbel5.trans hk.below
  have hlt6 := H6.out.lt
  clear c5
  have c6 : w6.cell? ⟨bb, 6, none⟩ = some (.slice none 0 0) := H6.out.cell 6
  go_wp2_with fail
  refine (flatNil_Values _).mono ?_
  rintro e w7 ⟨rfl, hb7⟩
  have H7 := Lib.hid (H6.out.below hb7 hlt6)
  have hbel7 := hbel6.trans (hb7.mono (Nat.le_trans hB hbel6.size))
  have hlt7 := H7.out.lt
  clear c6
  have c7 : w7.cell? ⟨bb, 7, none⟩ = some (.slice none 0 0) := H7.out.cell 7
  go_wp2_with fail
  refine (flatNil_Facts _).mono ?_
  rintro e w8 ⟨rfl, hb8⟩
  have H8 := Lib.hid (H7.out.below hb8 hlt7)
  have hbel8 := hbel7.trans (hb8.mono (Nat.le_trans hB hbel7.size))
  have hlt8 := H8.out.lt
  clear c7
  have c8 : w8.cell? ⟨bb, 8, none⟩ = some (.slice none 0 0) := H8.out.cell 8
  go_wp2_with fail
  refine (flatNil_Lexes _).mono ?_
  rintro e w9 ⟨rfl, hb9⟩
  have H9 := Lib.hid (H8.out.below hb9 hlt8)
  have hbel9 := hbel8.trans (hb9.mono (Nat.le_trans hB hbel8.size))
  have hlt9 := H9.out.lt
  clear c8
  have c9 : w9.cell? ⟨bb, 9, none⟩ = some (.slice none 0 0) := H9.out.cell 9
  go_wp2_with fail
  refine (flatNil_Nodes _).mono ?_
  rintro e w10 ⟨rfl, hb10⟩
  have H10 := Lib.hid (H9.out.below hb10 hlt9)
  have hbel10 := hbel9.trans (hb10.mono (Nat.le_trans hB hbel9.size))
  have hlt10 := H10.out.lt
  clear c9
  have c10 : w10.cell? ⟨bb, 10, none⟩ = some (.slice none 0 0) := H10.out.cell 10
  go_wp2_with fail
  refine (flatNil_Exprs _).mono ?_
  rintro e w11 ⟨rfl, hb11⟩
  have H11 := Lib.hid (H10.out.below hb11 hlt10)
  have hbel11 := hbel10.trans (hb11.mono (Nat.le_trans hB hbel10.size))
  have hlt11 := H11.out.lt
  clear c10
  have c11 : w11.cell? ⟨bb, 11, none⟩ = some (.slice none 0 0) := H11.out.cell 11
  go_wp2_with fail
  refine (flatNil_Args _).mono ?_
  rintro e w12 ⟨rfl, hb12⟩
  have H12 := Lib.hid (H11.out.below hb12 hlt11)
  have hbel12 := hbel11.trans (hb12.mono (Nat.le_trans hB hbel11.size))
  have hlt12 := H12.out.lt
  clear c11
  have c12 : w12.cell? ⟨bb, 12, none⟩ = some (.slice none 0 0) := H12.out.cell 12
  go_wp2_with fail
  refine (flatNil_Conds _).mono ?_
  rintro e w13 ⟨rfl, hb13⟩
  have H13 := Lib.hid (H12.out.below hb13 hlt12)
  have hbel13 := hbel12.trans (hb13.mono (Nat.le_trans hB hbel12.size))
  have hlt13 := H13.out.lt
  clear c12
  have c13 : w13.cell? ⟨bb, 13, none⟩ = some (.slice none 0 0) := H13.out.cell 13
  go_wp2_with fail
  refine (flatNil_Acts _).mono ?_
  rintro e w14 ⟨rfl, hb14⟩
  have H14 := Lib.hid (H13.out.below hb14 hlt13)
  have hbel14 := hbel13.trans (hb14.mono (Nat.le_trans hB hbel13.size))
  have hlt14 := H14.out.lt
  clear c13
  have c14 : w14.cell? ⟨bb, 14, none⟩ = some (.slice none 0 0) := H14.out.cell 14
  go_wp2_with fail
  refine (flatNil_Types _).mono ?_
  rintro e w15 ⟨rfl, hb15⟩
  have H15 := Lib.hid (H14.out.below hb15 hlt14)
  have hbel15 := hbel14.trans (hb15.mono (Nat.le_trans hB hbel14.size))
  have hlt15 := H15.out.lt
  clear c14
  have c15 : w15.cell? ⟨bb, 15, none⟩ = some (.slice none 0 0) := H15.out.cell 15
  go_wp2_with fail
  refine (flatNil_RuleRow _).mono ?_
  rintro e w16 ⟨rfl, hb16⟩
  have H16 := Lib.hid (H15.out.below hb16 hlt15)
  have hbel16 := hbel15.trans (hb16.mono (Nat.le_trans hB hbel15.size))
  have hlt16 := H16.out.lt
  clear c15
  have c16 : w16.cell? ⟨bb, 16, none⟩ = some (.slice none 0 0) := H16.out.cell 16
  go_wp2_with fail
  refine (flatNil_RulesRow _).mono ?_
  rintro e w17 ⟨rfl, hb17⟩
  have H17 := Lib.hid (H16.out.below hb17 hlt16)
  have hbel17 := hbel16.trans (hb17.mono (Nat.le_trans hB hbel16.size))
  have hlt17 := H17.out.lt
  clear c16
  have c17 : w17.cell? ⟨bb, 17, none⟩ = some (.slice none 0 0) := H17.out.cell 17
  go_wp2_with fail
  refine (flatNil_Tokens _).mono ?_
  rintro e w18 ⟨rfl, hb18⟩
  have H18 := Lib.hid (H17.out.below hb18 hlt17)
  have hbel18 := hbel17.trans (hb18.mono (Nat.le_trans hB hbel17.size))
  have hlt18 := H18.out.lt
  clear c17
  have c18 : w18.cell? ⟨bb, 18, none⟩ = some (.slice none 0 0) := H18.out.cell 18
  go_wp2_with fail
  refine (flatNil_Commands _).mono ?_
  rintro e w19 ⟨rfl, hb19⟩
  have H19 := Lib.hid (H18.out.below hb19 hlt18)
  have hbel19 := hbel18.trans (hb19.mono (Nat.le_trans hB hbel18.size))
  have hlt19 := H19.out.lt
  clear c18
  have c19 : w19.cell? ⟨bb, 19, none⟩ = some (.slice none 0 0) := H19.out.cell 19
  go_wp2_with fail
  refine (flatNil_Replies _).mono ?_
  rintro e w20 ⟨rfl, hb20⟩
  have H20 := Lib.hid (H19.out.below hb20 hlt19)
  have hbel20 := hbel19.trans (hb20.mono (Nat.le_trans hB hbel19.size))
  have hlt20 := H20.out.lt
  clear c19
  have c20 : w20.cell? ⟨bb, 20, none⟩ = some (.slice none 0 0) := H20.out.cell 20
  go_wp2_with fail
  refine (flatNil_Entries _).mono ?_
  rintro e w21 ⟨rfl, hb21⟩
  have H21 := Lib.hid (H20.out.below hb21 hlt20)
  have hbel21 := hbel20.trans (hb21.mono (Nat.le_trans hB hbel20.size))
  have hlt21 := H21.out.lt
  clear c20
  have c21 : w21.cell? ⟨bb, 21, none⟩ = some (.slice none 0 0) := H21.out.cell 21
  go_wp2_with fail
  refine (flatNil_Letters _).mono ?_
  rintro e w22 ⟨rfl, hb22⟩
  have H22 := Lib.hid (H21.out.below hb22 hlt21)
  have hbel22 := hbel21.trans (hb22.mono (Nat.le_trans hB hbel21.size))
  have hlt22 := H22.out.lt
  clear c21
  have c22 : w22.cell? ⟨bb, 22, none⟩ = some (.slice none 0 0) := H22.out.cell 22
  go_wp2_with fail
  refine (flatNil_Snaps _).mono ?_
  rintro e w23 ⟨rfl, hb23⟩
  have H23 := Lib.hid (H22.out.below hb23 hlt22)
  have hbel23 := hbel22.trans (hb23.mono (Nat.le_trans hB hbel22.size))
  have hlt23 := H23.out.lt
  clear c22
  have c23 : w23.cell? ⟨bb, 23, none⟩ = some (.slice none 0 0) := H23.out.cell 23
  go_wp2_with fail
  refine (flatNil_Steps _).mono ?_
  rintro e w24 ⟨rfl, hb24⟩
  have H24 := Lib.hid (H23.out.below hb24 hlt23)
  have hbel24 := hbel23.trans (hb24.mono (Nat.le_trans hB hbel23.size))
  have hlt24 := H24.out.lt
  clear c23
  have c24 : w24.cell? ⟨bb, 24, none⟩ = some (.slice none 0 0) := H24.out.cell 24
  go_wp2_with fail
  refine (flatNil_Tales _).mono ?_
  rintro e w25 ⟨rfl, hb25⟩
  have H25 := Lib.hid (H24.out.below hb25 hlt24)
  have hbel25 := hbel24.trans (hb25.mono (Nat.le_trans hB hbel24.size))
  have hlt25 := H25.out.lt
  clear c24
  have c25 : w25.cell? ⟨bb, 25, none⟩ = some (.slice none 0 0) := H25.out.cell 25
  go_wp2_with fail
  refine (flatNil_States _).mono ?_
  rintro e w26 ⟨rfl, hb26⟩
  have H26 := Lib.hid (H25.out.below hb26 hlt25)
  have hbel26 := hbel25.trans (hb26.mono (Nat.le_trans hB hbel25.size))
  have hlt26 := H26.out.lt
  clear c25
  have c26 : w26.cell? ⟨bb, 26, none⟩ = some (.slice none 0 0) := H26.out.cell 26
  go_wp2_with fail
  refine (flatNil_Sessions _).mono ?_
  rintro e w27 ⟨rfl, hb27⟩
  have H27 := Lib.hid (H26.out.below hb27 hlt26)
  have hbel27 := hbel26.trans (hb27.mono (Nat.le_trans hB hbel26.size))
  have hlt27 := H27.out.lt
  clear c26
  have c27 : w27.cell? ⟨bb, 27, none⟩ = some (.slice none 0 0) := H27.out.cell 27
  go_wp2_with fail
  refine (flatNil_Machines _).mono ?_
  rintro e w28 ⟨rfl, hb28⟩
  have H28 := Lib.hid (H27.out.below hb28 hlt27)
  have hbel28 := hbel27.trans (hb28.mono (Nat.le_trans hB hbel27.size))
  have hlt28 := H28.out.lt
  clear c27
  have c28 : w28.cell? ⟨bb, 28, none⟩ = some (.slice none 0 0) := H28.out.cell 28
  go_wp2_with fail
  refine (flatNil_Frames _).mono ?_
  rintro e w29 ⟨rfl, hb29⟩
  have H29 := Lib.hid (H28.out.below hb29 hlt28)
  have hbel29 := hbel28.trans (hb29.mono (Nat.le_trans hB hbel28.size))
  have hlt29 := H29.out.lt
  clear c28
  go_wp2_with fail
  go_ret
  exact ⟨rfl, hbel29⟩
set_option maxHeartbeats 2000000 in
theorem apartBytes_any (B lb K lc : Nat) (R : Nat → Value) (n : Nat → Nat) (C0 : Nat → List Value) (w : World) (hc : ∀ j, j < K → w.cell? ⟨lb, j, none⟩ = some (R j)) (hlb : lb < w.heap.size) (hR : RowsAt B 5 1 K R n C0 w) (hsep : SepAll K R) (hK : K ≤ 1000) (hn : ∀ j, j < K → n j ≤ 1099511627776) (hB : B ≤ w.heap.size) :
    Calls Tryz.prog 41 #[.slice (some ⟨lb, 0, none⟩) K lc] w fun e w' => e = .returned (.bool true) ∧ Below B w w' := by
  have HR := Lib.hid hR
  have HS := Lib.hid hsep
  have HN := Lib.hid hn
  have HC := Lib.hid hc
  clear hR hsep hn hc
  go_enter Tryz.func41, Tryz.ntmps41
  go_wp2_with fail
  have hb0 : BagIs (w.alloc (.cells (bagB (.slice none 0 0)) 145)) w.heap.size (.slice none 0 0) := heap_alloc_new w _
  have hbe : Below w.heap.size w (w.alloc (.cells (bagB (.slice none 0 0)) 145)) := (Below.refl _ _).alloc (Nat.le_refl _) _
  unfold bagB at hb0 hbe
  generalize w.alloc _ = w1 at hb0 hbe ⊢
  go_loopw [4] (fun i wr => ∃ (k : Nat) (v : Value), k ≤ K ∧ i = .int .i64 k ∧ BagIs wr w.heap.size v ∧ wr.ownsRow w.heap.size 43 1 v k ((List.range k).map R) ∧ Below w.heap.size w wr) (fun i _ => K - (intOf i).toNat)
  case atStart => exact ⟨0, _, by omega, rfl, hb0, World.ownsRow_nil _ _ _ _, hbe⟩
  case round =>
    clear hb0 hbe
    obtain ⟨k, v, hk, rfl, hbag, hrow, hbel⟩ := hrel
    have HB := Lib.hid hbag
    have HRW := Lib.hid hrow
    clear hbag hrow
    have hs := hbel.size
    by_cases hlt : k < K
    · have i1 : (k : Int) < K := by omega
      obtain ⟨a, c, hRk, _, _, _⟩ := row_form (HR.out k hlt)
      have c0 : wr.cell? ⟨lb, k, none⟩ = some (.slice a (n k) c) := by rw [hbel.cell (p := ⟨lb, k, none⟩) hlb, HC.out k hlt, hRk]
      generalize n k = nk at c0 hRk
      have HRK := Lib.hid hRk
      clear hRk
      go_wp2_with fail
      refine (putB_bag w.heap.size w.heap.size v k _ a nk c wr HB.out HRW.out hs (Nat.le_refl _) (by omega)).mono ?_
      rintro e w3 ⟨rfl, v3, hb3, hr3, hB3⟩
      have H3 := Lib.hid hb3
      have H4 := Lib.hid hr3
      clear hb3 hr3 c0
      go_wp2_with fail
      go_roundw
      case rel => exact ⟨k + 1, v3, by omega, by go_num, H3.out, by rw [List.range_succ, List.map_append]; simp only [List.map_cons, List.map_nil]; rw [HRK.out]; exact H4.out, hbel.trans hB3⟩
      case measure => simp [intOf]; omega
    · obtain rfl : K = k := by omega
      go_wp2_with fail
      refine (apartB_bag B w.heap.size K v R n C0 wr HB.out (Go.Joins.ownsRow_le HRW.out hB) (fun j hj => own_below (HR.out j hj) hbel (Nat.le_refl _)) HS.out hK HN.out (by omega)).mono ?_
      rintro e w3 ⟨rfl, hb3⟩
      go_wp2_with fail
      go_ret
      exact ⟨rfl, (hbel.mono hB).trans hb3⟩
end Go.Proofs.YtiggpcmikhojmaaGreatDoor
/- SameRows: rows of bytes that are the same are found to be so; a guarded append of rows to rows. Conditions: the rows lie as they are read. -/
namespace Go.Proofs.YtiggpcmikhojmaaGreatDoor
open Go.RowKit
set_option maxRecDepth 20000
/-- Rows of bytes, in the cells of block b. -/
structure RowsAtB (w : World) (b : Nat) (A : List (Value × List Int)) : Prop where
  cell : ∀ (j : Nat) p, A[j]? = some p → w.cell? ⟨b, j, none⟩ = some p.1
  lt : b < w.heap.size
  row : ∀ p ∈ A, ∃ ao cap, p.1 = .slice ao p.2.length cap ∧ BytesIn w w.heap.size ao p.2
theorem RowsAtB.below {w w' : World} {b : Nat} {A : List (Value × List Int)} (h : RowsAtB w b A) (hb : Below w.heap.size w w') : RowsAtB w' b A :=
  ⟨fun j p hp => (hb.cell (p := ⟨b, j, none⟩) h.lt).trans (h.cell j p hp), Nat.lt_of_lt_of_le h.lt hb.size, fun p hp => by
    obtain ⟨ao, cap, h1, h2⟩ := h.row p hp
    exact ⟨ao, cap, h1, (h2.below hb (Nat.le_refl _)).mono hb.size⟩⟩
theorem RowsAtB.of {w : World} {B b : Nat} {A : List (Value × List Int)} {cs : Array Value} {T : TypeId} {fz : Nat × Nat} (h : Rs w B A) (hk : w.heap[b]? = some (.cells cs T fz)) (hc : cs.toList = A.map (·.1)) : RowsAtB w b A :=
  ⟨fun j p hp => by rw [Go.Joins.cell_of_block hk j, ← Array.getElem?_toList, hc, List.getElem?_map, hp]; rfl, (Array.getElem?_eq_some_iff.1 hk).1, fun p hp => own_bytes (h.own p hp)⟩
theorem sameB_at (v u : Value) (xs ys : List Int) (w : World) (he : xs = ys) (hv : ∃ ao cap, v = .slice ao xs.length cap ∧ BytesIn w w.heap.size ao xs) (hu : ∃ ao cap, u = .slice ao ys.length cap ∧ BytesIn w w.heap.size ao ys) (hl : xs.length ≤ 4611686018427387904) :
    Calls Tryz.prog 58 #[v, u] w fun e w' => e = .returned (.bool true) ∧ Below w.heap.size w w' := by
  subst he
  obtain ⟨ao, cap, rfl, hx⟩ := hv
  obtain ⟨co, cap2, rfl, hy⟩ := hu
  exact sameB_any ao _ cap co _ cap2 xs w rfl rfl hx hy hl
set_option maxHeartbeats 1000000 in
theorem sameRows_any (b1 b2 n c1 c2 : Nat) (A C : List (Value × List Int)) (w : World) (hA : A.length = n) (he : A.map (·.2) = C.map (·.2)) (h1 : RowsAtB w b1 A) (h2 : RowsAtB w b2 C) (hl : ∀ p ∈ A, p.2.length ≤ 4611686018427387904) (hn : n ≤ 1000) :
    Calls Tryz.prog 40 #[.slice (some ⟨b1, 0, none⟩) n c1, .slice (some ⟨b2, 0, none⟩) n c2] w fun e w' => e = .returned (.bool true) ∧ Below w.heap.size w w' := by
  have hC : C.length = n := by rw [← hA]; have := congrArg List.length he; simpa using this.symm
  have H1 := Lib.hid h1
  have H2 := Lib.hid h2
  have HA := Lib.hid hA
  have HC := Lib.hid hC
  have HE := Lib.hid he
  have HL := Lib.hid hl
  clear h1 h2 hA hC he hl
  go_enter Tryz.func40, Tryz.ntmps40
  go_wp2_with fail
  go_loopw [5] (fun i wr => ∃ k : Nat, k ≤ n ∧ i = .int .i64 k ∧ Below w.heap.size w wr) (fun i _ => n - (intOf i).toNat)
  case atStart => exact ⟨0, by omega, rfl, Below.refl _ _⟩
  case round =>
    obtain ⟨k, hk, rfl, hbel⟩ := hrel
    by_cases hlt : k < n
    · have hka : A[k]? = some (A[k]'(by rw [HA.out]; exact hlt)) := List.getElem?_eq_getElem _
      have hkc : C[k]? = some (C[k]'(by rw [HC.out]; exact hlt)) := List.getElem?_eq_getElem _
      have hp : (A[k]'(by rw [HA.out]; exact hlt)).2 = (C[k]'(by rw [HC.out]; exact hlt)).2 := by
        have := congrArg (fun l => l[k]?) HE.out
        simp only [List.getElem?_map, hka, hkc, Option.map_some] at this
        exact Option.some.inj this
      have ma := List.getElem_mem (l := A) (n := k) (by rw [HA.out]; exact hlt)
      have mc := List.getElem_mem (l := C) (n := k) (by rw [HC.out]; exact hlt)
      have x1 := H1.out.cell k _ hka
      have x2 := H2.out.cell k _ hkc
      have r1 := H1.out.row _ ma
      have r2 := H2.out.row _ mc
      have hla := HL.out _ ma
      generalize A[k]'(by rw [HA.out]; exact hlt) = p at hka hp ma x1 r1 hla
      generalize C[k]'(by rw [HC.out]; exact hlt) = q at hkc hp mc x2 r2
      obtain ⟨v, xs⟩ := p
      obtain ⟨u, ys⟩ := q
      dsimp only at x1 x2 r1 r2 hp hla
      have l1 := H1.out.lt
      have l2 := H2.out.lt
      have d1 : ∀ y : Calm w.heap.size w, y.1.cell? ⟨b1, k, none⟩ = some v := fun y => y.cell x1 l1
      have d2 : ∀ y : Calm w.heap.size w, y.1.cell? ⟨b2, k, none⟩ = some u := fun y => y.cell x2 l2
      have hcall : ∀ y : Calm w.heap.size w, Calls Tryz.prog 58 #[v, u] y.1 fun e w' => e = .returned (.bool true) ∧ Below y.1.heap.size y.1 w' := fun y => by
        obtain ⟨ao, cap, e1, e2⟩ := r1
        obtain ⟨co, cap2, e3, e4⟩ := r2
        exact sameB_at v u xs ys y.1 hp ⟨ao, cap, e1, (e2.below y.2 (Nat.le_refl _)).mono y.2.size⟩ ⟨co, cap2, e3, (e4.below y.2 (Nat.le_refl _)).mono y.2.size⟩ hla
      have HCALL := Lib.hid hcall
      have i1 : (k : Int) < n := by omega
      clear hka hkc hp ma mc x1 x2 r1 r2 hla l1 l2 hcall
      go_wp2_with fail
      refine wp_region_calm (B := w.heap.size) (W0 := w) hbel (by kernel_rfl) (by kernel_rfl) ?_
      repeat (go_big_quiet_step ((go_at_call 58; exact Calm.call (Nat.le_refl _) (HCALL.out _))))
      refine wpQuiet_nil ?_
      intro w5 hb5
      clear d1 d2
      go_wp2_with fail
      go_roundw
      case rel => exact ⟨k + 1, by omega, by go_num, hb5⟩
      case measure => simp [intOf]; omega
    · obtain rfl : k = n := by omega
      go_wp2_with fail
      go_ret
      exact ⟨rfl, hbel⟩
/-- A guarded append of rows to rows, where there is no room: a block of its own. -/
theorem wpList_append_rows_g {w : World} {ops : Array Oper} {rest : List Oper} {o : Oper} {a : Act} {Q : Exit → Act → World → Prop} (hgd : Region.wanted o (yielded ops a.tmps) = true) (s x : Operand)
    (ho : o.op = .call { callee := .builtin .append, args := #[s, x], argTypes := #[52, 52] })
    (base b1 b2 n m : Nat) (l l2 : List Value) (hs : a.eval s = .slice (some ⟨b1, 0, none⟩) n n) (hown : w.ownsRow base 43 1 (.slice (some ⟨b1, 0, none⟩) n n) n l)
    (hx : a.eval x = .slice (some ⟨b2, 0, none⟩) m m) (hl2 : l2.length = m) (hc : ∀ (j : Nat) u, l2[j]? = some u → w.cell? ⟨b2, j, none⟩ = some u) (hone : ∀ u ∈ l2, u.oneCell' = true) (hlim : n + m ≤ 1000) (hbase : base ≤ w.heap.size)
    (h : ∀ v' w', w'.ownsRow base 43 1 v' (n + m) (l ++ l2) → w.grownBy w' (some b1) → wpList Tryz.prog ops Q rest (a.put o.dst v') w') : wpList Tryz.prog ops Q (o :: rest) a w := by
  obtain ⟨i0, hi, hz0, hz1, hz2⟩ := info_parts infoRowB
  unfold wpList
  rw [if_pos hgd]
  left
  obtain ⟨v', w', hrun, r1, r2, _⟩ := run_append_own_at (P := Tryz.prog) w base 52 o.type 43 i0 (.slice none 0 0) 1 24 Tryz.underlying52 hi hz0 hz1 hz2 rfl (by decide) _ n _ hown ⟨b2, 0, none⟩ m m l2 (by rw [hl2]; omega) (fun j u hu => by cases j with | zero => simpa [Addr.add] using hc 0 u hu | succ j => simpa [Addr.add] using hc (j + 1) u hu) hone (by unfold maxLen; omega) (by omega) hbase
  unfold Oper.wp execOp
  simp only [ho, resolve, invoke, builtin, Sem.run_bind, Sem.run_pure, Result.andThen_ok, List.map_toArray, List.map_cons, List.map_nil, hs, hx, hrun]
  exact h v' w' r1 r2
theorem Rs.left {w : World} {B : Nat} {A C : List (Value × List Int)} (h : Rs w B (A ++ C)) : Rs w B A := ⟨fun p hp => h.own p (List.mem_append_left _ hp), (List.pairwise_append.1 h.sep).1⟩
theorem rows_form {w : World} {B E n : Nat} {v : Value} {xs : List Value} (h : w.ownsRow B E 1 v (n + 1) xs) : ∃ b c, v = .slice (some ⟨b, 0, none⟩) (n + 1) c := by
  rcases Go.Joins.ownsRow_forms h with ⟨_, hz⟩ | ⟨g, c, hv⟩
  · omega
  · exact ⟨g, c, hv⟩
/-- Rows of bytes that lie apart, laid in one block, are found to do so. -/
theorem apart16 {w : World} {B lb n c : Nat} {A : List (Value × List Int)} {xs : List Value} (hown : w.ownsRow B 43 1 (.slice (some ⟨lb, 0, none⟩) n c) n xs) (hR : Rs w B A) (hx : xs = A.map (·.1)) (hl : ∀ q ∈ A, q.2.length ≤ 1099511627776) (hB : B ≤ w.heap.size) (hn : A.length = n := by rfl) (hn2 : n ≤ 1000 := by decide) :
    Calls Tryz.prog 41 #[.slice (some ⟨lb, 0, none⟩) n c] w fun e w' => e = .returned (.bool true) ∧ Below B w w' := by
  have hg : ∀ j, j < n → ∃ q ∈ A, A[j]? = some q ∧ A.getD j (.slice none 0 0, []) = q := fun j hj => by
    have hj' : j < A.length := by rw [hn]; exact hj
    exact ⟨_, List.getElem_mem hj', List.getElem?_eq_getElem hj', by simp [List.getD, List.getElem?_eq_getElem hj']⟩
  refine apartBytes_any B lb n c (fun j => (A.getD j (.slice none 0 0, [])).1) (fun j => (A.getD j (.slice none 0 0, [])).2.length) (fun j => (A.getD j (.slice none 0 0, [])).2.map bv) w (fun j hj => ?_) (hown.lt lb rfl).2 (fun j hj => ?_) (fun i j hi hj hne => ?_) hn2 (fun j hj => ?_) hB
  · obtain ⟨q, _, h1, h2⟩ := hg j hj
    try dsimp only
    rw [h2]
    have h3 := World.ownsRow.cellAt hown j (by omega)
    rw [h3, hx, List.getElem?_map, h1]
    rfl
  · obtain ⟨q, hq, _, h2⟩ := hg j hj
    try dsimp only
    rw [h2]
    exact hR.own q hq
  · try dsimp only
    have key : ∀ i j, i < j → j < n → Sep (A.getD i (.slice none 0 0, [])).1 (A.getD j (.slice none 0 0, [])).1 := fun i j hij hj b h1 h2 => by
      have hj' : j < A.length := by rw [hn]; exact hj
      have hi' : i < A.length := by omega
      have h3 := List.pairwise_iff_getElem.1 hR.sep i j hi' hj' hij
      have e1 : A.getD i (.slice none 0 0, []) = A[i] := by simp [List.getD, List.getElem?_eq_getElem hi']
      have e2 : A.getD j (.slice none 0 0, []) = A[j] := by simp [List.getD, List.getElem?_eq_getElem hj']
      rw [e1] at h1
      rw [e2] at h2
      exact h3 b h1 h2
    rcases Nat.lt_or_gt_of_ne hne with h | h
    · exact key i j h hj
    · exact (key j i h hi).symm
  · obtain ⟨q, hq, _, h2⟩ := hg j hj
    try dsimp only
    rw [h2]
    exact hl q hq
end Go.Proofs.YtiggpcmikhojmaaGreatDoor
