/- ApartBytes: rows of bytes that lie apart are found to do so. Conditions: each row is the caller's own, in a block of its own. -/
import Derived.Test.YtejgebpdipnhmaaGreatDoorGSnapNumbers15
import Derived.Test.YtejgebpdipnhmaaGreatDoorGSnapNumbers20
import Derived.Test.YtejgebpdipnhmaaGreatDoorGSnapNumbers17
import Derived.Test.YtejgebpdipnhmaaGreatDoorGSnapNumbers19
import Derived.Test.YtejgebpdipnhmaaGreatDoorGSnapNumbers6
set_option linter.unusedVariables false
set_option linter.unusedSimpArgs false
namespace Go.Proofs.YtejgebpdipnhmaaGreatDoor
open Go.RowKit
set_option maxRecDepth 20000
/-- The bag that holds rows of bytes alone. -/
def bagB (v : Value) : Array Value := #[.slice none 0 0, .slice none 0 0, .slice none 0 0, .slice none 0 0, .slice none 0 0, v, .slice none 0 0, .slice none 0 0, .slice none 0 0, .slice none 0 0, .slice none 0 0, .slice none 0 0, .slice none 0 0, .slice none 0 0, .slice none 0 0, .slice none 0 0, .slice none 0 0, .slice none 0 0, .slice none 0 0, .slice none 0 0, .slice none 0 0, .slice none 0 0, .slice none 0 0, .slice none 0 0, .slice none 0 0, .slice none 0 0, .slice none 0 0, .slice none 0 0, .slice none 0 0]
def BagIs (w : World) (bb : Nat) (v : Value) : Prop := w.heap[bb]? = some (.cells (bagB v) 103 (0, 0))
theorem BagIs.cell {w : World} {bb : Nat} {v : Value} (h : BagIs w bb v) (i : Nat) : w.cell? ⟨bb, i, none⟩ = (bagB v)[i]? := Go.Joins.cell_of_block h i
theorem BagIs.lt {w : World} {bb : Nat} {v : Value} (h : BagIs w bb v) : bb < w.heap.size := (Array.getElem?_eq_some_iff.1 h).1
theorem BagIs.below {w w' : World} {bb B : Nat} {v : Value} (h : BagIs w bb v) (hb : Below B w w') (hB : bb < B) : BagIs w' bb v := (hb.block bb hB).trans h
theorem BagIs.apart {w : World} {bb B E SZ n : Nat} {v u : Value} {xs : List Value} (h : BagIs w bb v) (ho : w.ownsRow B E SZ u n xs) (he : E ≠ 103) : u.ownBlock ≠ some bb := by
  intro hh
  rcases ho.2 with ⟨rfl, _⟩ | ⟨g, cap, cur, rfl, _, g1, _⟩
  · simp [Value.ownBlock] at hh
  · simp [Value.ownBlock] at hh
    subst hh
    unfold BagIs at h
    rw [g1] at h
    simp only [Option.some.injEq, Obj.cells.injEq] at h
    exact he h.2.1
theorem putB_bag (B bb : Nat) (v : Value) (m : Nat) (rows : List Value) (a : Option Addr) (n c : Nat) (w : World) (hb : BagIs w bb v) (hown : w.ownsRow B 24 1 v m rows) (hB : B ≤ w.heap.size) (hBb : B ≤ bb) (hm : m ≤ 1000) :
    Calls Tryz.prog 47 #[.pointer (some ⟨bb, 0, none⟩), .slice a n c] w fun e w' => e = .returned (.tuple #[]) ∧ ∃ v', BagIs w' bb v' ∧ w'.ownsRow B 24 1 v' (m + 1) (rows ++ [.slice a n c]) ∧ Below B w w' := by
  obtain ⟨i0, hi, hz0, hz1, hz2⟩ := info_parts infoRowB
  have c5 : w.cell? ⟨bb, 5, none⟩ = some v := hb.cell 5
  have HB := Lib.hid hb
  have HO := Lib.hid hown
  have hbl := hb.lt
  clear hb hown
  go_enter Tryz.func47, Tryz.ntmps47
  go_wp2_with (at_builtin; refine wpList_append_own _ rfl (.tmp 8) (.tmp 10) 41 rfl B 24 i0 (.slice none 0 0) 1 24 Tryz.underlying41 hi hz0 hz1 hz2 rfl (by decide) v m rows rfl (HO.out.alloc _) ⟨w.heap.size, 0, none⟩ 1 1 [.slice a n c] rfl rfl (cell_one_new _ _ _) (by simp [Value.oneCell']) (by unfold maxLen; omega) (by omega) (by simp; omega) ?_)
  intro v' w3 hown3 hg3 _
  obtain ⟨a3, c3, hv3, _, _, _⟩ := row_form hown3
  subst hv3
  have hbA : BagIs (w.alloc (.cells #[.slice a n c] 24)) bb v := HB.out.below ((Below.refl w.heap.size w).alloc (Nat.le_refl _) _) hbl
  have hb3 : BagIs w3 bb v := (hg3.block bb (by simp; omega) (fun h => HB.out.apart HO.out (by decide) h.symm)).trans hbA
  have d5 : w3.cell? ⟨bb, 5, none⟩ = some v := hb3.cell 5
  have f5 : w3.frozen? ⟨bb, 5, none⟩ = false := Go.Joins.unfrozen_of_block hb3 5
  have hbs : BagIs (w3.setCell ⟨bb, 5, none⟩ (.slice a3 (m + 1) c3)) bb (.slice a3 (m + 1) c3) := Go.Joins.block_setCell hb3 _
  have hrow : (w3.setCell ⟨bb, 5, none⟩ (.slice a3 (m + 1) c3)).ownsRow B 24 1 (.slice a3 (m + 1) c3) (m + 1) (rows ++ [.slice a n c]) := by
    refine ownsRow_setCell_other hown3 ?_ _
    have := hb3.apart hown3 (by decide)
    cases h : (Value.slice a3 (m + 1) c3).ownBlock with
    | none => simp
    | some g => rw [h] at this; simpa using this
  have hbw : Below B w (w3.setCell ⟨bb, 5, none⟩ (.slice a3 (m + 1) c3)) := ((((Below.refl B w).alloc hB _).grown hg3 (by simp; omega) (fun k hk => (HO.out.lt k hk).1)).setCell (p := ⟨bb, 5, none⟩) hBb _)
  have H1 := Lib.hid hbs
  have H2 := Lib.hid hrow
  have H3 := Lib.hid hbw
  clear hbs hrow hbw hown3 hg3 hb3 hbA
  go_wp2_with fail
  go_end0
  exact ⟨rfl, _, H1.out, H2.out, H3.out⟩
set_option maxHeartbeats 4000000 in
theorem apartB_bag (B bb K : Nat) (v : Value) (R : Nat → Value) (n : Nat → Nat) (C0 : Nat → List Value) (w : World) (hb : BagIs w bb v) (hL : w.ownsRow B 24 1 v K ((List.range K).map R)) (hR : RowsAt B 5 1 K R n C0 w) (hsep : SepAll K R) (hK : K ≤ 1000) (hn : ∀ j, j < K → n j ≤ 1099511627776) (hB : B ≤ w.heap.size) :
    Calls Tryz.prog 48 #[.pointer (some ⟨bb, 0, none⟩)] w fun e w' => e = .returned (.bool true) ∧ Below B w w' := by
  obtain ⟨lo, lc, hv, _, _, _⟩ := row_form hL
  subst hv
  have HL := Lib.hid hL
  have HR := Lib.hid hR
  have HS := Lib.hid hsep
  have HN := Lib.hid hn
  have H0 := Lib.hid hb
  have hbel0 : Below B w w := Below.refl _ _
  have hlt0 := hb.lt
  clear hL hR hsep hn hb
  have c0 : w.cell? ⟨bb, 0, none⟩ = some (.slice none 0 0) := H0.out.cell 0
  go_enter Tryz.func48, Tryz.ntmps48
  go_wp2_with fail
  refine (flatNil_Limbs _).mono ?_
  rintro e w1 ⟨rfl, hb1⟩
  have H1 := Lib.hid (H0.out.below hb1 hlt0)
  have hbel1 := hbel0.trans (hb1.mono (Nat.le_trans hB hbel0.size))
  have hlt1 := H1.out.lt
  have HL1 := Lib.hid (own_below HL.out hb1 (Nat.le_refl _))
  have HR1 := Lib.hid (show RowsAt B 5 1 K R n C0 w1 from fun j hj => own_below (HR.out j hj) hb1 (Nat.le_refl _))
  clear c0
  have c1 : w1.cell? ⟨bb, 1, none⟩ = some (.slice none 0 0) := H1.out.cell 1
  go_wp2_with fail
  refine (flatNil_Words _).mono ?_
  rintro e w2 ⟨rfl, hb2⟩
  have H2 := Lib.hid (H1.out.below hb2 hlt1)
  have hbel2 := hbel1.trans (hb2.mono (Nat.le_trans hB hbel1.size))
  have hlt2 := H2.out.lt
  have HL2 := Lib.hid (own_below HL1.out hb2 (Nat.le_refl _))
  have HR2 := Lib.hid (show RowsAt B 5 1 K R n C0 w2 from fun j hj => own_below (HR1.out j hj) hb2 (Nat.le_refl _))
  clear c1
  have c2 : w2.cell? ⟨bb, 2, none⟩ = some (.slice none 0 0) := H2.out.cell 2
  go_wp2_with fail
  refine (flatNil_Ints _).mono ?_
  rintro e w3 ⟨rfl, hb3⟩
  have H3 := Lib.hid (H2.out.below hb3 hlt2)
  have hbel3 := hbel2.trans (hb3.mono (Nat.le_trans hB hbel2.size))
  have hlt3 := H3.out.lt
  have HL3 := Lib.hid (own_below HL2.out hb3 (Nat.le_refl _))
  have HR3 := Lib.hid (show RowsAt B 5 1 K R n C0 w3 from fun j hj => own_below (HR2.out j hj) hb3 (Nat.le_refl _))
  clear c2
  have c3 : w3.cell? ⟨bb, 3, none⟩ = some (.slice none 0 0) := H3.out.cell 3
  go_wp2_with fail
  refine (flatNil_Longs _).mono ?_
  rintro e w4 ⟨rfl, hb4⟩
  have H4 := Lib.hid (H3.out.below hb4 hlt3)
  have hbel4 := hbel3.trans (hb4.mono (Nat.le_trans hB hbel3.size))
  have hlt4 := H4.out.lt
  have HL4 := Lib.hid (own_below HL3.out hb4 (Nat.le_refl _))
  have HR4 := Lib.hid (show RowsAt B 5 1 K R n C0 w4 from fun j hj => own_below (HR3.out j hj) hb4 (Nat.le_refl _))
  clear c3
  have c4 : w4.cell? ⟨bb, 4, none⟩ = some (.slice none 0 0) := H4.out.cell 4
  go_wp2_with fail
  refine (flatNil_Texts _).mono ?_
  rintro e w5 ⟨rfl, hb5⟩
  have H5 := Lib.hid (H4.out.below hb5 hlt4)
  have hbel5 := hbel4.trans (hb5.mono (Nat.le_trans hB hbel4.size))
  have hlt5 := H5.out.lt
  have HL5 := Lib.hid (own_below HL4.out hb5 (Nat.le_refl _))
  have HR5 := Lib.hid (show RowsAt B 5 1 K R n C0 w5 from fun j hj => own_below (HR4.out j hj) hb5 (Nat.le_refl _))
  clear c4
  have c5 : w5.cell? ⟨bb, 5, none⟩ = some (.slice lo K lc) := H5.out.cell 5
  go_wp2_with fail
  refine (flatB_any B K lo lc R n C0 w5 HL5.out HR5.out HS.out (Nat.le_trans hK (by decide)) HN.out (Nat.le_trans hB hbel5.size)).mono ?_
  rintro e w6 ⟨rfl, hk⟩
  have H6 := Lib.hid (show BagIs w6 bb (.slice lo K lc) from hk.other bb _ _ _ H5.out (by decide))
  have hbel6 := hbel5.trans hk.below
  have hlt6 := H6.out.lt
  clear c5
  have c6 : w6.cell? ⟨bb, 6, none⟩ = some (.slice none 0 0) := H6.out.cell 6
  go_wp2_with fail
  refine (flatNil_Values _).mono ?_
  rintro e w7 ⟨rfl, hb7⟩
  have H7 := Lib.hid (H6.out.below hb7 hlt6)
  have hbel7 := hbel6.trans (hb7.mono (Nat.le_trans hB hbel6.size))
  have hlt7 := H7.out.lt
  clear c6
  have c7 : w7.cell? ⟨bb, 7, none⟩ = some (.slice none 0 0) := H7.out.cell 7
  go_wp2_with fail
  refine (flatNil_Facts _).mono ?_
  rintro e w8 ⟨rfl, hb8⟩
  have H8 := Lib.hid (H7.out.below hb8 hlt7)
  have hbel8 := hbel7.trans (hb8.mono (Nat.le_trans hB hbel7.size))
  have hlt8 := H8.out.lt
  clear c7
  have c8 : w8.cell? ⟨bb, 8, none⟩ = some (.slice none 0 0) := H8.out.cell 8
  go_wp2_with fail
  refine (flatNil_Lexes _).mono ?_
  rintro e w9 ⟨rfl, hb9⟩
  have H9 := Lib.hid (H8.out.below hb9 hlt8)
  have hbel9 := hbel8.trans (hb9.mono (Nat.le_trans hB hbel8.size))
  have hlt9 := H9.out.lt
  clear c8
  have c9 : w9.cell? ⟨bb, 9, none⟩ = some (.slice none 0 0) := H9.out.cell 9
  go_wp2_with fail
  refine (flatNil_Nodes _).mono ?_
  rintro e w10 ⟨rfl, hb10⟩
  have H10 := Lib.hid (H9.out.below hb10 hlt9)
  have hbel10 := hbel9.trans (hb10.mono (Nat.le_trans hB hbel9.size))
  have hlt10 := H10.out.lt
  clear c9
  have c10 : w10.cell? ⟨bb, 10, none⟩ = some (.slice none 0 0) := H10.out.cell 10
  go_wp2_with fail
  refine (flatNil_Exprs _).mono ?_
  rintro e w11 ⟨rfl, hb11⟩
  have H11 := Lib.hid (H10.out.below hb11 hlt10)
  have hbel11 := hbel10.trans (hb11.mono (Nat.le_trans hB hbel10.size))
  have hlt11 := H11.out.lt
  clear c10
  have c11 : w11.cell? ⟨bb, 11, none⟩ = some (.slice none 0 0) := H11.out.cell 11
  go_wp2_with fail
  refine (flatNil_Args _).mono ?_
  rintro e w12 ⟨rfl, hb12⟩
  have H12 := Lib.hid (H11.out.below hb12 hlt11)
  have hbel12 := hbel11.trans (hb12.mono (Nat.le_trans hB hbel11.size))
  have hlt12 := H12.out.lt
  clear c11
  have c12 : w12.cell? ⟨bb, 12, none⟩ = some (.slice none 0 0) := H12.out.cell 12
  go_wp2_with fail
  refine (flatNil_Conds _).mono ?_
  rintro e w13 ⟨rfl, hb13⟩
  have H13 := Lib.hid (H12.out.below hb13 hlt12)
  have hbel13 := hbel12.trans (hb13.mono (Nat.le_trans hB hbel12.size))
  have hlt13 := H13.out.lt
  clear c12
  have c13 : w13.cell? ⟨bb, 13, none⟩ = some (.slice none 0 0) := H13.out.cell 13
  go_wp2_with fail
  refine (flatNil_Acts _).mono ?_
  rintro e w14 ⟨rfl, hb14⟩
  have H14 := Lib.hid (H13.out.below hb14 hlt13)
  have hbel14 := hbel13.trans (hb14.mono (Nat.le_trans hB hbel13.size))
  have hlt14 := H14.out.lt
  clear c13
  have c14 : w14.cell? ⟨bb, 14, none⟩ = some (.slice none 0 0) := H14.out.cell 14
  go_wp2_with fail
  refine (flatNil_Types _).mono ?_
  rintro e w15 ⟨rfl, hb15⟩
  have H15 := Lib.hid (H14.out.below hb15 hlt14)
  have hbel15 := hbel14.trans (hb15.mono (Nat.le_trans hB hbel14.size))
  have hlt15 := H15.out.lt
  clear c14
  have c15 : w15.cell? ⟨bb, 15, none⟩ = some (.slice none 0 0) := H15.out.cell 15
  go_wp2_with fail
  refine (flatNil_RuleRow _).mono ?_
  rintro e w16 ⟨rfl, hb16⟩
  have H16 := Lib.hid (H15.out.below hb16 hlt15)
  have hbel16 := hbel15.trans (hb16.mono (Nat.le_trans hB hbel15.size))
  have hlt16 := H16.out.lt
  clear c15
  have c16 : w16.cell? ⟨bb, 16, none⟩ = some (.slice none 0 0) := H16.out.cell 16
  go_wp2_with fail
  refine (flatNil_RulesRow _).mono ?_
  rintro e w17 ⟨rfl, hb17⟩
  have H17 := Lib.hid (H16.out.below hb17 hlt16)
  have hbel17 := hbel16.trans (hb17.mono (Nat.le_trans hB hbel16.size))
  have hlt17 := H17.out.lt
  clear c16
  have c17 : w17.cell? ⟨bb, 17, none⟩ = some (.slice none 0 0) := H17.out.cell 17
  go_wp2_with fail
  refine (flatNil_Tokens _).mono ?_
  rintro e w18 ⟨rfl, hb18⟩
  have H18 := Lib.hid (H17.out.below hb18 hlt17)
  have hbel18 := hbel17.trans (hb18.mono (Nat.le_trans hB hbel17.size))
  have hlt18 := H18.out.lt
  clear c17
  have c18 : w18.cell? ⟨bb, 18, none⟩ = some (.slice none 0 0) := H18.out.cell 18
  go_wp2_with fail
  refine (flatNil_Commands _).mono ?_
  rintro e w19 ⟨rfl, hb19⟩
  have H19 := Lib.hid (H18.out.below hb19 hlt18)
  have hbel19 := hbel18.trans (hb19.mono (Nat.le_trans hB hbel18.size))
  have hlt19 := H19.out.lt
  clear c18
  have c19 : w19.cell? ⟨bb, 19, none⟩ = some (.slice none 0 0) := H19.out.cell 19
  go_wp2_with fail
  refine (flatNil_Replies _).mono ?_
  rintro e w20 ⟨rfl, hb20⟩
  have H20 := Lib.hid (H19.out.below hb20 hlt19)
  have hbel20 := hbel19.trans (hb20.mono (Nat.le_trans hB hbel19.size))
  have hlt20 := H20.out.lt
  clear c19
  have c20 : w20.cell? ⟨bb, 20, none⟩ = some (.slice none 0 0) := H20.out.cell 20
  go_wp2_with fail
  refine (flatNil_Entries _).mono ?_
  rintro e w21 ⟨rfl, hb21⟩
  have H21 := Lib.hid (H20.out.below hb21 hlt20)
  have hbel21 := hbel20.trans (hb21.mono (Nat.le_trans hB hbel20.size))
  have hlt21 := H21.out.lt
  clear c20
  have c21 : w21.cell? ⟨bb, 21, none⟩ = some (.slice none 0 0) := H21.out.cell 21
  go_wp2_with fail
  refine (flatNil_Letters _).mono ?_
  rintro e w22 ⟨rfl, hb22⟩
  have H22 := Lib.hid (H21.out.below hb22 hlt21)
  have hbel22 := hbel21.trans (hb22.mono (Nat.le_trans hB hbel21.size))
  have hlt22 := H22.out.lt
  clear c21
  have c22 : w22.cell? ⟨bb, 22, none⟩ = some (.slice none 0 0) := H22.out.cell 22
  go_wp2_with fail
  refine (flatNil_Snaps _).mono ?_
  rintro e w23 ⟨rfl, hb23⟩
  have H23 := Lib.hid (H22.out.below hb23 hlt22)
  have hbel23 := hbel22.trans (hb23.mono (Nat.le_trans hB hbel22.size))
  have hlt23 := H23.out.lt
  clear c22
  have c23 : w23.cell? ⟨bb, 23, none⟩ = some (.slice none 0 0) := H23.out.cell 23
  go_wp2_with fail
  refine (flatNil_Steps _).mono ?_
  rintro e w24 ⟨rfl, hb24⟩
  have H24 := Lib.hid (H23.out.below hb24 hlt23)
  have hbel24 := hbel23.trans (hb24.mono (Nat.le_trans hB hbel23.size))
  have hlt24 := H24.out.lt
  clear c23
  have c24 : w24.cell? ⟨bb, 24, none⟩ = some (.slice none 0 0) := H24.out.cell 24
  go_wp2_with fail
  refine (flatNil_Tales _).mono ?_
  rintro e w25 ⟨rfl, hb25⟩
  have H25 := Lib.hid (H24.out.below hb25 hlt24)
  have hbel25 := hbel24.trans (hb25.mono (Nat.le_trans hB hbel24.size))
  have hlt25 := H25.out.lt
  clear c24
  have c25 : w25.cell? ⟨bb, 25, none⟩ = some (.slice none 0 0) := H25.out.cell 25
  go_wp2_with fail
  refine (flatNil_States _).mono ?_
  rintro e w26 ⟨rfl, hb26⟩
  have H26 := Lib.hid (H25.out.below hb26 hlt25)
  have hbel26 := hbel25.trans (hb26.mono (Nat.le_trans hB hbel25.size))
  have hlt26 := H26.out.lt
  clear c25
  have c26 : w26.cell? ⟨bb, 26, none⟩ = some (.slice none 0 0) := H26.out.cell 26
  go_wp2_with fail
  refine (flatNil_Sessions _).mono ?_
  rintro e w27 ⟨rfl, hb27⟩
  have H27 := Lib.hid (H26.out.below hb27 hlt26)
  have hbel27 := hbel26.trans (hb27.mono (Nat.le_trans hB hbel26.size))
  have hlt27 := H27.out.lt
  clear c26
  have c27 : w27.cell? ⟨bb, 27, none⟩ = some (.slice none 0 0) := H27.out.cell 27
  go_wp2_with fail
  refine (flatNil_Machines _).mono ?_
  rintro e w28 ⟨rfl, hb28⟩
  have H28 := Lib.hid (H27.out.below hb28 hlt27)
  have hbel28 := hbel27.trans (hb28.mono (Nat.le_trans hB hbel27.size))
  have hlt28 := H28.out.lt
  clear c27
  have c28 : w28.cell? ⟨bb, 28, none⟩ = some (.slice none 0 0) := H28.out.cell 28
  go_wp2_with fail
  refine (flatNil_Frames _).mono ?_
  rintro e w29 ⟨rfl, hb29⟩
  have H29 := Lib.hid (H28.out.below hb29 hlt28)
  have hbel29 := hbel28.trans (hb29.mono (Nat.le_trans hB hbel28.size))
  have hlt29 := H29.out.lt
  clear c28
  go_wp2_with fail
  go_ret
  exact ⟨rfl, hbel29⟩
set_option maxHeartbeats 2000000 in
theorem apartBytes_any (B lb K lc : Nat) (R : Nat → Value) (n : Nat → Nat) (C0 : Nat → List Value) (w : World) (hc : ∀ j, j < K → w.cell? ⟨lb, j, none⟩ = some (R j)) (hlb : lb < w.heap.size) (hR : RowsAt B 5 1 K R n C0 w) (hsep : SepAll K R) (hK : K ≤ 1000) (hn : ∀ j, j < K → n j ≤ 1099511627776) (hB : B ≤ w.heap.size) :
    Calls Tryz.prog 16 #[.slice (some ⟨lb, 0, none⟩) K lc] w fun e w' => e = .returned (.bool true) ∧ Below B w w' := by
  have HR := Lib.hid hR
  have HS := Lib.hid hsep
  have HN := Lib.hid hn
  have HC := Lib.hid hc
  clear hR hsep hn hc
  go_enter Tryz.func16, Tryz.ntmps16
  go_wp2_with fail
  have hb0 : BagIs (w.alloc (.cells (bagB (.slice none 0 0)) 103)) w.heap.size (.slice none 0 0) := heap_alloc_new w _
  have hbe : Below w.heap.size w (w.alloc (.cells (bagB (.slice none 0 0)) 103)) := (Below.refl _ _).alloc (Nat.le_refl _) _
  unfold bagB at hb0 hbe
  generalize w.alloc _ = w1 at hb0 hbe ⊢
  go_loopw [4] (fun i wr => ∃ (k : Nat) (v : Value), k ≤ K ∧ i = .int .i64 k ∧ BagIs wr w.heap.size v ∧ wr.ownsRow w.heap.size 24 1 v k ((List.range k).map R) ∧ Below w.heap.size w wr) (fun i _ => K - (intOf i).toNat)
  case atStart => exact ⟨0, _, by omega, rfl, hb0, World.ownsRow_nil _ _ _ _, hbe⟩
  case round =>
    clear hb0 hbe
    obtain ⟨k, v, hk, rfl, hbag, hrow, hbel⟩ := hrel
    have HB := Lib.hid hbag
    have HRW := Lib.hid hrow
    clear hbag hrow
    have hs := hbel.size
    by_cases hlt : k < K
    · have i1 : (k : Int) < K := by omega
      obtain ⟨a, c, hRk, _, _, _⟩ := row_form (HR.out k hlt)
      have c0 : wr.cell? ⟨lb, k, none⟩ = some (.slice a (n k) c) := by rw [hbel.cell (p := ⟨lb, k, none⟩) hlb, HC.out k hlt, hRk]
      generalize n k = nk at c0 hRk
      have HRK := Lib.hid hRk
      clear hRk
      go_wp2_with fail
      refine (putB_bag w.heap.size w.heap.size v k _ a nk c wr HB.out HRW.out hs (Nat.le_refl _) (by omega)).mono ?_
      rintro e w3 ⟨rfl, v3, hb3, hr3, hB3⟩
      have H3 := Lib.hid hb3
      have H4 := Lib.hid hr3
      clear hb3 hr3 c0
      go_wp2_with fail
      go_roundw
      case rel => exact ⟨k + 1, v3, by omega, by go_num, H3.out, by rw [List.range_succ, List.map_append]; simp only [List.map_cons, List.map_nil]; rw [HRK.out]; exact H4.out, hbel.trans hB3⟩
      case measure => simp [intOf]; omega
    · obtain rfl : K = k := by omega
      go_wp2_with fail
      refine (apartB_bag B w.heap.size K v R n C0 wr HB.out (Go.Joins.ownsRow_le HRW.out hB) (fun j hj => own_below (HR.out j hj) hbel (Nat.le_refl _)) HS.out hK HN.out (by omega)).mono ?_
      rintro e w3 ⟨rfl, hb3⟩
      go_wp2_with fail
      go_ret
      exact ⟨rfl, (hbel.mono hB).trans hb3⟩
end Go.Proofs.YtejgebpdipnhmaaGreatDoor
/- SnapPuts: the law's walk. Conditions: as each says. -/
namespace Go.Proofs.YtejgebpdipnhmaaGreatDoor
open Go.RowKit
set_option maxRecDepth 20000
theorem lentSn_at (x : Sn) (n m : Nat) (hn : x.vs.length = n) (hm : x.im.length = m) (w : World) (hx : snSub w w.heap.size x) (hf : SnFine x) :
    Calls Tryz.prog 11 #[.agg #[.int .i64 x.index, .int .i64 x.term, .slice x.va n x.vc, .slice x.ia m x.ic]] w fun e w' => ∃ (ya : Option Addr) (yc : Nat) (yi : Option Addr) (yj : Nat), e = .returned (.agg #[.int .i64 x.index, .int .i64 x.term, .slice ya n yc, .slice yi m yj]) ∧ SnLent w' w.heap.size ⟨x.index, x.term, ya, x.vs, yc, yi, x.im, yj⟩ ∧ Below w.heap.size w w' := by
  subst hn hm
  refine (lentSn_any x w hx hf).mono ?_
  rintro e w' ⟨⟨yi, yt, yva, yvs, yvc, yia, yim, yic⟩, rfl, hp, hL, hb⟩
  simp only [Sn.plain, SnP.mk.injEq] at hp
  obtain ⟨rfl, rfl, rfl, rfl⟩ := hp
  exact ⟨yva, yvc, yia, yic, rfl, hL, hb⟩
theorem keptSn_at (si st : Int) (xs im : List Int) (ya yi va ia : Option Addr) (yc yj vc ic n m : Nat) (hn : xs.length = n) (hm : im.length = m) (w : World) (B : Nat) (hL : SnLent w B ⟨si, st, ya, xs, yc, yi, im, yj⟩) (hx : snSub w w.heap.size ⟨si, st, va, xs, vc, ia, im, ic⟩) (hf : SnFine ⟨si, st, va, xs, vc, ia, im, ic⟩) :
    Calls Tryz.prog 12 #[.agg #[.int .i64 si, .int .i64 st, .slice ya n yc, .slice yi m yj], .agg #[.int .i64 si, .int .i64 st, .slice va n vc, .slice ia m ic]] w fun e w' => e = .returned (.bool true) ∧ Below w.heap.size w w' := by
  subst hn hm
  exact keptSn_any ⟨si, st, ya, xs, yc, yi, im, yj⟩ ⟨si, st, va, xs, vc, ia, im, ic⟩ w B rfl hL hx hf
theorem overSn_at (x : Sn) (n m : Nat) (hn : x.vs.length = n) (hm : x.im.length = m) (w : World) (B T : Nat) (h : SnRoom w B T x) (hf : SnFine x) (hB : B ≤ w.heap.size) (hT : T ≤ w.heap.size) :
    Calls Tryz.prog 13 #[.agg #[.int .i64 x.index, .int .i64 x.term, .slice x.va n x.vc, .slice x.ia m x.ic]] w fun e w' => e = .returned (.tuple #[]) ∧ OverK B T overSnTs w w' := by
  subst hn hm
  exact overSn_any x w B T h hf hB hT
theorem rsput_at (x : Sn) (n m : Nat) (hn : x.vs.length = n) (hm : x.im.length = m) (w : World) (hx : snSub w w.heap.size x) (hf : SnFine x) (r : List Int × Int) (hr : snPut x.plain = r) :
    Calls Tryz.prog 14 #[.agg #[.int .i64 x.index, .int .i64 x.term, .slice x.va n x.vc, .slice x.ia m x.ic]] w (BytesE r w) := by
  subst hn hm
  exact rsput_any x w hx hf r hr
def dupS {α : Type} (u v : α) (j : Nat) : α := if j = 0 then u else v
set_option maxHeartbeats 8000000 in
theorem snapPuts_any (x : Sn) (w : World) (hx : snSub w w.heap.size x) (hq : SnArg x) :
    Calls Tryz.prog 4 #[snVal x] w fun e w' => e = .returned (.bool true) ∧ Below w.heap.size w w' := by
  have hb0 := (Below.refl w.heap.size w).alloc (Nat.le_refl _) (.cells (snArr x) 26)
  have hk0 := heap_alloc_new w (.cells (snArr x) 26)
  have HB0 := Lib.hid hb0
  have HK0 := Lib.hid hk0
  have HX := Lib.hid hx
  have HQ := Lib.hid hq
  clear hb0 hk0 hx hq
  obtain ⟨si, st, va, xs, vc, ia, im, ic⟩ := x
  dsimp only [snVal, snArr] at HB0 HK0 ⊢
  obtain ⟨k, hk⟩ : ∃ k, xs.length = k := ⟨_, rfl⟩
  obtain ⟨m, hm⟩ : ∃ m, im.length = m := ⟨_, rfl⟩
  rw [hk, hm] at HB0 HK0 ⊢
  have HKL := Lib.hid hk
  have HML := Lib.hid hm
  clear hk hm
  go_enter Tryz.func4, Tryz.ntmps4
  go_upto_region 1 with fail
  generalize w.alloc (.cells #[.int .i64 si, .int .i64 st, .slice va k vc, .slice ia m ic] 26) = w1 at HB0 HK0 ⊢
  have g0 := Go.Joins.cell_of_block HK0.out 0
  have g1 := Go.Joins.cell_of_block HK0.out 1
  have g2 := Go.Joins.cell_of_block HK0.out 2
  have g3 := Go.Joins.cell_of_block HK0.out 3
  by_cases hm1 : 20000 < m
  · have i1 : (20000 : Int) < m := by omega
    go_wp2_with fail
    refine (awake19_any w1).mono ?_
    rintro e w2 ⟨rfl, hb2⟩
    clear g0 g1 g2 g3
    go_wp2_with fail
    go_ret
    exact ⟨rfl, HB0.out.trans (hb2.mono HB0.out.size)⟩
  have i1 : ¬ (20000 : Int) < m := by omega
  by_cases hk1 : 2000 < k
  · have i2 : (2000 : Int) < k := by omega
    go_wp2_with fail
    refine (awake19_any w1).mono ?_
    rintro e w2 ⟨rfl, hb2⟩
    clear g0 g1 g2 g3
    go_wp2_with fail
    go_ret
    exact ⟨rfl, HB0.out.trans (hb2.mono HB0.out.size)⟩
  have i2 : ¬ (2000 : Int) < k := by omega
  have hfine : SnFine ⟨si, st, va, xs, vc, ia, im, ic⟩ := HQ.out.fine (by have := HKL.out; dsimp only; omega) (by have := HML.out; dsimp only; omega)
  have HFI := Lib.hid hfine
  have hsub : snSub w1 w1.heap.size ⟨si, st, va, xs, vc, ia, im, ic⟩ := snSub_mono (snSub_below HX.out HB0.out (Nat.le_refl _)) HB0.out.size
  have HSUB := Lib.hid hsub
  obtain ⟨⟨pb, pe⟩, hpb⟩ : ∃ q, snPut ⟨si, st, xs, im⟩ = q := ⟨_, rfl⟩
  have hpl := snPut_len ⟨si, st, xs, im⟩
  rw [hpb] at hpl
  have HPB := Lib.hid hpb
  have HPL := Lib.hid hpl
  clear hfine hsub hpb hpl
  obtain ⟨bn, hbn⟩ : ∃ z, pb.length = z := ⟨_, rfl⟩
  have HBN := Lib.hid hbn
  have hbn2 : bn ≤ 1048585 := by rw [← hbn]; exact HPL.out
  clear hbn
  go_wp2_with fail
  refine (lentSn_at ⟨si, st, va, xs, vc, ia, im, ic⟩ k m HKL.out HML.out w1 HSUB.out HFI.out).mono ?_
  rintro e w2 ⟨ya, yc, yi, yj, rfl, hL, b2⟩
  dsimp only at hL
  have hs2 := b2.size
  have hlt1 := (Array.getElem?_eq_some_iff.1 HK0.out).1
  have hz1 := HB0.out.size
  have HL2 := Lib.hid hL
  have HFY := Lib.hid (hL.fine (l := ⟨si, st, va, xs, vc, ia, im, ic⟩) rfl HFI.out)
  have ba := (Below.refl w2.heap.size w2).alloc (Nat.le_refl _) (.cells #[.int .i64 si, .int .i64 st, .slice ya k yc, .slice yi m yj] 26)
  have ka := heap_alloc_new w2 (.cells #[.int .i64 si, .int .i64 st, .slice ya k yc, .slice yi m yj] 26)
  have HBA := Lib.hid ba
  have HKA := Lib.hid ka
  have HK2 := Lib.hid ((b2.block _ hlt1).trans HK0.out)
  have HB2 := Lib.hid (HB0.out.trans (b2.mono hz1))
  clear hL ba ka b2 g0 g1 g2 g3 HK0 HB0
  dsimp only
  go_upto_region 4 with fail
  generalize w2.alloc (.cells #[.int .i64 si, .int .i64 st, .slice ya k yc, .slice yi m yj] 26) = w3 at HBA HKA ⊢
  have hs3 := HBA.out.size
  have hgi := (Array.getElem?_eq_some_iff.1 HKA.out).1
  have HK3 := Lib.hid ((HBA.out.block _ (by omega)).trans HK2.out)
  have HB3 := Lib.hid (HB2.out.trans (HBA.out.mono HB2.out.size))
  have HL3 := Lib.hid (HL2.out.below HBA.out (Nat.le_refl _))
  obtain ⟨gi, hgie⟩ : ∃ gi, w2.heap.size = gi := ⟨_, rfl⟩
  have HGI := Lib.hid hgie
  rw [hgie] at HKA hgi hs3 hs2 ⊢
  have hgw : w.heap.size < gi := by have := HB2.out.size; omega
  clear hgie HK2
  have y0 := Go.Joins.cell_of_block HKA.out 0
  have y1 := Go.Joins.cell_of_block HKA.out 1
  have y2 := Go.Joins.cell_of_block HKA.out 2
  have y3 := Go.Joins.cell_of_block HKA.out 3
  go_wp2_with fail
  refine (sput_at ⟨si, st, ya, xs, yc, yi, im, yj⟩ k m HKL.out HML.out w3 HL3.out.sub HFY.out (pb, pe) HPB.out).mono ?_
  rintro e w4 ⟨a4, n4, c4, rfl, ho4, b4⟩
  have hs4 := b4.size
  obtain rfl : bn = n4 := by rw [← HBN.out]; exact ho4.len
  have HO4 := Lib.hid ho4
  have HKA4 := Lib.hid ((b4.block gi hgi).trans HKA.out)
  have HK4 := Lib.hid ((b4.block w.heap.size (by omega)).trans HK3.out)
  have HB4 := Lib.hid (HB3.out.trans (b4.mono HB3.out.size))
  have HL4 := Lib.hid (HL3.out.below b4 (Nat.le_refl _))
  have BV4 := Lib.hid (HBA.out.trans (b4.mono (by have := HGI.out; omega)))
  clear ho4 b4 y0 y1 y2 y3 HKA HK3 HL3 HBA
  have y0 := Go.Joins.cell_of_block HKA4.out 0
  have y1 := Go.Joins.cell_of_block HKA4.out 1
  have y2 := Go.Joins.cell_of_block HKA4.out 2
  have y3 := Go.Joins.cell_of_block HKA4.out 3
  dsimp only
  go_wp2_with fail
  refine (sput_at ⟨si, st, ya, xs, yc, yi, im, yj⟩ k m HKL.out HML.out w4 HL4.out.sub HFY.out (pb, pe) HPB.out).mono ?_
  rintro e w5 ⟨a5, n5, c5, rfl, ho5, b5⟩
  have hs5 := b5.size
  obtain rfl : bn = n5 := by rw [← HBN.out]; exact ho5.len
  have HO5 := Lib.hid ho5
  have HA5 := Lib.hid (HO4.out.below b5 (Nat.le_refl _))
  have HKA5 := Lib.hid ((b5.block gi (by omega)).trans HKA4.out)
  have HK5 := Lib.hid ((b5.block w.heap.size (by omega)).trans HK4.out)
  have HB5 := Lib.hid (HB4.out.trans (b5.mono HB4.out.size))
  have HL5 := Lib.hid (HL4.out.below b5 (Nat.le_refl _))
  have BV5 := Lib.hid (BV4.out.trans (b5.mono (by have := HGI.out; omega)))
  clear ho5 b5 y0 y1 y2 y3 HKA4 HK4 HL4 BV4
  have y0 := Go.Joins.cell_of_block HKA5.out 0
  have y1 := Go.Joins.cell_of_block HKA5.out 1
  have y2 := Go.Joins.cell_of_block HKA5.out 2
  have y3 := Go.Joins.cell_of_block HKA5.out 3
  have g0 := Go.Joins.cell_of_block HK5.out 0
  have g1 := Go.Joins.cell_of_block HK5.out 1
  have g2 := Go.Joins.cell_of_block HK5.out 2
  have g3 := Go.Joins.cell_of_block HK5.out 3
  dsimp only
  go_wp2_with fail
  refine (keptSn_at si st xs im ya yi va ia yc yj vc ic k m HKL.out HML.out w5 w1.heap.size HL5.out (snSub_mono (snSub_below HX.out HB5.out (Nat.le_refl _)) HB5.out.size) HFI.out).mono ?_
  rintro e w6 ⟨rfl, b6⟩
  have hs6 := b6.size
  have HA6 := Lib.hid (HA5.out.below b6 (Nat.le_refl _))
  have HO6 := Lib.hid (HO5.out.below b6 (Nat.le_refl _))
  have HKA6 := Lib.hid ((b6.block gi (by omega)).trans HKA5.out)
  have HK6 := Lib.hid ((b6.block w.heap.size (by omega)).trans HK5.out)
  have HB6 := Lib.hid (HB5.out.trans (b6.mono HB5.out.size))
  have HR6 := Lib.hid (HL2.out.room (BV5.out.trans (b6.mono (by have := HGI.out; omega))))
  rw [HGI.out] at HR6
  clear b6 y0 y1 y2 y3 g0 g1 g2 g3 HKA5 HK5 HL5 BV5 HA5
  have y0 := Go.Joins.cell_of_block HKA6.out 0
  have y1 := Go.Joins.cell_of_block HKA6.out 1
  have y2 := Go.Joins.cell_of_block HKA6.out 2
  have y3 := Go.Joins.cell_of_block HKA6.out 3
  go_wp2_with fail
  refine (overSn_at ⟨si, st, ya, xs, yc, yi, im, yj⟩ k m HKL.out HML.out w6 w1.heap.size gi HR6.out HFY.out (by omega) (by omega)).mono ?_
  rintro e w7 ⟨rfl, ho⟩
  have hs7 : w6.heap.size ≤ w7.heap.size := ho.size
  have HB7 := Lib.hid (HB6.out.trans (ho.mid.below.mono (by omega)))
  have HK7 := Lib.hid ((ho.mid.below.block w.heap.size (by omega)).trans HK6.out)
  have HA7 := Lib.hid (show BOwn w7 w3.heap.size a4 bn c4 pb from ⟨HA6.out.len, own_blocks4 HA6.out.row (fun g h1 h2 => ho.mid.far g (by omega) h2)⟩)
  have HO7 := Lib.hid (show BOwn w7 w4.heap.size a5 bn c5 pb from ⟨HO6.out.len, own_blocks4 HO6.out.row (fun g h1 h2 => ho.mid.far g (by omega) h2)⟩)
  clear ho y0 y1 y2 y3 HKA6 HK6 HA6 HO6 HR6 HB6
  have g0 := Go.Joins.cell_of_block HK7.out 0
  have g1 := Go.Joins.cell_of_block HK7.out 1
  have g2 := Go.Joins.cell_of_block HK7.out 2
  have g3 := Go.Joins.cell_of_block HK7.out 3
  go_wp2_with fail
  refine (rsput_at ⟨si, st, va, xs, vc, ia, im, ic⟩ k m HKL.out HML.out w7 (snSub_mono (snSub_below HX.out HB7.out (Nat.le_refl _)) HB7.out.size) HFI.out (pb, pe) HPB.out).mono ?_
  rintro e w8 ⟨a8, n8, c8, rfl, ho8, b8⟩
  have hs8 := b8.size
  obtain rfl : bn = n8 := by rw [← HBN.out]; exact ho8.len
  have HO8 := Lib.hid ho8
  have HA8 := Lib.hid (HA7.out.below b8 (Nat.le_refl _))
  have HC8 := Lib.hid (HO7.out.below b8 (Nat.le_refl _))
  have HB8 := Lib.hid (HB7.out.trans (b8.mono HB7.out.size))
  clear b8 ho8 g0 g1 g2 g3 HK7 HA7 HO7 HB7
  dsimp only
  go_wp2_with fail
  refine (sameB_any a4 bn c4 a8 bn c8 pb w8 HBN.out HBN.out HA8.out.in HO8.out.in (by omega)).mono ?_
  rintro e w9 ⟨rfl, b9⟩
  have hs9 := b9.size
  have HA9 := Lib.hid (HA8.out.below b9 (Nat.le_refl _))
  have HC9 := Lib.hid (HC8.out.below b9 (Nat.le_refl _))
  have HB9 := Lib.hid (HB8.out.trans (b9.mono HB8.out.size))
  clear b9 HA8 HC8 HO8 HB8
  go_wp2_with fail
  refine (apartBytes_any w3.heap.size w9.heap.size 2 2 (dupS (.slice a4 bn c4) (.slice a5 bn c5)) (fun _ => bn) (fun _ => pb.map bv) _ (fun j hj => ?_) (by simp) (fun j hj => ?_) (fun i j hi hj hne => ?_) (by decide) (fun j hj => by omega) (by simp; omega)).mono ?_
  · have h2 : j = 0 ∨ j = 1 := by omega
    rcases h2 with rfl | rfl
    · exact Go.Joins.cell_of_block (heap_alloc_new w9 _) 0
    · exact Go.Joins.cell_of_block (heap_alloc_new w9 _) 1
  · have h2 : j = 0 ∨ j = 1 := by omega
    rcases h2 with rfl | rfl
    · exact HA9.out.row.alloc _
    · exact Go.Joins.ownsRow_le (HC9.out.row.alloc _) (by omega)
  · have hab : Sep (.slice a4 bn c4) (.slice a5 bn c5) := fun q h1 h2 => by
      have h3 := (World.ownsRow.lt HO4.out.row q h1).2
      have h4 := (World.ownsRow.lt HC9.out.row q h2).1
      omega
    have h2 : i = 0 ∨ i = 1 := by omega
    have h3 : j = 0 ∨ j = 1 := by omega
    rcases h2 with rfl | rfl <;> rcases h3 with rfl | rfl
    · exact absurd rfl hne
    · exact hab
    · exact hab.symm
    · exact absurd rfl hne
  rintro e w10 ⟨rfl, b10⟩
  have HB10 := Lib.hid ((HB9.out.alloc HB9.out.size _).trans (b10.mono (by omega)))
  have hz10 := HB10.out.size
  clear b10
  go_wp2_with fail
  refine (awake19_any _).mono ?_
  rintro e w11 ⟨rfl, b11⟩
  have hb := HB10.out.trans (b11.mono hz10)
  clear b11
  go_wp2_with fail
  go_ret
  exact ⟨rfl, hb⟩
end Go.Proofs.YtejgebpdipnhmaaGreatDoor
/- The chapter's snap's bytes, each turned, and cut. No program. Conditions: none. -/
namespace Go.Proofs.YtejgebpdipnhmaaGreatDoor
open Go.RowKit
set_option maxRecDepth 20000
/-- The chapter's snap's bytes with byte k one greater. -/
def turnB (k : Nat) : List Int := smallB.set k ((smallB.getD k 0 + 1) % 256)
theorem turnB_none : ((List.range 59).all fun k => (scanS (turnB k)).1.isEmpty) = true := by kernel_rfl
theorem cutB_none : ((List.range 59).all fun k => (scanS (smallB.take k)).1.isEmpty) = true := by kernel_rfl
theorem snGet_none {b : List Int} (h : (scanS b).1.isEmpty = true) : snGet b = (zeroSn, 4) := by
  rw [List.isEmpty_iff] at h
  unfold snGet
  rw [h]
theorem numB_turned {k : Nat} (h : k < 59) : snGet (turnB k) = (zeroSn, 4) := snGet_none (List.all_eq_true.1 turnB_none k (List.mem_range.2 h))
theorem numB_cut {k : Nat} (h : k < 59) : snGet (smallB.take k) = (zeroSn, 4) := snGet_none (List.all_eq_true.1 cutB_none k (List.mem_range.2 h))
theorem long_right (im : List Int) : snRight ⟨1, 0, [], im⟩ = true := by simp [snRight, upGo]
theorem long_len (im : List Int) : (snData ⟨1, 0, [], im⟩).length = 24 + im.length := by rw [snData_len]; simp
/-- An image as long as may be. -/
theorem long_put {im : List Int} (h : im.length = 1048552) : snPut ⟨1, 0, [], im⟩ = (frameB 1 (snData ⟨1, 0, [], im⟩), 0) := by
  unfold snPut
  rw [if_neg (by rw [long_right]; simp), if_neg (by rw [long_len, h]; omega)]
/-- One byte longer. -/
theorem long_more {im : List Int} (h : im.length = 1048553) : snPut ⟨1, 0, [], im⟩ = ([], 3) := by
  unfold snPut
  rw [if_neg (by rw [long_right]; simp), if_pos (by rw [long_len, h]; omega)]
theorem long_get {im : List Int} (hw : BytesWf im) (h : im.length = 1048552) : snGet (frameB 1 (snData ⟨1, 0, [], im⟩)) = (⟨1, 0, [], im⟩, 0) := snGet_back hw (long_put h)
end Go.Proofs.YtejgebpdipnhmaaGreatDoor
/- What SnapNumbers calls: SnapPuts of snaps that are written down. Conditions: as each says. -/
namespace Go.Proofs.YtejgebpdipnhmaaGreatDoor
open Go.RowKit
set_option maxRecDepth 20000
/-- The numbers at their ends. -/
def numsL : List Int := [-9223372036854775808, -1, 0, 1, 2, 3, 9, 10, 1099511627776, 1099511627777, 9223372036854775807]
theorem numsL_wf : ∀ v ∈ numsL, (Lit.int .i64 v).wf = true := by decide
theorem puts_lit (i t : Int) (va ia : Option Addr) (vs im : List Int) (vc ic n m : Nat) (hn : vs.length = n) (hm : im.length = m) (w : World) (hx : snSub w w.heap.size ⟨i, t, va, vs, vc, ia, im, ic⟩) (hq : SnArg ⟨i, t, va, vs, vc, ia, im, ic⟩) :
    Calls Tryz.prog 4 #[.agg #[.int .i64 i, .int .i64 t, .slice va n vc, .slice ia m ic]] w fun e w' => e = .returned (.bool true) ∧ Below w.heap.size w w' := by
  subst hn hm
  exact snapPuts_any ⟨i, t, va, vs, vc, ia, im, ic⟩ w hx hq
theorem puts_two (i t : Int) (hi : (Lit.int .i64 i).wf = true) (ht : (Lit.int .i64 t).wf = true) (w : World) :
    Calls Tryz.prog 4 #[.agg #[.int .i64 i, .int .i64 t, .slice none 0 0, .slice none 0 0]] w fun e w' => e = .returned (.bool true) ∧ Below w.heap.size w w' :=
  puts_lit i t none none [] [] 0 0 0 0 rfl rfl w ⟨Or.inl rfl, Or.inl rfl⟩ ⟨hi, ht, (fun v hv => by cases hv), (by simp), (fun v hv => by cases hv), (by simp), (fun _ => rfl), (fun _ => rfl), Nat.le_refl _, Nat.le_refl _⟩
theorem voters_in {w : World} {g : Nat} {vs : List Int} {fr : Nat × Nat} (h : w.heap[g]? = some (.cells (vs.map (Value.int .i64)).toArray 3 fr)) : NumsIn w w.heap.size (some ⟨g, 0, none⟩) vs := by
  refine Or.inr ⟨g, 0, rfl, (Array.getElem?_eq_some_iff.1 h).1, fun i x hx => ⟨fun j hj => ?_, trivial⟩⟩
  obtain rfl : j = 0 := by omega
  rw [Nat.zero_add, Nat.mul_one, Nat.add_zero, Go.Joins.cell_of_block h i]
  simp [hx, iCells]
/-- Of a snap of term 0 with voters in a block of their own, and an image, or none. -/
theorem puts_voters (i : Int) (g n : Nat) (vs : List Int) (hi : (Lit.int .i64 i).wf = true) (hv : ∀ v ∈ vs, (Lit.int .i64 v).wf = true) (hn : vs.length = n) (hl : n ≤ 1000) (w : World) (fr : Nat × Nat) (h : w.heap[g]? = some (.cells (vs.map (Value.int .i64)).toArray 3 fr)) :
    Calls Tryz.prog 4 #[.agg #[.int .i64 i, .int .i64 0, .slice (some ⟨g, 0, none⟩) n n, .slice none 0 0]] w fun e w' => e = .returned (.bool true) ∧ Below w.heap.size w w' := by
  subst hn
  exact puts_lit i 0 _ none vs [] vs.length 0 vs.length 0 rfl rfl w ⟨voters_in h, Or.inl rfl⟩ ⟨hi, (show (Lit.int .i64 0).wf = true by decide), hv, (by dsimp only; omega), (fun v hv => by cases hv), (by simp), (fun h => by cases h), (fun _ => rfl), Nat.le_refl _, Nat.le_refl _⟩
theorem puts_image (i : Int) (g n g2 m c : Nat) (vs im : List Int) (hi : (Lit.int .i64 i).wf = true) (hv : ∀ v ∈ vs, (Lit.int .i64 v).wf = true) (hn : vs.length = n) (hl : n ≤ 1000) (w : World) (fr : Nat × Nat) (h : w.heap[g]? = some (.cells (vs.map (Value.int .i64)).toArray 3 fr))
    (hm : im.length = m) (hw : BytesWf im) (hb : BytesIn w w.heap.size (some ⟨g2, 0, none⟩) im) (hc : m ≤ c) (hml : m ≤ 1000) :
    Calls Tryz.prog 4 #[.agg #[.int .i64 i, .int .i64 0, .slice (some ⟨g, 0, none⟩) n n, .slice (some ⟨g2, 0, none⟩) m c]] w fun e w' => e = .returned (.bool true) ∧ Below w.heap.size w w' := by
  subst hn hm
  exact puts_lit i 0 _ _ vs im vs.length c vs.length im.length rfl rfl w ⟨voters_in h, hb⟩ ⟨hi, (show (Lit.int .i64 0).wf = true by decide), hv, (by dsimp only; omega), hw, (by dsimp only; omega), (fun h => by cases h), (fun h => by cases h), Nat.le_refl _, hc⟩
end Go.Proofs.YtejgebpdipnhmaaGreatDoor
