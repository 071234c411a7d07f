/- bag.apart: lists that lie apart, kind by kind, are found to do so. Conditions: each list is the caller's own, in a block of its own. -/
import Derived.Test.YtglgcjkglhlggaaGreatDoorGLetterGets0
import Derived.Test.YtglgcjkglhlggaaGreatDoorGLetterGets21
import Derived.Test.YtglgcjkglhlggaaGreatDoorGLetterGets22
import Derived.Test.YtglgcjkglhlggaaGreatDoorGLetterGets14
import Derived.Test.YtglgcjkglhlggaaGreatDoorGLetterGets23
import Derived.Test.YtglgcjkglhlggaaGreatDoorGLetterGets24
import Derived.Test.YtglgcjkglhlggaaGreatDoorGLetterGets26
set_option linter.unusedVariables false
set_option linter.unusedSimpArgs false
namespace Go.Proofs.YtglgcjkglhlggaaGreatDoor
open Go.RowKit
set_option maxRecDepth 20000
theorem Kb.own {S:Nat→Prop}{B U B2 E SZ n:Nat}{v:Value}{xs:List Value}{w w':World}(h:Kb S B U w w')(ho:w.ownsRow B2 E SZ v n xs)(he:E ≠ U):w'.ownsRow B2 E SZ v n xs:=by
 refine ⟨ho.1,?_⟩
 rcases ho.2 with hn | ⟨g,cap,cur,hv,h1,h2,h3⟩
 · exact Or.inl hn
 · exact Or.inr ⟨g,cap,cur,hv,h1,h.other g cur E _ h2 he,h3⟩
set_option maxHeartbeats 4000000 in
theorem apartL_bag (B Bb bb:Nat)(f:Nat→Value)(rows:Nat→List Value)(w:World)(hbag:Bag w Bb bb f rows)(hB:B≤w.heap.size)(hBb:B≤Bb)
  (K2:Nat) (R2:Nat→Value) (n2:Nat→Nat) (C2:Nat→List Value) (h2:rows 2=(List.range K2).map R2) (hR2:RowsAt B 3 1 K2 R2 n2 C2 w) (hS2:SepAll K2 R2) (hK2:K2≤100000) (hn2:∀ j,j<K2→n2 j≤1099511627776)
  (K5:Nat) (R5:Nat→Value) (n5:Nat→Nat) (C5:Nat→List Value) (h5:rows 5=(List.range K5).map R5) (hR5:RowsAt B 5 1 K5 R5 n5 C5 w) (hS5:SepAll K5 R5) (hK5:K5≤100000) (hn5:∀ j,j<K5→n5 j≤1099511627776)
  (K6:Nat) (R6:Nat→Value) (n6:Nat→Nat) (C6:Nat→List Value) (h6:rows 6=(List.range K6).map R6) (hR6:RowsAt B 58 3 K6 R6 n6 C6 w) (hS6:SepAll K6 R6) (hK6:K6≤100000) (hn6:∀ j,j<K6→n6 j≤1099511627776)
  (K20:Nat) (R20:Nat→Value) (n20:Nat→Nat) (C20:Nat→List Value) (h20:rows 20=(List.range K20).map R20) (hR20:RowsAt B 55 9 K20 R20 n20 C20 w) (hS20:SepAll K20 R20) (hK20:K20≤100000) (hn20:∀ j,j<K20→n20 j≤1099511627776)
  (K21:Nat) (R21:Nat→Value) (n21:Nat→Nat) (C21:Nat→List Value) (h21:rows 21=(List.range K21).map R21) (hR21:RowsAt B 27 12 K21 R21 n21 C21 w) (hS21:SepAll K21 R21) (hK21:K21≤100000) (hn21:∀ j,j<K21→n21 j≤500000000000)
  : Calls Tryz.prog 48 #[.pointer (some ⟨bb,0,none⟩)] w fun e w'=>e=.returned (.bool true)∧Below B w w'∧∀ b,b<w.heap.size→¬ ofRows K2 R2 b→¬ ofRows K5 R5 b→¬ ofRows K6 R6 b→¬ ofRows K20 R20 b→¬ ofRows K21 R21 b→w'.heap[b]?=w.heap[b]?:=by
 have hL2:w.ownsRow B 24 1 (f 2) K2 ((List.range K2).map R2):=by
  have h1:=hbag.own 2
  rw [h2,List.length_map,List.length_range] at h1
  exact Go.Joins.ownsRow_le h1 hBb
 obtain ⟨lo2,lc2,hv2,_,_,_⟩:=row_form hL2
 rw [hv2] at hL2
 have HL2_0:=Hd hL2
 have HR2_0:=Hd hR2
 have HS2:=Hd hS2
 have HN2:=Hd hn2
 have HV2:=Hd hv2
 clear hL2 hR2 hS2 hn2 hv2 h2
 have hL5:w.ownsRow B 25 1 (f 5) K5 ((List.range K5).map R5):=by
  have h1:=hbag.own 5
  rw [h5,List.length_map,List.length_range] at h1
  exact Go.Joins.ownsRow_le h1 hBb
 obtain ⟨lo5,lc5,hv5,_,_,_⟩:=row_form hL5
 rw [hv5] at hL5
 have HL5_0:=Hd hL5
 have HR5_0:=Hd hR5
 have HS5:=Hd hS5
 have HN5:=Hd hn5
 have HV5:=Hd hv5
 clear hL5 hR5 hS5 hn5 hv5 h5
 have hL6:w.ownsRow B 51 1 (f 6) K6 ((List.range K6).map R6):=by
  have h1:=hbag.own 6
  rw [h6,List.length_map,List.length_range] at h1
  exact Go.Joins.ownsRow_le h1 hBb
 obtain ⟨lo6,lc6,hv6,_,_,_⟩:=row_form hL6
 rw [hv6] at hL6
 have HL6_0:=Hd hL6
 have HR6_0:=Hd hR6
 have HS6:=Hd hS6
 have HN6:=Hd hn6
 have HV6:=Hd hv6
 clear hL6 hR6 hS6 hn6 hv6 h6
 have hL20:w.ownsRow B 23 1 (f 20) K20 ((List.range K20).map R20):=by
  have h1:=hbag.own 20
  rw [h20,List.length_map,List.length_range] at h1
  exact Go.Joins.ownsRow_le h1 hBb
 obtain ⟨lo20,lc20,hv20,_,_,_⟩:=row_form hL20
 rw [hv20] at hL20
 have HL20_0:=Hd hL20
 have HR20_0:=Hd hR20
 have HS20:=Hd hS20
 have HN20:=Hd hn20
 have HV20:=Hd hv20
 clear hL20 hR20 hS20 hn20 hv20 h20
 have hL21:w.ownsRow B 44 1 (f 21) K21 ((List.range K21).map R21):=by
  have h1:=hbag.own 21
  rw [h21,List.length_map,List.length_range] at h1
  exact Go.Joins.ownsRow_le h1 hBb
 obtain ⟨lo21,lc21,hv21,_,_,_⟩:=row_form hL21
 rw [hv21] at hL21
 have HL21_0:=Hd hL21
 have HR21_0:=Hd hR21
 have HS21:=Hd hS21
 have HN21:=Hd hn21
 have HV21:=Hd hv21
 clear hL21 hR21 hS21 hn21 hv21 h21
 have H0:=Hd hbag.is
 have HBG:=Hd hbag
 have hbel0:Below B w w:=Below.refl _ _
 have hlt0:=hbag.lt
 clear hbag
 have c0:w.cell? ⟨bb,0,none⟩=some (.slice none 0 0):=by
  rw [cob H0.out 0,List.getElem?_toArray,List.getElem?_map,List.getElem?_range (by decide),← (HBG.out.nil 0 (HBG.out.unused 0 rfl))];rfl
 go_enter Tryz.func48,Tryz.ntmps48
 go_wp2_with fail
 refine (flatNil_Limbs _).mono ?_
 rintro e w1 ⟨rfl,hb1⟩
 have H1:=Hd ((hb1.block bb hlt0).trans H0.out)
 have hbel1:=hbel0.trans (hb1.mono (Nat.le_trans hB hbel0.size))
 have HAP1:=Hd (show ∀ b,b<w.heap.size→¬ ofRows K2 R2 b→¬ ofRows K5 R5 b→¬ ofRows K6 R6 b→¬ ofRows K20 R20 b→¬ ofRows K21 R21 b→w1.heap[b]?=w.heap[b]? from fun b hb g2 g5 g6 g20 g21=>(hb1.block b (Nat.lt_of_lt_of_le hb hbel0.size)).trans (rfl))
 have HL2_1:=Hd (own_below HL2_0.out hb1 (nlr _))
 have HR2_1:=Hd (show RowsAt B 3 1 K2 R2 n2 C2 w1 from fun j hj=>own_below (HR2_0.out j hj) hb1 (nlr _))
 have HL5_1:=Hd (own_below HL5_0.out hb1 (nlr _))
 have HR5_1:=Hd (show RowsAt B 5 1 K5 R5 n5 C5 w1 from fun j hj=>own_below (HR5_0.out j hj) hb1 (nlr _))
 have HL6_1:=Hd (own_below HL6_0.out hb1 (nlr _))
 have HR6_1:=Hd (show RowsAt B 58 3 K6 R6 n6 C6 w1 from fun j hj=>own_below (HR6_0.out j hj) hb1 (nlr _))
 have HL20_1:=Hd (own_below HL20_0.out hb1 (nlr _))
 have HR20_1:=Hd (show RowsAt B 55 9 K20 R20 n20 C20 w1 from fun j hj=>own_below (HR20_0.out j hj) hb1 (nlr _))
 have HL21_1:=Hd (own_below HL21_0.out hb1 (nlr _))
 have HR21_1:=Hd (show RowsAt B 27 12 K21 R21 n21 C21 w1 from fun j hj=>own_below (HR21_0.out j hj) hb1 (nlr _))
 have hlt1:=(Array.getElem?_eq_some_iff.1 H1.out).1
 clear c0
 clear HL2_0 HR2_0
 clear HL5_0 HR5_0
 clear HL6_0 HR6_0
 clear HL20_0 HR20_0
 clear HL21_0 HR21_0
 have c1:w1.cell? ⟨bb,1,none⟩=some (.slice none 0 0):=by
  rw [cob H1.out 1,List.getElem?_toArray,List.getElem?_map,List.getElem?_range (by decide),← (HBG.out.nil 1 (HBG.out.unused 1 rfl))];rfl
 go_wp2_with fail
 refine (flatNil_Words _).mono ?_
 rintro e w2 ⟨rfl,hb2⟩
 have H2:=Hd ((hb2.block bb hlt1).trans H1.out)
 have hbel2:=hbel1.trans (hb2.mono (Nat.le_trans hB hbel1.size))
 have HAP2:=Hd (show ∀ b,b<w.heap.size→¬ ofRows K2 R2 b→¬ ofRows K5 R5 b→¬ ofRows K6 R6 b→¬ ofRows K20 R20 b→¬ ofRows K21 R21 b→w2.heap[b]?=w.heap[b]? from fun b hb g2 g5 g6 g20 g21=>(hb2.block b (Nat.lt_of_lt_of_le hb hbel1.size)).trans (HAP1.out b hb g2 g5 g6 g20 g21))
 have HL2_2:=Hd (own_below HL2_1.out hb2 (nlr _))
 have HR2_2:=Hd (show RowsAt B 3 1 K2 R2 n2 C2 w2 from fun j hj=>own_below (HR2_1.out j hj) hb2 (nlr _))
 have HL5_2:=Hd (own_below HL5_1.out hb2 (nlr _))
 have HR5_2:=Hd (show RowsAt B 5 1 K5 R5 n5 C5 w2 from fun j hj=>own_below (HR5_1.out j hj) hb2 (nlr _))
 have HL6_2:=Hd (own_below HL6_1.out hb2 (nlr _))
 have HR6_2:=Hd (show RowsAt B 58 3 K6 R6 n6 C6 w2 from fun j hj=>own_below (HR6_1.out j hj) hb2 (nlr _))
 have HL20_2:=Hd (own_below HL20_1.out hb2 (nlr _))
 have HR20_2:=Hd (show RowsAt B 55 9 K20 R20 n20 C20 w2 from fun j hj=>own_below (HR20_1.out j hj) hb2 (nlr _))
 have HL21_2:=Hd (own_below HL21_1.out hb2 (nlr _))
 have HR21_2:=Hd (show RowsAt B 27 12 K21 R21 n21 C21 w2 from fun j hj=>own_below (HR21_1.out j hj) hb2 (nlr _))
 have hlt2:=(Array.getElem?_eq_some_iff.1 H2.out).1
 clear c1 HAP1
 clear HL2_1 HR2_1
 clear HL5_1 HR5_1
 clear HL6_1 HR6_1
 clear HL20_1 HR20_1
 clear HL21_1 HR21_1
 have c2:w2.cell? ⟨bb,2,none⟩=some (.slice lo2 K2 lc2):=by
  rw [cob H2.out 2,List.getElem?_toArray,List.getElem?_map,List.getElem?_range (by decide),← HV2.out];rfl
 go_wp2_with fail
 refine (flatI_any B K2 lo2 lc2 R2 n2 C2 w2 HL2_2.out HR2_2.out HS2.out hK2 HN2.out (Nat.le_trans hB hbel2.size)).mono ?_
 rintro e w3 ⟨rfl,hk3⟩
 have H3:=Hd (hk3.other bb _ _ _ H2.out (by decide))
 have hbel3:=hbel2.trans hk3.below
 have HAP3:=Hd (show ∀ b,b<w.heap.size→¬ ofRows K2 R2 b→¬ ofRows K5 R5 b→¬ ofRows K6 R6 b→¬ ofRows K20 R20 b→¬ ofRows K21 R21 b→w3.heap[b]?=w.heap[b]? from fun b hb g2 g5 g6 g20 g21=>(hk3.apart b (Nat.lt_of_lt_of_le hb hbel2.size) g2).trans (HAP2.out b hb g2 g5 g6 g20 g21))
 have HL5_3:=Hd (hk3.own HL5_2.out (by decide))
 have HR5_3:=Hd (show RowsAt B 5 1 K5 R5 n5 C5 w3 from fun j hj=>hk3.own (HR5_2.out j hj) (by decide))
 have HL6_3:=Hd (hk3.own HL6_2.out (by decide))
 have HR6_3:=Hd (show RowsAt B 58 3 K6 R6 n6 C6 w3 from fun j hj=>hk3.own (HR6_2.out j hj) (by decide))
 have HL20_3:=Hd (hk3.own HL20_2.out (by decide))
 have HR20_3:=Hd (show RowsAt B 55 9 K20 R20 n20 C20 w3 from fun j hj=>hk3.own (HR20_2.out j hj) (by decide))
 have HL21_3:=Hd (hk3.own HL21_2.out (by decide))
 have HR21_3:=Hd (show RowsAt B 27 12 K21 R21 n21 C21 w3 from fun j hj=>hk3.own (HR21_2.out j hj) (by decide))
 have hlt3:=(Array.getElem?_eq_some_iff.1 H3.out).1
 clear c2 HAP2
 clear HL5_2 HR5_2
 clear HL6_2 HR6_2
 clear HL20_2 HR20_2
 clear HL21_2 HR21_2
 have c3:w3.cell? ⟨bb,3,none⟩=some (.slice none 0 0):=by
  rw [cob H3.out 3,List.getElem?_toArray,List.getElem?_map,List.getElem?_range (by decide),← (HBG.out.nil 3 (HBG.out.unused 3 rfl))];rfl
 go_wp2_with fail
 refine (flatNil_Longs _).mono ?_
 rintro e w4 ⟨rfl,hb4⟩
 have H4:=Hd ((hb4.block bb hlt3).trans H3.out)
 have hbel4:=hbel3.trans (hb4.mono (Nat.le_trans hB hbel3.size))
 have HAP4:=Hd (show ∀ b,b<w.heap.size→¬ ofRows K2 R2 b→¬ ofRows K5 R5 b→¬ ofRows K6 R6 b→¬ ofRows K20 R20 b→¬ ofRows K21 R21 b→w4.heap[b]?=w.heap[b]? from fun b hb g2 g5 g6 g20 g21=>(hb4.block b (Nat.lt_of_lt_of_le hb hbel3.size)).trans (HAP3.out b hb g2 g5 g6 g20 g21))
 have HL5_4:=Hd (own_below HL5_3.out hb4 (nlr _))
 have HR5_4:=Hd (show RowsAt B 5 1 K5 R5 n5 C5 w4 from fun j hj=>own_below (HR5_3.out j hj) hb4 (nlr _))
 have HL6_4:=Hd (own_below HL6_3.out hb4 (nlr _))
 have HR6_4:=Hd (show RowsAt B 58 3 K6 R6 n6 C6 w4 from fun j hj=>own_below (HR6_3.out j hj) hb4 (nlr _))
 have HL20_4:=Hd (own_below HL20_3.out hb4 (nlr _))
 have HR20_4:=Hd (show RowsAt B 55 9 K20 R20 n20 C20 w4 from fun j hj=>own_below (HR20_3.out j hj) hb4 (nlr _))
 have HL21_4:=Hd (own_below HL21_3.out hb4 (nlr _))
 have HR21_4:=Hd (show RowsAt B 27 12 K21 R21 n21 C21 w4 from fun j hj=>own_below (HR21_3.out j hj) hb4 (nlr _))
 have hlt4:=(Array.getElem?_eq_some_iff.1 H4.out).1
 clear c3 HAP3
 clear HL5_3 HR5_3
 clear HL6_3 HR6_3
 clear HL20_3 HR20_3
 clear HL21_3 HR21_3
 have c4:w4.cell? ⟨bb,4,none⟩=some (.slice none 0 0):=by
  rw [cob H4.out 4,List.getElem?_toArray,List.getElem?_map,List.getElem?_range (by decide),← (HBG.out.nil 4 (HBG.out.unused 4 rfl))];rfl
 go_wp2_with fail
 refine (flatNil_Texts _).mono ?_
 rintro e w5 ⟨rfl,hb5⟩
 have H5:=Hd ((hb5.block bb hlt4).trans H4.out)
 have hbel5:=hbel4.trans (hb5.mono (Nat.le_trans hB hbel4.size))
 have HAP5:=Hd (show ∀ b,b<w.heap.size→¬ ofRows K2 R2 b→¬ ofRows K5 R5 b→¬ ofRows K6 R6 b→¬ ofRows K20 R20 b→¬ ofRows K21 R21 b→w5.heap[b]?=w.heap[b]? from fun b hb g2 g5 g6 g20 g21=>(hb5.block b (Nat.lt_of_lt_of_le hb hbel4.size)).trans (HAP4.out b hb g2 g5 g6 g20 g21))
 have HL5_5:=Hd (own_below HL5_4.out hb5 (nlr _))
 have HR5_5:=Hd (show RowsAt B 5 1 K5 R5 n5 C5 w5 from fun j hj=>own_below (HR5_4.out j hj) hb5 (nlr _))
 have HL6_5:=Hd (own_below HL6_4.out hb5 (nlr _))
 have HR6_5:=Hd (show RowsAt B 58 3 K6 R6 n6 C6 w5 from fun j hj=>own_below (HR6_4.out j hj) hb5 (nlr _))
 have HL20_5:=Hd (own_below HL20_4.out hb5 (nlr _))
 have HR20_5:=Hd (show RowsAt B 55 9 K20 R20 n20 C20 w5 from fun j hj=>own_below (HR20_4.out j hj) hb5 (nlr _))
 have HL21_5:=Hd (own_below HL21_4.out hb5 (nlr _))
 have HR21_5:=Hd (show RowsAt B 27 12 K21 R21 n21 C21 w5 from fun j hj=>own_below (HR21_4.out j hj) hb5 (nlr _))
 have hlt5:=(Array.getElem?_eq_some_iff.1 H5.out).1
 clear c4 HAP4
 clear HL5_4 HR5_4
 clear HL6_4 HR6_4
 clear HL20_4 HR20_4
 clear HL21_4 HR21_4
 have c5:w5.cell? ⟨bb,5,none⟩=some (.slice lo5 K5 lc5):=by
  rw [cob H5.out 5,List.getElem?_toArray,List.getElem?_map,List.getElem?_range (by decide),← HV5.out];rfl
 go_wp2_with fail
 refine (flatB_any B K5 lo5 lc5 R5 n5 C5 w5 HL5_5.out HR5_5.out HS5.out hK5 HN5.out (Nat.le_trans hB hbel5.size)).mono ?_
 rintro e w6 ⟨rfl,hk6⟩
 have H6:=Hd (hk6.other bb _ _ _ H5.out (by decide))
 have hbel6:=hbel5.trans hk6.below
 have HAP6:=Hd (show ∀ b,b<w.heap.size→¬ ofRows K2 R2 b→¬ ofRows K5 R5 b→¬ ofRows K6 R6 b→¬ ofRows K20 R20 b→¬ ofRows K21 R21 b→w6.heap[b]?=w.heap[b]? from fun b hb g2 g5 g6 g20 g21=>(hk6.apart b (Nat.lt_of_lt_of_le hb hbel5.size) g5).trans (HAP5.out b hb g2 g5 g6 g20 g21))
 have HL6_6:=Hd (hk6.own HL6_5.out (by decide))
 have HR6_6:=Hd (show RowsAt B 58 3 K6 R6 n6 C6 w6 from fun j hj=>hk6.own (HR6_5.out j hj) (by decide))
 have HL20_6:=Hd (hk6.own HL20_5.out (by decide))
 have HR20_6:=Hd (show RowsAt B 55 9 K20 R20 n20 C20 w6 from fun j hj=>hk6.own (HR20_5.out j hj) (by decide))
 have HL21_6:=Hd (hk6.own HL21_5.out (by decide))
 have HR21_6:=Hd (show RowsAt B 27 12 K21 R21 n21 C21 w6 from fun j hj=>hk6.own (HR21_5.out j hj) (by decide))
 have hlt6:=(Array.getElem?_eq_some_iff.1 H6.out).1
 clear c5 HAP5
 clear HL6_5 HR6_5
 clear HL20_5 HR20_5
 clear HL21_5 HR21_5
 have c6:w6.cell? ⟨bb,6,none⟩=some (.slice lo6 K6 lc6):=by
  rw [cob H6.out 6,List.getElem?_toArray,List.getElem?_map,List.getElem?_range (by decide),← HV6.out];rfl
 go_wp2_with fail
 refine (flatV_any B K6 lo6 lc6 R6 n6 C6 w6 HL6_6.out HR6_6.out HS6.out hK6 HN6.out (Nat.le_trans hB hbel6.size)).mono ?_
 rintro e w7 ⟨rfl,hk7⟩
 have H7:=Hd (hk7.other bb _ _ _ H6.out (by decide))
 have hbel7:=hbel6.trans hk7.below
 have HAP7:=Hd (show ∀ b,b<w.heap.size→¬ ofRows K2 R2 b→¬ ofRows K5 R5 b→¬ ofRows K6 R6 b→¬ ofRows K20 R20 b→¬ ofRows K21 R21 b→w7.heap[b]?=w.heap[b]? from fun b hb g2 g5 g6 g20 g21=>(hk7.apart b (Nat.lt_of_lt_of_le hb hbel6.size) g6).trans (HAP6.out b hb g2 g5 g6 g20 g21))
 have HL20_7:=Hd (hk7.own HL20_6.out (by decide))
 have HR20_7:=Hd (show RowsAt B 55 9 K20 R20 n20 C20 w7 from fun j hj=>hk7.own (HR20_6.out j hj) (by decide))
 have HL21_7:=Hd (hk7.own HL21_6.out (by decide))
 have HR21_7:=Hd (show RowsAt B 27 12 K21 R21 n21 C21 w7 from fun j hj=>hk7.own (HR21_6.out j hj) (by decide))
 have hlt7:=(Array.getElem?_eq_some_iff.1 H7.out).1
 clear c6 HAP6
 clear HL20_6 HR20_6
 clear HL21_6 HR21_6
 have c7:w7.cell? ⟨bb,7,none⟩=some (.slice none 0 0):=by
  rw [cob H7.out 7,List.getElem?_toArray,List.getElem?_map,List.getElem?_range (by decide),← (HBG.out.nil 7 (HBG.out.unused 7 rfl))];rfl
 go_wp2_with fail
 refine (flatNil_Facts _).mono ?_
 rintro e w8 ⟨rfl,hb8⟩
 have H8:=Hd ((hb8.block bb hlt7).trans H7.out)
 have hbel8:=hbel7.trans (hb8.mono (Nat.le_trans hB hbel7.size))
 have HAP8:=Hd (show ∀ b,b<w.heap.size→¬ ofRows K2 R2 b→¬ ofRows K5 R5 b→¬ ofRows K6 R6 b→¬ ofRows K20 R20 b→¬ ofRows K21 R21 b→w8.heap[b]?=w.heap[b]? from fun b hb g2 g5 g6 g20 g21=>(hb8.block b (Nat.lt_of_lt_of_le hb hbel7.size)).trans (HAP7.out b hb g2 g5 g6 g20 g21))
 have HL20_8:=Hd (own_below HL20_7.out hb8 (nlr _))
 have HR20_8:=Hd (show RowsAt B 55 9 K20 R20 n20 C20 w8 from fun j hj=>own_below (HR20_7.out j hj) hb8 (nlr _))
 have HL21_8:=Hd (own_below HL21_7.out hb8 (nlr _))
 have HR21_8:=Hd (show RowsAt B 27 12 K21 R21 n21 C21 w8 from fun j hj=>own_below (HR21_7.out j hj) hb8 (nlr _))
 have hlt8:=(Array.getElem?_eq_some_iff.1 H8.out).1
 clear c7 HAP7
 clear HL20_7 HR20_7
 clear HL21_7 HR21_7
 have c8:w8.cell? ⟨bb,8,none⟩=some (.slice none 0 0):=by
  rw [cob H8.out 8,List.getElem?_toArray,List.getElem?_map,List.getElem?_range (by decide),← (HBG.out.nil 8 (HBG.out.unused 8 rfl))];rfl
 go_wp2_with fail
 refine (flatNil_Lexes _).mono ?_
 rintro e w9 ⟨rfl,hb9⟩
 have H9:=Hd ((hb9.block bb hlt8).trans H8.out)
 have hbel9:=hbel8.trans (hb9.mono (Nat.le_trans hB hbel8.size))
 have HAP9:=Hd (show ∀ b,b<w.heap.size→¬ ofRows K2 R2 b→¬ ofRows K5 R5 b→¬ ofRows K6 R6 b→¬ ofRows K20 R20 b→¬ ofRows K21 R21 b→w9.heap[b]?=w.heap[b]? from fun b hb g2 g5 g6 g20 g21=>(hb9.block b (Nat.lt_of_lt_of_le hb hbel8.size)).trans (HAP8.out b hb g2 g5 g6 g20 g21))
 have HL20_9:=Hd (own_below HL20_8.out hb9 (nlr _))
 have HR20_9:=Hd (show RowsAt B 55 9 K20 R20 n20 C20 w9 from fun j hj=>own_below (HR20_8.out j hj) hb9 (nlr _))
 have HL21_9:=Hd (own_below HL21_8.out hb9 (nlr _))
 have HR21_9:=Hd (show RowsAt B 27 12 K21 R21 n21 C21 w9 from fun j hj=>own_below (HR21_8.out j hj) hb9 (nlr _))
 have hlt9:=(Array.getElem?_eq_some_iff.1 H9.out).1
 clear c8 HAP8
 clear HL20_8 HR20_8
 clear HL21_8 HR21_8
 have c9:w9.cell? ⟨bb,9,none⟩=some (.slice none 0 0):=by
  rw [cob H9.out 9,List.getElem?_toArray,List.getElem?_map,List.getElem?_range (by decide),← (HBG.out.nil 9 (HBG.out.unused 9 rfl))];rfl
 go_wp2_with fail
 refine (flatNil_Nodes _).mono ?_
 rintro e w10 ⟨rfl,hb10⟩
 have H10:=Hd ((hb10.block bb hlt9).trans H9.out)
 have hbel10:=hbel9.trans (hb10.mono (Nat.le_trans hB hbel9.size))
 have HAP10:=Hd (show ∀ b,b<w.heap.size→¬ ofRows K2 R2 b→¬ ofRows K5 R5 b→¬ ofRows K6 R6 b→¬ ofRows K20 R20 b→¬ ofRows K21 R21 b→w10.heap[b]?=w.heap[b]? from fun b hb g2 g5 g6 g20 g21=>(hb10.block b (Nat.lt_of_lt_of_le hb hbel9.size)).trans (HAP9.out b hb g2 g5 g6 g20 g21))
 have HL20_10:=Hd (own_below HL20_9.out hb10 (nlr _))
 have HR20_10:=Hd (show RowsAt B 55 9 K20 R20 n20 C20 w10 from fun j hj=>own_below (HR20_9.out j hj) hb10 (nlr _))
 have HL21_10:=Hd (own_below HL21_9.out hb10 (nlr _))
 have HR21_10:=Hd (show RowsAt B 27 12 K21 R21 n21 C21 w10 from fun j hj=>own_below (HR21_9.out j hj) hb10 (nlr _))
 have hlt10:=(Array.getElem?_eq_some_iff.1 H10.out).1
 clear c9 HAP9
 clear HL20_9 HR20_9
 clear HL21_9 HR21_9
 have c10:w10.cell? ⟨bb,10,none⟩=some (.slice none 0 0):=by
  rw [cob H10.out 10,List.getElem?_toArray,List.getElem?_map,List.getElem?_range (by decide),← (HBG.out.nil 10 (HBG.out.unused 10 rfl))];rfl
 go_wp2_with fail
 refine (flatNil_Exprs _).mono ?_
 rintro e w11 ⟨rfl,hb11⟩
 have H11:=Hd ((hb11.block bb hlt10).trans H10.out)
 have hbel11:=hbel10.trans (hb11.mono (Nat.le_trans hB hbel10.size))
 have HAP11:=Hd (show ∀ b,b<w.heap.size→¬ ofRows K2 R2 b→¬ ofRows K5 R5 b→¬ ofRows K6 R6 b→¬ ofRows K20 R20 b→¬ ofRows K21 R21 b→w11.heap[b]?=w.heap[b]? from fun b hb g2 g5 g6 g20 g21=>(hb11.block b (Nat.lt_of_lt_of_le hb hbel10.size)).trans (HAP10.out b hb g2 g5 g6 g20 g21))
 have HL20_11:=Hd (own_below HL20_10.out hb11 (nlr _))
 have HR20_11:=Hd (show RowsAt B 55 9 K20 R20 n20 C20 w11 from fun j hj=>own_below (HR20_10.out j hj) hb11 (nlr _))
 have HL21_11:=Hd (own_below HL21_10.out hb11 (nlr _))
 have HR21_11:=Hd (show RowsAt B 27 12 K21 R21 n21 C21 w11 from fun j hj=>own_below (HR21_10.out j hj) hb11 (nlr _))
 have hlt11:=(Array.getElem?_eq_some_iff.1 H11.out).1
 clear c10 HAP10
 clear HL20_10 HR20_10
 clear HL21_10 HR21_10
 have c11:w11.cell? ⟨bb,11,none⟩=some (.slice none 0 0):=by
  rw [cob H11.out 11,List.getElem?_toArray,List.getElem?_map,List.getElem?_range (by decide),← (HBG.out.nil 11 (HBG.out.unused 11 rfl))];rfl
 go_wp2_with fail
 refine (flatNil_Args _).mono ?_
 rintro e w12 ⟨rfl,hb12⟩
 have H12:=Hd ((hb12.block bb hlt11).trans H11.out)
 have hbel12:=hbel11.trans (hb12.mono (Nat.le_trans hB hbel11.size))
 have HAP12:=Hd (show ∀ b,b<w.heap.size→¬ ofRows K2 R2 b→¬ ofRows K5 R5 b→¬ ofRows K6 R6 b→¬ ofRows K20 R20 b→¬ ofRows K21 R21 b→w12.heap[b]?=w.heap[b]? from fun b hb g2 g5 g6 g20 g21=>(hb12.block b (Nat.lt_of_lt_of_le hb hbel11.size)).trans (HAP11.out b hb g2 g5 g6 g20 g21))
 have HL20_12:=Hd (own_below HL20_11.out hb12 (nlr _))
 have HR20_12:=Hd (show RowsAt B 55 9 K20 R20 n20 C20 w12 from fun j hj=>own_below (HR20_11.out j hj) hb12 (nlr _))
 have HL21_12:=Hd (own_below HL21_11.out hb12 (nlr _))
 have HR21_12:=Hd (show RowsAt B 27 12 K21 R21 n21 C21 w12 from fun j hj=>own_below (HR21_11.out j hj) hb12 (nlr _))
 have hlt12:=(Array.getElem?_eq_some_iff.1 H12.out).1
 clear c11 HAP11
 clear HL20_11 HR20_11
 clear HL21_11 HR21_11
 have c12:w12.cell? ⟨bb,12,none⟩=some (.slice none 0 0):=by
  rw [cob H12.out 12,List.getElem?_toArray,List.getElem?_map,List.getElem?_range (by decide),← (HBG.out.nil 12 (HBG.out.unused 12 rfl))];rfl
 go_wp2_with fail
 refine (flatNil_Conds _).mono ?_
 rintro e w13 ⟨rfl,hb13⟩
 have H13:=Hd ((hb13.block bb hlt12).trans H12.out)
 have hbel13:=hbel12.trans (hb13.mono (Nat.le_trans hB hbel12.size))
 have HAP13:=Hd (show ∀ b,b<w.heap.size→¬ ofRows K2 R2 b→¬ ofRows K5 R5 b→¬ ofRows K6 R6 b→¬ ofRows K20 R20 b→¬ ofRows K21 R21 b→w13.heap[b]?=w.heap[b]? from fun b hb g2 g5 g6 g20 g21=>(hb13.block b (Nat.lt_of_lt_of_le hb hbel12.size)).trans (HAP12.out b hb g2 g5 g6 g20 g21))
 have HL20_13:=Hd (own_below HL20_12.out hb13 (nlr _))
 have HR20_13:=Hd (show RowsAt B 55 9 K20 R20 n20 C20 w13 from fun j hj=>own_below (HR20_12.out j hj) hb13 (nlr _))
 have HL21_13:=Hd (own_below HL21_12.out hb13 (nlr _))
 have HR21_13:=Hd (show RowsAt B 27 12 K21 R21 n21 C21 w13 from fun j hj=>own_below (HR21_12.out j hj) hb13 (nlr _))
 have hlt13:=(Array.getElem?_eq_some_iff.1 H13.out).1
 clear c12 HAP12
 clear HL20_12 HR20_12
 clear HL21_12 HR21_12
 have c13:w13.cell? ⟨bb,13,none⟩=some (.slice none 0 0):=by
  rw [cob H13.out 13,List.getElem?_toArray,List.getElem?_map,List.getElem?_range (by decide),← (HBG.out.nil 13 (HBG.out.unused 13 rfl))];rfl
 go_wp2_with fail
 refine (flatNil_Acts _).mono ?_
 rintro e w14 ⟨rfl,hb14⟩
 have H14:=Hd ((hb14.block bb hlt13).trans H13.out)
 have hbel14:=hbel13.trans (hb14.mono (Nat.le_trans hB hbel13.size))
 have HAP14:=Hd (show ∀ b,b<w.heap.size→¬ ofRows K2 R2 b→¬ ofRows K5 R5 b→¬ ofRows K6 R6 b→¬ ofRows K20 R20 b→¬ ofRows K21 R21 b→w14.heap[b]?=w.heap[b]? from fun b hb g2 g5 g6 g20 g21=>(hb14.block b (Nat.lt_of_lt_of_le hb hbel13.size)).trans (HAP13.out b hb g2 g5 g6 g20 g21))
 have HL20_14:=Hd (own_below HL20_13.out hb14 (nlr _))
 have HR20_14:=Hd (show RowsAt B 55 9 K20 R20 n20 C20 w14 from fun j hj=>own_below (HR20_13.out j hj) hb14 (nlr _))
 have HL21_14:=Hd (own_below HL21_13.out hb14 (nlr _))
 have HR21_14:=Hd (show RowsAt B 27 12 K21 R21 n21 C21 w14 from fun j hj=>own_below (HR21_13.out j hj) hb14 (nlr _))
 have hlt14:=(Array.getElem?_eq_some_iff.1 H14.out).1
 clear c13 HAP13
 clear HL20_13 HR20_13
 clear HL21_13 HR21_13
 have c14:w14.cell? ⟨bb,14,none⟩=some (.slice none 0 0):=by
  rw [cob H14.out 14,List.getElem?_toArray,List.getElem?_map,List.getElem?_range (by decide),← (HBG.out.nil 14 (HBG.out.unused 14 rfl))];rfl
 go_wp2_with fail
 refine (flatNil_Types _).mono ?_
 rintro e w15 ⟨rfl,hb15⟩
 have H15:=Hd ((hb15.block bb hlt14).trans H14.out)
 have hbel15:=hbel14.trans (hb15.mono (Nat.le_trans hB hbel14.size))
 have HAP15:=Hd (show ∀ b,b<w.heap.size→¬ ofRows K2 R2 b→¬ ofRows K5 R5 b→¬ ofRows K6 R6 b→¬ ofRows K20 R20 b→¬ ofRows K21 R21 b→w15.heap[b]?=w.heap[b]? from fun b hb g2 g5 g6 g20 g21=>(hb15.block b (Nat.lt_of_lt_of_le hb hbel14.size)).trans (HAP14.out b hb g2 g5 g6 g20 g21))
 have HL20_15:=Hd (own_below HL20_14.out hb15 (nlr _))
 have HR20_15:=Hd (show RowsAt B 55 9 K20 R20 n20 C20 w15 from fun j hj=>own_below (HR20_14.out j hj) hb15 (nlr _))
 have HL21_15:=Hd (own_below HL21_14.out hb15 (nlr _))
 have HR21_15:=Hd (show RowsAt B 27 12 K21 R21 n21 C21 w15 from fun j hj=>own_below (HR21_14.out j hj) hb15 (nlr _))
 have hlt15:=(Array.getElem?_eq_some_iff.1 H15.out).1
 clear c14 HAP14
 clear HL20_14 HR20_14
 clear HL21_14 HR21_14
 have c15:w15.cell? ⟨bb,15,none⟩=some (.slice none 0 0):=by
  rw [cob H15.out 15,List.getElem?_toArray,List.getElem?_map,List.getElem?_range (by decide),← (HBG.out.nil 15 (HBG.out.unused 15 rfl))];rfl
 go_wp2_with fail
 refine (flatNil_RuleRow _).mono ?_
 rintro e w16 ⟨rfl,hb16⟩
 have H16:=Hd ((hb16.block bb hlt15).trans H15.out)
 have hbel16:=hbel15.trans (hb16.mono (Nat.le_trans hB hbel15.size))
 have HAP16:=Hd (show ∀ b,b<w.heap.size→¬ ofRows K2 R2 b→¬ ofRows K5 R5 b→¬ ofRows K6 R6 b→¬ ofRows K20 R20 b→¬ ofRows K21 R21 b→w16.heap[b]?=w.heap[b]? from fun b hb g2 g5 g6 g20 g21=>(hb16.block b (Nat.lt_of_lt_of_le hb hbel15.size)).trans (HAP15.out b hb g2 g5 g6 g20 g21))
 have HL20_16:=Hd (own_below HL20_15.out hb16 (nlr _))
 have HR20_16:=Hd (show RowsAt B 55 9 K20 R20 n20 C20 w16 from fun j hj=>own_below (HR20_15.out j hj) hb16 (nlr _))
 have HL21_16:=Hd (own_below HL21_15.out hb16 (nlr _))
 have HR21_16:=Hd (show RowsAt B 27 12 K21 R21 n21 C21 w16 from fun j hj=>own_below (HR21_15.out j hj) hb16 (nlr _))
 have hlt16:=(Array.getElem?_eq_some_iff.1 H16.out).1
 clear c15 HAP15
 clear HL20_15 HR20_15
 clear HL21_15 HR21_15
 have c16:w16.cell? ⟨bb,16,none⟩=some (.slice none 0 0):=by
  rw [cob H16.out 16,List.getElem?_toArray,List.getElem?_map,List.getElem?_range (by decide),← (HBG.out.nil 16 (HBG.out.unused 16 rfl))];rfl
 go_wp2_with fail
 refine (flatNil_RulesRow _).mono ?_
 rintro e w17 ⟨rfl,hb17⟩
 have H17:=Hd ((hb17.block bb hlt16).trans H16.out)
 have hbel17:=hbel16.trans (hb17.mono (Nat.le_trans hB hbel16.size))
 have HAP17:=Hd (show ∀ b,b<w.heap.size→¬ ofRows K2 R2 b→¬ ofRows K5 R5 b→¬ ofRows K6 R6 b→¬ ofRows K20 R20 b→¬ ofRows K21 R21 b→w17.heap[b]?=w.heap[b]? from fun b hb g2 g5 g6 g20 g21=>(hb17.block b (Nat.lt_of_lt_of_le hb hbel16.size)).trans (HAP16.out b hb g2 g5 g6 g20 g21))
 have HL20_17:=Hd (own_below HL20_16.out hb17 (nlr _))
 have HR20_17:=Hd (show RowsAt B 55 9 K20 R20 n20 C20 w17 from fun j hj=>own_below (HR20_16.out j hj) hb17 (nlr _))
 have HL21_17:=Hd (own_below HL21_16.out hb17 (nlr _))
 have HR21_17:=Hd (show RowsAt B 27 12 K21 R21 n21 C21 w17 from fun j hj=>own_below (HR21_16.out j hj) hb17 (nlr _))
 have hlt17:=(Array.getElem?_eq_some_iff.1 H17.out).1
 clear c16 HAP16
 clear HL20_16 HR20_16
 clear HL21_16 HR21_16
 have c17:w17.cell? ⟨bb,17,none⟩=some (.slice none 0 0):=by
  rw [cob H17.out 17,List.getElem?_toArray,List.getElem?_map,List.getElem?_range (by decide),← (HBG.out.nil 17 (HBG.out.unused 17 rfl))];rfl
 go_wp2_with fail
 refine (flatNil_Tokens _).mono ?_
 rintro e w18 ⟨rfl,hb18⟩
 have H18:=Hd ((hb18.block bb hlt17).trans H17.out)
 have hbel18:=hbel17.trans (hb18.mono (Nat.le_trans hB hbel17.size))
 have HAP18:=Hd (show ∀ b,b<w.heap.size→¬ ofRows K2 R2 b→¬ ofRows K5 R5 b→¬ ofRows K6 R6 b→¬ ofRows K20 R20 b→¬ ofRows K21 R21 b→w18.heap[b]?=w.heap[b]? from fun b hb g2 g5 g6 g20 g21=>(hb18.block b (Nat.lt_of_lt_of_le hb hbel17.size)).trans (HAP17.out b hb g2 g5 g6 g20 g21))
 have HL20_18:=Hd (own_below HL20_17.out hb18 (nlr _))
 have HR20_18:=Hd (show RowsAt B 55 9 K20 R20 n20 C20 w18 from fun j hj=>own_below (HR20_17.out j hj) hb18 (nlr _))
 have HL21_18:=Hd (own_below HL21_17.out hb18 (nlr _))
 have HR21_18:=Hd (show RowsAt B 27 12 K21 R21 n21 C21 w18 from fun j hj=>own_below (HR21_17.out j hj) hb18 (nlr _))
 have hlt18:=(Array.getElem?_eq_some_iff.1 H18.out).1
 clear c17 HAP17
 clear HL20_17 HR20_17
 clear HL21_17 HR21_17
 have c18:w18.cell? ⟨bb,18,none⟩=some (.slice none 0 0):=by
  rw [cob H18.out 18,List.getElem?_toArray,List.getElem?_map,List.getElem?_range (by decide),← (HBG.out.nil 18 (HBG.out.unused 18 rfl))];rfl
 go_wp2_with fail
 refine (flatNil_Commands _).mono ?_
 rintro e w19 ⟨rfl,hb19⟩
 have H19:=Hd ((hb19.block bb hlt18).trans H18.out)
 have hbel19:=hbel18.trans (hb19.mono (Nat.le_trans hB hbel18.size))
 have HAP19:=Hd (show ∀ b,b<w.heap.size→¬ ofRows K2 R2 b→¬ ofRows K5 R5 b→¬ ofRows K6 R6 b→¬ ofRows K20 R20 b→¬ ofRows K21 R21 b→w19.heap[b]?=w.heap[b]? from fun b hb g2 g5 g6 g20 g21=>(hb19.block b (Nat.lt_of_lt_of_le hb hbel18.size)).trans (HAP18.out b hb g2 g5 g6 g20 g21))
 have HL20_19:=Hd (own_below HL20_18.out hb19 (nlr _))
 have HR20_19:=Hd (show RowsAt B 55 9 K20 R20 n20 C20 w19 from fun j hj=>own_below (HR20_18.out j hj) hb19 (nlr _))
 have HL21_19:=Hd (own_below HL21_18.out hb19 (nlr _))
 have HR21_19:=Hd (show RowsAt B 27 12 K21 R21 n21 C21 w19 from fun j hj=>own_below (HR21_18.out j hj) hb19 (nlr _))
 have hlt19:=(Array.getElem?_eq_some_iff.1 H19.out).1
 clear c18 HAP18
 clear HL20_18 HR20_18
 clear HL21_18 HR21_18
 have c19:w19.cell? ⟨bb,19,none⟩=some (.slice none 0 0):=by
  rw [cob H19.out 19,List.getElem?_toArray,List.getElem?_map,List.getElem?_range (by decide),← (HBG.out.nil 19 (HBG.out.unused 19 rfl))];rfl
 go_wp2_with fail
 refine (flatNil_Replies _).mono ?_
 rintro e w20 ⟨rfl,hb20⟩
 have H20:=Hd ((hb20.block bb hlt19).trans H19.out)
 have hbel20:=hbel19.trans (hb20.mono (Nat.le_trans hB hbel19.size))
 have HAP20:=Hd (show ∀ b,b<w.heap.size→¬ ofRows K2 R2 b→¬ ofRows K5 R5 b→¬ ofRows K6 R6 b→¬ ofRows K20 R20 b→¬ ofRows K21 R21 b→w20.heap[b]?=w.heap[b]? from fun b hb g2 g5 g6 g20 g21=>(hb20.block b (Nat.lt_of_lt_of_le hb hbel19.size)).trans (HAP19.out b hb g2 g5 g6 g20 g21))
 have HL20_20:=Hd (own_below HL20_19.out hb20 (nlr _))
 have HR20_20:=Hd (show RowsAt B 55 9 K20 R20 n20 C20 w20 from fun j hj=>own_below (HR20_19.out j hj) hb20 (nlr _))
 have HL21_20:=Hd (own_below HL21_19.out hb20 (nlr _))
 have HR21_20:=Hd (show RowsAt B 27 12 K21 R21 n21 C21 w20 from fun j hj=>own_below (HR21_19.out j hj) hb20 (nlr _))
 have hlt20:=(Array.getElem?_eq_some_iff.1 H20.out).1
 clear c19 HAP19
 clear HL20_19 HR20_19
 clear HL21_19 HR21_19
 have c20:w20.cell? ⟨bb,20,none⟩=some (.slice lo20 K20 lc20):=by
  rw [cob H20.out 20,List.getElem?_toArray,List.getElem?_map,List.getElem?_range (by decide),← HV20.out];rfl
 go_wp2_with fail
 refine (flatE_any B K20 lo20 lc20 R20 n20 C20 w20 HL20_20.out HR20_20.out HS20.out hK20 HN20.out (Nat.le_trans hB hbel20.size)).mono ?_
 rintro e w21 ⟨rfl,hk21⟩
 have H21:=Hd (hk21.other bb _ _ _ H20.out (by decide))
 have hbel21:=hbel20.trans hk21.below
 have HAP21:=Hd (show ∀ b,b<w.heap.size→¬ ofRows K2 R2 b→¬ ofRows K5 R5 b→¬ ofRows K6 R6 b→¬ ofRows K20 R20 b→¬ ofRows K21 R21 b→w21.heap[b]?=w.heap[b]? from fun b hb g2 g5 g6 g20 g21=>(hk21.apart b (Nat.lt_of_lt_of_le hb hbel20.size) g20).trans (HAP20.out b hb g2 g5 g6 g20 g21))
 have HL21_21:=Hd (hk21.own HL21_20.out (by decide))
 have HR21_21:=Hd (show RowsAt B 27 12 K21 R21 n21 C21 w21 from fun j hj=>hk21.own (HR21_20.out j hj) (by decide))
 have hlt21:=(Array.getElem?_eq_some_iff.1 H21.out).1
 clear c20 HAP20
 clear HL21_20 HR21_20
 have c21:w21.cell? ⟨bb,21,none⟩=some (.slice lo21 K21 lc21):=by
  rw [cob H21.out 21,List.getElem?_toArray,List.getElem?_map,List.getElem?_range (by decide),← HV21.out];rfl
 go_wp2_with fail
 refine (flatL_any B K21 lo21 lc21 R21 n21 C21 w21 HL21_21.out HR21_21.out HS21.out hK21 HN21.out (Nat.le_trans hB hbel21.size)).mono ?_
 rintro e w22 ⟨rfl,hk22⟩
 have H22:=Hd (hk22.other bb _ _ _ H21.out (by decide))
 have hbel22:=hbel21.trans hk22.below
 have HAP22:=Hd (show ∀ b,b<w.heap.size→¬ ofRows K2 R2 b→¬ ofRows K5 R5 b→¬ ofRows K6 R6 b→¬ ofRows K20 R20 b→¬ ofRows K21 R21 b→w22.heap[b]?=w.heap[b]? from fun b hb g2 g5 g6 g20 g21=>(hk22.apart b (Nat.lt_of_lt_of_le hb hbel21.size) g21).trans (HAP21.out b hb g2 g5 g6 g20 g21))
 have hlt22:=(Array.getElem?_eq_some_iff.1 H22.out).1
 clear c21 HAP21
 have c22:w22.cell? ⟨bb,22,none⟩=some (.slice none 0 0):=by
  rw [cob H22.out 22,List.getElem?_toArray,List.getElem?_map,List.getElem?_range (by decide),← (HBG.out.nil 22 (HBG.out.unused 22 rfl))];rfl
 go_wp2_with fail
 refine (flatNil_Snaps _).mono ?_
 rintro e w23 ⟨rfl,hb23⟩
 have H23:=Hd ((hb23.block bb hlt22).trans H22.out)
 have hbel23:=hbel22.trans (hb23.mono (Nat.le_trans hB hbel22.size))
 have HAP23:=Hd (show ∀ b,b<w.heap.size→¬ ofRows K2 R2 b→¬ ofRows K5 R5 b→¬ ofRows K6 R6 b→¬ ofRows K20 R20 b→¬ ofRows K21 R21 b→w23.heap[b]?=w.heap[b]? from fun b hb g2 g5 g6 g20 g21=>(hb23.block b (Nat.lt_of_lt_of_le hb hbel22.size)).trans (HAP22.out b hb g2 g5 g6 g20 g21))
 have hlt23:=(Array.getElem?_eq_some_iff.1 H23.out).1
 clear c22 HAP22
 have c23:w23.cell? ⟨bb,23,none⟩=some (.slice none 0 0):=by
  rw [cob H23.out 23,List.getElem?_toArray,List.getElem?_map,List.getElem?_range (by decide),← (HBG.out.nil 23 (HBG.out.unused 23 rfl))];rfl
 go_wp2_with fail
 refine (flatNil_Steps _).mono ?_
 rintro e w24 ⟨rfl,hb24⟩
 have H24:=Hd ((hb24.block bb hlt23).trans H23.out)
 have hbel24:=hbel23.trans (hb24.mono (Nat.le_trans hB hbel23.size))
 have HAP24:=Hd (show ∀ b,b<w.heap.size→¬ ofRows K2 R2 b→¬ ofRows K5 R5 b→¬ ofRows K6 R6 b→¬ ofRows K20 R20 b→¬ ofRows K21 R21 b→w24.heap[b]?=w.heap[b]? from fun b hb g2 g5 g6 g20 g21=>(hb24.block b (Nat.lt_of_lt_of_le hb hbel23.size)).trans (HAP23.out b hb g2 g5 g6 g20 g21))
 have hlt24:=(Array.getElem?_eq_some_iff.1 H24.out).1
 clear c23 HAP23
 have c24:w24.cell? ⟨bb,24,none⟩=some (.slice none 0 0):=by
  rw [cob H24.out 24,List.getElem?_toArray,List.getElem?_map,List.getElem?_range (by decide),← (HBG.out.nil 24 (HBG.out.unused 24 rfl))];rfl
 go_wp2_with fail
 refine (flatNil_Tales _).mono ?_
 rintro e w25 ⟨rfl,hb25⟩
 have H25:=Hd ((hb25.block bb hlt24).trans H24.out)
 have hbel25:=hbel24.trans (hb25.mono (Nat.le_trans hB hbel24.size))
 have HAP25:=Hd (show ∀ b,b<w.heap.size→¬ ofRows K2 R2 b→¬ ofRows K5 R5 b→¬ ofRows K6 R6 b→¬ ofRows K20 R20 b→¬ ofRows K21 R21 b→w25.heap[b]?=w.heap[b]? from fun b hb g2 g5 g6 g20 g21=>(hb25.block b (Nat.lt_of_lt_of_le hb hbel24.size)).trans (HAP24.out b hb g2 g5 g6 g20 g21))
 have hlt25:=(Array.getElem?_eq_some_iff.1 H25.out).1
 clear c24 HAP24
 have c25:w25.cell? ⟨bb,25,none⟩=some (.slice none 0 0):=by
  rw [cob H25.out 25,List.getElem?_toArray,List.getElem?_map,List.getElem?_range (by decide),← (HBG.out.nil 25 (HBG.out.unused 25 rfl))];rfl
 go_wp2_with fail
 refine (flatNil_States _).mono ?_
 rintro e w26 ⟨rfl,hb26⟩
 have H26:=Hd ((hb26.block bb hlt25).trans H25.out)
 have hbel26:=hbel25.trans (hb26.mono (Nat.le_trans hB hbel25.size))
 have HAP26:=Hd (show ∀ b,b<w.heap.size→¬ ofRows K2 R2 b→¬ ofRows K5 R5 b→¬ ofRows K6 R6 b→¬ ofRows K20 R20 b→¬ ofRows K21 R21 b→w26.heap[b]?=w.heap[b]? from fun b hb g2 g5 g6 g20 g21=>(hb26.block b (Nat.lt_of_lt_of_le hb hbel25.size)).trans (HAP25.out b hb g2 g5 g6 g20 g21))
 have hlt26:=(Array.getElem?_eq_some_iff.1 H26.out).1
 clear c25 HAP25
 have c26:w26.cell? ⟨bb,26,none⟩=some (.slice none 0 0):=by
  rw [cob H26.out 26,List.getElem?_toArray,List.getElem?_map,List.getElem?_range (by decide),← (HBG.out.nil 26 (HBG.out.unused 26 rfl))];rfl
 go_wp2_with fail
 refine (flatNil_Sessions _).mono ?_
 rintro e w27 ⟨rfl,hb27⟩
 have H27:=Hd ((hb27.block bb hlt26).trans H26.out)
 have hbel27:=hbel26.trans (hb27.mono (Nat.le_trans hB hbel26.size))
 have HAP27:=Hd (show ∀ b,b<w.heap.size→¬ ofRows K2 R2 b→¬ ofRows K5 R5 b→¬ ofRows K6 R6 b→¬ ofRows K20 R20 b→¬ ofRows K21 R21 b→w27.heap[b]?=w.heap[b]? from fun b hb g2 g5 g6 g20 g21=>(hb27.block b (Nat.lt_of_lt_of_le hb hbel26.size)).trans (HAP26.out b hb g2 g5 g6 g20 g21))
 have hlt27:=(Array.getElem?_eq_some_iff.1 H27.out).1
 clear c26 HAP26
 have c27:w27.cell? ⟨bb,27,none⟩=some (.slice none 0 0):=by
  rw [cob H27.out 27,List.getElem?_toArray,List.getElem?_map,List.getElem?_range (by decide),← (HBG.out.nil 27 (HBG.out.unused 27 rfl))];rfl
 go_wp2_with fail
 refine (flatNil_Machines _).mono ?_
 rintro e w28 ⟨rfl,hb28⟩
 have H28:=Hd ((hb28.block bb hlt27).trans H27.out)
 have hbel28:=hbel27.trans (hb28.mono (Nat.le_trans hB hbel27.size))
 have HAP28:=Hd (show ∀ b,b<w.heap.size→¬ ofRows K2 R2 b→¬ ofRows K5 R5 b→¬ ofRows K6 R6 b→¬ ofRows K20 R20 b→¬ ofRows K21 R21 b→w28.heap[b]?=w.heap[b]? from fun b hb g2 g5 g6 g20 g21=>(hb28.block b (Nat.lt_of_lt_of_le hb hbel27.size)).trans (HAP27.out b hb g2 g5 g6 g20 g21))
 have hlt28:=(Array.getElem?_eq_some_iff.1 H28.out).1
 clear c27 HAP27
 have c28:w28.cell? ⟨bb,28,none⟩=some (.slice none 0 0):=by
  rw [cob H28.out 28,List.getElem?_toArray,List.getElem?_map,List.getElem?_range (by decide),← (HBG.out.nil 28 (HBG.out.unused 28 rfl))];rfl
 go_wp2_with fail
 refine (flatNil_Frames _).mono ?_
 rintro e w29 ⟨rfl,hb29⟩
 have H29:=Hd ((hb29.block bb hlt28).trans H28.out)
 have hbel29:=hbel28.trans (hb29.mono (Nat.le_trans hB hbel28.size))
 have HAP29:=Hd (show ∀ b,b<w.heap.size→¬ ofRows K2 R2 b→¬ ofRows K5 R5 b→¬ ofRows K6 R6 b→¬ ofRows K20 R20 b→¬ ofRows K21 R21 b→w29.heap[b]?=w.heap[b]? from fun b hb g2 g5 g6 g20 g21=>(hb29.block b (Nat.lt_of_lt_of_le hb hbel28.size)).trans (HAP28.out b hb g2 g5 g6 g20 g21))
 have hlt29:=(Array.getElem?_eq_some_iff.1 H29.out).1
 clear c28 HAP28
 go_wp2_with fail
 go_ret
 exact ⟨rfl,hbel29,HAP29.out⟩
end Go.Proofs.YtglgcjkglhlggaaGreatDoor
