/- Entry of wire: the bytes of a form. Conditions: what is written is not too long. -/
import Derived.Test.YtnfldkebjeigiaaDoorWStr2
namespace Go.Proofs.YtnfldkebjeigiaaDoor
open Go.RowKit
set_option maxRecDepth 20000

set_option maxHeartbeats 2000000 in
theorem wentry_any (tm kd ss sq ck : Int) (text : ByteArray) (ao : Option Addr) (n cap : Nat) (args : List Va) (num : Int) (vo : Option Addr) (m vcap : Nat) (vs : List Int) (w : World) (hn : args.length = n) (hm : vs.length = m) (hx : ValsIn w w.heap.size ao args) (hs : NumsIn w w.heap.size vo vs)
    (htx : ∀ v ∈ args, v.text.size ≤ 1099511627776) (hnl : n ≤ 1099511627776) (hml : m ≤ 1000000000) (hlim : text.size + (valuesB args).length + 100 ≤ 10000000000) :
    Calls Tryd.prog 10 #[.agg #[.int .i64 tm, .int .u8 kd, .int .i64 ss, .int .i64 sq, .int .u8 ck, .string text, .slice ao n cap, .int .i64 num, .slice vo m vcap]] w (BytesNew (entryB ⟨tm, kd, ss, sq, ck, text, args, num, vs⟩) w.heap.size w) := by
  have hst := Wrote.start (buf_new (w.alloc (.cells #[.int .i64 tm, .int .u8 kd, .int .i64 ss, .int .i64 sq, .int .u8 ck, .string text, .slice ao n cap, .int .i64 num, .slice vo m vcap] 38)))
  have hb := ((Below.refl w.heap.size w).alloc (Nat.le_refl _) (.cells #[.int .i64 tm, .int .u8 kd, .int .i64 ss, .int .i64 sq, .int .u8 ck, .string text, .slice ao n cap, .int .i64 num, .slice vo m vcap] 38)).alloc (by simp) (.cells #[.slice none 0 0, .int .i64 0, .int .i8 0] 85)
  have hk := heap_alloc_keep (heap_alloc_new w (.cells #[.int .i64 tm, .int .u8 kd, .int .i64 ss, .int .i64 sq, .int .u8 ck, .string text, .slice ao n cap, .int .i64 num, .slice vo m vcap] 38)) (.cells #[.slice none 0 0, .int .i64 0, .int .i8 0] 85)
  have hsz : (w.alloc (.cells #[.int .i64 tm, .int .u8 kd, .int .i64 ss, .int .i64 sq, .int .u8 ck, .string text, .slice ao n cap, .int .i64 num, .slice vo m vcap] 38)).heap.size = w.heap.size + 1 := by simp
  have hs0 : ((w.alloc (.cells #[.int .i64 tm, .int .u8 kd, .int .i64 ss, .int .i64 sq, .int .u8 ck, .string text, .slice ao n cap, .int .i64 num, .slice vo m vcap] 38)).alloc (.cells #[.slice none 0 0, .int .i64 0, .int .i8 0] 85)).heap.size = w.heap.size + 2 := by simp
  rw [hsz] at hst
  have HX := Lib.hid hx
  have HS := Lib.hid hs
  have HN := Lib.hid hn
  have HM := Lib.hid hm
  have HTX := Lib.hid htx
  have HST := Lib.hid hst
  have HB := Lib.hid hb
  have HK := Lib.hid hk
  have HS0 := Lib.hid hs0
  clear hst hb hk hsz hs0 hx hs hn hm htx
  go_enter Tryd.func10, Tryd.ntmps10
  go_wp2_with fail
  have hst := HST.out
  have hb := HB.out
  have hk := HK.out
  have hs0 := HS0.out
  generalize ((w.alloc (.cells #[.int .i64 tm, .int .u8 kd, .int .i64 ss, .int .i64 sq, .int .u8 ck, .string text, .slice ao n cap, .int .i64 num, .slice vo m vcap] 38)).alloc (.cells #[.slice none 0 0, .int .i64 0, .int .i8 0] 85)) = w0 at hst hb hk hs0 ⊢
  clear HST HB HK HS0
  have HX := Lib.hid ((HX.out.below noSub_kept hb (Nat.le_refl _)).mono noSub_rising (Nat.le_succ _))
  have HS := Lib.hid ((HS.out.below noSub_kept hb (Nat.le_refl _)).mono noSub_rising (Nat.le_succ _))
  have HK := Lib.hid hk
  have hB0 : w.heap.size + 1 ≤ w0.heap.size := by omega
  refine (put1_any (w.heap.size + 1) (w.heap.size + 1) 8 _ [] tm w0 (by simp [hs0]) (by omega) (by omega) hst.1 (by omega) (by simp)).mono ?_
  rintro e w1 ⟨rfl, hw⟩
  rw [List.nil_append] at hw
  have hk1 := hw.sits hk (by omega) (by decide)
  have d1 : w1.cell? ⟨w.heap.size, 1, none⟩ = some (.int .u8 kd) := Go.Joins.cell_of_block hk1 1
  have H1 := Lib.hid hw
  have HK1 := Lib.hid hk1
  clear hw hk1 hk hst
  go_wp2_with fail
  refine (writeByte_any (w.heap.size + 1) (w.heap.size + 1) _ kd w1 H1.out.1 (Nat.le_trans hB0 H1.out.2.1.size) (by simp only [numB_len]; omega)).mono ?_
  rintro e w2 ⟨rfl, hw⟩
  have hk2 := hw.sits HK1.out (by omega) (by decide)
  have d2 : w2.cell? ⟨w.heap.size, 2, none⟩ = some (.int .i64 ss) := Go.Joins.cell_of_block hk2 2
  have d3 : w2.cell? ⟨w.heap.size, 3, none⟩ = some (.int .i64 sq) := Go.Joins.cell_of_block hk2 3
  have H2 := Lib.hid (H1.out.trans hw)
  have HK2 := Lib.hid hk2
  clear hw hk2 HK1 H1 d1
  go_wp2_with fail
  refine (put2_any (w.heap.size + 1) (w.heap.size + 1) 8 _ _ ss sq w2 rfl (by omega) (by omega) H2.out.1 (Nat.le_trans hB0 H2.out.2.1.size) (by simp only [List.length_append, List.length_singleton, numB_len]; omega)).mono ?_
  rintro e w3 ⟨rfl, hw⟩
  have hk3 := hw.sits HK2.out (by omega) (by decide)
  have d4 : w3.cell? ⟨w.heap.size, 4, none⟩ = some (.int .u8 ck) := Go.Joins.cell_of_block hk3 4
  have d5 : w3.cell? ⟨w.heap.size, 4 + 1, none⟩ = some (.string text) := Go.Joins.cell_of_block hk3 5
  have d6 : w3.cell? ⟨w.heap.size, 4 + 2, none⟩ = some (.slice ao n cap) := Go.Joins.cell_of_block hk3 6
  have d7 : w3.cell? ⟨w.heap.size, 4 + 3, none⟩ = some (.int .i64 num) := Go.Joins.cell_of_block hk3 7
  have d5' : w3.cell? ⟨w.heap.size, 5, none⟩ = some (.string text) := d5
  have d6' : w3.cell? ⟨w.heap.size, 6, none⟩ = some (.slice ao n cap) := d6
  have d7' : w3.cell? ⟨w.heap.size, 7, none⟩ = some (.int .i64 num) := d7
  have H3 := Lib.hid (H2.out.trans hw)
  have HK3 := Lib.hid hk3
  clear hw hk3 HK2 H2 d2 d3
  go_wp2_with fail
  refine (command_any (w.heap.size + 1) (w.heap.size + 1) _ ck text ao n cap num args w3 HN.out (HX.out.below noSub_kept H3.out.2.1 (Nat.le_refl _)) HTX.out H3.out.1 (Nat.le_trans hB0 H3.out.2.1.size) hnl (by simp only [List.length_append, List.length_singleton, numB_len]; omega)).mono ?_
  rintro e w4 ⟨rfl, hw⟩
  have hk4 := hw.sits HK3.out (by omega) (by decide)
  have d8 : w4.cell? ⟨w.heap.size, 8, none⟩ = some (.slice vo m vcap) := Go.Joins.cell_of_block hk4 8
  have H4 := Lib.hid (H3.out.trans hw)
  have HK4 := Lib.hid hk4
  clear hw hk4 HK3 H3 d4 d5 d6 d7 d5' d6' d7'
  go_wp2_with fail
  refine (count_any (w.heap.size + 1) (w.heap.size + 1) _ m w4 H4.out.1 (Nat.le_trans hB0 H4.out.2.1.size) (by simp only [List.length_append, List.length_singleton, numB_len, commandB_len]; omega)).mono ?_
  rintro e w5 ⟨rfl, hw⟩
  have hk5 := hw.sits HK4.out (by omega) (by decide)
  have d8 : w5.cell? ⟨w.heap.size, 8, none⟩ = some (.slice vo m vcap) := Go.Joins.cell_of_block hk5 8
  have hw5 := H4.out.trans hw
  have hbs : numB 8 tm ++ [kd] ++ (numB 8 ss ++ numB 8 sq) ++ commandB ck text num args ++ numB 4 m = numB 8 tm ++ (kd :: (numB 8 ss ++ (numB 8 sq ++ (commandB ck text num args ++ numB 4 m)))) := by simp
  rw [hbs] at hw5
  obtain ⟨P, hP⟩ : ∃ P, numB 8 tm ++ (kd :: (numB 8 ss ++ (numB 8 sq ++ (commandB ck text num args ++ numB 4 m)))) = P := ⟨_, rfl⟩
  have hpl : P.length = 42 + text.size + (valuesB args).length := by rw [← hP]; simp only [List.length_append, List.length_cons, numB_len, commandB_len]; omega
  rw [hP] at hw5
  have H5 := Lib.hid hw5
  have HP := Lib.hid hP
  clear hw hw5 hk5 HK4 H4 hbs hP HX HTX
  go_wp2_with fail
  go_loopw [30] (fun i wr => ∃ k : Nat, k ≤ m ∧ i = .int .i64 k ∧ Wrote (w.heap.size + 1) (w.heap.size + 1) (P ++ (vs.take k).flatMap (numB 8)) w0 wr) (fun i _ => m - (intOf i).toNat)
  case atStart => exact ⟨0, by omega, rfl, by simpa using H5.out⟩
  case round =>
    clear H5 d8
    obtain ⟨k, hk, rfl, hw⟩ := hrel
    have HW := Lib.hid hw
    clear hw
    have hlk : ((vs.take k).flatMap (numB 8)).length ≤ 8000000000 := by
      rw [flatN_len, List.length_take]
      have : min k vs.length ≤ 1000000000 := by omega
      omega
    by_cases hlt : k < m
    · have hkx : vs[k]? = some (vs[k]'(by rw [HM.out]; exact hlt)) := List.getElem?_eq_getElem _
      obtain ⟨rb, off, hao, hbb, hc, _⟩ := HS.out.at hkx
      have htk : (vs.take (k + 1)).flatMap (numB 8) = (vs.take k).flatMap (numB 8) ++ numB 8 (vs[k]'(by rw [HM.out]; exact hlt)) := by
        rw [List.take_succ_eq_append_getElem (by rw [HM.out]; exact hlt), List.flatMap_append]; simp
      generalize vs[k]'(by rw [HM.out]; exact hlt) = x at hc htk hkx
      have hbel := HW.out.2.1
      have c0 : wr.cell? ⟨rb, off + k * 1, none⟩ = some (.int .i64 x) := (hbel.cell (p := ⟨rb, _, none⟩) hbb).trans (hc 0 (by decide))
      have c0' : wr.cell? ⟨rb, off + k, none⟩ = some (.int .i64 x) := by simpa using c0
      have HT := Lib.hid htk
      have i1 : (k : Int) < m := by omega
      subst hao
      clear hc htk hkx hbel
      go_wp2_with fail
      refine (put1_any (w.heap.size + 1) (w.heap.size + 1) 8 _ _ x wr rfl (by omega) (by omega) HW.out.1 (Nat.le_trans hB0 HW.out.2.1.size) (by simp only [List.length_append]; omega)).mono ?_
      rintro e w3 ⟨rfl, hw3⟩
      have hw4 := HW.out.trans hw3
      rw [List.append_assoc, ← HT.out] at hw4
      have HW4 := Lib.hid hw4
      clear hw3 hw4 c0 c0'
      go_wp2_with fail
      go_roundw
      case rel => exact ⟨k + 1, by omega, by go_num, HW4.out⟩
      case measure => simp [intOf]; omega
    · obtain rfl : k = m := by omega
      have hw5 := HW.out
      rw [List.take_of_length_le (l := vs) (by rw [HM.out]; exact Nat.le_refl _)] at hw5
      have hlv : (vs.flatMap (numB 8)).length ≤ 8000000000 := by rw [flatN_len, HM.out]; omega
      have hbs : P ++ vs.flatMap (numB 8) = entryB ⟨tm, kd, ss, sq, ck, text, args, num, vs⟩ := by rw [← HP.out, ← HM.out]; simp [entryB]
      have hbl : (entryB ⟨tm, kd, ss, sq, ck, text, args, num, vs⟩).length ≤ 30000000000 := by rw [← hbs, List.length_append]; omega
      rw [hbs] at hw5
      have HW5 := Lib.hid hw5
      have hb6 := hb.trans (hw5.2.1.mono (Nat.le_succ _))
      have hs6 : w.heap.size + 1 ≤ wr.heap.size := by have := hw5.2.1.size; omega
      clear hw5 HW hbs
      go_wp2_with fail
      refine (told_any (w.heap.size + 1) (w.heap.size + 1) _ wr HW5.out.1 hs6 (by omega)).mono ?_
      rintro e w8 ⟨a, c, rfl, ho, hb2⟩
      have HO := Lib.hid (Go.Joins.ownsRow_le ho hb6.size)
      have hb9 := hb6.trans (hb2.mono hb6.size)
      clear ho hb2
      go_wp2_with fail
      go_ret
      exact ⟨a, c, rfl, HO.out, hb9⟩
end Go.Proofs.YtnfldkebjeigiaaDoor
