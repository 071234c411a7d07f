/- Fact, Command of wire: the bytes of a form. Conditions: what is written is not too long. -/
import Derived.Test.YtnfldkebjeigiaaDoorWStr
namespace Go.Proofs.YtnfldkebjeigiaaDoor
open Go.RowKit
set_option maxRecDepth 20000

/-- A block that lay under the writer's. -/
theorem heap_alloc_keep {w : World} {g : Nat} {x : Obj} (h : w.heap[g]? = some x) (o : Obj) : (w.alloc o).heap[g]? = some x :=
  ((World.grownBy_alloc w o none).block g (Array.getElem?_eq_some_iff.1 h).1 (by simp)).trans h
set_option maxHeartbeats 1000000 in
theorem wfact_any (id ty : Int) (ao : Option Addr) (n cap : Nat) (args : List Va) (w : World) (hn : args.length = n) (hx : ValsIn w w.heap.size ao args) (htx : ∀ v ∈ args, v.text.size ≤ 1099511627776) (hnl : n ≤ 1099511627776) (hlim : (valuesB args).length + 20 ≤ 100000000000) :
    Calls Tryd.prog 16 #[.agg #[.int .i64 id, .int .i64 ty, .slice ao n cap]] w (BytesNew (factB ⟨id, ty, args⟩) w.heap.size w) := by
  have hfl : (factB ⟨id, ty, args⟩).length = 16 + (valuesB args).length := by simp only [factB, List.length_append, numB_len]; omega
  have H := Lib.hid (buf_new (w.alloc (.cells #[.int .i64 id, .int .i64 ty, .slice ao n cap] 27)))
  have hb := ((Below.refl w.heap.size w).alloc (Nat.le_refl _) (.cells #[.int .i64 id, .int .i64 ty, .slice ao n cap] 27)).alloc (by simp) (.cells #[.slice none 0 0, .int .i64 0, .int .i8 0] 85)
  have HB := Lib.hid hb
  have hsz : (w.alloc (.cells #[.int .i64 id, .int .i64 ty, .slice ao n cap] 27)).heap.size = w.heap.size + 1 := by simp
  rw [hsz] at H
  have HX := Lib.hid hx
  have HN := Lib.hid hn
  have HTX := Lib.hid htx
  have HFL := Lib.hid hfl
  clear hb hsz hx hn htx hfl
  go_enter Tryd.func16, Tryd.ntmps16
  go_wp2_with fail
  refine (fact_any (w.heap.size + 1) (w.heap.size + 1) [] id ty ao n cap args _ HN.out ((HX.out.below noSub_kept HB.out (Nat.le_refl _)).mono noSub_rising (Nat.le_succ _)) HTX.out H.out (by simp) hnl (by simp; omega)).mono ?_
  rintro e w1 ⟨rfl, hw⟩
  rw [List.nil_append] at hw
  have HW := Lib.hid hw
  have hb1 := HB.out.trans (hw.2.1.mono (Nat.le_succ _))
  have hs1 : w.heap.size + 1 ≤ w1.heap.size := by have := hw.2.1.size; simp at this; omega
  clear hw
  go_wp2_with fail
  refine (told_any (w.heap.size + 1) (w.heap.size + 1) _ w1 HW.out.1 hs1 (by have := HFL.out; omega)).mono ?_
  rintro e w2 ⟨a, c, rfl, ho, hb2⟩
  have HO := Lib.hid (Go.Joins.ownsRow_le ho hb1.size)
  have hb3 := hb1.trans (hb2.mono hb1.size)
  clear ho hb1 hb2
  go_wp2_with fail
  go_ret
  exact ⟨a, c, rfl, HO.out, hb3⟩
theorem wtext_any (s : ByteArray) (w : World) (hl : s.size ≤ 1099511627776) :
    Calls Tryd.prog 12 #[.string s] w (BytesNew (textB s) w.heap.size w) := by
  have H := Lib.hid (buf_new w)
  have hb := (Below.refl w.heap.size w).alloc (Nat.le_refl _) (.cells #[.slice none 0 0, .int .i64 0, .int .i8 0] 85)
  have HB := Lib.hid hb
  clear hb
  go_enter Tryd.func12, Tryd.ntmps12
  go_wp2_with fail
  refine (text_any w.heap.size w.heap.size [] s _ H.out (by simp) (by simp; omega)).mono ?_
  rintro e w1 ⟨rfl, hw⟩
  rw [List.nil_append] at hw
  have HW := Lib.hid hw
  have hb1 := HB.out.trans hw.2.1
  clear hw
  go_wp2_with fail
  refine (told_any w.heap.size w.heap.size _ w1 HW.out.1 hb1.size (by rw [textB_len]; omega)).mono ?_
  rintro e w2 ⟨a, c, rfl, ho, hb2⟩
  have HO := Lib.hid (Go.Joins.ownsRow_le ho hb1.size)
  have hb3 := hb1.trans (hb2.mono hb1.size)
  clear ho hb1 hb2
  go_wp2_with fail
  go_ret
  exact ⟨a, c, rfl, HO.out, hb3⟩
theorem commandB_len (ck : Int) (text : ByteArray) (num : Int) (args : List Va) : (commandB ck text num args).length = 13 + text.size + (valuesB args).length := by
  simp only [commandB, List.length_append, List.length_cons, numB_len, textB_len]; omega
set_option maxHeartbeats 1000000 in
theorem wcommand_any (ck : Int) (text : ByteArray) (ao : Option Addr) (n cap : Nat) (num : Int) (args : List Va) (w : World) (hn : args.length = n) (hx : ValsIn w w.heap.size ao args) (htx : ∀ v ∈ args, v.text.size ≤ 1099511627776) (hnl : n ≤ 1099511627776) (hlim : text.size + (valuesB args).length + 40 ≤ 100000000000) :
    Calls Tryd.prog 17 #[.agg #[.int .u8 ck, .string text, .slice ao n cap, .int .i64 num]] w (BytesNew (commandB ck text num args) w.heap.size w) := by
  have hfl := commandB_len ck text num args
  have H := Lib.hid (buf_new (w.alloc (.cells #[.int .u8 ck, .string text, .slice ao n cap, .int .i64 num] 30)))
  have hb := ((Below.refl w.heap.size w).alloc (Nat.le_refl _) (.cells #[.int .u8 ck, .string text, .slice ao n cap, .int .i64 num] 30)).alloc (by simp) (.cells #[.slice none 0 0, .int .i64 0, .int .i8 0] 85)
  have HB := Lib.hid hb
  have hsz : (w.alloc (.cells #[.int .u8 ck, .string text, .slice ao n cap, .int .i64 num] 30)).heap.size = w.heap.size + 1 := by simp
  rw [hsz] at H
  have HX := Lib.hid hx
  have HN := Lib.hid hn
  have HTX := Lib.hid htx
  have HFL := Lib.hid hfl
  clear hb hsz hx hn htx hfl
  go_enter Tryd.func17, Tryd.ntmps17
  go_wp2_with fail
  refine (command_any (w.heap.size + 1) (w.heap.size + 1) [] ck text ao n cap num args _ HN.out ((HX.out.below noSub_kept HB.out (Nat.le_refl _)).mono noSub_rising (Nat.le_succ _)) HTX.out H.out (by simp) hnl (by simp; omega)).mono ?_
  rintro e w1 ⟨rfl, hw⟩
  rw [List.nil_append] at hw
  have HW := Lib.hid hw
  have hb1 := HB.out.trans (hw.2.1.mono (Nat.le_succ _))
  have hs1 : w.heap.size + 1 ≤ w1.heap.size := by have := hw.2.1.size; simp at this; omega
  clear hw
  go_wp2_with fail
  refine (told_any (w.heap.size + 1) (w.heap.size + 1) _ w1 HW.out.1 hs1 (by have := HFL.out; omega)).mono ?_
  rintro e w2 ⟨a, c, rfl, ho, hb2⟩
  have HO := Lib.hid (Go.Joins.ownsRow_le ho hb1.size)
  have hb3 := hb1.trans (hb2.mono hb1.size)
  clear ho hb1 hb2
  go_wp2_with fail
  go_ret
  exact ⟨a, c, rfl, HO.out, hb3⟩
end Go.Proofs.YtnfldkebjeigiaaDoor
