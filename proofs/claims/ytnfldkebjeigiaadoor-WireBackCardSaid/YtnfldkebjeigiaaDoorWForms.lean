/- Number, Text, Value, Values of wire: the bytes of a form. Conditions: what is written is not too long. -/
import Derived.Test.YtnfldkebjeigiaaDoorWTold
namespace Go.Proofs.YtnfldkebjeigiaaDoor
open Go.RowKit
set_option maxRecDepth 20000

theorem buf_new (w : World) : BufIs (w.alloc (.cells #[.slice none 0 0, .int .i64 0, .int .i8 0] 85)) w.heap.size w.heap.size [] :=
  LibA.zero_isBuffer (Nat.le_refl _) (lr := 0) ⟨_, heap_alloc_new w _, rfl, rfl, rfl, fun i hi => by rcases hi with hi | hi; omega; exact Array.getElem?_eq_none (by simpa using hi)⟩
theorem number_any (n : Int) (w : World) :
    Calls Tryd.prog 11 #[.int .i64 n] w (BytesNew (numB 8 n) w.heap.size w) := by
  have H := Lib.hid (buf_new w)
  have hb := (Below.refl w.heap.size w).alloc (Nat.le_refl _) (.cells #[.slice none 0 0, .int .i64 0, .int .i8 0] 85)
  have HB := Lib.hid hb
  clear hb
  go_enter Tryd.func11, Tryd.ntmps11
  go_wp2_with fail
  refine (put1_any w.heap.size w.heap.size 8 (w.heap.size + 1) [] n _ (by simp) (by omega) (by omega) H.out (by simp) (by simp)).mono ?_
  rintro e w1 ⟨rfl, hw⟩
  rw [List.nil_append] at hw
  have HW := Lib.hid hw
  have hb1 := HB.out.trans hw.2.1
  clear hw
  go_wp2_with fail
  refine (told_any w.heap.size w.heap.size _ w1 HW.out.1 hb1.size (by rw [numB_len]; omega)).mono ?_
  rintro e w2 ⟨a, c, rfl, ho, hb2⟩
  have HO := Lib.hid (Go.Joins.ownsRow_le ho hb1.size)
  have hb3 := hb1.trans (hb2.mono hb1.size)
  clear ho hb1 hb2
  go_wp2_with fail
  go_ret
  exact ⟨a, c, rfl, HO.out, hb3⟩
theorem wvalue_any (v : Va) (w : World) (hl : v.text.size ≤ 1099511627776) :
    Calls Tryd.prog 14 #[.agg #[.int .u8 v.kind, .int .i64 v.num, .string v.text]] w (BytesNew (valueB v) w.heap.size w) := by
  obtain ⟨kd, num, text⟩ := v
  dsimp only at hl ⊢
  have hvl := valueB_len ⟨kd, num, text⟩
  dsimp only at hvl
  have H := Lib.hid (buf_new (w.alloc (.cells #[.int .u8 kd, .int .i64 num, .string text] 24)))
  have hb := ((Below.refl w.heap.size w).alloc (Nat.le_refl _) (.cells #[.int .u8 kd, .int .i64 num, .string text] 24)).alloc (by simp) (.cells #[.slice none 0 0, .int .i64 0, .int .i8 0] 85)
  have HB := Lib.hid hb
  have hsz : (w.alloc (.cells #[.int .u8 kd, .int .i64 num, .string text] 24)).heap.size = w.heap.size + 1 := by simp
  rw [hsz] at H
  have HVL := Lib.hid hvl
  clear hb hsz hvl
  go_enter Tryd.func14, Tryd.ntmps14
  go_wp2_with fail
  refine (value_any (w.heap.size + 1) (w.heap.size + 1) [] ⟨kd, num, text⟩ _ H.out (by simp) (by simp; omega)).mono ?_
  rintro e w1 ⟨rfl, hw⟩
  rw [List.nil_append] at hw
  have HW := Lib.hid hw
  have hb1 := HB.out.trans (hw.2.1.mono (Nat.le_succ _))
  have hs1 : w.heap.size + 1 ≤ w1.heap.size := by have := hw.2.1.size; simp at this; omega
  clear hw
  go_wp2_with fail
  refine (told_any (w.heap.size + 1) (w.heap.size + 1) _ w1 HW.out.1 hs1 (by have := HVL.out; omega)).mono ?_
  rintro e w2 ⟨a, c, rfl, ho, hb2⟩
  have HO := Lib.hid (Go.Joins.ownsRow_le ho hb1.size)
  have hb3 := hb1.trans (hb2.mono hb1.size)
  clear ho hb1 hb2
  go_wp2_with fail
  go_ret
  exact ⟨a, c, rfl, HO.out, hb3⟩
end Go.Proofs.YtnfldkebjeigiaaDoor
