/- Values of wire: the bytes of a row of values. Conditions: what is written is not too long. -/
import Derived.Test.YtnfldkebjeigiaaDoorWVals
namespace Go.Proofs.YtnfldkebjeigiaaDoor
open Go.RowKit
set_option maxRecDepth 20000

theorem wvalues_any (ao : Option Addr) (n cap : Nat) (xs : List Va) (w : World) (hn : xs.length = n) (hx : RowsIn 3 vaCells noSub w w.heap.size ao xs) (htx : ∀ v ∈ xs, v.text.size ≤ 1099511627776) (hl : (valuesB xs).length ≤ 100000000000) (hnl : n ≤ 1099511627776) :
    Calls Tryd.prog 15 #[.slice ao n cap] w (BytesNew (valuesB xs) w.heap.size w) := by
  have H := Lib.hid (buf_new w)
  have hb := (Below.refl w.heap.size w).alloc (Nat.le_refl _) (.cells #[.slice none 0 0, .int .i64 0, .int .i8 0] 85)
  have HB := Lib.hid hb
  have HX := Lib.hid hx
  have HT := Lib.hid htx
  have HN := Lib.hid hn
  clear hb hx htx hn
  go_enter Tryd.func15, Tryd.ntmps15
  go_wp2_with fail
  refine (values_any w.heap.size w.heap.size [] ao n cap xs _ HN.out (HX.out.below noSub_kept HB.out (Nat.le_refl _)) HT.out H.out (by simp) (by simp; omega) hnl (by simpa using hl)).mono ?_
  rintro e w1 ⟨rfl, hw⟩
  rw [List.nil_append] at hw
  have HW := Lib.hid hw
  have hb1 := HB.out.trans hw.2.1
  clear hw
  go_wp2_with fail
  refine (told_any w.heap.size w.heap.size _ w1 HW.out.1 hb1.size (by omega)).mono ?_
  rintro e w2 ⟨a, c, rfl, ho, hb2⟩
  have HO := Lib.hid (Go.Joins.ownsRow_le ho hb1.size)
  have hb3 := hb1.trans (hb2.mono hb1.size)
  clear ho hb1 hb2
  go_wp2_with fail
  go_ret
  exact ⟨a, c, rfl, HO.out, hb3⟩
end Go.Proofs.YtnfldkebjeigiaaDoor
