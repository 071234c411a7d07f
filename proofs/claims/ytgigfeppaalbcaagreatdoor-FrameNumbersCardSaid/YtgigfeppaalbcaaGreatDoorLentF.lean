/- LentFrame: a frame whose bytes are copied with marks behind their end. Conditions: the frame's bytes lie as their reading says. -/
import Derived.Test.YtgigfeppaalbcaaGreatDoorAwake03
import Derived.Test.YtgigfeppaalbcaaGreatDoorFlatB
namespace Go.Proofs.YtgigfeppaalbcaaGreatDoor
open Go.RowKit
set_option maxRecDepth 20000

def LentFPost (kd : Int) (xs : List Int) (w : World) (e : Ending) (w' : World) : Prop :=
  ∃ g, e = .returned (.agg #[.int .i64 kd, .slice (some ⟨g, 0, none⟩) xs.length (xs.length + 12)]) ∧ w.heap.size ≤ g ∧ g < w'.heap.size ∧ LentB w' w.heap.size g xs ∧ Below w.heap.size w w'
theorem LentB.le {w : World} {B B' g : Nat} {xs : List Int} (h : LentB w B g xs) (hB : B' ≤ B) : LentB w B' g xs := Go.Joins.ownsRow_le h hB
theorem lentF_any (kd : Int) (ao : Option Addr) (cap : Nat) (xs : List Int) (w : World) (hx : BytesIn w w.heap.size ao xs) (hao : ao = none → cap = 0) (hl : xs.length ≤ 1099511627776) :
    Calls Tryz.prog 24 #[.agg #[.int .i64 kd, .slice ao xs.length cap]] w (LentFPost kd xs w) := by
  have HX := Lib.hid hx
  have HA := Lib.hid hao
  clear hx hao
  go_enter Tryz.func24, Tryz.ntmps24
  go_wp2_with fail
  have hb2 : Below w.heap.size w ((w.alloc (.cells #[.int .i64 kd, .slice ao xs.length cap] 44)).alloc (.cells #[.int .i64 0, .slice none 0 0] 44)) := ((Below.refl _ _).alloc (Nat.le_refl _) _).alloc (by simp) _
  have h1 : ((w.alloc (.cells #[.int .i64 kd, .slice ao xs.length cap] 44)).alloc (.cells #[.int .i64 0, .slice none 0 0] 44)).heap[w.heap.size]? = some (.cells #[.int .i64 kd, .slice ao xs.length cap] 44 (0, 0)) := by
    exact ((World.grownBy_alloc _ _ none).block _ (by simp) (by simp)).trans (heap_alloc_new w _)
  have h2 : ((w.alloc (.cells #[.int .i64 kd, .slice ao xs.length cap] 44)).alloc (.cells #[.int .i64 0, .slice none 0 0] 44)).heap[w.heap.size + 1]? = some (.cells #[.int .i64 0, .slice none 0 0] 44 (0, 0)) := by
    have := heap_alloc_new (w.alloc (.cells #[.int .i64 kd, .slice ao xs.length cap] 44)) (.cells #[.int .i64 0, .slice none 0 0] 44)
    simpa using this
  have hz2 : ((w.alloc (.cells #[.int .i64 kd, .slice ao xs.length cap] 44)).alloc (.cells #[.int .i64 0, .slice none 0 0] 44)).heap.size = w.heap.size + 2 := by simp
  generalize ((w.alloc (.cells #[.int .i64 kd, .slice ao xs.length cap] 44)).alloc (.cells #[.int .i64 0, .slice none 0 0] 44)) = w2 at hb2 h1 h2 hz2 ⊢
  have H1 := Lib.hid h1
  have H2 := Lib.hid h2
  have HZ := Lib.hid hz2
  clear h1 h2 hz2
  refine (lentB_any ao cap xs w2 ((HX.out.below hb2 (Nat.le_refl _)).mono hb2.size) HA.out hl).mono ?_
  rintro e w3 ⟨g, rfl, hg1, hg2, hL, hb3⟩
  have HLL := Lib.hid hL
  have k1 := (hb3.block w.heap.size (by have := HZ.out; omega)).trans H1.out
  have k2 := (hb3.block (w.heap.size + 1) (by have := HZ.out; omega)).trans H2.out
  have d1 : w3.cell? ⟨w.heap.size, 1, none⟩ = some (.slice ao xs.length cap) := Go.Joins.cell_of_block k1 1
  have f1 : w3.frozen? ⟨w.heap.size, 1, none⟩ = false := Go.Joins.unfrozen_of_block k1 1
  have d0 : w3.cell? ⟨w.heap.size, 0, none⟩ = some (.int .i64 kd) := Go.Joins.cell_of_block k1 0
  have d2 : w3.cell? ⟨w.heap.size + 1, 0, none⟩ = some (.int .i64 0) := Go.Joins.cell_of_block k2 0
  have d3 : w3.cell? ⟨w.heap.size + 1, 1, none⟩ = some (.slice none 0 0) := Go.Joins.cell_of_block k2 1
  have f2 : w3.frozen? ⟨w.heap.size + 1, 0, none⟩ = false := Go.Joins.unfrozen_of_block k2 0
  have f3 : w3.frozen? ⟨w.heap.size + 1, 1, none⟩ = false := Go.Joins.unfrozen_of_block k2 1
  have k3 := Go.Joins.block_setCell (i := 1) k1 (.slice (some ⟨g, 0, none⟩) xs.length (xs.length + 12))
  have k4 : (w3.setCell ⟨w.heap.size, 1, none⟩ (.slice (some ⟨g, 0, none⟩) xs.length (xs.length + 12))).heap[w.heap.size + 1]? = some (.cells #[.int .i64 0, .slice none 0 0] 44 (0, 0)) := by
    rw [heap_setCell_other _ _ _ _ (by simp)]; exact k2
  have hlb : LentB (w3.setCell ⟨w.heap.size, 1, none⟩ (.slice (some ⟨g, 0, none⟩) xs.length (xs.length + 12))) w2.heap.size g xs := by
    refine ownsRow_setCell_other hL ?_ _
    simp [Value.ownBlock]
    have := HZ.out
    omega
  have hbb : Below w.heap.size w (w3.setCell ⟨w.heap.size, 1, none⟩ (.slice (some ⟨g, 0, none⟩) xs.length (xs.length + 12))) := (hb2.trans (hb3.mono hb2.size)).setCell (p := ⟨w.heap.size, 1, none⟩) (Nat.le_refl _) _
  have HLB := Lib.hid hlb
  have HBB := Lib.hid hbb
  have HK3 := Lib.hid k3
  have HK4 := Lib.hid k4
  clear hL hlb hbb k1 k2 k3 k4
  go_wp2_with fail
  have hz := HZ.out
  have hlb2 := ownsRow_setCell_other (ownsRow_setCell_other HLB.out (a := ⟨w.heap.size + 1, 0, none⟩) (by simp [Value.ownBlock]; omega) (.int .i64 kd)) (a := ⟨w.heap.size + 1, 1, none⟩) (by simp [Value.ownBlock]; omega) (.slice (some ⟨g, 0, none⟩) xs.length (xs.length + 12))
  have hbb2 := (HBB.out.setCell (p := ⟨w.heap.size + 1, 0, none⟩) (Nat.le_succ _) (.int .i64 kd)).setCell (p := ⟨w.heap.size + 1, 1, none⟩) (Nat.le_succ _) (.slice (some ⟨g, 0, none⟩) xs.length (xs.length + 12))
  exact bodyPost_ret (v := .agg #[.int .i64 kd, .slice (some ⟨g, 0, none⟩) xs.length (xs.length + 12)]) (by simp [results, Tryz.results24, go_sem, d2, d3]) rfl ⟨g, rfl, by omega, by simpa using hg2, LentB.le hlb2 (by omega), hbb2⟩
theorem markF_at (a b : Int) (k i : Nat) (ha : a = k) (hb : b = i) (hk : k ≤ 1000000) (hi : i ≤ 2000000000000) (w : World) :
    Calls Tryz.prog 25 #[.int .i64 a, .int .i64 b] w fun e w' => e = .returned (.agg #[.int .i64 (markN k i), .slice none 0 0]) ∧ Below w.heap.size w w' := by
  have hc := mark_at a b k i ha hb hk hi
  generalize markN k i = m at hc ⊢
  have HC := Lib.hid hc
  clear hc ha hb
  go_enter Tryz.func25, Tryz.ntmps25
  go_wp2_with fail
  refine (HC.out _).mono ?_
  rintro e w' ⟨rfl, rfl⟩
  go_wp2_with fail
  exact bodyPost_ret (v := .agg #[.int .i64 m, .slice none 0 0]) (by simp [results, Tryz.results25, go_sem]) rfl ⟨rfl, (Below.refl _ _).alloc (Nat.le_refl _) _⟩
end Go.Proofs.YtgigfeppaalbcaaGreatDoor
