/- Logs that are not there: each method. Conditions: the pointer is nil, or points to a log that nobody made. -/
import Derived.Test.YtknnbnmogjkcnaaLogJ
namespace Go.Proofs.Ytknnbnmogjkcnaa
open Go.RowKit
set_option maxRecDepth 20000

/-- A cell stored as it was. -/
theorem setCell_idem {w : World} {g i : Nat} {cs : Array Value} {t : TypeId} {fr : Nat × Nat} {v : Value} (h : w.heap[g]? = some (.cells cs t fr)) (hv : cs[i]? = some v) : w.setCell ⟨g, i, none⟩ v = w := by
  have hlt : g < w.heap.size := (Array.getElem?_eq_some_iff.1 h).1
  have hg : w.heap[g] = .cells cs t fr := (Array.getElem?_eq_some_iff.1 h).2
  have hi : i < cs.size := (Array.getElem?_eq_some_iff.1 hv).1
  have hci : cs[i] = v := (Array.getElem?_eq_some_iff.1 hv).2
  have hset : cs.setIfInBounds i v = cs := by
    apply Array.ext_getElem?
    intro j
    rw [Array.getElem?_setIfInBounds]
    by_cases e : i = j
    · subst e; simp [hi, hci]
    · simp [e]
  have e : (w.setCell ⟨g, i, none⟩ v).heap = w.heap := by
    unfold World.setCell
    apply Array.ext
    · simp
    · intro j h1 h2
      by_cases e : g = j
      · subst e; simp [Array.getElem_modify, hg, hset]
      · simp [Array.getElem_modify, e]
  unfold World.setCell at e ⊢
  dsimp only at e ⊢
  rw [e]
/-- A pointer to no log. -/
def Gone (w : World) (v : Value) : Prop := v = .pointer none ∨ ∃ b o, v = .pointer (some ⟨b, o, none⟩) ∧ w.cell? ⟨b, o, none⟩ = some (.bool false)
theorem Gone.below {w w' : World} {B : Nat} {v : Value} (h : Gone w v) (hb : Below B w w') (hB : w.heap.size ≤ B) : Gone w' v := by
  rcases h with h | ⟨b, o, h1, h2⟩
  · exact Or.inl h
  · refine Or.inr ⟨b, o, h1, ?_⟩
    have : b < w.heap.size := by
      simp only [World.cell?] at h2
      rcases Nat.lt_or_ge b w.heap.size with h | h
      · exact h
      · simp [Array.getElem?_eq_none h] at h2
    rw [hb.cell (p := ⟨b, o, none⟩) (by show b < B; omega)]; exact h2
theorem Gone.drewN {w : World} {v : Value} (h : Gone w v) (n : Nat) : Gone (w.drewN n) v := h.below (below_drewN (Below.refl _ _) n) (Nat.le_refl _)
theorem there_gone (v : Value) (w : World) (h : Gone w v) : Calls Try.prog 36 #[v] w fun e w' => e = .returned (.bool false) ∧ w = w' := by
  rcases h with rfl | ⟨b, o, rfl, hc⟩
  · go_enter Try.func36, Try.ntmps36
    go_wp2_with fail
    go_ret
    exact ⟨rfl, rfl⟩
  · go_enter Try.func36, Try.ntmps36
    go_wp2_with fail
    go_ret
    exact ⟨rfl, rfl⟩
theorem place_gone (v : Value) (i : Int) (w : World) (h : Gone w v) : Calls Try.prog 35 #[v, .int .i64 i] w fun e w' => e = .returned (.tuple #[.int .i64 0, .bool false]) ∧ Below w.heap.size w w' := by
  have HC := Lib.hid (fun q => there_gone v (w.drewN q) (h.drewN q))
  clear h
  go_enter Try.func35, Try.ntmps35
  go_wp2_with fail
  go_quiet ((go_at_call 36; exact quietly (HC.out _)))
  go_wp2_with fail
  go_ret2
  exact ⟨rfl, below_drewN (Below.refl _ _) _⟩
theorem base_gone (v : Value) (w : World) (h : Gone w v) : Calls Try.prog 31 #[v] w fun e w' => e = .returned (.tuple #[.int .i64 0, .int .i64 0]) ∧ Below w.heap.size w w' := by
  have H := Lib.hid h
  clear h
  go_enter Try.func31, Try.ntmps31
  go_wp2_with (go_at_call 36; (with_reducible refine (there_gone v w H.out).mono ?_); rintro e w' ⟨rfl, rfl⟩)
  go_ret2
  exact ⟨rfl, Below.refl _ _⟩
theorem last_gone (v : Value) (w : World) (h : Gone w v) : Calls Try.prog 17 #[v] w fun e w' => e = .returned (.tuple #[.int .i64 0, .int .i64 0]) ∧ Below w.heap.size w w' := by
  have H := Lib.hid h
  clear h
  go_enter Try.func17, Try.ntmps17
  go_wp2_with (go_at_call 36; (with_reducible refine (there_gone v w H.out).mono ?_); rintro e w' ⟨rfl, rfl⟩)
  go_ret2
  exact ⟨rfl, Below.refl _ _⟩
theorem term_gone (v : Value) (i : Int) (w : World) (h : Gone w v) : Calls Try.prog 11 #[v, .int .i64 i] w fun e w' => e = .returned (.tuple #[.int .i64 0, .bool false]) ∧ Below w.heap.size w w' := by
  have H := Lib.hid h
  clear h
  go_enter Try.func11, Try.ntmps11
  go_wp2_with fail
  refine (place_gone v i w H.out).mono ?_
  rintro e w1 ⟨rfl, hb⟩
  have H1 := Lib.hid (H.out.below hb (Nat.le_refl _))
  go_wp2_with (go_at_call 36; (refine (there_gone v w1 H1.out).mono ?_); rintro e w' ⟨rfl, rfl⟩)
  go_ret2
  exact ⟨rfl, hb⟩
theorem fit_gone (v : Value) (i t : Int) (x : Value) (w : World) (h : Gone w v) : Calls Try.prog 12 #[v, .int .i64 i, .int .i64 t, x] w fun e w' => e = .returned (.tuple #[.bool false, .int .i64 0]) ∧ Below w.heap.size w w' := by
  have H := Lib.hid h
  clear h
  go_enter Try.func12, Try.ntmps12
  go_wp2_with fail
  refine (term_gone v i w H.out).mono ?_
  rintro e w1 ⟨rfl, hb⟩
  go_wp2_with fail
  go_ret2
  exact ⟨rfl, hb⟩
theorem from_gone (v : Value) (i m : Int) (w : World) (h : Gone w v) : Calls Try.prog 14 #[v, .int .i64 i, .int .i64 m] w fun e w' => e = .returned (.slice none 0 0) ∧ Below w.heap.size w w' := by
  have H := Lib.hid h
  clear h
  go_enter Try.func14, Try.ntmps14
  go_wp2_with fail
  refine (place_gone v i w H.out).mono ?_
  rintro e w1 ⟨rfl, hb⟩
  go_wp2_with fail
  go_ret
  exact ⟨rfl, hb⟩
theorem append_gone (v : Value) (x : Value) (w : World) (h : Gone w v) : Calls Try.prog 24 #[v, x] w fun e w' => e = .returned (.int .i64 0) ∧ Below w.heap.size w w' := by
  have H := Lib.hid h
  clear h
  go_enter Try.func24, Try.ntmps24
  go_wp2_with (go_at_call 36; (with_reducible refine (there_gone v w H.out).mono ?_); rintro e w' ⟨rfl, rfl⟩)
  go_ret
  exact ⟨rfl, Below.refl _ _⟩
theorem compact_gone (v : Value) (i : Int) (w : World) (h : Gone w v) : Calls Try.prog 16 #[v, .int .i64 i] w fun e w' => e = .returned (.int .i64 1) ∧ Below w.heap.size w w' := by
  have H := Lib.hid h
  clear h
  go_enter Try.func16, Try.ntmps16
  go_wp2_with (go_at_call 36; (with_reducible refine (there_gone v w H.out).mono ?_); rintro e w' ⟨rfl, rfl⟩)
  go_ret
  exact ⟨rfl, Below.refl _ _⟩
theorem voters_gone (v : Value) (x : Value) (w : World) (h : Gone w v) : Calls Try.prog 33 #[v, x] w fun e w' => e = .returned (.slice none 0 0) ∧ Below w.heap.size w w' := by
  have H := Lib.hid (h.below ((Below.refl _ w).alloc (Nat.le_refl _) (.cells #[.slice none 0 0] 39)) (Nat.le_refl _))
  clear h
  go_enter Try.func33, Try.ntmps33
  go_wp2_with (go_at_call 36; (refine (there_gone v _ H.out).mono ?_); rintro e w' ⟨rfl, rfl⟩)
  exact bodyPost_ret (v := .slice none 0 0) (by simp [results, Try.results33, go_sem]) rfl ⟨rfl, (Below.refl _ _).alloc (Nat.le_refl _) _⟩
theorem at_gone (v : Value) (i : Int) (w : World) (h : Gone w v) : Calls Try.prog 32 #[v, .int .i64 i] w fun e w' => e = .returned (.tuple #[.agg #[.int .i64 0, .int .u8 0, .int .i64 0, .int .i64 0, .int .u8 0, .string ByteArray.empty, .slice none 0 0, .int .i64 0, .slice none 0 0], .bool false]) ∧ Below w.heap.size w w' := by
  have H := Lib.hid (h.below ((Below.refl _ w).alloc (Nat.le_refl _) (.cells #[.int .i64 0, .int .u8 0, .int .i64 0, .int .i64 0, .int .u8 0, .string ByteArray.empty, .slice none 0 0, .int .i64 0, .slice none 0 0] 41)) (Nat.le_refl _))
  clear h
  go_enter Try.func32, Try.ntmps32
  go_wp2_with fail
  refine (place_gone v i _ H.out).mono ?_
  rintro e w1 ⟨rfl, hb⟩
  have k1 := (hb.block w.heap.size (by simp)).trans (heap_alloc_new w (.cells #[.int .i64 0, .int .u8 0, .int .i64 0, .int .i64 0, .int .u8 0, .string ByteArray.empty, .slice none 0 0, .int .i64 0, .slice none 0 0] 41))
  have d0 : w1.cell? ⟨w.heap.size, 0, none⟩ = some (.int .i64 0) := Go.Joins.cell_of_block k1 0
  have f0 : w1.frozen? ⟨w.heap.size, 0, none⟩ = false := Go.Joins.unfrozen_of_block k1 0
  have d1 : w1.cell? ⟨w.heap.size, 1, none⟩ = some (.int .u8 0) := Go.Joins.cell_of_block k1 1
  have f1 : w1.frozen? ⟨w.heap.size, 1, none⟩ = false := Go.Joins.unfrozen_of_block k1 1
  have d2 : w1.cell? ⟨w.heap.size, 2, none⟩ = some (.int .i64 0) := Go.Joins.cell_of_block k1 2
  have f2 : w1.frozen? ⟨w.heap.size, 2, none⟩ = false := Go.Joins.unfrozen_of_block k1 2
  have d3 : w1.cell? ⟨w.heap.size, 3, none⟩ = some (.int .i64 0) := Go.Joins.cell_of_block k1 3
  have f3 : w1.frozen? ⟨w.heap.size, 3, none⟩ = false := Go.Joins.unfrozen_of_block k1 3
  have d4 : w1.cell? ⟨w.heap.size, 4, none⟩ = some (.int .u8 0) := Go.Joins.cell_of_block k1 4
  have f4 : w1.frozen? ⟨w.heap.size, 4, none⟩ = false := Go.Joins.unfrozen_of_block k1 4
  have d5 : w1.cell? ⟨w.heap.size, 5, none⟩ = some (.string ByteArray.empty) := Go.Joins.cell_of_block k1 5
  have f5 : w1.frozen? ⟨w.heap.size, 5, none⟩ = false := Go.Joins.unfrozen_of_block k1 5
  have d6 : w1.cell? ⟨w.heap.size, 6, none⟩ = some (.slice none 0 0) := Go.Joins.cell_of_block k1 6
  have f6 : w1.frozen? ⟨w.heap.size, 6, none⟩ = false := Go.Joins.unfrozen_of_block k1 6
  have d7 : w1.cell? ⟨w.heap.size, 7, none⟩ = some (.int .i64 0) := Go.Joins.cell_of_block k1 7
  have f7 : w1.frozen? ⟨w.heap.size, 7, none⟩ = false := Go.Joins.unfrozen_of_block k1 7
  have d8 : w1.cell? ⟨w.heap.size, 8, none⟩ = some (.slice none 0 0) := Go.Joins.cell_of_block k1 8
  have f8 : w1.frozen? ⟨w.heap.size, 8, none⟩ = false := Go.Joins.unfrozen_of_block k1 8
  have hb2 : Below w.heap.size w w1 := ((Below.refl _ _).alloc (Nat.le_refl _) _).trans (hb.mono (by simp))
  have HB := Lib.hid hb2
  have K1 := Lib.hid k1
  clear hb hb2 k1
  go_wp2_with fail
  rw [setCell_idem K1.out rfl, setCell_idem K1.out rfl, setCell_idem K1.out rfl, setCell_idem K1.out rfl, setCell_idem K1.out rfl, setCell_idem K1.out rfl, setCell_idem K1.out rfl, setCell_idem K1.out rfl, setCell_idem K1.out rfl]
  exact bodyPost_ret (v := .tuple #[.agg #[.int .i64 0, .int .u8 0, .int .i64 0, .int .i64 0, .int .u8 0, .string ByteArray.empty, .slice none 0 0, .int .i64 0, .slice none 0 0], .bool false]) (by simp [results, Try.results32, go_sem, d0, d1, d2, d3, d4, d5, d6, d7, d8]) rfl ⟨rfl, HB.out⟩
end Go.Proofs.Ytknnbnmogjkcnaa
