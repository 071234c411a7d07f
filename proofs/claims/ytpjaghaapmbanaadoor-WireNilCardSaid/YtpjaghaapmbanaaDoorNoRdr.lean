/- Readers of wire that are not there: each method tells nothing. Conditions: the pointer is nil, or points to a reader that nobody made. -/
import Derived.Test.YtpjaghaapmbanaaDoorBase
import Derived.Lib.SmallJoins
namespace Go.Proofs.YtpjaghaapmbanaaDoor
open Go.RowKit
set_option maxRecDepth 20000

/-- A cell stored as it was. -/
theorem setCell_idem {w : World} {g i : Nat} {cs : Array Value} {t : TypeId} {fr : Nat × Nat} {v : Value} (h : w.heap[g]? = some (.cells cs t fr)) (hv : cs[i]? = some v) : w.setCell ⟨g, i, none⟩ v = w := by
  have hlt : g < w.heap.size := (Array.getElem?_eq_some_iff.1 h).1
  have hg : w.heap[g] = .cells cs t fr := (Array.getElem?_eq_some_iff.1 h).2
  have hi : i < cs.size := (Array.getElem?_eq_some_iff.1 hv).1
  have hci : cs[i] = v := (Array.getElem?_eq_some_iff.1 hv).2
  have hset : cs.setIfInBounds i v = cs := by
    apply Array.ext_getElem?
    intro j
    rw [Array.getElem?_setIfInBounds]
    by_cases e : i = j
    · subst e; simp [hi, hci]
    · simp [e]
  have e : (w.setCell ⟨g, i, none⟩ v).heap = w.heap := by
    unfold World.setCell
    apply Array.ext
    · simp
    · intro j h1 h2
      by_cases e : g = j
      · subst e; simp [Array.getElem_modify, hg, hset]
      · simp [Array.getElem_modify, e]
  unfold World.setCell at e ⊢
  dsimp only at e ⊢
  rw [e]
/-- A pointer to no reader. -/
def Gone (w : World) (v : Value) : Prop := v = .pointer none ∨ ∃ b o, v = .pointer (some ⟨b, o, none⟩) ∧ w.cell? ⟨b, o, none⟩ = some (.bool false)
theorem Gone.below {w w' : World} {B : Nat} {v : Value} (h : Gone w v) (hb : Below B w w') (hB : w.heap.size ≤ B) : Gone w' v := by
  rcases h with h | ⟨b, o, h1, h2⟩
  · exact Or.inl h
  · refine Or.inr ⟨b, o, h1, ?_⟩
    have : b < w.heap.size := by
      simp only [World.cell?] at h2
      rcases Nat.lt_or_ge b w.heap.size with h | h
      · exact h
      · simp [Array.getElem?_eq_none h] at h2
    rw [hb.cell (p := ⟨b, o, none⟩) (by show b < B; omega)]; exact h2
theorem Gone.drewN {w : World} {v : Value} (h : Gone w v) (n : Nat) : Gone (w.drewN n) v := h.below (below_drewN (Below.refl _ _) n) (Nat.le_refl _)
theorem known_gone (v : Value) (w : World) (h : Gone w v) : Calls Tryd.prog 45 #[v] w fun e w' => e = .returned (.bool false) ∧ w = w' := by
  rcases h with rfl | ⟨b, o, rfl, hc⟩
  · go_enter Tryd.func45, Tryd.ntmps45
    go_wp2_with fail
    go_ret
    exact ⟨rfl, rfl⟩
  · go_enter Tryd.func45, Tryd.ntmps45
    go_wp2_with fail
    go_ret
    exact ⟨rfl, rfl⟩
theorem number_gone (v : Value) (w : World) (h : Gone w v) : Calls Tryd.prog 18 #[v] w fun e w' => e = .returned (.int .i64 0) ∧ Below w.heap.size w w' := by
  have H := Lib.hid h
  clear h
  go_enter Tryd.func18, Tryd.ntmps18
  go_wp2_with (go_at_call 45; (with_reducible refine (known_gone v w H.out).mono ?_); rintro e w' ⟨rfl, rfl⟩)
  go_ret
  exact ⟨rfl, Below.refl _ _⟩
theorem text_gone (v : Value) (w : World) (h : Gone w v) : Calls Tryd.prog 19 #[v] w fun e w' => e = .returned (.string ByteArray.empty) ∧ Below w.heap.size w w' := by
  have H := Lib.hid h
  clear h
  go_enter Tryd.func19, Tryd.ntmps19
  go_wp2_with (go_at_call 45; (with_reducible refine (known_gone v w H.out).mono ?_); rintro e w' ⟨rfl, rfl⟩)
  go_ret
  exact ⟨rfl, Below.refl _ _⟩
theorem values_gone (v : Value) (w : World) (h : Gone w v) : Calls Tryd.prog 21 #[v] w fun e w' => e = .returned (.slice none 0 0) ∧ Below w.heap.size w w' := by
  have H := Lib.hid h
  clear h
  go_enter Tryd.func21, Tryd.ntmps21
  go_wp2_with (go_at_call 45; (with_reducible refine (known_gone v w H.out).mono ?_); rintro e w' ⟨rfl, rfl⟩)
  go_ret
  exact ⟨rfl, Below.refl _ _⟩
theorem done_gone (v : Value) (w : World) (h : Gone w v) : Calls Tryd.prog 15 #[v] w fun e w' => e = .returned (.bool false) ∧ Below w.heap.size w w' := by
  have H := Lib.hid h
  clear h
  go_enter Tryd.func15, Tryd.ntmps15
  go_wp2_with (go_at_call 45; (with_reducible refine (known_gone v w H.out).mono ?_); rintro e w' ⟨rfl, rfl⟩)
  go_ret
  exact ⟨rfl, Below.refl _ _⟩
theorem bad_gone (v : Value) (w : World) (h : Gone w v) : Calls Tryd.prog 14 #[v] w fun e w' => e = .returned (.bool false) ∧ Below w.heap.size w w' := by
  have H := Lib.hid h
  clear h
  go_enter Tryd.func14, Tryd.ntmps14
  go_wp2_with (go_at_call 45; (with_reducible refine (known_gone v w H.out).mono ?_); rintro e w' ⟨rfl, rfl⟩)
  go_ret
  exact ⟨rfl, Below.refl _ _⟩
theorem value_gone (v : Value) (w : World) (h : Gone w v) : Calls Tryd.prog 20 #[v] w fun e w' => e = .returned (.agg #[.int .u8 0, .int .i64 0, .string ByteArray.empty]) ∧ Below w.heap.size w w' := by
  have hb := (Below.refl w.heap.size w).alloc (Nat.le_refl _) (.cells #[.int .u8 0, .int .i64 0, .string ByteArray.empty] 47)
  have H := Lib.hid (h.below hb (Nat.le_refl _))
  have k1 := heap_alloc_new w (.cells #[.int .u8 0, .int .i64 0, .string ByteArray.empty] 47)
  clear h
  go_enter Tryd.func20, Tryd.ntmps20
  have K1 := Lib.hid k1
  have HB := Lib.hid hb
  clear k1 hb
  go_wp2_with fail
  refine (known_gone v _ H.out).mono ?_
  rintro e w1 ⟨rfl, hw⟩
  have hK := K1.out
  have hB := HB.out
  have HK := Lib.hid (show w1.heap[w.heap.size]? = some (.cells #[.int .u8 0, .int .i64 0, .string ByteArray.empty] 47 (0, 0)) ∧ Below w.heap.size w w1 by rw [← hw]; exact ⟨hK, hB⟩)
  clear hw hK hB K1 HB H
  have d0 : w1.cell? ⟨w.heap.size, 0, none⟩ = some (.int .u8 0) := Go.Joins.cell_of_block HK.out.1 0
  have f0 : w1.frozen? ⟨w.heap.size, 0, none⟩ = false := Go.Joins.unfrozen_of_block HK.out.1 0
  have d1 : w1.cell? ⟨w.heap.size, 1, none⟩ = some (.int .i64 0) := Go.Joins.cell_of_block HK.out.1 1
  have f1 : w1.frozen? ⟨w.heap.size, 1, none⟩ = false := Go.Joins.unfrozen_of_block HK.out.1 1
  have d2 : w1.cell? ⟨w.heap.size, 2, none⟩ = some (.string ByteArray.empty) := Go.Joins.cell_of_block HK.out.1 2
  have f2 : w1.frozen? ⟨w.heap.size, 2, none⟩ = false := Go.Joins.unfrozen_of_block HK.out.1 2
  go_wp2_with fail
  rw [setCell_idem HK.out.1 rfl, setCell_idem HK.out.1 rfl, setCell_idem HK.out.1 rfl]
  exact bodyPost_ret (v := .agg #[.int .u8 0, .int .i64 0, .string ByteArray.empty]) (by simp [results, Tryd.results20, go_sem, d0, d1, d2]) rfl ⟨rfl, HK.out.2⟩
theorem fact_gone (v : Value) (w : World) (h : Gone w v) : Calls Tryd.prog 23 #[v] w fun e w' => e = .returned (.agg #[.int .i64 0, .int .i64 0, .slice none 0 0]) ∧ Below w.heap.size w w' := by
  have hb := (Below.refl w.heap.size w).alloc (Nat.le_refl _) (.cells #[.int .i64 0, .int .i64 0, .slice none 0 0] 53)
  have H := Lib.hid (h.below hb (Nat.le_refl _))
  have k1 := heap_alloc_new w (.cells #[.int .i64 0, .int .i64 0, .slice none 0 0] 53)
  clear h
  go_enter Tryd.func23, Tryd.ntmps23
  have K1 := Lib.hid k1
  have HB := Lib.hid hb
  clear k1 hb
  go_wp2_with fail
  refine (known_gone v _ H.out).mono ?_
  rintro e w1 ⟨rfl, hw⟩
  have hK := K1.out
  have hB := HB.out
  have HK := Lib.hid (show w1.heap[w.heap.size]? = some (.cells #[.int .i64 0, .int .i64 0, .slice none 0 0] 53 (0, 0)) ∧ Below w.heap.size w w1 by rw [← hw]; exact ⟨hK, hB⟩)
  clear hw hK hB K1 HB H
  have d0 : w1.cell? ⟨w.heap.size, 0, none⟩ = some (.int .i64 0) := Go.Joins.cell_of_block HK.out.1 0
  have f0 : w1.frozen? ⟨w.heap.size, 0, none⟩ = false := Go.Joins.unfrozen_of_block HK.out.1 0
  have d1 : w1.cell? ⟨w.heap.size, 1, none⟩ = some (.int .i64 0) := Go.Joins.cell_of_block HK.out.1 1
  have f1 : w1.frozen? ⟨w.heap.size, 1, none⟩ = false := Go.Joins.unfrozen_of_block HK.out.1 1
  have d2 : w1.cell? ⟨w.heap.size, 2, none⟩ = some (.slice none 0 0) := Go.Joins.cell_of_block HK.out.1 2
  have f2 : w1.frozen? ⟨w.heap.size, 2, none⟩ = false := Go.Joins.unfrozen_of_block HK.out.1 2
  go_wp2_with fail
  rw [setCell_idem HK.out.1 rfl, setCell_idem HK.out.1 rfl, setCell_idem HK.out.1 rfl]
  exact bodyPost_ret (v := .agg #[.int .i64 0, .int .i64 0, .slice none 0 0]) (by simp [results, Tryd.results23, go_sem, d0, d1, d2]) rfl ⟨rfl, HK.out.2⟩
theorem command_gone (v : Value) (w : World) (h : Gone w v) : Calls Tryd.prog 25 #[v] w fun e w' => e = .returned (.agg #[.int .u8 0, .string ByteArray.empty, .slice none 0 0, .int .i64 0]) ∧ Below w.heap.size w w' := by
  have hb := (Below.refl w.heap.size w).alloc (Nat.le_refl _) (.cells #[.int .u8 0, .string ByteArray.empty, .slice none 0 0, .int .i64 0] 58)
  have H := Lib.hid (h.below hb (Nat.le_refl _))
  have k1 := heap_alloc_new w (.cells #[.int .u8 0, .string ByteArray.empty, .slice none 0 0, .int .i64 0] 58)
  clear h
  go_enter Tryd.func25, Tryd.ntmps25
  have K1 := Lib.hid k1
  have HB := Lib.hid hb
  clear k1 hb
  go_wp2_with fail
  refine (known_gone v _ H.out).mono ?_
  rintro e w1 ⟨rfl, hw⟩
  have hK := K1.out
  have hB := HB.out
  have HK := Lib.hid (show w1.heap[w.heap.size]? = some (.cells #[.int .u8 0, .string ByteArray.empty, .slice none 0 0, .int .i64 0] 58 (0, 0)) ∧ Below w.heap.size w w1 by rw [← hw]; exact ⟨hK, hB⟩)
  clear hw hK hB K1 HB H
  have d0 : w1.cell? ⟨w.heap.size, 0, none⟩ = some (.int .u8 0) := Go.Joins.cell_of_block HK.out.1 0
  have f0 : w1.frozen? ⟨w.heap.size, 0, none⟩ = false := Go.Joins.unfrozen_of_block HK.out.1 0
  have d1 : w1.cell? ⟨w.heap.size, 1, none⟩ = some (.string ByteArray.empty) := Go.Joins.cell_of_block HK.out.1 1
  have f1 : w1.frozen? ⟨w.heap.size, 1, none⟩ = false := Go.Joins.unfrozen_of_block HK.out.1 1
  have d2 : w1.cell? ⟨w.heap.size, 2, none⟩ = some (.slice none 0 0) := Go.Joins.cell_of_block HK.out.1 2
  have f2 : w1.frozen? ⟨w.heap.size, 2, none⟩ = false := Go.Joins.unfrozen_of_block HK.out.1 2
  have d3 : w1.cell? ⟨w.heap.size, 3, none⟩ = some (.int .i64 0) := Go.Joins.cell_of_block HK.out.1 3
  have f3 : w1.frozen? ⟨w.heap.size, 3, none⟩ = false := Go.Joins.unfrozen_of_block HK.out.1 3
  go_wp2_with fail
  rw [setCell_idem HK.out.1 rfl, setCell_idem HK.out.1 rfl, setCell_idem HK.out.1 rfl, setCell_idem HK.out.1 rfl]
  exact bodyPost_ret (v := .agg #[.int .u8 0, .string ByteArray.empty, .slice none 0 0, .int .i64 0]) (by simp [results, Tryd.results25, go_sem, d0, d1, d2, d3]) rfl ⟨rfl, HK.out.2⟩
theorem reply_gone (v : Value) (w : World) (h : Gone w v) : Calls Tryd.prog 27 #[v] w fun e w' => e = .returned (.agg #[.int .i64 0, .int .i64 0, .slice none 0 0, .slice none 0 0]) ∧ Below w.heap.size w w' := by
  have hb := (Below.refl w.heap.size w).alloc (Nat.le_refl _) (.cells #[.int .i64 0, .int .i64 0, .slice none 0 0, .slice none 0 0] 64)
  have H := Lib.hid (h.below hb (Nat.le_refl _))
  have k1 := heap_alloc_new w (.cells #[.int .i64 0, .int .i64 0, .slice none 0 0, .slice none 0 0] 64)
  clear h
  go_enter Tryd.func27, Tryd.ntmps27
  have K1 := Lib.hid k1
  have HB := Lib.hid hb
  clear k1 hb
  go_wp2_with fail
  refine (known_gone v _ H.out).mono ?_
  rintro e w1 ⟨rfl, hw⟩
  have hK := K1.out
  have hB := HB.out
  have HK := Lib.hid (show w1.heap[w.heap.size]? = some (.cells #[.int .i64 0, .int .i64 0, .slice none 0 0, .slice none 0 0] 64 (0, 0)) ∧ Below w.heap.size w w1 by rw [← hw]; exact ⟨hK, hB⟩)
  clear hw hK hB K1 HB H
  have d0 : w1.cell? ⟨w.heap.size, 0, none⟩ = some (.int .i64 0) := Go.Joins.cell_of_block HK.out.1 0
  have f0 : w1.frozen? ⟨w.heap.size, 0, none⟩ = false := Go.Joins.unfrozen_of_block HK.out.1 0
  have d1 : w1.cell? ⟨w.heap.size, 1, none⟩ = some (.int .i64 0) := Go.Joins.cell_of_block HK.out.1 1
  have f1 : w1.frozen? ⟨w.heap.size, 1, none⟩ = false := Go.Joins.unfrozen_of_block HK.out.1 1
  have d2 : w1.cell? ⟨w.heap.size, 2, none⟩ = some (.slice none 0 0) := Go.Joins.cell_of_block HK.out.1 2
  have f2 : w1.frozen? ⟨w.heap.size, 2, none⟩ = false := Go.Joins.unfrozen_of_block HK.out.1 2
  have d3 : w1.cell? ⟨w.heap.size, 3, none⟩ = some (.slice none 0 0) := Go.Joins.cell_of_block HK.out.1 3
  have f3 : w1.frozen? ⟨w.heap.size, 3, none⟩ = false := Go.Joins.unfrozen_of_block HK.out.1 3
  go_wp2_with fail
  rw [setCell_idem HK.out.1 rfl, setCell_idem HK.out.1 rfl, setCell_idem HK.out.1 rfl, setCell_idem HK.out.1 rfl]
  exact bodyPost_ret (v := .agg #[.int .i64 0, .int .i64 0, .slice none 0 0, .slice none 0 0]) (by simp [results, Tryd.results27, go_sem, d0, d1, d2, d3]) rfl ⟨rfl, HK.out.2⟩
theorem entry_gone (v : Value) (w : World) (h : Gone w v) : Calls Tryd.prog 29 #[v] w fun e w' => e = .returned (.agg #[.int .i64 0, .int .u8 0, .int .i64 0, .int .i64 0, .int .u8 0, .string ByteArray.empty, .slice none 0 0, .int .i64 0, .slice none 0 0]) ∧ Below w.heap.size w w' := by
  have hb := (Below.refl w.heap.size w).alloc (Nat.le_refl _) (.cells #[.int .i64 0, .int .u8 0, .int .i64 0, .int .i64 0, .int .u8 0, .string ByteArray.empty, .slice none 0 0, .int .i64 0, .slice none 0 0] 69)
  have H := Lib.hid (h.below hb (Nat.le_refl _))
  have k1 := heap_alloc_new w (.cells #[.int .i64 0, .int .u8 0, .int .i64 0, .int .i64 0, .int .u8 0, .string ByteArray.empty, .slice none 0 0, .int .i64 0, .slice none 0 0] 69)
  clear h
  go_enter Tryd.func29, Tryd.ntmps29
  have K1 := Lib.hid k1
  have HB := Lib.hid hb
  clear k1 hb
  go_wp2_with fail
  refine (known_gone v _ H.out).mono ?_
  rintro e w1 ⟨rfl, hw⟩
  have hK := K1.out
  have hB := HB.out
  have HK := Lib.hid (show w1.heap[w.heap.size]? = some (.cells #[.int .i64 0, .int .u8 0, .int .i64 0, .int .i64 0, .int .u8 0, .string ByteArray.empty, .slice none 0 0, .int .i64 0, .slice none 0 0] 69 (0, 0)) ∧ Below w.heap.size w w1 by rw [← hw]; exact ⟨hK, hB⟩)
  clear hw hK hB K1 HB H
  have d0 : w1.cell? ⟨w.heap.size, 0, none⟩ = some (.int .i64 0) := Go.Joins.cell_of_block HK.out.1 0
  have f0 : w1.frozen? ⟨w.heap.size, 0, none⟩ = false := Go.Joins.unfrozen_of_block HK.out.1 0
  have d1 : w1.cell? ⟨w.heap.size, 1, none⟩ = some (.int .u8 0) := Go.Joins.cell_of_block HK.out.1 1
  have f1 : w1.frozen? ⟨w.heap.size, 1, none⟩ = false := Go.Joins.unfrozen_of_block HK.out.1 1
  have d2 : w1.cell? ⟨w.heap.size, 2, none⟩ = some (.int .i64 0) := Go.Joins.cell_of_block HK.out.1 2
  have f2 : w1.frozen? ⟨w.heap.size, 2, none⟩ = false := Go.Joins.unfrozen_of_block HK.out.1 2
  have d3 : w1.cell? ⟨w.heap.size, 3, none⟩ = some (.int .i64 0) := Go.Joins.cell_of_block HK.out.1 3
  have f3 : w1.frozen? ⟨w.heap.size, 3, none⟩ = false := Go.Joins.unfrozen_of_block HK.out.1 3
  have d4 : w1.cell? ⟨w.heap.size, 4, none⟩ = some (.int .u8 0) := Go.Joins.cell_of_block HK.out.1 4
  have f4 : w1.frozen? ⟨w.heap.size, 4, none⟩ = false := Go.Joins.unfrozen_of_block HK.out.1 4
  have d5 : w1.cell? ⟨w.heap.size, 5, none⟩ = some (.string ByteArray.empty) := Go.Joins.cell_of_block HK.out.1 5
  have f5 : w1.frozen? ⟨w.heap.size, 5, none⟩ = false := Go.Joins.unfrozen_of_block HK.out.1 5
  have d6 : w1.cell? ⟨w.heap.size, 6, none⟩ = some (.slice none 0 0) := Go.Joins.cell_of_block HK.out.1 6
  have f6 : w1.frozen? ⟨w.heap.size, 6, none⟩ = false := Go.Joins.unfrozen_of_block HK.out.1 6
  have d7 : w1.cell? ⟨w.heap.size, 7, none⟩ = some (.int .i64 0) := Go.Joins.cell_of_block HK.out.1 7
  have f7 : w1.frozen? ⟨w.heap.size, 7, none⟩ = false := Go.Joins.unfrozen_of_block HK.out.1 7
  have d8 : w1.cell? ⟨w.heap.size, 8, none⟩ = some (.slice none 0 0) := Go.Joins.cell_of_block HK.out.1 8
  have f8 : w1.frozen? ⟨w.heap.size, 8, none⟩ = false := Go.Joins.unfrozen_of_block HK.out.1 8
  go_wp2_with fail
  rw [setCell_idem HK.out.1 rfl, setCell_idem HK.out.1 rfl, setCell_idem HK.out.1 rfl, setCell_idem HK.out.1 rfl, setCell_idem HK.out.1 rfl, setCell_idem HK.out.1 rfl, setCell_idem HK.out.1 rfl, setCell_idem HK.out.1 rfl, setCell_idem HK.out.1 rfl]
  exact bodyPost_ret (v := .agg #[.int .i64 0, .int .u8 0, .int .i64 0, .int .i64 0, .int .u8 0, .string ByteArray.empty, .slice none 0 0, .int .i64 0, .slice none 0 0]) (by simp [results, Tryd.results29, go_sem, d0, d1, d2, d3, d4, d5, d6, d7, d8]) rfl ⟨rfl, HK.out.2⟩
end Go.Proofs.YtpjaghaapmbanaaDoor
