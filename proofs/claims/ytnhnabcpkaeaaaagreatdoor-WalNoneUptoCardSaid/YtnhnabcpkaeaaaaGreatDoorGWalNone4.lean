/- The reader of wire: Value. Conditions: the reader is one that was made. -/
import Derived.Test.YtnhnabcpkaeaaaaGreatDoorGWalNone3
import Derived.Test.YtnhnabcpkaeaaaaGreatDoorGWalNone1
import Derived.Test.YtnhnabcpkaeaaaaGreatDoorGWalNone0
import Derived.BigQuiet
import Derived.Test.YtnhnabcpkaeaaaaGreatDoorGWalNone2
set_option linter.unusedVariables false
set_option linter.unusedSimpArgs false
namespace Go.Proofs.YtnhnabcpkaeaaaaGreatDoor
open Go.RowKit
set_option maxRecDepth 20000
theorem Only.new {rb g i : Nat} {w w' : World} (h : Only rb w w') (hg : w.heap.size ≤ g) (v : Value) : Only rb w (w'.setCell ⟨g, i, none⟩ v) :=
  ⟨by simpa using h.1, fun b hb hn => (heap_setCell_other _ _ _ _ (show b ≠ g by omega)).trans (h.2 b hb hn), h.3⟩
theorem Only.alloc {rb : Nat} {w w' : World} (h : Only rb w w') (o : Obj) : Only rb w (w'.alloc o) := h.trans (Only.of_below ((Below.refl _ _).alloc (Nat.le_refl _) o))
theorem stored3 {w : World} {g : Nat} {a b c : Value} {T : TypeId} (h : w.heap[g]? = some (.cells #[a, b, c] T (0, 0))) (x y z : Value) : (((w.setCell ⟨g, 0, none⟩ x).setCell ⟨g, 1, none⟩ y).setCell ⟨g, 2, none⟩ z).heap[g]? = some (.cells #[x, y, z] T (0, 0)) :=
  Go.Joins.block_setCell (i := 2) (Go.Joins.block_setCell (i := 1) (Go.Joins.block_setCell (i := 0) h x) y) z
/-- What Value tells. -/
def valueS (bad : Bool) (left : List Int) : Va × Bool × List Int :=
  let k := takeS 1 bad left
  let kd := getN k.1
  if kd = 1 then
    let r := takeS 8 k.2.1 k.2.2
    (if r.2.1 then Va.none else ⟨1, IntKind.i64.wrap (getN r.1), ByteArray.empty⟩, r.2.1, r.2.2)
  else if kd = 2 then
    let r := textS k.2.1 k.2.2
    (if r.2.1 then Va.none else ⟨2, 0, r.1⟩, r.2.1, r.2.2)
  else (Va.none, true, k.2.2)
set_option maxHeartbeats 2000000 in
theorem value_rd (M rb : Nat) (bad : Bool) (left : List Int) (w : World) (h : Rdr w M rb bad left) (hw : BytesWf left) (hl : left.length ≤ 140737488351232) :
    Calls Tryz.prog 142 #[.pointer (some ⟨rb, 0, none⟩)] w fun e w' => e = .returned (valueS bad left).1.val ∧ Rdr w' M rb (valueS bad left).2.1 (valueS bad left).2.2 ∧ Only rb w w' := by
  have hrb := h.lt
  have hM : M ≤ w.heap.size := by obtain ⟨a, c, h⟩ := h; exact h.le
  have hA := (Below.refl w.heap.size w).alloc (Nat.le_refl _) (.cells #[.int .u8 0, .int .i64 0, .string ByteArray.empty] 132)
  have h0 : Rdr (w.alloc (.cells #[.int .u8 0, .int .i64 0, .string ByteArray.empty] 132)) M rb bad left := h.below hA
  have o0 : Only rb w (w.alloc (.cells #[.int .u8 0, .int .i64 0, .string ByteArray.empty] 132)) := Only.of_below hA
  have k0 := heap_alloc_new w (.cells #[.int .u8 0, .int .i64 0, .string ByteArray.empty] 132)
  have s0 : (w.alloc (.cells #[.int .u8 0, .int .i64 0, .string ByteArray.empty] 132)).heap.size = w.heap.size + 1 := by simp
  have H0 := Lib.hid h0
  have O0 := Lib.hid o0
  have K0 := Lib.hid k0
  have S0 := Lib.hid s0
  obtain ⟨v, b3, l3, hv⟩ : ∃ v b3 l3, valueS bad left = (v, b3, l3) := ⟨_, _, _, rfl⟩
  rw [hv]
  dsimp only
  have hwk := takeS_wf (n := 1) (bad := bad) hw
  have hkind := fun w1 (hr : Rdr w1 M rb bad left) => kind_any M rb bad left w1 hr hw hl
  unfold valueS at hv
  generalize takeS 1 bad left = r at hwk hkind hv
  obtain ⟨got, b1, l1⟩ := r
  dsimp only at hwk hkind hv
  generalize getN got = kd at hkind hv
  have HV := Lib.hid hv
  have HK := Lib.hid hkind
  have HW := Lib.hid hwk
  have hl1 : l1.length ≤ 140737488351232 := by have := hwk.2.2.2; omega
  clear h hA h0 o0 k0 s0 hkind hwk hw hv
  go_enter Tryz.func142, Tryz.ntmps142
  go_wp2_with fail
  refine (known_any M rb bad left _ H0.out).mono ?_
  rintro e w1 ⟨rfl, rfl⟩
  go_wp2_with fail
  refine (HK.out _ H0.out).mono ?_
  rintro e w1 ⟨rfl, hr1, ho1⟩
  have hs1 := ho1.1
  rw [S0.out] at hs1
  have hblk1 := (ho1.2 w.heap.size (by rw [S0.out]; omega) (by omega)).trans K0.out
  have R1 := Lib.hid hr1
  have O1 := Lib.hid (O0.out.trans ho1)
  have B1 := Lib.hid hblk1
  clear hr1 ho1 hblk1
  have hA1 := fun o => (Below.refl w1.heap.size w1).alloc (Nat.le_refl _) o
  by_cases hk1 : kd = 1
  · subst hk1
    go_wp2_with fail
    have hnum := number_rd M rb b1 l1 _ (R1.out.below (hA1 (.cells #[.int .u8 1, .int .i64 0, .string ByteArray.empty] 132))) HW.out.2.1 hl1
    have hv := HV.out
    rw [if_pos (by trivial)] at hv
    generalize takeS 8 b1 l1 = r at hnum hv
    obtain ⟨got2, b2, l2⟩ := r
    dsimp only at hnum hv
    generalize IntKind.i64.wrap (getN got2) = num at hnum hv
    have HV2 := Lib.hid hv
    clear hv
    refine hnum.mono ?_
    rintro e w2 ⟨rfl, hr2, ho2⟩
    have hs2 := ho2.1
    simp only [World.size_alloc] at hs2
    have ht := (ho2.2 w1.heap.size (by simp) (by omega)).trans (heap_alloc_new w1 (.cells #[.int .u8 1, .int .i64 0, .string ByteArray.empty] 132))
    have e0 : w2.cell? ⟨w1.heap.size, 0, none⟩ = some (.int .u8 1) := Go.Joins.cell_of_block ht 0
    have e1 : w2.cell? ⟨w1.heap.size, 1, none⟩ = some (.int .i64 0) := Go.Joins.cell_of_block ht 1
    have e2 : w2.cell? ⟨w1.heap.size, 2, none⟩ = some (.string ByteArray.empty) := Go.Joins.cell_of_block ht 2
    have f1 : w2.frozen? ⟨w1.heap.size, 1, none⟩ = false := Go.Joins.unfrozen_of_block ht 1
    have hz := (ho2.2 w.heap.size (by simp; omega) (by omega)).trans (((World.grownBy_alloc w1 (.cells #[.int .u8 1, .int .i64 0, .string ByteArray.empty] 132) Option.none).block w.heap.size (by omega) (by simp)).trans B1.out)
    have R2 := Lib.hid hr2
    have O2 := Lib.hid ((O1.out.alloc _).trans ho2)
    have Z2 := Lib.hid hz
    clear hr2 ho2 hz ht hnum
    go_wp2_with fail
    refine (sureV_rd M rb b2 l2 1 num ByteArray.empty _ (R2.out.other (by omega) (by omega) (.int .i64 num))).mono ?_
    rintro e w3 ⟨he, hb3⟩
    have hz3 := (hb3.block w.heap.size (by simp; omega)).trans ((heap_setCell_other _ _ _ _ (show w.heap.size ≠ w1.heap.size by omega)).trans Z2.out)
    have hr3 := (R2.out.other (g := w1.heap.size) (i := 1) (by omega) (by omega) (.int .i64 num)).below hb3
    have ho3 := (O2.out.new (g := w1.heap.size) (i := 1) (by omega) (.int .i64 num)).trans (Only.of_below hb3)
    clear e0 e1 e2 f1 hb3 R2 O2 Z2
    have z0 : w3.cell? ⟨w.heap.size, 0, none⟩ = some (.int .u8 0) := Go.Joins.cell_of_block hz3 0
    have z1 : w3.cell? ⟨w.heap.size, 1, none⟩ = some (.int .i64 0) := Go.Joins.cell_of_block hz3 1
    have z2 : w3.cell? ⟨w.heap.size, 2, none⟩ = some (.string ByteArray.empty) := Go.Joins.cell_of_block hz3 2
    have g0 : w3.frozen? ⟨w.heap.size, 0, none⟩ = false := Go.Joins.unfrozen_of_block hz3 0
    have g1 : w3.frozen? ⟨w.heap.size, 1, none⟩ = false := Go.Joins.unfrozen_of_block hz3 1
    have g2 : w3.frozen? ⟨w.heap.size, 2, none⟩ = false := Go.Joins.unfrozen_of_block hz3 2
    have R3 := Lib.hid hr3
    have O3 := Lib.hid ho3
    have Z3 := Lib.hid hz3
    clear hr3 ho3 hz3
    cases b2 with
    | true =>
      rw [if_pos rfl] at he
      unfold Va.none Va.val at he
      subst he
      go_wp2_with fail
      have q := stored3 Z3.out (.int .u8 0) (.int .i64 0) (.string ByteArray.empty)
      have r4 := ((R3.out.other (g := w.heap.size) (i := 0) hM (by omega) (.int .u8 0)).other (g := w.heap.size) (i := 1) hM (by omega) (.int .i64 0)).other (g := w.heap.size) (i := 2) hM (by omega) (.string ByteArray.empty)
      have o4 := ((O3.out.new (g := w.heap.size) (i := 0) (Nat.le_refl _) (.int .u8 0)).new (g := w.heap.size) (i := 1) (Nat.le_refl _) (.int .i64 0)).new (g := w.heap.size) (i := 2) (Nat.le_refl _) (.string ByteArray.empty)
      generalize (((w3.setCell ⟨w.heap.size, 0, none⟩ (.int .u8 0)).setCell ⟨w.heap.size, 1, none⟩ (.int .i64 0)).setCell ⟨w.heap.size, 2, none⟩ (.string ByteArray.empty)) = w4 at q r4 o4 ⊢
      have d0 : w4.cell? ⟨w.heap.size, 0, none⟩ = some (.int .u8 0) := Go.Joins.cell_of_block q 0
      have d1 : w4.cell? ⟨w.heap.size, 1, none⟩ = some (.int .i64 0) := Go.Joins.cell_of_block q 1
      have d2 : w4.cell? ⟨w.heap.size, 2, none⟩ = some (.string ByteArray.empty) := Go.Joins.cell_of_block q 2
      have hv := HV2.out
      simp only [if_true, if_false, Bool.false_eq_true, Prod.mk.injEq] at hv
      obtain ⟨rfl, rfl, rfl⟩ := hv
      exact bodyPost_ret (v := .agg #[.int .u8 0, .int .i64 0, .string ByteArray.empty]) (by simp [results, Tryz.results142, go_sem, d0, d1, d2]) rfl ⟨rfl, r4, o4⟩
    | false =>
      rw [if_neg (by simp)] at he
      subst he
      go_wp2_with fail
      have q := stored3 Z3.out (.int .u8 1) (.int .i64 num) (.string ByteArray.empty)
      have r4 := ((R3.out.other (g := w.heap.size) (i := 0) hM (by omega) (.int .u8 1)).other (g := w.heap.size) (i := 1) hM (by omega) (.int .i64 num)).other (g := w.heap.size) (i := 2) hM (by omega) (.string ByteArray.empty)
      have o4 := ((O3.out.new (g := w.heap.size) (i := 0) (Nat.le_refl _) (.int .u8 1)).new (g := w.heap.size) (i := 1) (Nat.le_refl _) (.int .i64 num)).new (g := w.heap.size) (i := 2) (Nat.le_refl _) (.string ByteArray.empty)
      generalize (((w3.setCell ⟨w.heap.size, 0, none⟩ (.int .u8 1)).setCell ⟨w.heap.size, 1, none⟩ (.int .i64 num)).setCell ⟨w.heap.size, 2, none⟩ (.string ByteArray.empty)) = w4 at q r4 o4 ⊢
      have d0 : w4.cell? ⟨w.heap.size, 0, none⟩ = some (.int .u8 1) := Go.Joins.cell_of_block q 0
      have d1 : w4.cell? ⟨w.heap.size, 1, none⟩ = some (.int .i64 num) := Go.Joins.cell_of_block q 1
      have d2 : w4.cell? ⟨w.heap.size, 2, none⟩ = some (.string ByteArray.empty) := Go.Joins.cell_of_block q 2
      have hv := HV2.out
      simp only [if_true, if_false, Bool.false_eq_true, Prod.mk.injEq] at hv
      obtain ⟨rfl, rfl, rfl⟩ := hv
      exact bodyPost_ret (v := .agg #[.int .u8 1, .int .i64 num, .string ByteArray.empty]) (by simp [results, Tryz.results142, go_sem, d0, d1, d2]) rfl ⟨rfl, r4, o4⟩
  · by_cases hk2 : kd = 2
    · subst hk2
      go_wp2_with fail
      have hnum := text_rd M rb b1 l1 _ (R1.out.below (hA1 (.cells #[.int .u8 2, .int .i64 0, .string ByteArray.empty] 132))) HW.out.2.1 hl1
      have hv := HV.out
      rw [if_neg hk1, if_pos (by trivial)] at hv
      generalize textS b1 l1 = r at hnum hv
      obtain ⟨txt, b2, l2⟩ := r
      dsimp only at hnum hv
      have HV2 := Lib.hid hv
      clear hv
      refine hnum.mono ?_
      rintro e w2 ⟨rfl, hr2, ho2⟩
      have hs2 := ho2.1
      simp only [World.size_alloc] at hs2
      have ht := (ho2.2 w1.heap.size (by simp) (by omega)).trans (heap_alloc_new w1 (.cells #[.int .u8 2, .int .i64 0, .string ByteArray.empty] 132))
      have e0 : w2.cell? ⟨w1.heap.size, 0, none⟩ = some (.int .u8 2) := Go.Joins.cell_of_block ht 0
      have e1 : w2.cell? ⟨w1.heap.size, 1, none⟩ = some (.int .i64 0) := Go.Joins.cell_of_block ht 1
      have e2 : w2.cell? ⟨w1.heap.size, 2, none⟩ = some (.string ByteArray.empty) := Go.Joins.cell_of_block ht 2
      have f1 : w2.frozen? ⟨w1.heap.size, 2, none⟩ = false := Go.Joins.unfrozen_of_block ht 2
      have hz := (ho2.2 w.heap.size (by simp; omega) (by omega)).trans (((World.grownBy_alloc w1 (.cells #[.int .u8 2, .int .i64 0, .string ByteArray.empty] 132) Option.none).block w.heap.size (by omega) (by simp)).trans B1.out)
      have R2 := Lib.hid hr2
      have O2 := Lib.hid ((O1.out.alloc _).trans ho2)
      have Z2 := Lib.hid hz
      clear hr2 ho2 hz ht hnum
      go_wp2_with fail
      refine (sureV_rd M rb b2 l2 2 0 txt _ (R2.out.other (by omega) (by omega) (.string txt))).mono ?_
      rintro e w3 ⟨he, hb3⟩
      have hz3 := (hb3.block w.heap.size (by simp; omega)).trans ((heap_setCell_other _ _ _ _ (show w.heap.size ≠ w1.heap.size by omega)).trans Z2.out)
      have hr3 := (R2.out.other (g := w1.heap.size) (i := 2) (by omega) (by omega) (.string txt)).below hb3
      have ho3 := (O2.out.new (g := w1.heap.size) (i := 2) (by omega) (.string txt)).trans (Only.of_below hb3)
      clear e0 e1 e2 f1 hb3 R2 O2 Z2
      have z0 : w3.cell? ⟨w.heap.size, 0, none⟩ = some (.int .u8 0) := Go.Joins.cell_of_block hz3 0
      have z1 : w3.cell? ⟨w.heap.size, 1, none⟩ = some (.int .i64 0) := Go.Joins.cell_of_block hz3 1
      have z2 : w3.cell? ⟨w.heap.size, 2, none⟩ = some (.string ByteArray.empty) := Go.Joins.cell_of_block hz3 2
      have g0 : w3.frozen? ⟨w.heap.size, 0, none⟩ = false := Go.Joins.unfrozen_of_block hz3 0
      have g1 : w3.frozen? ⟨w.heap.size, 1, none⟩ = false := Go.Joins.unfrozen_of_block hz3 1
      have g2 : w3.frozen? ⟨w.heap.size, 2, none⟩ = false := Go.Joins.unfrozen_of_block hz3 2
      have R3 := Lib.hid hr3
      have O3 := Lib.hid ho3
      have Z3 := Lib.hid hz3
      clear hr3 ho3 hz3
      cases b2 with
      | true =>
        rw [if_pos rfl] at he
        unfold Va.none Va.val at he
        subst he
        go_wp2_with fail
        have q := stored3 Z3.out (.int .u8 0) (.int .i64 0) (.string ByteArray.empty)
        have r4 := ((R3.out.other (g := w.heap.size) (i := 0) hM (by omega) (.int .u8 0)).other (g := w.heap.size) (i := 1) hM (by omega) (.int .i64 0)).other (g := w.heap.size) (i := 2) hM (by omega) (.string ByteArray.empty)
        have o4 := ((O3.out.new (g := w.heap.size) (i := 0) (Nat.le_refl _) (.int .u8 0)).new (g := w.heap.size) (i := 1) (Nat.le_refl _) (.int .i64 0)).new (g := w.heap.size) (i := 2) (Nat.le_refl _) (.string ByteArray.empty)
        generalize (((w3.setCell ⟨w.heap.size, 0, none⟩ (.int .u8 0)).setCell ⟨w.heap.size, 1, none⟩ (.int .i64 0)).setCell ⟨w.heap.size, 2, none⟩ (.string ByteArray.empty)) = w4 at q r4 o4 ⊢
        have d0 : w4.cell? ⟨w.heap.size, 0, none⟩ = some (.int .u8 0) := Go.Joins.cell_of_block q 0
        have d1 : w4.cell? ⟨w.heap.size, 1, none⟩ = some (.int .i64 0) := Go.Joins.cell_of_block q 1
        have d2 : w4.cell? ⟨w.heap.size, 2, none⟩ = some (.string ByteArray.empty) := Go.Joins.cell_of_block q 2
        have hv := HV2.out
        simp only [if_true, if_false, Bool.false_eq_true, Prod.mk.injEq] at hv
        obtain ⟨rfl, rfl, rfl⟩ := hv
        exact bodyPost_ret (v := .agg #[.int .u8 0, .int .i64 0, .string ByteArray.empty]) (by simp [results, Tryz.results142, go_sem, d0, d1, d2]) rfl ⟨rfl, r4, o4⟩
      | false =>
        rw [if_neg (by simp)] at he
        subst he
        go_wp2_with fail
        have q := stored3 Z3.out (.int .u8 2) (.int .i64 0) (.string txt)
        have r4 := ((R3.out.other (g := w.heap.size) (i := 0) hM (by omega) (.int .u8 2)).other (g := w.heap.size) (i := 1) hM (by omega) (.int .i64 0)).other (g := w.heap.size) (i := 2) hM (by omega) (.string txt)
        have o4 := ((O3.out.new (g := w.heap.size) (i := 0) (Nat.le_refl _) (.int .u8 2)).new (g := w.heap.size) (i := 1) (Nat.le_refl _) (.int .i64 0)).new (g := w.heap.size) (i := 2) (Nat.le_refl _) (.string txt)
        generalize (((w3.setCell ⟨w.heap.size, 0, none⟩ (.int .u8 2)).setCell ⟨w.heap.size, 1, none⟩ (.int .i64 0)).setCell ⟨w.heap.size, 2, none⟩ (.string txt)) = w4 at q r4 o4 ⊢
        have d0 : w4.cell? ⟨w.heap.size, 0, none⟩ = some (.int .u8 2) := Go.Joins.cell_of_block q 0
        have d1 : w4.cell? ⟨w.heap.size, 1, none⟩ = some (.int .i64 0) := Go.Joins.cell_of_block q 1
        have d2 : w4.cell? ⟨w.heap.size, 2, none⟩ = some (.string txt) := Go.Joins.cell_of_block q 2
        have hv := HV2.out
        simp only [if_true, if_false, Bool.false_eq_true, Prod.mk.injEq] at hv
        obtain ⟨rfl, rfl, rfl⟩ := hv
        exact bodyPost_ret (v := .agg #[.int .u8 2, .int .i64 0, .string txt]) (by simp [results, Tryz.results142, go_sem, d0, d1, d2]) rfl ⟨rfl, r4, o4⟩
    · have n1 : (kd == 1) = false := by simpa using hk1
      have n2 : decide (kd = 1) = false := by simpa using hk1
      have n3 : (kd == 2) = false := by simpa using hk2
      have n4 : decide (kd = 2) = false := by simpa using hk2
      have hr2 := R1.out.below (hA1 (.cells #[.int .u8 kd, .int .i64 0, .string ByteArray.empty] 132))
      obtain ⟨ca, cc, _, c1', _, cf'⟩ := R1.out.cells
      have hrl := R1.out.lt
      have c1 : ∀ o, (w1.alloc o).cell? ⟨rb, 1, none⟩ = some (.bool b1) := fun o => ((hA1 o).cell (p := ⟨rb, 1, none⟩) hrl).trans c1'
      have cf : ∀ o, (w1.alloc o).frozen? ⟨rb, 1, none⟩ = false := fun o => ((hA1 o).frozen (p := ⟨rb, 1, none⟩) hrl).trans cf'
      clear c1' cf'
      have ht := heap_alloc_new w1 (.cells #[.int .u8 kd, .int .i64 0, .string ByteArray.empty] 132)
      have e0 : (w1.alloc (.cells #[.int .u8 kd, .int .i64 0, .string ByteArray.empty] 132)).cell? ⟨w1.heap.size, 0, none⟩ = some (.int .u8 kd) := Go.Joins.cell_of_block ht 0
      have e1 : (w1.alloc (.cells #[.int .u8 kd, .int .i64 0, .string ByteArray.empty] 132)).cell? ⟨w1.heap.size, 1, none⟩ = some (.int .i64 0) := Go.Joins.cell_of_block ht 1
      have e2 : (w1.alloc (.cells #[.int .u8 kd, .int .i64 0, .string ByteArray.empty] 132)).cell? ⟨w1.heap.size, 2, none⟩ = some (.string ByteArray.empty) := Go.Joins.cell_of_block ht 2
      have hz := ((World.grownBy_alloc w1 (.cells #[.int .u8 kd, .int .i64 0, .string ByteArray.empty] 132) Option.none).block w.heap.size (by omega) (by simp)).trans B1.out
      have R2 := Lib.hid ((R1.out.setBad true).below ((Below.refl _ _).alloc (Nat.le_refl _) (.cells #[.int .u8 kd, .int .i64 0, .string ByteArray.empty] 132)))
      have O2 := Lib.hid ((O1.out.trans (Only.set rb _ 1 (.bool true))).alloc (.cells #[.int .u8 kd, .int .i64 0, .string ByteArray.empty] 132))
      have hz2 := ((World.grownBy_alloc (w1.setCell ⟨rb, 1, none⟩ (.bool true)) (.cells #[.int .u8 kd, .int .i64 0, .string ByteArray.empty] 132) Option.none).block w.heap.size (by simp; omega) (by simp)).trans ((heap_setCell_other _ _ _ _ (show w.heap.size ≠ rb by omega)).trans B1.out)
      have Z2 := Lib.hid hz2
      clear hr2 ht hz hz2
      go_wp2_with fail
      refine (sureV_rd M rb true l1 kd 0 ByteArray.empty _ R2.out).mono ?_
      rintro e w3 ⟨he, hb3⟩
      have hz3 := (hb3.block w.heap.size (by simp; omega)).trans Z2.out
      have hr3 := R2.out.below hb3
      have ho3 := O2.out.trans (Only.of_below hb3)
      clear e0 e1 e2 hb3 R2 O2 Z2 c1 cf
      have z0 : w3.cell? ⟨w.heap.size, 0, none⟩ = some (.int .u8 0) := Go.Joins.cell_of_block hz3 0
      have z1 : w3.cell? ⟨w.heap.size, 1, none⟩ = some (.int .i64 0) := Go.Joins.cell_of_block hz3 1
      have z2 : w3.cell? ⟨w.heap.size, 2, none⟩ = some (.string ByteArray.empty) := Go.Joins.cell_of_block hz3 2
      have g0 : w3.frozen? ⟨w.heap.size, 0, none⟩ = false := Go.Joins.unfrozen_of_block hz3 0
      have g1 : w3.frozen? ⟨w.heap.size, 1, none⟩ = false := Go.Joins.unfrozen_of_block hz3 1
      have g2 : w3.frozen? ⟨w.heap.size, 2, none⟩ = false := Go.Joins.unfrozen_of_block hz3 2
      have R3 := Lib.hid hr3
      have O3 := Lib.hid ho3
      have Z3 := Lib.hid hz3
      clear hr3 ho3 hz3
      rw [if_pos rfl] at he
      unfold Va.none Va.val at he
      subst he
      go_wp2_with fail
      have q := stored3 Z3.out (.int .u8 0) (.int .i64 0) (.string ByteArray.empty)
      have r4 := ((R3.out.other (g := w.heap.size) (i := 0) hM (by omega) (.int .u8 0)).other (g := w.heap.size) (i := 1) hM (by omega) (.int .i64 0)).other (g := w.heap.size) (i := 2) hM (by omega) (.string ByteArray.empty)
      have o4 := ((O3.out.new (g := w.heap.size) (i := 0) (Nat.le_refl _) (.int .u8 0)).new (g := w.heap.size) (i := 1) (Nat.le_refl _) (.int .i64 0)).new (g := w.heap.size) (i := 2) (Nat.le_refl _) (.string ByteArray.empty)
      generalize (((w3.setCell ⟨w.heap.size, 0, none⟩ (.int .u8 0)).setCell ⟨w.heap.size, 1, none⟩ (.int .i64 0)).setCell ⟨w.heap.size, 2, none⟩ (.string ByteArray.empty)) = w4 at q r4 o4 ⊢
      have d0 : w4.cell? ⟨w.heap.size, 0, none⟩ = some (.int .u8 0) := Go.Joins.cell_of_block q 0
      have d1 : w4.cell? ⟨w.heap.size, 1, none⟩ = some (.int .i64 0) := Go.Joins.cell_of_block q 1
      have d2 : w4.cell? ⟨w.heap.size, 2, none⟩ = some (.string ByteArray.empty) := Go.Joins.cell_of_block q 2
      have hv := HV.out
      rw [if_neg hk1, if_neg hk2] at hv
      simp only [Prod.mk.injEq] at hv
      obtain ⟨rfl, rfl, rfl⟩ := hv
      exact bodyPost_ret (v := .agg #[.int .u8 0, .int .i64 0, .string ByteArray.empty]) (by simp [results, Tryz.results142, go_sem, d0, d1, d2]) rfl ⟨rfl, r4, o4⟩
end Go.Proofs.YtnhnabcpkaeaaaaGreatDoor
/- SameBytes: bytes that read alike are told to be the same. Conditions: the cells lie as their readings say. -/
namespace Go.Proofs.YtnhnabcpkaeaaaaGreatDoor
open Go.RowKit
set_option maxRecDepth 20000
end Go.Proofs.YtnhnabcpkaeaaaaGreatDoor
/- Join of wire; a reader's Number and Value with what they tell under names. Conditions: as each says. -/
namespace Go.Proofs.YtnhnabcpkaeaaaaGreatDoor
open Go.RowKit
set_option maxRecDepth 20000
theorem wjoin_x (ao : Option Addr) (n cap : Nat) (ps : List Pt) (L : List Int) (w : World) (B : Nat) (hn : ps.length = n) (hL : ps.flatMap Pt.data = L) (hx : RowsIn 1 ptCells ptSub w B ao ps) (hB : B ≤ w.heap.size) (hw : ∀ p ∈ ps, BytesWf p.data) (hc : n ≤ cap) (hl : L.length ≤ 140737488351232) (hnl : n ≤ 1099511627776) :
    Calls Tryz.prog 86 #[.slice ao n cap] w (JoinedX L w) := by
  have HJ := Lib.hid (join_x ao n cap ps w B hn hx hB hw hc (by rw [hL]; exact hl) hnl)
  rw [hL] at HJ
  clear hn hx hw hL
  go_enter Tryz.func86, Tryz.ntmps86
  go_wp2_with fail
  refine HJ.out.mono ?_
  rintro e w1 ⟨a, c, rfl, h1, h2, h3, h4, h6, h5⟩
  have H := Lib.hid (And.intro h4 h6)
  clear h4 h6
  go_wp2_with fail
  go_ret
  exact ⟨a, c, rfl, h1, h2, h3, H.out.1, H.out.2, h5⟩
theorem wjoin_any (ao : Option Addr) (n cap : Nat) (ps : List Pt) (L : List Int) (w : World) (B : Nat) (hn : ps.length = n) (hL : ps.flatMap Pt.data = L) (hx : RowsIn 1 ptCells ptSub w B ao ps) (hB : B ≤ w.heap.size) (hw : ∀ p ∈ ps, BytesWf p.data) (hc : n ≤ cap) (hl : L.length ≤ 140737488351232) (hnl : n ≤ 1099511627776) :
    Calls Tryz.prog 86 #[.slice ao n cap] w (JoinedAt L w) := (wjoin_x ao n cap ps L w B hn hL hx hB hw hc hl hnl).mono fun _ _ h => h.drop
theorem number_at (M rb : Nat) (bad : Bool) (left : List Int) (v : Int) (b2 : Bool) (l2 : List Int) (w : World) (hs : (IntKind.i64.wrap (getN (takeS 8 bad left).1), (takeS 8 bad left).2) = (v, b2, l2)) (h : Rdr w M rb bad left) (hw : BytesWf left) (hl : left.length ≤ 140737488351232) :
    Calls Tryz.prog 68 #[.pointer (some ⟨rb, 0, none⟩)] w (SaidAt M rb v b2 l2 w) := by
  have := number_rd M rb bad left w h hw hl
  simp only [Prod.mk.injEq] at hs
  obtain ⟨h1, h2⟩ := hs
  rw [h1, h2] at this
  exact this
/-- Bytes of a call's own, with their list under a name. -/
theorem number_w (n : Int) (L : List Int) (w : World) (hL : numB 8 n = L) : Calls Tryz.prog 87 #[.int .i64 n] w (BytesNew L w.heap.size w) := hL ▸ number_any n w
theorem own_in {w : World} {base n c : Nat} {a : Option Addr} {l : List Int} (hn : l.length = n) (h : w.ownsRow base 5 1 (.slice a n c) n (l.map bv)) : BytesIn w w.heap.size a l := by
  subst hn; exact own_bytes' h
theorem rowsIn_block {α : Type} {k : Nat} {cells : α → List Value} {sub : World → Nat → α → Prop} (hk : ∀ x, (cells x).length = k) {w : World} {b B : Nat} {T : TypeId} {fz : Nat × Nat} (xs : List α) (cs : Array Value) (h : w.heap[b]? = some (.cells cs T fz)) (hcs : cs.toList = xs.flatMap cells) (hb : b < B) (hs : ∀ x ∈ xs, sub w B x) : RowsIn k cells sub w B (some ⟨b, 0, none⟩) xs := by
  refine Or.inr ⟨b, 0, rfl, hb, fun i x hx => ⟨fun j hj => ?_, hs x (List.mem_of_getElem? hx)⟩⟩
  rw [Go.Joins.cell_of_block h (0 + i * k + j), ← Array.getElem?_toList, hcs, Nat.zero_add]
  exact flat_get hk xs i x hx j hj
end Go.Proofs.YtnhnabcpkaeaaaaGreatDoor
/- SameInts, SameValues, SameCommand, SameEntry, SameEntries: what reads alike is told to be the same. Conditions: the cells lie as their readings say. -/
namespace Go.Proofs.YtnhnabcpkaeaaaaGreatDoor
open Go.RowKit
set_option maxRecDepth 20000
theorem same_val (t : TypeId) (h : t = 132) (a b : Int) (s : ByteArray) (w : World) : (binOp .neq t (.agg #[.int .u8 a, .int .i64 b, .string s]) (.agg #[.int .u8 a, .int .i64 b, .string s])).run Tryz.prog w = .ok (.bool false) w := by
  subst h
  simp [go_sem, Tryz.underlying132]
theorem sameI_any (ao : Option Addr) (n cap : Nat) (co : Option Addr) (m cap2 : Nat) (xs : List Int) (w : World) (B : Nat) (hn : xs.length = n) (hm : xs.length = m) (hx : NumsIn w B ao xs) (hy : NumsIn w B co xs) (hB : B ≤ w.heap.size) (hl : n ≤ 4611686018427387904) :
    Calls Tryz.prog 110 #[.slice ao n cap, .slice co m cap2] w fun e w' => e = .returned (.bool true) ∧ Below w.heap.size w w' := by
  obtain rfl : n = m := by omega
  have HX := Lib.hid (hx.mono noSub_rising hB)
  have HY := Lib.hid (hy.mono noSub_rising hB)
  have HN := Lib.hid hn
  clear hx hy hn hm
  go_enter Tryz.func110, Tryz.ntmps110
  go_wp2_with fail
  go_loopw [5] (fun i wr => ∃ k : Nat, k ≤ n ∧ i = .int .i64 k ∧ Below w.heap.size w wr) (fun i _ => n - (intOf i).toNat)
  case atStart => exact ⟨0, by omega, rfl, Below.refl _ _⟩
  case round =>
    obtain ⟨k, hk, rfl, hbel⟩ := hrel
    by_cases hlt : k < n
    · have hkx : xs[k]? = some (xs[k]'(by rw [HN.out]; exact hlt)) := List.getElem?_eq_getElem _
      obtain ⟨b, off, hao, hb, hc, _⟩ := HX.out.at hkx
      obtain ⟨b2, off2, hco, hb2, hc2, _⟩ := HY.out.at hkx
      have d0 := hc 0 (by decide)
      have d1 := hc2 0 (by decide)
      generalize xs[k]'(by rw [HN.out]; exact hlt) = x at d0 d1
      subst hao hco
      have c0 : ∀ x' : Calm w.heap.size w, x'.1.cell? ⟨b, off + k, none⟩ = some (.int .i64 x) := fun x' => x'.cell (by simpa [iCells] using d0) hb
      have c1 : ∀ x' : Calm w.heap.size w, x'.1.cell? ⟨b2, off2 + k, none⟩ = some (.int .i64 x) := fun x' => x'.cell (by simpa [iCells] using d1) hb2
      have i1 : (k : Int) < n := by omega
      clear d0 d1 hc hc2 hkx
      go_wp2_with fail
      refine wp_region_calm (B := w.heap.size) (W0 := w) hbel (by kernel_rfl) (by kernel_rfl) ?_
      repeat (go_big_quiet_step (fail))
      refine wpQuiet_nil ?_
      intro w5 hb5
      clear c0 c1
      go_wp2_with fail
      go_roundw
      case rel => exact ⟨k + 1, by omega, by go_num, hb5⟩
      case measure => simp [intOf]; omega
    · obtain rfl : k = n := by omega
      go_wp2_with fail
      go_ret
      exact ⟨rfl, hbel⟩
theorem sameV_any (ao : Option Addr) (n cap : Nat) (co : Option Addr) (m cap2 : Nat) (xs : List Va) (w : World) (B : Nat) (hn : xs.length = n) (hm : xs.length = m) (hx : ValsIn w B ao xs) (hy : ValsIn w B co xs) (hB : B ≤ w.heap.size) (hl : n ≤ 4611686018427387904) :
    Calls Tryz.prog 132 #[.slice ao n cap, .slice co m cap2] w fun e w' => e = .returned (.bool true) ∧ Below w.heap.size w w' := by
  obtain rfl : n = m := by omega
  have HX := Lib.hid (hx.mono noSub_rising hB)
  have HY := Lib.hid (hy.mono noSub_rising hB)
  have HN := Lib.hid hn
  clear hx hy hn hm
  go_enter Tryz.func132, Tryz.ntmps132
  go_wp2_with fail
  go_loopw [5] (fun i wr => ∃ k : Nat, k ≤ n ∧ i = .int .i64 k ∧ Below w.heap.size w wr) (fun i _ => n - (intOf i).toNat)
  case atStart => exact ⟨0, by omega, rfl, Below.refl _ _⟩
  case round =>
    obtain ⟨k, hk, rfl, hbel⟩ := hrel
    by_cases hlt : k < n
    · have hkx : xs[k]? = some (xs[k]'(by rw [HN.out]; exact hlt)) := List.getElem?_eq_getElem _
      obtain ⟨b, off, hao, hb, hc, _⟩ := HX.out.at hkx
      obtain ⟨b2, off2, hco, hb2, hc2, _⟩ := HY.out.at hkx
      have d0 := hc 0 (by decide)
      have d1 := hc 1 (by decide)
      have d2 := hc 2 (by decide)
      have g0 := hc2 0 (by decide)
      have g1 := hc2 1 (by decide)
      have g2 := hc2 2 (by decide)
      generalize xs[k]'(by rw [HN.out]; exact hlt) = x at d0 d1 d2 g0 g1 g2
      obtain ⟨xk, xn, xt⟩ := x
      subst hao hco
      have c0 : ∀ x' : Calm w.heap.size w, x'.1.cell? ⟨b, off + k * 3, none⟩ = some (.int .u8 xk) := fun x' => x'.cell d0 hb
      have c1 : ∀ x' : Calm w.heap.size w, x'.1.cell? ⟨b, off + k * 3 + 1, none⟩ = some (.int .i64 xn) := fun x' => x'.cell d1 hb
      have c2 : ∀ x' : Calm w.heap.size w, x'.1.cell? ⟨b, off + k * 3 + 2, none⟩ = some (.string xt) := fun x' => x'.cell d2 hb
      have c2' : ∀ x' : Calm w.heap.size w, x'.1.cell? ⟨b, off + k * 3 + 1 + 1, none⟩ = some (.string xt) := c2
      have e0 : ∀ x' : Calm w.heap.size w, x'.1.cell? ⟨b2, off2 + k * 3, none⟩ = some (.int .u8 xk) := fun x' => x'.cell g0 hb2
      have e1 : ∀ x' : Calm w.heap.size w, x'.1.cell? ⟨b2, off2 + k * 3 + 1, none⟩ = some (.int .i64 xn) := fun x' => x'.cell g1 hb2
      have e2 : ∀ x' : Calm w.heap.size w, x'.1.cell? ⟨b2, off2 + k * 3 + 2, none⟩ = some (.string xt) := fun x' => x'.cell g2 hb2
      have e2' : ∀ x' : Calm w.heap.size w, x'.1.cell? ⟨b2, off2 + k * 3 + 1 + 1, none⟩ = some (.string xt) := e2
      have hq := fun w => same_val 132 rfl xk xn xt w
      have i1 : (k : Int) < n := by omega
      clear d0 d1 d2 g0 g1 g2 hc hc2 hkx
      go_wp2_with fail
      refine wp_region_calm (B := w.heap.size) (W0 := w) hbel (by kernel_rfl) (by kernel_rfl) ?_
      repeat (go_big_quiet_step (fail))
      refine wpQuiet_nil ?_
      intro w5 hb5
      clear c0 c1 c2 e0 e1 e2 c2' e2' hq
      go_wp2_with fail
      go_roundw
      case rel => exact ⟨k + 1, by omega, by go_num, hb5⟩
      case measure => simp [intOf]; omega
    · obtain rfl : k = n := by omega
      go_wp2_with fail
      go_ret
      exact ⟨rfl, hbel⟩
theorem sameC_any (ck : Int) (text : ByteArray) (num : Int) (ao : Option Addr) (n cap : Nat) (co : Option Addr) (cap2 : Nat) (xs : List Va) (w : World) (B : Nat) (hn : xs.length = n) (hx : ValsIn w B ao xs) (hy : ValsIn w B co xs) (hB : B ≤ w.heap.size) (hl : n ≤ 4611686018427387904) :
    Calls Tryz.prog 109 #[.agg #[.int .u8 ck, .string text, .slice ao n cap, .int .i64 num], .agg #[.int .u8 ck, .string text, .slice co n cap2, .int .i64 num]] w fun e w' => e = .returned (.bool true) ∧ Below w.heap.size w w' := by
  have HX := Lib.hid hx
  have HY := Lib.hid hy
  have HN := Lib.hid hn
  clear hx hy hn
  have hb := ((Below.refl w.heap.size w).alloc (Nat.le_refl _) (.cells #[.int .u8 ck, .string text, .slice ao n cap, .int .i64 num] 57)).alloc (by simp) (.cells #[.int .u8 ck, .string text, .slice co n cap2, .int .i64 num] 57)
  have hs1 := hb.size
  have k1 : ((w.alloc (.cells #[.int .u8 ck, .string text, .slice ao n cap, .int .i64 num] 57)).alloc (.cells #[.int .u8 ck, .string text, .slice co n cap2, .int .i64 num] 57)).heap[w.heap.size]? = some (.cells #[.int .u8 ck, .string text, .slice ao n cap, .int .i64 num] 57 (0, 0)) :=
    ((World.grownBy_alloc _ _ none).block _ (by simp) (by simp)).trans (heap_alloc_new w _)
  have k2 : ((w.alloc (.cells #[.int .u8 ck, .string text, .slice ao n cap, .int .i64 num] 57)).alloc (.cells #[.int .u8 ck, .string text, .slice co n cap2, .int .i64 num] 57)).heap[w.heap.size + 1]? = some (.cells #[.int .u8 ck, .string text, .slice co n cap2, .int .i64 num] 57 (0, 0)) := by
    have := heap_alloc_new (w.alloc (.cells #[.int .u8 ck, .string text, .slice ao n cap, .int .i64 num] 57)) (.cells #[.int .u8 ck, .string text, .slice co n cap2, .int .i64 num] 57)
    simpa using this
  have K1 := Lib.hid k1
  have K2 := Lib.hid k2
  clear k1 k2
  go_enter Tryz.func109, Tryz.ntmps109
  go_wp2_with fail
  refine (sameV_any ao n cap co n cap2 xs _ B HN.out HN.out (HX.out.below noSub_kept (hb.mono hB) (Nat.le_refl _)) (HY.out.below noSub_kept (hb.mono hB) (Nat.le_refl _)) (Nat.le_trans hB hs1) hl).mono ?_
  rintro e w' ⟨rfl, hb2⟩
  have hlt1 := (Array.getElem?_eq_some_iff.1 K1.out).1
  have hlt2 := (Array.getElem?_eq_some_iff.1 K2.out).1
  have c1 : w'.cell? ⟨w.heap.size, 3, none⟩ = some (.int .i64 num) := Go.Joins.cell_of_block ((hb2.block _ hlt1).trans K1.out) 3
  have c2 : w'.cell? ⟨w.heap.size + 1, 3, none⟩ = some (.int .i64 num) := Go.Joins.cell_of_block ((hb2.block _ hlt2).trans K2.out) 3
  have hb3 := hb.trans (hb2.mono hs1)
  go_wp2_with fail
  go_ret
  exact ⟨rfl, hb3⟩
theorem sameE_any (x y : En) (w : World) (B : Nat) (hp : x.plain = y.plain) (hx : enSub w B x) (hy : enSub w B y) (hB : B ≤ w.heap.size) (hl : x.args.length ≤ 4611686018427387904) (hl2 : x.vs.length ≤ 4611686018427387904) :
    Calls Tryz.prog 81 #[enVal x, enVal y] w fun e w' => e = .returned (.bool true) ∧ Below w.heap.size w w' := by
  obtain ⟨t, k, s, q, ck, text, aao, args, acap, num, vao, vs, vcap⟩ := x
  obtain ⟨t2, k2, s2, q2, ck2, text2, aao2, args2, acap2, num2, vao2, vs2, vcap2⟩ := y
  simp only [En.plain, EnP.mk.injEq] at hp
  obtain ⟨rfl, rfl, rfl, rfl, rfl, rfl, rfl, rfl, rfl⟩ := hp
  unfold enVal
  dsimp only at hl hl2 ⊢
  have HX := Lib.hid hx
  have HY := Lib.hid hy
  clear hx hy
  obtain ⟨n, hn⟩ : ∃ n, args.length = n := ⟨_, rfl⟩
  obtain ⟨m, hm⟩ : ∃ m, vs.length = m := ⟨_, rfl⟩
  rw [hn] at hl ⊢
  rw [hm] at hl2 ⊢
  have HN := Lib.hid hn
  have HM := Lib.hid hm
  clear hn hm
  have hb := ((Below.refl w.heap.size w).alloc (Nat.le_refl _) (.cells #[.int .i64 t, .int .u8 k, .int .i64 s, .int .i64 q, .int .u8 ck, .string text, .slice aao n acap, .int .i64 num, .slice vao m vcap] 60)).alloc (by simp) (.cells #[.int .i64 t, .int .u8 k, .int .i64 s, .int .i64 q, .int .u8 ck, .string text, .slice aao2 n acap2, .int .i64 num, .slice vao2 m vcap2] 60)
  have hs1 := hb.size
  have k1 : ((w.alloc (.cells #[.int .i64 t, .int .u8 k, .int .i64 s, .int .i64 q, .int .u8 ck, .string text, .slice aao n acap, .int .i64 num, .slice vao m vcap] 60)).alloc (.cells #[.int .i64 t, .int .u8 k, .int .i64 s, .int .i64 q, .int .u8 ck, .string text, .slice aao2 n acap2, .int .i64 num, .slice vao2 m vcap2] 60)).heap[w.heap.size]? = some (.cells #[.int .i64 t, .int .u8 k, .int .i64 s, .int .i64 q, .int .u8 ck, .string text, .slice aao n acap, .int .i64 num, .slice vao m vcap] 60 (0, 0)) :=
    ((World.grownBy_alloc _ _ none).block _ (by simp) (by simp)).trans (heap_alloc_new w _)
  have k2 : ((w.alloc (.cells #[.int .i64 t, .int .u8 k, .int .i64 s, .int .i64 q, .int .u8 ck, .string text, .slice aao n acap, .int .i64 num, .slice vao m vcap] 60)).alloc (.cells #[.int .i64 t, .int .u8 k, .int .i64 s, .int .i64 q, .int .u8 ck, .string text, .slice aao2 n acap2, .int .i64 num, .slice vao2 m vcap2] 60)).heap[w.heap.size + 1]? = some (.cells #[.int .i64 t, .int .u8 k, .int .i64 s, .int .i64 q, .int .u8 ck, .string text, .slice aao2 n acap2, .int .i64 num, .slice vao2 m vcap2] 60 (0, 0)) := by
    have := heap_alloc_new (w.alloc (.cells #[.int .i64 t, .int .u8 k, .int .i64 s, .int .i64 q, .int .u8 ck, .string text, .slice aao n acap, .int .i64 num, .slice vao m vcap] 60)) (.cells #[.int .i64 t, .int .u8 k, .int .i64 s, .int .i64 q, .int .u8 ck, .string text, .slice aao2 n acap2, .int .i64 num, .slice vao2 m vcap2] 60)
    simpa using this
  have K1 := Lib.hid k1
  have K2 := Lib.hid k2
  clear k1 k2
  go_enter Tryz.func81, Tryz.ntmps81
  go_wp2_with fail
  refine (sameC_any ck text num aao n acap aao2 acap2 args _ B HN.out (HX.out.1.below noSub_kept (hb.mono hB) (Nat.le_refl _)) (HY.out.1.below noSub_kept (hb.mono hB) (Nat.le_refl _)) (Nat.le_trans hB hs1) hl).mono ?_
  rintro e w' ⟨rfl, hb2⟩
  have hlt1 := (Array.getElem?_eq_some_iff.1 K1.out).1
  have hlt2 := (Array.getElem?_eq_some_iff.1 K2.out).1
  have c1 : w'.cell? ⟨w.heap.size, 8, none⟩ = some (.slice vao m vcap) := Go.Joins.cell_of_block ((hb2.block _ hlt1).trans K1.out) 8
  have c2 : w'.cell? ⟨w.heap.size + 1, 8, none⟩ = some (.slice vao2 m vcap2) := Go.Joins.cell_of_block ((hb2.block _ hlt2).trans K2.out) 8
  have hb3 := hb.trans (hb2.mono hs1)
  have hs3 := hb3.size
  go_wp2_with fail
  refine (sameI_any vao m vcap vao2 m vcap2 vs _ B HM.out HM.out (HX.out.2.below noSub_kept (hb3.mono hB) (Nat.le_refl _)) (HY.out.2.below noSub_kept (hb3.mono hB) (Nat.le_refl _)) (Nat.le_trans hB hs3) hl2).mono ?_
  rintro e w' ⟨rfl, hb4⟩
  clear c1 c2
  go_wp2_with fail
  go_ret
  exact ⟨rfl, hb3.trans (hb4.mono hs3)⟩
/-- An entry's lists have bounded lengths. -/
def EnSmall (e : En) : Prop := e.args.length ≤ 1099511627776 ∧ e.vs.length ≤ 1099511627776
theorem sameEs_any (ao : Option Addr) (n cap : Nat) (co : Option Addr) (m cap2 : Nat) (xs ys : List En) (w : World) (B : Nat) (hn : xs.length = n) (hm : ys.length = m) (he : xs.map En.plain = ys.map En.plain) (hx : EnsIn w B ao xs) (hy : EnsIn w B co ys) (hB : B ≤ w.heap.size) (hl : n ≤ 1099511627776) (hsm : ∀ x ∈ xs, EnSmall x) :
    Calls Tryz.prog 41 #[.slice ao n cap, .slice co m cap2] w fun e w' => e = .returned (.bool true) ∧ Below w.heap.size w w' := by
  have hnm : xs.length = ys.length := by have := congrArg List.length he; simpa using this
  obtain rfl : n = m := by omega
  have HX := Lib.hid (hx.mono enSub_rising hB)
  have HY := Lib.hid (hy.mono enSub_rising hB)
  have HN := Lib.hid hn
  have HM := Lib.hid hm
  have HE := Lib.hid he
  have HS := Lib.hid hsm
  clear hx hy hn hm he hnm hsm
  go_enter Tryz.func41, Tryz.ntmps41
  go_wp2_with fail
  go_loopw [5] (fun i wr => ∃ k : Nat, k ≤ n ∧ i = .int .i64 k ∧ Below w.heap.size w wr) (fun i _ => n - (intOf i).toNat)
  case atStart => exact ⟨0, by omega, rfl, Below.refl _ _⟩
  case round =>
    obtain ⟨k, hk, rfl, hbel⟩ := hrel
    by_cases hlt : k < n
    · have hkx : xs[k]? = some (xs[k]'(by rw [HN.out]; exact hlt)) := List.getElem?_eq_getElem _
      have hky : ys[k]? = some (ys[k]'(by rw [HM.out]; exact hlt)) := List.getElem?_eq_getElem _
      have hsx := HS.out _ (List.getElem_mem (l := xs) (n := k) (by rw [HN.out]; exact hlt))
      have hp : (xs[k]'(by rw [HN.out]; exact hlt)).plain = (ys[k]'(by rw [HM.out]; exact hlt)).plain := by
        have := congrArg (fun l => l[k]?) HE.out
        simp only [List.getElem?_map, hkx, hky] at this
        simpa using this
      obtain ⟨b, off, hao, hb, hc, hcs⟩ := HX.out.at hkx
      obtain ⟨b2, off2, hco, hb2, hc2, hcs2⟩ := HY.out.at hky
      generalize xs[k]'(by rw [HN.out]; exact hlt) = x at hc hcs hp hsx
      generalize ys[k]'(by rw [HM.out]; exact hlt) = y at hc2 hcs2 hp
      have hcall : ∀ x' : Calm w.heap.size w, Calls Tryz.prog 81 #[enVal x, enVal y] x'.1 fun e w' => e = .returned (.bool true) ∧ Below x'.1.heap.size x'.1 w' := fun x' =>
        sameE_any x y x'.1 w.heap.size hp (enSub_kept _ _ _ _ _ hcs x'.2 (Nat.le_refl _)) (enSub_kept _ _ _ _ _ hcs2 x'.2 (Nat.le_refl _)) x'.2.size (by have := hsx.1; omega) (by have := hsx.2; omega)
      obtain ⟨t, kd, s, q, ck, text, aao, args, acap, num, vao, vs, vcap⟩ := x
      obtain ⟨t2, kd2, s2, q2, ck2, text2, aao2, args2, acap2, num2, vao2, vs2, vcap2⟩ := y
      simp only [En.plain, EnP.mk.injEq] at hp
      obtain ⟨rfl, rfl, rfl, rfl, rfl, rfl, rfl, rfl, rfl⟩ := hp
      unfold enVal at hcall
      dsimp only at hcall
      obtain ⟨an, han⟩ : ∃ an, args.length = an := ⟨_, rfl⟩
      obtain ⟨vn, hvn⟩ : ∃ vn, vs.length = vn := ⟨_, rfl⟩
      rw [han, hvn] at hcall
      have HC := Lib.hid hcall
      subst hao hco
      have c0 : ∀ x' : Calm w.heap.size w, x'.1.cell? ⟨b, off + k * 9, none⟩ = some (.int .i64 t) := fun x' => x'.cell (hc 0 (by decide)) hb
      have c1 : ∀ x' : Calm w.heap.size w, x'.1.cell? ⟨b, off + k * 9 + 1, none⟩ = some (.int .u8 kd) := fun x' => x'.cell (hc 1 (by decide)) hb
      have c2 : ∀ x' : Calm w.heap.size w, x'.1.cell? ⟨b, off + k * 9 + 2, none⟩ = some (.int .i64 s) := fun x' => x'.cell (hc 2 (by decide)) hb
      have c3 : ∀ x' : Calm w.heap.size w, x'.1.cell? ⟨b, off + k * 9 + 3, none⟩ = some (.int .i64 q) := fun x' => x'.cell (hc 3 (by decide)) hb
      have c4 : ∀ x' : Calm w.heap.size w, x'.1.cell? ⟨b, off + k * 9 + 4, none⟩ = some (.int .u8 ck) := fun x' => x'.cell (hc 4 (by decide)) hb
      have c5 : ∀ x' : Calm w.heap.size w, x'.1.cell? ⟨b, off + k * 9 + 5, none⟩ = some (.string text) := fun x' => x'.cell (hc 5 (by decide)) hb
      have c6 : ∀ x' : Calm w.heap.size w, x'.1.cell? ⟨b, off + k * 9 + 6, none⟩ = some (.slice aao an acap) := fun x' => x'.cell (han ▸ hc 6 (by decide)) hb
      have c7 : ∀ x' : Calm w.heap.size w, x'.1.cell? ⟨b, off + k * 9 + 7, none⟩ = some (.int .i64 num) := fun x' => x'.cell (hc 7 (by decide)) hb
      have c8 : ∀ x' : Calm w.heap.size w, x'.1.cell? ⟨b, off + k * 9 + 8, none⟩ = some (.slice vao vn vcap) := fun x' => x'.cell (hvn ▸ hc 8 (by decide)) hb
      have e0 : ∀ x' : Calm w.heap.size w, x'.1.cell? ⟨b2, off2 + k * 9, none⟩ = some (.int .i64 t) := fun x' => x'.cell (hc2 0 (by decide)) hb2
      have e1 : ∀ x' : Calm w.heap.size w, x'.1.cell? ⟨b2, off2 + k * 9 + 1, none⟩ = some (.int .u8 kd) := fun x' => x'.cell (hc2 1 (by decide)) hb2
      have e2 : ∀ x' : Calm w.heap.size w, x'.1.cell? ⟨b2, off2 + k * 9 + 2, none⟩ = some (.int .i64 s) := fun x' => x'.cell (hc2 2 (by decide)) hb2
      have e3 : ∀ x' : Calm w.heap.size w, x'.1.cell? ⟨b2, off2 + k * 9 + 3, none⟩ = some (.int .i64 q) := fun x' => x'.cell (hc2 3 (by decide)) hb2
      have e4 : ∀ x' : Calm w.heap.size w, x'.1.cell? ⟨b2, off2 + k * 9 + 4, none⟩ = some (.int .u8 ck) := fun x' => x'.cell (hc2 4 (by decide)) hb2
      have e5 : ∀ x' : Calm w.heap.size w, x'.1.cell? ⟨b2, off2 + k * 9 + 5, none⟩ = some (.string text) := fun x' => x'.cell (hc2 5 (by decide)) hb2
      have e6 : ∀ x' : Calm w.heap.size w, x'.1.cell? ⟨b2, off2 + k * 9 + 6, none⟩ = some (.slice aao2 an acap2) := fun x' => x'.cell (han ▸ hc2 6 (by decide)) hb2
      have e7 : ∀ x' : Calm w.heap.size w, x'.1.cell? ⟨b2, off2 + k * 9 + 7, none⟩ = some (.int .i64 num) := fun x' => x'.cell (hc2 7 (by decide)) hb2
      have e8 : ∀ x' : Calm w.heap.size w, x'.1.cell? ⟨b2, off2 + k * 9 + 8, none⟩ = some (.slice vao2 vn vcap2) := fun x' => x'.cell (hvn ▸ hc2 8 (by decide)) hb2
      have i1 : (k : Int) < n := by omega
      clear hc hc2 hkx hky hcs hcs2 hsx hcall han hvn
      go_wp2_with fail
      refine wp_region_calm (B := w.heap.size) (W0 := w) hbel (by kernel_rfl) (by kernel_rfl) ?_
      repeat (go_big_quiet_step ((go_at_call 81; exact Calm.call (Nat.le_refl _) (HC.out _))))
      refine wpQuiet_nil ?_
      intro w5 hb5
      clear c0 c1 c2 c3 c4 c5 c6 c7 c8 e0 e1 e2 e3 e4 e5 e6 e7 e8
      go_wp2_with fail
      go_roundw
      case rel => exact ⟨k + 1, by omega, by go_num, hb5⟩
      case measure => simp [intOf]; omega
    · obtain rfl : k = n := by omega
      go_wp2_with fail
      go_ret
      exact ⟨rfl, hbel⟩
end Go.Proofs.YtnhnabcpkaeaaaaGreatDoor
/- Facts and replies as they lie in memory; SameFact, SameFacts, SameReply tell that what reads alike is the same. Conditions: the cells lie as their readings say. -/
namespace Go.Proofs.YtnhnabcpkaeaaaaGreatDoor
open Go.RowKit
set_option maxRecDepth 20000
end Go.Proofs.YtnhnabcpkaeaaaaGreatDoor
