/- SameInts, SameBytes, SameValues, SameCommand, SameEntry tell whether two read alike. Conditions: the cells lie as their readings say. -/
import Derived.Test.YtglgcjkglhlggaaGreatDoorGLetterPuts3
import Derived.Test.YtglgcjkglhlggaaGreatDoorGLetterPuts2
import Derived.Test.YtglgcjkglhlggaaGreatDoorGLetterPuts7
import Derived.Test.YtglgcjkglhlggaaGreatDoorGLetterPuts13
import Derived.Deep.DeepCutAuto
import Derived.Test.YtglgcjkglhlggaaGreatDoorGLetterPuts6
import Derived.Test.YtglgcjkglhlggaaGreatDoorGLetterPuts10
import Derived.Test.YtglgcjkglhlggaaGreatDoorGLetterPuts17
import Derived.Test.YtglgcjkglhlggaaGreatDoorGLetterPuts14
import Derived.Test.YtglgcjkglhlggaaGreatDoorGLetterPuts1
import Derived.Test.YtglgcjkglhlggaaGreatDoorGLetterPuts12
import Derived.Test.YtglgcjkglhlggaaGreatDoorGLetterPuts8
import Derived.Test.YtglgcjkglhlggaaGreatDoorGLetterPuts16
set_option linter.unusedVariables false
set_option linter.unusedSimpArgs false
namespace Go.Proofs.YtglgcjkglhlggaaGreatDoor
open Go.RowKit
set_option maxRecDepth 20000
theorem take_ne {α : Type} {xs ys : List α} {k : Nat} {x y : α} (hx : xs[k]? = some x) (hy : ys[k]? = some y) (h : x ≠ y) : xs ≠ ys := fun e => h (by rw [e, hy] at hx; exact (Option.some.inj hx).symm)
theorem take_eq_all {α : Type} {xs ys : List α} {n : Nat} (h : xs.take n = ys.take n) (hx : xs.length = n) (hy : ys.length = n) : xs = ys := by
  rwa [List.take_of_length_le (by omega), List.take_of_length_le (by omega)] at h
theorem take_step {α : Type} {xs ys : List α} {k : Nat} {x : α} (hx : xs[k]? = some x) (hy : ys[k]? = some x) (h : xs.take k = ys.take k) : xs.take (k + 1) = ys.take (k + 1) := by
  obtain ⟨h1, h2⟩ := List.getElem?_eq_some_iff.1 hx
  obtain ⟨h3, h4⟩ := List.getElem?_eq_some_iff.1 hy
  rw [List.take_succ_eq_append_getElem h1, List.take_succ_eq_append_getElem h3, h, h2, h4]
def DecAt (g : Bool) (w : World) (e : Ending) (w' : World) : Prop := e = .returned (.bool g) ∧ Below w.heap.size w w'
theorem neq_val (t : TypeId) (h : t = 58) (a b : Int) (s : ByteArray) (a2 b2 : Int) (s2 : ByteArray) (hne : (⟨a, b, s⟩ : Va) ≠ ⟨a2, b2, s2⟩) (w : World) : (binOp .neq t (.agg #[.int .u8 a, .int .i64 b, .string s]) (.agg #[.int .u8 a2, .int .i64 b2, .string s2])).run Tryz.prog w = .ok (.bool true) w := by
  subst h
  simp only [ne_eq, Va.mk.injEq] at hne
  simp [go_sem, Tryz.underlying58]
  exact fun h1 h2 h3 => hne ⟨h1, h2, toList_inj h3⟩
set_option maxHeartbeats 2000000 in
theorem sameI_dec (ao : Option Addr) (n cap : Nat) (co : Option Addr) (m cap2 : Nat) (xs ys : List Int) (w : World) (B : Nat) (hn : xs.length = n) (hm : ys.length = m) (hx : NumsIn w B ao xs) (hy : NumsIn w B co ys) (hB : B ≤ w.heap.size) (hl : n ≤ 4611686018427387904) (hl2 : m ≤ 4611686018427387904) (g : Bool) (hg : decide (xs = ys) = g) :
    Calls Tryz.prog 56 #[.slice ao n cap, .slice co m cap2] w (DecAt g w) := by
  by_cases hnm : n = m
  · subst hnm
    have HX := Lib.hid (hx.mono noSub_rising hB)
    have HY := Lib.hid (hy.mono noSub_rising hB)
    have HN := Lib.hid hn
    have HM := Lib.hid hm
    have HG := Lib.hid hg
    clear hx hy hn hm hg
    go_enter Tryz.func56, Tryz.ntmps56
    go_wp2_with fail
    go_loopw [5] (fun i wr => ∃ k : Nat, k ≤ n ∧ i = .int .i64 k ∧ xs.take k = ys.take k ∧ Below w.heap.size w wr) (fun i _ => n - (intOf i).toNat)
    case atStart => exact ⟨0, by omega, rfl, rfl, Below.refl _ _⟩
    case round =>
      obtain ⟨k, hk, rfl, htk, hbel⟩ := hrel
      have HT := Lib.hid htk
      clear htk
      by_cases hlt : k < n
      · have hkx : xs[k]? = some (xs[k]'(by rw [HN.out]; exact hlt)) := List.getElem?_eq_getElem _
        have hky : ys[k]? = some (ys[k]'(by rw [HM.out]; exact hlt)) := List.getElem?_eq_getElem _
        obtain ⟨b, off, hao, hb, hc, _⟩ := HX.out.at hkx
        obtain ⟨b2, off2, hco, hb2, hc2, _⟩ := HY.out.at hky
        generalize xs[k]'(by rw [HN.out]; exact hlt) = x at hc hkx
        generalize ys[k]'(by rw [HM.out]; exact hlt) = y at hc2 hky
        have HKX := Lib.hid hkx
        have HKY := Lib.hid hky
        subst hao hco
        have i1 : (k : Int) < n := by omega
        clear hkx hky
        have d0 := hc 0 (by decide)
        have d1 := hc2 0 (by decide)
        have c0 : ∀ x' : Calm w.heap.size w, x'.1.cell? ⟨b, off + k, none⟩ = some (.int .i64 x) := fun x' => x'.cell (by simpa [iCells] using d0) hb
        have c1 : ∀ x' : Calm w.heap.size w, x'.1.cell? ⟨b2, off2 + k, none⟩ = some (.int .i64 y) := fun x' => x'.cell (by simpa [iCells] using d1) hb2
        clear d0 d1 hc hc2
        by_cases hxy : x = y
        · subst hxy
          have hnew := take_step HKX.out HKY.out HT.out
          have HNEW := Lib.hid hnew
          clear hnew
          go_wp2_with fail
          refine wp_region_calm (B := w.heap.size) (W0 := w) hbel (by kernel_rfl) (by kernel_rfl) ?_
          repeat (go_big_quiet_step (fail))
          refine wpQuiet_nil ?_
          intro w5 hb5
          clear c0 c1
          go_wp2_with fail
          go_roundw
          case rel => exact ⟨k + 1, by omega, by go_num, HNEW.out, hb5⟩
          case measure => simp [intOf]; omega
        · have n1 : (x != y) = true := by simpa using hxy
          have n2 : (x == y) = false := by simpa using hxy
          have hg2 : g = false := by rw [← HG.out]; exact decide_eq_false (take_ne HKX.out HKY.out hxy)
          have HG2 := Lib.hid hg2
          clear hg2
          go_wp2_with fail
          refine wp_region_calm (B := w.heap.size) (W0 := w) hbel (by kernel_rfl) (by kernel_rfl) ?_
          repeat (go_big_quiet_step (fail))
          refine wpQuiet_nil ?_
          intro w5 hb5
          clear c0 c1
          go_wp2_with fail
          go_ret
          exact ⟨ret_bool HG2.out.symm, hb5⟩
      · obtain rfl : k = n := by omega
        have hg2 : g = true := by rw [← HG.out]; exact decide_eq_true (take_eq_all HT.out HN.out HM.out)
        have HG2 := Lib.hid hg2
        clear hg2
        go_wp2_with fail
        go_ret
        exact ⟨ret_bool HG2.out.symm, hbel⟩
  · have hg2 : g = false := by rw [← hg]; exact decide_eq_false (fun h => hnm (by rw [← hn, ← hm, h]))
    have i1 : ((n : Int) == m) = false := beq_eq_false_iff_ne.2 (by omega)
    have i2 : ((n : Int) != m) = true := bne_iff_ne.2 (by omega)
    have HG2 := Lib.hid hg2
    clear hg hg2 hn hm
    go_enter Tryz.func56, Tryz.ntmps56
    go_wp2_with fail
    go_ret
    exact ⟨ret_bool HG2.out.symm, Below.refl _ _⟩
set_option maxHeartbeats 2000000 in
theorem sameV_dec (ao : Option Addr) (n cap : Nat) (co : Option Addr) (m cap2 : Nat) (xs ys : List Va) (w : World) (B : Nat) (hn : xs.length = n) (hm : ys.length = m) (hx : ValsIn w B ao xs) (hy : ValsIn w B co ys) (hB : B ≤ w.heap.size) (hl : n ≤ 4611686018427387904) (hl2 : m ≤ 4611686018427387904) (g : Bool) (hg : decide (xs = ys) = g) :
    Calls Tryz.prog 127 #[.slice ao n cap, .slice co m cap2] w (DecAt g w) := by
  by_cases hnm : n = m
  · subst hnm
    have HX := Lib.hid (hx.mono noSub_rising hB)
    have HY := Lib.hid (hy.mono noSub_rising hB)
    have HN := Lib.hid hn
    have HM := Lib.hid hm
    have HG := Lib.hid hg
    clear hx hy hn hm hg
    go_enter Tryz.func127, Tryz.ntmps127
    go_wp2_with fail
    go_loopw [5] (fun i wr => ∃ k : Nat, k ≤ n ∧ i = .int .i64 k ∧ xs.take k = ys.take k ∧ Below w.heap.size w wr) (fun i _ => n - (intOf i).toNat)
    case atStart => exact ⟨0, by omega, rfl, rfl, Below.refl _ _⟩
    case round =>
      obtain ⟨k, hk, rfl, htk, hbel⟩ := hrel
      have HT := Lib.hid htk
      clear htk
      by_cases hlt : k < n
      · have hkx : xs[k]? = some (xs[k]'(by rw [HN.out]; exact hlt)) := List.getElem?_eq_getElem _
        have hky : ys[k]? = some (ys[k]'(by rw [HM.out]; exact hlt)) := List.getElem?_eq_getElem _
        obtain ⟨b, off, hao, hb, hc, _⟩ := HX.out.at hkx
        obtain ⟨b2, off2, hco, hb2, hc2, _⟩ := HY.out.at hky
        generalize xs[k]'(by rw [HN.out]; exact hlt) = x at hc hkx
        generalize ys[k]'(by rw [HM.out]; exact hlt) = y at hc2 hky
        have HKX := Lib.hid hkx
        have HKY := Lib.hid hky
        subst hao hco
        have i1 : (k : Int) < n := by omega
        clear hkx hky
        obtain ⟨x0, x1, x2⟩ := x
        obtain ⟨y0, y1, y2⟩ := y
        have c0 : ∀ x' : Calm w.heap.size w, x'.1.cell? ⟨b, off + k * 3, none⟩ = some (.int .u8 x0) := fun x' => x'.cell (hc 0 (by decide)) hb
        have c1 : ∀ x' : Calm w.heap.size w, x'.1.cell? ⟨b, off + k * 3 + 1, none⟩ = some (.int .i64 x1) := fun x' => x'.cell (hc 1 (by decide)) hb
        have c2 : ∀ x' : Calm w.heap.size w, x'.1.cell? ⟨b, off + k * 3 + 2, none⟩ = some (.string x2) := fun x' => x'.cell (hc 2 (by decide)) hb
        have c3 : ∀ x' : Calm w.heap.size w, x'.1.cell? ⟨b2, off2 + k * 3, none⟩ = some (.int .u8 y0) := fun x' => x'.cell (hc2 0 (by decide)) hb2
        have c4 : ∀ x' : Calm w.heap.size w, x'.1.cell? ⟨b2, off2 + k * 3 + 1, none⟩ = some (.int .i64 y1) := fun x' => x'.cell (hc2 1 (by decide)) hb2
        have c5 : ∀ x' : Calm w.heap.size w, x'.1.cell? ⟨b2, off2 + k * 3 + 2, none⟩ = some (.string y2) := fun x' => x'.cell (hc2 2 (by decide)) hb2
        clear hc hc2
        by_cases hxy : (⟨x0, x1, x2⟩ : Va) = ⟨y0, y1, y2⟩
        · simp only [Va.mk.injEq] at hxy
          obtain ⟨rfl, rfl, rfl⟩ := hxy
          have hsv := same_val 58 rfl x0 x1 x2
          have hnew := take_step HKX.out HKY.out HT.out
          have HNEW := Lib.hid hnew
          clear hnew
          go_wp2_with fail
          refine wp_region_calm (B := w.heap.size) (W0 := w) hbel (by kernel_rfl) (by kernel_rfl) ?_
          repeat (go_big_quiet_step (fail))
          refine wpQuiet_nil ?_
          intro w5 hb5
          clear c0 c1 c2 c3 c4 c5
          go_wp2_with fail
          go_roundw
          case rel => exact ⟨k + 1, by omega, by go_num, HNEW.out, hb5⟩
          case measure => simp [intOf]; omega
        · have hnv := neq_val 58 rfl x0 x1 x2 y0 y1 y2 hxy
          have hg2 : g = false := by rw [← HG.out]; exact decide_eq_false (take_ne HKX.out HKY.out hxy)
          have HG2 := Lib.hid hg2
          clear hg2
          go_wp2_with fail
          refine wp_region_calm (B := w.heap.size) (W0 := w) hbel (by kernel_rfl) (by kernel_rfl) ?_
          repeat (go_big_quiet_step (fail))
          refine wpQuiet_nil ?_
          intro w5 hb5
          clear c0 c1 c2 c3 c4 c5
          go_wp2_with fail
          go_ret
          exact ⟨ret_bool HG2.out.symm, hb5⟩
      · obtain rfl : k = n := by omega
        have hg2 : g = true := by rw [← HG.out]; exact decide_eq_true (take_eq_all HT.out HN.out HM.out)
        have HG2 := Lib.hid hg2
        clear hg2
        go_wp2_with fail
        go_ret
        exact ⟨ret_bool HG2.out.symm, hbel⟩
  · have hg2 : g = false := by rw [← hg]; exact decide_eq_false (fun h => hnm (by rw [← hn, ← hm, h]))
    have i1 : ((n : Int) == m) = false := beq_eq_false_iff_ne.2 (by omega)
    have i2 : ((n : Int) != m) = true := bne_iff_ne.2 (by omega)
    have HG2 := Lib.hid hg2
    clear hg hg2 hn hm
    go_enter Tryz.func127, Tryz.ntmps127
    go_wp2_with fail
    go_ret
    exact ⟨ret_bool HG2.out.symm, Below.refl _ _⟩
end Go.Proofs.YtglgcjkglhlggaaGreatDoor
/- SameCommand, SameEntry tell whether two say alike. Conditions: the cells lie as their readings say. -/
namespace Go.Proofs.YtglgcjkglhlggaaGreatDoor
open Go.RowKit
set_option maxRecDepth 20000
theorem no_of {g : Bool} {P : Prop} (h : g = true ↔ P) (hn : ¬ P) : g = false := by
  cases g with
  | false => rfl
  | true => exact absurd (h.1 rfl) hn
set_option maxHeartbeats 4000000 in
theorem sameC_dec (ck : Int) (text : ByteArray) (ao : Option Addr) (n cap : Nat) (xs : List Va) (num : Int) (ck2 : Int) (text2 : ByteArray) (co : Option Addr) (m cap2 : Nat) (ys : List Va) (num2 : Int) (w : World) (B : Nat) (hn : xs.length = n) (hm : ys.length = m) (hx : ValsIn w B ao xs) (hy : ValsIn w B co ys) (hB : B ≤ w.heap.size) (hl : n ≤ 4611686018427387904) (hl2 : m ≤ 4611686018427387904) (g : Bool) (hg : g = true ↔ (⟨ck, text, xs, num⟩ : CmP) = ⟨ck2, text2, ys, num2⟩) :
    Calls Tryz.prog 67 #[.agg #[.int .u8 ck, .string text, .slice ao n cap, .int .i64 num], .agg #[.int .u8 ck2, .string text2, .slice co m cap2, .int .i64 num2]] w (DecAt g w) := by
  obtain ⟨hb2, h1, h2, hz2⟩ := alloc2_facts w #[.int .u8 ck, .string text, .slice ao n cap, .int .i64 num] #[.int .u8 ck2, .string text2, .slice co m cap2, .int .i64 num2] 53 53
  have HB2 := Lib.hid hb2
  have H1 := Lib.hid h1
  have H2 := Lib.hid h2
  have HZ := Lib.hid (Nat.le_of_eq hz2.symm)
  have HG := Lib.hid hg
  have HC := Lib.hid (fun (w' : World) (hb : Below w.heap.size w w') (gg : Bool) (hgg : decide (xs = ys) = gg) => sameV_dec ao n cap co m cap2 xs ys w' B hn hm (hx.below noSub_kept hb hB) (hy.below noSub_kept hb hB) (Nat.le_trans hB hb.size) hl hl2 gg hgg)
  clear hb2 h1 h2 hz2 hg hn hm hx hy
  go_enter Tryz.func67, Tryz.ntmps67
  go_upto_region 1 with fail
  have hb2 := HB2.out
  have h1 := H1.out
  have h2 := H2.out
  have hz2 := HZ.out
  clear HB2 H1 H2 HZ
  generalize (w.alloc (.cells #[.int .u8 ck, .string text, .slice ao n cap, .int .i64 num] 53)).alloc (.cells #[.int .u8 ck2, .string text2, .slice co m cap2, .int .i64 num2] 53) = w2 at hb2 h1 h2 hz2 ⊢
  have H1 := Lib.hid h1
  have H2 := Lib.hid h2
  have HB2 := Lib.hid hb2
  have c0 : w2.cell? ⟨w.heap.size, 0, none⟩ = some (.int .u8 ck) := Go.Joins.cell_of_block h1 0
  have c1 : w2.cell? ⟨w.heap.size, 1, none⟩ = some (.string text) := Go.Joins.cell_of_block h1 1
  have c2 : w2.cell? ⟨w.heap.size, 2, none⟩ = some (.slice ao n cap) := Go.Joins.cell_of_block h1 2
  have d0 : w2.cell? ⟨w.heap.size + 1, 0, none⟩ = some (.int .u8 ck2) := Go.Joins.cell_of_block h2 0
  have d1 : w2.cell? ⟨w.heap.size + 1, 1, none⟩ = some (.string text2) := Go.Joins.cell_of_block h2 1
  have d2 : w2.cell? ⟨w.heap.size + 1, 2, none⟩ = some (.slice co m cap2) := Go.Joins.cell_of_block h2 2
  clear hb2 h1 h2
  by_cases hck : ck = ck2
  · subst hck
    by_cases htx : text = text2
    · subst htx
      obtain ⟨gg, hgg⟩ : ∃ gg, decide (xs = ys) = gg := ⟨_, rfl⟩
      have HGG := Lib.hid hgg
      clear hgg
      go_wp2_with fail
      refine (HC.out w2 HB2.out gg HGG.out).mono ?_
      rintro e w3 ⟨rfl, b3⟩
      have k1 := (b3.block w.heap.size (by omega)).trans H1.out
      have k2 := (b3.block (w.heap.size + 1) (by omega)).trans H2.out
      have e3 : w3.cell? ⟨w.heap.size, 3, none⟩ = some (.int .i64 num) := Go.Joins.cell_of_block k1 3
      have f3 : w3.cell? ⟨w.heap.size + 1, 3, none⟩ = some (.int .i64 num2) := Go.Joins.cell_of_block k2 3
      have HB3 := Lib.hid (HB2.out.trans (b3.mono (by omega)))
      clear b3 k1 k2 c0 c1 c2 d0 d1 d2
      cases gg with
      | false =>
        have hg2 : g = false := no_of HG.out (fun h => of_decide_eq_false HGG.out (by injection h))
        have HG2 := Lib.hid hg2
        clear hg2
        go_wp2_with fail
        go_ret
        exact ⟨ret_bool HG2.out.symm, HB3.out⟩
      | true =>
        have hxy : xs = ys := of_decide_eq_true HGG.out
        by_cases hnu : num = num2
        · subst hnu
          have hg2 : g = true := HG.out.2 (by rw [hxy])
          have HG2 := Lib.hid hg2
          clear hg2 hxy
          go_wp2_with fail
          go_ret
          exact ⟨ret_bool HG2.out.symm, HB3.out⟩
        · have hg2 : g = false := no_of HG.out (fun h => hnu (by injection h))
          have HG2 := Lib.hid hg2
          have n1 : (num == num2) = false := beq_eq_false_iff_ne.2 hnu
          clear hg2 hxy
          go_wp2_with fail
          go_ret
          exact ⟨ret_bool HG2.out.symm, HB3.out⟩
    · have hg2 : g = false := no_of HG.out (fun h => htx (by injection h))
      have HG2 := Lib.hid hg2
      have n1 : ¬ text.toList = text2.toList := fun h => htx (toList_inj h)
      have n2 : (text.toList == text2.toList) = false := beq_eq_false_iff_ne.2 n1
      have n3 : decide (text.toList = text2.toList) = false := decide_eq_false n1
      clear hg2
      go_wp2_with fail
      go_ret
      exact ⟨ret_bool HG2.out.symm, HB2.out⟩
  · have hg2 : g = false := no_of HG.out (fun h => hck (by injection h))
    have HG2 := Lib.hid hg2
    have n1 : (ck == ck2) = false := beq_eq_false_iff_ne.2 hck
    clear hg2
    go_wp2_with fail
    go_ret
    exact ⟨ret_bool HG2.out.symm, HB2.out⟩
end Go.Proofs.YtglgcjkglhlggaaGreatDoor
/- SameEntry tells whether two say alike. Conditions: the cells lie as their readings say. -/
namespace Go.Proofs.YtglgcjkglhlggaaGreatDoor
open Go.RowKit
set_option maxRecDepth 20000
set_option maxHeartbeats 8000000 in
theorem sameE_dec (x0 x1 x2 x3 ck : Int) (text : ByteArray) (ao : Option Addr) (n cap : Nat) (xs : List Va) (num : Int) (vo : Option Addr) (p vc : Nat) (vs : List Int) (y0 y1 y2 y3 ck2 : Int) (text2 : ByteArray) (co : Option Addr) (m cap2 : Nat) (ys : List Va) (num2 : Int) (vo2 : Option Addr) (p2 vc2 : Nat) (us : List Int) (w : World) (B : Nat)
    (hn : xs.length = n) (hm : ys.length = m) (hp : vs.length = p) (hp2 : us.length = p2) (hx : ValsIn w B ao xs) (hy : ValsIn w B co ys) (hv : NumsIn w B vo vs) (hu : NumsIn w B vo2 us) (hB : B ≤ w.heap.size) (hl : n ≤ 4611686018427387904) (hl2 : m ≤ 4611686018427387904) (hl3 : p ≤ 4611686018427387904) (hl4 : p2 ≤ 4611686018427387904) (g : Bool) (hg : g = true ↔ (⟨x0, x1, x2, x3, ck, text, xs, num, vs⟩ : EnP) = ⟨y0, y1, y2, y3, ck2, text2, ys, num2, us⟩) :
    Calls Tryz.prog 63 #[.agg #[.int .i64 x0, .int .u8 x1, .int .i64 x2, .int .i64 x3, .int .u8 ck, .string text, .slice ao n cap, .int .i64 num, .slice vo p vc], .agg #[.int .i64 y0, .int .u8 y1, .int .i64 y2, .int .i64 y3, .int .u8 ck2, .string text2, .slice co m cap2, .int .i64 num2, .slice vo2 p2 vc2]] w (DecAt g w) := by
  obtain ⟨hb2, h1, h2, hz2⟩ := alloc2_facts w #[.int .i64 x0, .int .u8 x1, .int .i64 x2, .int .i64 x3, .int .u8 ck, .string text, .slice ao n cap, .int .i64 num, .slice vo p vc] #[.int .i64 y0, .int .u8 y1, .int .i64 y2, .int .i64 y3, .int .u8 ck2, .string text2, .slice co m cap2, .int .i64 num2, .slice vo2 p2 vc2] 55 55
  have HB2 := Lib.hid hb2
  have H1 := Lib.hid h1
  have H2 := Lib.hid h2
  have HZ := Lib.hid (Nat.le_of_eq hz2.symm)
  have HG := Lib.hid hg
  have HC := Lib.hid (fun (w' : World) (hb : Below w.heap.size w w') (gg : Bool) (hgg : gg = true ↔ (⟨ck, text, xs, num⟩ : CmP) = ⟨ck2, text2, ys, num2⟩) => sameC_dec ck text ao n cap xs num ck2 text2 co m cap2 ys num2 w' B hn hm (hx.below noSub_kept hb hB) (hy.below noSub_kept hb hB) (Nat.le_trans hB hb.size) hl hl2 gg hgg)
  have HI := Lib.hid (fun (w' : World) (hb : Below w.heap.size w w') (gg : Bool) (hgg : decide (vs = us) = gg) => sameI_dec vo p vc vo2 p2 vc2 vs us w' B hp hp2 (hv.below noSub_kept hb hB) (hu.below noSub_kept hb hB) (Nat.le_trans hB hb.size) hl3 hl4 gg hgg)
  clear hb2 h1 h2 hz2 hg hn hm hx hy hp hp2 hv hu
  go_enter Tryz.func63, Tryz.ntmps63
  go_upto_region 1 with fail
  have hb2 := HB2.out
  have h1 := H1.out
  have h2 := H2.out
  have hz2 := HZ.out
  clear HB2 H1 H2 HZ
  generalize (w.alloc (.cells #[.int .i64 x0, .int .u8 x1, .int .i64 x2, .int .i64 x3, .int .u8 ck, .string text, .slice ao n cap, .int .i64 num, .slice vo p vc] 55)).alloc (.cells #[.int .i64 y0, .int .u8 y1, .int .i64 y2, .int .i64 y3, .int .u8 ck2, .string text2, .slice co m cap2, .int .i64 num2, .slice vo2 p2 vc2] 55) = w2 at hb2 h1 h2 hz2 ⊢
  have H1 := Lib.hid h1
  have H2 := Lib.hid h2
  have HB2 := Lib.hid hb2
  have c0 : w2.cell? ⟨w.heap.size, 0, none⟩ = some (.int .i64 x0) := Go.Joins.cell_of_block h1 0
  have c1 : w2.cell? ⟨w.heap.size, 1, none⟩ = some (.int .u8 x1) := Go.Joins.cell_of_block h1 1
  have c2 : w2.cell? ⟨w.heap.size, 2, none⟩ = some (.int .i64 x2) := Go.Joins.cell_of_block h1 2
  have c3 : w2.cell? ⟨w.heap.size, 3, none⟩ = some (.int .i64 x3) := Go.Joins.cell_of_block h1 3
  have d0 : w2.cell? ⟨w.heap.size + 1, 0, none⟩ = some (.int .i64 y0) := Go.Joins.cell_of_block h2 0
  have d1 : w2.cell? ⟨w.heap.size + 1, 1, none⟩ = some (.int .u8 y1) := Go.Joins.cell_of_block h2 1
  have d2 : w2.cell? ⟨w.heap.size + 1, 2, none⟩ = some (.int .i64 y2) := Go.Joins.cell_of_block h2 2
  have d3 : w2.cell? ⟨w.heap.size + 1, 3, none⟩ = some (.int .i64 y3) := Go.Joins.cell_of_block h2 3
  have rx0 : w2.cell? ⟨w.heap.size, 4, none⟩ = some (.int .u8 ck) := Go.Joins.cell_of_block h1 4
  have rx1 : w2.cell? ⟨w.heap.size, 5, none⟩ = some (.string text) := Go.Joins.cell_of_block h1 5
  have rx2 : w2.cell? ⟨w.heap.size, 6, none⟩ = some (.slice ao n cap) := Go.Joins.cell_of_block h1 6
  have rx3 : w2.cell? ⟨w.heap.size, 7, none⟩ = some (.int .i64 num) := Go.Joins.cell_of_block h1 7
  have rx : w2.rangeAt w.heap.size 4 [.int .u8 ck, .string text, .slice ao n cap, .int .i64 num] := range_cons rx0 (range_cons rx1 (range_cons rx2 (range_cons rx3 range_new)))
  clear rx0 rx1 rx2 rx3
  have ry0 : w2.cell? ⟨w.heap.size + 1, 4, none⟩ = some (.int .u8 ck2) := Go.Joins.cell_of_block h2 4
  have ry1 : w2.cell? ⟨w.heap.size + 1, 5, none⟩ = some (.string text2) := Go.Joins.cell_of_block h2 5
  have ry2 : w2.cell? ⟨w.heap.size + 1, 6, none⟩ = some (.slice co m cap2) := Go.Joins.cell_of_block h2 6
  have ry3 : w2.cell? ⟨w.heap.size + 1, 7, none⟩ = some (.int .i64 num2) := Go.Joins.cell_of_block h2 7
  have ry : w2.rangeAt (w.heap.size + 1) 4 [.int .u8 ck2, .string text2, .slice co m cap2, .int .i64 num2] := range_cons ry0 (range_cons ry1 (range_cons ry2 (range_cons ry3 range_new)))
  clear ry0 ry1 ry2 ry3
  have HRX := Lib.hid rx
  have HRY := Lib.hid ry
  clear hb2 h1 h2 rx ry
  by_cases hx0 : x0 = y0
  rotate_left
  · have hg2 : g = false := no_of HG.out (fun h => hx0 (by injection h))
    have HG2 := Lib.hid hg2
    have n1 : (x0 == y0) = false := beq_eq_false_iff_ne.2 hx0
    clear hg2
    go_wp2_with fail
    go_ret
    exact ⟨ret_bool HG2.out.symm, HB2.out⟩
  subst hx0
  by_cases hx1 : x1 = y1
  rotate_left
  · have hg2 : g = false := no_of HG.out (fun h => hx1 (by injection h))
    have HG2 := Lib.hid hg2
    have n1 : (x1 == y1) = false := beq_eq_false_iff_ne.2 hx1
    clear hg2
    go_wp2_with fail
    go_ret
    exact ⟨ret_bool HG2.out.symm, HB2.out⟩
  subst hx1
  by_cases hx2 : x2 = y2
  rotate_left
  · have hg2 : g = false := no_of HG.out (fun h => hx2 (by injection h))
    have HG2 := Lib.hid hg2
    have n1 : (x2 == y2) = false := beq_eq_false_iff_ne.2 hx2
    clear hg2
    go_wp2_with fail
    go_ret
    exact ⟨ret_bool HG2.out.symm, HB2.out⟩
  subst hx2
  by_cases hx3 : x3 = y3
  rotate_left
  · have hg2 : g = false := no_of HG.out (fun h => hx3 (by injection h))
    have HG2 := Lib.hid hg2
    have n1 : (x3 == y3) = false := beq_eq_false_iff_ne.2 hx3
    clear hg2
    go_wp2_with fail
    go_ret
    exact ⟨ret_bool HG2.out.symm, HB2.out⟩
  subst hx3
  obtain ⟨gg, hgg⟩ : ∃ gg : Bool, gg = true ↔ (⟨ck, text, xs, num⟩ : CmP) = ⟨ck2, text2, ys, num2⟩ := by
    by_cases h : (⟨ck, text, xs, num⟩ : CmP) = ⟨ck2, text2, ys, num2⟩
    · exact ⟨true, ⟨fun _ => h, fun _ => rfl⟩⟩
    · exact ⟨false, ⟨fun h2 => (by cases h2), fun h2 => absurd h2 h⟩⟩
  have HGG := Lib.hid hgg
  clear hgg
  go_wp2_with (first | (refine wpList_load_want (by rfl) 53 (.tmp 32) rfl w.heap.size 4 rfl [.int .u8 ck, .string text, .slice ao n cap, .int .i64 num] _ HRX.out Tryz.underlying53 rfl info_cm ?_) | (refine wpList_load_want (by rfl) 53 (.tmp 34) rfl (w.heap.size + 1) 4 rfl [.int .u8 ck2, .string text2, .slice co m cap2, .int .i64 num2] _ HRY.out Tryz.underlying53 rfl info_cm ?_))
  refine (HC.out w2 HB2.out gg HGG.out).mono ?_
  rintro e w3 ⟨rfl, b3⟩
  have k1 := (b3.block w.heap.size (by omega)).trans H1.out
  have k2 := (b3.block (w.heap.size + 1) (by omega)).trans H2.out
  have e8 : w3.cell? ⟨w.heap.size, 8, none⟩ = some (.slice vo p vc) := Go.Joins.cell_of_block k1 8
  have f8 : w3.cell? ⟨w.heap.size + 1, 8, none⟩ = some (.slice vo2 p2 vc2) := Go.Joins.cell_of_block k2 8
  have HB3 := Lib.hid (HB2.out.trans (b3.mono (by omega)))
  clear b3 k1 k2 c0 c1 c2 c3 d0 d1 d2 d3
  cases gg with
  | false =>
    have hg2 : g = false := no_of HG.out (fun h => by
      have h3 := HGG.out.2 (by injection h with a1 a2 a3 a4 a5 a6 a7 a8 a9; rw [a5, a6, a7, a8])
      cases h3)
    have HG2 := Lib.hid hg2
    clear hg2
    go_wp2_with fail
    go_ret
    exact ⟨ret_bool HG2.out.symm, HB3.out⟩
  | true =>
    have hxy := HGG.out.1 rfl
    injection hxy with a5 a6 a7 a8
    obtain ⟨gi, hgi⟩ : ∃ gi, decide (vs = us) = gi := ⟨_, rfl⟩
    have hg2 : g = gi := by
      cases gi with
      | true => exact HG.out.2 (by rw [a5, a6, a7, a8, of_decide_eq_true hgi])
      | false => exact no_of HG.out (fun h => of_decide_eq_false hgi (by injection h))
    have HGI := Lib.hid hgi
    have HG2 := Lib.hid hg2
    clear a5 a6 a7 a8 hgi hg2
    go_wp2_with fail
    refine (HI.out w3 HB3.out gi HGI.out).mono ?_
    rintro e w4 ⟨rfl, b4⟩
    clear e8 f8
    go_wp2_with fail
    go_ret
    exact ⟨ret_bool HG2.out.symm, HB3.out.trans (b4.mono HB3.out.size)⟩
end Go.Proofs.YtglgcjkglhlggaaGreatDoor
/- The document's answer for letters: within, Voters, count, numbers. Conditions: as each says. -/
namespace Go.Proofs.YtglgcjkglhlggaaGreatDoor
open Go.RowKit
set_option maxRecDepth 20000
theorem rwithin_any (n : Int) (w : World) (g : Bool) (hg : withinN n = g) :
    Calls Tryz.prog 33 #[.int .i64 n] w fun e w' => e = .returned (.bool g) ∧ w = w' := by
  obtain ⟨P, hP⟩ := pair_of g
  rw [hP] at hg ⊢
  have HG := Lib.hid hg
  clear hg hP
  by_cases h1 : 0 ≤ n
  · by_cases h2 : n ≤ 1099511627776
    · have hf : P.1 = true := by rw [← HG.out]; exact withinN_iff.2 ⟨h1, h2⟩
      have HF := Lib.hid hf
      clear hf HG
      go_enter Tryz.func33, Tryz.ntmps33
      go_wp2_with fail
      go_ret
      exact ⟨ret_bool HF.out.symm, rfl⟩
    · have hf : P.1 = false := by rw [← HG.out]; exact within_no (fun h => h2 h.2)
      have HF := Lib.hid hf
      clear hf HG
      go_enter Tryz.func33, Tryz.ntmps33
      go_wp2_with fail
      go_ret
      exact ⟨ret_bool HF.out.symm, rfl⟩
  · have hf : P.1 = false := by rw [← HG.out]; exact within_no (fun h => h1 h.1)
    have HF := Lib.hid hf
    clear hf HG
    go_enter Tryz.func33, Tryz.ntmps33
    go_wp2_with fail
    go_ret
    exact ⟨ret_bool HF.out.symm, rfl⟩
theorem rvoters_any (ao : Option Addr) (n cap : Nat) (xs : List Int) (w : World) (B : Nat) (hn : xs.length = n) (hx : NumsIn w B ao xs) (hl : n ≤ 4398046511104) (g : Bool) (hg : votersB xs = g) :
    Calls Tryz.prog 35 #[.slice ao n cap] w fun e w' => e = .returned (.bool g) ∧ w = w' := by
  have HX := Lib.hid hx
  have HN := Lib.hid hn
  obtain ⟨P, hP⟩ := pair_of g
  rw [hP] at hg
  have HG := Lib.hid hg
  rw [hP]
  clear hx hn hg hP
  go_enter Tryz.func35, Tryz.ntmps35
  go_wp2_with fail
  go_loopw [3, 4] (fun m i wr => ∃ k : Nat, k ≤ n ∧ i = .int .i64 k ∧ m = .int .i64 ((xs.take k).getLastD 0) ∧ votersGo 0 (xs.take k) = true ∧ w = wr) (fun _ i _ => n - (intOf i).toNat)
  case atStart => exact ⟨0, by omega, rfl, rfl, rfl, rfl⟩
  case round =>
    obtain ⟨k, hk, rfl, rfl, hall, rfl⟩ := hrel
    have HA := Lib.hid hall
    clear hall
    by_cases hlt : k < n
    · have i1 : (k : Int) < n := by omega
      have hkx : xs[k]? = some (xs[k]'(by rw [HN.out]; exact hlt)) := List.getElem?_eq_getElem _
      have htk : xs.take (k + 1) = xs.take k ++ [xs[k]'(by rw [HN.out]; exact hlt)] := List.take_succ_eq_append_getElem _
      obtain ⟨b, off, hao, hb, hc, _⟩ := HX.out.at hkx
      generalize xs[k]'(by rw [HN.out]; exact hlt) = x at hc hkx htk
      have c0 : w.cell? ⟨b, off + k, none⟩ = some (.int .i64 x) := by
        have := hc 0 (by decide)
        rw [Nat.mul_one, Nat.add_zero] at this
        exact this
      subst hao
      have HT := Lib.hid htk
      have hbad : ¬ ((xs.take k).getLastD 0 < x ∧ x ≤ 9) → P.1 = false := fun h => by
        rw [← HG.out]
        cases hh : votersB xs with
        | false => rfl
        | true =>
          unfold votersB at hh
          rw [Bool.and_eq_true] at hh
          exact absurd (votersGo_take xs 0 k x hkx HA.out hh.1) h
      have HBAD := Lib.hid hbad
      obtain ⟨q, hq⟩ : ∃ q, (xs.take k).getLastD 0 = q := ⟨_, rfl⟩
      rw [hq] at HBAD
      rw [hq]
      have HQ := Lib.hid hq
      clear hc hkx htk hbad hq
      by_cases h1 : x ≤ q
      · have hf := HBAD.out (by omega)
        go_wp2_with fail
        go_ret
        exact ⟨by first | rfl | (rw [hf]; rfl), by first | rfl | trivial⟩
      · by_cases h2 : 9 < x
        · have hf := HBAD.out (by omega)
          go_wp2_with fail
          go_ret
          exact ⟨by first | rfl | (rw [hf]; rfl), by first | rfl | trivial⟩
        · have hv : votersGo 0 (xs.take (k + 1)) = true ∧ (xs.take (k + 1)).getLastD 0 = x := by
            rw [HT.out, votersGo_snoc, HA.out, HQ.out]
            exact ⟨by simp; omega, by simp⟩
          have HV := Lib.hid hv
          clear hv
          go_wp2_with fail
          go_roundw
          case rel => exact ⟨k + 1, by omega, by go_num, by rw [HV.out.2], HV.out.1, by first | rfl | trivial⟩
          case measure => simp [intOf] <;> omega
    · have i1 : ¬ (k : Int) < n := by omega
      obtain rfl : k = n := by omega
      have hall : votersGo 0 xs = true := by
        have := HA.out
        rwa [List.take_of_length_le (by rw [HN.out]; exact Nat.le_refl _)] at this
      have hfin : P.1 = (decide (1 ≤ k) && decide (k ≤ 7)) := by
        rw [← HG.out]
        unfold votersB
        rw [hall, HN.out, Bool.true_and]
      have HF := Lib.hid hfin
      clear hall hfin
      by_cases h1 : 1 ≤ k
      · have j1 : (1 : Int) ≤ k := by omega
        by_cases h2 : k ≤ 7
        · have j2 : (k : Int) ≤ 7 := by omega
          go_wp2_with fail
          go_ret
          exact ⟨by rw [HF.out]; simp [h1, h2]; done, by first | rfl | trivial⟩
        · have j2 : ¬ (k : Int) ≤ 7 := by omega
          go_wp2_with fail
          go_ret
          exact ⟨by rw [HF.out]; simp [h2]; done, by first | rfl | trivial⟩
      · have j1 : ¬ (1 : Int) ≤ k := by omega
        go_wp2_with fail
        go_ret
        exact ⟨by rw [HF.out]; simp [h1]; done, by first | rfl | trivial⟩
end Go.Proofs.YtglgcjkglhlggaaGreatDoor
/- CopyBytes: bytes of a call's own, and stores among them. Conditions: as each says. -/
namespace Go.Proofs.YtglgcjkglhlggaaGreatDoor
open Go.RowKit
set_option maxRecDepth 20000
theorem own_at {w : World} {base n c : Nat} {ao : Option Addr} {l : List Int} (hn : l.length = n) (h : w.ownsRow base 5 1 (.slice ao n c) n (l.map bv)) : BytesIn w w.heap.size ao l := by
  subst hn
  obtain ⟨a', c', hv, hB⟩ := own_bytes h
  cases hv
  exact hB
end Go.Proofs.YtglgcjkglhlggaaGreatDoor
/- The document's answer for letters: count, numbers. Conditions: as each says. -/
namespace Go.Proofs.YtglgcjkglhlggaaGreatDoor
open Go.RowKit
set_option maxRecDepth 20000
theorem r21count_any (n : Nat) (L : List Int) (w : World) (hL : numB 4 (n : Int) = L) (hn : n ≤ 2000000000) :
    Calls Tryz.prog 45 #[.int .i64 (n : Int)] w (RNew L w) := by
  have hl : L = [(n : Int) / 16777216, (n : Int) / 65536 % 256, (n : Int) / 256 % 256, (n : Int) % 256] := by
    have e : (n : Int) / 16777216 % 256 = (n : Int) / 16777216 := by omega
    rw [← hL, numB4 n (by omega), e]
  have HL := Lib.hid hl
  clear hl hL
  go_enter Tryz.func45, Tryz.ntmps45
  go_wp2_with fail
  go_ret
  have ho := BOwn.lit w [(n : Int) / 16777216, (n : Int) / 65536 % 256, (n : Int) / 256 % 256, (n : Int) % 256] (by simp)
  rw [← HL.out] at ho
  have h4 : L.length = 4 := by rw [HL.out]; rfl
  rw [h4] at ho
  refine ⟨some ⟨w.heap.size, 0, none⟩, 4, 4, rfl, ?_, (Below.refl _ _).alloc (Nat.le_refl _) _⟩
  rw [HL.out] at ho ⊢
  exact ho
theorem r21numbers_any (ao : Option Addr) (n cap : Nat) (xs : List Int) (L : List Int) (w : World) (B : Nat) (hL : xs.flatMap (numB 8) = L) (hn : xs.length = n) (hx : NumsIn w B ao xs) (hB : B ≤ w.heap.size) (hl : n ≤ 1000000) :
    Calls Tryz.prog 44 #[.slice ao n cap] w (RNew L w) := by
  have HX := Lib.hid (hx.mono noSub_rising hB)
  have HN := Lib.hid hn
  have HL := Lib.hid hL
  clear hx hn hL
  go_enter Tryz.func44, Tryz.ntmps44
  go_wp2_with fail
  go_loopw [3, 4] (fun v i wr => ∃ (k : Nat) (a : Option Addr) (c : Nat), k ≤ n ∧ i = .int .i64 k ∧ v = .slice a (8 * k) c ∧ BOwn wr w.heap.size a (8 * k) c ((xs.take k).flatMap (numB 8)) ∧ Below w.heap.size w wr) (fun _ i _ => n - (intOf i).toNat)
  case atStart => exact ⟨0, none, 0, by omega, rfl, rfl, ⟨rfl, World.ownsRow_nil _ _ _ _⟩, Below.refl _ _⟩
  case round =>
    obtain ⟨k, a, c, hk, rfl, rfl, hown, hbel⟩ := hrel
    have HO := Lib.hid hown
    have hsz := hbel.size
    clear hown
    by_cases hlt : k < n
    · have i1 : (k : Int) < n := by omega
      have hkx : xs[k]? = some (xs[k]'(by rw [HN.out]; exact hlt)) := List.getElem?_eq_getElem _
      have htk : xs.take (k + 1) = xs.take k ++ [xs[k]'(by rw [HN.out]; exact hlt)] := List.take_succ_eq_append_getElem _
      obtain ⟨b, off, hao, hb, hc, _⟩ := HX.out.at hkx
      generalize xs[k]'(by rw [HN.out]; exact hlt) = x at hc hkx htk
      have c0 : wr.cell? ⟨b, off + k, none⟩ = some (.int .i64 x) := by
        have := hc 0 (by decide)
        rw [Nat.mul_one, Nat.add_zero] at this
        exact (hbel.cell (p := ⟨b, _, none⟩) hb).trans this
      subst hao
      have HT := Lib.hid htk
      obtain ⟨m, hm⟩ : ∃ m, 8 * k = m := ⟨_, rfl⟩
      have HM := Lib.hid hm
      rw [hm] at HO ⊢
      clear hc hkx htk hm
      go_wp2_with fail
      refine (rNumber_any x _ wr rfl).mono ?_
      rintro e w2 ⟨a1, n1, c1, rfl, hbo1, hb1⟩
      have ho1 := hbo1.row
      obtain rfl : 8 = n1 := by have := hbo1.len; rw [numB_len] at this; exact this
      have HO1 := Lib.hid ho1
      have hb2 := hbel.trans (hb1.mono hsz)
      have hz1 := hb1.size
      clear ho1 c0
      go_wp2_with (at_builtin; refine wpList_append_bo rfl (.tmp 11) (.tmp 16) rfl w.heap.size rfl (HO.out.below hb1 (Nat.le_refl _)) rfl (numB_len 8 x) _ (own_at (numB_len 8 x) HO1.out) (own_none HO1.out) (by have := HM.out; omega) (by omega) ?_)
      intro a2 n2 c2 w3 hown hg hn2
      have hb3 := hb2.grown hg (by omega) (fun k hk => (HO.out.lt k hk).1)
      have hn3 : n2 = 8 * (k + 1) := by rw [hn2, ← HM.out]; omega
      subst hn3
      have HO2 := Lib.hid (show BOwn w3 w.heap.size a2 (8 * (k + 1)) c2 ((xs.take (k + 1)).flatMap (numB 8)) by
        rw [HT.out, List.flatMap_append, List.flatMap_singleton]; exact hown)
      clear hown hg hn2
      go_wp2_with fail
      go_roundw
      case rel => exact ⟨k + 1, a2, c2, by omega, by go_num, rfl, HO2.out, hb3⟩
      case measure => simp [intOf] <;> omega
    · have i1 : ¬ (k : Int) < n := by omega
      obtain rfl : k = n := by omega
      go_wp2_with fail
      go_ret
      have hown := HO.out
      rw [List.take_of_length_le (by rw [HN.out]; exact Nat.le_refl _), HL.out] at hown
      exact ⟨a, _, c, rfl, hown, hbel⟩
end Go.Proofs.YtglgcjkglhlggaaGreatDoor
/- The reader of the document's answer: Command. Conditions: its bytes lie as their reading says. -/
namespace Go.Proofs.YtglgcjkglhlggaaGreatDoor
open Go.RowKit
set_option maxRecDepth 20000
variable {Z : RefZ}
set_option maxHeartbeats 8000000 in
theorem rrCommand_any (M db : Nat) (bad : Bool) (left : List Int) (r : CmP × Bool × List Int) (w : World) (hr : commandS bad left = r) (h : Ref Z w M db bad left) (hw : BytesWf left) :
    Calls Tryz.prog 65 #[.pointer (some ⟨db, 0, none⟩)] w fun e w' => ∃ f : Cm, f.plain = r.1 ∧ e = .returned (cmVal f) ∧ (VasOwn w' w.heap.size f.ao f.args.length f.cap f.args) ∧ Ref Z w' M db r.2.1 r.2.2 ∧ Only db w w' := by
  have hdb := h.lt
  have hM := h.le
  obtain ⟨⟨x0, b_0, l_0⟩, h_0⟩ : ∃ r, kindS bad left = r := ⟨_, rfl⟩
  have q_0 := kindS_shrinks bad left hw
  rw [h_0] at q_0
  dsimp only at q_0
  have hk0 : 0 ≤ x0 ∧ x0 < 256 := by
    have h1 := getN_small (takeS_wf (n := 1) (bad := bad) (left := left) hw).1 (takeS_wf (n := 1) (bad := bad) (left := left) hw).2.2.1
    have h2 : getN (takeS 1 bad left).1 = x0 := congrArg Prod.fst h_0
    rw [h2] at h1
    exact h1
  have hu0 : IntKind.u8.wrap x0 = x0 := by
    unfold IntKind.wrap
    simp [IntKind.signed, IntKind.bits]
    omega
  have hkt0 : ∀ w1 : World, Ref Z w1 M db bad left → Calls Tryz.prog 115 #[.pointer (some ⟨db, 0, none⟩), .int .i64 1] w1 (RSaidAt Z M db x0 b_0 l_0 w1) := fun w1 hr => by
    have h1 := rsaid_any M db 1 bad left w1 hr hw (by omega)
    have h2 : getN (takeS 1 bad left).1 = x0 := congrArg Prod.fst h_0
    have h3 : (takeS 1 bad left).2 = (b_0, l_0) := congrArg Prod.snd h_0
    rw [h2, h3] at h1
    exact h1
  have HKT0 := Lib.hid hkt0
  obtain ⟨⟨x1, b_1, l_1⟩, h_1⟩ : ∃ r, textS b_0 l_0 = r := ⟨_, rfl⟩
  have q_1 := textS_shrinks b_0 l_0 q_0.1
  rw [h_1] at q_1
  dsimp only at q_1
  obtain ⟨⟨x3, b_2, l_2⟩, h_2⟩ : ∃ r, numS b_1 l_1 = r := ⟨_, rfl⟩
  have q_2 := numS_shrinks b_1 l_1 q_1.1
  rw [h_2] at q_2
  dsimp only at q_2
  obtain ⟨⟨x2, b_3, l_3⟩, h_3⟩ : ∃ r, valuesS b_2 l_2 = r := ⟨_, rfl⟩
  have q_3 := valuesS_shrinks b_2 l_2 q_2.1
  rw [h_3] at q_3
  dsimp only at q_3
  have HS := Lib.hid (show (if b_3 = true then ⟨0, ByteArray.empty, [], 0⟩ else ⟨x0, x1, x2, x3⟩, b_3, l_3) = r by rw [← hr]; unfold commandS; dsimp only; simp only [h_0, h_1, h_2, h_3])
  have HH0 := Lib.hid h_0
  have HW0 := Lib.hid q_0.1
  have HH1 := Lib.hid h_1
  have HW1 := Lib.hid q_1.1
  have HH2 := Lib.hid h_2
  have HW2 := Lib.hid q_2.1
  have HH3 := Lib.hid h_3
  have HW3 := Lib.hid q_3.1
  clear hr hw h_0 q_0 hkt0 h_1 q_1 h_2 q_2 h_3 q_3
  have hA := (Below.refl w.heap.size w).alloc (Nat.le_refl _) (.cells #[.int .u8 0, .string ⟨#[]⟩, .slice none 0 0, .int .i64 0] 53)
  have hA2 := (Below.refl (w.alloc (.cells #[.int .u8 0, .string ⟨#[]⟩, .slice none 0 0, .int .i64 0] 53)).heap.size (w.alloc (.cells #[.int .u8 0, .string ⟨#[]⟩, .slice none 0 0, .int .i64 0] 53))).alloc (Nat.le_refl _) (.cells #[.int .u8 0, .string ⟨#[]⟩, .slice none 0 0, .int .i64 0] 53)
  have R0 := Lib.hid ((h.below hA).below hA2)
  have O0 := Lib.hid (((Only.refl db w).alloc (.cells #[.int .u8 0, .string ⟨#[]⟩, .slice none 0 0, .int .i64 0] 53)).alloc (.cells #[.int .u8 0, .string ⟨#[]⟩, .slice none 0 0, .int .i64 0] 53))
  have Z0 := Lib.hid ((hA2.block w.heap.size (by simp)).trans (heap_alloc_new w (.cells #[.int .u8 0, .string ⟨#[]⟩, .slice none 0 0, .int .i64 0] 53)))
  have hG0 := heap_alloc_new (w.alloc (.cells #[.int .u8 0, .string ⟨#[]⟩, .slice none 0 0, .int .i64 0] 53)) (.cells #[.int .u8 0, .string ⟨#[]⟩, .slice none 0 0, .int .i64 0] 53)
  rw [World.size_alloc] at hG0
  have G0 := Lib.hid hG0
  have hz0 : w.heap.size + 2 ≤ ((w.alloc (.cells #[.int .u8 0, .string ⟨#[]⟩, .slice none 0 0, .int .i64 0] 53)).alloc (.cells #[.int .u8 0, .string ⟨#[]⟩, .slice none 0 0, .int .i64 0] 53)).heap.size := by simp
  clear h hA hA2 hG0
  go_enter Tryz.func65, Tryz.ntmps65
  go_wp2_with fail
  generalize (w.alloc (.cells #[.int .u8 0, .string ⟨#[]⟩, .slice none 0 0, .int .i64 0] 53)).alloc (.cells #[.int .u8 0, .string ⟨#[]⟩, .slice none 0 0, .int .i64 0] 53) = w0 at R0 O0 Z0 G0 hz0 ⊢
  refine (HKT0.out w0 R0.out).mono ?_
  rintro e w1 ⟨rfl, hr, ho⟩
  have R1 := Lib.hid hr
  have O1 := Lib.hid (O0.out.trans ho)
  have hs1 := ho.1
  have hz1 : w.heap.size + 2 ≤ w1.heap.size := Nat.le_trans hz0 hs1
  have Z1 := Lib.hid ((ho.2 w.heap.size (by omega) (by omega)).trans Z0.out)
  have G1 := Lib.hid ((ho.2 (w.heap.size + 1) (by omega) (by omega)).trans G0.out)
  clear hr ho R0 O0 Z0 G0 
  have f0 : w1.frozen? ⟨w.heap.size + 1, 0, none⟩ = false := Go.Joins.unfrozen_of_block G1.out 0
  have e0 : w1.cell? ⟨w.heap.size + 1, 0, none⟩ = some (.int .u8 0) := Go.Joins.cell_of_block G1.out 0
  go_wp2_with fail
  have q : (w1.setCell ⟨w.heap.size + 1, 0, none⟩ (.int .u8 x0)).heap[w.heap.size + 1]? = some (.cells #[.int .u8 x0, .string ⟨#[]⟩, .slice none 0 0, .int .i64 0] 53 (0, 0)) := (Go.Joins.block_setCell (i := 0) G1.out (.int .u8 x0))
  have r_ : Ref Z (w1.setCell ⟨w.heap.size + 1, 0, none⟩ (.int .u8 x0)) M db b_0 l_0 := (R1.out.other (g := w.heap.size + 1) (i := 0) (by omega) (by omega) (.int .u8 x0))
  have o_ : Only db w (w1.setCell ⟨w.heap.size + 1, 0, none⟩ (.int .u8 x0)) := (O1.out.new (g := w.heap.size + 1) (i := 0) (by omega) (.int .u8 x0))
  have z_ : (w1.setCell ⟨w.heap.size + 1, 0, none⟩ (.int .u8 x0)).heap[w.heap.size]? = some (.cells #[.int .u8 0, .string ⟨#[]⟩, .slice none 0 0, .int .i64 0] 53 (0, 0)) := ((heap_setCell_other _ ⟨w.heap.size + 1, 0, none⟩ _ (.int .u8 x0) (show w.heap.size ≠ w.heap.size + 1 by omega)).trans Z1.out)
  have hz_ : w.heap.size + 2 ≤ (w1.setCell ⟨w.heap.size + 1, 0, none⟩ (.int .u8 x0)).heap.size := by simpa using hz1
  generalize (w1.setCell ⟨w.heap.size + 1, 0, none⟩ (.int .u8 x0)) = w2 at q r_ o_ z_ hz_  ⊢
  have G2 := Lib.hid q
  have R2 := Lib.hid r_
  have O2 := Lib.hid o_
  have Z2 := Lib.hid z_
  have hz2 : w.heap.size + 2 ≤ w2.heap.size := hz_
  clear q r_ o_ z_ hz_  f0 e0 R1 O1 Z1 G1 
  refine (rtext_any M db b_0 l_0 x1 b_1 l_1 w2 HH1.out R2.out HW0.out).mono ?_
  rintro e w3 ⟨rfl, hr, ho⟩
  have R3 := Lib.hid hr
  have O3 := Lib.hid (O2.out.trans ho)
  have hs3 := ho.1
  have hz3 : w.heap.size + 2 ≤ w3.heap.size := Nat.le_trans hz2 hs3
  have Z3 := Lib.hid ((ho.2 w.heap.size (by omega) (by omega)).trans Z2.out)
  have G3 := Lib.hid ((ho.2 (w.heap.size + 1) (by omega) (by omega)).trans G2.out)
  clear hr ho R2 O2 Z2 G2 
  have f1 : w3.frozen? ⟨w.heap.size + 1, 1, none⟩ = false := Go.Joins.unfrozen_of_block G3.out 1
  have e1 : w3.cell? ⟨w.heap.size + 1, 1, none⟩ = some (.string ⟨#[]⟩) := Go.Joins.cell_of_block G3.out 1
  go_wp2_with fail
  have q : (w3.setCell ⟨w.heap.size + 1, 1, none⟩ (.string x1)).heap[w.heap.size + 1]? = some (.cells #[.int .u8 x0, .string x1, .slice none 0 0, .int .i64 0] 53 (0, 0)) := (Go.Joins.block_setCell (i := 1) G3.out (.string x1))
  have r_ : Ref Z (w3.setCell ⟨w.heap.size + 1, 1, none⟩ (.string x1)) M db b_1 l_1 := (R3.out.other (g := w.heap.size + 1) (i := 1) (by omega) (by omega) (.string x1))
  have o_ : Only db w (w3.setCell ⟨w.heap.size + 1, 1, none⟩ (.string x1)) := (O3.out.new (g := w.heap.size + 1) (i := 1) (by omega) (.string x1))
  have z_ : (w3.setCell ⟨w.heap.size + 1, 1, none⟩ (.string x1)).heap[w.heap.size]? = some (.cells #[.int .u8 0, .string ⟨#[]⟩, .slice none 0 0, .int .i64 0] 53 (0, 0)) := ((heap_setCell_other _ ⟨w.heap.size + 1, 1, none⟩ _ (.string x1) (show w.heap.size ≠ w.heap.size + 1 by omega)).trans Z3.out)
  have hz_ : w.heap.size + 2 ≤ (w3.setCell ⟨w.heap.size + 1, 1, none⟩ (.string x1)).heap.size := by simpa using hz3
  generalize (w3.setCell ⟨w.heap.size + 1, 1, none⟩ (.string x1)) = w4 at q r_ o_ z_ hz_  ⊢
  have G4 := Lib.hid q
  have R4 := Lib.hid r_
  have O4 := Lib.hid o_
  have Z4 := Lib.hid z_
  have hz4 : w.heap.size + 2 ≤ w4.heap.size := hz_
  clear q r_ o_ z_ hz_  f1 e1 R3 O3 Z3 G3 
  refine (rnum_any M db b_1 l_1 x3 b_2 l_2 w4 HH2.out R4.out HW1.out).mono ?_
  rintro e w5 ⟨rfl, hr, ho⟩
  have R5 := Lib.hid hr
  have O5 := Lib.hid (O4.out.trans ho)
  have hs5 := ho.1
  have hz5 : w.heap.size + 2 ≤ w5.heap.size := Nat.le_trans hz4 hs5
  have Z5 := Lib.hid ((ho.2 w.heap.size (by omega) (by omega)).trans Z4.out)
  have G5 := Lib.hid ((ho.2 (w.heap.size + 1) (by omega) (by omega)).trans G4.out)
  clear hr ho R4 O4 Z4 G4 
  have f3 : w5.frozen? ⟨w.heap.size + 1, 3, none⟩ = false := Go.Joins.unfrozen_of_block G5.out 3
  have e3 : w5.cell? ⟨w.heap.size + 1, 3, none⟩ = some (.int .i64 0) := Go.Joins.cell_of_block G5.out 3
  go_wp2_with fail
  have q : (w5.setCell ⟨w.heap.size + 1, 3, none⟩ (.int .i64 x3)).heap[w.heap.size + 1]? = some (.cells #[.int .u8 x0, .string x1, .slice none 0 0, .int .i64 x3] 53 (0, 0)) := (Go.Joins.block_setCell (i := 3) G5.out (.int .i64 x3))
  have r_ : Ref Z (w5.setCell ⟨w.heap.size + 1, 3, none⟩ (.int .i64 x3)) M db b_2 l_2 := (R5.out.other (g := w.heap.size + 1) (i := 3) (by omega) (by omega) (.int .i64 x3))
  have o_ : Only db w (w5.setCell ⟨w.heap.size + 1, 3, none⟩ (.int .i64 x3)) := (O5.out.new (g := w.heap.size + 1) (i := 3) (by omega) (.int .i64 x3))
  have z_ : (w5.setCell ⟨w.heap.size + 1, 3, none⟩ (.int .i64 x3)).heap[w.heap.size]? = some (.cells #[.int .u8 0, .string ⟨#[]⟩, .slice none 0 0, .int .i64 0] 53 (0, 0)) := ((heap_setCell_other _ ⟨w.heap.size + 1, 3, none⟩ _ (.int .i64 x3) (show w.heap.size ≠ w.heap.size + 1 by omega)).trans Z5.out)
  have hz_ : w.heap.size + 2 ≤ (w5.setCell ⟨w.heap.size + 1, 3, none⟩ (.int .i64 x3)).heap.size := by simpa using hz5
  generalize (w5.setCell ⟨w.heap.size + 1, 3, none⟩ (.int .i64 x3)) = w6 at q r_ o_ z_ hz_  ⊢
  have G6 := Lib.hid q
  have R6 := Lib.hid r_
  have O6 := Lib.hid o_
  have Z6 := Lib.hid z_
  have hz6 : w.heap.size + 2 ≤ w6.heap.size := hz_
  clear q r_ o_ z_ hz_  f3 e3 R5 O5 Z5 G5 
  refine (rvalues_any M db b_2 l_2 x2 b_3 l_3 w6 HH3.out R6.out HW2.out).mono ?_
  rintro e w7 ⟨a2, n2, c2, hn2, rfl, hown, hr, ho⟩
  have N2 := Lib.hid hn2
  have W2_7 := Lib.hid (hown.le (base' := w.heap.size + 2) hz6)
  clear hown hn2
  have R7 := Lib.hid hr
  have O7 := Lib.hid (O6.out.trans ho)
  have hs7 := ho.1
  have hz7 : w.heap.size + 2 ≤ w7.heap.size := Nat.le_trans hz6 hs7
  have Z7 := Lib.hid ((ho.2 w.heap.size (by omega) (by omega)).trans Z6.out)
  have G7 := Lib.hid ((ho.2 (w.heap.size + 1) (by omega) (by omega)).trans G6.out)
  clear hr ho R6 O6 Z6 G6 
  have f2 : w7.frozen? ⟨w.heap.size + 1, 2, none⟩ = false := Go.Joins.unfrozen_of_block G7.out 2
  have e0 : w7.cell? ⟨w.heap.size + 1, 0, none⟩ = some (.int .u8 x0) := Go.Joins.cell_of_block G7.out 0
  have e1 : w7.cell? ⟨w.heap.size + 1, 1, none⟩ = some (.string x1) := Go.Joins.cell_of_block G7.out 1
  have e2 : w7.cell? ⟨w.heap.size + 1, 2, none⟩ = some (.slice none 0 0) := Go.Joins.cell_of_block G7.out 2
  have e3 : w7.cell? ⟨w.heap.size + 1, 3, none⟩ = some (.int .i64 x3) := Go.Joins.cell_of_block G7.out 3
  have g0 : w7.frozen? ⟨w.heap.size, 0, none⟩ = false := Go.Joins.unfrozen_of_block Z7.out 0
  have g1 : w7.frozen? ⟨w.heap.size, 1, none⟩ = false := Go.Joins.unfrozen_of_block Z7.out 1
  have g2 : w7.frozen? ⟨w.heap.size, 2, none⟩ = false := Go.Joins.unfrozen_of_block Z7.out 2
  have g3 : w7.frozen? ⟨w.heap.size, 3, none⟩ = false := Go.Joins.unfrozen_of_block Z7.out 3
  have hbc : ∀ u, (w7.setCell ⟨w.heap.size + 1, 2, none⟩ u).cell? ⟨db, 2, none⟩ = some (.bool b_3) := fun u => (R7.out.other (g := w.heap.size + 1) (i := 2) (by omega) (by omega) u).badCell.1
  have z0 : ∀ u, (w7.setCell ⟨w.heap.size + 1, 2, none⟩ u).cell? ⟨w.heap.size, 0, none⟩ = some (.int .u8 0) := fun u => Go.Joins.cell_of_block ((heap_setCell_other _ ⟨w.heap.size + 1, 2, none⟩ _ u (show w.heap.size ≠ w.heap.size + 1 by omega)).trans Z7.out) 0
  have z1 : ∀ u, (w7.setCell ⟨w.heap.size + 1, 2, none⟩ u).cell? ⟨w.heap.size, 1, none⟩ = some (.string ⟨#[]⟩) := fun u => Go.Joins.cell_of_block ((heap_setCell_other _ ⟨w.heap.size + 1, 2, none⟩ _ u (show w.heap.size ≠ w.heap.size + 1 by omega)).trans Z7.out) 1
  have z2 : ∀ u, (w7.setCell ⟨w.heap.size + 1, 2, none⟩ u).cell? ⟨w.heap.size, 2, none⟩ = some (.slice none 0 0) := fun u => Go.Joins.cell_of_block ((heap_setCell_other _ ⟨w.heap.size + 1, 2, none⟩ _ u (show w.heap.size ≠ w.heap.size + 1 by omega)).trans Z7.out) 2
  have z3 : ∀ u, (w7.setCell ⟨w.heap.size + 1, 2, none⟩ u).cell? ⟨w.heap.size, 3, none⟩ = some (.int .i64 0) := fun u => Go.Joins.cell_of_block ((heap_setCell_other _ ⟨w.heap.size + 1, 2, none⟩ _ u (show w.heap.size ≠ w.heap.size + 1 by omega)).trans Z7.out) 3
  cases b_3 with
  | true =>
    go_wp2_with fail
    have q : (((((w7.setCell ⟨w.heap.size + 1, 2, none⟩ (.slice a2 n2 c2)).setCell ⟨w.heap.size, 0, none⟩ (.int .u8 0)).setCell ⟨w.heap.size, 1, none⟩ (.string ⟨#[]⟩)).setCell ⟨w.heap.size, 2, none⟩ (.slice none 0 0)).setCell ⟨w.heap.size, 3, none⟩ (.int .i64 0)).heap[w.heap.size]? = some (.cells #[.int .u8 0, .string ⟨#[]⟩, .slice none 0 0, .int .i64 0] 53 (0, 0)) := (Go.Joins.block_setCell (i := 3) (Go.Joins.block_setCell (i := 2) (Go.Joins.block_setCell (i := 1) (Go.Joins.block_setCell (i := 0) ((heap_setCell_other _ ⟨w.heap.size + 1, 2, none⟩ _ (.slice a2 n2 c2) (show w.heap.size ≠ w.heap.size + 1 by omega)).trans Z7.out) (.int .u8 0)) (.string ⟨#[]⟩)) (.slice none 0 0)) (.int .i64 0))
    have r_ : Ref Z (((((w7.setCell ⟨w.heap.size + 1, 2, none⟩ (.slice a2 n2 c2)).setCell ⟨w.heap.size, 0, none⟩ (.int .u8 0)).setCell ⟨w.heap.size, 1, none⟩ (.string ⟨#[]⟩)).setCell ⟨w.heap.size, 2, none⟩ (.slice none 0 0)).setCell ⟨w.heap.size, 3, none⟩ (.int .i64 0)) M db _ l_3 := (((((R7.out.other (g := w.heap.size + 1) (i := 2) (by omega) (by omega) (.slice a2 n2 c2)).other (g := w.heap.size) (i := 0) hM (by omega) (.int .u8 0)).other (g := w.heap.size) (i := 1) hM (by omega) (.string ⟨#[]⟩)).other (g := w.heap.size) (i := 2) hM (by omega) (.slice none 0 0)).other (g := w.heap.size) (i := 3) hM (by omega) (.int .i64 0))
    have o_ : Only db w (((((w7.setCell ⟨w.heap.size + 1, 2, none⟩ (.slice a2 n2 c2)).setCell ⟨w.heap.size, 0, none⟩ (.int .u8 0)).setCell ⟨w.heap.size, 1, none⟩ (.string ⟨#[]⟩)).setCell ⟨w.heap.size, 2, none⟩ (.slice none 0 0)).setCell ⟨w.heap.size, 3, none⟩ (.int .i64 0)) := (((((O7.out.new (g := w.heap.size + 1) (i := 2) (by omega) (.slice a2 n2 c2)).new (g := w.heap.size) (i := 0) (Nat.le_refl _) (.int .u8 0)).new (g := w.heap.size) (i := 1) (Nat.le_refl _) (.string ⟨#[]⟩)).new (g := w.heap.size) (i := 2) (Nat.le_refl _) (.slice none 0 0)).new (g := w.heap.size) (i := 3) (Nat.le_refl _) (.int .i64 0))
    have v2_ := (((((W2_7.out.only (Only.set (w.heap.size + 1) _ 2 (.slice a2 n2 c2)) (by omega)).only (Only.set w.heap.size _ 0 (.int .u8 0)) (by omega)).only (Only.set w.heap.size _ 1 (.string ⟨#[]⟩)) (by omega)).only (Only.set w.heap.size _ 2 (.slice none 0 0)) (by omega)).only (Only.set w.heap.size _ 3 (.int .i64 0)) (by omega))
    generalize (((((w7.setCell ⟨w.heap.size + 1, 2, none⟩ (.slice a2 n2 c2)).setCell ⟨w.heap.size, 0, none⟩ (.int .u8 0)).setCell ⟨w.heap.size, 1, none⟩ (.string ⟨#[]⟩)).setCell ⟨w.heap.size, 2, none⟩ (.slice none 0 0)).setCell ⟨w.heap.size, 3, none⟩ (.int .i64 0)) = w99 at q r_ o_ v2_ ⊢
    have d0 : w99.cell? ⟨w.heap.size, 0, none⟩ = some (.int .u8 0) := Go.Joins.cell_of_block q 0
    have d1 : w99.cell? ⟨w.heap.size, 1, none⟩ = some (.string ⟨#[]⟩) := Go.Joins.cell_of_block q 1
    have d2 : w99.cell? ⟨w.heap.size, 2, none⟩ = some (.slice none 0 0) := Go.Joins.cell_of_block q 2
    have d3 : w99.cell? ⟨w.heap.size, 3, none⟩ = some (.int .i64 0) := Go.Joins.cell_of_block q 3
    have hS := HS.out
    try simp only [if_true, if_false, Bool.false_eq_true, reduceIte] at hS
    subst hS
    exact bodyPost_ret (v := .agg #[.int .u8 0, .string ⟨#[]⟩, .slice none 0 0, .int .i64 0]) (by simp [results, Tryz.results65, go_sem, d0, d1, d2, d3]) rfl ⟨⟨0, ByteArray.empty, none, [], 0, 0⟩, rfl, rfl, VasOwn.nil _ _, r_, o_⟩
  | false =>
    go_wp2_with fail
    have q : (((((w7.setCell ⟨w.heap.size + 1, 2, none⟩ (.slice a2 n2 c2)).setCell ⟨w.heap.size, 0, none⟩ (.int .u8 x0)).setCell ⟨w.heap.size, 1, none⟩ (.string x1)).setCell ⟨w.heap.size, 2, none⟩ (.slice a2 n2 c2)).setCell ⟨w.heap.size, 3, none⟩ (.int .i64 x3)).heap[w.heap.size]? = some (.cells #[.int .u8 x0, .string x1, .slice a2 n2 c2, .int .i64 x3] 53 (0, 0)) := (Go.Joins.block_setCell (i := 3) (Go.Joins.block_setCell (i := 2) (Go.Joins.block_setCell (i := 1) (Go.Joins.block_setCell (i := 0) ((heap_setCell_other _ ⟨w.heap.size + 1, 2, none⟩ _ (.slice a2 n2 c2) (show w.heap.size ≠ w.heap.size + 1 by omega)).trans Z7.out) (.int .u8 x0)) (.string x1)) (.slice a2 n2 c2)) (.int .i64 x3))
    have r_ : Ref Z (((((w7.setCell ⟨w.heap.size + 1, 2, none⟩ (.slice a2 n2 c2)).setCell ⟨w.heap.size, 0, none⟩ (.int .u8 x0)).setCell ⟨w.heap.size, 1, none⟩ (.string x1)).setCell ⟨w.heap.size, 2, none⟩ (.slice a2 n2 c2)).setCell ⟨w.heap.size, 3, none⟩ (.int .i64 x3)) M db _ l_3 := (((((R7.out.other (g := w.heap.size + 1) (i := 2) (by omega) (by omega) (.slice a2 n2 c2)).other (g := w.heap.size) (i := 0) hM (by omega) (.int .u8 x0)).other (g := w.heap.size) (i := 1) hM (by omega) (.string x1)).other (g := w.heap.size) (i := 2) hM (by omega) (.slice a2 n2 c2)).other (g := w.heap.size) (i := 3) hM (by omega) (.int .i64 x3))
    have o_ : Only db w (((((w7.setCell ⟨w.heap.size + 1, 2, none⟩ (.slice a2 n2 c2)).setCell ⟨w.heap.size, 0, none⟩ (.int .u8 x0)).setCell ⟨w.heap.size, 1, none⟩ (.string x1)).setCell ⟨w.heap.size, 2, none⟩ (.slice a2 n2 c2)).setCell ⟨w.heap.size, 3, none⟩ (.int .i64 x3)) := (((((O7.out.new (g := w.heap.size + 1) (i := 2) (by omega) (.slice a2 n2 c2)).new (g := w.heap.size) (i := 0) (Nat.le_refl _) (.int .u8 x0)).new (g := w.heap.size) (i := 1) (Nat.le_refl _) (.string x1)).new (g := w.heap.size) (i := 2) (Nat.le_refl _) (.slice a2 n2 c2)).new (g := w.heap.size) (i := 3) (Nat.le_refl _) (.int .i64 x3))
    have v2_ := (((((W2_7.out.only (Only.set (w.heap.size + 1) _ 2 (.slice a2 n2 c2)) (by omega)).only (Only.set w.heap.size _ 0 (.int .u8 x0)) (by omega)).only (Only.set w.heap.size _ 1 (.string x1)) (by omega)).only (Only.set w.heap.size _ 2 (.slice a2 n2 c2)) (by omega)).only (Only.set w.heap.size _ 3 (.int .i64 x3)) (by omega))
    generalize (((((w7.setCell ⟨w.heap.size + 1, 2, none⟩ (.slice a2 n2 c2)).setCell ⟨w.heap.size, 0, none⟩ (.int .u8 x0)).setCell ⟨w.heap.size, 1, none⟩ (.string x1)).setCell ⟨w.heap.size, 2, none⟩ (.slice a2 n2 c2)).setCell ⟨w.heap.size, 3, none⟩ (.int .i64 x3)) = w99 at q r_ o_ v2_ ⊢
    have d0 : w99.cell? ⟨w.heap.size, 0, none⟩ = some (.int .u8 x0) := Go.Joins.cell_of_block q 0
    have d1 : w99.cell? ⟨w.heap.size, 1, none⟩ = some (.string x1) := Go.Joins.cell_of_block q 1
    have d2 : w99.cell? ⟨w.heap.size, 2, none⟩ = some (.slice a2 n2 c2) := Go.Joins.cell_of_block q 2
    have d3 : w99.cell? ⟨w.heap.size, 3, none⟩ = some (.int .i64 x3) := Go.Joins.cell_of_block q 3
    have hS := HS.out
    try simp only [if_true, if_false, Bool.false_eq_true, reduceIte] at hS
    subst hS
    obtain rfl := N2.out
    have v29 := v2_.le (base' := w.heap.size) (by omega)
    exact bodyPost_ret (v := .agg #[.int .u8 x0, .string x1, .slice a2 x2.length c2, .int .i64 x3]) (by simp [results, Tryz.results65, go_sem, d0, d1, d2, d3]) rfl ⟨⟨x0, x1, a2, x2, c2, x3⟩, rfl, rfl, v29, r_, o_⟩
end Go.Proofs.YtglgcjkglhlggaaGreatDoor
