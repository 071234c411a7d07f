/- The writer of wire: counts, texts, values, rows of values. Conditions: the buffer holds bytes, and has only been written. -/
import Derived.Test.YtnfldkebjeigiaaDoorWBuf
namespace Go.Proofs.YtnfldkebjeigiaaDoor
open Go.RowKit
set_option maxRecDepth 20000

theorem Wrote.start {B b : Nat} {bs : List Int} {w : World} (h : BufIs w B b bs) : Wrote B b bs w w := ⟨h, Below.refl _ _, Lib.OthersKept.refl _ _ _⟩
theorem Wrote.alloc {B b : Nat} {bs : List Int} {w w' : World} (h : Wrote B b bs w w') (hB : B ≤ w.heap.size) (o : Obj) : Wrote B b bs w (w'.alloc o) := ⟨LibA.IsBuffer.alloc h.1 o, h.2.1.alloc (Nat.le_trans hB h.2.1.size) o, h.2.2.alloc o⟩
theorem BufIs.lt {w : World} {B b : Nat} {bs : List Int} (h : BufIs w B b bs) : b < w.heap.size := LibA.IsBuffer.lt h
/-- One number, in 4 or 8 bytes. -/
theorem put1_any (B b size g : Nat) (bs : List Int) (n : Int) (w : World) (hg : w.heap.size = g) (hsz : size ≤ 8) (hs0 : 1 ≤ size) (h : BufIs w B b bs) (hBw : B ≤ w.heap.size) (hlim : bs.length + 9000 ≤ 140737488355328) :
    Calls Tryd.prog 38 #[.pointer (some ⟨b, 0, none⟩), .int .i64 size, .slice (some ⟨g, 0, none⟩) 1 1] (w.alloc (.cells #[.int .i64 n] 2)) fun e w' => e = .returned (.tuple #[]) ∧ Wrote B b (bs ++ numB size n) w w' := by
  subst hg
  have h1 := (Wrote.start h).alloc hBw (.cells #[.int .i64 n] 2)
  refine (put_any B b w.heap.size 1 1 size bs [n] _ hsz hs0 (by have := h.lt; omega) rfl (heap_alloc_new w _) h1.1 (by simp; omega) (by omega) hlim).mono ?_
  rintro e w' ⟨he, hw⟩
  refine ⟨he, ?_⟩
  have := h1.trans hw
  simpa using this
/-- Two numbers. -/
theorem put2_any (B b size g : Nat) (bs : List Int) (n m : Int) (w : World) (hg : w.heap.size = g) (hsz : size ≤ 8) (hs0 : 1 ≤ size) (h : BufIs w B b bs) (hBw : B ≤ w.heap.size) (hlim : bs.length + 9000 ≤ 140737488355328) :
    Calls Tryd.prog 38 #[.pointer (some ⟨b, 0, none⟩), .int .i64 size, .slice (some ⟨g, 0, none⟩) 2 2] (w.alloc (.cells #[.int .i64 n, .int .i64 m] 2)) fun e w' => e = .returned (.tuple #[]) ∧ Wrote B b (bs ++ (numB size n ++ numB size m)) w w' := by
  subst hg
  have h1 := (Wrote.start h).alloc hBw (.cells #[.int .i64 n, .int .i64 m] 2)
  refine (put_any B b w.heap.size 2 2 size bs [n, m] _ hsz hs0 (by have := h.lt; omega) rfl (heap_alloc_new w _) h1.1 (by simp; omega) (by omega) hlim).mono ?_
  rintro e w' ⟨he, hw⟩
  refine ⟨he, ?_⟩
  have := h1.trans hw
  simpa using this
theorem count_any (B b : Nat) (bs : List Int) (n : Int) (w : World) (h : BufIs w B b bs) (hBw : B ≤ w.heap.size) (hlim : bs.length + 9000 ≤ 140737488355328) :
    Calls Tryd.prog 41 #[.pointer (some ⟨b, 0, none⟩), .int .i64 n] w fun e w' => e = .returned (.tuple #[]) ∧ Wrote B b (bs ++ numB 4 n) w w' := by
  have H := Lib.hid h
  clear h
  go_enter Tryd.func41, Tryd.ntmps41
  go_wp2_with fail
  refine (put1_any B b 4 _ bs n w rfl (by omega) (by omega) H.out hBw hlim).mono ?_
  rintro e w1 ⟨rfl, hw⟩
  have HW := Lib.hid hw
  clear hw
  go_wp2_with fail
  go_end0
  exact ⟨rfl, HW.out⟩
theorem text_any (B b : Nat) (bs : List Int) (s : ByteArray) (w : World) (h : BufIs w B b bs) (hBw : B ≤ w.heap.size) (hlim : bs.length + s.size + 9000 ≤ 140737488355328) :
    Calls Tryd.prog 43 #[.pointer (some ⟨b, 0, none⟩), .string s] w fun e w' => e = .returned (.tuple #[]) ∧ Wrote B b (bs ++ textB s) w w' := by
  have H := Lib.hid h
  clear h
  go_enter Tryd.func43, Tryd.ntmps43
  go_wp2_with fail
  refine (count_any B b bs s.size w H.out hBw (by omega)).mono ?_
  rintro e w1 ⟨rfl, hw⟩
  have HW := Lib.hid hw
  clear hw
  go_wp2_with fail
  refine (writeString_any B b _ s w1 HW.out.1 (Nat.le_trans hBw HW.out.2.1.size) (by rw [List.length_append, numB_len]; omega)).mono ?_
  rintro e w2 ⟨rfl, hw2⟩
  have hw3 := HW.out.trans hw2
  rw [List.append_assoc] at hw3
  have HW3 := Lib.hid hw3
  clear hw2 hw3
  go_wp2_with fail
  go_end0
  exact ⟨rfl, HW3.out⟩
set_option maxHeartbeats 1000000 in
theorem value_any (B b : Nat) (bs : List Int) (v : Va) (w : World) (h : BufIs w B b bs) (hBw : B ≤ w.heap.size) (hlim : bs.length + v.text.size + 9100 ≤ 140737488355328) :
    Calls Tryd.prog 46 #[.pointer (some ⟨b, 0, none⟩), .agg #[.int .u8 v.kind, .int .i64 v.num, .string v.text]] w fun e w' => e = .returned (.tuple #[]) ∧ Wrote B b (bs ++ valueB v) w w' := by
  obtain ⟨kd, num, text⟩ := v
  dsimp only at hlim
  have h1 := (Wrote.start h).alloc hBw (.cells #[.int .u8 kd, .int .i64 num, .string text] 24)
  have hblk := heap_alloc_new w (.cells #[.int .u8 kd, .int .i64 num, .string text] 24)
  have hbl := h.lt
  have hsz1 : (w.alloc (.cells #[.int .u8 kd, .int .i64 num, .string text] 24)).heap.size = w.heap.size + 1 := by simp
  have H1 := Lib.hid h1
  have HBLK := Lib.hid hblk
  have HSZ := Lib.hid hsz1
  clear h h1 hblk hsz1
  dsimp only
  go_enter Tryd.func46, Tryd.ntmps46
  go_wp2_with fail
  have h1 := H1.out
  have hd := HBLK.out
  generalize (w.alloc (.cells #[.int .u8 kd, .int .i64 num, .string text] 24)) = w0 at h1 hd ⊢
  have d0 : w0.cell? ⟨w.heap.size, 0, none⟩ = some (.int .u8 kd) := Go.Joins.cell_of_block hd 0
  have H1' := Lib.hid h1.drew
  have HD := Lib.hid (show w0.drew.heap[w.heap.size]? = some (.cells #[.int .u8 kd, .int .i64 num, .string text] 24 (0, 0)) from hd)
  clear h1 hd H1 HBLK HSZ
  go_still_tail 5, (by kernel_rfl)
  change wpList _ _ _ _ _ w0.drew
  generalize w0.drew = w1 at H1' HD ⊢
  clear d0
  go_wp2_with fail
  refine (writeByte_any B b bs kd w1 H1'.out.1 (Nat.le_trans hBw H1'.out.2.1.size) (by omega)).mono ?_
  rintro e w2 ⟨rfl, hw2⟩
  have hty : ∀ c fz, Obj.cells #[.int .u8 kd, .int .i64 num, .string text] 24 (0, 0) ≠ .cells c 5 fz := by intro c fz h; injection h with _ h2 _; revert h2; decide
  have hblk2 := hw2.2.2 w.heap.size _ HD.out (by simp; omega) hty
  have d0 : w2.cell? ⟨w.heap.size, 0, none⟩ = some (.int .u8 kd) := Go.Joins.cell_of_block hblk2 0
  have d1 : w2.cell? ⟨w.heap.size, 1, none⟩ = some (.int .i64 num) := Go.Joins.cell_of_block hblk2 1
  have d2 : w2.cell? ⟨w.heap.size, 2, none⟩ = some (.string text) := Go.Joins.cell_of_block hblk2 2
  have H2 := Lib.hid (H1'.out.trans hw2)
  clear hw2 hblk2 H1' HD hty
  by_cases hk1 : kd = 1
  · subst hk1
    go_wp2_with fail
    refine (put1_any B b 8 _ _ num w2 rfl (by omega) (by omega) H2.out.1 (Nat.le_trans hBw H2.out.2.1.size) (by simp; omega)).mono ?_
    rintro e w3 ⟨rfl, hw3⟩
    have hw4 := H2.out.trans hw3
    rw [List.append_assoc] at hw4
    have H4 := Lib.hid hw4
    clear hw3 hw4
    go_wp2_with fail
    go_end0
    exact ⟨rfl, H4.out⟩
  · have n1 : (kd == 1) = false := by simpa using hk1
    have n2 : decide (kd = 1) = false := by simpa using hk1
    by_cases hk2 : kd = 2
    · subst hk2
      go_wp2_with fail
      refine (text_any B b _ text w2 H2.out.1 (Nat.le_trans hBw H2.out.2.1.size) (by simp; omega)).mono ?_
      rintro e w3 ⟨rfl, hw3⟩
      have hw4 := H2.out.trans hw3
      rw [List.append_assoc] at hw4
      have H4 := Lib.hid hw4
      clear hw3 hw4
      go_wp2_with fail
      go_end0
      exact ⟨rfl, H4.out⟩
    · have n3 : (kd == 2) = false := by simpa using hk2
      have n4 : decide (kd = 2) = false := by simpa using hk2
      have hv : valueB ⟨kd, num, text⟩ = [kd] := by unfold valueB; dsimp only; rw [if_neg hk1, if_neg hk2]
      have HV := Lib.hid hv
      clear hv
      go_wp2_with fail
      go_end0
      exact ⟨rfl, by rw [HV.out]; exact H2.out⟩
end Go.Proofs.YtnfldkebjeigiaaDoor
