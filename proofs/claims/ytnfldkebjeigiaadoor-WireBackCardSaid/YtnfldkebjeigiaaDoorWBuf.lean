/- The writer of wire: what it writes stands behind what it held. Conditions: the buffer holds bytes, and has only been written. -/
import Derived.Test.YtnfldkebjeigiaaDoorWirePlain
import Derived.Test.YtnfldkebjeigiaaDoorLentBytes
import Derived.Test.YtnfldkebjeigiaaDoorShelf
import Derived.StillTailTactics
namespace Go.Proofs.YtnfldkebjeigiaaDoor
open Go.RowKit
set_option maxRecDepth 20000

/-- Block b is a writer that holds these bytes. -/
def BufIs (w : World) (B b : Nat) (bs : List Int) : Prop := LibA.IsBuffer 85 (fun _ => none) 5 B b 0 (bs.map bv) w
/-- What a writing method does. -/
def Wrote (B b : Nat) (bs : List Int) (w w' : World) : Prop := BufIs w' B b bs ∧ Below B w w' ∧ Lib.OthersKept 5 (some b) w w'
theorem Wrote.trans {B b : Nat} {bs cs : List Int} {w w' w'' : World} (h : Wrote B b bs w w') (h2 : Wrote B b cs w' w'') : Wrote B b cs w w'' := ⟨h2.1, h.2.1.trans h2.2.1, h.2.2.trans h2.2.2⟩
theorem Wrote.drew {B b : Nat} {bs : List Int} {w w' : World} (h : Wrote B b bs w w') : Wrote B b bs w w'.drew := ⟨h.1, h.2.1.drew, h.2.2⟩
theorem BufIs.low {w : World} {B b : Nat} {bs : List Int} (h : BufIs w B b bs) : B ≤ b := h.1
theorem writeByte_any (B b : Nat) (bs : List Int) (c : Int) (w : World) (h : BufIs w B b bs) (hBw : B ≤ w.heap.size) (hlim : bs.length + 1 ≤ 140737488355328) :
    Calls Tryd.prog 39 #[.pointer (some ⟨b, 0, none⟩), .int .u8 c] w fun e w' => e = .returned .nilIface ∧ Wrote B b (bs ++ [c]) w w' := by
  refine (Tryd.Buffer_WriteByte_at _ _ B b 0 _ c w h hBw (bytes_oneCell _) (by simpa using hlim)).mono ?_
  rintro e w' ⟨h1, h2, h3, h4⟩
  exact ⟨h1, by unfold BufIs; rw [List.map_append]; exact h2, h3, h4⟩
theorem byteCells_bv (s : ByteArray) : Lib.byteCells s.data.toList = (strB s).map bv := by
  simp [Lib.byteCells, strB, bv]
theorem writeString_any (B b : Nat) (bs : List Int) (s : ByteArray) (w : World) (h : BufIs w B b bs) (hBw : B ≤ w.heap.size) (hlim : bs.length + s.size ≤ 140737488355328) :
    Calls Tryd.prog 67 #[.pointer (some ⟨b, 0, none⟩), .string s] w fun e w' => e = .returned (.tuple #[.int .i64 s.size, .nilIface]) ∧ Wrote B b (bs ++ strB s) w w' := by
  refine (Tryd.Buffer_WriteString_at _ _ B b 0 _ s w h hBw (bytes_oneCell _) (by simpa using hlim)).mono ?_
  rintro e w' ⟨h1, h2, h3, h4⟩
  exact ⟨h1, by unfold BufIs; rw [List.map_append, ← byteCells_bv]; exact h2, h3, h4⟩
theorem flatN_len (size : Nat) (xs : List Int) : (xs.flatMap (numB size)).length = xs.length * size := by
  induction xs with
  | nil => simp
  | cons x xs ih => rw [List.flatMap_cons, List.length_append, ih, numB_len, List.length_cons, Nat.add_mul]; omega
set_option maxHeartbeats 1000000 in
theorem put_any (B b rb m c size : Nat) (bs xs : List Int) (w : World) (hsz : size ≤ 8) (hs0 : 1 ≤ size) (hrb : rb ≠ b) (hm : xs.length = m) (hrow : w.heap[rb]? = some (.cells (xs.map fun x => .int .i64 x).toArray 2 (0, 0))) (h : BufIs w B b bs) (hBw : B ≤ w.heap.size) (hml : m ≤ 1000) (hlim : bs.length + 9000 ≤ 140737488355328) :
    Calls Tryd.prog 38 #[.pointer (some ⟨b, 0, none⟩), .int .i64 size, .slice (some ⟨rb, 0, none⟩) m c] w fun e w' => e = .returned (.tuple #[]) ∧ Wrote B b (bs ++ xs.flatMap (numB size)) w w' := by
  have HM := Lib.hid hm
  have HR := Lib.hid hrow
  have HB := Lib.hid h
  clear hm hrow h
  have hne : some rb ≠ some b := by simpa using hrb
  go_enter Tryd.func38, Tryd.ntmps38
  go_wp2_with fail
  go_loopw [11] (fun i wr => ∃ k : Nat, k ≤ m ∧ i = .int .i64 k ∧ Wrote B b (bs ++ (xs.take k).flatMap (numB size)) w wr) (fun i _ => m - (intOf i).toNat)
  case atStart => exact ⟨0, by omega, rfl, by simpa using HB.out, Below.refl _ _, Lib.OthersKept.refl _ _ _⟩
  case round =>
    obtain ⟨k, hk, rfl, hw⟩ := hrel
    have HW := Lib.hid hw
    clear hw
    by_cases hlt : k < m
    · have hkx : xs[k]? = some (xs[k]'(by rw [HM.out]; exact hlt)) := List.getElem?_eq_getElem _
      have htk : (xs.take (k + 1)).flatMap (numB size) = (xs.take k).flatMap (numB size) ++ numB size (xs[k]'(by rw [HM.out]; exact hlt)) := by
        rw [List.take_succ_eq_append_getElem (by rw [HM.out]; exact hlt), List.flatMap_append]; simp
      have hlen : ((xs.take k).flatMap (numB size)).length ≤ k * 8 := by
        rw [flatN_len, List.length_take]
        exact Nat.mul_le_mul (Nat.min_le_left _ _) hsz
      generalize (xs[k]'(by rw [HM.out]; exact hlt)) = x at hkx htk
      have hrw := HW.out.2.2 rb _ HR.out hne (by intro c fz hh; injection hh with _ h2 _; revert h2; decide)
      have c0 : wr.cell? ⟨rb, k, none⟩ = some (.int .i64 x) := by
        rw [Go.Joins.cell_of_block hrw k, List.getElem?_toArray, List.getElem?_map, hkx]; rfl
      have HT := Lib.hid htk
      have i1 : (k : Int) < m := by omega
      clear hkx htk hrw
      go_wp2_with fail
      obtain ⟨wo, rfl⟩ : ∃ wo : World, wo = wr := ⟨_, rfl⟩
      have w0 : IntKind.i64.wrap ((size : Int) - 1) = (size : Int) - 1 := IntWalk.i64_in _ (by omega)
      go_loopw [8] (fun i wi => ∃ q : Nat, q ≤ size ∧ i = .int .i64 ((size : Int) - 1 - q) ∧ Wrote B b (bs ++ (xs.take k).flatMap (numB size) ++ (numB size x).take q) w wi) (fun i _ => (intOf i + 1).toNat)
      case atStart => exact ⟨0, by omega, by simp, by simpa using HW.out⟩
      case round =>
        obtain ⟨q, hq, rfl, hw2⟩ := hrel
        have HW2 := Lib.hid hw2
        clear hw2 c0
        by_cases hltq : q < size
        · obtain ⟨p, hp⟩ : ∃ p : Nat, p = size - 1 - q := ⟨_, rfl⟩
          have hpe : (size : Int) - 1 - q = p := by omega
          have hnt := numB_take size x q hltq
          rw [← hp] at hnt
          have HNT := Lib.hid hnt
          have hp8 : p ≤ 7 := by omega
          have w3 : IntKind.i64.wrap (8 * (p : Int)) = 8 * p := IntWalk.i64_in _ (by omega)
          have n3 : ((8 : Int) * p).toNat = 8 * p := by omega
          have g3 : (0 : Int) ≤ 8 * p := by omega
          have HPE := Lib.hid hpe
          have hlq : ((numB size x).take q).length ≤ 8 := by rw [List.length_take, numB_len]; omega
          rw [hpe]
          clear hnt hp hpe
          go_wp2_with fail
          go_still_tail 8, (by kernel_rfl)
          change wpList _ _ _ _ _ wr.drew
          have hw4 : Wrote B b (bs ++ (xs.take k).flatMap (numB size) ++ (numB size x).take q) w wr.drew := HW2.out.drew
          generalize wr.drew = w6 at hw4 ⊢
          have HW4 := Lib.hid hw4
          clear hw4
          go_wp2_with fail
          refine (writeByte_any B b _ (x / 2 ^ (8 * p) % 256) w6 HW4.out.1 (Nat.le_trans hBw HW4.out.2.1.size) (by simp only [List.length_append]; omega)).mono ?_
          rintro e w7 ⟨rfl, hw7⟩
          have hw8 := HW4.out.trans hw7
          rw [List.append_assoc, ← HNT.out] at hw8
          have HW8 := Lib.hid hw8
          clear hw7 hw8
          go_wp2_with fail
          go_roundw
          case rel => exact ⟨q + 1, by omega, by have := HPE.out; congr 1; push_cast; omega, HW8.out⟩
          case measure => first | (simp [intOf]; done) | (have := HPE.out; simp [intOf]; omega)
        · have hqe : q = size := by omega
          have hw5 := HW2.out
          rw [hqe, List.take_of_length_le (l := numB size x) (by rw [numB_len]; exact Nat.le_refl _), List.append_assoc, ← HT.out] at hw5
          have HW5 := Lib.hid hw5
          have g5 : (size : Int) - 1 - q < 0 := by omega
          clear hw5 hqe
          go_wp2_with fail
          go_roundw
          case rel => exact ⟨k + 1, by omega, by go_num, HW5.out⟩
          case measure => simp [intOf]; omega
    · obtain rfl : k = m := by omega
      have hw5 := HW.out
      rw [List.take_of_length_le (by rw [HM.out]; exact Nat.le_refl _)] at hw5
      have HW5 := Lib.hid hw5
      clear hw5
      go_wp2_with fail
      go_end0
      exact ⟨rfl, HW5.out⟩
end Go.Proofs.YtnfldkebjeigiaaDoor
