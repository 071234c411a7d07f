/- LentBytes, KeptBytes: a row of bytes is copied with marks behind its end; as long as nobody writes there, it is found as it was. Conditions: the row has less than 2 to the 40 bytes. -/
import Derived.Test.YtejgebpdipnhmaaGreatDoorGSnapNumbers0
import Derived.StillTailTactics
set_option linter.unusedVariables false
set_option linter.unusedSimpArgs false
namespace Go.Proofs.YtejgebpdipnhmaaGreatDoor
open Go.RowKit
set_option maxRecDepth 20000
/-- The mark of a place behind a row of bytes. -/
def markB (i : Nat) : Int := IntKind.u64.wrap ((8000024 + (i : Int)) * 11400714819323198485) / 72057594037927936 % 256
theorem markI_any (i : Int) (h0 : 0 ≤ i) (h1 : i ≤ 1000000000) (w : World) :
    Calls Tryz.prog 80 #[.int .i64 1, .int .i64 i] w fun e w' => e = .returned (.int .i64 (8000024 + i)) ∧ w = w' := by
  go_enter Tryz.func80, Tryz.ntmps80
  go_wp2
  go_ret
  exact ⟨rfl, rfl⟩
theorem markByte_any (i : Nat) (h1 : i ≤ 1000000000) (w : World) :
    Calls Tryz.prog 53 #[.int .i64 1, .int .i64 i] w fun e w' => e = .returned (.int .u8 (markB i)) ∧ w = w' := by
  go_enter Tryz.func53, Tryz.ntmps53
  go_wp2_with (go_at_call 80; (with_reducible refine (markI_any i (by omega) (by omega) _).mono ?_); rintro e w' ⟨rfl, rfl⟩)
  go_ret
  exact ⟨rfl, rfl⟩
theorem markByte_at (i : Int) (m : Nat) (h : i = m) (h1 : m ≤ 1000000000) (w : World) :
    Calls Tryz.prog 53 #[.int .i64 1, .int .i64 i] w fun e w' => e = .returned (.int .u8 (markB m)) ∧ w = w' := by
  subst h; exact markByte_any m h1 w
def marksB (k : Nat) : List Int := (List.range k).map markB
theorem marksB_succ (k : Nat) : marksB (k + 1) = marksB k ++ [markB k] := by simp [marksB, List.range_succ]
/-- Block g holds the bytes xs and twelve marksB behind them. -/
def LentB (w : World) (B g : Nat) (xs : List Int) : Prop :=
  w.ownsRow B 5 1 (.slice (some ⟨g, 0, none⟩) (xs.length + 12) (xs.length + 12)) (xs.length + 12) ((xs ++ marksB 12).map bv)
theorem ownsRow_ltB {w : World} {base e size n g c : Nat} {xs : List Value} (h : w.ownsRow base e size (.slice (some ⟨g, 0, none⟩) n c) n xs) : g < w.heap.size := by
  rcases h.2 with ⟨h', _⟩ | ⟨g', cap', cur, h', _, h3, _⟩
  · simp at h'
  · simp only [Value.slice.injEq, Option.some.injEq, Addr.mk.injEq, and_true, true_and] at h'
    obtain ⟨rfl, rfl⟩ := h'
    exact (Array.getElem?_eq_some_iff.1 h3).1
def LentBPost (xs : List Int) (w : World) (e : Ending) (w' : World) : Prop :=
  ∃ g, e = .returned (.slice (some ⟨g, 0, none⟩) xs.length (xs.length + 12)) ∧ w.heap.size ≤ g ∧ g < w'.heap.size ∧ LentB w' w.heap.size g xs ∧ Below w.heap.size w w'
def LentBAt (w : World) (g : Nat) (xs : List Int) (k : Nat) : Prop :=
  w.ownsRow g 5 1 (.slice (some ⟨g, 0, none⟩) (xs.length + k) (xs.length + 12)) (xs.length + k) ((xs ++ marksB k).map bv)
theorem lentBAt_succ {w : World} {g k : Nat} {xs : List Int} (h : w.ownsRow g 5 1 (.slice (some ⟨g, 0, none⟩) (xs.length + k + 1) (xs.length + 12)) (xs.length + k + 1) (xs.map bv ++ ((marksB k).map bv ++ [.int .u8 (markB k)]))) : LentBAt w g xs (k + 1) := by
  unfold LentBAt
  rw [marksB_succ, List.map_append, List.map_append, ← Nat.add_assoc]
  exact h
theorem LentBAt.lt {w : World} {g k : Nat} {xs : List Int} (h : LentBAt w g xs k) : g < w.heap.size := ownsRow_ltB h
theorem lentB_any (ao : Option Addr) (cap : Nat) (xs : List Int) (w : World) (hx : BytesIn w w.heap.size ao xs) (hao : ao = none → cap = 0) (hl : xs.length ≤ 1099511627776) :
    Calls Tryz.prog 21 #[.slice ao xs.length cap] w (LentBPost xs w) := by
  obtain ⟨i0, hi, hz0, hz1, hz2⟩ := info_parts infoByte
  have hm1 : (0 : Int) ≤ (xs.length : Int) + 12 := by omega
  have HX := Lib.hid hx
  clear hx
  go_enter Tryz.func21, Tryz.ntmps21
  go_wp2_with (at_make; refine wpList_make_own _ rfl _ _ 24 rfl w.heap.size 5 i0 (.int .u8 0) 1 Tryz.underlying24 hi hz0 hz1 .i64 .i64 _ (xs.length + 12) rfl rfl (by omega) (by rw [hz2]; omega) (by unfold maxLen; omega) (Nat.le_refl _) ?_)
  intro w1 hown1 hg1
  have hb1 : Below w.heap.size w w1 := (Below.refl _ _).grown hg1 (Nat.le_refl _) (fun k hk => by cases hk)
  have hnone : ao = none → xs.length = 0 ∧ cap = 0 := fun h => ⟨by rcases HX.out with h0 | ⟨b, off, h1, _⟩; (rw [h0]; rfl); (rw [h] at h1; cases h1), hao h⟩
  have hcell : ∀ ad, ao = some ad → ∀ (j : Nat) u, (xs.map bv)[j]? = some u → w1.cell? (ad.add j) = some u := fun ad had j u hu => cells_of_bytes HX.out hb1 had hu
  go_wp2_with (at_builtin; refine wpList_append_fits_any _ rfl (.tmp 9) (.tmp 10) 24 rfl w.heap.size 5 i0 1 Tryz.underlying24 hi hz1 w.heap.size 0 (xs.length + 12) [] rfl hown1 ao xs.length cap (xs.map bv) rfl (by simp) hnone hcell (bytes_oneCell _) (by omega) ?_)
  intro w2 hown2 hg2
  have hb2 : Below w.heap.size w w2 := hb1.grown hg2 (hb1.size) (fun k hk => by cases hk; exact Nat.le_refl _)
  clear hnone hcell hown1 hg1 hg2 hb1
  have hgs : w.heap.size < w2.heap.size := ownsRow_ltB hown2
  go_wp2_with fail
  go_loopw [3, 4] (fun v i wr => ∃ k : Nat, k ≤ 12 ∧ i = .int .i64 k ∧ v = .slice (some ⟨w.heap.size, 0, none⟩) (xs.length + k) (xs.length + 12) ∧ LentBAt wr w.heap.size xs k ∧ Below w.heap.size w wr) (fun _ i _ => 12 - (intOf i).toNat)
  case atStart => exact ⟨0, by omega, rfl, rfl, by simpa [LentBAt, marksB] using hown2, hb2⟩
  case round =>
    obtain ⟨k, hk, rfl, rfl, hown, hbel⟩ := hrel
    clear hown2 hb2 hgs
    by_cases hlt : k < 12
    · have hs := hbel.size
      go_wp2_with (first | (go_at_call 53; (with_reducible refine (markByte_any k (by omega) _).mono ?_); rintro e w' ⟨rfl, rfl⟩) | (at_builtin; refine wpList_append_fits _ rfl (.tmp 16) (.tmp 19) 24 rfl w.heap.size 5 i0 1 Tryz.underlying24 hi hz1 w.heap.size (xs.length + k) (xs.length + 12) ((xs ++ marksB k).map bv) rfl (World.ownsRow.alloc hown _) ⟨wr.heap.size, 0, none⟩ 1 1 [.int .u8 (markB k)] rfl rfl (cell_one_new _ _ _) (by simp [Value.oneCell']) (by omega) ?_))
      intro w3 hown3 hg3
      have hb3 : Below w.heap.size w w3 := (hbel.alloc hs _).grown hg3 (by simp; omega) (fun k hk => by cases hk; exact Nat.le_refl _)
      have hown4 : LentBAt w3 w.heap.size xs (k + 1) := lentBAt_succ hown3
      clear hown hown3 hg3
      go_wp2_with fail
      go_roundw
      case rel => exact ⟨k + 1, by omega, by go_num, by rw [Nat.add_assoc], hown4, hb3⟩
      case measure => simp [intOf]; omega
    · obtain rfl : k = 12 := by omega
      have hx1 := hown.lt
      go_wp2_with fail
      go_ret
      exact ⟨w.heap.size, rfl, Nat.le_refl _, hx1, hown, hbel⟩
theorem LentB.bytes {w : World} {B g : Nat} {xs : List Int} (h : LentB w B g xs) : BytesIn w (g + 1) (some ⟨g, 0, none⟩) xs := by
  refine Or.inr ⟨g, 0, rfl, by omega, fun i hi => ?_⟩
  rw [Nat.zero_add, World.ownsRow.cellAt h i (by omega)]
  rw [List.map_append, List.getElem?_append_left (by simpa using hi)]
  simp [bv, List.getD, List.getElem?_eq_getElem hi]
theorem LentB.mark {w : World} {B g : Nat} {xs : List Int} (h : LentB w B g xs) {i : Nat} (hi : i < 12) : w.cell? ⟨g, xs.length + i, none⟩ = some (.int .u8 (markB i)) := by
  rw [World.ownsRow.cellAt h _ (by omega)]
  simp [bv, marksB, hi]
theorem LentB.lt {w : World} {B g : Nat} {xs : List Int} (h : LentB w B g xs) : g < w.heap.size := ownsRow_ltB h
theorem keptB_any (ao : Option Addr) (cap g B : Nat) (xs : List Int) (w : World) (hx : BytesIn w w.heap.size ao xs) (hL : LentB w B g xs) (hl : xs.length ≤ 1099511627776) :
    Calls Tryz.prog 22 #[.slice (some ⟨g, 0, none⟩) xs.length (xs.length + 12 : Nat), .slice ao xs.length cap] w fun e w' => e = .returned (.bool true) ∧ Below w.heap.size w w' := by
  have HX := Lib.hid hx
  clear hx
  go_enter Tryz.func22, Tryz.ntmps22
  go_wp2_with fail
  go_loopw [6] (fun i wr => ∃ k : Nat, k ≤ xs.length + 12 ∧ i = .int .i64 k ∧ Below w.heap.size w wr) (fun i _ => xs.length + 12 - (intOf i).toNat)
  case atStart => exact ⟨0, by omega, rfl, Below.refl _ _⟩
  case round =>
    obtain ⟨k, hk, rfl, hbel⟩ := hrel
    by_cases hlt : k < xs.length
    · rcases HX.out with h0 | ⟨b, off, rfl, hb, hc⟩
      · rw [h0] at hlt; simp at hlt
      obtain ⟨x, hxe⟩ : ∃ x, x = xs.getD k 0 := ⟨_, rfl⟩
      have c0 : ∀ x : Calm w.heap.size w, x.1.cell? ⟨b, off + k, none⟩ = some (.int .u8 (xs.getD k 0)) := fun x => x.cell (hc k hlt) hb
      have c1 : ∀ x : Calm w.heap.size w, x.1.cell? ⟨g, k, none⟩ = some (.int .u8 (xs.getD k 0)) := fun x => x.cell (by
        rcases hL.bytes with h0 | ⟨b', off', h1, _, h3⟩
        · rw [h0] at hlt; simp at hlt
        · cases h1; simpa using h3 k hlt) hL.lt
      rw [← hxe] at c0 c1
      clear hxe hc
      have i1 : (k : Int) < xs.length := by omega
      have d1 : decide (xs.length ≤ k) = false := by simp; omega
      go_wp2_with fail
      refine wp_region_calm (B := w.heap.size) (W0 := w) hbel (by kernel_rfl) (by kernel_rfl) ?_
      repeat (go_big_quiet_step (fail))
      refine wpQuiet_nil ?_
      intro w5 hb5
      clear c0 c1
      go_wp2_with fail
      go_roundw
      case rel => exact ⟨k + 1, by omega, by go_num, hb5⟩
      case measure => simp [intOf]; omega
    · by_cases hlt2 : k < xs.length + 12
      · obtain ⟨m, rfl⟩ : ∃ m, k = xs.length + m := ⟨k - xs.length, by omega⟩
        have c1 : ∀ x : Calm w.heap.size w, x.1.cell? ⟨g, xs.length + m, none⟩ = some (.int .u8 (markB m)) := fun x => x.cell (hL.mark (by omega)) hL.lt
        have i1 : ¬ (xs.length : Int) + m < xs.length := by omega
        have i2 : (xs.length : Int) + m < xs.length + 12 := by omega
        have d1 : decide ((xs.length : Int) + m < xs.length) = false := by simp; omega
        have n1 : ((xs.length : Int) + m).toNat = xs.length + m := by omega
        have n2 : IntKind.i64.wrap (m : Int) = m := IntWalk.i64_in _ (by omega)
        have n3 : (0 : Int) ≤ (xs.length : Int) + m := by omega
        go_wp2_with fail
        refine wp_region_calm (B := w.heap.size) (W0 := w) hbel (by kernel_rfl) (by kernel_rfl) ?_
        repeat (go_big_quiet_step ((go_at_call 53; exact Calm.same (markByte_at _ m (by omega) (by omega) _))))
        refine wpQuiet_nil ?_
        intro w5 hb5
        clear c1
        go_wp2_with fail
        go_roundw
        case rel => exact ⟨xs.length + m + 1, by omega, by go_num, hb5⟩
        case measure => simp [intOf]; omega
      · go_wp2_with fail
        go_ret
        exact ⟨rfl, hbel⟩
end Go.Proofs.YtejgebpdipnhmaaGreatDoor
/- The writer of wire: what it writes stands behind what it held. Conditions: the buffer holds bytes, and has only been written. -/
namespace Go.Proofs.YtejgebpdipnhmaaGreatDoor
open Go.RowKit
set_option maxRecDepth 20000
/-- Block b is a writer that holds these bytes. -/
def BufIs (w : World) (B b : Nat) (bs : List Int) : Prop := LibA.IsBuffer 180 (fun _ => none) 5 B b 0 (bs.map bv) w
/-- What a writing method does. -/
def Wrote (B b : Nat) (bs : List Int) (w w' : World) : Prop := BufIs w' B b bs ∧ Below B w w' ∧ Lib.OthersKept 5 (some b) w w'
theorem Wrote.trans {B b : Nat} {bs cs : List Int} {w w' w'' : World} (h : Wrote B b bs w w') (h2 : Wrote B b cs w' w'') : Wrote B b cs w w'' := ⟨h2.1, h.2.1.trans h2.2.1, h.2.2.trans h2.2.2⟩
theorem Wrote.drew {B b : Nat} {bs : List Int} {w w' : World} (h : Wrote B b bs w w') : Wrote B b bs w w'.drew := ⟨h.1, h.2.1.drew, h.2.2⟩
theorem writeByte_any (B b : Nat) (bs : List Int) (c : Int) (w : World) (h : BufIs w B b bs) (hBw : B ≤ w.heap.size) (hlim : bs.length + 1 ≤ 140737488355328) :
    Calls Tryz.prog 114 #[.pointer (some ⟨b, 0, none⟩), .int .u8 c] w fun e w' => e = .returned .nilIface ∧ Wrote B b (bs ++ [c]) w w' := by
  refine (Tryz.Buffer_WriteByte_at _ _ B b 0 _ c w h hBw (bytes_oneCell _) (by simpa using hlim)).mono ?_
  rintro e w' ⟨h1, h2, h3, h4⟩
  exact ⟨h1, by unfold BufIs; rw [List.map_append]; exact h2, h3, h4⟩
theorem flatN_len (size : Nat) (xs : List Int) : (xs.flatMap (numB size)).length = xs.length * size := by
  induction xs with
  | nil => simp
  | cons x xs ih => rw [List.flatMap_cons, List.length_append, ih, numB_len, List.length_cons, Nat.add_mul]; omega
set_option maxHeartbeats 1000000 in
theorem put_any (B b rb m c size : Nat) (bs xs : List Int) (w : World) (hsz : size ≤ 8) (hs0 : 1 ≤ size) (hrb : rb ≠ b) (hm : xs.length = m) (hrow : w.heap[rb]? = some (.cells (xs.map fun x => .int .i64 x).toArray 2 (0, 0))) (h : BufIs w B b bs) (hBw : B ≤ w.heap.size) (hml : m ≤ 1000) (hlim : bs.length + 9000 ≤ 140737488355328) :
    Calls Tryz.prog 117 #[.pointer (some ⟨b, 0, none⟩), .int .i64 size, .slice (some ⟨rb, 0, none⟩) m c] w fun e w' => e = .returned (.tuple #[]) ∧ Wrote B b (bs ++ xs.flatMap (numB size)) w w' := by
  have HM := Lib.hid hm
  have HR := Lib.hid hrow
  have HB := Lib.hid h
  clear hm hrow h
  have hne : some rb ≠ some b := by simpa using hrb
  go_enter Tryz.func117, Tryz.ntmps117
  go_wp2_with fail
  go_loopw [11] (fun i wr => ∃ k : Nat, k ≤ m ∧ i = .int .i64 k ∧ Wrote B b (bs ++ (xs.take k).flatMap (numB size)) w wr) (fun i _ => m - (intOf i).toNat)
  case atStart => exact ⟨0, by omega, rfl, by simpa using HB.out, Below.refl _ _, Lib.OthersKept.refl _ _ _⟩
  case round =>
    obtain ⟨k, hk, rfl, hw⟩ := hrel
    have HW := Lib.hid hw
    clear hw
    by_cases hlt : k < m
    · have hkx : xs[k]? = some (xs[k]'(by rw [HM.out]; exact hlt)) := List.getElem?_eq_getElem _
      have htk : (xs.take (k + 1)).flatMap (numB size) = (xs.take k).flatMap (numB size) ++ numB size (xs[k]'(by rw [HM.out]; exact hlt)) := by
        rw [List.take_succ_eq_append_getElem (by rw [HM.out]; exact hlt), List.flatMap_append]; simp
      have hlen : ((xs.take k).flatMap (numB size)).length ≤ k * 8 := by
        rw [flatN_len, List.length_take]
        exact Nat.mul_le_mul (Nat.min_le_left _ _) hsz
      generalize (xs[k]'(by rw [HM.out]; exact hlt)) = x at hkx htk
      have hrw := HW.out.2.2 rb _ HR.out hne (by intro c fz hh; injection hh with _ h2 _; revert h2; decide)
      have c0 : wr.cell? ⟨rb, k, none⟩ = some (.int .i64 x) := by
        rw [Go.Joins.cell_of_block hrw k, List.getElem?_toArray, List.getElem?_map, hkx]; rfl
      have HT := Lib.hid htk
      have i1 : (k : Int) < m := by omega
      clear hkx htk hrw
      go_wp2_with fail
      obtain ⟨wo, rfl⟩ : ∃ wo : World, wo = wr := ⟨_, rfl⟩
      have w0 : IntKind.i64.wrap ((size : Int) - 1) = (size : Int) - 1 := IntWalk.i64_in _ (by omega)
      go_loopw [8] (fun i wi => ∃ q : Nat, q ≤ size ∧ i = .int .i64 ((size : Int) - 1 - q) ∧ Wrote B b (bs ++ (xs.take k).flatMap (numB size) ++ (numB size x).take q) w wi) (fun i _ => (intOf i + 1).toNat)
      case atStart => exact ⟨0, by omega, by simp, by simpa using HW.out⟩
      case round =>
        obtain ⟨q, hq, rfl, hw2⟩ := hrel
        have HW2 := Lib.hid hw2
        clear hw2 c0
        by_cases hltq : q < size
        · obtain ⟨p, hp⟩ : ∃ p : Nat, p = size - 1 - q := ⟨_, rfl⟩
          have hpe : (size : Int) - 1 - q = p := by omega
          have hnt := numB_take size x q hltq
          rw [← hp] at hnt
          have HNT := Lib.hid hnt
          have hp8 : p ≤ 7 := by omega
          have w3 : IntKind.i64.wrap (8 * (p : Int)) = 8 * p := IntWalk.i64_in _ (by omega)
          have n3 : ((8 : Int) * p).toNat = 8 * p := by omega
          have g3 : (0 : Int) ≤ 8 * p := by omega
          have HPE := Lib.hid hpe
          have hlq : ((numB size x).take q).length ≤ 8 := by rw [List.length_take, numB_len]; omega
          rw [hpe]
          clear hnt hp hpe
          go_wp2_with fail
          go_still_tail 8, (by kernel_rfl)
          change wpList _ _ _ _ _ wr.drew
          have hw4 : Wrote B b (bs ++ (xs.take k).flatMap (numB size) ++ (numB size x).take q) w wr.drew := HW2.out.drew
          generalize wr.drew = w6 at hw4 ⊢
          have HW4 := Lib.hid hw4
          clear hw4
          go_wp2_with fail
          refine (writeByte_any B b _ (x / 2 ^ (8 * p) % 256) w6 HW4.out.1 (Nat.le_trans hBw HW4.out.2.1.size) (by simp only [List.length_append]; omega)).mono ?_
          rintro e w7 ⟨rfl, hw7⟩
          have hw8 := HW4.out.trans hw7
          rw [List.append_assoc, ← HNT.out] at hw8
          have HW8 := Lib.hid hw8
          clear hw7 hw8
          go_wp2_with fail
          go_roundw
          case rel => exact ⟨q + 1, by omega, by have := HPE.out; congr 1; push_cast; omega, HW8.out⟩
          case measure => first | (simp [intOf]; done) | (have := HPE.out; simp [intOf]; omega)
        · have hqe : q = size := by omega
          have hw5 := HW2.out
          rw [hqe, List.take_of_length_le (l := numB size x) (by rw [numB_len]; exact Nat.le_refl _), List.append_assoc, ← HT.out] at hw5
          have HW5 := Lib.hid hw5
          have g5 : (size : Int) - 1 - q < 0 := by omega
          clear hw5 hqe
          go_wp2_with fail
          go_roundw
          case rel => exact ⟨k + 1, by omega, by go_num, HW5.out⟩
          case measure => simp [intOf]; omega
    · obtain rfl : k = m := by omega
      have hw5 := HW.out
      rw [List.take_of_length_le (by rw [HM.out]; exact Nat.le_refl _)] at hw5
      have HW5 := Lib.hid hw5
      clear hw5
      go_wp2_with fail
      go_end0
      exact ⟨rfl, HW5.out⟩
end Go.Proofs.YtejgebpdipnhmaaGreatDoor
/- The writer of wire: counts, texts, values, rows of values. Conditions: the buffer holds bytes, and has only been written. -/
namespace Go.Proofs.YtejgebpdipnhmaaGreatDoor
open Go.RowKit
set_option maxRecDepth 20000
theorem Wrote.start {B b : Nat} {bs : List Int} {w : World} (h : BufIs w B b bs) : Wrote B b bs w w := ⟨h, Below.refl _ _, Lib.OthersKept.refl _ _ _⟩
theorem Wrote.alloc {B b : Nat} {bs : List Int} {w w' : World} (h : Wrote B b bs w w') (hB : B ≤ w.heap.size) (o : Obj) : Wrote B b bs w (w'.alloc o) := ⟨LibA.IsBuffer.alloc h.1 o, h.2.1.alloc (Nat.le_trans hB h.2.1.size) o, h.2.2.alloc o⟩
theorem BufIs.lt {w : World} {B b : Nat} {bs : List Int} (h : BufIs w B b bs) : b < w.heap.size := LibA.IsBuffer.lt h
/-- One number, in 4 or 8 bytes. -/
theorem put1_any (B b size g : Nat) (bs : List Int) (n : Int) (w : World) (hg : w.heap.size = g) (hsz : size ≤ 8) (hs0 : 1 ≤ size) (h : BufIs w B b bs) (hBw : B ≤ w.heap.size) (hlim : bs.length + 9000 ≤ 140737488355328) :
    Calls Tryz.prog 117 #[.pointer (some ⟨b, 0, none⟩), .int .i64 size, .slice (some ⟨g, 0, none⟩) 1 1] (w.alloc (.cells #[.int .i64 n] 2)) fun e w' => e = .returned (.tuple #[]) ∧ Wrote B b (bs ++ numB size n) w w' := by
  subst hg
  have h1 := (Wrote.start h).alloc hBw (.cells #[.int .i64 n] 2)
  refine (put_any B b w.heap.size 1 1 size bs [n] _ hsz hs0 (by have := h.lt; omega) rfl (heap_alloc_new w _) h1.1 (by simp; omega) (by omega) hlim).mono ?_
  rintro e w' ⟨he, hw⟩
  refine ⟨he, ?_⟩
  have := h1.trans hw
  simpa using this
end Go.Proofs.YtejgebpdipnhmaaGreatDoor
/- Rows of a call's own. No program. Conditions: as each says. -/
namespace Go.Proofs.YtejgebpdipnhmaaGreatDoor
open Go.RowKit
theorem own_none {w : World} {base e size n m cap : Nat} {ao : Option Addr} {xs : List Value} (h : w.ownsRow base e size (.slice ao m cap) n xs) : ao = none → cap = 0 := by
  rintro rfl
  rcases h.2 with ⟨h', _⟩ | ⟨g, cap', cur, h', _⟩
  · cases h'; rfl
  · cases h'
theorem own_below {w w' : World} {base e size n B : Nat} {v : Value} {xs : List Value} (h : w.ownsRow base e size v n xs) (hb : Below B w w') (hB : w.heap.size ≤ B) : w'.ownsRow base e size v n xs := by
  refine ⟨h.1, ?_⟩
  rcases h.2 with hn | ⟨g, cap, cur, hv, h1, h2, h3⟩
  · exact Or.inl hn
  · have hg := (Array.getElem?_eq_some_iff.1 h2).1
    exact Or.inr ⟨g, cap, cur, hv, h1, by rw [hb.block g (by omega)]; exact h2, h3⟩
theorem own_apart {w : World} {b1 e1 s1 n1 b2 e2 s2 n2 : Nat} {v1 v2 : Value} {xs1 xs2 : List Value} (h1 : w.ownsRow b1 e1 s1 v1 n1 xs1) (h2 : w.ownsRow b2 e2 s2 v2 n2 xs2) (he : e1 ≠ e2) : v1.ownBlock = none ∨ v1.ownBlock ≠ v2.ownBlock := by
  rcases h1.2 with ⟨rfl, _⟩ | ⟨g, cap, cur, rfl, _, g1, _⟩
  · exact Or.inl rfl
  · right
    rcases h2.2 with ⟨rfl, _⟩ | ⟨g', cap', cur', rfl, _, g2, _⟩
    · simp [Value.ownBlock]
    · intro hh
      simp [Value.ownBlock] at hh
      subst hh
      rw [g1] at g2
      simp only [Option.some.injEq, Obj.cells.injEq] at g2
      exact he g2.2.1
theorem own_capG {w : World} {base e size n m cap : Nat} {ao : Option Addr} {xs : List Value} (h : w.ownsRow base e size (.slice ao m cap) n xs) : m ≤ cap := by
  rcases h.2 with ⟨h', _⟩ | ⟨g, cap', cur, h', _, _, h3, _⟩
  · injection h' with _ h1 _; omega
  · injection h' with _ h1 h2; subst h1 h2; exact h3
end Go.Proofs.YtejgebpdipnhmaaGreatDoor
/- The writer of wire: what was written, told; Number, Text, Value. Conditions: what is written is not too long. -/
namespace Go.Proofs.YtejgebpdipnhmaaGreatDoor
open Go.RowKit
set_option maxRecDepth 20000
def ClonePost (xs : List Int) (w : World) (e : Ending) (w' : World) : Prop :=
  ∃ v, e = .returned v ∧ w'.ownsRow w.heap.size 5 1 v xs.length (xs.map bv) ∧ Below w.heap.size w w'
theorem clone_any (ao : Option Addr) (cap : Nat) (xs : List Int) (w : World) (B : Nat) (hx : BytesIn w B ao xs) (hB : B ≤ w.heap.size) (hao : ao = none → cap = 0) (hl : xs.length ≤ 140737488351232) :
    Calls Tryz.prog 34 #[.slice ao xs.length cap] w (ClonePost xs w) := by
  cases ao with
  | none =>
    have hnil : xs = [] := by
      rcases hx with h | ⟨b, off, h1, _⟩
      · exact h
      · cases h1
    subst hnil
    obtain rfl := hao rfl
    have he : ∀ w, (binOp .eql 24 (.slice none 0 0) (.slice none 0 0)).run Tryz.prog w = .ok (.bool true) w := fun _ => by kernel_rfl
    go_enter Tryz.func34, Tryz.ntmps34
    go_wp2_with fail
    go_ret
    exact ⟨_, rfl, World.ownsRow_nil _ _ _ _, Below.refl _ _⟩
  | some ad =>
    have he : ∀ w, (binOp .eql 24 (.slice (some ad) xs.length cap) (.slice none 0 0)).run Tryz.prog w = .ok (.bool false) w := fun _ => by kernel_rfl
    go_enter Tryz.func34, Tryz.ntmps34
    go_wp2_with (at_builtin; refine wpList_append_bytes rfl (.tmp 5) (.tmp 6) rfl w.heap.size _ [] rfl (World.ownsRow_lit w #[] 0 (Nat.le_refl _) (by unfold maxLen; omega) rfl) (some ad) cap xs rfl B (hx.below ((Below.refl B w).alloc hB _) (Nat.le_refl _)) (by simp) (by simp; omega) (by simp) ?_)
    intro v' w' hown hg
    have hb := ((Below.refl w.heap.size w).alloc (Nat.le_refl _) (.cells #[] 5)).grown hg (by simp) (fun k hk => by cases hk; exact Nat.le_refl _)
    clear hg he
    go_wp2_with fail
    go_ret
    exact ⟨_, rfl, by simpa using hown, hb⟩
/-- What the writer holds, told. -/
theorem bytes_of (B b : Nat) (bs : List Int) (w : World) (h : BufIs w B b bs) :
    Calls Tryz.prog 50 #[.pointer (some ⟨b, 0, none⟩)] w fun e w' => ∃ v, e = .returned v ∧ w'.ownsRow B 5 1 v bs.length (bs.map bv) ∧ Below w.heap.size w w' := by
  obtain ⟨hBb, v, lr, h3, hown, hvb⟩ := h
  rw [List.length_map] at hown
  have HO := Lib.hid hown
  have hfm : ∃ g c, v = .slice g bs.length c ∧ bs.length ≤ c ∧ (g = none → c = 0) := by
    rcases hown.2 with ⟨rfl, h⟩ | ⟨g, cap, cur, rfl, _, _, h1, h2, _⟩
    · exact ⟨none, 0, by rw [h], by omega, fun _ => rfl⟩
    · exact ⟨some ⟨g, 0, none⟩, cap, rfl, h1, by simp⟩
  obtain ⟨g, c, rfl, hlc, hg⟩ := hfm
  have c0 := h3.c0
  have c1 := h3.c1
  clear h3 hown
  go_enter Tryz.func50, Tryz.ntmps50
  go_wp2_with fail
  go_quiet (fail)
  go_wp2_with fail
  go_ret
  exact ⟨_, rfl, HO.out, below_drewN (Below.refl _ _) _⟩
theorem own_bytes' {w : World} {base c : Nat} {a : Option Addr} {l : List Int} (h : w.ownsRow base 5 1 (.slice a l.length c) l.length (l.map bv)) : BytesIn w w.heap.size a l := by
  obtain ⟨ao, cap, hv, hin⟩ := own_bytes h
  cases hv
  exact hin
/-- Bytes of a call's own. -/
def BytesNew (bs : List Int) (B : Nat) (w : World) (e : Ending) (w' : World) : Prop :=
  ∃ a c, e = .returned (.slice a bs.length c) ∧ w'.ownsRow B 5 1 (.slice a bs.length c) bs.length (bs.map bv) ∧ Below B w w'
theorem told_any (B b : Nat) (bs : List Int) (w : World) (h : BufIs w B b bs) (hBw : B ≤ w.heap.size) (hl : bs.length ≤ 140737488351232) :
    Calls Tryz.prog 118 #[.pointer (some ⟨b, 0, none⟩)] w (BytesNew bs w.heap.size w) := by
  have H := Lib.hid h
  clear h
  go_enter Tryz.func118, Tryz.ntmps118
  go_wp2_with fail
  refine (bytes_of B b bs w H.out).mono ?_
  rintro e w1 ⟨v, rfl, ho, hb⟩
  obtain ⟨a, c, hv⟩ := row_slice ho
  subst hv
  have HO := Lib.hid ho
  clear ho
  go_wp2_with fail
  refine (clone_any a c bs w1 w1.heap.size (own_bytes' HO.out) (Nat.le_refl _) (own_none HO.out) hl).mono ?_
  rintro e w2 ⟨v2, rfl, ho2, hb2⟩
  obtain ⟨a2, c2, hv2⟩ := row_slice ho2
  subst hv2
  have HO2 := Lib.hid (Go.Joins.ownsRow_le ho2 hb.size)
  have hb3 := hb.trans (hb2.mono hb.size)
  clear ho2 hb hb2
  go_wp2_with fail
  go_ret
  exact ⟨a2, c2, rfl, HO2.out, hb3⟩
end Go.Proofs.YtejgebpdipnhmaaGreatDoor
/- Number, Text, Value, Values of wire: the bytes of a form. Conditions: what is written is not too long. -/
namespace Go.Proofs.YtejgebpdipnhmaaGreatDoor
open Go.RowKit
set_option maxRecDepth 20000
theorem buf_new (w : World) : BufIs (w.alloc (.cells #[.slice none 0 0, .int .i64 0, .int .i8 0] 180)) w.heap.size w.heap.size [] :=
  LibA.zero_isBuffer (Nat.le_refl _) (lr := 0) ⟨_, heap_alloc_new w _, rfl, rfl, rfl, fun i hi => by rcases hi with hi | hi; omega; exact Array.getElem?_eq_none (by simpa using hi)⟩
theorem number_any (n : Int) (w : World) :
    Calls Tryz.prog 52 #[.int .i64 n] w (BytesNew (numB 8 n) w.heap.size w) := by
  have H := Lib.hid (buf_new w)
  have hb := (Below.refl w.heap.size w).alloc (Nat.le_refl _) (.cells #[.slice none 0 0, .int .i64 0, .int .i8 0] 180)
  have HB := Lib.hid hb
  clear hb
  go_enter Tryz.func52, Tryz.ntmps52
  go_wp2_with fail
  refine (put1_any w.heap.size w.heap.size 8 (w.heap.size + 1) [] n _ (by simp) (by omega) (by omega) H.out (by simp) (by simp)).mono ?_
  rintro e w1 ⟨rfl, hw⟩
  rw [List.nil_append] at hw
  have HW := Lib.hid hw
  have hb1 := HB.out.trans hw.2.1
  clear hw
  go_wp2_with fail
  refine (told_any w.heap.size w.heap.size _ w1 HW.out.1 hb1.size (by rw [numB_len]; omega)).mono ?_
  rintro e w2 ⟨a, c, rfl, ho, hb2⟩
  have HO := Lib.hid (Go.Joins.ownsRow_le ho hb1.size)
  have hb3 := hb1.trans (hb2.mono hb1.size)
  clear ho hb1 hb2
  go_wp2_with fail
  go_ret
  exact ⟨a, c, rfl, HO.out, hb3⟩
end Go.Proofs.YtejgebpdipnhmaaGreatDoor
/- The writer's row of values; Values of wire. Conditions: what is written is not too long. -/
namespace Go.Proofs.YtejgebpdipnhmaaGreatDoor
open Go.RowKit
set_option maxRecDepth 20000
end Go.Proofs.YtejgebpdipnhmaaGreatDoor
/- Values of wire: the bytes of a row of values. Conditions: what is written is not too long. -/
namespace Go.Proofs.YtejgebpdipnhmaaGreatDoor
open Go.RowKit
set_option maxRecDepth 20000
end Go.Proofs.YtejgebpdipnhmaaGreatDoor
/- Join of wire: parts, one behind the other. Conditions: the parts' cells lie as their readings say. -/
namespace Go.Proofs.YtejgebpdipnhmaaGreatDoor
open Go.RowKit
set_option maxRecDepth 20000
/-- A part: its slice, its bytes. -/
structure Pt where
  ao : Option Addr
  cap : Nat
  data : List Int
def ptCells (p : Pt) : List Value := [.slice p.ao p.data.length p.cap]
def ptSub (w : World) (B : Nat) (p : Pt) : Prop := BytesIn w B p.ao p.data
def bytesU (l : List Int) : List UInt8 := l.map fun x => UInt8.ofNat x.toNat
theorem bytesU_len (l : List Int) : (bytesU l).length = l.length := by simp [bytesU]
theorem bytesU_back {l : List Int} (h : BytesWf l) : (bytesU l).map (fun x => (x.toNat : Int)) = l := by
  unfold bytesU
  rw [List.map_map]
  conv => rhs; rw [← List.map_id l]
  apply List.map_congr_left
  intro x hx
  have := h x hx
  simp
  omega
theorem holds_bytes {w : World} {B : Nat} {p : Pt} (h : ptSub w B p) (hw : BytesWf p.data) : Lib.HoldsBytes w (.slice p.ao p.data.length p.cap) (bytesU p.data) := by
  refine ⟨p.ao, p.cap, by rw [bytesU_len], fun e => ?_, fun a ha i x hx => ?_⟩
  · rcases h with h | ⟨b, off, h1, _⟩
    · rw [h]; rfl
    · rw [e] at h1; cases h1
  · have hx2 : (p.data.map bv)[i]? = some (.int .u8 (x.toNat : Int)) := by
      have : ((bytesU p.data).map fun x => (x.toNat : Int))[i]? = some (x.toNat : Int) := by rw [List.getElem?_map, hx]; rfl
      rw [bytesU_back hw] at this
      rw [List.getElem?_map, this]; rfl
    exact cells_of_bytes h (Below.refl B w) ha hx2
/-- What Join tells. -/
def JoinedAt (L : List Int) (w : World) (e : Ending) (w' : World) : Prop :=
  ∃ a c, e = .returned (.slice a L.length c) ∧ BytesIn w' w'.heap.size a L ∧ (a = none → c = 0) ∧ L.length ≤ c ∧ (∀ ad, a = some ad → w.heap.size ≤ ad.block) ∧ Below w.heap.size w w'
/-- .. whose block's first cells, as many as there is room for, may be written. -/
def FreeRow (w : World) (B : Nat) (a : Option Addr) (n c : Nat) (xs : List Int) : Prop :=
  (a = none ∧ n = 0 ∧ c = 0) ∨ ∃ g, a = some ⟨g, 0, none⟩ ∧ B ≤ g ∧ n ≤ c ∧ c ≤ maxLen ∧ (∀ i, i < c → (w.cell? ⟨g, i, none⟩).isSome = true ∧ w.frozen? ⟨g, i, none⟩ = false) ∧ ∀ i, i < n → w.cell? ⟨g, i, none⟩ = (xs.map bv)[i]?
def JoinedX (L : List Int) (w : World) (e : Ending) (w' : World) : Prop :=
  ∃ a c, e = .returned (.slice a L.length c) ∧ BytesIn w' w'.heap.size a L ∧ (a = none → c = 0) ∧ L.length ≤ c ∧ (∀ ad, a = some ad → w.heap.size ≤ ad.block) ∧ FreeRow w' w.heap.size a L.length c L ∧ Below w.heap.size w w'
theorem JoinedX.drop {L : List Int} {w w' : World} {e : Ending} (h : JoinedX L w e w') : JoinedAt L w e w' := by
  obtain ⟨a, c, h1, h2, h3, h4, h5, _, h7⟩ := h
  exact ⟨a, c, h1, h2, h3, h4, h5, h7⟩
theorem FreeRow.nil {w : World} {B : Nat} : FreeRow w B none 0 0 [] := Or.inl ⟨rfl, rfl, rfl⟩
theorem FreeRow.none {w : World} {B g : Nat} (h : B ≤ g) : FreeRow w B (some ⟨g, 0, none⟩) 0 0 [] := Or.inr ⟨g, rfl, h, Nat.le_refl _, Nat.zero_le _, fun i hi => by omega, fun i hi => by omega⟩
theorem fresh_bytes {B : Nat} {w' : World} {v : Value} {L : List Int} (hw : BytesWf L) (h : Lib.FreshBytes B w' v (bytesU L)) : ∃ a c, v = .slice a L.length c ∧ BytesIn w' w'.heap.size a L ∧ (a = none → c = 0) ∧ L.length ≤ c ∧ (∀ ad, a = some ad → B ≤ ad.block) ∧ FreeRow w' B a L.length c L := by
  obtain ⟨g, cap, zs, rfl, h1, h2, h3, h4, h5, h6, h7, h8⟩ := h
  rw [bytesU_len] at h2 h6 ⊢
  have hz : zs.take L.length = L := by
    have e1 : (Lib.bytesOf (zs.take L.length)).map (fun x => (x.toNat : Int)) = zs.take L.length := bytesU_back (fun x hx => h5 x (List.mem_of_mem_take hx))
    have e2 := bytesU_back hw
    rw [h6] at e1
    rw [← e1, e2]
  refine ⟨_, cap, rfl, ?_, by simp, h2, (fun ad e => by cases e; exact h1), Or.inr ⟨g, rfl, h1, h2, h3, fun i hi => ⟨by rw [h7 i hi]; rfl, h8 i hi⟩, fun i hi => ?_⟩⟩
  rotate_left
  · rw [h7 i (by omega)]
    have e : (L.map bv)[i]? = some (bv (L[i]'hi)) := by rw [List.getElem?_map, List.getElem?_eq_getElem hi]; rfl
    rw [e]
    have e3 : zs.getD i 0 = L[i]'hi := by
      have : L[i]'hi = (zs.take L.length)[i]'(by rw [hz]; exact hi) := by simp only [hz]
      rw [this]
      simp [List.getD, List.getElem?_eq_getElem (show i < zs.length by omega)]
    rw [e3]; rfl
  by_cases h0 : L = []
  · exact Or.inl h0
  · have hlen : 0 < L.length := by cases L with | nil => exact absurd rfl h0 | cons _ _ => simp
    refine Or.inr ⟨g, 0, rfl, ?_, fun i hi => ?_⟩
    · have := h7 0 (by omega)
      simp only [World.cell?] at this
      rcases Nat.lt_or_ge g w'.heap.size with h | h
      · exact h
      · simp [Array.getElem?_eq_none h] at this
    · rw [Nat.zero_add, h7 i (by omega)]
      conv => rhs; rw [← hz]
      simp [List.getD, List.getElem?_take, hi]
theorem join_nil (xs : List (List UInt8)) : Lib.join xs [] = xs.flatten := by
  unfold Lib.join
  induction xs with
  | nil => rfl
  | cons x xs ih =>
    cases xs with
    | nil => simp [List.intercalate]
    | cons y ys => simp [List.intercalate] at ih ⊢; exact ih
theorem flat_bytesU (ps : List Pt) : (ps.map fun p => bytesU p.data).flatten = bytesU (ps.flatMap Pt.data) := by
  induction ps with
  | nil => rfl
  | cons p ps ih => rw [List.map_cons, List.flatten_cons, ih, List.flatMap_cons]; simp [bytesU]
theorem lens_eq (xs : List (List UInt8)) : Lib.lens xs = xs.flatten.length := by
  unfold Lib.lens; rw [List.length_flatten]
theorem join_x (ao : Option Addr) (n cap : Nat) (ps : List Pt) (w : World) (B : Nat) (hn : ps.length = n) (hx : RowsIn 1 ptCells ptSub w B ao ps) (hB : B ≤ w.heap.size) (hw : ∀ p ∈ ps, BytesWf p.data) (hc : n ≤ cap) (hl : (ps.flatMap Pt.data).length ≤ 140737488351232) (hnl : n ≤ 1099511627776) :
    Calls Tryz.prog 51 #[.slice ao n cap, .slice none 0 0] w (JoinedX (ps.flatMap Pt.data) w) := by
  subst hn
  have hwf : BytesWf (ps.flatMap Pt.data) := fun x hx => by
    obtain ⟨p, hp, hx⟩ := List.mem_flatMap.1 hx
    exact hw p hp x hx
  rcases hx with rfl | ⟨b, off, rfl, hb, hc2⟩
  · refine (Tryz.bytes_Join_none ao cap (.slice none 0 0) w).mono ?_
    rintro e w' ⟨rfl, rfl⟩
    exact ⟨_, 0, rfl, Or.inl rfl, by simp, by simp, (fun ad e => by cases e; exact Nat.le_refl _), FreeRow.none (Nat.le_refl _), (Below.refl _ _).alloc (Nat.le_refl _) _⟩
  · have hs : Lib.HoldsBytes w (.slice none 0 0) [] := ⟨none, 0, rfl, fun _ => rfl, fun a h => by cases h⟩
    have hcell : ∀ (i : Nat) (p : Pt), ps[i]? = some p → w.cell? ⟨b, off + i, none⟩ = some (.slice p.ao p.data.length p.cap) := fun i p hp => by
      have := (hc2 i p hp).1 0 (by decide)
      simpa [ptCells] using this
    match ps, hcell, hc2, hw, hc, hl, hnl, hwf with
    | [], _, _, _, _, _, _, _ =>
      refine (Tryz.bytes_Join_none (some ⟨b, off, none⟩) cap (.slice none 0 0) w).mono ?_
      rintro e w' ⟨rfl, rfl⟩
      exact ⟨_, 0, rfl, Or.inl rfl, by simp, by simp, (fun ad e => by cases e; exact Nat.le_refl _), FreeRow.none (Nat.le_refl _), (Below.refl _ _).alloc (Nat.le_refl _) _⟩
    | [p], hcell, hc2, hw, hc, hl, hnl, hwf =>
      have e : [p].flatMap Pt.data = p.data := by simp
      rw [e] at hl hwf ⊢
      by_cases h0 : p.data = []
      · have h1 := hcell 0 p rfl
        rw [h0] at h1
        refine (Tryz.bytes_Join_one_empty b off cap p.ao p.cap (.slice none 0 0) w h1).mono ?_
        rintro e w' ⟨rfl, rfl⟩
        rw [h0]
        exact ⟨none, 0, rfl, Or.inl rfl, fun _ => rfl, by simp, (fun ad e => by cases e), FreeRow.nil, Below.refl _ _⟩
      · have hsub := (hc2 0 p rfl).2
        rcases hsub with h | ⟨b2, off2, ha, hb2, hcc⟩
        · exact absurd h h0
        have h1 := hcell 0 p rfl
        rw [ha, ← bytesU_len] at h1
        obtain ⟨q, c, e1, hq, hqq⟩ := holds_bytes (p := p) (B := B) (Or.inr ⟨b2, off2, ha, hb2, hcc⟩) (hw p (by simp))
        injection e1 with e2 _ _
        refine (Tryz.bytes_Join_one b off cap ⟨b2, off2, none⟩ p.cap (bytesU p.data) (.slice none 0 0) w h1 (hqq _ (by rw [← e2, ha])) (by rw [bytesU_len]; cases hd : p.data with | nil => exact absurd hd h0 | cons _ _ => simp) (by rw [bytesU_len]; omega)).mono ?_
        rintro e w' ⟨v', rfl, hf, hbl⟩
        obtain ⟨a, c, rfl, g1, g2, g3, g4, g5⟩ := fresh_bytes hwf hf
        exact ⟨a, c, rfl, g1, g2, g3, g4, g5, hbl⟩
    | p :: q :: r, hcell, hc2, hw, hc, hl, hnl, hwf =>
      have hP : Lib.PartsAt w ⟨b, off, none⟩ ((p :: q :: r).map fun x => .slice x.ao x.data.length x.cap) ((p :: q :: r).map fun x => bytesU x.data) := by
        refine ⟨by simp, fun i v hv => ?_, fun i v l hv hl => ?_⟩
        · rw [List.getElem?_map] at hv
          obtain ⟨x, hx, rfl⟩ := Option.map_eq_some_iff.1 hv
          rw [Go.WideShapes.add_plain]
          exact hcell i x hx
        · rw [List.getElem?_map] at hv hl
          obtain ⟨x, hx, rfl⟩ := Option.map_eq_some_iff.1 hv
          rw [hx] at hl
          obtain rfl := Option.some.inj hl
          exact holds_bytes (hc2 i x hx).2 (hw x (List.mem_of_getElem? hx))
      have hlen : Lib.lens ((p :: q :: r).map fun x => bytesU x.data) = ((p :: q :: r).flatMap Pt.data).length := by rw [lens_eq, flat_bytesU, bytesU_len]
      refine (Tryz.bytes_Join_many b off (p :: q :: r).length cap _ _ (.slice none 0 0) [] w (by simp) (by simp) hP hc hs (by omega) (by rw [hlen]; simp only [List.length_nil, Nat.zero_mul]; omega)).mono ?_
      rintro e w' ⟨v', rfl, hf, hbl⟩
      rw [join_nil, flat_bytesU] at hf
      obtain ⟨a, c, rfl, g1, g2, g3, g4, g5⟩ := fresh_bytes hwf hf
      exact ⟨a, c, rfl, g1, g2, g3, g4, g5, hbl⟩
end Go.Proofs.YtejgebpdipnhmaaGreatDoor
/- A slice of a slice: one equation, its address under one name. Conditions: the bounds fit. -/
namespace Go.Proofs.YtejgebpdipnhmaaGreatDoor
open Go.RowKit
/-- The address of a slice from its l-th element on. -/
def subA (ao : Option Addr) (cap l k : Nat) : Option Addr := if cap = l then ao else ao.map (·.add (l * k))
theorem subA_eq_none {ao : Option Addr} {cap l k : Nat} (h : subA ao cap l k = none) : ao = none := by
  unfold subA at h
  split at h
  · exact h
  · cases ao with
    | none => rfl
    | some a => cases h
theorem run_sub_lh {P : Program} {t : TypeId} {k : Nat} (ht : P.underlying t = some (.slice (P.elem t))) (hk : ∀ w, (sizeOf (P.elem t)).run P w = .ok k w) (ao : Option Addr) (n cap l h : Nat) (hl : l ≤ h) (hh : h ≤ cap) (kl kh : IntKind) (lo hi : Int) (el : lo = l) (eh : hi = h) (w : World) :
    (Instr.sliceAt t (.slice ao n cap) (some (.int kl lo)) (some (.int kh hi)) none).run P w = .ok (.slice (subA ao cap l k) (h - l) (cap - l)) w := by
  subst el eh
  rw [run_sliceAt_slice _ _ _ _ _ _ ht, run_slice_lh _ _ _ _ _ ht _ _ _ _ (by omega) (by omega) (by omega), hk]
  simp [Result.andThen, sliced, subA]
theorem run_sub_l {P : Program} {t : TypeId} {k : Nat} (ht : P.underlying t = some (.slice (P.elem t))) (hk : ∀ w, (sizeOf (P.elem t)).run P w = .ok k w) (ao : Option Addr) (n cap l : Nat) (hl : l ≤ n) (kl : IntKind) (lo : Int) (el : lo = l) (w : World) :
    (Instr.sliceAt t (.slice ao n cap) (some (.int kl lo)) none none).run P w = .ok (.slice (subA ao cap l k) (n - l) (cap - l)) w := by
  subst el
  rw [run_sliceAt_slice _ _ _ _ _ _ ht, run_slice_l _ _ _ _ _ ht _ _ (by omega) (by omega), hk]
  simp [Result.andThen, sliced, subA]
theorem run_sub_h {P : Program} {t : TypeId} {k : Nat} (ht : P.underlying t = some (.slice (P.elem t))) (hk : ∀ w, (sizeOf (P.elem t)).run P w = .ok k w) (ao : Option Addr) (n cap h : Nat) (hh : h ≤ cap) (kh : IntKind) (hi : Int) (eh : hi = h) (w : World) :
    (Instr.sliceAt t (.slice ao n cap) none (some (.int kh hi)) none).run P w = .ok (.slice (subA ao cap 0 k) h cap) w := by
  subst eh
  rw [run_sliceAt_slice _ _ _ _ _ _ ht, run_slice_h _ _ _ _ _ ht _ _ (by omega) (by omega), hk]
  simp [Result.andThen, sliced, subA]
theorem subA_zero (ao : Option Addr) (cap k : Nat) (h : ∀ a, ao = some a → a.spot = none) : subA ao cap 0 k = ao := by
  unfold subA
  split
  · rfl
  · cases ao with
    | none => rfl
    | some a =>
      obtain ⟨b, o, s⟩ := a
      have := h _ rfl
      simp only at this
      subst this
      simp [Addr.add]
theorem sizeByte : ∀ w, (sizeOf (Tryz.prog.elem 24)).run Tryz.prog w = .ok 1 w := fun _ => by kernel_rfl
theorem sliceByte : Tryz.prog.underlying 24 = some (.slice (Tryz.prog.elem 24)) := by kernel_rfl
theorem BytesIn.sub {w : World} {B : Nat} {ao : Option Addr} {xs : List Int} {cap : Nat} (l h : Nat) (hx : BytesIn w B ao xs) (hc : xs.length ≤ cap) : BytesIn w B (subA ao cap l 1) ((xs.drop l).take h) := by
  by_cases hz : xs.length ≤ l
  · exact Or.inl (by rw [List.drop_of_length_le hz, List.take_nil])
  · rcases hx with rfl | ⟨b, off, rfl, h1, h2⟩
    · simp at hz
    · unfold subA
      rw [if_neg (by omega), Option.map_some, Go.WideShapes.add_plain, Nat.mul_one]
      refine Or.inr ⟨b, off + l, rfl, h1, fun i hi => ?_⟩
      have hi1 : i < h ∧ l + i < xs.length := by simp at hi; omega
      rw [Nat.add_assoc, h2 _ hi1.2]
      simp [List.getD, hi1.1, List.getElem?_drop]
theorem BytesIn.drop {w : World} {B : Nat} {ao : Option Addr} {xs : List Int} {cap : Nat} (l : Nat) (hx : BytesIn w B ao xs) (hc : xs.length ≤ cap) : BytesIn w B (subA ao cap l 1) (xs.drop l) := by
  have := hx.sub l (xs.length) hc
  rwa [List.take_of_length_le (by simp)] at this
theorem BytesIn.take {w : World} {B : Nat} {ao : Option Addr} {xs : List Int} (h : Nat) (hx : BytesIn w B ao xs) : BytesIn w B ao (xs.take h) := by
  rcases hx with rfl | ⟨b, off, rfl, h1, h2⟩
  · exact Or.inl (by simp)
  · refine Or.inr ⟨b, off, rfl, h1, fun i hi => ?_⟩
    have hi1 : i < h ∧ i < xs.length := by simp at hi; omega
    rw [h2 _ hi1.2]
    simp [List.getD, hi1.1]
theorem BytesWf.drop {xs : List Int} (h : BytesWf xs) (n : Nat) : BytesWf (xs.drop n) := fun x hx => h x (List.mem_of_mem_drop hx)
theorem BytesWf.take {xs : List Int} (h : BytesWf xs) (n : Nat) : BytesWf (xs.take n) := fun x hx => h x (List.mem_of_mem_take hx)
end Go.Proofs.YtejgebpdipnhmaaGreatDoor
