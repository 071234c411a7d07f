/- LentBytes, KeptBytes: a row of bytes is copied with marks behind its end; as long as nobody writes there, it is found as it was. Conditions: the row has less than 2 to the 40 bytes. -/
import Derived.Test.YtnfldkebjeigiaaGreatDoorGWireWrites0
set_option linter.unusedVariables false
namespace Go.Proofs.YtnfldkebjeigiaaGreatDoor
open Go.RowKit
set_option maxRecDepth 20000
/-- The mark of a place behind a row of bytes. -/
def markB (i : Nat) : Int := IntKind.u64.wrap ((8000024 + (i : Int)) * 11400714819323198485) / 72057594037927936 % 256
theorem markB_byte (i : Nat) : 0 ≤ markB i ∧ markB i < 256 := by unfold markB; omega
theorem markI_any (i : Int) (h0 : 0 ≤ i) (h1 : i ≤ 1000000000) (w : World) :
    Calls Tryz.prog 103 #[.int .i64 1, .int .i64 i] w fun e w' => e = .returned (.int .i64 (8000024 + i)) ∧ w = w' := by
  go_enter Tryz.func103, Tryz.ntmps103
  go_wp2
  go_ret
  exact ⟨rfl, rfl⟩
theorem markByte_any (i : Nat) (h1 : i ≤ 1000000000) (w : World) :
    Calls Tryz.prog 143 #[.int .i64 1, .int .i64 i] w fun e w' => e = .returned (.int .u8 (markB i)) ∧ w = w' := by
  go_enter Tryz.func143, Tryz.ntmps143
  go_wp2_with (go_at_call 103; (with_reducible refine (markI_any i (by omega) (by omega) _).mono ?_); rintro e w' ⟨rfl, rfl⟩)
  go_ret
  exact ⟨rfl, rfl⟩
theorem markByte_at (i : Int) (m : Nat) (h : i = m) (h1 : m ≤ 1000000000) (w : World) :
    Calls Tryz.prog 143 #[.int .i64 1, .int .i64 i] w fun e w' => e = .returned (.int .u8 (markB m)) ∧ w = w' := by
  subst h; exact markByte_any m h1 w
def marksB (k : Nat) : List Int := (List.range k).map markB
theorem marksB_succ (k : Nat) : marksB (k + 1) = marksB k ++ [markB k] := by simp [marksB, List.range_succ]
theorem marksB_len (k : Nat) : (marksB k).length = k := by simp [marksB]
/-- Block g holds the bytes xs and twelve marksB behind them. -/
def LentB (w : World) (B g : Nat) (xs : List Int) : Prop :=
  w.ownsRow B 5 1 (.slice (some ⟨g, 0, none⟩) (xs.length + 12) (xs.length + 12)) (xs.length + 12) ((xs ++ marksB 12).map bv)
theorem own_belowB {w : World} {base e size n : Nat} {v : Value} {xs : List Value} (h : w.ownsRow base e size v n xs) : ∀ k, v.ownBlock = some k → base ≤ k := by
  intro k hk
  rcases h.2 with ⟨rfl, _⟩ | ⟨g, cap, cur, rfl, h3, _⟩
  · simp [Value.ownBlock] at hk
  · simp [Value.ownBlock] at hk; omega
theorem ownsRow_ltB {w : World} {base e size n g c : Nat} {xs : List Value} (h : w.ownsRow base e size (.slice (some ⟨g, 0, none⟩) n c) n xs) : g < w.heap.size := by
  rcases h.2 with ⟨h', _⟩ | ⟨g', cap', cur, h', _, h3, _⟩
  · simp at h'
  · simp only [Value.slice.injEq, Option.some.injEq, Addr.mk.injEq, and_true, true_and] at h'
    obtain ⟨rfl, rfl⟩ := h'
    exact (Array.getElem?_eq_some_iff.1 h3).1
def LentBPost (xs : List Int) (w : World) (e : Ending) (w' : World) : Prop :=
  ∃ g, e = .returned (.slice (some ⟨g, 0, none⟩) xs.length (xs.length + 12)) ∧ w.heap.size ≤ g ∧ g < w'.heap.size ∧ LentB w' w.heap.size g xs ∧ Below w.heap.size w w'
def LentBAt (w : World) (g : Nat) (xs : List Int) (k : Nat) : Prop :=
  w.ownsRow g 5 1 (.slice (some ⟨g, 0, none⟩) (xs.length + k) (xs.length + 12)) (xs.length + k) ((xs ++ marksB k).map bv)
theorem lentBAt_succ {w : World} {g k : Nat} {xs : List Int} (h : w.ownsRow g 5 1 (.slice (some ⟨g, 0, none⟩) (xs.length + k + 1) (xs.length + 12)) (xs.length + k + 1) (xs.map bv ++ ((marksB k).map bv ++ [.int .u8 (markB k)]))) : LentBAt w g xs (k + 1) := by
  unfold LentBAt
  rw [marksB_succ, List.map_append, List.map_append, ← Nat.add_assoc]
  exact h
theorem LentBAt.lt {w : World} {g k : Nat} {xs : List Int} (h : LentBAt w g xs k) : g < w.heap.size := ownsRow_ltB h
theorem lentB_any (ao : Option Addr) (cap : Nat) (xs : List Int) (w : World) (hx : BytesIn w w.heap.size ao xs) (hao : ao = none → cap = 0) (hl : xs.length ≤ 1099511627776) :
    Calls Tryz.prog 92 #[.slice ao xs.length cap] w (LentBPost xs w) := by
  obtain ⟨i0, hi, hz0, hz1, hz2⟩ := info_parts infoByte
  have hm1 : (0 : Int) ≤ (xs.length : Int) + 12 := by omega
  have HX := Lib.hid hx
  clear hx
  go_enter Tryz.func92, Tryz.ntmps92
  go_wp2_with (at_make; refine wpList_make_own _ rfl _ _ 48 rfl w.heap.size 5 i0 (.int .u8 0) 1 Tryz.underlying48 hi hz0 hz1 .i64 .i64 _ (xs.length + 12) rfl rfl (by omega) (by rw [hz2]; omega) (by unfold maxLen; omega) (Nat.le_refl _) ?_)
  intro w1 hown1 hg1
  have hb1 : Below w.heap.size w w1 := (Below.refl _ _).grown hg1 (Nat.le_refl _) (fun k hk => by cases hk)
  have hnone : ao = none → xs.length = 0 ∧ cap = 0 := fun h => ⟨by rcases HX.out with h0 | ⟨b, off, h1, _⟩; (rw [h0]; rfl); (rw [h] at h1; cases h1), hao h⟩
  have hcell : ∀ ad, ao = some ad → ∀ (j : Nat) u, (xs.map bv)[j]? = some u → w1.cell? (ad.add j) = some u := fun ad had j u hu => cells_of_bytes HX.out hb1 had hu
  go_wp2_with (at_builtin; refine wpList_append_fits_any _ rfl (.tmp 9) (.tmp 10) 48 rfl w.heap.size 5 i0 1 Tryz.underlying48 hi hz1 w.heap.size 0 (xs.length + 12) [] rfl hown1 ao xs.length cap (xs.map bv) rfl (by simp) hnone hcell (bytes_oneCell _) (by omega) ?_)
  intro w2 hown2 hg2
  have hb2 : Below w.heap.size w w2 := hb1.grown hg2 (hb1.size) (fun k hk => by cases hk; exact Nat.le_refl _)
  clear hnone hcell hown1 hg1 hg2 hb1
  have hgs : w.heap.size < w2.heap.size := ownsRow_ltB hown2
  go_wp2_with fail
  go_loopw [3, 4] (fun v i wr => ∃ k : Nat, k ≤ 12 ∧ i = .int .i64 k ∧ v = .slice (some ⟨w.heap.size, 0, none⟩) (xs.length + k) (xs.length + 12) ∧ LentBAt wr w.heap.size xs k ∧ Below w.heap.size w wr) (fun _ i _ => 12 - (intOf i).toNat)
  case atStart => exact ⟨0, by omega, rfl, rfl, by simpa [LentBAt, marksB] using hown2, hb2⟩
  case round =>
    obtain ⟨k, hk, rfl, rfl, hown, hbel⟩ := hrel
    clear hown2 hb2 hgs
    by_cases hlt : k < 12
    · have hs := hbel.size
      go_wp2_with (first | (go_at_call 143; (with_reducible refine (markByte_any k (by omega) _).mono ?_); rintro e w' ⟨rfl, rfl⟩) | (at_builtin; refine wpList_append_fits _ rfl (.tmp 16) (.tmp 19) 48 rfl w.heap.size 5 i0 1 Tryz.underlying48 hi hz1 w.heap.size (xs.length + k) (xs.length + 12) ((xs ++ marksB k).map bv) rfl (World.ownsRow.alloc hown _) ⟨wr.heap.size, 0, none⟩ 1 1 [.int .u8 (markB k)] rfl rfl (cell_one_new _ _ _) (by simp [Value.oneCell']) (by omega) ?_))
      intro w3 hown3 hg3
      have hb3 : Below w.heap.size w w3 := (hbel.alloc hs _).grown hg3 (by simp; omega) (fun k hk => by cases hk; exact Nat.le_refl _)
      have hown4 : LentBAt w3 w.heap.size xs (k + 1) := lentBAt_succ hown3
      clear hown hown3 hg3
      go_wp2_with fail
      go_roundw
      case rel => exact ⟨k + 1, by omega, by go_num, by rw [Nat.add_assoc], hown4, hb3⟩
      case measure => simp [intOf]; omega
    · obtain rfl : k = 12 := by omega
      have hx1 := hown.lt
      go_wp2_with fail
      go_ret
      exact ⟨w.heap.size, rfl, Nat.le_refl _, hx1, hown, hbel⟩
theorem LentB.below {w w' : World} {B g B' : Nat} {xs : List Int} (h : LentB w B g xs) (hb : Below B' w w') (hg : g < B') : LentB w' B g xs := by
  refine ⟨h.1, ?_⟩
  rcases h.2 with ⟨h', _⟩ | ⟨g', cap', cur, h', h2, h3, h4⟩
  · simp at h'
  · have e : g' = g := by simp at h'; exact h'.1.symm
    exact Or.inr ⟨g', cap', cur, h', h2, by rw [hb.block g' (by omega)]; exact h3, h4⟩
theorem LentB.bytes {w : World} {B g : Nat} {xs : List Int} (h : LentB w B g xs) : BytesIn w (g + 1) (some ⟨g, 0, none⟩) xs := by
  refine Or.inr ⟨g, 0, rfl, by omega, fun i hi => ?_⟩
  rw [Nat.zero_add, World.ownsRow.cellAt h i (by omega)]
  rw [List.map_append, List.getElem?_append_left (by simpa using hi)]
  simp [bv, List.getD, List.getElem?_eq_getElem hi]
theorem LentB.mark {w : World} {B g : Nat} {xs : List Int} (h : LentB w B g xs) {i : Nat} (hi : i < 12) : w.cell? ⟨g, xs.length + i, none⟩ = some (.int .u8 (markB i)) := by
  rw [World.ownsRow.cellAt h _ (by omega)]
  simp [bv, marksB, hi]
theorem LentB.lt {w : World} {B g : Nat} {xs : List Int} (h : LentB w B g xs) : g < w.heap.size := ownsRow_ltB h
theorem keptB_any (ao : Option Addr) (cap g B : Nat) (xs : List Int) (w : World) (hx : BytesIn w w.heap.size ao xs) (hL : LentB w B g xs) (hl : xs.length ≤ 1099511627776) :
    Calls Tryz.prog 93 #[.slice (some ⟨g, 0, none⟩) xs.length (xs.length + 12 : Nat), .slice ao xs.length cap] w fun e w' => e = .returned (.bool true) ∧ Below w.heap.size w w' := by
  have HX := Lib.hid hx
  clear hx
  go_enter Tryz.func93, Tryz.ntmps93
  go_wp2_with fail
  go_loopw [6] (fun i wr => ∃ k : Nat, k ≤ xs.length + 12 ∧ i = .int .i64 k ∧ Below w.heap.size w wr) (fun i _ => xs.length + 12 - (intOf i).toNat)
  case atStart => exact ⟨0, by omega, rfl, Below.refl _ _⟩
  case round =>
    obtain ⟨k, hk, rfl, hbel⟩ := hrel
    by_cases hlt : k < xs.length
    · rcases HX.out with h0 | ⟨b, off, rfl, hb, hc⟩
      · rw [h0] at hlt; simp at hlt
      obtain ⟨x, hxe⟩ : ∃ x, x = xs.getD k 0 := ⟨_, rfl⟩
      have c0 : ∀ x : Calm w.heap.size w, x.1.cell? ⟨b, off + k, none⟩ = some (.int .u8 (xs.getD k 0)) := fun x => x.cell (hc k hlt) hb
      have c1 : ∀ x : Calm w.heap.size w, x.1.cell? ⟨g, k, none⟩ = some (.int .u8 (xs.getD k 0)) := fun x => x.cell (by
        rcases hL.bytes with h0 | ⟨b', off', h1, _, h3⟩
        · rw [h0] at hlt; simp at hlt
        · cases h1; simpa using h3 k hlt) hL.lt
      rw [← hxe] at c0 c1
      clear hxe hc
      have i1 : (k : Int) < xs.length := by omega
      have d1 : decide (xs.length ≤ k) = false := by simp; omega
      go_wp2_with fail
      refine wp_region_calm (B := w.heap.size) (W0 := w) hbel (by kernel_rfl) (by kernel_rfl) ?_
      repeat (go_big_quiet_step (fail))
      refine wpQuiet_nil ?_
      intro w5 hb5
      clear c0 c1
      go_wp2_with fail
      go_roundw
      case rel => exact ⟨k + 1, by omega, by go_num, hb5⟩
      case measure => simp [intOf]; omega
    · by_cases hlt2 : k < xs.length + 12
      · obtain ⟨m, rfl⟩ : ∃ m, k = xs.length + m := ⟨k - xs.length, by omega⟩
        have c1 : ∀ x : Calm w.heap.size w, x.1.cell? ⟨g, xs.length + m, none⟩ = some (.int .u8 (markB m)) := fun x => x.cell (hL.mark (by omega)) hL.lt
        have i1 : ¬ (xs.length : Int) + m < xs.length := by omega
        have i2 : (xs.length : Int) + m < xs.length + 12 := by omega
        have d1 : decide ((xs.length : Int) + m < xs.length) = false := by simp; omega
        have n1 : ((xs.length : Int) + m).toNat = xs.length + m := by omega
        have n2 : IntKind.i64.wrap (m : Int) = m := IntWalk.i64_in _ (by omega)
        have n3 : (0 : Int) ≤ (xs.length : Int) + m := by omega
        go_wp2_with fail
        refine wp_region_calm (B := w.heap.size) (W0 := w) hbel (by kernel_rfl) (by kernel_rfl) ?_
        repeat (go_big_quiet_step ((go_at_call 143; exact Calm.same (markByte_at _ m (by omega) (by omega) _))))
        refine wpQuiet_nil ?_
        intro w5 hb5
        clear c1
        go_wp2_with fail
        go_roundw
        case rel => exact ⟨xs.length + m + 1, by omega, by go_num, hb5⟩
        case measure => simp [intOf]; omega
      · go_wp2_with fail
        go_ret
        exact ⟨rfl, hbel⟩
end Go.Proofs.YtnfldkebjeigiaaGreatDoor
