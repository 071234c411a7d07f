/- LentInts and KeptInts: a row of integers is copied with marks behind its end; as long as nobody writes there, it is found as it was. Conditions: the row has less than 2 to the 40 integers. -/
import Derived.Test.YtidfflippldhjaaInts
namespace Go.Proofs.Ytidfflippldhjaa
open Go.RowKit

theorem infoInt : (Try.prog.info? 3).map (fun i => (i.zero, i.size, i.bytes)) = some (some (.int .i64 0), 1, 8) := by kernel_rfl

def mark1 (i : Nat) : Int := 8000024 + i
theorem mark_any (i : Int) (h0 : 0 ≤ i) (h1 : i ≤ 1000000000) (w : World) :
    Calls Try.prog 14 #[.int .i64 1, .int .i64 i] w fun e w' => e = .returned (.int .i64 (8000024 + i)) ∧ w = w' := by
  go_enter Try.func14, Try.ntmps14
  go_wp2
  go_ret
  exact ⟨rfl, rfl⟩

theorem mark_at (i : Int) (m : Nat) (h : i = m) (h1 : m ≤ 1000000000) (w : World) :
    Calls Try.prog 14 #[.int .i64 1, .int .i64 i] w fun e w' => e = .returned (.int .i64 (8000024 + m)) ∧ w = w' := by
  subst h; exact mark_any m (by omega) (by omega) w

def marks (k : Nat) : List Int := (List.range k).map mark1
theorem marks_succ (k : Nat) : marks (k + 1) = marks k ++ [mark1 k] := by simp [marks, List.range_succ]
theorem marks_len (k : Nat) : (marks k).length = k := by simp [marks]

/-- Block g holds the integers xs and twelve marks behind them. -/
def Lent (w : World) (B g : Nat) (xs : List Int) : Prop :=
  w.ownsRow B 3 1 (.slice (some ⟨g, 0, none⟩) (xs.length + 12) (xs.length + 12)) (xs.length + 12) ((xs ++ marks 12).map (Value.int .i64))
theorem own_below' {w : World} {base e size n : Nat} {v : Value} {xs : List Value} (h : w.ownsRow base e size v n xs) : ∀ k, v.ownBlock = some k → base ≤ k := by
  intro k hk
  rcases h.2 with ⟨rfl, _⟩ | ⟨g, cap, cur, rfl, h3, _⟩
  · simp [Value.ownBlock] at hk
  · simp [Value.ownBlock] at hk; omega
theorem ownsRow_lt {w : World} {base e size n g c : Nat} {xs : List Value} (h : w.ownsRow base e size (.slice (some ⟨g, 0, none⟩) n c) n xs) : g < w.heap.size := by
  rcases h.2 with ⟨h', _⟩ | ⟨g', cap', cur, h', _, h3, _⟩
  · simp at h'
  · simp only [Value.slice.injEq, Option.some.injEq, Addr.mk.injEq, and_true, true_and] at h'
    obtain ⟨rfl, rfl⟩ := h'
    exact (Array.getElem?_eq_some_iff.1 h3).1
theorem cells_of_ints {w w1 : World} {B : Nat} {ao : Option Addr} {xs : List Int} (h : IntsIn w B ao xs) (hb : Below B w w1) {ad : Addr} (had : ao = some ad) {j : Nat} {u : Value} (hu : (xs.map (Value.int .i64))[j]? = some u) : w1.cell? (ad.add j) = some u := by
  rcases h with h0 | ⟨b, off, h1, h2, h3⟩
  · rw [h0] at hu; simp at hu
  · rw [h1] at had
    obtain rfl := Option.some.inj had
    have hj : j < xs.length := by
      rcases Nat.lt_or_ge j xs.length with h | h
      · exact h
      · rw [List.getElem?_eq_none (by simpa using h)] at hu; cases hu
    rw [Go.WideShapes.add_plain, hb.cell (p := ⟨b, _, none⟩) h2, h3 j hj]
    simp [List.getElem?_map, List.getElem?_eq_getElem hj] at hu
    rw [← hu]; simp [List.getD, List.getElem?_eq_getElem hj]
def LentPost (xs : List Int) (w : World) (e : Ending) (w' : World) : Prop :=
  ∃ g, e = .returned (.slice (some ⟨g, 0, none⟩) xs.length (xs.length + 12)) ∧ w.heap.size ≤ g ∧ g < w'.heap.size ∧ Lent w' w.heap.size g xs ∧ Below w.heap.size w w'

def LentAt (w : World) (g : Nat) (xs : List Int) (k : Nat) : Prop :=
  w.ownsRow g 3 1 (.slice (some ⟨g, 0, none⟩) (xs.length + k) (xs.length + 12)) (xs.length + k) ((xs ++ marks k).map (Value.int .i64))
theorem lentAt_succ {w : World} {g k : Nat} {xs : List Int} (h : w.ownsRow g 3 1 (.slice (some ⟨g, 0, none⟩) (xs.length + k + 1) (xs.length + 12)) (xs.length + k + 1) (xs.map (Value.int .i64) ++ ((marks k).map (Value.int .i64) ++ [.int .i64 (8000024 + k)]))) : LentAt w g xs (k + 1) := by
  unfold LentAt
  rw [marks_succ, List.map_append, List.map_append, ← Nat.add_assoc]
  exact h
theorem LentAt.lt {w : World} {g k : Nat} {xs : List Int} (h : LentAt w g xs k) : g < w.heap.size := ownsRow_lt h

theorem lent_any (ao : Option Addr) (cap : Nat) (xs : List Int) (w : World) (hx : IntsIn w w.heap.size ao xs) (hao : ao = none → cap = 0) (hl : xs.length ≤ 1099511627776) :
    Calls Try.prog 7 #[.slice ao xs.length cap] w (LentPost xs w) := by
  obtain ⟨i0, hi, hz0, hz1, hz2⟩ := info_parts infoInt
  have hm1 : (0 : Int) ≤ (xs.length : Int) + 12 := by omega
  have HX := Lib.hid hx
  clear hx
  go_enter Try.func7, Try.ntmps7
  go_wp2_with (at_make; refine wpList_make_own _ rfl _ _ 22 rfl w.heap.size 3 i0 (.int .i64 0) 1 Try.underlying22 hi hz0 hz1 .i64 .i64 _ (xs.length + 12) rfl rfl (by omega) (by rw [hz2]; omega) (by unfold maxLen; omega) (Nat.le_refl _) ?_)
  intro w1 hown1 hg1
  have hb1 : Below w.heap.size w w1 := (Below.refl _ _).grown hg1 (Nat.le_refl _) (fun k hk => by cases hk)
  have hnone : ao = none → xs.length = 0 ∧ cap = 0 := fun h => ⟨by rcases HX.out with h0 | ⟨b, off, h1, _⟩; (rw [h0]; rfl); (rw [h] at h1; cases h1), hao h⟩
  have hcell : ∀ ad, ao = some ad → ∀ (j : Nat) u, (xs.map (Value.int .i64))[j]? = some u → w1.cell? (ad.add j) = some u := fun ad had j u hu => cells_of_ints HX.out hb1 had hu
  go_wp2_with (at_builtin; refine wpList_append_fits_any _ rfl (.tmp 9) (.tmp 10) 22 rfl w.heap.size 3 i0 1 Try.underlying22 hi hz1 w.heap.size 0 (xs.length + 12) [] rfl hown1 ao xs.length cap (xs.map (Value.int .i64)) rfl (by simp) hnone hcell (ints_oneCell _ _) (by omega) ?_)
  intro w2 hown2 hg2
  have hb2 : Below w.heap.size w w2 := hb1.grown hg2 (hb1.size) (fun k hk => by cases hk; exact Nat.le_refl _)
  clear hnone hcell hown1 hg1 hg2 hb1
  have hgs : w.heap.size < w2.heap.size := ownsRow_lt hown2
  go_wp2_with fail
  go_loopw [3, 4] (fun v i wr => ∃ k : Nat, k ≤ 12 ∧ i = .int .i64 k ∧ v = .slice (some ⟨w.heap.size, 0, none⟩) (xs.length + k) (xs.length + 12) ∧ LentAt wr w.heap.size xs k ∧ Below w.heap.size w wr) (fun _ i _ => 12 - (intOf i).toNat)
  case atStart => exact ⟨0, by omega, rfl, rfl, by simpa [LentAt, marks] using hown2, hb2⟩
  case round =>
    obtain ⟨k, hk, rfl, rfl, hown, hbel⟩ := hrel
    clear hown2 hb2 hgs
    by_cases hlt : k < 12
    · have hs := hbel.size
      go_wp2_with (first | (go_at_call 14; (with_reducible refine (mark_any k (by omega) (by omega) _).mono ?_); rintro e w' ⟨rfl, rfl⟩) | (at_builtin; refine wpList_append_fits _ rfl (.tmp 16) (.tmp 19) 22 rfl w.heap.size 3 i0 1 Try.underlying22 hi hz1 w.heap.size (xs.length + k) (xs.length + 12) ((xs ++ marks k).map (Value.int .i64)) rfl (World.ownsRow.alloc hown _) ⟨wr.heap.size, 0, none⟩ 1 1 [.int .i64 (8000024 + k)] rfl rfl (cell_one_new _ _ _) (by simp [Value.oneCell']) (by omega) ?_))
      intro w3 hown3 hg3
      have hb3 : Below w.heap.size w w3 := (hbel.alloc hs _).grown hg3 (by simp; omega) (fun k hk => by cases hk; exact Nat.le_refl _)
      have hown4 : LentAt w3 w.heap.size xs (k + 1) := lentAt_succ hown3
      clear hown hown3 hg3
      go_wp2_with fail
      go_roundw
      case rel => exact ⟨k + 1, by omega, by go_num, by rw [Nat.add_assoc], hown4, hb3⟩
      case measure => simp [intOf]; omega
    · obtain rfl : k = 12 := by omega
      have hx1 := hown.lt
      go_wp2_with fail
      go_ret
      exact ⟨w.heap.size, rfl, Nat.le_refl _, hx1, hown, hbel⟩

theorem Lent.below {w w' : World} {B g B' : Nat} {xs : List Int} (h : Lent w B g xs) (hb : Below B' w w') (hg : g < B') : Lent w' B g xs := by
  refine ⟨h.1, ?_⟩
  rcases h.2 with ⟨h', _⟩ | ⟨g', cap', cur, h', h2, h3, h4⟩
  · simp at h'
  · have e : g' = g := by simp at h'; exact h'.1.symm
    exact Or.inr ⟨g', cap', cur, h', h2, by rw [hb.block g' (by omega)]; exact h3, h4⟩
theorem Lent.ints {w : World} {B g : Nat} {xs : List Int} (h : Lent w B g xs) : IntsIn w (g + 1) (some ⟨g, 0, none⟩) xs := by
  refine Or.inr ⟨g, 0, rfl, by omega, fun i hi => ?_⟩
  rw [Nat.zero_add, World.ownsRow.cellAt h i (by omega)]
  rw [List.map_append, List.getElem?_append_left (by simpa using hi)]
  simp [List.getD, List.getElem?_eq_getElem hi]
theorem Lent.mark {w : World} {B g : Nat} {xs : List Int} (h : Lent w B g xs) {i : Nat} (hi : i < 12) : w.cell? ⟨g, xs.length + i, none⟩ = some (.int .i64 (8000024 + i)) := by
  rw [World.ownsRow.cellAt h _ (by omega)]
  simp [marks, mark1, hi]
theorem Lent.lt {w : World} {B g : Nat} {xs : List Int} (h : Lent w B g xs) : g < w.heap.size := ownsRow_lt h

theorem kept_any (ao : Option Addr) (cap g B : Nat) (xs : List Int) (w : World) (hx : IntsIn w w.heap.size ao xs) (hL : Lent w B g xs) (hl : xs.length ≤ 1099511627776) :
    Calls Try.prog 11 #[.slice (some ⟨g, 0, none⟩) xs.length (xs.length + 12 : Nat), .slice ao xs.length cap] w fun e w' => e = .returned (.bool true) ∧ Below w.heap.size w w' := by
  have HX := Lib.hid hx
  clear hx
  go_enter Try.func11, Try.ntmps11
  go_wp2_with fail
  go_loopw [6] (fun i wr => ∃ k : Nat, k ≤ xs.length + 12 ∧ i = .int .i64 k ∧ Below w.heap.size w wr) (fun i _ => xs.length + 12 - (intOf i).toNat)
  case atStart => exact ⟨0, by omega, rfl, Below.refl _ _⟩
  case round =>
    obtain ⟨k, hk, rfl, hbel⟩ := hrel
    by_cases hlt : k < xs.length
    · rcases HX.out with h0 | ⟨b, off, rfl, hb, hc⟩
      · rw [h0] at hlt; simp at hlt
      obtain ⟨x, hxe⟩ : ∃ x, x = xs.getD k 0 := ⟨_, rfl⟩
      have c0 : ∀ x : Calm w.heap.size w, x.1.cell? ⟨b, off + k, none⟩ = some (.int .i64 (xs.getD k 0)) := fun x => x.cell (hc k hlt) hb
      have c1 : ∀ x : Calm w.heap.size w, x.1.cell? ⟨g, k, none⟩ = some (.int .i64 (xs.getD k 0)) := fun x => x.cell (by
        rcases hL.ints with h0 | ⟨b', off', h1, _, h3⟩
        · rw [h0] at hlt; simp at hlt
        · cases h1; simpa using h3 k hlt) hL.lt
      rw [← hxe] at c0 c1
      clear hxe hc
      have i1 : (k : Int) < xs.length := by omega
      have d1 : decide (xs.length ≤ k) = false := by simp; omega
      go_wp2_with fail
      refine wp_region_calm (B := w.heap.size) (W0 := w) hbel (by kernel_rfl) (by kernel_rfl) ?_
      repeat (go_big_quiet_step (fail))
      refine wpQuiet_nil ?_
      intro w5 hb5
      clear c0 c1
      go_wp2_with fail
      go_roundw
      case rel => exact ⟨k + 1, by omega, by go_num, hb5⟩
      case measure => simp [intOf]; omega
    · by_cases hlt2 : k < xs.length + 12
      · obtain ⟨m, rfl⟩ : ∃ m, k = xs.length + m := ⟨k - xs.length, by omega⟩
        have c1 : ∀ x : Calm w.heap.size w, x.1.cell? ⟨g, xs.length + m, none⟩ = some (.int .i64 (8000024 + m)) := fun x => x.cell (hL.mark (by omega)) hL.lt
        have i1 : ¬ (xs.length : Int) + m < xs.length := by omega
        have i2 : (xs.length : Int) + m < xs.length + 12 := by omega
        have d1 : decide ((xs.length : Int) + m < xs.length) = false := by simp; omega
        have n1 : ((xs.length : Int) + m).toNat = xs.length + m := by omega
        have n2 : IntKind.i64.wrap (m : Int) = m := IntWalk.i64_in _ (by omega)
        have n3 : (0 : Int) ≤ (xs.length : Int) + m := by omega
        go_wp2_with fail
        refine wp_region_calm (B := w.heap.size) (W0 := w) hbel (by kernel_rfl) (by kernel_rfl) ?_
        repeat (go_big_quiet_step ((go_at_call 14; exact Calm.same (mark_at _ m (by omega) (by omega) _))))
        refine wpQuiet_nil ?_
        intro w5 hb5
        clear c1
        go_wp2_with fail
        go_roundw
        case rel => exact ⟨xs.length + m + 1, by omega, by go_num, hb5⟩
        case measure => simp [intOf]; omega
      · go_wp2_with fail
        go_ret
        exact ⟨rfl, hbel⟩

/-- What is owned, as integers that lie. -/
theorem own_ints {w : World} {base : Nat} {v : Value} {l : List Int} (h : w.ownsRow base 3 1 v l.length (l.map (Value.int .i64))) : ∃ ao cap, v = .slice ao l.length cap ∧ IntsIn w w.heap.size ao l := by
  rcases Go.Joins.ownsRow_forms h with ⟨rfl, hz⟩ | ⟨g, cap', rfl⟩
  · exact ⟨none, 0, by rw [hz], Or.inl (List.eq_nil_of_length_eq_zero hz)⟩
  · refine ⟨_, _, rfl, Or.inr ⟨g, 0, rfl, ownsRow_lt h, fun i hi => ?_⟩⟩
    rw [Nat.zero_add, World.ownsRow.cellAt h i (by omega)]
    simp [List.getD, List.getElem?_eq_getElem hi]
end Go.Proofs.Ytidfflippldhjaa
