/- LentValues, KeptValues, OverValues: a row is copied with marks behind its end; as long as nobody writes there it is found as it was; it is written over. Conditions: the row is not too long. -/
import Derived.Test.YtnfldkebjeigiaaGreatDoorGWireWrites3
import Derived.StillTailTactics
import Derived.Test.YtnfldkebjeigiaaGreatDoorGWireWrites0
set_option linter.unusedVariables false
namespace Go.Proofs.YtnfldkebjeigiaaGreatDoor
open Go.RowKit
set_option maxRecDepth 20000
theorem eql_val (t : TypeId) (h : t = 24) (a b : Int) (s : ByteArray) (w : World) : (binOp .eql t (.agg #[.int .u8 a, .int .i64 b, .string s]) (.agg #[.int .u8 a, .int .i64 b, .string s])).run Tryz.prog w = .ok (.bool true) w := by
  subst h
  simp [go_sem, Tryz.underlying24]
/-- Block g holds the row xs and twelve marks behind it. -/
def LentV (w : World) (B g : Nat) (xs : List Va) : Prop :=
  w.ownsRow B 24 3 (.slice (some ⟨g, 0, none⟩) (xs.length + 12) (xs.length + 12)) (xs.length + 12) (xs.flatMap vaCells ++ mks mkV 1 12)
def LentVPost (xs : List Va) (n : Nat) (w : World) (e : Ending) (w' : World) : Prop :=
  ∃ g, e = .returned (.slice (some ⟨g, 0, none⟩) n (n + 12)) ∧ w.heap.size ≤ g ∧ g < w'.heap.size ∧ LentV w' w.heap.size g xs ∧ Below w.heap.size w w'
theorem LentV.lt {w : World} {B g : Nat} {xs : List Va} (h : LentV w B g xs) : B ≤ g ∧ g < w.heap.size := World.ownsRow.lt h g rfl
theorem LentV.below {w w' : World} {B g B' : Nat} {xs : List Va} (h : LentV w B g xs) (hb : Below B' w w') (hB : w.heap.size ≤ B') : LentV w' B g xs := own_below h hb hB
theorem LentV.le {w : World} {B B' g : Nat} {xs : List Va} (h : LentV w B g xs) (hB : B' ≤ B) : LentV w B' g xs := Go.Joins.ownsRow_le h hB
theorem LentV.rows {w : World} {B g : Nat} {xs : List Va} (h : LentV w B g xs) : RowsIn 3 vaCells noSub w (g + 1) (some ⟨g, 0, none⟩) xs := by
  refine Or.inr ⟨g, 0, rfl, by omega, fun i x hx => ⟨fun j hj => ?_, trivial⟩⟩
  have hi := (List.getElem?_eq_some_iff.1 hx).1
  have hl := flat_len vaCells_len xs
  rw [Nat.zero_add, World.ownsRow.cellAt h _ (by omega), List.getElem?_append_left (by omega)]
  exact flat_get vaCells_len xs i x hx j hj
theorem LentV.mark {w : World} {B g : Nat} {xs : List Va} (h : LentV w B g xs) {i : Nat} (hi : i < 12) (j : Nat) (hj : j < 3) : w.cell? ⟨g, (xs.length + i) * 3 + j, none⟩ = (mkV 1 i)[j]? := by
  have hl := flat_len vaCells_len xs
  rw [World.ownsRow.cellAt h _ (by omega), List.getElem?_append_right (by omega), hl, show (xs.length + i) * 3 + j - xs.length * 3 = i * 3 + j by omega]
  exact mks_get mkV_len 1 12 i j hi hj
set_option maxHeartbeats 1000000 in
theorem lentV_any (ao : Option Addr) (n cap : Nat) (xs : List Va) (w : World) (hn : xs.length = n) (hx : RowsIn 3 vaCells noSub w w.heap.size ao xs) (hao : ao = none → cap = 0) (hl : n ≤ 1099511627776) :
    Calls Tryz.prog 8 #[.slice ao n cap] w (LentVPost xs n w) := by
  subst hn
  obtain ⟨i0, hi, hz0, hz1, hz2⟩ := info_parts infoVa
  have hm1 : (0 : Int) ≤ (xs.length : Int) + 12 := by omega
  have HX := Lib.hid hx
  clear hx
  go_enter Tryz.func8, Tryz.ntmps8
  go_wp2_with (at_make; refine wpList_make_own _ rfl _ _ 25 rfl w.heap.size 24 i0 (.agg #[.int .u8 0, .int .i64 0, .string ByteArray.empty]) 3 Tryz.underlying25 hi hz0 hz1 .i64 .i64 _ (xs.length + 12) rfl rfl (by omega) (by rw [hz2]; omega) (by unfold maxLen; omega) (Nat.le_refl _) ?_)
  intro w1 hown1 hg1
  have hb1 : Below w.heap.size w w1 := (Below.refl _ _).grown hg1 (Nat.le_refl _) (fun k hk => by cases hk)
  have hnone : ao = none → xs.length = 0 ∧ cap = 0 := fun h => ⟨by rcases HX.out with h0 | ⟨b, off, h1, _⟩; (rw [h0]; rfl); (rw [h] at h1; cases h1), hao h⟩
  have hcell : ∀ ad, ao = some ad → ∀ (j : Nat) u, (xs.flatMap vaCells)[j]? = some u → w1.cell? (ad.add j) = some u := fun ad had j u hu => cells_of_rows vaCells_len (by decide) HX.out hb1 had hu
  have hone : ∀ u ∈ xs.flatMap vaCells, u.oneCell' = true := fun u hu => by obtain ⟨y, _, hy⟩ := List.mem_flatMap.1 hu; exact vaCells_one y u hy
  go_wp2_with (at_builtin; refine wpList_append_fits_any _ rfl (.tmp 9) (.tmp 10) 25 rfl w.heap.size 24 i0 3 Tryz.underlying25 hi hz1 w.heap.size 0 (xs.length + 12) [] rfl hown1 ao xs.length cap (xs.flatMap vaCells) rfl (flat_len vaCells_len xs) hnone hcell hone (by omega) ?_)
  intro w2 hown2 hg2
  have hb2 : Below w.heap.size w w2 := hb1.grown hg2 (hb1.size) (fun k hk => by cases hk; exact Nat.le_refl _)
  have HO2 := Lib.hid (show w2.ownsRow w.heap.size 24 3 (.slice (some ⟨w.heap.size, 0, none⟩) (xs.length + 0) (xs.length + 12)) (xs.length + 0) (xs.flatMap vaCells ++ mks mkV 1 0) by simpa [mks] using hown2)
  clear hnone hcell hone hown1 hown2 hg1 hg2 hb1
  go_wp2_with fail
  go_loopw [3, 4] (fun v i wr => ∃ k : Nat, k ≤ 12 ∧ i = .int .i64 k ∧ v = .slice (some ⟨w.heap.size, 0, none⟩) (xs.length + k) (xs.length + 12) ∧ wr.ownsRow w.heap.size 24 3 (.slice (some ⟨w.heap.size, 0, none⟩) (xs.length + k) (xs.length + 12)) (xs.length + k) (xs.flatMap vaCells ++ mks mkV 1 k) ∧ Below w.heap.size w wr) (fun _ i _ => 12 - (intOf i).toNat)
  case atStart => exact ⟨0, by omega, rfl, rfl, HO2.out, hb2⟩
  case round =>
    clear hb2 HO2
    obtain ⟨k, hk, rfl, rfl, hown, hbel⟩ := hrel
    have HO := Lib.hid hown
    clear hown
    by_cases hlt : k < 12
    · obtain ⟨mm, hmm⟩ : ∃ mm, markN 1 k = mm := ⟨_, rfl⟩
      have hmk : mkV 1 k = [.int .u8 0, .int .i64 mm, .string ByteArray.empty] := by rw [← hmm]; rfl
      have HMM := Lib.hid hmm
      have HMK := Lib.hid hmk
      clear hmm hmk
      go_wp2_with fail
      refine (markV_is 1 _ 1 k mm HMM.out (by omega) rfl (by omega) (by omega) _).mono ?_
      rintro e w3 ⟨rfl, hb3⟩
      have ho3 := own_below HO.out hb3 (Nat.le_refl _)
      have hb4 := hbel.trans (hb3.mono hbel.size)
      have hs4 := hb4.size
      have HO3 := Lib.hid ho3
      clear ho3 hb3 hbel
      go_wp2_with (at_builtin; refine wpList_append_fits _ rfl (.tmp 16) (.tmp 19) 25 rfl w.heap.size 24 i0 3 Tryz.underlying25 hi hz1 w.heap.size (xs.length + k) (xs.length + 12) (xs.flatMap vaCells ++ mks mkV 1 k) rfl (World.ownsRow.alloc HO3.out _) ⟨w3.heap.size, 0, none⟩ 1 1 [.int .u8 0, .int .i64 mm, .string ByteArray.empty] rfl rfl (cells_new w3 24 [.int .u8 0, .int .i64 mm, .string ByteArray.empty]) (by simp [Value.oneCell']) (by omega) ?_)
      intro w5 hown5 hg5
      have hb5 : Below w.heap.size w w5 := (hb4.alloc hs4 _).grown hg5 (by simp; omega) (fun k hk => by cases hk; exact Nat.le_refl _)
      have ho5 : w5.ownsRow w.heap.size 24 3 (.slice (some ⟨w.heap.size, 0, none⟩) (xs.length + (k + 1)) (xs.length + 12)) (xs.length + (k + 1)) (xs.flatMap vaCells ++ mks mkV 1 (k + 1)) := by
        rw [mks_succ, HMK.out, ← Nat.add_assoc]; simpa using hown5
      have HO5 := Lib.hid ho5
      clear hown5 hg5 ho5
      go_wp2_with fail
      go_roundw
      case rel => exact ⟨k + 1, by omega, by go_num, by rw [Nat.add_assoc], HO5.out, hb5⟩
      case measure => simp [intOf]; omega
    · obtain rfl : k = 12 := by omega
      go_wp2_with fail
      go_ret
      exact ⟨w.heap.size, rfl, Nat.le_refl _, (World.ownsRow.lt HO.out _ rfl).2, HO.out, hbel⟩
set_option maxHeartbeats 1000000 in
theorem keptV_any (ao : Option Addr) (n cap g B : Nat) (xs : List Va) (w : World) (hn : xs.length = n) (hx : RowsIn 3 vaCells noSub w w.heap.size ao xs) (hL : LentV w B g xs) (hl : n ≤ 1099511627776) :
    Calls Tryz.prog 29 #[.slice (some ⟨g, 0, none⟩) n (n + 12 : Nat), .slice ao n cap] w fun e w' => e = .returned (.bool true) ∧ Below w.heap.size w w' := by
  subst hn
  have heq : ∀ (a b : Int) (s : ByteArray) (w : World), (binOp .eql 24 (.agg #[.int .u8 a, .int .i64 b, .string s]) (.agg #[.int .u8 a, .int .i64 b, .string s])).run Tryz.prog w = .ok (.bool true) w := eql_val _ rfl
  have HX := Lib.hid hx
  have HL := Lib.hid hL
  have hgl := hL.lt.2
  clear hx hL
  go_enter Tryz.func29, Tryz.ntmps29
  go_wp2_with fail
  go_loopw [6] (fun i wr => ∃ k : Nat, k ≤ xs.length + 12 ∧ i = .int .i64 k ∧ Below w.heap.size w wr) (fun i _ => xs.length + 12 - (intOf i).toNat)
  case atStart => exact ⟨0, by omega, rfl, Below.refl _ _⟩
  case round =>
    obtain ⟨k, hk, rfl, hbel⟩ := hrel
    by_cases hlt : k < xs.length
    · have hkx : xs[k]? = some xs[k] := List.getElem?_eq_getElem hlt
      obtain ⟨b, off, hao, hb, hc, _⟩ := HX.out.at hkx
      obtain ⟨b2, off2, hao2, _, hc2, _⟩ := HL.out.rows.at hkx
      cases hao2
      generalize xs[k] = x at hc hc2
      obtain ⟨kd, num, text⟩ := x
      simp only [Nat.zero_add] at hc2
      subst hao
      have c0 : ∀ y : Calm w.heap.size w, y.1.cell? ⟨b, off + k * 3, none⟩ = some (.int .u8 kd) := fun y => y.cell (hc 0 (by decide)) hb
      have c1 : ∀ y : Calm w.heap.size w, y.1.cell? ⟨b, off + k * 3 + 1, none⟩ = some (.int .i64 num) := fun y => y.cell (hc 1 (by decide)) hb
      have c2 : ∀ y : Calm w.heap.size w, y.1.cell? ⟨b, off + k * 3 + 2, none⟩ = some (.string text) := fun y => y.cell (hc 2 (by decide)) hb
      have e0 : ∀ y : Calm w.heap.size w, y.1.cell? ⟨g, k * 3, none⟩ = some (.int .u8 kd) := fun y => y.cell (hc2 0 (by decide)) hgl
      have e1 : ∀ y : Calm w.heap.size w, y.1.cell? ⟨g, k * 3 + 1, none⟩ = some (.int .i64 num) := fun y => y.cell (hc2 1 (by decide)) hgl
      have e2 : ∀ y : Calm w.heap.size w, y.1.cell? ⟨g, k * 3 + 2, none⟩ = some (.string text) := fun y => y.cell (hc2 2 (by decide)) hgl
      have i1 : (k : Int) < xs.length := by omega
      have d1 : decide (xs.length ≤ k) = false := by simp; omega
      clear hc hc2 hkx
      go_wp2_with fail
      refine wp_region_calm (B := w.heap.size) (W0 := w) hbel (by kernel_rfl) (by kernel_rfl) ?_
      repeat (go_big_quiet_step (fail))
      refine wpQuiet_nil ?_
      intro w5 hb5
      clear c0 e0 c1 e1 c2 e2
      go_wp2_with fail
      go_roundw
      case rel => exact ⟨k + 1, by omega, by go_num, hb5⟩
      case measure => simp [intOf]; omega
    · by_cases hlt2 : k < xs.length + 12
      · obtain ⟨m, rfl⟩ : ∃ m, k = xs.length + m := ⟨k - xs.length, by omega⟩
        obtain ⟨mm, hmm⟩ : ∃ mm, markN 1 m = mm := ⟨_, rfl⟩
        have hmk : mkV 1 m = [.int .u8 0, .int .i64 mm, .string ByteArray.empty] := by rw [← hmm]; rfl
        have HMM := Lib.hid hmm
        have HMK := Lib.hid hmk
        clear hmm hmk
        have e0 : ∀ y : Calm w.heap.size w, y.1.cell? ⟨g, (xs.length + m) * 3, none⟩ = some (.int .u8 0) := fun y => y.cell (by have := HL.out.mark (i := m) (by omega) 0 (by decide); rw [HMK.out] at this; simpa using this) hgl
        have e1 : ∀ y : Calm w.heap.size w, y.1.cell? ⟨g, (xs.length + m) * 3 + 1, none⟩ = some (.int .i64 mm) := fun y => y.cell (by have := HL.out.mark (i := m) (by omega) 1 (by decide); rw [HMK.out] at this; simpa using this) hgl
        have e2 : ∀ y : Calm w.heap.size w, y.1.cell? ⟨g, (xs.length + m) * 3 + 2, none⟩ = some (.string ByteArray.empty) := fun y => y.cell (by have := HL.out.mark (i := m) (by omega) 2 (by decide); rw [HMK.out] at this; simpa using this) hgl
        have i1 : ¬ (xs.length : Int) + m < xs.length := by omega
        have i2 : (xs.length : Int) + m < xs.length + 12 := by omega
        have d1 : decide ((xs.length : Int) + m < xs.length) = false := by simp; omega
        have n1 : ((xs.length : Int) + m).toNat = xs.length + m := by omega
        have n2 : IntKind.i64.wrap (m : Int) = m := IntWalk.i64_in _ (by omega)
        have n3 : (0 : Int) ≤ (xs.length : Int) + m := by omega
        go_wp2_with fail
        refine wp_region_calm (B := w.heap.size) (W0 := w) hbel (by kernel_rfl) (by kernel_rfl) ?_
        repeat (go_big_quiet_step ((go_at_call 57; exact Calm.call (Nat.le_refl _) (markV_is 1 _ 1 m mm HMM.out (by omega) (by omega) (by omega) (by omega) _))))
        refine wpQuiet_nil ?_
        intro w5 hb5
        clear e0 e1 e2
        go_wp2_with fail
        go_roundw
        case rel => exact ⟨xs.length + m + 1, by omega, by go_num, hb5⟩
        case measure => simp [intOf]; omega
      · go_wp2_with fail
        go_ret
        exact ⟨rfl, hbel⟩
end Go.Proofs.YtnfldkebjeigiaaGreatDoor
/- LentInts, KeptInts, OverInts: a row is copied with marks behind its end; as long as nobody writes there it is found as it was; it is written over. Conditions: the row is not too long. -/
namespace Go.Proofs.YtnfldkebjeigiaaGreatDoor
open Go.RowKit
set_option maxRecDepth 20000
/-- Block g holds the row xs and twelve marks behind it. -/
def LentI (w : World) (B g : Nat) (xs : List Int) : Prop :=
  w.ownsRow B 3 1 (.slice (some ⟨g, 0, none⟩) (xs.length + 12) (xs.length + 12)) (xs.length + 12) (xs.flatMap iCells ++ mks mkI 1 12)
def LentIPost (xs : List Int) (n : Nat) (w : World) (e : Ending) (w' : World) : Prop :=
  ∃ g, e = .returned (.slice (some ⟨g, 0, none⟩) n (n + 12)) ∧ w.heap.size ≤ g ∧ g < w'.heap.size ∧ LentI w' w.heap.size g xs ∧ Below w.heap.size w w'
theorem LentI.lt {w : World} {B g : Nat} {xs : List Int} (h : LentI w B g xs) : B ≤ g ∧ g < w.heap.size := World.ownsRow.lt h g rfl
theorem LentI.below {w w' : World} {B g B' : Nat} {xs : List Int} (h : LentI w B g xs) (hb : Below B' w w') (hB : w.heap.size ≤ B') : LentI w' B g xs := own_below h hb hB
theorem LentI.le {w : World} {B B' g : Nat} {xs : List Int} (h : LentI w B g xs) (hB : B' ≤ B) : LentI w B' g xs := Go.Joins.ownsRow_le h hB
theorem LentI.rows {w : World} {B g : Nat} {xs : List Int} (h : LentI w B g xs) : RowsIn 1 iCells noSub w (g + 1) (some ⟨g, 0, none⟩) xs := by
  refine Or.inr ⟨g, 0, rfl, by omega, fun i x hx => ⟨fun j hj => ?_, trivial⟩⟩
  have hi := (List.getElem?_eq_some_iff.1 hx).1
  have hl := flat_len iCells_len xs
  rw [Nat.zero_add, World.ownsRow.cellAt h _ (by omega), List.getElem?_append_left (by omega)]
  exact flat_get iCells_len xs i x hx j hj
theorem LentI.mark {w : World} {B g : Nat} {xs : List Int} (h : LentI w B g xs) {i : Nat} (hi : i < 12) (j : Nat) (hj : j < 1) : w.cell? ⟨g, (xs.length + i) * 1 + j, none⟩ = (mkI 1 i)[j]? := by
  have hl := flat_len iCells_len xs
  rw [World.ownsRow.cellAt h _ (by omega), List.getElem?_append_right (by omega), hl, show (xs.length + i) * 1 + j - xs.length * 1 = i * 1 + j by omega]
  exact mks_get mkI_len 1 12 i j hi hj
set_option maxHeartbeats 1000000 in
theorem lentI_any (ao : Option Addr) (n cap : Nat) (xs : List Int) (w : World) (hn : xs.length = n) (hx : RowsIn 1 iCells noSub w w.heap.size ao xs) (hao : ao = none → cap = 0) (hl : n ≤ 1099511627776) :
    Calls Tryz.prog 59 #[.slice ao n cap] w (LentIPost xs n w) := by
  subst hn
  obtain ⟨i0, hi, hz0, hz1, hz2⟩ := info_parts infoI
  have hm1 : (0 : Int) ≤ (xs.length : Int) + 12 := by omega
  have HX := Lib.hid hx
  clear hx
  go_enter Tryz.func59, Tryz.ntmps59
  go_wp2_with (at_make; refine wpList_make_own _ rfl _ _ 36 rfl w.heap.size 3 i0 (.int .i64 0) 1 Tryz.underlying36 hi hz0 hz1 .i64 .i64 _ (xs.length + 12) rfl rfl (by omega) (by rw [hz2]; omega) (by unfold maxLen; omega) (Nat.le_refl _) ?_)
  intro w1 hown1 hg1
  have hb1 : Below w.heap.size w w1 := (Below.refl _ _).grown hg1 (Nat.le_refl _) (fun k hk => by cases hk)
  have hnone : ao = none → xs.length = 0 ∧ cap = 0 := fun h => ⟨by rcases HX.out with h0 | ⟨b, off, h1, _⟩; (rw [h0]; rfl); (rw [h] at h1; cases h1), hao h⟩
  have hcell : ∀ ad, ao = some ad → ∀ (j : Nat) u, (xs.flatMap iCells)[j]? = some u → w1.cell? (ad.add j) = some u := fun ad had j u hu => cells_of_rows iCells_len (by decide) HX.out hb1 had hu
  have hone : ∀ u ∈ xs.flatMap iCells, u.oneCell' = true := fun u hu => by obtain ⟨y, _, hy⟩ := List.mem_flatMap.1 hu; exact iCells_one y u hy
  go_wp2_with (at_builtin; refine wpList_append_fits_any _ rfl (.tmp 9) (.tmp 10) 36 rfl w.heap.size 3 i0 1 Tryz.underlying36 hi hz1 w.heap.size 0 (xs.length + 12) [] rfl hown1 ao xs.length cap (xs.flatMap iCells) rfl (flat_len iCells_len xs) hnone hcell hone (by omega) ?_)
  intro w2 hown2 hg2
  have hb2 : Below w.heap.size w w2 := hb1.grown hg2 (hb1.size) (fun k hk => by cases hk; exact Nat.le_refl _)
  have HO2 := Lib.hid (show w2.ownsRow w.heap.size 3 1 (.slice (some ⟨w.heap.size, 0, none⟩) (xs.length + 0) (xs.length + 12)) (xs.length + 0) (xs.flatMap iCells ++ mks mkI 1 0) by simpa [mks] using hown2)
  clear hnone hcell hone hown1 hown2 hg1 hg2 hb1
  go_wp2_with fail
  go_loopw [3, 4] (fun v i wr => ∃ k : Nat, k ≤ 12 ∧ i = .int .i64 k ∧ v = .slice (some ⟨w.heap.size, 0, none⟩) (xs.length + k) (xs.length + 12) ∧ wr.ownsRow w.heap.size 3 1 (.slice (some ⟨w.heap.size, 0, none⟩) (xs.length + k) (xs.length + 12)) (xs.length + k) (xs.flatMap iCells ++ mks mkI 1 k) ∧ Below w.heap.size w wr) (fun _ i _ => 12 - (intOf i).toNat)
  case atStart => exact ⟨0, by omega, rfl, rfl, HO2.out, hb2⟩
  case round =>
    clear hb2 HO2
    obtain ⟨k, hk, rfl, rfl, hown, hbel⟩ := hrel
    have HO := Lib.hid hown
    clear hown
    by_cases hlt : k < 12
    · obtain ⟨mm, hmm⟩ : ∃ mm, markN 1 k = mm := ⟨_, rfl⟩
      have hmk : mkI 1 k = [.int .i64 mm] := by rw [← hmm]; rfl
      have HMM := Lib.hid hmm
      have HMK := Lib.hid hmk
      clear hmm hmk
      go_wp2_with fail
      refine (markI_is 1 _ 1 k mm HMM.out (by omega) rfl (by omega) (by omega) _).mono ?_
      rintro e w3 ⟨rfl, hb3⟩
      have ho3 := own_below HO.out hb3 (Nat.le_refl _)
      have hb4 := hbel.trans (hb3.mono hbel.size)
      have hs4 := hb4.size
      have HO3 := Lib.hid ho3
      clear ho3 hb3 hbel
      go_wp2_with (at_builtin; refine wpList_append_fits _ rfl (.tmp 16) (.tmp 19) 36 rfl w.heap.size 3 i0 1 Tryz.underlying36 hi hz1 w.heap.size (xs.length + k) (xs.length + 12) (xs.flatMap iCells ++ mks mkI 1 k) rfl (World.ownsRow.alloc HO3.out _) ⟨w3.heap.size, 0, none⟩ 1 1 [.int .i64 mm] rfl rfl (cells_new w3 3 [.int .i64 mm]) (by simp [Value.oneCell']) (by omega) ?_)
      intro w5 hown5 hg5
      have hb5 : Below w.heap.size w w5 := (hb4.alloc hs4 _).grown hg5 (by simp; omega) (fun k hk => by cases hk; exact Nat.le_refl _)
      have ho5 : w5.ownsRow w.heap.size 3 1 (.slice (some ⟨w.heap.size, 0, none⟩) (xs.length + (k + 1)) (xs.length + 12)) (xs.length + (k + 1)) (xs.flatMap iCells ++ mks mkI 1 (k + 1)) := by
        rw [mks_succ, HMK.out, ← Nat.add_assoc]; simpa using hown5
      have HO5 := Lib.hid ho5
      clear hown5 hg5 ho5
      go_wp2_with fail
      go_roundw
      case rel => exact ⟨k + 1, by omega, by go_num, by rw [Nat.add_assoc], HO5.out, hb5⟩
      case measure => simp [intOf]; omega
    · obtain rfl : k = 12 := by omega
      go_wp2_with fail
      go_ret
      exact ⟨w.heap.size, rfl, Nat.le_refl _, (World.ownsRow.lt HO.out _ rfl).2, HO.out, hbel⟩
set_option maxHeartbeats 1000000 in
theorem keptI_any (ao : Option Addr) (n cap g B : Nat) (xs : List Int) (w : World) (hn : xs.length = n) (hx : RowsIn 1 iCells noSub w w.heap.size ao xs) (hL : LentI w B g xs) (hl : n ≤ 1099511627776) :
    Calls Tryz.prog 74 #[.slice (some ⟨g, 0, none⟩) n (n + 12 : Nat), .slice ao n cap] w fun e w' => e = .returned (.bool true) ∧ Below w.heap.size w w' := by
  subst hn
  have HX := Lib.hid hx
  have HL := Lib.hid hL
  have hgl := hL.lt.2
  clear hx hL
  go_enter Tryz.func74, Tryz.ntmps74
  go_wp2_with fail
  go_loopw [6] (fun i wr => ∃ k : Nat, k ≤ xs.length + 12 ∧ i = .int .i64 k ∧ Below w.heap.size w wr) (fun i _ => xs.length + 12 - (intOf i).toNat)
  case atStart => exact ⟨0, by omega, rfl, Below.refl _ _⟩
  case round =>
    obtain ⟨k, hk, rfl, hbel⟩ := hrel
    by_cases hlt : k < xs.length
    · have hkx : xs[k]? = some xs[k] := List.getElem?_eq_getElem hlt
      obtain ⟨b, off, hao, hb, hc, _⟩ := HX.out.at hkx
      obtain ⟨b2, off2, hao2, _, hc2, _⟩ := HL.out.rows.at hkx
      cases hao2
      generalize xs[k] = x at hc hc2
      simp only [Nat.zero_add] at hc2
      subst hao
      have c0 : ∀ y : Calm w.heap.size w, y.1.cell? ⟨b, off + k, none⟩ = some (.int .i64 x) := fun y => y.cell (by simpa [iCells] using hc 0 (by decide)) hb
      have e0 : ∀ y : Calm w.heap.size w, y.1.cell? ⟨g, k, none⟩ = some (.int .i64 x) := fun y => y.cell (by simpa [iCells] using hc2 0 (by decide)) hgl
      have i1 : (k : Int) < xs.length := by omega
      have d1 : decide (xs.length ≤ k) = false := by simp; omega
      clear hc hc2 hkx
      go_wp2_with fail
      refine wp_region_calm (B := w.heap.size) (W0 := w) hbel (by kernel_rfl) (by kernel_rfl) ?_
      repeat (go_big_quiet_step (fail))
      refine wpQuiet_nil ?_
      intro w5 hb5
      clear c0 e0
      go_wp2_with fail
      go_roundw
      case rel => exact ⟨k + 1, by omega, by go_num, hb5⟩
      case measure => simp [intOf]; omega
    · by_cases hlt2 : k < xs.length + 12
      · obtain ⟨m, rfl⟩ : ∃ m, k = xs.length + m := ⟨k - xs.length, by omega⟩
        obtain ⟨mm, hmm⟩ : ∃ mm, markN 1 m = mm := ⟨_, rfl⟩
        have hmk : mkI 1 m = [.int .i64 mm] := by rw [← hmm]; rfl
        have HMM := Lib.hid hmm
        have HMK := Lib.hid hmk
        clear hmm hmk
        have e0 : ∀ y : Calm w.heap.size w, y.1.cell? ⟨g, xs.length + m, none⟩ = some (.int .i64 mm) := fun y => y.cell (by have := HL.out.mark (i := m) (by omega) 0 (by decide); rw [HMK.out] at this; simpa using this) hgl
        have i1 : ¬ (xs.length : Int) + m < xs.length := by omega
        have i2 : (xs.length : Int) + m < xs.length + 12 := by omega
        have d1 : decide ((xs.length : Int) + m < xs.length) = false := by simp; omega
        have n1 : ((xs.length : Int) + m).toNat = xs.length + m := by omega
        have n2 : IntKind.i64.wrap (m : Int) = m := IntWalk.i64_in _ (by omega)
        have n3 : (0 : Int) ≤ (xs.length : Int) + m := by omega
        go_wp2_with fail
        refine wp_region_calm (B := w.heap.size) (W0 := w) hbel (by kernel_rfl) (by kernel_rfl) ?_
        repeat (go_big_quiet_step ((go_at_call 103; exact Calm.call (Nat.le_refl _) (markI_is 1 _ 1 m mm HMM.out (by omega) (by omega) (by omega) (by omega) _))))
        refine wpQuiet_nil ?_
        intro w5 hb5
        clear e0
        go_wp2_with fail
        go_roundw
        case rel => exact ⟨xs.length + m + 1, by omega, by go_num, hb5⟩
        case measure => simp [intOf]; omega
      · go_wp2_with fail
        go_ret
        exact ⟨rfl, hbel⟩
end Go.Proofs.YtnfldkebjeigiaaGreatDoor
/- log.copied: entries in memory of their own. Conditions: the entries' cells lie as their readings say. -/
namespace Go.Proofs.YtnfldkebjeigiaaGreatDoor
open Go.RowKit
set_option maxRecDepth 20000
def argV (e : En) : Value := .slice e.aao e.args.length e.acap
def votV (e : En) : Value := .slice e.vao e.vs.length e.vcap
/-- An entry's lists are the call's own. -/
def enOwn (w : World) (base : Nat) (e : En) : Prop :=
  w.ownsRow base 24 3 (argV e) e.args.length (e.args.flatMap vaCells) ∧ w.ownsRow base 3 1 (votV e) e.vs.length (e.vs.flatMap iCells)
def sepE (e f : En) : Prop := ((argV e).ownBlock = none ∨ (argV e).ownBlock ≠ (argV f).ownBlock) ∧ ((votV e).ownBlock = none ∨ (votV e).ownBlock ≠ (votV f).ownBlock)
/-- A row of entries of the call's own, their lists, too, each in a block of its own. -/
structure EnsOwn (w : World) (base : Nat) (v : Value) (es : List En) : Prop where
  row : w.ownsRow base 38 9 v es.length (es.flatMap enCells)
  own : ∀ e ∈ es, enOwn w base e
  sep : es.Pairwise sepE
theorem enOwn.below {w w' : World} {base B : Nat} {e : En} (h : enOwn w base e) (hb : Below B w w') (hB : w.heap.size ≤ B) : enOwn w' base e := ⟨own_below h.1 hb hB, own_below h.2 hb hB⟩
theorem enOwn.le {w : World} {base base' : Nat} {e : En} (h : enOwn w base e) (hB : base' ≤ base) : enOwn w base' e := ⟨Go.Joins.ownsRow_le h.1 hB, Go.Joins.ownsRow_le h.2 hB⟩
theorem EnsOwn.below {w w' : World} {base B : Nat} {v : Value} {es : List En} (h : EnsOwn w base v es) (hb : Below B w w') (hB : w.heap.size ≤ B) : EnsOwn w' base v es :=
  ⟨own_below h.row hb hB, fun e he => (h.own e he).below hb hB, h.sep⟩
theorem EnsOwn.le {w : World} {base base' : Nat} {v : Value} {es : List En} (h : EnsOwn w base v es) (hB : base' ≤ base) : EnsOwn w base' v es := ⟨Go.Joins.ownsRow_le h.row hB, fun e he => (h.own e he).le hB, h.sep⟩
theorem EnsOwn.nil (w : World) (base : Nat) : EnsOwn w base (.slice none 0 0) [] := ⟨World.ownsRow_nil _ _ _ _, by simp, List.Pairwise.nil⟩
/-- A row of the call's own, as it lies. -/
theorem own_rowsIn {α : Type} {k : Nat} {cells : α → List Value} {sub : World → Nat → α → Prop} (hk : ∀ x, (cells x).length = k) {w : World} {base e n c : Nat} {ao : Option Addr} {xs : List α} (hn : xs.length = n) (h : w.ownsRow base e k (.slice ao n c) n (xs.flatMap cells)) (hs : ∀ x ∈ xs, sub w w.heap.size x) : RowsIn k cells sub w w.heap.size ao xs := by
  subst hn
  obtain ⟨a', c', hv, hin, _⟩ := own_rows hk rfl h hs (Nat.le_refl _)
  cases hv
  exact hin
theorem enOwn.sub {w : World} {base : Nat} {e : En} (h : enOwn w base e) : enSub w w.heap.size e :=
  ⟨own_rowsIn vaCells_len rfl h.1 (fun _ _ => trivial), own_rowsIn iCells_len rfl h.2 (fun _ _ => trivial)⟩
theorem EnsOwn.lie {w : World} {base : Nat} {v : Value} {es : List En} (h : EnsOwn w base v es) : ∃ a c, v = .slice a es.length c ∧ es.length ≤ c ∧ (a = none → c = 0) ∧ EnsIn w w.heap.size a es := by
  obtain ⟨a, c, hv⟩ := row_slice h.row
  subst hv
  exact ⟨a, c, rfl, own_capG h.row, own_none h.row, own_rowsIn enCells_len rfl h.row fun e he => (h.own e he).sub⟩
theorem flat_set {α : Type} {k : Nat} {cells : α → List Value} (hk : ∀ x, (cells x).length = k) (A B : List α) (x : α) (q j : Nat) (hq : A.length = q) (hj : j < k) (u : Value) : ((A ++ x :: B).flatMap cells).set (q * k + j) u = A.flatMap cells ++ ((cells x).set j u ++ B.flatMap cells) := by
  have hA := flat_len hk A
  rw [hq] at hA
  rw [List.flatMap_append, List.flatMap_cons, List.set_append_right _ _ (by omega), hA, show q * k + j - q * k = j by omega, List.set_append_left _ _ (by rw [hk]; exact hj)]
theorem flat_set2 {A : List Value} {c B : List Value} {p j : Nat} (hA : A.length = p) (hj : j < c.length) (u : Value) : (A ++ (c ++ B)).set (p + j) u = A ++ (c.set j u ++ B) := by
  rw [List.set_append_right _ _ (by omega), show p + j - A.length = j by omega, List.set_append_left _ _ hj]
def CopiedAs (xs : List En) (n : Nat) (w : World) (e : Ending) (w' : World) : Prop :=
  ∃ a c es, e = .returned (.slice a n c) ∧ EnsOwn w' w.heap.size (.slice a n c) es ∧ es.map En.plain = xs.map En.plain ∧ Below w.heap.size w w'
end Go.Proofs.YtnfldkebjeigiaaGreatDoor
/- A few blocks laid one behind the other. Any program. Conditions: none. -/
namespace Go.Proofs.YtnfldkebjeigiaaGreatDoor
open Go.RowKit
theorem keep_alloc {w : World} {g : Nat} {x : Obj} (h : w.heap[g]? = some x) (o : Obj) : (w.alloc o).heap[g]? = some x :=
  ((World.grownBy_alloc w o none).block g (Array.getElem?_eq_some_iff.1 h).1 (by simp)).trans h
theorem own_block {w : World} {b base n size : Nat} {cs : Array Value} {e : TypeId} (h : w.heap[b]? = some (.cells cs e (0, 0))) (hb : base ≤ b) (hm : n ≤ maxLen) (hs : cs.size = n * size) : w.ownsRow base e size (.slice (some ⟨b, 0, none⟩) n n) n cs.toList :=
  ⟨by simpa using hs, .inr ⟨b, n, cs, rfl, hb, h, Nat.le_refl _, hm, hs, List.take_of_length_le (by rw [Array.length_toList, hs]; exact Nat.le_refl _)⟩⟩
theorem alloc2_facts (w : World) (A B : Array Value) (T1 T2 : TypeId) : Below w.heap.size w ((w.alloc (.cells A T1)).alloc (.cells B T2)) ∧ ((w.alloc (.cells A T1)).alloc (.cells B T2)).heap[w.heap.size]? = some (.cells A T1 (0, 0)) ∧ ((w.alloc (.cells A T1)).alloc (.cells B T2)).heap[w.heap.size + 1]? = some (.cells B T2 (0, 0)) ∧ ((w.alloc (.cells A T1)).alloc (.cells B T2)).heap.size = w.heap.size + 2 := by
  refine ⟨((Below.refl _ _).alloc (Nat.le_refl _) _).alloc (by simp) _, keep_alloc (heap_alloc_new w _) _, ?_, by simp⟩
  have := heap_alloc_new (w.alloc (.cells A T1)) (.cells B T2)
  simpa using this
theorem alloc3_facts (w : World) (A B C : Array Value) (T1 T2 T3 : TypeId) : Below w.heap.size w (((w.alloc (.cells A T1)).alloc (.cells B T2)).alloc (.cells C T3)) ∧ (((w.alloc (.cells A T1)).alloc (.cells B T2)).alloc (.cells C T3)).heap[w.heap.size]? = some (.cells A T1 (0, 0)) ∧ (((w.alloc (.cells A T1)).alloc (.cells B T2)).alloc (.cells C T3)).heap[w.heap.size + 1]? = some (.cells B T2 (0, 0)) ∧ (((w.alloc (.cells A T1)).alloc (.cells B T2)).alloc (.cells C T3)).heap[w.heap.size + 2]? = some (.cells C T3 (0, 0)) ∧ (((w.alloc (.cells A T1)).alloc (.cells B T2)).alloc (.cells C T3)).heap.size = w.heap.size + 3 := by
  obtain ⟨h1, h2, h3, h4⟩ := alloc2_facts w A B T1 T2
  refine ⟨h1.alloc h1.size _, keep_alloc h2 _, keep_alloc h3 _, ?_, by simp⟩
  have := heap_alloc_new ((w.alloc (.cells A T1)).alloc (.cells B T2)) (.cells C T3)
  rw [h4] at this
  exact this
end Go.Proofs.YtnfldkebjeigiaaGreatDoor
/- Facts and replies as they lie in memory; SameFact, SameFacts, SameReply tell that what reads alike is the same. Conditions: the cells lie as their readings say. -/
namespace Go.Proofs.YtnfldkebjeigiaaGreatDoor
open Go.RowKit
set_option maxRecDepth 20000
/-- A fact: its number, its type, its arguments. -/
structure Fa where
  id : Int
  ty : Int
  ao : Option Addr
  args : List Va
  cap : Nat
def faCells (f : Fa) : List Value := [.int .i64 f.id, .int .i64 f.ty, .slice f.ao f.args.length f.cap]
theorem faCells_len (f : Fa) : (faCells f).length = 3 := rfl
theorem faCells_one (x : Fa) : ∀ u ∈ faCells x, u.oneCell' = true := by intro u hu; simp [faCells] at hu; rcases hu with rfl | rfl | rfl <;> rfl
def faSub (w : World) (B : Nat) (f : Fa) : Prop := ValsIn w B f.ao f.args
theorem faSub_kept : Kept faSub := fun _ _ _ _ _ h hb hB => h.below noSub_kept hb hB
theorem faSub_rising : Rising faSub := fun _ _ _ _ h hB => h.mono noSub_rising hB
def FasIn (w : World) (B : Nat) (ao : Option Addr) (xs : List Fa) : Prop := RowsIn 3 faCells faSub w B ao xs
/-- What a fact says, wherever it lies. -/
structure FaP where
  id : Int
  ty : Int
  args : List Va
def Fa.plain (f : Fa) : FaP := ⟨f.id, f.ty, f.args⟩
def faVal (f : Fa) : Value := .agg #[.int .i64 f.id, .int .i64 f.ty, .slice f.ao f.args.length f.cap]
/-- A reply: its error, its number, its facts, its values. -/
structure Rp where
  err : Int
  num : Int
  fo : Option Addr
  facts : List Fa
  fcap : Nat
  so : Option Addr
  said : List Va
  scap : Nat
def rpSub (w : World) (B : Nat) (r : Rp) : Prop := FasIn w B r.fo r.facts ∧ ValsIn w B r.so r.said
theorem rpSub_kept : Kept rpSub := fun _ _ _ _ _ h hb hB => ⟨h.1.below faSub_kept hb hB, h.2.below noSub_kept hb hB⟩
theorem rpSub_rising : Rising rpSub := fun _ _ _ _ h hB => ⟨h.1.mono faSub_rising hB, h.2.mono noSub_rising hB⟩
structure RpP where
  err : Int
  num : Int
  facts : List FaP
  said : List Va
def Rp.plain (r : Rp) : RpP := ⟨r.err, r.num, r.facts.map Fa.plain, r.said⟩
def rpVal (r : Rp) : Value := .agg #[.int .i64 r.err, .int .i64 r.num, .slice r.fo r.facts.length r.fcap, .slice r.so r.said.length r.scap]
theorem sameFa_any (x y : Fa) (w : World) (B : Nat) (hp : x.plain = y.plain) (hx : faSub w B x) (hy : faSub w B y) (hB : B ≤ w.heap.size) (hl : x.args.length ≤ 4611686018427387904) :
    Calls Tryz.prog 71 #[faVal x, faVal y] w fun e w' => e = .returned (.bool true) ∧ Below w.heap.size w w' := by
  obtain ⟨id, ty, ao, args, cap⟩ := x
  obtain ⟨id2, ty2, ao2, args2, cap2⟩ := y
  simp only [Fa.plain, FaP.mk.injEq] at hp
  obtain ⟨rfl, rfl, rfl⟩ := hp
  unfold faVal
  dsimp only at hl ⊢
  have HX := Lib.hid hx
  have HY := Lib.hid hy
  clear hx hy
  obtain ⟨n, hn⟩ : ∃ n, args.length = n := ⟨_, rfl⟩
  rw [hn] at hl ⊢
  have HN := Lib.hid hn
  clear hn
  have hb := ((Below.refl w.heap.size w).alloc (Nat.le_refl _) (.cells #[.int .i64 id, .int .i64 ty, .slice ao n cap] 27)).alloc (by simp) (.cells #[.int .i64 id, .int .i64 ty, .slice ao2 n cap2] 27)
  have hs1 := hb.size
  go_enter Tryz.func71, Tryz.ntmps71
  go_wp2_with fail
  refine (sameV_any ao n cap ao2 n cap2 args _ B HN.out HN.out (HX.out.below noSub_kept (hb.mono hB) (Nat.le_refl _)) (HY.out.below noSub_kept (hb.mono hB) (Nat.le_refl _)) (Nat.le_trans hB hs1) hl).mono ?_
  rintro e w' ⟨rfl, hb2⟩
  have hb3 := hb.trans (hb2.mono hs1)
  go_wp2_with fail
  go_ret
  exact ⟨rfl, hb3⟩
theorem sameFas_any (ao : Option Addr) (n cap : Nat) (co : Option Addr) (m cap2 : Nat) (xs ys : List Fa) (w : World) (B : Nat) (hn : xs.length = n) (hm : ys.length = m) (he : xs.map Fa.plain = ys.map Fa.plain) (hx : FasIn w B ao xs) (hy : FasIn w B co ys) (hB : B ≤ w.heap.size) (hl : n ≤ 1099511627776) (hsm : ∀ x ∈ xs, x.args.length ≤ 1099511627776) :
    Calls Tryz.prog 88 #[.slice ao n cap, .slice co m cap2] w fun e w' => e = .returned (.bool true) ∧ Below w.heap.size w w' := by
  have hnm : xs.length = ys.length := by have := congrArg List.length he; simpa using this
  obtain rfl : n = m := by omega
  have HX := Lib.hid (hx.mono faSub_rising hB)
  have HY := Lib.hid (hy.mono faSub_rising hB)
  have HN := Lib.hid hn
  have HM := Lib.hid hm
  have HE := Lib.hid he
  have HS := Lib.hid hsm
  clear hx hy hn hm he hnm hsm
  go_enter Tryz.func88, Tryz.ntmps88
  go_wp2_with fail
  go_loopw [5] (fun i wr => ∃ k : Nat, k ≤ n ∧ i = .int .i64 k ∧ Below w.heap.size w wr) (fun i _ => n - (intOf i).toNat)
  case atStart => exact ⟨0, by omega, rfl, Below.refl _ _⟩
  case round =>
    obtain ⟨k, hk, rfl, hbel⟩ := hrel
    by_cases hlt : k < n
    · have hkx : xs[k]? = some (xs[k]'(by rw [HN.out]; exact hlt)) := List.getElem?_eq_getElem _
      have hky : ys[k]? = some (ys[k]'(by rw [HM.out]; exact hlt)) := List.getElem?_eq_getElem _
      have hsx := HS.out _ (List.getElem_mem (l := xs) (n := k) (by rw [HN.out]; exact hlt))
      have hp : (xs[k]'(by rw [HN.out]; exact hlt)).plain = (ys[k]'(by rw [HM.out]; exact hlt)).plain := by
        have := congrArg (fun l => l[k]?) HE.out
        simp only [List.getElem?_map, hkx, hky] at this
        simpa using this
      obtain ⟨b, off, hao, hb, hc, hcs⟩ := HX.out.at hkx
      obtain ⟨b2, off2, hco, hb2, hc2, hcs2⟩ := HY.out.at hky
      generalize xs[k]'(by rw [HN.out]; exact hlt) = x at hc hcs hp hsx
      generalize ys[k]'(by rw [HM.out]; exact hlt) = y at hc2 hcs2 hp
      have hcall : ∀ x' : Calm w.heap.size w, Calls Tryz.prog 71 #[faVal x, faVal y] x'.1 fun e w' => e = .returned (.bool true) ∧ Below x'.1.heap.size x'.1 w' := fun x' =>
        sameFa_any x y x'.1 w.heap.size hp (faSub_kept _ _ _ _ _ hcs x'.2 (Nat.le_refl _)) (faSub_kept _ _ _ _ _ hcs2 x'.2 (Nat.le_refl _)) x'.2.size (by omega)
      obtain ⟨id, ty, aao, args, acap⟩ := x
      obtain ⟨id2, ty2, aao2, args2, acap2⟩ := y
      simp only [Fa.plain, FaP.mk.injEq] at hp
      obtain ⟨rfl, rfl, rfl⟩ := hp
      unfold faVal at hcall
      dsimp only at hcall
      obtain ⟨an, han⟩ : ∃ an, args.length = an := ⟨_, rfl⟩
      rw [han] at hcall
      have HC := Lib.hid hcall
      subst hao hco
      have c0 : ∀ x' : Calm w.heap.size w, x'.1.cell? ⟨b, off + k * 3, none⟩ = some (.int .i64 id) := fun x' => x'.cell (hc 0 (by decide)) hb
      have c1 : ∀ x' : Calm w.heap.size w, x'.1.cell? ⟨b, off + k * 3 + 1, none⟩ = some (.int .i64 ty) := fun x' => x'.cell (hc 1 (by decide)) hb
      have c2 : ∀ x' : Calm w.heap.size w, x'.1.cell? ⟨b, off + k * 3 + 2, none⟩ = some (.slice aao an acap) := fun x' => x'.cell (han ▸ hc 2 (by decide)) hb
      have e0 : ∀ x' : Calm w.heap.size w, x'.1.cell? ⟨b2, off2 + k * 3, none⟩ = some (.int .i64 id) := fun x' => x'.cell (hc2 0 (by decide)) hb2
      have e1 : ∀ x' : Calm w.heap.size w, x'.1.cell? ⟨b2, off2 + k * 3 + 1, none⟩ = some (.int .i64 ty) := fun x' => x'.cell (hc2 1 (by decide)) hb2
      have e2 : ∀ x' : Calm w.heap.size w, x'.1.cell? ⟨b2, off2 + k * 3 + 2, none⟩ = some (.slice aao2 an acap2) := fun x' => x'.cell (han ▸ hc2 2 (by decide)) hb2
      have c2' : ∀ x' : Calm w.heap.size w, x'.1.cell? ⟨b, off + k * 3 + 1 + 1, none⟩ = some (.slice aao an acap) := c2
      have e2' : ∀ x' : Calm w.heap.size w, x'.1.cell? ⟨b2, off2 + k * 3 + 1 + 1, none⟩ = some (.slice aao2 an acap2) := e2
      have i1 : (k : Int) < n := by omega
      clear hc hc2 hkx hky hcall hcs hcs2 han
      go_wp2_with fail
      refine wp_region_calm (B := w.heap.size) (W0 := w) hbel (by kernel_rfl) (by kernel_rfl) ?_
      repeat (go_big_quiet_step ((go_at_call 71; exact Calm.call (Nat.le_refl _) (HC.out _))))
      refine wpQuiet_nil ?_
      intro w5 hb5
      clear c0 c1 c2 e0 e1 e2 c2' e2'
      go_wp2_with fail
      go_roundw
      case rel => exact ⟨k + 1, by omega, by go_num, hb5⟩
      case measure => simp [intOf]; omega
    · obtain rfl : k = n := by omega
      go_wp2_with fail
      go_ret
      exact ⟨rfl, hbel⟩
theorem sameRp_any (x y : Rp) (w : World) (B : Nat) (hp : x.plain = y.plain) (hx : rpSub w B x) (hy : rpSub w B y) (hB : B ≤ w.heap.size) (hl : x.facts.length ≤ 1099511627776) (hsm : ∀ f ∈ x.facts, f.args.length ≤ 1099511627776) (hl2 : x.said.length ≤ 4611686018427387904) :
    Calls Tryz.prog 43 #[rpVal x, rpVal y] w fun e w' => e = .returned (.bool true) ∧ Below w.heap.size w w' := by
  obtain ⟨er, num, fo, facts, fcap, so, said, scap⟩ := x
  obtain ⟨er2, num2, fo2, facts2, fcap2, so2, said2, scap2⟩ := y
  simp only [Rp.plain, RpP.mk.injEq] at hp
  obtain ⟨rfl, rfl, hf, rfl⟩ := hp
  unfold rpVal
  dsimp only at hl hl2 hsm ⊢
  have HX := Lib.hid hx
  have HY := Lib.hid hy
  have HF := Lib.hid hf
  have HS := Lib.hid hsm
  clear hx hy hsm
  obtain ⟨n, hn⟩ : ∃ n, facts.length = n := ⟨_, rfl⟩
  obtain ⟨m, hm⟩ : ∃ m, said.length = m := ⟨_, rfl⟩
  have hn2 : facts2.length = n := by have := congrArg List.length hf; simp at this; omega
  rw [hn] at hl ⊢
  rw [hm] at hl2 ⊢
  rw [hn2]
  have HN := Lib.hid hn
  have HN2 := Lib.hid hn2
  have HM := Lib.hid hm
  clear hn hn2 hm hf
  have hb := ((Below.refl w.heap.size w).alloc (Nat.le_refl _) (.cells #[.int .i64 er, .int .i64 num, .slice fo n fcap, .slice so m scap] 34)).alloc (by simp) (.cells #[.int .i64 er, .int .i64 num, .slice fo2 n fcap2, .slice so2 m scap2] 34)
  have hs1 := hb.size
  have k1 : ((w.alloc (.cells #[.int .i64 er, .int .i64 num, .slice fo n fcap, .slice so m scap] 34)).alloc (.cells #[.int .i64 er, .int .i64 num, .slice fo2 n fcap2, .slice so2 m scap2] 34)).heap[w.heap.size]? = some (.cells #[.int .i64 er, .int .i64 num, .slice fo n fcap, .slice so m scap] 34 (0, 0)) :=
    ((World.grownBy_alloc _ _ none).block _ (by simp) (by simp)).trans (heap_alloc_new w _)
  have k2 : ((w.alloc (.cells #[.int .i64 er, .int .i64 num, .slice fo n fcap, .slice so m scap] 34)).alloc (.cells #[.int .i64 er, .int .i64 num, .slice fo2 n fcap2, .slice so2 m scap2] 34)).heap[w.heap.size + 1]? = some (.cells #[.int .i64 er, .int .i64 num, .slice fo2 n fcap2, .slice so2 m scap2] 34 (0, 0)) := by
    have := heap_alloc_new (w.alloc (.cells #[.int .i64 er, .int .i64 num, .slice fo n fcap, .slice so m scap] 34)) (.cells #[.int .i64 er, .int .i64 num, .slice fo2 n fcap2, .slice so2 m scap2] 34)
    simpa using this
  have K1 := Lib.hid k1
  have K2 := Lib.hid k2
  clear k1 k2
  go_enter Tryz.func43, Tryz.ntmps43
  go_wp2_with fail
  refine (sameFas_any fo n fcap fo2 n fcap2 facts facts2 _ B HN.out HN2.out HF.out (HX.out.1.below faSub_kept (hb.mono hB) (Nat.le_refl _)) (HY.out.1.below faSub_kept (hb.mono hB) (Nat.le_refl _)) (Nat.le_trans hB hs1) hl HS.out).mono ?_
  rintro e w' ⟨rfl, hb2⟩
  have hlt1 := (Array.getElem?_eq_some_iff.1 K1.out).1
  have hlt2 := (Array.getElem?_eq_some_iff.1 K2.out).1
  have c1 : w'.cell? ⟨w.heap.size, 3, none⟩ = some (.slice so m scap) := Go.Joins.cell_of_block ((hb2.block _ hlt1).trans K1.out) 3
  have c2 : w'.cell? ⟨w.heap.size + 1, 3, none⟩ = some (.slice so2 m scap2) := Go.Joins.cell_of_block ((hb2.block _ hlt2).trans K2.out) 3
  have hb3 := hb.trans (hb2.mono hs1)
  have hs3 := hb3.size
  go_wp2_with fail
  refine (sameV_any so m scap so2 m scap2 said _ B HM.out HM.out (HX.out.2.below noSub_kept (hb3.mono hB) (Nat.le_refl _)) (HY.out.2.below noSub_kept (hb3.mono hB) (Nat.le_refl _)) (Nat.le_trans hB hs3) hl2).mono ?_
  rintro e w' ⟨rfl, hb4⟩
  clear c1 c2
  go_wp2_with fail
  go_ret
  exact ⟨rfl, hb3.trans (hb4.mono hs3)⟩
end Go.Proofs.YtnfldkebjeigiaaGreatDoor
