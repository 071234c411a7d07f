/- The marks of ropewalkkit/lent.go: numbers, values, entries. Conditions: the places are not too great. -/
import Derived.Test.YtglgcjkglhlggaaGreatDoorGLetterPuts12
import Derived.Test.YtglgcjkglhlggaaGreatDoorGLetterPuts3
import Derived.StillTailTactics
import Derived.Test.YtglgcjkglhlggaaGreatDoorGLetterPuts4
import Derived.Test.YtglgcjkglhlggaaGreatDoorGLetterPuts1
import Derived.Lib.Bytes
import Derived.Deep.MidRow
import Derived.BigFrame
set_option linter.unusedVariables false
set_option linter.unusedSimpArgs false
namespace Go.Proofs.YtglgcjkglhlggaaGreatDoor
open Go.RowKit
set_option maxRecDepth 20000
def mkI (k i : Nat) : List Value := [.int .i64 (markN k i)]
theorem mkI_len (k i : Nat) : (mkI k i).length = 1 := rfl
def mkV (k i : Nat) : List Value := [.int .u8 0, .int .i64 (markN k i), .string ByteArray.empty]
theorem mkV_len (k i : Nat) : (mkV k i).length = 3 := rfl
def mkE (k i : Nat) : List Value := [.int .i64 (markN k i), .int .u8 0, .int .i64 0, .int .i64 0, .int .u8 0, .string ByteArray.empty, .slice none 0 0, .int .i64 0, .slice none 0 0]
theorem mkE_len (k i : Nat) : (mkE k i).length = 9 := rfl
theorem markI_at (a b : Int) (k i : Nat) (ha : a = k) (hb : b = i) (hk : k ≤ 1000000) (hi : i ≤ 2000000000000) (w : World) :
    Calls Tryz.prog 61 #[.int .i64 a, .int .i64 b] w fun e w' => e = .returned (.int .i64 (markN k i)) ∧ Below w.heap.size w w' :=
  (mark_at a b k i ha hb hk hi w).mono fun _ _ ⟨h1, h2⟩ => ⟨h1, h2 ▸ Below.refl _ _⟩
theorem markV_at (a b : Int) (k i : Nat) (ha : a = k) (hb : b = i) (hk : k ≤ 1000000) (hi : i ≤ 2000000000000) (w : World) :
    Calls Tryz.prog 138 #[.int .i64 a, .int .i64 b] w fun e w' => e = .returned (.agg #[.int .u8 0, .int .i64 (markN k i), .string ByteArray.empty]) ∧ Below w.heap.size w w' := by
  have hm : 0 ≤ markN k i ∧ markN k i ≤ 4000000000000 := by unfold markN; omega
  have hc := mark_at a b k i ha hb hk hi
  generalize markN k i = m at hm hc
  have HC := Lib.hid hc
  clear hc ha hb
  go_enter Tryz.func138, Tryz.ntmps138
  go_wp2_with fail
  refine (HC.out _).mono ?_
  rintro e w' ⟨rfl, rfl⟩
  go_wp2_with fail
  exact bodyPost_ret (v := .agg #[.int .u8 0, .int .i64 m, .string ByteArray.empty]) (by simp [results, Tryz.results138, go_sem]; rfl) rfl ⟨rfl, (Below.refl _ _).alloc (Nat.le_refl _) _⟩
theorem markE_at (a b : Int) (k i : Nat) (ha : a = k) (hb : b = i) (hk : k ≤ 1000000) (hi : i ≤ 2000000000000) (w : World) :
    Calls Tryz.prog 60 #[.int .i64 a, .int .i64 b] w fun e w' => e = .returned (.agg #[.int .i64 (markN k i), .int .u8 0, .int .i64 0, .int .i64 0, .int .u8 0, .string ByteArray.empty, .slice none 0 0, .int .i64 0, .slice none 0 0]) ∧ Below w.heap.size w w' := by
  have hm : 0 ≤ markN k i ∧ markN k i ≤ 4000000000000 := by unfold markN; omega
  have hc := mark_at a b k i ha hb hk hi
  generalize markN k i = m at hm hc
  have HC := Lib.hid hc
  clear hc ha hb
  go_enter Tryz.func60, Tryz.ntmps60
  go_wp2_with fail
  refine (HC.out _).mono ?_
  rintro e w' ⟨rfl, rfl⟩
  go_wp2_with fail
  exact bodyPost_ret (v := .agg #[.int .i64 m, .int .u8 0, .int .i64 0, .int .i64 0, .int .u8 0, .string ByteArray.empty, .slice none 0 0, .int .i64 0, .slice none 0 0]) (by simp [results, Tryz.results60, go_sem]; rfl) rfl ⟨rfl, (Below.refl _ _).alloc (Nat.le_refl _) _⟩
theorem markI_is (a b : Int) (k i : Nat) (m : Int) (hm : markN k i = m) (ha : a = k) (hb : b = i) (hk : k ≤ 1000000) (hi : i ≤ 2000000000000) (w : World) :
    Calls Tryz.prog 61 #[.int .i64 a, .int .i64 b] w fun e w' => e = .returned (.int .i64 m) ∧ Below w.heap.size w w' := hm ▸ markI_at a b k i ha hb hk hi w
theorem markV_is (a b : Int) (k i : Nat) (m : Int) (hm : markN k i = m) (ha : a = k) (hb : b = i) (hk : k ≤ 1000000) (hi : i ≤ 2000000000000) (w : World) :
    Calls Tryz.prog 138 #[.int .i64 a, .int .i64 b] w fun e w' => e = .returned (.agg #[.int .u8 0, .int .i64 m, .string ByteArray.empty]) ∧ Below w.heap.size w w' := hm ▸ markV_at a b k i ha hb hk hi w
theorem markE_is (a b : Int) (k i : Nat) (m : Int) (hm : markN k i = m) (ha : a = k) (hb : b = i) (hk : k ≤ 1000000) (hi : i ≤ 2000000000000) (w : World) :
    Calls Tryz.prog 60 #[.int .i64 a, .int .i64 b] w fun e w' => e = .returned (.agg #[.int .i64 m, .int .u8 0, .int .i64 0, .int .i64 0, .int .u8 0, .string ByteArray.empty, .slice none 0 0, .int .i64 0, .slice none 0 0]) ∧ Below w.heap.size w w' := hm ▸ markE_at a b k i ha hb hk hi w
/-- Equal marks are the same entries. -/
theorem sameMarkE (n : Int) (w : World) : Calls Tryz.prog 63 #[.agg #[.int .i64 n, .int .u8 0, .int .i64 0, .int .i64 0, .int .u8 0, .string ByteArray.empty, .slice none 0 0, .int .i64 0, .slice none 0 0], .agg #[.int .i64 n, .int .u8 0, .int .i64 0, .int .i64 0, .int .u8 0, .string ByteArray.empty, .slice none 0 0, .int .i64 0, .slice none 0 0]] w fun e w' => e = .returned (.bool true) ∧ Below w.heap.size w w' :=
  sameE_any ⟨n, 0, 0, 0, 0, ByteArray.empty, none, [], 0, 0, none, [], 0⟩ ⟨n, 0, 0, 0, 0, ByteArray.empty, none, [], 0, 0, none, [], 0⟩ w w.heap.size rfl ⟨Or.inl rfl, Or.inl rfl⟩ ⟨Or.inl rfl, Or.inl rfl⟩ (Nat.le_refl _) (by simp) (by simp)
end Go.Proofs.YtglgcjkglhlggaaGreatDoor
/- LentValues, KeptValues, OverValues: a row is copied with marks behind its end; as long as nobody writes there it is found as it was; it is written over. Conditions: the row is not too long. -/
namespace Go.Proofs.YtglgcjkglhlggaaGreatDoor
open Go.RowKit
set_option maxRecDepth 20000
theorem eql_val (t : TypeId) (h : t = 58) (a b : Int) (s : ByteArray) (w : World) : (binOp .eql t (.agg #[.int .u8 a, .int .i64 b, .string s]) (.agg #[.int .u8 a, .int .i64 b, .string s])).run Tryz.prog w = .ok (.bool true) w := by
  subst h
  simp [go_sem, Tryz.underlying58]
/-- Block g holds the row xs and twelve marks behind it. -/
def LentV (w : World) (B g : Nat) (xs : List Va) : Prop :=
  w.ownsRow B 58 3 (.slice (some ⟨g, 0, none⟩) (xs.length + 12) (xs.length + 12)) (xs.length + 12) (xs.flatMap vaCells ++ mks mkV 1 12)
def LentVPost (xs : List Va) (n : Nat) (w : World) (e : Ending) (w' : World) : Prop :=
  ∃ g, e = .returned (.slice (some ⟨g, 0, none⟩) n (n + 12)) ∧ w.heap.size ≤ g ∧ g < w'.heap.size ∧ LentV w' w.heap.size g xs ∧ Below w.heap.size w w'
theorem LentV.lt {w : World} {B g : Nat} {xs : List Va} (h : LentV w B g xs) : B ≤ g ∧ g < w.heap.size := World.ownsRow.lt h g rfl
theorem LentV.below {w w' : World} {B g B' : Nat} {xs : List Va} (h : LentV w B g xs) (hb : Below B' w w') (hB : w.heap.size ≤ B') : LentV w' B g xs := own_below h hb hB
theorem LentV.le {w : World} {B B' g : Nat} {xs : List Va} (h : LentV w B g xs) (hB : B' ≤ B) : LentV w B' g xs := Go.Joins.ownsRow_le h hB
theorem LentV.rows {w : World} {B g : Nat} {xs : List Va} (h : LentV w B g xs) : RowsIn 3 vaCells noSub w (g + 1) (some ⟨g, 0, none⟩) xs := by
  refine Or.inr ⟨g, 0, rfl, by omega, fun i x hx => ⟨fun j hj => ?_, trivial⟩⟩
  have hi := (List.getElem?_eq_some_iff.1 hx).1
  have hl := flat_len vaCells_len xs
  rw [Nat.zero_add, World.ownsRow.cellAt h _ (by omega), List.getElem?_append_left (by omega)]
  exact flat_get vaCells_len xs i x hx j hj
theorem LentV.mark {w : World} {B g : Nat} {xs : List Va} (h : LentV w B g xs) {i : Nat} (hi : i < 12) (j : Nat) (hj : j < 3) : w.cell? ⟨g, (xs.length + i) * 3 + j, none⟩ = (mkV 1 i)[j]? := by
  have hl := flat_len vaCells_len xs
  rw [World.ownsRow.cellAt h _ (by omega), List.getElem?_append_right (by omega), hl, show (xs.length + i) * 3 + j - xs.length * 3 = i * 3 + j by omega]
  exact mks_get mkV_len 1 12 i j hi hj
set_option maxHeartbeats 1000000 in
theorem lentV_any (ao : Option Addr) (n cap : Nat) (xs : List Va) (w : World) (hn : xs.length = n) (hx : RowsIn 3 vaCells noSub w w.heap.size ao xs) (hao : ao = none → cap = 0) (hl : n ≤ 1099511627776) :
    Calls Tryz.prog 187 #[.slice ao n cap] w (LentVPost xs n w) := by
  subst hn
  obtain ⟨i0, hi, hz0, hz1, hz2⟩ := info_parts infoVa
  have hm1 : (0 : Int) ≤ (xs.length : Int) + 12 := by omega
  have HX := Lib.hid hx
  clear hx
  go_enter Tryz.func187, Tryz.ntmps187
  go_wp2_with (at_make; refine wpList_make_own _ rfl _ _ 51 rfl w.heap.size 58 i0 (.agg #[.int .u8 0, .int .i64 0, .string ByteArray.empty]) 3 Tryz.underlying51 hi hz0 hz1 .i64 .i64 _ (xs.length + 12) rfl rfl (by omega) (by rw [hz2]; omega) (by unfold maxLen; omega) (Nat.le_refl _) ?_)
  intro w1 hown1 hg1
  have hb1 : Below w.heap.size w w1 := (Below.refl _ _).grown hg1 (Nat.le_refl _) (fun k hk => by cases hk)
  have hnone : ao = none → xs.length = 0 ∧ cap = 0 := fun h => ⟨by rcases HX.out with h0 | ⟨b, off, h1, _⟩; (rw [h0]; rfl); (rw [h] at h1; cases h1), hao h⟩
  have hcell : ∀ ad, ao = some ad → ∀ (j : Nat) u, (xs.flatMap vaCells)[j]? = some u → w1.cell? (ad.add j) = some u := fun ad had j u hu => cells_of_rows vaCells_len (by decide) HX.out hb1 had hu
  have hone : ∀ u ∈ xs.flatMap vaCells, u.oneCell' = true := fun u hu => by obtain ⟨y, _, hy⟩ := List.mem_flatMap.1 hu; exact vaCells_one y u hy
  go_wp2_with (at_builtin; refine wpList_append_fits_any _ rfl (.tmp 9) (.tmp 10) 51 rfl w.heap.size 58 i0 3 Tryz.underlying51 hi hz1 w.heap.size 0 (xs.length + 12) [] rfl hown1 ao xs.length cap (xs.flatMap vaCells) rfl (flat_len vaCells_len xs) hnone hcell hone (by omega) ?_)
  intro w2 hown2 hg2
  have hb2 : Below w.heap.size w w2 := hb1.grown hg2 (hb1.size) (fun k hk => by cases hk; exact Nat.le_refl _)
  have HO2 := Lib.hid (show w2.ownsRow w.heap.size 58 3 (.slice (some ⟨w.heap.size, 0, none⟩) (xs.length + 0) (xs.length + 12)) (xs.length + 0) (xs.flatMap vaCells ++ mks mkV 1 0) by simpa [mks] using hown2)
  clear hnone hcell hone hown1 hown2 hg1 hg2 hb1
  go_wp2_with fail
  go_loopw [3, 4] (fun v i wr => ∃ k : Nat, k ≤ 12 ∧ i = .int .i64 k ∧ v = .slice (some ⟨w.heap.size, 0, none⟩) (xs.length + k) (xs.length + 12) ∧ wr.ownsRow w.heap.size 58 3 (.slice (some ⟨w.heap.size, 0, none⟩) (xs.length + k) (xs.length + 12)) (xs.length + k) (xs.flatMap vaCells ++ mks mkV 1 k) ∧ Below w.heap.size w wr) (fun _ i _ => 12 - (intOf i).toNat)
  case atStart => exact ⟨0, by omega, rfl, rfl, HO2.out, hb2⟩
  case round =>
    clear hb2 HO2
    obtain ⟨k, hk, rfl, rfl, hown, hbel⟩ := hrel
    have HO := Lib.hid hown
    clear hown
    by_cases hlt : k < 12
    · obtain ⟨mm, hmm⟩ : ∃ mm, markN 1 k = mm := ⟨_, rfl⟩
      have hmk : mkV 1 k = [.int .u8 0, .int .i64 mm, .string ByteArray.empty] := by rw [← hmm]; rfl
      have HMM := Lib.hid hmm
      have HMK := Lib.hid hmk
      clear hmm hmk
      go_wp2_with fail
      refine (markV_is 1 _ 1 k mm HMM.out (by omega) rfl (by omega) (by omega) _).mono ?_
      rintro e w3 ⟨rfl, hb3⟩
      have ho3 := own_below HO.out hb3 (Nat.le_refl _)
      have hb4 := hbel.trans (hb3.mono hbel.size)
      have hs4 := hb4.size
      have HO3 := Lib.hid ho3
      clear ho3 hb3 hbel
      go_wp2_with (at_builtin; refine wpList_append_fits _ rfl (.tmp 16) (.tmp 19) 51 rfl w.heap.size 58 i0 3 Tryz.underlying51 hi hz1 w.heap.size (xs.length + k) (xs.length + 12) (xs.flatMap vaCells ++ mks mkV 1 k) rfl (World.ownsRow.alloc HO3.out _) ⟨w3.heap.size, 0, none⟩ 1 1 [.int .u8 0, .int .i64 mm, .string ByteArray.empty] rfl rfl (cells_new w3 58 [.int .u8 0, .int .i64 mm, .string ByteArray.empty]) (by simp [Value.oneCell']) (by omega) ?_)
      intro w5 hown5 hg5
      have hb5 : Below w.heap.size w w5 := (hb4.alloc hs4 _).grown hg5 (by simp; omega) (fun k hk => by cases hk; exact Nat.le_refl _)
      have ho5 : w5.ownsRow w.heap.size 58 3 (.slice (some ⟨w.heap.size, 0, none⟩) (xs.length + (k + 1)) (xs.length + 12)) (xs.length + (k + 1)) (xs.flatMap vaCells ++ mks mkV 1 (k + 1)) := by
        rw [mks_succ, HMK.out, ← Nat.add_assoc]; simpa using hown5
      have HO5 := Lib.hid ho5
      clear hown5 hg5 ho5
      go_wp2_with fail
      go_roundw
      case rel => exact ⟨k + 1, by omega, by go_num, by rw [Nat.add_assoc], HO5.out, hb5⟩
      case measure => simp [intOf]; omega
    · obtain rfl : k = 12 := by omega
      go_wp2_with fail
      go_ret
      exact ⟨w.heap.size, rfl, Nat.le_refl _, (World.ownsRow.lt HO.out _ rfl).2, HO.out, hbel⟩
set_option maxHeartbeats 1000000 in
theorem keptV_any (ao : Option Addr) (n cap g B : Nat) (xs : List Va) (w : World) (hn : xs.length = n) (hx : RowsIn 3 vaCells noSub w w.heap.size ao xs) (hL : LentV w B g xs) (hl : n ≤ 1099511627776) :
    Calls Tryz.prog 197 #[.slice (some ⟨g, 0, none⟩) n (n + 12 : Nat), .slice ao n cap] w fun e w' => e = .returned (.bool true) ∧ Below w.heap.size w w' := by
  subst hn
  have heq : ∀ (a b : Int) (s : ByteArray) (w : World), (binOp .eql 58 (.agg #[.int .u8 a, .int .i64 b, .string s]) (.agg #[.int .u8 a, .int .i64 b, .string s])).run Tryz.prog w = .ok (.bool true) w := eql_val _ rfl
  have HX := Lib.hid hx
  have HL := Lib.hid hL
  have hgl := hL.lt.2
  clear hx hL
  go_enter Tryz.func197, Tryz.ntmps197
  go_wp2_with fail
  go_loopw [6] (fun i wr => ∃ k : Nat, k ≤ xs.length + 12 ∧ i = .int .i64 k ∧ Below w.heap.size w wr) (fun i _ => xs.length + 12 - (intOf i).toNat)
  case atStart => exact ⟨0, by omega, rfl, Below.refl _ _⟩
  case round =>
    obtain ⟨k, hk, rfl, hbel⟩ := hrel
    by_cases hlt : k < xs.length
    · have hkx : xs[k]? = some xs[k] := List.getElem?_eq_getElem hlt
      obtain ⟨b, off, hao, hb, hc, _⟩ := HX.out.at hkx
      obtain ⟨b2, off2, hao2, _, hc2, _⟩ := HL.out.rows.at hkx
      cases hao2
      generalize xs[k] = x at hc hc2
      obtain ⟨kd, num, text⟩ := x
      simp only [Nat.zero_add] at hc2
      subst hao
      have c0 : ∀ y : Calm w.heap.size w, y.1.cell? ⟨b, off + k * 3, none⟩ = some (.int .u8 kd) := fun y => y.cell (hc 0 (by decide)) hb
      have c1 : ∀ y : Calm w.heap.size w, y.1.cell? ⟨b, off + k * 3 + 1, none⟩ = some (.int .i64 num) := fun y => y.cell (hc 1 (by decide)) hb
      have c2 : ∀ y : Calm w.heap.size w, y.1.cell? ⟨b, off + k * 3 + 2, none⟩ = some (.string text) := fun y => y.cell (hc 2 (by decide)) hb
      have e0 : ∀ y : Calm w.heap.size w, y.1.cell? ⟨g, k * 3, none⟩ = some (.int .u8 kd) := fun y => y.cell (hc2 0 (by decide)) hgl
      have e1 : ∀ y : Calm w.heap.size w, y.1.cell? ⟨g, k * 3 + 1, none⟩ = some (.int .i64 num) := fun y => y.cell (hc2 1 (by decide)) hgl
      have e2 : ∀ y : Calm w.heap.size w, y.1.cell? ⟨g, k * 3 + 2, none⟩ = some (.string text) := fun y => y.cell (hc2 2 (by decide)) hgl
      have i1 : (k : Int) < xs.length := by omega
      have d1 : decide (xs.length ≤ k) = false := by simp; omega
      clear hc hc2 hkx
      go_wp2_with fail
      refine wp_region_calm (B := w.heap.size) (W0 := w) hbel (by kernel_rfl) (by kernel_rfl) ?_
      repeat (go_big_quiet_step (fail))
      refine wpQuiet_nil ?_
      intro w5 hb5
      clear c0 e0 c1 e1 c2 e2
      go_wp2_with fail
      go_roundw
      case rel => exact ⟨k + 1, by omega, by go_num, hb5⟩
      case measure => simp [intOf]; omega
    · by_cases hlt2 : k < xs.length + 12
      · obtain ⟨m, rfl⟩ : ∃ m, k = xs.length + m := ⟨k - xs.length, by omega⟩
        obtain ⟨mm, hmm⟩ : ∃ mm, markN 1 m = mm := ⟨_, rfl⟩
        have hmk : mkV 1 m = [.int .u8 0, .int .i64 mm, .string ByteArray.empty] := by rw [← hmm]; rfl
        have HMM := Lib.hid hmm
        have HMK := Lib.hid hmk
        clear hmm hmk
        have e0 : ∀ y : Calm w.heap.size w, y.1.cell? ⟨g, (xs.length + m) * 3, none⟩ = some (.int .u8 0) := fun y => y.cell (by have := HL.out.mark (i := m) (by omega) 0 (by decide); rw [HMK.out] at this; simpa using this) hgl
        have e1 : ∀ y : Calm w.heap.size w, y.1.cell? ⟨g, (xs.length + m) * 3 + 1, none⟩ = some (.int .i64 mm) := fun y => y.cell (by have := HL.out.mark (i := m) (by omega) 1 (by decide); rw [HMK.out] at this; simpa using this) hgl
        have e2 : ∀ y : Calm w.heap.size w, y.1.cell? ⟨g, (xs.length + m) * 3 + 2, none⟩ = some (.string ByteArray.empty) := fun y => y.cell (by have := HL.out.mark (i := m) (by omega) 2 (by decide); rw [HMK.out] at this; simpa using this) hgl
        have i1 : ¬ (xs.length : Int) + m < xs.length := by omega
        have i2 : (xs.length : Int) + m < xs.length + 12 := by omega
        have d1 : decide ((xs.length : Int) + m < xs.length) = false := by simp; omega
        have n1 : ((xs.length : Int) + m).toNat = xs.length + m := by omega
        have n2 : IntKind.i64.wrap (m : Int) = m := IntWalk.i64_in _ (by omega)
        have n3 : (0 : Int) ≤ (xs.length : Int) + m := by omega
        go_wp2_with fail
        refine wp_region_calm (B := w.heap.size) (W0 := w) hbel (by kernel_rfl) (by kernel_rfl) ?_
        repeat (go_big_quiet_step ((go_at_call 138; exact Calm.call (Nat.le_refl _) (markV_is 1 _ 1 m mm HMM.out (by omega) (by omega) (by omega) (by omega) _))))
        refine wpQuiet_nil ?_
        intro w5 hb5
        clear e0 e1 e2
        go_wp2_with fail
        go_roundw
        case rel => exact ⟨xs.length + m + 1, by omega, by go_num, hb5⟩
        case measure => simp [intOf]; omega
      · go_wp2_with fail
        go_ret
        exact ⟨rfl, hbel⟩
end Go.Proofs.YtglgcjkglhlggaaGreatDoor
/- LentInts, KeptInts, OverInts: a row is copied with marks behind its end; as long as nobody writes there it is found as it was; it is written over. Conditions: the row is not too long. -/
namespace Go.Proofs.YtglgcjkglhlggaaGreatDoor
open Go.RowKit
set_option maxRecDepth 20000
/-- Block g holds the row xs and twelve marks behind it. -/
def LentI (w : World) (B g : Nat) (xs : List Int) : Prop :=
  w.ownsRow B 3 1 (.slice (some ⟨g, 0, none⟩) (xs.length + 12) (xs.length + 12)) (xs.length + 12) (xs.flatMap iCells ++ mks mkI 1 12)
def LentIPost (xs : List Int) (n : Nat) (w : World) (e : Ending) (w' : World) : Prop :=
  ∃ g, e = .returned (.slice (some ⟨g, 0, none⟩) n (n + 12)) ∧ w.heap.size ≤ g ∧ g < w'.heap.size ∧ LentI w' w.heap.size g xs ∧ Below w.heap.size w w'
theorem LentI.lt {w : World} {B g : Nat} {xs : List Int} (h : LentI w B g xs) : B ≤ g ∧ g < w.heap.size := World.ownsRow.lt h g rfl
theorem LentI.below {w w' : World} {B g B' : Nat} {xs : List Int} (h : LentI w B g xs) (hb : Below B' w w') (hB : w.heap.size ≤ B') : LentI w' B g xs := own_below h hb hB
theorem LentI.le {w : World} {B B' g : Nat} {xs : List Int} (h : LentI w B g xs) (hB : B' ≤ B) : LentI w B' g xs := Go.Joins.ownsRow_le h hB
theorem LentI.rows {w : World} {B g : Nat} {xs : List Int} (h : LentI w B g xs) : RowsIn 1 iCells noSub w (g + 1) (some ⟨g, 0, none⟩) xs := by
  refine Or.inr ⟨g, 0, rfl, by omega, fun i x hx => ⟨fun j hj => ?_, trivial⟩⟩
  have hi := (List.getElem?_eq_some_iff.1 hx).1
  have hl := flat_len iCells_len xs
  rw [Nat.zero_add, World.ownsRow.cellAt h _ (by omega), List.getElem?_append_left (by omega)]
  exact flat_get iCells_len xs i x hx j hj
theorem LentI.mark {w : World} {B g : Nat} {xs : List Int} (h : LentI w B g xs) {i : Nat} (hi : i < 12) (j : Nat) (hj : j < 1) : w.cell? ⟨g, (xs.length + i) * 1 + j, none⟩ = (mkI 1 i)[j]? := by
  have hl := flat_len iCells_len xs
  rw [World.ownsRow.cellAt h _ (by omega), List.getElem?_append_right (by omega), hl, show (xs.length + i) * 1 + j - xs.length * 1 = i * 1 + j by omega]
  exact mks_get mkI_len 1 12 i j hi hj
set_option maxHeartbeats 1000000 in
theorem lentI_any (ao : Option Addr) (n cap : Nat) (xs : List Int) (w : World) (hn : xs.length = n) (hx : RowsIn 1 iCells noSub w w.heap.size ao xs) (hao : ao = none → cap = 0) (hl : n ≤ 1099511627776) :
    Calls Tryz.prog 28 #[.slice ao n cap] w (LentIPost xs n w) := by
  subst hn
  obtain ⟨i0, hi, hz0, hz1, hz2⟩ := info_parts infoI
  have hm1 : (0 : Int) ≤ (xs.length : Int) + 12 := by omega
  have HX := Lib.hid hx
  clear hx
  go_enter Tryz.func28, Tryz.ntmps28
  go_wp2_with (at_make; refine wpList_make_own _ rfl _ _ 24 rfl w.heap.size 3 i0 (.int .i64 0) 1 Tryz.underlying24 hi hz0 hz1 .i64 .i64 _ (xs.length + 12) rfl rfl (by omega) (by rw [hz2]; omega) (by unfold maxLen; omega) (Nat.le_refl _) ?_)
  intro w1 hown1 hg1
  have hb1 : Below w.heap.size w w1 := (Below.refl _ _).grown hg1 (Nat.le_refl _) (fun k hk => by cases hk)
  have hnone : ao = none → xs.length = 0 ∧ cap = 0 := fun h => ⟨by rcases HX.out with h0 | ⟨b, off, h1, _⟩; (rw [h0]; rfl); (rw [h] at h1; cases h1), hao h⟩
  have hcell : ∀ ad, ao = some ad → ∀ (j : Nat) u, (xs.flatMap iCells)[j]? = some u → w1.cell? (ad.add j) = some u := fun ad had j u hu => cells_of_rows iCells_len (by decide) HX.out hb1 had hu
  have hone : ∀ u ∈ xs.flatMap iCells, u.oneCell' = true := fun u hu => by obtain ⟨y, _, hy⟩ := List.mem_flatMap.1 hu; exact iCells_one y u hy
  go_wp2_with (at_builtin; refine wpList_append_fits_any _ rfl (.tmp 9) (.tmp 10) 24 rfl w.heap.size 3 i0 1 Tryz.underlying24 hi hz1 w.heap.size 0 (xs.length + 12) [] rfl hown1 ao xs.length cap (xs.flatMap iCells) rfl (flat_len iCells_len xs) hnone hcell hone (by omega) ?_)
  intro w2 hown2 hg2
  have hb2 : Below w.heap.size w w2 := hb1.grown hg2 (hb1.size) (fun k hk => by cases hk; exact Nat.le_refl _)
  have HO2 := Lib.hid (show w2.ownsRow w.heap.size 3 1 (.slice (some ⟨w.heap.size, 0, none⟩) (xs.length + 0) (xs.length + 12)) (xs.length + 0) (xs.flatMap iCells ++ mks mkI 1 0) by simpa [mks] using hown2)
  clear hnone hcell hone hown1 hown2 hg1 hg2 hb1
  go_wp2_with fail
  go_loopw [3, 4] (fun v i wr => ∃ k : Nat, k ≤ 12 ∧ i = .int .i64 k ∧ v = .slice (some ⟨w.heap.size, 0, none⟩) (xs.length + k) (xs.length + 12) ∧ wr.ownsRow w.heap.size 3 1 (.slice (some ⟨w.heap.size, 0, none⟩) (xs.length + k) (xs.length + 12)) (xs.length + k) (xs.flatMap iCells ++ mks mkI 1 k) ∧ Below w.heap.size w wr) (fun _ i _ => 12 - (intOf i).toNat)
  case atStart => exact ⟨0, by omega, rfl, rfl, HO2.out, hb2⟩
  case round =>
    clear hb2 HO2
    obtain ⟨k, hk, rfl, rfl, hown, hbel⟩ := hrel
    have HO := Lib.hid hown
    clear hown
    by_cases hlt : k < 12
    · obtain ⟨mm, hmm⟩ : ∃ mm, markN 1 k = mm := ⟨_, rfl⟩
      have hmk : mkI 1 k = [.int .i64 mm] := by rw [← hmm]; rfl
      have HMM := Lib.hid hmm
      have HMK := Lib.hid hmk
      clear hmm hmk
      go_wp2_with fail
      refine (markI_is 1 _ 1 k mm HMM.out (by omega) rfl (by omega) (by omega) _).mono ?_
      rintro e w3 ⟨rfl, hb3⟩
      have ho3 := own_below HO.out hb3 (Nat.le_refl _)
      have hb4 := hbel.trans (hb3.mono hbel.size)
      have hs4 := hb4.size
      have HO3 := Lib.hid ho3
      clear ho3 hb3 hbel
      go_wp2_with (at_builtin; refine wpList_append_fits _ rfl (.tmp 16) (.tmp 19) 24 rfl w.heap.size 3 i0 1 Tryz.underlying24 hi hz1 w.heap.size (xs.length + k) (xs.length + 12) (xs.flatMap iCells ++ mks mkI 1 k) rfl (World.ownsRow.alloc HO3.out _) ⟨w3.heap.size, 0, none⟩ 1 1 [.int .i64 mm] rfl rfl (cells_new w3 3 [.int .i64 mm]) (by simp [Value.oneCell']) (by omega) ?_)
      intro w5 hown5 hg5
      have hb5 : Below w.heap.size w w5 := (hb4.alloc hs4 _).grown hg5 (by simp; omega) (fun k hk => by cases hk; exact Nat.le_refl _)
      have ho5 : w5.ownsRow w.heap.size 3 1 (.slice (some ⟨w.heap.size, 0, none⟩) (xs.length + (k + 1)) (xs.length + 12)) (xs.length + (k + 1)) (xs.flatMap iCells ++ mks mkI 1 (k + 1)) := by
        rw [mks_succ, HMK.out, ← Nat.add_assoc]; simpa using hown5
      have HO5 := Lib.hid ho5
      clear hown5 hg5 ho5
      go_wp2_with fail
      go_roundw
      case rel => exact ⟨k + 1, by omega, by go_num, by rw [Nat.add_assoc], HO5.out, hb5⟩
      case measure => simp [intOf]; omega
    · obtain rfl : k = 12 := by omega
      go_wp2_with fail
      go_ret
      exact ⟨w.heap.size, rfl, Nat.le_refl _, (World.ownsRow.lt HO.out _ rfl).2, HO.out, hbel⟩
set_option maxHeartbeats 1000000 in
theorem keptI_any (ao : Option Addr) (n cap g B : Nat) (xs : List Int) (w : World) (hn : xs.length = n) (hx : RowsIn 1 iCells noSub w w.heap.size ao xs) (hL : LentI w B g xs) (hl : n ≤ 1099511627776) :
    Calls Tryz.prog 41 #[.slice (some ⟨g, 0, none⟩) n (n + 12 : Nat), .slice ao n cap] w fun e w' => e = .returned (.bool true) ∧ Below w.heap.size w w' := by
  subst hn
  have HX := Lib.hid hx
  have HL := Lib.hid hL
  have hgl := hL.lt.2
  clear hx hL
  go_enter Tryz.func41, Tryz.ntmps41
  go_wp2_with fail
  go_loopw [6] (fun i wr => ∃ k : Nat, k ≤ xs.length + 12 ∧ i = .int .i64 k ∧ Below w.heap.size w wr) (fun i _ => xs.length + 12 - (intOf i).toNat)
  case atStart => exact ⟨0, by omega, rfl, Below.refl _ _⟩
  case round =>
    obtain ⟨k, hk, rfl, hbel⟩ := hrel
    by_cases hlt : k < xs.length
    · have hkx : xs[k]? = some xs[k] := List.getElem?_eq_getElem hlt
      obtain ⟨b, off, hao, hb, hc, _⟩ := HX.out.at hkx
      obtain ⟨b2, off2, hao2, _, hc2, _⟩ := HL.out.rows.at hkx
      cases hao2
      generalize xs[k] = x at hc hc2
      simp only [Nat.zero_add] at hc2
      subst hao
      have c0 : ∀ y : Calm w.heap.size w, y.1.cell? ⟨b, off + k, none⟩ = some (.int .i64 x) := fun y => y.cell (by simpa [iCells] using hc 0 (by decide)) hb
      have e0 : ∀ y : Calm w.heap.size w, y.1.cell? ⟨g, k, none⟩ = some (.int .i64 x) := fun y => y.cell (by simpa [iCells] using hc2 0 (by decide)) hgl
      have i1 : (k : Int) < xs.length := by omega
      have d1 : decide (xs.length ≤ k) = false := by simp; omega
      clear hc hc2 hkx
      go_wp2_with fail
      refine wp_region_calm (B := w.heap.size) (W0 := w) hbel (by kernel_rfl) (by kernel_rfl) ?_
      repeat (go_big_quiet_step (fail))
      refine wpQuiet_nil ?_
      intro w5 hb5
      clear c0 e0
      go_wp2_with fail
      go_roundw
      case rel => exact ⟨k + 1, by omega, by go_num, hb5⟩
      case measure => simp [intOf]; omega
    · by_cases hlt2 : k < xs.length + 12
      · obtain ⟨m, rfl⟩ : ∃ m, k = xs.length + m := ⟨k - xs.length, by omega⟩
        obtain ⟨mm, hmm⟩ : ∃ mm, markN 1 m = mm := ⟨_, rfl⟩
        have hmk : mkI 1 m = [.int .i64 mm] := by rw [← hmm]; rfl
        have HMM := Lib.hid hmm
        have HMK := Lib.hid hmk
        clear hmm hmk
        have e0 : ∀ y : Calm w.heap.size w, y.1.cell? ⟨g, xs.length + m, none⟩ = some (.int .i64 mm) := fun y => y.cell (by have := HL.out.mark (i := m) (by omega) 0 (by decide); rw [HMK.out] at this; simpa using this) hgl
        have i1 : ¬ (xs.length : Int) + m < xs.length := by omega
        have i2 : (xs.length : Int) + m < xs.length + 12 := by omega
        have d1 : decide ((xs.length : Int) + m < xs.length) = false := by simp; omega
        have n1 : ((xs.length : Int) + m).toNat = xs.length + m := by omega
        have n2 : IntKind.i64.wrap (m : Int) = m := IntWalk.i64_in _ (by omega)
        have n3 : (0 : Int) ≤ (xs.length : Int) + m := by omega
        go_wp2_with fail
        refine wp_region_calm (B := w.heap.size) (W0 := w) hbel (by kernel_rfl) (by kernel_rfl) ?_
        repeat (go_big_quiet_step ((go_at_call 61; exact Calm.call (Nat.le_refl _) (markI_is 1 _ 1 m mm HMM.out (by omega) (by omega) (by omega) (by omega) _))))
        refine wpQuiet_nil ?_
        intro w5 hb5
        clear e0
        go_wp2_with fail
        go_roundw
        case rel => exact ⟨xs.length + m + 1, by omega, by go_num, hb5⟩
        case measure => simp [intOf]; omega
      · go_wp2_with fail
        go_ret
        exact ⟨rfl, hbel⟩
end Go.Proofs.YtglgcjkglhlggaaGreatDoor
/- A few blocks laid one behind the other. Any program. Conditions: none. -/
namespace Go.Proofs.YtglgcjkglhlggaaGreatDoor
open Go.RowKit
theorem keep_alloc {w : World} {g : Nat} {x : Obj} (h : w.heap[g]? = some x) (o : Obj) : (w.alloc o).heap[g]? = some x :=
  ((World.grownBy_alloc w o none).block g (Array.getElem?_eq_some_iff.1 h).1 (by simp)).trans h
theorem alloc2_facts (w : World) (A B : Array Value) (T1 T2 : TypeId) : Below w.heap.size w ((w.alloc (.cells A T1)).alloc (.cells B T2)) ∧ ((w.alloc (.cells A T1)).alloc (.cells B T2)).heap[w.heap.size]? = some (.cells A T1 (0, 0)) ∧ ((w.alloc (.cells A T1)).alloc (.cells B T2)).heap[w.heap.size + 1]? = some (.cells B T2 (0, 0)) ∧ ((w.alloc (.cells A T1)).alloc (.cells B T2)).heap.size = w.heap.size + 2 := by
  refine ⟨((Below.refl _ _).alloc (Nat.le_refl _) _).alloc (by simp) _, keep_alloc (heap_alloc_new w _) _, ?_, by simp⟩
  have := heap_alloc_new (w.alloc (.cells A T1)) (.cells B T2)
  simpa using this
end Go.Proofs.YtglgcjkglhlggaaGreatDoor
/- LentFact, LentCommand, KeptFact, KeptCommand: a thing whose values are copied with marks behind their end; as long as nobody writes there it is found as it was. Conditions: the values lie as their reading says. -/
namespace Go.Proofs.YtglgcjkglhlggaaGreatDoor
open Go.RowKit
set_option maxRecDepth 20000
theorem lentV_at (ao : Option Addr) (n cap : Nat) (xs : List Va) (w : World) (B : Nat) (hn : xs.length = n) (hx : ValsIn w B ao xs) (hB : B ≤ w.heap.size) (hao : ao = none → cap = 0) (hl : n ≤ 1099511627776) :
    Calls Tryz.prog 187 #[.slice ao n cap] w (LentVPost xs n w) := lentV_any ao n cap xs w hn (RowsIn.mono noSub_rising hx hB) hao hl
theorem lentC_any (ck : Int) (text : ByteArray) (num : Int) (ao : Option Addr) (n cap : Nat) (xs : List Va) (w : World) (hn : xs.length = n) (hx : ValsIn w w.heap.size ao xs) (hao : ao = none → cap = 0) (hl : n ≤ 1099511627776) :
    Calls Tryz.prog 120 #[.agg #[.int .u8 ck, .string text, .slice ao n cap, .int .i64 num]] w fun e w' => ∃ g, e = .returned (.agg #[.int .u8 ck, .string text, .slice (some ⟨g, 0, none⟩) n (n + 12), .int .i64 num]) ∧ w.heap.size ≤ g ∧ LentV w' w.heap.size g xs ∧ Below w.heap.size w w' := by
  obtain ⟨hb2, h1, h2, hz2⟩ := alloc2_facts w #[.int .u8 ck, .string text, .slice ao n cap, .int .i64 num] #[.int .u8 0, .string ⟨#[]⟩, .slice none 0 0, .int .i64 0] 53 53
  have HX := Lib.hid hx
  have HA := Lib.hid hao
  have HN := Lib.hid hn
  have HB2 := Lib.hid hb2
  have H1 := Lib.hid h1
  have H2 := Lib.hid h2
  have HZ := Lib.hid hz2
  clear hx hao hn hb2 h1 h2 hz2
  go_enter Tryz.func120, Tryz.ntmps120
  go_wp2_with fail
  have hb2 := HB2.out
  have h1 := H1.out
  have h2 := H2.out
  have hz2 := HZ.out
  generalize ((w.alloc (.cells #[.int .u8 ck, .string text, .slice ao n cap, .int .i64 num] 53)).alloc (.cells #[.int .u8 0, .string ⟨#[]⟩, .slice none 0 0, .int .i64 0] 53)) = w2 at hb2 h1 h2 hz2 ⊢
  have H1 := Lib.hid h1
  have H2 := Lib.hid h2
  have HZ := Lib.hid hz2
  clear h1 h2 hz2 HB2
  refine (lentV_at ao n cap xs w2 w.heap.size HN.out (RowsIn.below noSub_kept HX.out hb2 (Nat.le_refl _)) hb2.size HA.out hl).mono ?_
  rintro e w3 ⟨g, rfl, hg1, hg2, hL, hb3⟩
  have k1 := (hb3.block w.heap.size (by have := HZ.out; omega)).trans H1.out
  have k2 := (hb3.block (w.heap.size + 1) (by have := HZ.out; omega)).trans H2.out
  have c0 : w3.cell? ⟨w.heap.size, 0, none⟩ = some (.int .u8 ck) := Go.Joins.cell_of_block k1 0
  have c1 : w3.cell? ⟨w.heap.size, 1, none⟩ = some (.string text) := Go.Joins.cell_of_block k1 1
  have c2 : w3.cell? ⟨w.heap.size, 2, none⟩ = some (.slice ao n cap) := Go.Joins.cell_of_block k1 2
  have c3 : w3.cell? ⟨w.heap.size, 3, none⟩ = some (.int .i64 num) := Go.Joins.cell_of_block k1 3
  have f2 : w3.frozen? ⟨w.heap.size, 2, none⟩ = false := Go.Joins.unfrozen_of_block k1 2
  have d0 : w3.cell? ⟨w.heap.size + 1, 0, none⟩ = some (.int .u8 0) := Go.Joins.cell_of_block k2 0
  have d1 : w3.cell? ⟨w.heap.size + 1, 1, none⟩ = some (.string ⟨#[]⟩) := Go.Joins.cell_of_block k2 1
  have d2 : w3.cell? ⟨w.heap.size + 1, 2, none⟩ = some (.slice none 0 0) := Go.Joins.cell_of_block k2 2
  have d3 : w3.cell? ⟨w.heap.size + 1, 3, none⟩ = some (.int .i64 0) := Go.Joins.cell_of_block k2 3
  have g0 : w3.frozen? ⟨w.heap.size + 1, 0, none⟩ = false := Go.Joins.unfrozen_of_block k2 0
  have g1 : w3.frozen? ⟨w.heap.size + 1, 1, none⟩ = false := Go.Joins.unfrozen_of_block k2 1
  have g2 : w3.frozen? ⟨w.heap.size + 1, 2, none⟩ = false := Go.Joins.unfrozen_of_block k2 2
  have g3 : w3.frozen? ⟨w.heap.size + 1, 3, none⟩ = false := Go.Joins.unfrozen_of_block k2 3
  have HL := Lib.hid (hL.le (show w.heap.size ≤ w2.heap.size from hb2.size))
  have HBB := Lib.hid (hb2.trans (hb3.mono hb2.size))
  have hgz : w.heap.size + 2 ≤ g := by have := HZ.out; omega
  clear hL k1 k2 hb3
  go_wp2_with fail
  have hlb : LentV ((((((w3.setCell ⟨w.heap.size, 2, none⟩ (.slice (some ⟨g, 0, none⟩) n (n + 12))).setCell ⟨w.heap.size + 1, 0, none⟩ (.int .u8 ck)).setCell ⟨w.heap.size + 1, 1, none⟩ (.string text)).setCell ⟨w.heap.size + 1, 2, none⟩ (.slice (some ⟨g, 0, none⟩) n (n + 12)))).setCell ⟨w.heap.size + 1, 3, none⟩ (.int .i64 num)) w.heap.size g xs := by
    refine ownsRow_setCell_other (ownsRow_setCell_other (ownsRow_setCell_other (ownsRow_setCell_other (ownsRow_setCell_other HL.out ?_ _) ?_ _) ?_ _) ?_ _) ?_ _ <;> (simp [Value.ownBlock]; omega)
  have hbb := ((((HBB.out.setCell (p := ⟨w.heap.size, 2, none⟩) (Nat.le_refl _) (.slice (some ⟨g, 0, none⟩) n (n + 12))).setCell (p := ⟨w.heap.size + 1, 0, none⟩) (Nat.le_succ _) (.int .u8 ck)).setCell (p := ⟨w.heap.size + 1, 1, none⟩) (Nat.le_succ _) (.string text)).setCell (p := ⟨w.heap.size + 1, 2, none⟩) (Nat.le_succ _) (.slice (some ⟨g, 0, none⟩) n (n + 12))).setCell (p := ⟨w.heap.size + 1, 3, none⟩) (Nat.le_succ _) (.int .i64 num)
  exact bodyPost_ret (v := .agg #[.int .u8 ck, .string text, .slice (some ⟨g, 0, none⟩) n (n + 12), .int .i64 num]) (by simp [results, Tryz.results120, go_sem, d0, d1, d2, d3]) rfl ⟨g, rfl, by omega, hlb, hbb⟩
end Go.Proofs.YtglgcjkglhlggaaGreatDoor
/- The reader of wire: Fact. Conditions: the reader is one that was made. -/
namespace Go.Proofs.YtglgcjkglhlggaaGreatDoor
open Go.RowKit
set_option maxRecDepth 20000
end Go.Proofs.YtglgcjkglhlggaaGreatDoor
/- Rows of facts that the reader of wire reads. Conditions: the reader is one that was made. -/
namespace Go.Proofs.YtglgcjkglhlggaaGreatDoor
open Go.RowKit
set_option maxRecDepth 20000
end Go.Proofs.YtglgcjkglhlggaaGreatDoor
/- The marks of ropewalkkit/lent.go: facts, replies. Conditions: the places are not too great. -/
namespace Go.Proofs.YtglgcjkglhlggaaGreatDoor
open Go.RowKit
set_option maxRecDepth 20000
end Go.Proofs.YtglgcjkglhlggaaGreatDoor
/- LentFacts: a row of facts is copied, each fact's values too, with marks behind all ends; KeptFact. Conditions: the facts lie as their reading says. -/
namespace Go.Proofs.YtglgcjkglhlggaaGreatDoor
open Go.RowKit
set_option maxRecDepth 20000
end Go.Proofs.YtglgcjkglhlggaaGreatDoor
/- A thing of each form among the arguments, with the bounds of what hangs on it. Conditions: it is read as the row reads it, its weights are bounded. -/
namespace Go.Proofs.YtglgcjkglhlggaaGreatDoor
open Go.RowKit Go.ChangeShapes
set_option maxRecDepth 20000
end Go.Proofs.YtglgcjkglhlggaaGreatDoor
/- How much a thing is: plain definitions and laws. No program. Conditions: as each says. -/
namespace Go.Proofs.YtglgcjkglhlggaaGreatDoor
open Go.RowKit
set_option maxRecDepth 20000
end Go.Proofs.YtglgcjkglhlggaaGreatDoor
/- How much values are, and whether they are wholly said: the law's own helpers, walked. Conditions: memory bounds lengths. -/
namespace Go.Proofs.YtglgcjkglhlggaaGreatDoor
open Go.RowKit
set_option maxRecDepth 20000
end Go.Proofs.YtglgcjkglhlggaaGreatDoor
/- How much a thing is: the law's helper great, walked. Conditions: the thing lies in memory as it is read. -/
namespace Go.Proofs.YtglgcjkglhlggaaGreatDoor
open Go.RowKit
set_option maxRecDepth 20000
end Go.Proofs.YtglgcjkglhlggaaGreatDoor
/- A thing's cells, one by one, in every world in which its block stays. Conditions: the block lies as it is read. -/
namespace Go.Proofs.YtglgcjkglhlggaaGreatDoor
open Go.RowKit
set_option maxRecDepth 20000
theorem range_new {w : World} {g o : Nat} : w.rangeAt g o [] := fun j v hv => by cases j <;> cases hv
theorem range_cons {w : World} {g o : Nat} {v : Value} {vs : List Value} (h : w.cell? ⟨g, o, none⟩ = some v) (h2 : w.rangeAt g (o + 1) vs) : w.rangeAt g o (v :: vs) := fun j u hu => by
  cases j with
  | zero => simp at hu; subst hu; exact h
  | succ j =>
    have := h2 j u (by simpa using hu)
    rw [show o + (j + 1) = o + 1 + j by omega]
    exact this
/-- A load of a struct, where the operation is guarded, and wanted. -/
theorem wpList_load_want {P : Program} {ops : Array Oper} {rest : List Oper} {op : Oper} {a : Act} {w : World} {Q : Exit → Act → World → Prop} (hw : Region.wanted op (yielded ops a.tmps) = true) (ty : TypeId) (x : Operand) (ho : op.op = .load ty x)
    (b o : Nat) (hx : a.eval x = .pointer (some ⟨b, o, none⟩)) (cs : List Value) (d : TypeDesc) (hc : w.rangeAt b o cs)
    (hu : P.underlying ty = some d) (hd : d.isRow = true) (hi : (P.info? ty).map (·.size) = some cs.length)
    (h : wpList P ops Q rest (a.put op.dst (.agg cs.toArray)) w) : wpList P ops Q (op :: rest) a w :=
  Go.BigFrame.wpList_want hw fun _ hK => wp_load_mid ty x ho b o hx cs d hc hu hd hi (hK _ _ h)
theorem info_cm : (Tryz.prog.info? 53).map (·.size) = some 4 := by kernel_rfl
theorem info_en : (Tryz.prog.info? 55).map (·.size) = some 9 := by kernel_rfl
/-- The rows that a call made, read. -/
theorem VasOwn.vals {w : World} {base n c : Nat} {a : Option Addr} {xs : List Va} (hn : xs.length = n) (h : VasOwn w base a n c xs) : ValsIn w w.heap.size a xs := own_rowsIn vaCells_len hn h (fun _ _ => trivial)
end Go.Proofs.YtglgcjkglhlggaaGreatDoor
/- KeptFact, KeptCommand, KeptFacts, LentReply, KeptReply, LentEntry, KeptEntry: things that are lent are found as they were, as long as nobody writes behind their ends. Conditions: they lie as their reading says. -/
namespace Go.Proofs.YtglgcjkglhlggaaGreatDoor
open Go.RowKit
set_option maxRecDepth 20000
theorem own_blocks' {w w' : World} {base e size n : Nat} {v : Value} {xs : List Value} (h : w.ownsRow base e size v n xs) (hs : ∀ g, base ≤ g → g < w.heap.size → w'.heap[g]? = w.heap[g]?) : w'.ownsRow base e size v n xs := by
  refine ⟨h.1, ?_⟩
  rcases h.2 with hn | ⟨g, cap, cur, rfl, h1, h2, h3⟩
  · exact Or.inl hn
  · refine Or.inr ⟨g, cap, cur, rfl, h1, ?_, h3⟩
    rw [hs g h1 (Array.getElem?_eq_some_iff.1 h2).1]
    exact h2
theorem keptV_at (ao : Option Addr) (n cap c2 g B : Nat) (go : Option Addr) (xs : List Va) (w : World) (B2 : Nat) (hg : go = some ⟨g, 0, none⟩) (hc : c2 = n + 12) (hn : xs.length = n) (hx : ValsIn w B2 ao xs) (hB : B2 ≤ w.heap.size) (hL : LentV w B g xs) (hl : n ≤ 1099511627776) :
    Calls Tryz.prog 197 #[.slice go n c2, .slice ao n cap] w fun e w' => e = .returned (.bool true) ∧ Below w.heap.size w w' := by
  subst hg hc
  exact keptV_any ao n cap g B xs w hn (RowsIn.mono noSub_rising hx hB) hL hl
set_option maxHeartbeats 1000000 in
theorem keptC_any (ck : Int) (text : ByteArray) (num : Int) (ao : Option Addr) (n cap g B : Nat) (xs : List Va) (w : World) (hn : xs.length = n) (hx : ValsIn w w.heap.size ao xs) (hL : LentV w B g xs) (hl : n ≤ 1099511627776) :
    Calls Tryz.prog 134 #[.agg #[.int .u8 ck, .string text, .slice (some ⟨g, 0, none⟩) n (n + 12), .int .i64 num], .agg #[.int .u8 ck, .string text, .slice ao n cap, .int .i64 num]] w fun e w' => e = .returned (.bool true) ∧ Below w.heap.size w w' := by
  obtain ⟨hb2, h1, h2, hz2⟩ := alloc2_facts w #[.int .u8 ck, .string text, .slice (some ⟨g, 0, none⟩) n (n + 12), .int .i64 num] #[.int .u8 ck, .string text, .slice ao n cap, .int .i64 num] 53 53
  have HX := Lib.hid hx
  have HL := Lib.hid hL
  have HN := Lib.hid hn
  have HB2 := Lib.hid hb2
  have H1 := Lib.hid h1
  have H2 := Lib.hid h2
  have HZ := Lib.hid hz2
  clear hx hL hn hb2 h1 h2 hz2
  go_enter Tryz.func134, Tryz.ntmps134
  go_wp2_with fail
  have hb2 := HB2.out
  have h1 := H1.out
  have h2 := H2.out
  have hz2 := HZ.out
  generalize ((w.alloc (.cells #[.int .u8 ck, .string text, .slice (some ⟨g, 0, none⟩) n (n + 12), .int .i64 num] 53)).alloc (.cells #[.int .u8 ck, .string text, .slice ao n cap, .int .i64 num] 53)) = w2 at hb2 h1 h2 hz2 ⊢
  have H1 := Lib.hid h1
  have H2 := Lib.hid h2
  have HZ := Lib.hid hz2
  have hL2 := HL.out.below hb2 (Nat.le_refl _)
  have hx2 : ValsIn w2 w2.heap.size ao xs := RowsIn.mono noSub_rising (RowsIn.below noSub_kept HX.out hb2 (Nat.le_refl _)) hb2.size
  have hy2 : ValsIn w2 w2.heap.size (some ⟨g, 0, none⟩) xs := RowsIn.mono noSub_rising hL2.rows hL2.lt.2
  have HL2 := Lib.hid hL2
  have HX2 := Lib.hid hx2
  have HSAME := Lib.hid (show Calls Tryz.prog 67 #[.agg #[.int .u8 ck, .string text, .slice (some ⟨g, 0, none⟩) n (n + 12), .int .i64 num], .agg #[.int .u8 ck, .string text, .slice ao n cap, .int .i64 num]] w2 fun e w' => e = .returned (.bool true) ∧ Below w2.heap.size w2 w' from sameC_any ck text num (some ⟨g, 0, none⟩) n (n + 12) ao cap xs w2 w2.heap.size HN.out hy2 hx2 (Nat.le_refl _) (by omega))
  clear h1 h2 hz2 HB2 hL2 hx2 hy2
  refine HSAME.out.mono ?_
  rintro e w3 ⟨rfl, hb3⟩
  have k1 := (hb3.block w.heap.size (by have := HZ.out; omega)).trans H1.out
  have k2 := (hb3.block (w.heap.size + 1) (by have := HZ.out; omega)).trans H2.out
  have c1 : w3.cell? ⟨w.heap.size, 2, none⟩ = some (.slice (some ⟨g, 0, none⟩) n (n + 12)) := Go.Joins.cell_of_block k1 2
  have c2 : w3.cell? ⟨w.heap.size + 1, 2, none⟩ = some (.slice ao n cap) := Go.Joins.cell_of_block k2 2
  have hb4 := hb2.trans (hb3.mono hb2.size)
  clear k1 k2 HSAME
  go_wp2_with fail
  refine (keptV_at ao n cap (n + 12) g B (some ⟨g, 0, none⟩) xs w3 w2.heap.size rfl rfl HN.out (RowsIn.below noSub_kept HX2.out hb3 (Nat.le_refl _)) hb3.size (HL2.out.below hb3 (Nat.le_refl _)) hl).mono ?_
  rintro e w4 ⟨rfl, hb5⟩
  clear c1 c2
  go_wp2_with fail
  go_ret
  exact ⟨rfl, hb4.trans (hb5.mono hb4.size)⟩
end Go.Proofs.YtglgcjkglhlggaaGreatDoor
