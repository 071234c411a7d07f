/- Small laws for rows whose elements take several cells. No program. Conditions: as each says. -/
import Derived.Test.YtejgebpdipnhmaaGreatDoorGSnapNumbers14
import Derived.Test.YtejgebpdipnhmaaGreatDoorGSnapNumbers15
import Derived.Test.YtejgebpdipnhmaaGreatDoorGSnapNumbers2
import Derived.StillTailTactics
import Derived.Test.YtejgebpdipnhmaaGreatDoorGSnapNumbers3
import Derived.Test.YtejgebpdipnhmaaGreatDoorGSnapNumbers1
import Derived.Lib.Bytes
import Derived.Deep.MidRow
import Derived.BigFrame
import Derived.Maps.AppendAt
set_option linter.unusedVariables false
set_option linter.unusedSimpArgs false
namespace Go.Proofs.YtejgebpdipnhmaaGreatDoor
open Go.RowKit
theorem run_make_rows {P : Program} (t e : TypeId) (z : Value) (size bytes : Nat) (ht : P.underlying t = some (.slice e)) (hinfo : (P.info? e).map (fun i => (i.zero, i.size, i.bytes)) = some (some z, size, bytes))
    (kl kc : IntKind) (n : Nat) (hbytes : bytes * n ≤ 281474976710656) (h63 : n ≤ 9223372036854775807) (w : World) :
    (Instr.makeSlice t (.int kl (n : Int)) (.int kc (n : Int))).run P w = .ok (.slice (some ⟨w.heap.size, 0, none⟩) n n) (w.alloc (.cells (madeCells z.cells (n * size)) e)) := by
  obtain ⟨i, hi, hzz⟩ := Option.map_eq_some_iff.1 hinfo
  simp only [Prod.mk.injEq] at hzz
  obtain ⟨hz, hs, hb⟩ := hzz
  have hb' : (i.bytes : Int) * (n : Int) ≤ 281474976710656 := by
    have h : ((i.bytes * n : Nat) : Int) ≤ 281474976710656 := by rw [hb]; omega
    rwa [Int.natCast_mul] at h
  have hr := run_make (P := P) w t e i z ht hi hz kl kc n n (by omega) (Int.le_refl _) hb' (by omega)
  simp only [Int.toNat_natCast, hs] at hr
  exact hr
theorem made_one (z : Array Value) (n : Nat) (h0 : 0 < z.size) (h : z.toList.all (fun u => u.oneCell') = true) : ∀ u ∈ (madeCells z n).toList, u.oneCell' = true := by
  intro u hu
  unfold madeCells at hu
  simp only [Array.toList_map, Array.toList_range, List.mem_map, List.mem_range] at hu
  obtain ⟨i, _, rfl⟩ := hu
  have hlt : i % z.size < z.size := Nat.mod_lt _ h0
  rw [getElem!_pos z (i % z.size) hlt]
  exact List.all_eq_true.1 h _ (by simp)
theorem one_set {l : List Value} {q : Nat} {u : Value} (h : ∀ x ∈ l, x.oneCell' = true) (hu : u.oneCell' = true) : ∀ x ∈ l.set q u, x.oneCell' = true := by
  intro x hx
  rcases List.mem_or_eq_of_mem_set hx with hx | hx
  · exact h x hx
  · rw [hx]; exact hu
theorem cells_new (w : World) (T : TypeId) (cs : List Value) : ∀ j u, cs[j]? = some u → (w.alloc (.cells cs.toArray T)).cell? ((⟨w.heap.size, 0, none⟩ : Addr).add j) = some u := by
  intro j u hu
  have hadd : (⟨w.heap.size, 0, none⟩ : Addr).add j = ⟨w.heap.size, j, none⟩ := by unfold Addr.add; split <;> simp_all
  rw [hadd, World.cell?_alloc_at _ _ _ _ rfl]
  simpa using hu
end Go.Proofs.YtejgebpdipnhmaaGreatDoor
/- The marks of ropewalkkit/lent.go: numbers, values, entries. Conditions: the places are not too great. -/
namespace Go.Proofs.YtejgebpdipnhmaaGreatDoor
open Go.RowKit
set_option maxRecDepth 20000
def mkI (k i : Nat) : List Value := [.int .i64 (markN k i)]
theorem mkI_len (k i : Nat) : (mkI k i).length = 1 := rfl
theorem markI_at (a b : Int) (k i : Nat) (ha : a = k) (hb : b = i) (hk : k ≤ 1000000) (hi : i ≤ 2000000000000) (w : World) :
    Calls Tryz.prog 80 #[.int .i64 a, .int .i64 b] w fun e w' => e = .returned (.int .i64 (markN k i)) ∧ Below w.heap.size w w' :=
  (mark_at a b k i ha hb hk hi w).mono fun _ _ ⟨h1, h2⟩ => ⟨h1, h2 ▸ Below.refl _ _⟩
theorem markI_is (a b : Int) (k i : Nat) (m : Int) (hm : markN k i = m) (ha : a = k) (hb : b = i) (hk : k ≤ 1000000) (hi : i ≤ 2000000000000) (w : World) :
    Calls Tryz.prog 80 #[.int .i64 a, .int .i64 b] w fun e w' => e = .returned (.int .i64 m) ∧ Below w.heap.size w w' := hm ▸ markI_at a b k i ha hb hk hi w
end Go.Proofs.YtejgebpdipnhmaaGreatDoor
/- LentValues, KeptValues, OverValues: a row is copied with marks behind its end; as long as nobody writes there it is found as it was; it is written over. Conditions: the row is not too long. -/
namespace Go.Proofs.YtejgebpdipnhmaaGreatDoor
open Go.RowKit
set_option maxRecDepth 20000
end Go.Proofs.YtejgebpdipnhmaaGreatDoor
/- LentInts, KeptInts, OverInts: a row is copied with marks behind its end; as long as nobody writes there it is found as it was; it is written over. Conditions: the row is not too long. -/
namespace Go.Proofs.YtejgebpdipnhmaaGreatDoor
open Go.RowKit
set_option maxRecDepth 20000
/-- Block g holds the row xs and twelve marks behind it. -/
def LentI (w : World) (B g : Nat) (xs : List Int) : Prop :=
  w.ownsRow B 3 1 (.slice (some ⟨g, 0, none⟩) (xs.length + 12) (xs.length + 12)) (xs.length + 12) (xs.flatMap iCells ++ mks mkI 1 12)
def LentIPost (xs : List Int) (n : Nat) (w : World) (e : Ending) (w' : World) : Prop :=
  ∃ g, e = .returned (.slice (some ⟨g, 0, none⟩) n (n + 12)) ∧ w.heap.size ≤ g ∧ g < w'.heap.size ∧ LentI w' w.heap.size g xs ∧ Below w.heap.size w w'
theorem LentI.lt {w : World} {B g : Nat} {xs : List Int} (h : LentI w B g xs) : B ≤ g ∧ g < w.heap.size := World.ownsRow.lt h g rfl
theorem LentI.below {w w' : World} {B g B' : Nat} {xs : List Int} (h : LentI w B g xs) (hb : Below B' w w') (hB : w.heap.size ≤ B') : LentI w' B g xs := own_below h hb hB
theorem LentI.le {w : World} {B B' g : Nat} {xs : List Int} (h : LentI w B g xs) (hB : B' ≤ B) : LentI w B' g xs := Go.Joins.ownsRow_le h hB
theorem LentI.rows {w : World} {B g : Nat} {xs : List Int} (h : LentI w B g xs) : RowsIn 1 iCells noSub w (g + 1) (some ⟨g, 0, none⟩) xs := by
  refine Or.inr ⟨g, 0, rfl, by omega, fun i x hx => ⟨fun j hj => ?_, trivial⟩⟩
  have hi := (List.getElem?_eq_some_iff.1 hx).1
  have hl := flat_len iCells_len xs
  rw [Nat.zero_add, World.ownsRow.cellAt h _ (by omega), List.getElem?_append_left (by omega)]
  exact flat_get iCells_len xs i x hx j hj
theorem LentI.mark {w : World} {B g : Nat} {xs : List Int} (h : LentI w B g xs) {i : Nat} (hi : i < 12) (j : Nat) (hj : j < 1) : w.cell? ⟨g, (xs.length + i) * 1 + j, none⟩ = (mkI 1 i)[j]? := by
  have hl := flat_len iCells_len xs
  rw [World.ownsRow.cellAt h _ (by omega), List.getElem?_append_right (by omega), hl, show (xs.length + i) * 1 + j - xs.length * 1 = i * 1 + j by omega]
  exact mks_get mkI_len 1 12 i j hi hj
set_option maxHeartbeats 1000000 in
theorem lentI_any (ao : Option Addr) (n cap : Nat) (xs : List Int) (w : World) (hn : xs.length = n) (hx : RowsIn 1 iCells noSub w w.heap.size ao xs) (hao : ao = none → cap = 0) (hl : n ≤ 1099511627776) :
    Calls Tryz.prog 41 #[.slice ao n cap] w (LentIPost xs n w) := by
  subst hn
  obtain ⟨i0, hi, hz0, hz1, hz2⟩ := info_parts infoI
  have hm1 : (0 : Int) ≤ (xs.length : Int) + 12 := by omega
  have HX := Lib.hid hx
  clear hx
  go_enter Tryz.func41, Tryz.ntmps41
  go_wp2_with (at_make; refine wpList_make_own _ rfl _ _ 22 rfl w.heap.size 3 i0 (.int .i64 0) 1 Tryz.underlying22 hi hz0 hz1 .i64 .i64 _ (xs.length + 12) rfl rfl (by omega) (by rw [hz2]; omega) (by unfold maxLen; omega) (Nat.le_refl _) ?_)
  intro w1 hown1 hg1
  have hb1 : Below w.heap.size w w1 := (Below.refl _ _).grown hg1 (Nat.le_refl _) (fun k hk => by cases hk)
  have hnone : ao = none → xs.length = 0 ∧ cap = 0 := fun h => ⟨by rcases HX.out with h0 | ⟨b, off, h1, _⟩; (rw [h0]; rfl); (rw [h] at h1; cases h1), hao h⟩
  have hcell : ∀ ad, ao = some ad → ∀ (j : Nat) u, (xs.flatMap iCells)[j]? = some u → w1.cell? (ad.add j) = some u := fun ad had j u hu => cells_of_rows iCells_len (by decide) HX.out hb1 had hu
  have hone : ∀ u ∈ xs.flatMap iCells, u.oneCell' = true := fun u hu => by obtain ⟨y, _, hy⟩ := List.mem_flatMap.1 hu; exact iCells_one y u hy
  go_wp2_with (at_builtin; refine wpList_append_fits_any _ rfl (.tmp 9) (.tmp 10) 22 rfl w.heap.size 3 i0 1 Tryz.underlying22 hi hz1 w.heap.size 0 (xs.length + 12) [] rfl hown1 ao xs.length cap (xs.flatMap iCells) rfl (flat_len iCells_len xs) hnone hcell hone (by omega) ?_)
  intro w2 hown2 hg2
  have hb2 : Below w.heap.size w w2 := hb1.grown hg2 (hb1.size) (fun k hk => by cases hk; exact Nat.le_refl _)
  have HO2 := Lib.hid (show w2.ownsRow w.heap.size 3 1 (.slice (some ⟨w.heap.size, 0, none⟩) (xs.length + 0) (xs.length + 12)) (xs.length + 0) (xs.flatMap iCells ++ mks mkI 1 0) by simpa [mks] using hown2)
  clear hnone hcell hone hown1 hown2 hg1 hg2 hb1
  go_wp2_with fail
  go_loopw [3, 4] (fun v i wr => ∃ k : Nat, k ≤ 12 ∧ i = .int .i64 k ∧ v = .slice (some ⟨w.heap.size, 0, none⟩) (xs.length + k) (xs.length + 12) ∧ wr.ownsRow w.heap.size 3 1 (.slice (some ⟨w.heap.size, 0, none⟩) (xs.length + k) (xs.length + 12)) (xs.length + k) (xs.flatMap iCells ++ mks mkI 1 k) ∧ Below w.heap.size w wr) (fun _ i _ => 12 - (intOf i).toNat)
  case atStart => exact ⟨0, by omega, rfl, rfl, HO2.out, hb2⟩
  case round =>
    clear hb2 HO2
    obtain ⟨k, hk, rfl, rfl, hown, hbel⟩ := hrel
    have HO := Lib.hid hown
    clear hown
    by_cases hlt : k < 12
    · obtain ⟨mm, hmm⟩ : ∃ mm, markN 1 k = mm := ⟨_, rfl⟩
      have hmk : mkI 1 k = [.int .i64 mm] := by rw [← hmm]; rfl
      have HMM := Lib.hid hmm
      have HMK := Lib.hid hmk
      clear hmm hmk
      go_wp2_with fail
      refine (markI_is 1 _ 1 k mm HMM.out (by omega) rfl (by omega) (by omega) _).mono ?_
      rintro e w3 ⟨rfl, hb3⟩
      have ho3 := own_below HO.out hb3 (Nat.le_refl _)
      have hb4 := hbel.trans (hb3.mono hbel.size)
      have hs4 := hb4.size
      have HO3 := Lib.hid ho3
      clear ho3 hb3 hbel
      go_wp2_with (at_builtin; refine wpList_append_fits _ rfl (.tmp 16) (.tmp 19) 22 rfl w.heap.size 3 i0 1 Tryz.underlying22 hi hz1 w.heap.size (xs.length + k) (xs.length + 12) (xs.flatMap iCells ++ mks mkI 1 k) rfl (World.ownsRow.alloc HO3.out _) ⟨w3.heap.size, 0, none⟩ 1 1 [.int .i64 mm] rfl rfl (cells_new w3 3 [.int .i64 mm]) (by simp [Value.oneCell']) (by omega) ?_)
      intro w5 hown5 hg5
      have hb5 : Below w.heap.size w w5 := (hb4.alloc hs4 _).grown hg5 (by simp; omega) (fun k hk => by cases hk; exact Nat.le_refl _)
      have ho5 : w5.ownsRow w.heap.size 3 1 (.slice (some ⟨w.heap.size, 0, none⟩) (xs.length + (k + 1)) (xs.length + 12)) (xs.length + (k + 1)) (xs.flatMap iCells ++ mks mkI 1 (k + 1)) := by
        rw [mks_succ, HMK.out, ← Nat.add_assoc]; simpa using hown5
      have HO5 := Lib.hid ho5
      clear hown5 hg5 ho5
      go_wp2_with fail
      go_roundw
      case rel => exact ⟨k + 1, by omega, by go_num, by rw [Nat.add_assoc], HO5.out, hb5⟩
      case measure => simp [intOf]; omega
    · obtain rfl : k = 12 := by omega
      go_wp2_with fail
      go_ret
      exact ⟨w.heap.size, rfl, Nat.le_refl _, (World.ownsRow.lt HO.out _ rfl).2, HO.out, hbel⟩
set_option maxHeartbeats 1000000 in
theorem keptI_any (ao : Option Addr) (n cap g B : Nat) (xs : List Int) (w : World) (hn : xs.length = n) (hx : RowsIn 1 iCells noSub w w.heap.size ao xs) (hL : LentI w B g xs) (hl : n ≤ 1099511627776) :
    Calls Tryz.prog 42 #[.slice (some ⟨g, 0, none⟩) n (n + 12 : Nat), .slice ao n cap] w fun e w' => e = .returned (.bool true) ∧ Below w.heap.size w w' := by
  subst hn
  have HX := Lib.hid hx
  have HL := Lib.hid hL
  have hgl := hL.lt.2
  clear hx hL
  go_enter Tryz.func42, Tryz.ntmps42
  go_wp2_with fail
  go_loopw [6] (fun i wr => ∃ k : Nat, k ≤ xs.length + 12 ∧ i = .int .i64 k ∧ Below w.heap.size w wr) (fun i _ => xs.length + 12 - (intOf i).toNat)
  case atStart => exact ⟨0, by omega, rfl, Below.refl _ _⟩
  case round =>
    obtain ⟨k, hk, rfl, hbel⟩ := hrel
    by_cases hlt : k < xs.length
    · have hkx : xs[k]? = some xs[k] := List.getElem?_eq_getElem hlt
      obtain ⟨b, off, hao, hb, hc, _⟩ := HX.out.at hkx
      obtain ⟨b2, off2, hao2, _, hc2, _⟩ := HL.out.rows.at hkx
      cases hao2
      generalize xs[k] = x at hc hc2
      simp only [Nat.zero_add] at hc2
      subst hao
      have c0 : ∀ y : Calm w.heap.size w, y.1.cell? ⟨b, off + k, none⟩ = some (.int .i64 x) := fun y => y.cell (by simpa [iCells] using hc 0 (by decide)) hb
      have e0 : ∀ y : Calm w.heap.size w, y.1.cell? ⟨g, k, none⟩ = some (.int .i64 x) := fun y => y.cell (by simpa [iCells] using hc2 0 (by decide)) hgl
      have i1 : (k : Int) < xs.length := by omega
      have d1 : decide (xs.length ≤ k) = false := by simp; omega
      clear hc hc2 hkx
      go_wp2_with fail
      refine wp_region_calm (B := w.heap.size) (W0 := w) hbel (by kernel_rfl) (by kernel_rfl) ?_
      repeat (go_big_quiet_step (fail))
      refine wpQuiet_nil ?_
      intro w5 hb5
      clear c0 e0
      go_wp2_with fail
      go_roundw
      case rel => exact ⟨k + 1, by omega, by go_num, hb5⟩
      case measure => simp [intOf]; omega
    · by_cases hlt2 : k < xs.length + 12
      · obtain ⟨m, rfl⟩ : ∃ m, k = xs.length + m := ⟨k - xs.length, by omega⟩
        obtain ⟨mm, hmm⟩ : ∃ mm, markN 1 m = mm := ⟨_, rfl⟩
        have hmk : mkI 1 m = [.int .i64 mm] := by rw [← hmm]; rfl
        have HMM := Lib.hid hmm
        have HMK := Lib.hid hmk
        clear hmm hmk
        have e0 : ∀ y : Calm w.heap.size w, y.1.cell? ⟨g, xs.length + m, none⟩ = some (.int .i64 mm) := fun y => y.cell (by have := HL.out.mark (i := m) (by omega) 0 (by decide); rw [HMK.out] at this; simpa using this) hgl
        have i1 : ¬ (xs.length : Int) + m < xs.length := by omega
        have i2 : (xs.length : Int) + m < xs.length + 12 := by omega
        have d1 : decide ((xs.length : Int) + m < xs.length) = false := by simp; omega
        have n1 : ((xs.length : Int) + m).toNat = xs.length + m := by omega
        have n2 : IntKind.i64.wrap (m : Int) = m := IntWalk.i64_in _ (by omega)
        have n3 : (0 : Int) ≤ (xs.length : Int) + m := by omega
        go_wp2_with fail
        refine wp_region_calm (B := w.heap.size) (W0 := w) hbel (by kernel_rfl) (by kernel_rfl) ?_
        repeat (go_big_quiet_step ((go_at_call 80; exact Calm.call (Nat.le_refl _) (markI_is 1 _ 1 m mm HMM.out (by omega) (by omega) (by omega) (by omega) _))))
        refine wpQuiet_nil ?_
        intro w5 hb5
        clear e0
        go_wp2_with fail
        go_roundw
        case rel => exact ⟨xs.length + m + 1, by omega, by go_num, hb5⟩
        case measure => simp [intOf]; omega
      · go_wp2_with fail
        go_ret
        exact ⟨rfl, hbel⟩
end Go.Proofs.YtejgebpdipnhmaaGreatDoor
/- A few blocks laid one behind the other. Any program. Conditions: none. -/
namespace Go.Proofs.YtejgebpdipnhmaaGreatDoor
open Go.RowKit
theorem keep_alloc {w : World} {g : Nat} {x : Obj} (h : w.heap[g]? = some x) (o : Obj) : (w.alloc o).heap[g]? = some x :=
  ((World.grownBy_alloc w o none).block g (Array.getElem?_eq_some_iff.1 h).1 (by simp)).trans h
theorem alloc2_facts (w : World) (A B : Array Value) (T1 T2 : TypeId) : Below w.heap.size w ((w.alloc (.cells A T1)).alloc (.cells B T2)) ∧ ((w.alloc (.cells A T1)).alloc (.cells B T2)).heap[w.heap.size]? = some (.cells A T1 (0, 0)) ∧ ((w.alloc (.cells A T1)).alloc (.cells B T2)).heap[w.heap.size + 1]? = some (.cells B T2 (0, 0)) ∧ ((w.alloc (.cells A T1)).alloc (.cells B T2)).heap.size = w.heap.size + 2 := by
  refine ⟨((Below.refl _ _).alloc (Nat.le_refl _) _).alloc (by simp) _, keep_alloc (heap_alloc_new w _) _, ?_, by simp⟩
  have := heap_alloc_new (w.alloc (.cells A T1)) (.cells B T2)
  simpa using this
theorem alloc3_facts (w : World) (A B C : Array Value) (T1 T2 T3 : TypeId) : Below w.heap.size w (((w.alloc (.cells A T1)).alloc (.cells B T2)).alloc (.cells C T3)) ∧ (((w.alloc (.cells A T1)).alloc (.cells B T2)).alloc (.cells C T3)).heap[w.heap.size]? = some (.cells A T1 (0, 0)) ∧ (((w.alloc (.cells A T1)).alloc (.cells B T2)).alloc (.cells C T3)).heap[w.heap.size + 1]? = some (.cells B T2 (0, 0)) ∧ (((w.alloc (.cells A T1)).alloc (.cells B T2)).alloc (.cells C T3)).heap[w.heap.size + 2]? = some (.cells C T3 (0, 0)) ∧ (((w.alloc (.cells A T1)).alloc (.cells B T2)).alloc (.cells C T3)).heap.size = w.heap.size + 3 := by
  obtain ⟨h1, h2, h3, h4⟩ := alloc2_facts w A B T1 T2
  refine ⟨h1.alloc h1.size _, keep_alloc h2 _, keep_alloc h3 _, ?_, by simp⟩
  have := heap_alloc_new ((w.alloc (.cells A T1)).alloc (.cells B T2)) (.cells C T3)
  rw [h4] at this
  exact this
end Go.Proofs.YtejgebpdipnhmaaGreatDoor
/- LentFact, LentCommand, KeptFact, KeptCommand: a thing whose values are copied with marks behind their end; as long as nobody writes there it is found as it was. Conditions: the values lie as their reading says. -/
namespace Go.Proofs.YtejgebpdipnhmaaGreatDoor
open Go.RowKit
set_option maxRecDepth 20000
end Go.Proofs.YtejgebpdipnhmaaGreatDoor
/- The reader of wire: Fact. Conditions: the reader is one that was made. -/
namespace Go.Proofs.YtejgebpdipnhmaaGreatDoor
open Go.RowKit
set_option maxRecDepth 20000
end Go.Proofs.YtejgebpdipnhmaaGreatDoor
/- Rows of facts that the reader of wire reads. Conditions: the reader is one that was made. -/
namespace Go.Proofs.YtejgebpdipnhmaaGreatDoor
open Go.RowKit
set_option maxRecDepth 20000
end Go.Proofs.YtejgebpdipnhmaaGreatDoor
/- The marks of ropewalkkit/lent.go: facts, replies. Conditions: the places are not too great. -/
namespace Go.Proofs.YtejgebpdipnhmaaGreatDoor
open Go.RowKit
set_option maxRecDepth 20000
end Go.Proofs.YtejgebpdipnhmaaGreatDoor
/- LentFacts: a row of facts is copied, each fact's values too, with marks behind all ends; KeptFact. Conditions: the facts lie as their reading says. -/
namespace Go.Proofs.YtejgebpdipnhmaaGreatDoor
open Go.RowKit
set_option maxRecDepth 20000
end Go.Proofs.YtejgebpdipnhmaaGreatDoor
/- A thing of each form among the arguments, with the bounds of what hangs on it. Conditions: it is read as the row reads it, its weights are bounded. -/
namespace Go.Proofs.YtejgebpdipnhmaaGreatDoor
open Go.RowKit Go.ChangeShapes
set_option maxRecDepth 20000
end Go.Proofs.YtejgebpdipnhmaaGreatDoor
/- How much a thing is: plain definitions and laws. No program. Conditions: as each says. -/
namespace Go.Proofs.YtejgebpdipnhmaaGreatDoor
open Go.RowKit
set_option maxRecDepth 20000
end Go.Proofs.YtejgebpdipnhmaaGreatDoor
/- How much values are, and whether they are wholly said: the law's own helpers, walked. Conditions: memory bounds lengths. -/
namespace Go.Proofs.YtejgebpdipnhmaaGreatDoor
open Go.RowKit
set_option maxRecDepth 20000
end Go.Proofs.YtejgebpdipnhmaaGreatDoor
/- How much a thing is: the law's helper great, walked. Conditions: the thing lies in memory as it is read. -/
namespace Go.Proofs.YtejgebpdipnhmaaGreatDoor
open Go.RowKit
set_option maxRecDepth 20000
end Go.Proofs.YtejgebpdipnhmaaGreatDoor
/- A thing's cells, one by one, in every world in which its block stays. Conditions: the block lies as it is read. -/
namespace Go.Proofs.YtejgebpdipnhmaaGreatDoor
open Go.RowKit
set_option maxRecDepth 20000
end Go.Proofs.YtejgebpdipnhmaaGreatDoor
/- KeptFact, KeptCommand, KeptFacts, LentReply, KeptReply, LentEntry, KeptEntry: things that are lent are found as they were, as long as nobody writes behind their ends. Conditions: they lie as their reading says. -/
namespace Go.Proofs.YtejgebpdipnhmaaGreatDoor
open Go.RowKit
set_option maxRecDepth 20000
end Go.Proofs.YtejgebpdipnhmaaGreatDoor
/- LentReply, KeptReply, LentEntry, KeptEntry: things that are lent are found as they were, as long as nobody writes behind their ends. Conditions: they lie as their reading says. -/
namespace Go.Proofs.YtejgebpdipnhmaaGreatDoor
open Go.RowKit
set_option maxRecDepth 20000
end Go.Proofs.YtejgebpdipnhmaaGreatDoor
/- LentEntries: a row of entries is copied, each entry's values and voters too, with marks behind all ends. Conditions: the entries lie as their reading says. -/
namespace Go.Proofs.YtejgebpdipnhmaaGreatDoor
open Go.RowKit
set_option maxRecDepth 20000
end Go.Proofs.YtejgebpdipnhmaaGreatDoor
/- OverBytes: a lent row of bytes is written over, the marks behind it, too; nothing else is changed. Conditions: the row is a lent one. -/
namespace Go.Proofs.YtejgebpdipnhmaaGreatDoor
open Go.RowKit
set_option maxRecDepth 20000
end Go.Proofs.YtejgebpdipnhmaaGreatDoor
/- OverInts, OverValues, OverBytes, OverEntries, OverLetter: what was lent is written over; all keeps its shape, and nothing else is changed. Conditions: the rows have twelve places behind their ends. -/
namespace Go.Proofs.YtejgebpdipnhmaaGreatDoor
open Go.RowKit
set_option maxRecDepth 20000
theorem size_oI : ∀ w, (sizeOf (Tryz.prog.elem 22)).run Tryz.prog w = .ok 1 w := fun _ => by kernel_rfl
theorem slice_oI : Tryz.prog.underlying 22 = some (.slice (Tryz.prog.elem 22)) := by kernel_rfl
set_option maxHeartbeats 2000000 in
theorem overI_room (B T : Nat) (a : Option Addr) (n c : Nat) (w : World) (h : Room w B T 3 1 a n c) (hn : n ≤ 1099511627776) :
    Calls Tryz.prog 43 #[.slice a n c] w fun e w' => e = .returned (.tuple #[]) ∧ OverK B T [3] w w' := by
  obtain ⟨g, rfl, hgB, hgT, rfl, hbk⟩ := h
  have hsl : ∀ w', (Instr.sliceAt 22 (.slice (some ⟨g, 0, none⟩) n (n + 12)) none (some (.int .i64 ((n : Int) + 12))) none).run Tryz.prog w' = .ok (.slice (some ⟨g, 0, none⟩) (n + 12) (n + 12)) w' := fun w' => by
    have h1 := run_sub_h slice_oI size_oI (some ⟨g, 0, none⟩) n (n + 12) (n + 12) (Nat.le_refl _) .i64 ((n : Int) + 12) (by omega) w'
    rwa [subA_zero _ _ _ (by intro a ha; cases ha; rfl)] at h1
  have HK := Lib.hid hbk
  clear hbk
  go_enter Tryz.func43, Tryz.ntmps43
  go_wp2_with fail
  clear hsl
  go_loopw [3] (fun i wr => ∃ q : Nat, q ≤ n + 12 ∧ i = .int .i64 q ∧ Blk wr g 3 ((n + 12) * 1) ∧ OverK B T [3] w wr) (fun i _ => n + 12 - (intOf i).toNat)
  case atStart => exact ⟨0, by omega, rfl, HK.out, OverK.refl _ _ _ _⟩
  case round =>
    obtain ⟨q, hq, rfl, hbk, hov⟩ := hrel
    have HOV := Lib.hid hov
    have HBK := Lib.hid hbk
    clear hov hbk
    by_cases hlt : q < n + 12
    · have i1 : (q : Int) < (n : Int) + 12 := by omega
      have i2 : (q : Int) < ((n + 12 : Nat) : Int) := by omega
      go_wp2_with fail
      refine (markI_at 2 _ 2 q (by omega) rfl (by omega) (by omega) wr).mono ?_
      rintro e w3 ⟨rfl, hb3⟩
      have hov := HOV.out.then_below hb3 (Nat.le_trans (by have := HK.out.lt; omega) HOV.out.size)
      have hbk3 := HBK.out.below hb3 (Nat.le_refl _)
      obtain ⟨o0, d0⟩ := hbk3.cell (i := q) (by omega)
      have f0 : w3.frozen? ⟨g, q, none⟩ = false := hbk3.free _
      have s0 := hov.set hbk3 (by simp) hgB hgT (q) (.int .i64 (markN 2 q))
      have b0 := hbk3.set g (q) (.int .i64 (markN 2 q))
      have SX := Lib.hid s0
      have BX := Lib.hid b0
      clear s0 b0 hov hbk3
      go_wp2_with fail
      go_roundw
      case rel => exact ⟨q + 1, by omega, by go_num, BX.out, SX.out⟩
      case measure => simp [intOf]; omega
    · obtain rfl : q = n + 12 := by omega
      go_wp2_with fail
      go_end0
      exact ⟨rfl, HOV.out⟩
theorem size_oB : ∀ w, (sizeOf (Tryz.prog.elem 24)).run Tryz.prog w = .ok 1 w := fun _ => by kernel_rfl
theorem slice_oB : Tryz.prog.underlying 24 = some (.slice (Tryz.prog.elem 24)) := by kernel_rfl
set_option maxHeartbeats 2000000 in
theorem overB_room (B T : Nat) (a : Option Addr) (n c : Nat) (w : World) (h : Room w B T 5 1 a n c) (hn : n ≤ 1099511627776) :
    Calls Tryz.prog 23 #[.slice a n c] w fun e w' => e = .returned (.tuple #[]) ∧ OverK B T [5] w w' := by
  obtain ⟨g, rfl, hgB, hgT, rfl, hbk⟩ := h
  have hsl : ∀ w', (Instr.sliceAt 24 (.slice (some ⟨g, 0, none⟩) n (n + 12)) none (some (.int .i64 ((n : Int) + 12))) none).run Tryz.prog w' = .ok (.slice (some ⟨g, 0, none⟩) (n + 12) (n + 12)) w' := fun w' => by
    have h1 := run_sub_h slice_oB size_oB (some ⟨g, 0, none⟩) n (n + 12) (n + 12) (Nat.le_refl _) .i64 ((n : Int) + 12) (by omega) w'
    rwa [subA_zero _ _ _ (by intro a ha; cases ha; rfl)] at h1
  have HK := Lib.hid hbk
  clear hbk
  go_enter Tryz.func23, Tryz.ntmps23
  go_wp2_with fail
  clear hsl
  go_loopw [3] (fun i wr => ∃ q : Nat, q ≤ n + 12 ∧ i = .int .i64 q ∧ Blk wr g 5 ((n + 12) * 1) ∧ OverK B T [5] w wr) (fun i _ => n + 12 - (intOf i).toNat)
  case atStart => exact ⟨0, by omega, rfl, HK.out, OverK.refl _ _ _ _⟩
  case round =>
    obtain ⟨q, hq, rfl, hbk, hov⟩ := hrel
    have HOV := Lib.hid hov
    have HBK := Lib.hid hbk
    clear hov hbk
    by_cases hlt : q < n + 12
    · have i1 : (q : Int) < (n : Int) + 12 := by omega
      have i2 : (q : Int) < ((n + 12 : Nat) : Int) := by omega
      go_wp2_with fail
      refine (markBK_at _ _ 2 q (by omega) rfl (by omega) (by omega) wr).mono ?_
      rintro e w3 ⟨rfl, rfl⟩
      have hov := HOV.out
      have hbk3 := HBK.out
      obtain ⟨o0, d0⟩ := hbk3.cell (i := q) (by omega)
      have f0 : wr.frozen? ⟨g, q, none⟩ = false := hbk3.free _
      have s0 := hov.set hbk3 (by simp) hgB hgT (q) (.int .u8 (markBK 2 q))
      have b0 := hbk3.set g (q) (.int .u8 (markBK 2 q))
      have SX := Lib.hid s0
      have BX := Lib.hid b0
      clear s0 b0 hov hbk3
      go_wp2_with fail
      go_roundw
      case rel => exact ⟨q + 1, by omega, by go_num, BX.out, SX.out⟩
      case measure => simp [intOf]; omega
    · obtain rfl : q = n + 12 := by omega
      go_wp2_with fail
      go_end0
      exact ⟨rfl, HOV.out⟩
end Go.Proofs.YtejgebpdipnhmaaGreatDoor
