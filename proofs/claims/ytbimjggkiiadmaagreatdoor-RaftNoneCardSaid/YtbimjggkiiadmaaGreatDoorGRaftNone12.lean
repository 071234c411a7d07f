/- The example of the laws of layer 26. -/
import Derived.Test.YtbimjggkiiadmaaGreatDoorGRaftNone11
set_option linter.unusedVariables false
set_option linter.unusedSimpArgs false
namespace Go.Proofs.YtbimjggkiiadmaaGreatDoor
open Go.RowKit
set_option maxRecDepth 20000
theorem out_one (t : PP) (h : t.letters.oneCell' = true ∧ t.snap.oneCell' = true) : t.out.toList.toArray.all (·.oneCell') = true := by simp [PP.out, Value.oneCell']; exact h
/-- Of a peer that waits. -/
def WaitsAt (B pb lb : Nat) (vs : List Int) (k : Nat) (wr : World) : Prop := ∃ first log lim, (lim = 0 ∨ lim = 10) ∧ (0 < k → lim = 10) ∧ PeerIs wr B pb lb (.fresh 1 first log k lim) vs []
theorem WaitsAt.below {B pb lb k : Nat} {vs : List Int} {wr w' : World} (h : WaitsAt B pb lb vs k wr) (hb : Below wr.heap.size wr w') : WaitsAt B pb lb vs k w' := by
  obtain ⟨f, l, lim, h1, h2, h3⟩ := h
  exact ⟨f, l, lim, h1, h2, h3.below hb (Nat.le_refl _)⟩
/-- The peer of three voters and what it has told, by ticks. -/
def QS (B qb lc o9 k : Nat) (wr : World) : Prop := (k ≤ 9 ∧ WaitsAt B qb lc [1, 2, 3] k wr ∧ ∃ cs, wr.heap[o9]? = some (.cells cs 45 (0, 0)) ∧ cs.size = 8) ∨ (k = 10 ∧ ∃ t f l, StoodTo [2, 3] f l t wr ∧ wr.heap[o9]? = some (.cells t.out 45 (0, 0)))
def QTold (B qb lc k : Nat) (t : PP) (w' : World) : Prop := (k ≤ 9 ∧ WaitsAt B qb lc [1, 2, 3] k w') ∨ (k = 10 ∧ ∃ f l, StoodTo [2, 3] f l t w')
def QTick (B qb lc k : Nat) (w : World) (e : Ending) (w' : World) : Prop := ∃ t, e = .returned (.agg t.out) ∧ t.out.toList.toArray.all (·.oneCell') = true ∧ QTold B qb lc k t w' ∧ Below B w w' ∧ KB w w'
theorem qtick_any {B qb lc : Nat} (k : Nat) (wr : World) (hk : k < 10) (hW : WaitsAt B qb lc [1, 2, 3] k wr) : Calls Tryz.prog 8 #[.pointer (some ⟨qb, 0, none⟩), .int .i64 20] wr (QTick B qb lc (k + 1) wr) := by
  obtain ⟨f, l, lim, h1, h2, hp⟩ := hW
  by_cases h9 : k < 9
  · refine (ptick_wait 20 k lim hp (by omega) (Or.inr rfl) h1).mono ?_
    rintro e w' ⟨t, rfl, hp', rfl, hb, hk'⟩
    exact ⟨_, rfl, out_one _ ⟨rfl, rfl⟩, Or.inl ⟨by omega, f, l, 10, Or.inr rfl, fun _ => rfl, by simpa using hp'⟩, hb, hk'⟩
  · obtain rfl : k = 9 := by omega
    obtain rfl : lim = 10 := h2 (by decide)
    refine (ptick_many (xs := [2, 3]) 20 (show PeerIs wr B qb lc (.fresh 1 f l 9 10) [1, 2, 3] [] from hp) (by decide) rfl (by decide) (by decide) (by decide) (by decide)).mono ?_
    rintro e w' ⟨t, rfl, hp', hs, hb, hk'⟩
    refine ⟨t, rfl, out_one _ ?_, Or.inr ⟨rfl, f, l, hs⟩, hb, hk'⟩
    obtain ⟨vb, v, rfl, g, c, cs, fr, rfl, _⟩ := hs
    exact ⟨rfl, rfl⟩
theorem QS.stored {B qb lc o9 k : Nat} {t : PP} {w : World} {cs : Array Value} (hcs : w.heap[o9]? = some (.cells cs 45 (0, 0))) (h : QTold B qb lc k t w) : QS B qb lc o9 k (w.setRow o9 t.out.toList.toArray) := by
  have hgr := grown_rowR w o9 t.out.toList.toArray
  have hz := setRow_heap w o9 _ t.out.toList.toArray _ _ hcs
  rcases h with ⟨hk, f, l, lim, h1, h2, hp⟩ | ⟨hk, f, l, hs⟩
  · exact Or.inl ⟨hk, ⟨f, l, lim, h1, h2, hp.keptT hcs (by decide) (by decide) (by decide) (by decide) (by decide) hgr⟩, _, hz, rfl⟩
  · exact Or.inr ⟨hk, t, f, l, (firm_stood [2, 3] f l t).2 _ _ _ _ _ hs hcs hgr, hz⟩
set_option maxHeartbeats 4000000 in
theorem awake26_any (w : World) : Calls Tryz.prog 4 #[] w fun e w' => e = .returned (.bool true) ∧ Below w.heap.size w w' := by
  go_enter Tryz.func4, Tryz.ntmps4
  go_wp2_with fail
  refine (new_is 0 0 none 0 0 [] w w.heap.size (by omega) (by omega) rfl (Or.inl rfl) (Nat.le_refl _) (fun _ => rfl) (by omega) ⟨fun x hx => (by cases hx), fun x hx => (by cases hx)⟩).mono ?_
  rintro e w1 ⟨lb, rfl, hL1, hb1⟩
  have hb2 := hb1.alloc hb1.size (.cells #[.int .i64 1] 3)
  have hb12 := (Below.refl w1.heap.size w1).alloc (Nat.le_refl _) (.cells #[.int .i64 1] 3)
  have k2 := heap_alloc_new w1 (.cells #[.int .i64 1] 3)
  have HL2 := Lib.hid (hL1.below hb12 (Nat.le_refl _))
  have HB2 := Lib.hid hb2
  have K2 := Lib.hid k2
  clear hL1 hb1 hb2 hb12 k2
  go_wp2_with fail
  generalize w1.alloc (.cells #[.int .i64 1] 3) = w2 at HL2 HB2 K2 ⊢
  refine (pnew_any _ 1 1 [1] rfl K2.out rfl (by decide) (by decide) HL2.out HB2.out.size).mono ?_
  rintro e w3 ⟨pb, first, rfl, hp3, hb3⟩
  have hW3 : WaitsAt w.heap.size pb lb [1] 0 w3 := ⟨_, _, _, Or.inl rfl, fun h => absurd h (by decide), hp3⟩
  have HB3 := Lib.hid (HB2.out.trans hb3)
  have HW3 := Lib.hid hW3
  clear hp3 hb3 HL2 HB2 K2 hW3
  go_wp2_with fail
  go_loopw [3] (fun i wr => ∃ k : Nat, k ≤ 9 ∧ i = .int .i64 k ∧ WaitsAt w.heap.size pb lb [1] k wr ∧ Below w.heap.size w wr) (fun i _ => 9 - (intOf i).toNat)
  case atStart => exact ⟨0, by omega, rfl, HW3.out, HB3.out⟩
  case round =>
    obtain ⟨k, hk, rfl, hW, hbel⟩ := hrel
    clear HW3 HB3
    by_cases hlt : k < 9
    · have dk : decide ((k : Int) < 9) = true := by simp; omega
      have HB := Lib.hid hbel
      obtain ⟨f0, l0, lim, hl1, hl2, hp⟩ := hW
      have HP := Lib.hid hp
      clear hbel hp
      go_wp2_with fail
      refine (ptick_wait 0 k lim HP.out (by omega) (Or.inl rfl) hl1).mono ?_
      rintro e w4 ⟨t, rfl, hp4, rfl, hb4, _⟩
      have HW4 := Lib.hid (show WaitsAt w.heap.size pb lb [1] (k + 1) w4 from ⟨f0, l0, 10, Or.inr rfl, fun _ => rfl, by simpa using hp4⟩)
      have HB4 := Lib.hid (HB.out.trans hb4)
      clear hp4 hb4 HP HB
      go_wp2_with fail
      go_roundw
      case rel => exact ⟨k + 1, by omega, by go_num, HW4.out, HB4.out⟩
      case measure => simp [intOf]; omega
    · obtain rfl : k = 9 := by omega
      obtain ⟨f0, l0, lim, hl1, hl2, hp⟩ := hW
      obtain rfl : lim = 10 := hl2 (by decide)
      have HP := Lib.hid (show PeerIs wr w.heap.size pb lb (.fresh 1 f0 l0 9 10) [1] [] from hp)
      have HB := Lib.hid hbel
      clear hp hbel hl1 hl2
      go_wp2_with fail
      refine (pleads_any HP.out (by show (0 : Int) < 1; decide) false (by show decide ((1 : Int) = 3) = false; decide)).mono ?_
      rintro e w' ⟨rfl, rfl⟩
      go_wp2_with fail
      refine (ptick_lead 0 HP.out rfl).mono ?_
      rintro e w4 ⟨t, rfl, hp4, ⟨ht4, _⟩, hb4, _⟩
      have hone4 := out_one t (leads_told ht4).2.2
      have HP4 := Lib.hid hp4
      have HT4 := Lib.hid ht4
      have HB4 := Lib.hid (HB.out.trans hb4)
      have hb5 := (Below.refl w4.heap.size w4).alloc (Nat.le_refl _) (.cells #[.int .i64 0, .int .i64 0, .int .i64 0, .slice none 0 0, .int .i64 0, .pointer none, .int .i64 0, .bool false] 45)
      have k5 := heap_alloc_new w4 (.cells #[.int .i64 0, .int .i64 0, .int .i64 0, .slice none 0 0, .int .i64 0, .pointer none, .int .i64 0, .bool false] 45)
      clear hp4 ht4 hb4 HP HB
      go_upto_region 10 with (refine wpList_store_row rfl 45 (.tmp 4) (.tmp 28) rfl w4.heap.size t.out.toList.toArray rfl rfl 45 _ k5 info_out rfl hone4 ?_)
      have k6 := setRow_heap (w4.alloc (.cells #[.int .i64 0, .int .i64 0, .int .i64 0, .slice none 0 0, .int .i64 0, .pointer none, .int .i64 0, .bool false] 45)) w4.heap.size _ t.out.toList.toArray _ _ k5
      have hb6 := hb5.grown (grown_rowR (w4.alloc (.cells #[.int .i64 0, .int .i64 0, .int .i64 0, .slice none 0 0, .int .i64 0, .pointer none, .int .i64 0, .bool false] 45)) w4.heap.size t.out.toList.toArray) hb5.size (fun q hq => by cases hq; exact Nat.le_refl _)
      generalize (w4.alloc (.cells #[.int .i64 0, .int .i64 0, .int .i64 0, .slice none 0 0, .int .i64 0, .pointer none, .int .i64 0, .bool false] 45)).setRow w4.heap.size t.out.toList.toArray = w6 at k6 hb6 ⊢
      obtain ⟨o4, ho4⟩ : ∃ o4, w4.heap.size = o4 := ⟨_, rfl⟩
      rw [ho4] at k6 ⊢
      have HP6 := Lib.hid (HP4.out.below hb6 (Nat.le_refl _))
      have HB6 := Lib.hid (HB4.out.trans (hb6.mono HB4.out.size))
      have HK6 := Lib.hid k6
      clear k5 hb5 k6 hb6 ho4 HP4 HB4
      go_wp2_with fail
      refine (ppropose_any HP6.out HT4.out rfl).mono ?_
      rintro e w7 ⟨u, rfl, hp7, hu7, hb7, hk7⟩
      have honeu := out_one u (leads_told hu7).2.2
      have HP7 := Lib.hid hp7
      have HU7 := Lib.hid hu7
      have HB7 := Lib.hid (HB6.out.trans hb7)
      have HK7 := Lib.hid ((hk7 _ _ _ _ HK6.out (by decide) (by decide) (by decide) (by decide) (by decide)).trans HK6.out)
      have hb8 := (Below.refl w7.heap.size w7).alloc (Nat.le_refl _) (.cells #[.int .i64 0, .int .i64 0, .int .i64 0, .slice none 0 0, .int .i64 0, .pointer none, .int .i64 0, .bool false] 45)
      have k8 := heap_alloc_new w7 (.cells #[.int .i64 0, .int .i64 0, .int .i64 0, .slice none 0 0, .int .i64 0, .pointer none, .int .i64 0, .bool false] 45)
      clear hp7 hu7 hb7 hk7 HP6 HB6 HK6
      go_upto_region 11 with (refine wpList_store_row rfl 45 (.tmp 6) (.tmp 34) rfl w7.heap.size u.out.toList.toArray rfl rfl 45 _ k8 info_out rfl honeu ?_)
      have k9 := setRow_heap (w7.alloc (.cells #[.int .i64 0, .int .i64 0, .int .i64 0, .slice none 0 0, .int .i64 0, .pointer none, .int .i64 0, .bool false] 45)) w7.heap.size _ u.out.toList.toArray _ _ k8
      have hb9 := hb8.grown (grown_rowR (w7.alloc (.cells #[.int .i64 0, .int .i64 0, .int .i64 0, .slice none 0 0, .int .i64 0, .pointer none, .int .i64 0, .bool false] 45)) w7.heap.size u.out.toList.toArray) hb8.size (fun q hq => by cases hq; exact Nat.le_refl _)
      generalize (w7.alloc (.cells #[.int .i64 0, .int .i64 0, .int .i64 0, .slice none 0 0, .int .i64 0, .pointer none, .int .i64 0, .bool false] 45)).setRow w7.heap.size u.out.toList.toArray = w9 at k9 hb9 ⊢
      obtain ⟨o6, ho6⟩ : ∃ o6, w7.heap.size = o6 := ⟨_, rfl⟩
      rw [ho6] at k9 ⊢
      have HP9 := Lib.hid (HP7.out.below hb9 (Nat.le_refl _))
      have HB9 := Lib.hid (HB7.out.trans (hb9.mono HB7.out.size))
      have HO4 := Lib.hid ((hb9.block _ (Array.getElem?_eq_some_iff.1 HK7.out).1).trans HK7.out)
      have HO6 := Lib.hid k9
      clear k8 hb8 k9 hb9 ho6 HP7 HB7 HK7
      have hb10 := (Below.refl w9.heap.size w9).alloc (Nat.le_refl _) (.cells #[.int .i64 1, .int .i64 2, .int .i64 3] 3)
      have k10 := heap_alloc_new w9 (.cells #[.int .i64 1, .int .i64 2, .int .i64 3] 3)
      have s10 : (w9.alloc (.cells #[.int .i64 1, .int .i64 2, .int .i64 3] 3)).heap.size = w9.heap.size + 1 := by simp
      go_wp2_with fail
      generalize w9.alloc (.cells #[.int .i64 1, .int .i64 2, .int .i64 3] 3) = w10 at hb10 k10 s10 ⊢
      refine (new_is 0 0 none 0 0 [] w10 w10.heap.size (by omega) (by omega) rfl (Or.inl rfl) (Nat.le_refl _) (fun _ => rfl) (by omega) ⟨fun x hx => (by cases hx), fun x hx => (by cases hx)⟩).mono ?_
      rintro e w11 ⟨lc, rfl, hL11, hb11⟩
      have hbl : w9.heap.size ≤ w10.heap.size := by omega
      have HL11 := Lib.hid (LogIs.le hL11 hbl)
      have HB11 := Lib.hid (hb10.trans (hb11.mono hbl))
      have K11 := Lib.hid ((hb11.block _ (Array.getElem?_eq_some_iff.1 k10).1).trans k10)
      clear hb10 k10 s10 hL11 hb11 hbl
      go_wp2_with fail
      refine (pnew_any _ 3 3 [1, 2, 3] rfl K11.out rfl (by decide) (by decide) HL11.out HB11.out.size).mono ?_
      rintro e w12 ⟨qb, first2, rfl, hp12, hb12⟩
      have hW12 : WaitsAt w9.heap.size qb lc [1, 2, 3] 0 w12 := ⟨_, _, _, Or.inl rfl, fun h => absurd h (by decide), hp12⟩
      have HB12 := Lib.hid (HB11.out.trans hb12)
      have HW12 := Lib.hid hW12
      clear hp12 hb12 HL11 HB11 K11 hW12
      have hb13 := (Below.refl w12.heap.size w12).alloc (Nat.le_refl _) (.cells #[.int .i64 0, .int .i64 0, .int .i64 0, .slice none 0 0, .int .i64 0, .pointer none, .int .i64 0, .bool false] 45)
      have k13 := heap_alloc_new w12 (.cells #[.int .i64 0, .int .i64 0, .int .i64 0, .slice none 0 0, .int .i64 0, .pointer none, .int .i64 0, .bool false] 45)
      have HW13 := Lib.hid (HW12.out.below hb13)
      have HB13 := Lib.hid (HB12.out.trans (hb13.mono HB12.out.size))
      obtain ⟨o9, ho9⟩ : ∃ o9, w12.heap.size = o9 := ⟨_, rfl⟩
      have hl9 : w9.heap.size ≤ o9 := by rw [← ho9]; exact HB12.out.size
      rw [ho9] at k13
      have HK13 := Lib.hid k13
      have HO9 := Lib.hid ho9
      clear hb13 k13 HW12 HB12 ho9
      go_upto_region 13 with fail
      rw [HO9.out]
      generalize w12.alloc (.cells #[.int .i64 0, .int .i64 0, .int .i64 0, .slice none 0 0, .int .i64 0, .pointer none, .int .i64 0, .bool false] 45) = w13 at HW13 HB13 HK13 ⊢
      clear HO9
      go_wp2_with fail
      go_loopw [10] (fun i wr => ∃ k : Nat, k ≤ 10 ∧ i = .int .i64 k ∧ QS w9.heap.size qb lc o9 k wr ∧ Below w9.heap.size w9 wr) (fun i _ => 10 - (intOf i).toNat)
      case atStart => exact ⟨0, by omega, rfl, Or.inl ⟨by decide, HW13.out, _, HK13.out, rfl⟩, HB13.out⟩
      case round =>
        obtain ⟨k, hk, rfl, hQ, hbel⟩ := hrel
        clear HW13 HB13 HK13
        by_cases hlt : k < 10
        · have dk : decide ((k : Int) < 10) = true := by simp; omega
          rcases hQ with ⟨hk9, hW, cs, hcs, hcz⟩ | ⟨hk10, _⟩
          · have HC : Hid (Calls Tryz.prog 8 #[.pointer (some ⟨qb, 0, none⟩), .int .i64 20] wr (QTick w9.heap.size qb lc (k + 1) wr)) := Lib.hid (qtick_any k wr (by omega) hW)
            have HB := Lib.hid hbel
            have HCS := Lib.hid hcs
            have HCZ := Lib.hid hcz
            clear hbel hW hcs hcz
            go_wp2_with fail
            refine HC.out.mono ?_
            rintro e w14 ⟨t, rfl, hone, hq14, hb14, hk14⟩
            have hcs14 := (hk14 _ _ _ _ HCS.out (by decide) (by decide) (by decide) (by decide) (by decide)).trans HCS.out
            have HQ14 := Lib.hid hq14
            have HB14 := Lib.hid (HB.out.trans hb14)
            clear hq14 hb14 hk14 HC HB HCS
            go_upto_region 15 with (refine wpList_store_row rfl 45 (.tmp 9) (.tmp 44) rfl o9 t.out.toList.toArray rfl rfl 45 _ hcs14 info_out HCZ.out hone ?_)
            have hgr := grown_rowR w14 o9 t.out.toList.toArray
            have HQ15 := Lib.hid (QS.stored hcs14 HQ14.out)
            have HB15 := Lib.hid (HB14.out.grown hgr HB14.out.size (fun q hq => by cases hq; exact hl9))
            clear hgr hcs14 HQ14 HB14
            generalize w14.setRow o9 t.out.toList.toArray = w15 at HQ15 HB15 ⊢
            go_wp2_with fail
            go_roundw
            case rel => exact ⟨k + 1, by omega, by go_num, HQ15.out, HB15.out⟩
            case measure => simp [intOf]; omega
          · omega
        · obtain rfl : k = 10 := by omega
          rcases hQ with ⟨h9, _⟩ | ⟨_, t9, f9, l9, hs9, ho9⟩
          · omega
          obtain ⟨vb, v9, rfl, g9, c9, cs9, fr9, rfl, hg9, hc9⟩ := hs9
          obtain ⟨nx4, hh4⟩ := HT4.out
          obtain ⟨nx6, hh6⟩ := HU7.out
          have ho4 := (hbel.block _ (Array.getElem?_eq_some_iff.1 HO4.out).1).trans HO4.out
          have ho6 := (hbel.block _ (Array.getElem?_eq_some_iff.1 HO6.out).1).trans HO6.out
          rw [hh4] at ho4
          rw [hh6] at ho6
          have HPr := Lib.hid (HP9.out.below hbel (Nat.le_refl _))
          have x0 : wr.cell? ⟨o4, 0, none⟩ = some (.int .i64 1) := Go.Joins.cell_of_block ho4 0
          have x1 : wr.cell? ⟨o4, 2, none⟩ = some (.int .i64 1) := Go.Joins.cell_of_block ho4 2
          have x2 : wr.cell? ⟨o4, 4, none⟩ = some (.int .i64 1) := Go.Joins.cell_of_block ho4 4
          have x3 : wr.cell? ⟨o6, 4, none⟩ = some (.int .i64 2) := Go.Joins.cell_of_block ho6 4
          have x4 : wr.cell? ⟨o9, 1, none⟩ = some (.int .i64 1) := Go.Joins.cell_of_block ho9 1
          have x5 : wr.cell? ⟨o9, 3, none⟩ = some (.slice (some ⟨g9, 0, none⟩) 2 c9) := Go.Joins.cell_of_block ho9 3
          have x6 : wr.cell? ⟨g9, 14, none⟩ = some (.int .i64 3) := (Go.Joins.cell_of_block hg9 14).trans (hc9 1 (by decide))
          have HBE := Lib.hid (HB9.out.trans (hbel.mono HB9.out.size))
          have hid : (0 : Int) < u.id := by rw [hh6]; show (0 : Int) < 1; decide
          have hrole : decide (u.role = 3) = true := by rw [hh6]; show decide ((3 : Int) = 3) = true; decide
          clear ho4 ho6 ho9 hg9 hc9 hbel hh4 hh6 HT4 HU7 HP9 HB9 HO4 HO6
          go_wp2_with fail
          refine (pleads_any HPr.out hid true hrole).mono ?_
          rintro e w' ⟨rfl, rfl⟩
          go_wp2_with fail
          go_ret
          exact ⟨rfl, HBE.out⟩
end Go.Proofs.YtbimjggkiiadmaaGreatDoor
/- Peers that are not there do nothing. Conditions: a peer is nil, or has no number. -/
namespace Go.Proofs.YtbimjggkiiadmaaGreatDoor
open Go.RowKit
set_option maxRecDepth 20000
/-- No peer. -/
def RGone (w : World) (p : Option Addr) : Prop := p = none ∨ ∃ b, p = some ⟨b, 0, none⟩ ∧ b < w.heap.size ∧ w.cell? ⟨b, 38, none⟩ = some (.int .i64 0)
theorem RGone.below {w w' : World} {p : Option Addr} (h : RGone w p) (hb : Below w.heap.size w w') : RGone w' p :=
  h.imp id fun ⟨b, h1, h2, h3⟩ => ⟨b, h1, Nat.lt_of_lt_of_le h2 hb.size, (hb.cell (p := ⟨b, 38, none⟩) h2).trans h3⟩
theorem rthere_gone (p : Option Addr) (w : World) (h : RGone w p) : Calls Tryz.prog 19 #[.pointer p] w fun e w' => e = .returned (.bool false) ∧ w = w' := by
  rcases h with rfl | ⟨b, rfl, _, h⟩
  · exact pthere_nil w
  · exact pthere_none b w h
theorem rleads_gone (p : Option Addr) (w : World) (h : RGone w p) : Calls Tryz.prog 12 #[.pointer p] w fun e w' => e = .returned (.bool false) ∧ w = w' := by
  go_enter Tryz.func12, Tryz.ntmps12
  go_wp2_with fail
  refine (rthere_gone p w h).mono ?_
  rintro e w' ⟨rfl, rfl⟩
  go_wp2_with fail
  go_ret
  exact ⟨rfl, rfl⟩
theorem rleader_gone (p : Option Addr) (w : World) (h : RGone w p) : Calls Tryz.prog 13 #[.pointer p] w fun e w' => e = .returned (.int .i64 0) ∧ w = w' := by
  go_enter Tryz.func13, Tryz.ntmps13
  go_wp2_with fail
  refine (rthere_gone p w h).mono ?_
  rintro e w' ⟨rfl, rfl⟩
  go_wp2_with fail
  go_ret
  exact ⟨rfl, rfl⟩
theorem rterm_gone (p : Option Addr) (w : World) (h : RGone w p) : Calls Tryz.prog 14 #[.pointer p] w fun e w' => e = .returned (.int .i64 0) ∧ w = w' := by
  go_enter Tryz.func14, Tryz.ntmps14
  go_wp2_with fail
  refine (rthere_gone p w h).mono ?_
  rintro e w' ⟨rfl, rfl⟩
  go_wp2_with fail
  go_ret
  exact ⟨rfl, rfl⟩
theorem rlog_gone (p : Option Addr) (w : World) (h : RGone w p) : Calls Tryz.prog 15 #[.pointer p] w fun e w' => e = .returned (.pointer none) ∧ w = w' := by
  go_enter Tryz.func15, Tryz.ntmps15
  go_wp2_with fail
  refine (rthere_gone p w h).mono ?_
  rintro e w' ⟨rfl, rfl⟩
  go_wp2_with fail
  go_ret
  exact ⟨rfl, rfl⟩
theorem rvoters_gone (p : Option Addr) (w : World) (h : RGone w p) : Calls Tryz.prog 16 #[.pointer p] w fun e w' => e = .returned (.slice none 0 0) ∧ w = w' := by
  go_enter Tryz.func16, Tryz.ntmps16
  go_wp2_with fail
  refine (rthere_gone p w h).mono ?_
  rintro e w' ⟨rfl, rfl⟩
  go_wp2_with fail
  go_ret
  exact ⟨rfl, rfl⟩
theorem rkeep_gone (p : Option Addr) (ix tm : Int) (a1 a2 : Option Addr) (n1 c1 n2 c2 : Nat) (w : World) (h : RGone w p) : Calls Tryz.prog 10 #[.pointer p, .agg #[.int .i64 ix, .int .i64 tm, .slice a1 n1 c1, .slice a2 n2 c2]] w fun e w' => e = .returned (.int .i64 1) ∧ Below w.heap.size w w' := by
  have hb := (Below.refl w.heap.size w).alloc (Nat.le_refl _) (.cells #[.int .i64 ix, .int .i64 tm, .slice a1 n1 c1, .slice a2 n2 c2] 36)
  go_enter Tryz.func10, Tryz.ntmps10
  go_upto_region 1 with fail
  generalize w.alloc (.cells #[.int .i64 ix, .int .i64 tm, .slice a1 n1 c1, .slice a2 n2 c2] 36) = w1 at hb ⊢
  go_wp2_with fail
  refine (rthere_gone p w1 (h.below hb)).mono ?_
  rintro e w' ⟨rfl, rfl⟩
  go_wp2_with fail
  go_ret
  exact ⟨rfl, hb⟩
theorem oz_one : (#[.int .i64 0, .int .i64 0, .int .i64 0, .slice none 0 0, .int .i64 0, .pointer none, .int .i64 0, .bool false] : Array Value).all (·.oneCell') = true := by simp [Value.oneCell']
/-- What a call of nobody tells. -/
def OutZ (w : World) (e : Ending) (w' : World) : Prop := e = .returned (.agg #[.int .i64 0, .int .i64 0, .int .i64 0, .slice none 0 0, .int .i64 0, .pointer none, .int .i64 0, .bool false]) ∧ Below w.heap.size w w'
theorem rcall_gone (p : Option Addr) (F : Value) (w : World) (h : RGone w p) : Calls Tryz.prog 21 #[.pointer p, F] w (OutZ w) := by
  have hb := (Below.refl w.heap.size w).alloc (Nat.le_refl _) (.cells #[.int .i64 0, .int .i64 0, .int .i64 0, .slice none 0 0, .int .i64 0, .pointer none, .int .i64 0, .bool false] 45)
  have hk := heap_alloc_new w (.cells #[.int .i64 0, .int .i64 0, .int .i64 0, .slice none 0 0, .int .i64 0, .pointer none, .int .i64 0, .bool false] 45)
  go_enter Tryz.func21, Tryz.ntmps21
  go_upto_region 1 with fail
  generalize w.alloc (.cells #[.int .i64 0, .int .i64 0, .int .i64 0, .slice none 0 0, .int .i64 0, .pointer none, .int .i64 0, .bool false] 45) = w1 at hb hk ⊢
  go_wp2_with fail
  refine (rthere_gone p w1 (h.below hb)).mono ?_
  rintro e w' ⟨rfl, rfl⟩
  have hgr := grown_rowR w1 w.heap.size #[.int .i64 0, .int .i64 0, .int .i64 0, .slice none 0 0, .int .i64 0, .pointer none, .int .i64 0, .bool false]
  have hz := setRow_heap w1 w.heap.size _ #[.int .i64 0, .int .i64 0, .int .i64 0, .slice none 0 0, .int .i64 0, .pointer none, .int .i64 0, .bool false] _ _ hk
  have HB := Lib.hid (hb.grown hgr hb.size (fun q hq => by cases hq; exact Nat.le_refl _))
  go_wp2_with (refine wpList_store_row rfl 45 (.tmp 4) (.tmp 15) rfl w.heap.size #[.int .i64 0, .int .i64 0, .int .i64 0, .slice none 0 0, .int .i64 0, .pointer none, .int .i64 0, .bool false] rfl rfl 45 _ hk info_out rfl oz_one ?_)
  exact bodyPost_ret (results_cell_row rfl _ _ w.heap.size 45 _ _ _ rfl hz Tryz.underlying45 rfl info_out) rfl ⟨rfl, HB.out⟩
theorem rtick_gone (p : Option Addr) (draw : Int) (w : World) (h : RGone w p) : Calls Tryz.prog 8 #[.pointer p, .int .i64 draw] w (OutZ w) := by
  have hb1 := (Below.refl w.heap.size w).alloc (Nat.le_refl _) (.cells #[.pointer p] 41)
  have k1 := heap_alloc_new w (.cells #[.pointer p] 41)
  have s1 : (w.alloc (.cells #[.pointer p] 41)).heap.size = w.heap.size + 1 := by simp
  go_enter Tryz.func8, Tryz.ntmps8
  go_upto_region 1 with fail
  generalize w.alloc (.cells #[.pointer p] 41) = wa at hb1 k1 s1 ⊢
  have hb2 := hb1.alloc (by omega) (.cells #[.int .i64 draw] 3)
  have hb12 := (Below.refl wa.heap.size wa).alloc (Nat.le_refl _) (.cells #[.int .i64 draw] 3)
  have s2 : (wa.alloc (.cells #[.int .i64 draw] 3)).heap.size = w.heap.size + 1 + 1 := by simp [s1]
  generalize wa.alloc (.cells #[.int .i64 draw] 3) = wb at hb2 hb12 s2 ⊢
  have hb3 := hb2.alloc (by omega) (.cells #[.int .i64 0, .int .i64 0, .int .i64 0, .slice none 0 0, .int .i64 0, .pointer none, .int .i64 0, .bool false] 45)
  have hb23 := (Below.refl wb.heap.size wb).alloc (Nat.le_refl _) (.cells #[.int .i64 0, .int .i64 0, .int .i64 0, .slice none 0 0, .int .i64 0, .pointer none, .int .i64 0, .bool false] 45)
  have k3 := heap_alloc_new wb (.cells #[.int .i64 0, .int .i64 0, .int .i64 0, .slice none 0 0, .int .i64 0, .pointer none, .int .i64 0, .bool false] 45)
  generalize wb.alloc (.cells #[.int .i64 0, .int .i64 0, .int .i64 0, .slice none 0 0, .int .i64 0, .pointer none, .int .i64 0, .bool false] 45) = wc at hb3 hb23 k3 ⊢
  rw [s2] at k3
  have j1 : wc.cell? ⟨w.heap.size, 0, none⟩ = some (.pointer p) := Go.Joins.cell_of_block ((hb23.block _ (by omega)).trans ((hb12.block _ (by omega)).trans k1)) 0
  have HB3 := Lib.hid hb3
  have HK3 := Lib.hid k3
  have HG := Lib.hid (h.below hb3)
  clear hb1 hb2 hb12 hb3 hb23 k1 k3 h s1 s2
  go_wp2_with fail
  refine (rcall_gone p _ wc HG.out).mono ?_
  rintro e w2 ⟨rfl, hb4⟩
  have hkr := (hb4.block _ (Array.getElem?_eq_some_iff.1 HK3.out).1).trans HK3.out
  have hgr := grown_rowR w2 (w.heap.size + 1 + 1) #[.int .i64 0, .int .i64 0, .int .i64 0, .slice none 0 0, .int .i64 0, .pointer none, .int .i64 0, .bool false]
  have hz := setRow_heap w2 (w.heap.size + 1 + 1) _ #[.int .i64 0, .int .i64 0, .int .i64 0, .slice none 0 0, .int .i64 0, .pointer none, .int .i64 0, .bool false] _ _ hkr
  have HB := Lib.hid ((HB3.out.trans (hb4.mono HB3.out.size)).grown hgr (Nat.le_trans HB3.out.size hb4.size) (fun q hq => by cases hq; omega))
  clear hb4 hgr j1
  go_wp2_with (refine wpList_store_row rfl 45 (.tmp 4) (.tmp 7) rfl (w.heap.size + 1 + 1) #[.int .i64 0, .int .i64 0, .int .i64 0, .slice none 0 0, .int .i64 0, .pointer none, .int .i64 0, .bool false] rfl rfl 45 _ hkr info_out rfl oz_one ?_)
  exact bodyPost_ret (results_cell_row rfl _ _ (w.heap.size + 1 + 1) 45 _ _ _ rfl hz Tryz.underlying45 rfl info_out) rfl ⟨rfl, HB.out⟩
theorem rletter_gone (p : Option Addr) (kd fr to tm ix was cm rd : Int) (ok : Bool) (a1 a2 a3 : Option Addr) (n1 c1 n2 c2 n3 c3 : Nat) (w : World) (h : RGone w p) : Calls Tryz.prog 9 #[.pointer p, .agg #[.int .u8 kd, .int .i64 fr, .int .i64 to, .int .i64 tm, .int .i64 ix, .int .i64 was, .bool ok, .int .i64 cm, .int .i64 rd, .slice a1 n1 c1, .slice a2 n2 c2, .slice a3 n3 c3]] w (OutZ w) := by
  have hb1 := (Below.refl w.heap.size w).alloc (Nat.le_refl _) (.cells #[.pointer p] 41)
  have k1 := heap_alloc_new w (.cells #[.pointer p] 41)
  have s1 : (w.alloc (.cells #[.pointer p] 41)).heap.size = w.heap.size + 1 := by simp
  go_enter Tryz.func9, Tryz.ntmps9
  go_upto_region 1 with fail
  generalize w.alloc (.cells #[.pointer p] 41) = wa at hb1 k1 s1 ⊢
  have hb2 := hb1.alloc (by omega) (.cells #[.int .u8 kd, .int .i64 fr, .int .i64 to, .int .i64 tm, .int .i64 ix, .int .i64 was, .bool ok, .int .i64 cm, .int .i64 rd, .slice a1 n1 c1, .slice a2 n2 c2, .slice a3 n3 c3] 27)
  have hb12 := (Below.refl wa.heap.size wa).alloc (Nat.le_refl _) (.cells #[.int .u8 kd, .int .i64 fr, .int .i64 to, .int .i64 tm, .int .i64 ix, .int .i64 was, .bool ok, .int .i64 cm, .int .i64 rd, .slice a1 n1 c1, .slice a2 n2 c2, .slice a3 n3 c3] 27)
  have s2 : (wa.alloc (.cells #[.int .u8 kd, .int .i64 fr, .int .i64 to, .int .i64 tm, .int .i64 ix, .int .i64 was, .bool ok, .int .i64 cm, .int .i64 rd, .slice a1 n1 c1, .slice a2 n2 c2, .slice a3 n3 c3] 27)).heap.size = w.heap.size + 1 + 1 := by simp [s1]
  generalize wa.alloc (.cells #[.int .u8 kd, .int .i64 fr, .int .i64 to, .int .i64 tm, .int .i64 ix, .int .i64 was, .bool ok, .int .i64 cm, .int .i64 rd, .slice a1 n1 c1, .slice a2 n2 c2, .slice a3 n3 c3] 27) = wb at hb2 hb12 s2 ⊢
  have hb3 := hb2.alloc (by omega) (.cells #[.int .i64 0, .int .i64 0, .int .i64 0, .slice none 0 0, .int .i64 0, .pointer none, .int .i64 0, .bool false] 45)
  have hb23 := (Below.refl wb.heap.size wb).alloc (Nat.le_refl _) (.cells #[.int .i64 0, .int .i64 0, .int .i64 0, .slice none 0 0, .int .i64 0, .pointer none, .int .i64 0, .bool false] 45)
  have k3 := heap_alloc_new wb (.cells #[.int .i64 0, .int .i64 0, .int .i64 0, .slice none 0 0, .int .i64 0, .pointer none, .int .i64 0, .bool false] 45)
  generalize wb.alloc (.cells #[.int .i64 0, .int .i64 0, .int .i64 0, .slice none 0 0, .int .i64 0, .pointer none, .int .i64 0, .bool false] 45) = wc at hb3 hb23 k3 ⊢
  rw [s2] at k3
  have j1 : wc.cell? ⟨w.heap.size, 0, none⟩ = some (.pointer p) := Go.Joins.cell_of_block ((hb23.block _ (by omega)).trans ((hb12.block _ (by omega)).trans k1)) 0
  have HB3 := Lib.hid hb3
  have HK3 := Lib.hid k3
  have HG := Lib.hid (h.below hb3)
  clear hb1 hb2 hb12 hb3 hb23 k1 k3 h s1 s2
  go_wp2_with fail
  refine (rcall_gone p _ wc HG.out).mono ?_
  rintro e w2 ⟨rfl, hb4⟩
  have hkr := (hb4.block _ (Array.getElem?_eq_some_iff.1 HK3.out).1).trans HK3.out
  have hgr := grown_rowR w2 (w.heap.size + 1 + 1) #[.int .i64 0, .int .i64 0, .int .i64 0, .slice none 0 0, .int .i64 0, .pointer none, .int .i64 0, .bool false]
  have hz := setRow_heap w2 (w.heap.size + 1 + 1) _ #[.int .i64 0, .int .i64 0, .int .i64 0, .slice none 0 0, .int .i64 0, .pointer none, .int .i64 0, .bool false] _ _ hkr
  have HB := Lib.hid ((HB3.out.trans (hb4.mono HB3.out.size)).grown hgr (Nat.le_trans HB3.out.size hb4.size) (fun q hq => by cases hq; omega))
  clear hb4 hgr j1
  go_wp2_with (refine wpList_store_row rfl 45 (.tmp 4) (.tmp 7) rfl (w.heap.size + 1 + 1) #[.int .i64 0, .int .i64 0, .int .i64 0, .slice none 0 0, .int .i64 0, .pointer none, .int .i64 0, .bool false] rfl rfl 45 _ hkr info_out rfl oz_one ?_)
  exact bodyPost_ret (results_cell_row rfl _ _ (w.heap.size + 1 + 1) 45 _ _ _ rfl hz Tryz.underlying45 rfl info_out) rfl ⟨rfl, HB.out⟩
/-- What Propose and Read of nobody tell. -/
def AskZ (w : World) (e : Ending) (w' : World) : Prop := e = .returned (.tuple #[.int .i64 0, .agg #[.int .i64 0, .int .i64 0, .int .i64 0, .slice none 0 0, .int .i64 0, .pointer none, .int .i64 0, .bool false], .int .i64 1]) ∧ Below w.heap.size w w'
theorem rread_gone (p : Option Addr) (w : World) (h : RGone w p) : Calls Tryz.prog 7 #[.pointer p] w (AskZ w) := by
  have hb := (Below.refl w.heap.size w).alloc (Nat.le_refl _) (.cells #[.int .i64 0, .int .i64 0, .int .i64 0, .slice none 0 0, .int .i64 0, .pointer none, .int .i64 0, .bool false] 45)
  have hk := heap_alloc_new w (.cells #[.int .i64 0, .int .i64 0, .int .i64 0, .slice none 0 0, .int .i64 0, .pointer none, .int .i64 0, .bool false] 45)
  go_enter Tryz.func7, Tryz.ntmps7
  go_upto_region 1 with fail
  generalize w.alloc (.cells #[.int .i64 0, .int .i64 0, .int .i64 0, .slice none 0 0, .int .i64 0, .pointer none, .int .i64 0, .bool false] 45) = w1 at hb hk ⊢
  go_wp2_with fail
  refine (rthere_gone p w1 (h.below hb)).mono ?_
  rintro e w' ⟨rfl, rfl⟩
  have hgr := grown_rowR w1 w.heap.size #[.int .i64 0, .int .i64 0, .int .i64 0, .slice none 0 0, .int .i64 0, .pointer none, .int .i64 0, .bool false]
  have hz := setRow_heap w1 w.heap.size _ #[.int .i64 0, .int .i64 0, .int .i64 0, .slice none 0 0, .int .i64 0, .pointer none, .int .i64 0, .bool false] _ _ hk
  have HB := Lib.hid (hb.grown hgr hb.size (fun q hq => by cases hq; exact Nat.le_refl _))
  go_wp2_with (refine wpList_store_row rfl 45 (.tmp 3) (.tmp 10) rfl w.heap.size #[.int .i64 0, .int .i64 0, .int .i64 0, .slice none 0 0, .int .i64 0, .pointer none, .int .i64 0, .bool false] rfl rfl 45 _ hk info_out rfl oz_one ?_)
  exact bodyPost_ret (results_tct rfl _ _ w.heap.size 45 _ _ _ _ _ rfl rfl rfl hz Tryz.underlying45 rfl info_out) rfl ⟨rfl, HB.out⟩
theorem rpropose_gone (p : Option Addr) (t kd s q ck num : Int) (text : ByteArray) (a1 a2 : Option Addr) (n1 c1 n2 c2 : Nat) (w : World) (h : RGone w p) : Calls Tryz.prog 6 #[.pointer p, .agg #[.int .i64 t, .int .u8 kd, .int .i64 s, .int .i64 q, .int .u8 ck, .string text, .slice a1 n1 c1, .int .i64 num, .slice a2 n2 c2]] w (AskZ w) := by
  have hb1 := (Below.refl w.heap.size w).alloc (Nat.le_refl _) (.cells #[.pointer p] 41)
  have k1 := heap_alloc_new w (.cells #[.pointer p] 41)
  have s1 : (w.alloc (.cells #[.pointer p] 41)).heap.size = w.heap.size + 1 := by simp
  go_enter Tryz.func6, Tryz.ntmps6
  go_upto_region 1 with fail
  generalize w.alloc (.cells #[.pointer p] 41) = wa at hb1 k1 s1 ⊢
  have hb2 := hb1.alloc (by omega) (.cells #[.int .i64 t, .int .u8 kd, .int .i64 s, .int .i64 q, .int .u8 ck, .string text, .slice a1 n1 c1, .int .i64 num, .slice a2 n2 c2] 34)
  have hb12 := (Below.refl wa.heap.size wa).alloc (Nat.le_refl _) (.cells #[.int .i64 t, .int .u8 kd, .int .i64 s, .int .i64 q, .int .u8 ck, .string text, .slice a1 n1 c1, .int .i64 num, .slice a2 n2 c2] 34)
  have s2 : (wa.alloc (.cells #[.int .i64 t, .int .u8 kd, .int .i64 s, .int .i64 q, .int .u8 ck, .string text, .slice a1 n1 c1, .int .i64 num, .slice a2 n2 c2] 34)).heap.size = w.heap.size + 1 + 1 := by simp [s1]
  generalize wa.alloc (.cells #[.int .i64 t, .int .u8 kd, .int .i64 s, .int .i64 q, .int .u8 ck, .string text, .slice a1 n1 c1, .int .i64 num, .slice a2 n2 c2] 34) = wb at hb2 hb12 s2 ⊢
  have hb3 := hb2.alloc (by omega) (.cells #[.int .i64 0, .int .i64 0, .int .i64 0, .slice none 0 0, .int .i64 0, .pointer none, .int .i64 0, .bool false] 45)
  have hb23 := (Below.refl wb.heap.size wb).alloc (Nat.le_refl _) (.cells #[.int .i64 0, .int .i64 0, .int .i64 0, .slice none 0 0, .int .i64 0, .pointer none, .int .i64 0, .bool false] 45)
  have k3 := heap_alloc_new wb (.cells #[.int .i64 0, .int .i64 0, .int .i64 0, .slice none 0 0, .int .i64 0, .pointer none, .int .i64 0, .bool false] 45)
  generalize wb.alloc (.cells #[.int .i64 0, .int .i64 0, .int .i64 0, .slice none 0 0, .int .i64 0, .pointer none, .int .i64 0, .bool false] 45) = wc at hb3 hb23 k3 ⊢
  rw [s2] at k3
  have j1 : wc.cell? ⟨w.heap.size, 0, none⟩ = some (.pointer p) := Go.Joins.cell_of_block ((hb23.block _ (by omega)).trans ((hb12.block _ (by omega)).trans k1)) 0
  have HB3 := Lib.hid hb3
  have HK3 := Lib.hid k3
  have HG := Lib.hid (h.below hb3)
  clear hb1 hb2 hb12 hb3 hb23 k1 k3 h s1 s2
  go_wp2_with fail
  refine (rthere_gone p wc HG.out).mono ?_
  rintro e w' ⟨rfl, rfl⟩
  have hkr := HK3.out
  have hgr := grown_rowR wc (w.heap.size + 1 + 1) #[.int .i64 0, .int .i64 0, .int .i64 0, .slice none 0 0, .int .i64 0, .pointer none, .int .i64 0, .bool false]
  have hz := setRow_heap wc (w.heap.size + 1 + 1) _ #[.int .i64 0, .int .i64 0, .int .i64 0, .slice none 0 0, .int .i64 0, .pointer none, .int .i64 0, .bool false] _ _ hkr
  have HB := Lib.hid (HB3.out.grown hgr HB3.out.size (fun q hq => by cases hq; omega))
  clear hgr j1
  go_wp2_with (refine wpList_store_row rfl 45 (.tmp 5) (.tmp 13) rfl (w.heap.size + 1 + 1) #[.int .i64 0, .int .i64 0, .int .i64 0, .slice none 0 0, .int .i64 0, .pointer none, .int .i64 0, .bool false] rfl rfl 45 _ hkr info_out rfl oz_one ?_)
  exact bodyPost_ret (results_tct rfl _ _ (w.heap.size + 1 + 1) 45 _ _ _ _ _ rfl rfl rfl hz Tryz.underlying45 rfl info_out) rfl ⟨rfl, HB.out⟩
theorem sameLetters_nil (w : World) : Calls Tryz.prog 48 #[.slice none 0 0, .slice none 0 0] w fun e w' => e = .returned (.bool true) ∧ Below w.heap.size w w' := by
  go_enter Tryz.func48, Tryz.ntmps48
  go_wp2_with fail
  go_loopw [5] (fun i wr => i = .int .i64 0 ∧ wr = w) (fun _ _ => 0)
  case atStart => exact ⟨rfl, rfl⟩
  case round =>
    obtain ⟨rfl, rfl⟩ := hrel
    go_wp2_with fail
    go_ret
    exact ⟨rfl, Below.refl _ _⟩
theorem sameOut_zero (w : World) : Calls Tryz.prog 11 #[.agg #[.int .i64 0, .int .i64 0, .int .i64 0, .slice none 0 0, .int .i64 0, .pointer none, .int .i64 0, .bool false], .agg #[.int .i64 0, .int .i64 0, .int .i64 0, .slice none 0 0, .int .i64 0, .slice none 0 0, .int .i64 0, .bool false]] w fun e w' => e = .returned (.bool true) ∧ Below w.heap.size w w' := by
  have hb1 := (Below.refl w.heap.size w).alloc (Nat.le_refl _) (.cells #[.int .i64 0, .int .i64 0, .int .i64 0, .slice none 0 0, .int .i64 0, .pointer none, .int .i64 0, .bool false] 45)
  have k1 := heap_alloc_new w (.cells #[.int .i64 0, .int .i64 0, .int .i64 0, .slice none 0 0, .int .i64 0, .pointer none, .int .i64 0, .bool false] 45)
  have s1 : (w.alloc (.cells #[.int .i64 0, .int .i64 0, .int .i64 0, .slice none 0 0, .int .i64 0, .pointer none, .int .i64 0, .bool false] 45)).heap.size = w.heap.size + 1 := by simp
  go_enter Tryz.func11, Tryz.ntmps11
  go_upto_region 1 with fail
  generalize w.alloc (.cells #[.int .i64 0, .int .i64 0, .int .i64 0, .slice none 0 0, .int .i64 0, .pointer none, .int .i64 0, .bool false] 45) = wa at hb1 k1 s1 ⊢
  have hb2 := hb1.alloc (by omega) (.cells #[.int .i64 0, .int .i64 0, .int .i64 0, .slice none 0 0, .int .i64 0, .slice none 0 0, .int .i64 0, .bool false] 64)
  have hb12 := (Below.refl wa.heap.size wa).alloc (Nat.le_refl _) (.cells #[.int .i64 0, .int .i64 0, .int .i64 0, .slice none 0 0, .int .i64 0, .slice none 0 0, .int .i64 0, .bool false] 64)
  have k2 := heap_alloc_new wa (.cells #[.int .i64 0, .int .i64 0, .int .i64 0, .slice none 0 0, .int .i64 0, .slice none 0 0, .int .i64 0, .bool false] 64)
  generalize wa.alloc (.cells #[.int .i64 0, .int .i64 0, .int .i64 0, .slice none 0 0, .int .i64 0, .slice none 0 0, .int .i64 0, .bool false] 64) = wb at hb2 hb12 k2 ⊢
  rw [s1] at k2
  have k1b := (hb12.block _ (by omega)).trans k1
  have x0 := Go.Joins.cell_of_block k1b 0
  have x1 := Go.Joins.cell_of_block k1b 1
  have x2 := Go.Joins.cell_of_block k1b 2
  have x3 := Go.Joins.cell_of_block k1b 3
  have x4 := Go.Joins.cell_of_block k1b 4
  have x5 := Go.Joins.cell_of_block k1b 5
  have x6 := Go.Joins.cell_of_block k1b 6
  have x7 := Go.Joins.cell_of_block k1b 7
  have y0 := Go.Joins.cell_of_block k2 0
  have y1 := Go.Joins.cell_of_block k2 1
  have y2 := Go.Joins.cell_of_block k2 2
  have y3 := Go.Joins.cell_of_block k2 3
  have y4 := Go.Joins.cell_of_block k2 4
  have y5 := Go.Joins.cell_of_block k2 5
  have y6 := Go.Joins.cell_of_block k2 6
  have y7 := Go.Joins.cell_of_block k2 7
  have K1 := Lib.hid k1b
  have K2 := Lib.hid k2
  have HB2 := Lib.hid hb2
  clear hb1 hb2 hb12 k1 k2 k1b s1
  go_wp2_with fail
  refine (sameLetters_nil wb).mono ?_
  rintro e wc ⟨rfl, hb3⟩
  have z5 := Go.Joins.cell_of_block ((hb3.block _ (Array.getElem?_eq_some_iff.1 K1.out).1).trans K1.out) 5
  have u5 := Go.Joins.cell_of_block ((hb3.block _ (Array.getElem?_eq_some_iff.1 K2.out).1).trans K2.out) 5
  have HB3 := Lib.hid (HB2.out.trans (hb3.mono HB2.out.size))
  clear x0 x1 x2 x3 x4 x5 x6 x7 y0 y1 y2 y3 y4 y5 y6 y7 hb3
  go_upto_region 3 with fail
  go_quiet (fail)
  go_wp2_with fail
  go_ret
  exact ⟨rfl, below_drewN HB3.out _⟩
end Go.Proofs.YtbimjggkiiadmaaGreatDoor
