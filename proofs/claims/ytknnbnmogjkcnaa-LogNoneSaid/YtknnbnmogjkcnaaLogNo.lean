/- The law LogNone: logs that are not there have nothing. Conditions: the entries are read as the row reads them. -/
import Derived.Test.YtknnbnmogjkcnaaLogN
namespace Go.Proofs.Ytknnbnmogjkcnaa
open Go.RowKit
set_option maxRecDepth 20000

/-- The row of the law's two pointers. -/
structure TwoGone (w : World) (B rb lb : Nat) : Prop where
  row : w.heap[rb]? = some (.cells #[.pointer none, .pointer (some ⟨lb, 0, none⟩)] 25 (0, 0))
  log : w.heap[lb]? = some (.cells #[.bool false, .int .i64 0, .int .i64 0, .slice none 0 0] 66 (0, 0))
theorem TwoGone.below {w w' : World} {B B' rb lb : Nat} (h : TwoGone w B rb lb) (hb : Below B' w w') (hB : w.heap.size ≤ B') : TwoGone w' B rb lb :=
  ⟨(hb.block rb (Nat.lt_of_lt_of_le (Array.getElem?_eq_some_iff.1 h.row).1 hB)).trans h.row, (hb.block lb (Nat.lt_of_lt_of_le (Array.getElem?_eq_some_iff.1 h.log).1 hB)).trans h.log⟩
theorem TwoGone.at {w : World} {B rb lb : Nat} (h : TwoGone w B rb lb) (k : Nat) (p : Value) (hp : (#[.pointer none, .pointer (some ⟨lb, 0, none⟩)] : Array Value)[k]? = some p) : w.cell? ⟨rb, k, none⟩ = some p ∧ Gone w p := by
  refine ⟨by rw [Go.Joins.cell_of_block h.row k]; exact hp, ?_⟩
  match k, hp with
  | 0, hp => exact Or.inl (by simpa using hp.symm)
  | 1, hp => exact Or.inr ⟨lb, 0, by simpa using hp.symm, Go.Joins.cell_of_block h.log 0⟩
  | k + 2, hp => simp at hp
set_option maxHeartbeats 2000000 in
theorem walk_LogNone (W : World) (i : Int) (hi : (Lit.int .i64 i).wf = true) (a : Option Addr) (n cap : Nat) (es : List En) (hn : es.length = n) (hx : EnsIn W W.heap.size a es) (hq : ∀ e ∈ es, EnWf e) (hnil : a = none → cap = 0) (hc : n ≤ cap) (hz : n * 112 ≤ 140737488351232) :
    Calls Try.prog 6 #[.int .i64 i, .slice a n cap] W fun e w' => e = .returned (.bool true) ∧ Below W.heap.size W w' := by
  have HN := Lib.hid hn
  have HX := Lib.hid hx
  have HQ := Lib.hid hq
  clear hn hx hq hnil hi
  by_cases hbig : 30 < n
  · have d1 : (30 : Int) < n := by omega
    go_enter Try.func6, Try.ntmps6
    go_wp2_with fail
    refine (awake_any W).mono ?_
    rintro e w1 ⟨rfl, b1⟩
    go_wp2_with fail
    go_ret
    exact ⟨rfl, b1⟩
  have d1 : ¬ (30 : Int) < n := by omega
  have d2 : (n : Int) ≤ 30 := by omega
  have d3 : decide ((30 : Int) < (n : Int)) = false := by simpa using d2
  clear hbig
  cases hpl : plainB es with
  | false =>
    have HPL := Lib.hid hpl
    clear hpl
    go_enter Try.func6, Try.ntmps6
    go_wp2_with fail
    refine (awake_any W).mono ?_
    rintro e w1 ⟨rfl, b1⟩
    go_wp2_with fail
    refine (plain_any a n cap es w1 HN.out ((HX.out.below enSub_kept b1 (Nat.le_refl _)).mono enSub_rising b1.size) HQ.out (by omega)).mono ?_
    rintro e w2 ⟨rfl, b2⟩
    have hpl := HPL.out
    have b3 := b1.trans (b2.mono b1.size)
    clear b1 b2
    go_wp2_with fail
    go_ret
    exact ⟨rfl, b3⟩
  | true =>
  have HPL := Lib.hid hpl
  clear hpl
  go_enter Try.func6, Try.ntmps6
  go_wp2_with fail
  refine (awake_any W).mono ?_
  rintro e w1 ⟨rfl, b1⟩
  go_wp2_with fail
  refine (plain_any a n cap es w1 HN.out ((HX.out.below enSub_kept b1 (Nat.le_refl _)).mono enSub_rising b1.size) HQ.out (by omega)).mono ?_
  rintro e w2 ⟨rfl, b2⟩
  have hpl := HPL.out
  have b3 := b1.trans (b2.mono b1.size)
  clear b1 b2
  go_wp2_with fail
  clear hpl
  have k1 : ((w2.alloc (.cells #[.bool false, .int .i64 0, .int .i64 0, .slice none 0 0] 66)).alloc (.cells #[.pointer none, .pointer (some ⟨w2.heap.size, 0, none⟩)] 25)).heap[w2.heap.size]? = some (.cells #[.bool false, .int .i64 0, .int .i64 0, .slice none 0 0] 66 (0, 0)) :=
    ((World.grownBy_alloc _ _ Option.none).block _ (by simp) (by simp)).trans (heap_alloc_new w2 _)
  have k2 : ((w2.alloc (.cells #[.bool false, .int .i64 0, .int .i64 0, .slice none 0 0] 66)).alloc (.cells #[.pointer none, .pointer (some ⟨w2.heap.size, 0, none⟩)] 25)).heap[w2.heap.size + 1]? = some (.cells #[.pointer none, .pointer (some ⟨w2.heap.size, 0, none⟩)] 25 (0, 0)) := by
    have := heap_alloc_new (w2.alloc (.cells #[.bool false, .int .i64 0, .int .i64 0, .slice none 0 0] 66)) (.cells #[.pointer none, .pointer (some ⟨w2.heap.size, 0, none⟩)] 25)
    simpa using this
  have b4 : Below W.heap.size W ((w2.alloc (.cells #[.bool false, .int .i64 0, .int .i64 0, .slice none 0 0] 66)).alloc (.cells #[.pointer none, .pointer (some ⟨w2.heap.size, 0, none⟩)] 25)) := (b3.alloc b3.size _).alloc (by have := b3.size; simp; omega) _
  generalize ((w2.alloc (.cells #[.bool false, .int .i64 0, .int .i64 0, .slice none 0 0] 66)).alloc (.cells #[.pointer none, .pointer (some ⟨w2.heap.size, 0, none⟩)] 25)) = w3 at k1 k2 b4 ⊢
  have T3 := Lib.hid (⟨k2, k1⟩ : TwoGone w3 W.heap.size (w2.heap.size + 1) w2.heap.size)
  clear k1 k2 b3
  generalize w2.heap.size + 1 = rb at T3 ⊢
  generalize w2.heap.size = lb at T3
  go_loopw [6] (fun i wr => ∃ k : Nat, k ≤ 2 ∧ i = .int .i64 k ∧ TwoGone wr W.heap.size rb lb ∧ Below W.heap.size W wr) (fun i _ => 2 - (intOf i).toNat)
  case atStart => exact ⟨0, by omega, rfl, T3.out, b4⟩
  case round =>
    clear T3 b4
    obtain ⟨k, hk, rfl, ht, hbel⟩ := hrel
    have T := Lib.hid ht
    clear ht
    by_cases hlt : k < 2
    · obtain ⟨p, hp⟩ : ∃ p, (#[.pointer none, .pointer (some ⟨lb, 0, none⟩)] : Array Value)[k]? = some p := ⟨_, Array.getElem?_eq_getElem (by simpa using hlt)⟩
      have HP := Lib.hid hp
      clear hp
      have i1 : (k : Int) < 2 := by omega
      have c0 := (T.out.at k p HP.out).1
      go_wp2_with fail
      refine (base_gone p wr (T.out.at k p HP.out).2).mono ?_
      rintro e x1 ⟨rfl, hb0⟩
      have hc0 := hb0
      have T1 := Lib.hid (T.out.below hc0 (Nat.le_refl _))
      have b1 := hbel.trans (hc0.mono hbel.size)
      have c1 := (T1.out.at k p HP.out).1
      clear hb0 hc0 c0 T hbel
      go_wp2_with fail
      refine (last_gone p x1 (T1.out.at k p HP.out).2).mono ?_
      rintro e x2 ⟨rfl, hb1⟩
      have hc1 := hb1
      have T2 := Lib.hid (T1.out.below hc1 (Nat.le_refl _))
      have b2 := b1.trans (hc1.mono b1.size)
      have c2 := (T2.out.at k p HP.out).1
      clear hb1 hc1 c1 T1 b1
      go_wp2_with fail
      refine (term_gone p i x2 (T2.out.at k p HP.out).2).mono ?_
      rintro e x3 ⟨rfl, hb2⟩
      have hc2 := hb2
      have T3 := Lib.hid (T2.out.below hc2 (Nat.le_refl _))
      have b3 := b2.trans (hc2.mono b2.size)
      have c3 := (T3.out.at k p HP.out).1
      clear hb2 hc2 c2 T2 b2
      go_wp2_with fail
      refine (at_gone p i x3 (T3.out.at k p HP.out).2).mono ?_
      rintro e x4 ⟨rfl, hb3⟩
      have hc3 := hb3
      have T4 := Lib.hid (T3.out.below hc3 (Nat.le_refl _))
      have b4 := b3.trans (hc3.mono b3.size)
      have c4 : ∀ o, (x4.alloc o).cell? ⟨rb, k, none⟩ = some p := fun o => ((T4.out.below ((Below.refl _ x4).alloc (Nat.le_refl _) o) (Nat.le_refl _)).at k p HP.out).1
      clear hb3 hc3 c3 T3 b3
      go_wp2_with fail
      refine (fit_gone p i 0 _ _ ((T4.out.at k p HP.out).2.below ((Below.refl _ x4).alloc (Nat.le_refl _) _) (Nat.le_refl _))).mono ?_
      rintro e x5 ⟨rfl, hb4⟩
      have hc4 := (Below.alloc (Below.refl _ x4) (Nat.le_refl _) _).trans (hb4.mono (by simp))
      have T5 := Lib.hid (T4.out.below hc4 (Nat.le_refl _))
      have b5 := b4.trans (hc4.mono b4.size)
      have c5 := (T5.out.at k p HP.out).1
      clear hb4 hc4 c4 T4 b4
      go_wp2_with fail
      refine (from_gone p i 9 x5 (T5.out.at k p HP.out).2).mono ?_
      rintro e x6 ⟨rfl, hb5⟩
      have hc5 := hb5
      have T6 := Lib.hid (T5.out.below hc5 (Nat.le_refl _))
      have b6 := b5.trans (hc5.mono b5.size)
      have c6 := (T6.out.at k p HP.out).1
      clear hb5 hc5 c5 T5 b5
      go_wp2_with fail
      refine (append_gone p _ x6 (T6.out.at k p HP.out).2).mono ?_
      rintro e x7 ⟨rfl, hb6⟩
      have hc6 := hb6
      have T7 := Lib.hid (T6.out.below hc6 (Nat.le_refl _))
      have b7 := b6.trans (hc6.mono b6.size)
      have c7 := (T7.out.at k p HP.out).1
      clear hb6 hc6 c6 T6 b6
      go_wp2_with fail
      refine (compact_gone p i x7 (T7.out.at k p HP.out).2).mono ?_
      rintro e x8 ⟨rfl, hb7⟩
      have hc7 := hb7
      have T8 := Lib.hid (T7.out.below hc7 (Nat.le_refl _))
      have b8 := b7.trans (hc7.mono b7.size)
      have c8 := (T8.out.at k p HP.out).1
      clear hb7 hc7 c7 T7 b7
      go_wp2_with fail
      refine (voters_gone p _ _ ((T8.out.at k p HP.out).2.below ((Below.refl _ x8).alloc (Nat.le_refl _) _) (Nat.le_refl _))).mono ?_
      rintro e x9 ⟨rfl, hb8⟩
      have hc8 := (Below.alloc (Below.refl _ x8) (Nat.le_refl _) _).trans (hb8.mono (by simp))
      have T9 := Lib.hid (T8.out.below hc8 (Nat.le_refl _))
      have b9 := b8.trans (hc8.mono b8.size)
      have c9 := (T9.out.at k p HP.out).1
      clear hb8 hc8 c8 T8 b8
      go_wp2_with fail
      go_roundw
      case rel => exact ⟨k + 1, by omega, by go_num, T9.out, b9⟩
      case measure => simp [intOf]; omega
    · have i1 : ¬ (k : Int) < 2 := by omega
      go_wp2_with fail
      go_ret
      exact ⟨rfl, hbel⟩
end Go.Proofs.Ytknnbnmogjkcnaa
