/- The law WireNil: readers that are not there tell nothing. Conditions: the law's example is as it must be. -/
import Derived.Test.YtpjaghaapmbanaaDoorNoRdr
import Derived.Test.YtpjaghaapmbanaaDoorFa
namespace Go.Proofs.YtpjaghaapmbanaaDoor
open Go.RowKit
set_option maxRecDepth 20000

theorem sameFa_zero (w : World) : Calls Tryd.prog 22 #[.agg #[.int .i64 0, .int .i64 0, .slice none 0 0], .agg #[.int .i64 0, .int .i64 0, .slice none 0 0]] w fun e w' => e = .returned (.bool true) ∧ Below w.heap.size w w' :=
  sameFa_any ⟨0, 0, none, [], 0⟩ ⟨0, 0, none, [], 0⟩ w 0 rfl (Or.inl rfl) (Or.inl rfl) (Nat.zero_le _) (by decide)
theorem sameC_zero (w : World) : Calls Tryd.prog 24 #[.agg #[.int .u8 0, .string ByteArray.empty, .slice none 0 0, .int .i64 0], .agg #[.int .u8 0, .string ByteArray.empty, .slice none 0 0, .int .i64 0]] w fun e w' => e = .returned (.bool true) ∧ Below w.heap.size w w' :=
  sameC_any 0 ByteArray.empty 0 none 0 0 none 0 [] w 0 rfl (Or.inl rfl) (Or.inl rfl) (Nat.zero_le _) (by decide)
theorem sameRp_zero (w : World) : Calls Tryd.prog 26 #[.agg #[.int .i64 0, .int .i64 0, .slice none 0 0, .slice none 0 0], .agg #[.int .i64 0, .int .i64 0, .slice none 0 0, .slice none 0 0]] w fun e w' => e = .returned (.bool true) ∧ Below w.heap.size w w' :=
  sameRp_any ⟨0, 0, none, [], 0, none, [], 0⟩ ⟨0, 0, none, [], 0, none, [], 0⟩ w 0 rfl ⟨Or.inl rfl, Or.inl rfl⟩ ⟨Or.inl rfl, Or.inl rfl⟩ (Nat.zero_le _) (by decide) (by intro f hf; cases hf) (by decide)
theorem sameE_zero (w : World) : Calls Tryd.prog 28 #[.agg #[.int .i64 0, .int .u8 0, .int .i64 0, .int .i64 0, .int .u8 0, .string ByteArray.empty, .slice none 0 0, .int .i64 0, .slice none 0 0], .agg #[.int .i64 0, .int .u8 0, .int .i64 0, .int .i64 0, .int .u8 0, .string ByteArray.empty, .slice none 0 0, .int .i64 0, .slice none 0 0]] w fun e w' => e = .returned (.bool true) ∧ Below w.heap.size w w' :=
  sameE_any ⟨0, 0, 0, 0, 0, ByteArray.empty, none, [], 0, 0, none, [], 0⟩ ⟨0, 0, 0, 0, 0, ByteArray.empty, none, [], 0, 0, none, [], 0⟩ w 0 rfl ⟨Or.inl rfl, Or.inl rfl⟩ ⟨Or.inl rfl, Or.inl rfl⟩ (Nat.zero_le _) (by decide) (by decide)

/-- The row of the law's two pointers. -/
structure TwoGone (w : World) (rb lb : Nat) : Prop where
  row : w.heap[rb]? = some (.cells #[.pointer none, .pointer (some ⟨lb, 0, none⟩)] 31 (0, 0))
  rdr : w.heap[lb]? = some (.cells #[.bool false, .bool false, .slice none 0 0] 41 (0, 0))
theorem TwoGone.below {w w' : World} {B' rb lb : Nat} (h : TwoGone w rb lb) (hb : Below B' w w') (hB : w.heap.size ≤ B') : TwoGone w' rb lb :=
  ⟨(hb.block rb (Nat.lt_of_lt_of_le (Array.getElem?_eq_some_iff.1 h.row).1 hB)).trans h.row, (hb.block lb (Nat.lt_of_lt_of_le (Array.getElem?_eq_some_iff.1 h.rdr).1 hB)).trans h.rdr⟩
theorem TwoGone.at {w : World} {rb lb : Nat} (h : TwoGone w rb lb) (k : Nat) (p : Value) (hp : (#[.pointer none, .pointer (some ⟨lb, 0, none⟩)] : Array Value)[k]? = some p) : w.cell? ⟨rb, k, none⟩ = some p ∧ Gone w p := by
  refine ⟨by rw [Go.Joins.cell_of_block h.row k]; exact hp, ?_⟩
  match k, hp with
  | 0, hp => exact Or.inl (by simpa using hp.symm)
  | 1, hp => exact Or.inr ⟨lb, 0, by simpa using hp.symm, Go.Joins.cell_of_block h.rdr 0⟩
  | k + 2, hp => simp at hp
/-- The law's example is as it must be. -/
def AwakeOk : Prop := ∀ w : World, Calls Tryd.prog 7 #[] w fun e w' => e = .returned (.bool true) ∧ Below w.heap.size w w'
set_option maxHeartbeats 2000000 in
theorem wireNil_any (AW : AwakeOk) (W : World) :
    Calls Tryd.prog 5 #[] W fun e w' => e = .returned (.bool true) ∧ Below W.heap.size W w' := by
  have k1 : ((W.alloc (.cells #[.bool false, .bool false, .slice none 0 0] 41)).alloc (.cells #[.pointer none, .pointer (some ⟨W.heap.size, 0, none⟩)] 31)).heap[W.heap.size]? = some (.cells #[.bool false, .bool false, .slice none 0 0] 41 (0, 0)) :=
    ((World.grownBy_alloc _ _ Option.none).block _ (by simp) (by simp)).trans (heap_alloc_new W _)
  have k2 : ((W.alloc (.cells #[.bool false, .bool false, .slice none 0 0] 41)).alloc (.cells #[.pointer none, .pointer (some ⟨W.heap.size, 0, none⟩)] 31)).heap[W.heap.size + 1]? = some (.cells #[.pointer none, .pointer (some ⟨W.heap.size, 0, none⟩)] 31 (0, 0)) := by
    have := heap_alloc_new (W.alloc (.cells #[.bool false, .bool false, .slice none 0 0] 41)) (.cells #[.pointer none, .pointer (some ⟨W.heap.size, 0, none⟩)] 31)
    simpa using this
  have b4 : Below W.heap.size W ((W.alloc (.cells #[.bool false, .bool false, .slice none 0 0] 41)).alloc (.cells #[.pointer none, .pointer (some ⟨W.heap.size, 0, none⟩)] 31)) := ((Below.refl _ W).alloc (Nat.le_refl _) _).alloc (by simp) _
  have T3 := Lib.hid (⟨k2, k1⟩ : TwoGone _ (W.heap.size + 1) W.heap.size)
  have B4 := Lib.hid b4
  clear k1 k2 b4
  go_enter Tryd.func5, Tryd.ntmps5
  go_wp2_with fail
  generalize ((W.alloc (.cells #[.bool false, .bool false, .slice none 0 0] 41)).alloc (.cells #[.pointer none, .pointer (some ⟨W.heap.size, 0, none⟩)] 31)) = w3 at T3 B4 ⊢
  generalize W.heap.size + 1 = rb at T3 ⊢
  obtain ⟨lb, hlb⟩ : ∃ lb, W.heap.size = lb := ⟨_, rfl⟩
  have T4 := Lib.hid (show TwoGone w3 rb lb from hlb ▸ T3.out)
  clear T3 hlb
  go_loopw [2] (fun i wr => ∃ k : Nat, k ≤ 2 ∧ i = .int .i64 k ∧ TwoGone wr rb lb ∧ Below W.heap.size W wr) (fun i _ => 2 - (intOf i).toNat)
  case atStart => exact ⟨0, by omega, rfl, T4.out, B4.out⟩
  case round =>
    clear T4 B4
    obtain ⟨k, hk, rfl, ht, hbel⟩ := hrel
    have T := Lib.hid ht
    clear ht
    by_cases hlt : k < 2
    · obtain ⟨p, hp⟩ : ∃ p, (#[.pointer none, .pointer (some ⟨lb, 0, none⟩)] : Array Value)[k]? = some p := ⟨_, Array.getElem?_eq_getElem (by simpa using hlt)⟩
      have HP := Lib.hid hp
      clear hp
      have i1 : (k : Int) < 2 := by omega
      have c0 := (T.out.at k p HP.out).1
      have hq := fun w => same_val 47 rfl 0 0 ByteArray.empty w
      go_wp2_with fail
      refine (number_gone p wr (T.out.at k p HP.out).2).mono ?_
      rintro e x1 ⟨rfl, hb0⟩
      have T1 := Lib.hid (T.out.below hb0 (Nat.le_refl _))
      have b1 := hbel.trans (hb0.mono hbel.size)
      clear hb0 c0 T hbel
      go_wp2_with fail
      refine (text_gone p x1 (T1.out.at k p HP.out).2).mono ?_
      rintro e x2 ⟨rfl, hb1⟩
      have T2 := Lib.hid (T1.out.below hb1 (Nat.le_refl _))
      have b2 := b1.trans (hb1.mono b1.size)
      clear hb1 T1 b1
      go_wp2_with fail
      refine (value_gone p x2 (T2.out.at k p HP.out).2).mono ?_
      rintro e x3 ⟨rfl, hb2⟩
      have T3 := Lib.hid (T2.out.below hb2 (Nat.le_refl _))
      have b3 := b2.trans (hb2.mono b2.size)
      clear hb2 T2 b2
      go_wp2_with fail
      refine (values_gone p x3 (T3.out.at k p HP.out).2).mono ?_
      rintro e x4 ⟨rfl, hb3⟩
      have T4 := Lib.hid (T3.out.below hb3 (Nat.le_refl _))
      have b4 := b3.trans (hb3.mono b3.size)
      clear hb3 T3 b3
      go_wp2_with fail
      refine (fact_gone p x4 (T4.out.at k p HP.out).2).mono ?_
      rintro e x5 ⟨rfl, hb4⟩
      have T5 := Lib.hid (T4.out.below hb4 (Nat.le_refl _))
      have b5 := b4.trans (hb4.mono b4.size)
      clear hb4 T4 b4
      go_wp2_with fail
      refine (sameFa_zero x5).mono ?_
      rintro e x6 ⟨rfl, hb5⟩
      have T6 := Lib.hid (T5.out.below hb5 (Nat.le_refl _))
      have b6 := b5.trans (hb5.mono b5.size)
      clear hb5 T5 b5
      go_wp2_with fail
      refine (command_gone p x6 (T6.out.at k p HP.out).2).mono ?_
      rintro e x7 ⟨rfl, hb6⟩
      have T7 := Lib.hid (T6.out.below hb6 (Nat.le_refl _))
      have b7 := b6.trans (hb6.mono b6.size)
      clear hb6 T6 b6
      go_wp2_with fail
      refine (sameC_zero x7).mono ?_
      rintro e x8 ⟨rfl, hb7⟩
      have T8 := Lib.hid (T7.out.below hb7 (Nat.le_refl _))
      have b8 := b7.trans (hb7.mono b7.size)
      clear hb7 T7 b7
      go_wp2_with fail
      refine (reply_gone p x8 (T8.out.at k p HP.out).2).mono ?_
      rintro e x9 ⟨rfl, hb8⟩
      have T9 := Lib.hid (T8.out.below hb8 (Nat.le_refl _))
      have b9 := b8.trans (hb8.mono b8.size)
      clear hb8 T8 b8
      go_wp2_with fail
      refine (sameRp_zero x9).mono ?_
      rintro e x10 ⟨rfl, hb9⟩
      have T10 := Lib.hid (T9.out.below hb9 (Nat.le_refl _))
      have b10 := b9.trans (hb9.mono b9.size)
      clear hb9 T9 b9
      go_wp2_with fail
      refine (entry_gone p x10 (T10.out.at k p HP.out).2).mono ?_
      rintro e x11 ⟨rfl, hb10⟩
      have T11 := Lib.hid (T10.out.below hb10 (Nat.le_refl _))
      have b11 := b10.trans (hb10.mono b10.size)
      clear hb10 T10 b10
      go_wp2_with fail
      refine (sameE_zero x11).mono ?_
      rintro e x12 ⟨rfl, hb11⟩
      have T12 := Lib.hid (T11.out.below hb11 (Nat.le_refl _))
      have b12 := b11.trans (hb11.mono b11.size)
      clear hb11 T11 b11
      go_wp2_with fail
      refine (done_gone p x12 (T12.out.at k p HP.out).2).mono ?_
      rintro e x13 ⟨rfl, hb12⟩
      have T13 := Lib.hid (T12.out.below hb12 (Nat.le_refl _))
      have b13 := b12.trans (hb12.mono b12.size)
      clear hb12 T12 b12
      go_wp2_with fail
      refine (bad_gone p x13 (T13.out.at k p HP.out).2).mono ?_
      rintro e x14 ⟨rfl, hb13⟩
      have T14 := Lib.hid (T13.out.below hb13 (Nat.le_refl _))
      have b14 := b13.trans (hb13.mono b13.size)
      clear hb13 T13 b13 hq
      go_wp2_with fail
      go_roundw
      case rel => exact ⟨k + 1, by omega, by go_num, T14.out, b14⟩
      case measure => simp [intOf]; omega
    · have i1 : ¬ (k : Int) < 2 := by omega
      go_wp2_with fail
      refine (AW wr).mono ?_
      rintro e x1 ⟨rfl, hb0⟩
      have b1 := hbel.trans (hb0.mono hbel.size)
      go_wp2_with fail
      go_ret
      exact ⟨rfl, b1⟩
end Go.Proofs.YtpjaghaapmbanaaDoor
