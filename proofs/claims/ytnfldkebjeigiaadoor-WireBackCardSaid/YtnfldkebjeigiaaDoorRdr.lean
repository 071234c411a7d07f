/- The reader of wire: take, said, kind, count. Conditions: the reader is one that was made. -/
import Derived.Test.YtnfldkebjeigiaaDoorWVals
import Derived.Test.YtnfldkebjeigiaaDoorSub
namespace Go.Proofs.YtnfldkebjeigiaaDoor
open Go.RowKit
set_option maxRecDepth 20000

/-- Nothing but block rb is written. -/
structure Only (rb : Nat) (w w' : World) : Prop where
  size : w.heap.size ≤ w'.heap.size
  block : ∀ b, b < w.heap.size → b ≠ rb → w'.heap[b]? = w.heap[b]?
  rest : w'.os = w.os ∧ w'.tape = w.tape ∧ w'.output = w.output
theorem Only.refl (rb : Nat) (w : World) : Only rb w w := ⟨Nat.le_refl _, fun _ _ _ => rfl, rfl, rfl, rfl⟩
theorem Only.trans {rb : Nat} {w w' w'' : World} (h : Only rb w w') (h2 : Only rb w' w'') : Only rb w w'' := ⟨Nat.le_trans h.1 h2.1, fun b hb hn => (h2.2 b (Nat.lt_of_lt_of_le hb h.1) hn).trans (h.2 b hb hn), h2.3.1.trans h.3.1, h2.3.2.1.trans h.3.2.1, h2.3.2.2.trans h.3.2.2⟩
theorem Only.set (rb : Nat) (w : World) (i : Nat) (v : Value) : Only rb w (w.setCell ⟨rb, i, none⟩ v) := ⟨by simp, fun b _ hn => heap_setCell_other _ _ _ _ hn, rfl, rfl, rfl⟩
theorem Only.of_below {rb : Nat} {w w' : World} (h : Below w.heap.size w w') : Only rb w w' := ⟨h.size, fun b hb _ => h.block b hb, h.os, h.tape, h.output⟩
/-- What writes a block of its own alone, changes nothing that was there. -/
theorem Only.toBelow {rb B : Nat} {w w' : World} (h : Only rb w w') (hB : B ≤ w.heap.size) (hr : B ≤ rb) : Below B w w' := ⟨h.3.1, h.3.2.1, h.3.2.2, h.1, fun k hk => h.2 k (by omega) (by omega)⟩
theorem Only.below {rb B : Nat} {w w' : World} (h : Only rb w w') (hB : B ≤ w.heap.size) (hr : B ≤ rb) (hd : True) : ∀ b, b < B → w'.heap[b]? = w.heap[b]? := fun b hb => h.2 b (by omega) (by omega)
theorem cell_block {w w' : World} {b o : Nat} (h : w'.heap[b]? = w.heap[b]?) : w'.cell? ⟨b, o, none⟩ = w.cell? ⟨b, o, none⟩ := by simp [World.cell?, h]
/-- Bytes that lie in a block that is not rb. -/
def BytesOff (w : World) (M rb : Nat) (ao : Option Addr) (xs : List Int) : Prop :=
  xs = [] ∨ ∃ b off, ao = some ⟨b, off, none⟩ ∧ b < M ∧ b ≠ rb ∧ ∀ i, i < xs.length → w.cell? ⟨b, off + i, none⟩ = some (.int .u8 (xs.getD i 0))
theorem BytesOff.in {w : World} {M rb : Nat} {ao : Option Addr} {xs : List Int} (h : BytesOff w M rb ao xs) : BytesIn w M ao xs := by
  rcases h with h | ⟨b, off, h1, h2, _, h3⟩
  · exact Or.inl h
  · exact Or.inr ⟨b, off, h1, h2, h3⟩
theorem BytesOff.only {w w' : World} {M rb : Nat} {ao : Option Addr} {xs : List Int} (h : BytesOff w M rb ao xs) (hM : M ≤ w.heap.size) (ho : Only rb w w') : BytesOff w' M rb ao xs := by
  rcases h with h | ⟨b, off, h1, h2, h4, h3⟩
  · exact Or.inl h
  · exact Or.inr ⟨b, off, h1, h2, h4, fun i hi => (cell_block (ho.2 b (by omega) h4)).trans (h3 i hi)⟩
theorem BytesOff.take {w : World} {M rb : Nat} {ao : Option Addr} {xs : List Int} (n : Nat) (h : BytesOff w M rb ao xs) : BytesOff w M rb ao (xs.take n) := by
  rcases h with h | ⟨b, off, h1, h2, h4, h3⟩
  · exact Or.inl (by rw [h]; simp)
  · refine Or.inr ⟨b, off, h1, h2, h4, fun i hi => ?_⟩
    rw [List.length_take] at hi
    rw [h3 i (by omega)]
    simp [List.getD, List.getElem?_take, show i < n by omega]
theorem BytesOff.drop {w : World} {M rb cap : Nat} {ao : Option Addr} {xs : List Int} (n : Nat) (hc : xs.length ≤ cap) (h : BytesOff w M rb ao xs) : BytesOff w M rb (subA ao cap n 1) (xs.drop n) := by
  by_cases hn : xs.length ≤ n
  · exact Or.inl (List.drop_of_length_le hn)
  · rcases h with h | ⟨b, off, h1, h2, h4, h3⟩
    · exact Or.inl (by rw [h]; simp)
    · subst h1
      have e : subA (some ⟨b, off, none⟩) cap n 1 = some ⟨b, off + n, none⟩ := by
        unfold subA; rw [if_neg (by omega)]; show some (Addr.add ⟨b, off, none⟩ (n * 1)) = _; rw [Go.WideShapes.add_plain, Nat.mul_one]
      rw [e]
      refine Or.inr ⟨b, off + n, rfl, h2, h4, fun i hi => ?_⟩
      rw [List.length_drop] at hi
      rw [Nat.add_assoc, h3 _ (by omega)]
      simp [List.getD]
/-- Block rb is a reader: whether something was not there, and what is left. -/
structure RdrIs (w : World) (M rb : Nat) (bad : Bool) (left : List Int) (a : Option Addr) (c : Nat) : Prop where
  blk : w.heap[rb]? = some (.cells #[.bool true, .bool bad, .slice a left.length c] 77 (0, 0))
  off : BytesOff w M rb a left
  cap : left.length ≤ c
  nil : a = none → c = 0
  le : M ≤ w.heap.size
theorem RdrIs.lt {w : World} {M rb : Nat} {bad : Bool} {left : List Int} {a : Option Addr} {c : Nat} (h : RdrIs w M rb bad left a c) : rb < w.heap.size := (Array.getElem?_eq_some_iff.1 h.blk).1
def Rdr (w : World) (M rb : Nat) (bad : Bool) (left : List Int) : Prop := ∃ a c, RdrIs w M rb bad left a c
theorem Rdr.below {w w' : World} {M rb : Nat} {bad : Bool} {left : List Int} (h : Rdr w M rb bad left) (hb : Below w.heap.size w w') : Rdr w' M rb bad left := by
  obtain ⟨a, c, h⟩ := h
  exact ⟨a, c, (hb.block rb h.lt).trans h.blk, h.off.only h.le (Only.of_below hb), h.cap, h.nil, Nat.le_trans h.le hb.size⟩
theorem RdrIs.setBad {w : World} {M rb : Nat} {bad : Bool} {left : List Int} {a : Option Addr} {c : Nat} (h : RdrIs w M rb bad left a c) (x : Bool) : RdrIs (w.setCell ⟨rb, 1, none⟩ (.bool x)) M rb x left a c :=
  ⟨Go.Joins.block_setCell (i := 1) h.blk (.bool x), h.off.only h.le (Only.set _ _ _ _), h.cap, h.nil, by simpa using h.le⟩
/-- A store into a block that is not the reader's, nor its bytes'. -/
theorem Rdr.other {w : World} {M rb g i : Nat} {bad : Bool} {left : List Int} (h : Rdr w M rb bad left) (hg : M ≤ g) (hr : g ≠ rb) (v : Value) : Rdr (w.setCell ⟨g, i, none⟩ v) M rb bad left := by
  obtain ⟨a, c, h⟩ := h
  refine ⟨a, c, (heap_setCell_other _ _ _ _ (Ne.symm hr)).trans h.blk, ?_, h.cap, h.nil, by simpa using h.le⟩
  rcases h.off with h0 | ⟨b, off, h1, h2, h4, h3⟩
  · exact Or.inl h0
  · exact Or.inr ⟨b, off, h1, h2, h4, fun j hj => (cell_block (heap_setCell_other _ _ _ _ (show b ≠ g by omega))).trans (h3 j hj)⟩
/-- What take does. -/
def takeS (n : Nat) (bad : Bool) (left : List Int) : List Int × Bool × List Int := if bad = true ∨ left.length < n then ([], true, left) else (left.take n, false, left.drop n)
def TookAt (M rb : Nat) (r : List Int × Bool × List Int) (w : World) (e : Ending) (w' : World) : Prop :=
  ∃ a c, e = .returned (.slice a r.1.length c) ∧ BytesOff w' M rb a r.1 ∧ (a = none → c = 0) ∧ r.1.length ≤ c ∧ Rdr w' M rb r.2.1 r.2.2 ∧ Only rb w w'
set_option maxHeartbeats 1000000 in
theorem take_any (M rb n : Nat) (bad : Bool) (left : List Int) (w : World) (h : Rdr w M rb bad left) (hl : left.length ≤ 140737488351232) (hn : n ≤ 1099511627776) :
    Calls Tryd.prog 53 #[.pointer (some ⟨rb, 0, none⟩), .int .i64 n] w (TookAt M rb (takeS n bad left) w) := by
  obtain ⟨a, c, h⟩ := h
  obtain ⟨m, hm⟩ : ∃ m, left.length = m := ⟨_, rfl⟩
  have hblk := h.blk
  rw [hm] at hblk hl
  have d1 : w.cell? ⟨rb, 1, none⟩ = some (.bool bad) := Go.Joins.cell_of_block hblk 1
  have d2 : w.cell? ⟨rb, 2, none⟩ = some (.slice a m c) := Go.Joins.cell_of_block hblk 2
  have f1 : w.frozen? ⟨rb, 1, none⟩ = false := Go.Joins.unfrozen_of_block hblk 1
  have f2 : w.frozen? ⟨rb, 2, none⟩ = false := Go.Joins.unfrozen_of_block hblk 2
  have H := Lib.hid h
  have HM := Lib.hid hm
  cases bad with
  | true =>
    have hs : takeS n true left = ([], true, left) := if_pos (Or.inl rfl)
    rw [hs]
    clear h hm hblk hs
    go_enter Tryd.func53, Tryd.ntmps53
    go_wp2_with fail
    go_ret
    exact ⟨none, 0, rfl, Or.inl rfl, fun _ => rfl, by simp, ⟨a, c, H.out.setBad true⟩, Only.set _ _ _ _⟩
  | false =>
    by_cases hlt : m < n
    · have hs : takeS n false left = ([], true, left) := if_pos (Or.inr (by rw [hm]; exact hlt))
      rw [hs]
      have i1 : (m : Int) < n := by omega
      clear h hm hblk hs
      go_enter Tryd.func53, Tryd.ntmps53
      go_wp2_with fail
      go_ret
      exact ⟨none, 0, rfl, Or.inl rfl, fun _ => rfl, by simp, ⟨a, c, H.out.setBad true⟩, Only.set _ _ _ _⟩
    · have hs : takeS n false left = (left.take n, false, left.drop n) := if_neg (by rw [hm]; simp; omega)
      rw [hs]
      have i1 : ¬ (m : Int) < n := by omega
      have i2 : (n : Int) ≤ m := by omega
      have hcap := H.out.cap
      rw [HM.out] at hcap
      have hsl1 : ∀ w', (Instr.sliceAt 47 (.slice a m c) none (some (.int .i64 (n : Int))) none).run Tryd.prog w' = .ok (.slice (subA a c 0 1) n c) w' := fun w' => run_sub_h sliceByte sizeByte a m c n (by omega) .i64 n rfl w'
      have hsl2 : ∀ w', (Instr.sliceAt 47 (.slice a m c) (some (.int .i64 (n : Int))) none none).run Tryd.prog w' = .ok (.slice (subA a c n 1) (m - n) (c - n)) w' := fun w' => run_sub_l sliceByte sizeByte a m c n (by omega) .i64 n rfl w'
      clear h hm hblk hs
      go_enter Tryd.func53, Tryd.ntmps53
      go_wp2_with fail
      go_ret
      have hlt1 : (left.take n).length = n := by rw [List.length_take, HM.out]; omega
      have hld : (left.drop n).length = m - n := by rw [List.length_drop, HM.out]
      have h1 := H.out.setBad false
      have ho : Only rb w ((w.setCell ⟨rb, 1, none⟩ (.bool false)).setCell ⟨rb, 2, none⟩ (.slice (subA a c n 1) (m - n) (c - n))) := (Only.set _ _ _ _).trans (Only.set _ _ _ _)
      have hoff := H.out.off.only H.out.le ho
      have hc2 : left.length ≤ c := H.out.cap
      refine ⟨subA a c 0 1, c, by rw [hlt1]; rfl, ?_, fun e => H.out.nil (subA_eq_none e), by rw [hlt1]; omega, ⟨subA a c n 1, c - n, ?_, ?_, ?_, ?_, ?_⟩, ho⟩
      · have := (hoff.drop 0 hc2).take n
        rwa [List.drop_zero] at this
      · rw [hld]
        exact Go.Joins.block_setCell (i := 2) h1.blk (.slice (subA a c n 1) (m - n) (c - n))
      · exact hoff.drop n hc2
      · rw [hld]; omega
      · intro e
        have := H.out.nil (subA_eq_none e)
        omega
      · have := H.out.le
        simpa using this
end Go.Proofs.YtnfldkebjeigiaaDoor
