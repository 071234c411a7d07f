/- The reader of wire: take, said, kind, count. Conditions: the reader is one that was made. -/
import Derived.Test.YtnhnabcpkaeaaaaGreatDoorGWalNone2
import Derived.Test.YtnhnabcpkaeaaaaGreatDoorGWalNone0
import Derived.Deep.RegionHeld3
import Derived.Lib.SlBytesRow
import Derived.Lib.BufferRead
set_option linter.unusedVariables false
set_option linter.unusedSimpArgs false
namespace Go.Proofs.YtnhnabcpkaeaaaaGreatDoor
open Go.RowKit
set_option maxRecDepth 20000
/-- Nothing but block rb is written. -/
structure Only (rb : Nat) (w w' : World) : Prop where
  size : w.heap.size ≤ w'.heap.size
  block : ∀ b, b < w.heap.size → b ≠ rb → w'.heap[b]? = w.heap[b]?
  rest : w'.os = w.os ∧ w'.tape = w.tape ∧ w'.output = w.output
theorem Only.refl (rb : Nat) (w : World) : Only rb w w := ⟨Nat.le_refl _, fun _ _ _ => rfl, rfl, rfl, rfl⟩
theorem Only.trans {rb : Nat} {w w' w'' : World} (h : Only rb w w') (h2 : Only rb w' w'') : Only rb w w'' := ⟨Nat.le_trans h.1 h2.1, fun b hb hn => (h2.2 b (Nat.lt_of_lt_of_le hb h.1) hn).trans (h.2 b hb hn), h2.3.1.trans h.3.1, h2.3.2.1.trans h.3.2.1, h2.3.2.2.trans h.3.2.2⟩
theorem Only.set (rb : Nat) (w : World) (i : Nat) (v : Value) : Only rb w (w.setCell ⟨rb, i, none⟩ v) := ⟨by simp, fun b _ hn => heap_setCell_other _ _ _ _ hn, rfl, rfl, rfl⟩
theorem Only.of_below {rb : Nat} {w w' : World} (h : Below w.heap.size w w') : Only rb w w' := ⟨h.size, fun b hb _ => h.block b hb, h.os, h.tape, h.output⟩
/-- What writes a block of its own alone, changes nothing that was there. -/
theorem Only.toBelow {rb B : Nat} {w w' : World} (h : Only rb w w') (hB : B ≤ w.heap.size) (hr : B ≤ rb) : Below B w w' := ⟨h.3.1, h.3.2.1, h.3.2.2, h.1, fun k hk => h.2 k (by omega) (by omega)⟩
theorem cell_block {w w' : World} {b o : Nat} (h : w'.heap[b]? = w.heap[b]?) : w'.cell? ⟨b, o, none⟩ = w.cell? ⟨b, o, none⟩ := by simp [World.cell?, h]
/-- Bytes that lie in a block that is not rb. -/
def BytesOff (w : World) (M rb : Nat) (ao : Option Addr) (xs : List Int) : Prop :=
  xs = [] ∨ ∃ b off, ao = some ⟨b, off, none⟩ ∧ b < M ∧ b ≠ rb ∧ ∀ i, i < xs.length → w.cell? ⟨b, off + i, none⟩ = some (.int .u8 (xs.getD i 0))
theorem BytesOff.only {w w' : World} {M rb : Nat} {ao : Option Addr} {xs : List Int} (h : BytesOff w M rb ao xs) (hM : M ≤ w.heap.size) (ho : Only rb w w') : BytesOff w' M rb ao xs := by
  rcases h with h | ⟨b, off, h1, h2, h4, h3⟩
  · exact Or.inl h
  · exact Or.inr ⟨b, off, h1, h2, h4, fun i hi => (cell_block (ho.2 b (by omega) h4)).trans (h3 i hi)⟩
theorem BytesOff.take {w : World} {M rb : Nat} {ao : Option Addr} {xs : List Int} (n : Nat) (h : BytesOff w M rb ao xs) : BytesOff w M rb ao (xs.take n) := by
  rcases h with h | ⟨b, off, h1, h2, h4, h3⟩
  · exact Or.inl (by rw [h]; simp)
  · refine Or.inr ⟨b, off, h1, h2, h4, fun i hi => ?_⟩
    rw [List.length_take] at hi
    rw [h3 i (by omega)]
    simp [List.getD, List.getElem?_take, show i < n by omega]
theorem BytesOff.drop {w : World} {M rb cap : Nat} {ao : Option Addr} {xs : List Int} (n : Nat) (hc : xs.length ≤ cap) (h : BytesOff w M rb ao xs) : BytesOff w M rb (subA ao cap n 1) (xs.drop n) := by
  by_cases hn : xs.length ≤ n
  · exact Or.inl (List.drop_of_length_le hn)
  · rcases h with h | ⟨b, off, h1, h2, h4, h3⟩
    · exact Or.inl (by rw [h]; simp)
    · subst h1
      have e : subA (some ⟨b, off, none⟩) cap n 1 = some ⟨b, off + n, none⟩ := by
        unfold subA; rw [if_neg (by omega)]; show some (Addr.add ⟨b, off, none⟩ (n * 1)) = _; rw [Go.WideShapes.add_plain, Nat.mul_one]
      rw [e]
      refine Or.inr ⟨b, off + n, rfl, h2, h4, fun i hi => ?_⟩
      rw [List.length_drop] at hi
      rw [Nat.add_assoc, h3 _ (by omega)]
      simp [List.getD]
/-- Block rb is a reader: whether something was not there, and what is left. -/
structure RdrIs (w : World) (M rb : Nat) (bad : Bool) (left : List Int) (a : Option Addr) (c : Nat) : Prop where
  blk : w.heap[rb]? = some (.cells #[.bool true, .bool bad, .slice a left.length c] 148 (0, 0))
  off : BytesOff w M rb a left
  cap : left.length ≤ c
  nil : a = none → c = 0
  le : M ≤ w.heap.size
theorem RdrIs.lt {w : World} {M rb : Nat} {bad : Bool} {left : List Int} {a : Option Addr} {c : Nat} (h : RdrIs w M rb bad left a c) : rb < w.heap.size := (Array.getElem?_eq_some_iff.1 h.blk).1
def Rdr (w : World) (M rb : Nat) (bad : Bool) (left : List Int) : Prop := ∃ a c, RdrIs w M rb bad left a c
theorem Rdr.below {w w' : World} {M rb : Nat} {bad : Bool} {left : List Int} (h : Rdr w M rb bad left) (hb : Below w.heap.size w w') : Rdr w' M rb bad left := by
  obtain ⟨a, c, h⟩ := h
  exact ⟨a, c, (hb.block rb h.lt).trans h.blk, h.off.only h.le (Only.of_below hb), h.cap, h.nil, Nat.le_trans h.le hb.size⟩
theorem RdrIs.setBad {w : World} {M rb : Nat} {bad : Bool} {left : List Int} {a : Option Addr} {c : Nat} (h : RdrIs w M rb bad left a c) (x : Bool) : RdrIs (w.setCell ⟨rb, 1, none⟩ (.bool x)) M rb x left a c :=
  ⟨Go.Joins.block_setCell (i := 1) h.blk (.bool x), h.off.only h.le (Only.set _ _ _ _), h.cap, h.nil, by simpa using h.le⟩
/-- A store into a block that is not the reader's, nor its bytes'. -/
theorem Rdr.other {w : World} {M rb g i : Nat} {bad : Bool} {left : List Int} (h : Rdr w M rb bad left) (hg : M ≤ g) (hr : g ≠ rb) (v : Value) : Rdr (w.setCell ⟨g, i, none⟩ v) M rb bad left := by
  obtain ⟨a, c, h⟩ := h
  refine ⟨a, c, (heap_setCell_other _ _ _ _ (Ne.symm hr)).trans h.blk, ?_, h.cap, h.nil, by simpa using h.le⟩
  rcases h.off with h0 | ⟨b, off, h1, h2, h4, h3⟩
  · exact Or.inl h0
  · exact Or.inr ⟨b, off, h1, h2, h4, fun j hj => (cell_block (heap_setCell_other _ _ _ _ (show b ≠ g by omega))).trans (h3 j hj)⟩
/-- What take does. -/
def takeS (n : Nat) (bad : Bool) (left : List Int) : List Int × Bool × List Int := if bad = true ∨ left.length < n then ([], true, left) else (left.take n, false, left.drop n)
def TookAt (M rb : Nat) (r : List Int × Bool × List Int) (w : World) (e : Ending) (w' : World) : Prop :=
  ∃ a c, e = .returned (.slice a r.1.length c) ∧ BytesOff w' M rb a r.1 ∧ (a = none → c = 0) ∧ r.1.length ≤ c ∧ Rdr w' M rb r.2.1 r.2.2 ∧ Only rb w w'
set_option maxHeartbeats 1000000 in
theorem take_any (M rb n : Nat) (bad : Bool) (left : List Int) (w : World) (h : Rdr w M rb bad left) (hl : left.length ≤ 140737488351232) (hn : n ≤ 1099511627776) :
    Calls Tryz.prog 123 #[.pointer (some ⟨rb, 0, none⟩), .int .i64 n] w (TookAt M rb (takeS n bad left) w) := by
  obtain ⟨a, c, h⟩ := h
  obtain ⟨m, hm⟩ : ∃ m, left.length = m := ⟨_, rfl⟩
  have hblk := h.blk
  rw [hm] at hblk hl
  have d1 : w.cell? ⟨rb, 1, none⟩ = some (.bool bad) := Go.Joins.cell_of_block hblk 1
  have d2 : w.cell? ⟨rb, 2, none⟩ = some (.slice a m c) := Go.Joins.cell_of_block hblk 2
  have f1 : w.frozen? ⟨rb, 1, none⟩ = false := Go.Joins.unfrozen_of_block hblk 1
  have f2 : w.frozen? ⟨rb, 2, none⟩ = false := Go.Joins.unfrozen_of_block hblk 2
  have H := Lib.hid h
  have HM := Lib.hid hm
  cases bad with
  | true =>
    have hs : takeS n true left = ([], true, left) := if_pos (Or.inl rfl)
    rw [hs]
    clear h hm hblk hs
    go_enter Tryz.func123, Tryz.ntmps123
    go_wp2_with fail
    go_ret
    exact ⟨none, 0, rfl, Or.inl rfl, fun _ => rfl, by simp, ⟨a, c, H.out.setBad true⟩, Only.set _ _ _ _⟩
  | false =>
    by_cases hlt : m < n
    · have hs : takeS n false left = ([], true, left) := if_pos (Or.inr (by rw [hm]; exact hlt))
      rw [hs]
      have i1 : (m : Int) < n := by omega
      clear h hm hblk hs
      go_enter Tryz.func123, Tryz.ntmps123
      go_wp2_with fail
      go_ret
      exact ⟨none, 0, rfl, Or.inl rfl, fun _ => rfl, by simp, ⟨a, c, H.out.setBad true⟩, Only.set _ _ _ _⟩
    · have hs : takeS n false left = (left.take n, false, left.drop n) := if_neg (by rw [hm]; simp; omega)
      rw [hs]
      have i1 : ¬ (m : Int) < n := by omega
      have i2 : (n : Int) ≤ m := by omega
      have hcap := H.out.cap
      rw [HM.out] at hcap
      have hsl1 : ∀ w', (Instr.sliceAt 22 (.slice a m c) none (some (.int .i64 (n : Int))) none).run Tryz.prog w' = .ok (.slice (subA a c 0 1) n c) w' := fun w' => run_sub_h sliceByte sizeByte a m c n (by omega) .i64 n rfl w'
      have hsl2 : ∀ w', (Instr.sliceAt 22 (.slice a m c) (some (.int .i64 (n : Int))) none none).run Tryz.prog w' = .ok (.slice (subA a c n 1) (m - n) (c - n)) w' := fun w' => run_sub_l sliceByte sizeByte a m c n (by omega) .i64 n rfl w'
      clear h hm hblk hs
      go_enter Tryz.func123, Tryz.ntmps123
      go_wp2_with fail
      go_ret
      have hlt1 : (left.take n).length = n := by rw [List.length_take, HM.out]; omega
      have hld : (left.drop n).length = m - n := by rw [List.length_drop, HM.out]
      have h1 := H.out.setBad false
      have ho : Only rb w ((w.setCell ⟨rb, 1, none⟩ (.bool false)).setCell ⟨rb, 2, none⟩ (.slice (subA a c n 1) (m - n) (c - n))) := (Only.set _ _ _ _).trans (Only.set _ _ _ _)
      have hoff := H.out.off.only H.out.le ho
      have hc2 : left.length ≤ c := H.out.cap
      refine ⟨subA a c 0 1, c, by rw [hlt1]; rfl, ?_, fun e => H.out.nil (subA_eq_none e), by rw [hlt1]; omega, ⟨subA a c n 1, c - n, ?_, ?_, ?_, ?_, ?_⟩, ho⟩
      · have := (hoff.drop 0 hc2).take n
        rwa [List.drop_zero] at this
      · rw [hld]
        exact Go.Joins.block_setCell (i := 2) h1.blk (.slice (subA a c n 1) (m - n) (c - n))
      · exact hoff.drop n hc2
      · rw [hld]; omega
      · intro e
        have := H.out.nil (subA_eq_none e)
        omega
      · have := H.out.le
        simpa using this
end Go.Proofs.YtnhnabcpkaeaaaaGreatDoor
/- The reader of wire: said, kind, count. Conditions: the reader is one that was made. -/
namespace Go.Proofs.YtnhnabcpkaeaaaaGreatDoor
open Go.RowKit
set_option maxRecDepth 20000
theorem or_byte (V x : Int) (h0 : 0 ≤ x) (h1 : x < 256) : bits .or .i64 (wrap64 (V * 256)) x = IntKind.i64.wrap (V * 256 + x) := by
  obtain ⟨y, rfl⟩ : ∃ y : Nat, x = y := ⟨x.toNat, by omega⟩
  have e1 : wrap64 (V * 256) = IntKind.i64.wrap (V * 256) := by simp only [wrap64, IntKind.wrap_i64]
  rw [e1]
  obtain ⟨m, hm⟩ : ∃ m : Nat, (m : Int) = (V * 256) % 18446744073709551616 := ⟨((V * 256) % 18446744073709551616).toNat, by omega⟩
  have h256 : m % 256 = 0 := by omega
  have hml : m < 18446744073709551616 := by omega
  have g1 : (BitVec.ofInt 64 (IntKind.i64.wrap (V * 256))).toNat = m := by
    rw [BitVec.toNat_ofInt, IntKind.wrap_i64]
    omega
  have g2 : (BitVec.ofInt 64 (y : Int)).toNat = y := by
    rw [BitVec.ofInt_natCast, BitVec.toNat_ofNat]; exact Nat.mod_eq_of_lt (by omega)
  show IntKind.i64.wrap ((BitVec.ofInt 64 (IntKind.i64.wrap (V * 256)) ||| BitVec.ofInt 64 (y : Int)).toNat : Int) = _
  rw [BitVec.toNat_or, g1, g2]
  have h := Nat.two_pow_add_eq_or_of_lt (i := 8) (b := y) (by omega) (m / 256)
  have e : 2 ^ 8 * (m / 256) = m := by omega
  rw [e] at h
  rw [← h, IntKind.wrap_i64, IntKind.wrap_i64]
  omega
def SaidAt (M rb : Nat) (v : Int) (bad : Bool) (left : List Int) (w : World) (e : Ending) (w' : World) : Prop :=
  e = .returned (.int .i64 v) ∧ Rdr w' M rb bad left ∧ Only rb w w'
set_option maxHeartbeats 1000000 in
theorem said_any (M rb n : Nat) (bad : Bool) (left : List Int) (w : World) (h : Rdr w M rb bad left) (hw : BytesWf left) (hl : left.length ≤ 140737488351232) (hn : n ≤ 8) :
    Calls Tryz.prog 98 #[.pointer (some ⟨rb, 0, none⟩), .int .i64 n] w (SaidAt M rb (IntKind.i64.wrap (getN (takeS n bad left).1)) (takeS n bad left).2.1 (takeS n bad left).2.2 w) := by
  have H := Lib.hid h
  obtain ⟨got, bad2, left2, hts⟩ : ∃ got bad2 left2, takeS n bad left = (got, bad2, left2) := ⟨_, _, _, rfl⟩
  have hgw : BytesWf got := by
    intro x hx
    unfold takeS at hts
    split at hts
    · obtain ⟨rfl, _⟩ := Prod.mk.injEq .. ▸ hts
      cases hx
    · obtain ⟨rfl, _⟩ := Prod.mk.injEq .. ▸ hts
      exact hw x (List.mem_of_mem_take hx)
  have hgl : got.length ≤ n := by
    unfold takeS at hts
    split at hts
    · obtain ⟨rfl, _⟩ := Prod.mk.injEq .. ▸ hts
      simp
    · obtain ⟨rfl, _⟩ := Prod.mk.injEq .. ▸ hts
      exact List.length_take_le _ _
  rw [hts]
  dsimp only
  have HT := Lib.hid hts
  have HGW := Lib.hid hgw
  clear h hts hgw hw
  go_enter Tryz.func98, Tryz.ntmps98
  go_wp2_with fail
  refine (take_any M rb n bad left w H.out hl (by omega)).mono ?_
  rintro e w1 ht
  rw [HT.out] at ht
  obtain ⟨a, c, rfl, ho, hnil, hc, hr, hon⟩ := ht
  dsimp only at ho hr hc ⊢
  obtain ⟨g, hg⟩ : ∃ g, got.length = g := ⟨_, rfl⟩
  rw [hg] at hc hgl ⊢
  have HG := Lib.hid hg
  have HO := Lib.hid ho
  have HR := Lib.hid hr
  have HON := Lib.hid hon
  clear hg ho hr hon hnil
  go_wp2_with fail
  go_loopw [5, 12] (fun v i wr => ∃ k : Nat, k ≤ g ∧ i = .int .i64 k ∧ v = .int .i64 (IntKind.i64.wrap (getN (got.take k))) ∧ wr = w1) (fun _ i _ => g - (intOf i).toNat)
  case atStart => exact ⟨0, by omega, rfl, by rfl, rfl⟩
  case round =>
    obtain ⟨k, hk, rfl, rfl, rfl⟩ := hrel
    by_cases hlt : k < g
    · rcases HO.out with h0 | ⟨b, off, hao, hb, _, hcell⟩
      · have := HG.out; rw [h0] at this; simp at this; omega
      have hkx : k < got.length := by rw [HG.out]; exact hlt
      have c0 := hcell k hkx
      have hx := HGW.out (got.getD k 0) (by simp [List.getD, List.getElem?_eq_getElem hkx])
      have hsn : getN (got.take (k + 1)) = getN (got.take k) * 256 + got.getD k 0 := by
        rw [List.take_succ_eq_append_getElem hkx, getN_snoc]
        simp [List.getD, List.getElem?_eq_getElem hkx]
      generalize got.getD k 0 = x at c0 hx hsn
      obtain ⟨N, hN⟩ : ∃ N, getN (got.take k) = N := ⟨_, rfl⟩
      rw [hN] at hsn ⊢
      obtain ⟨V, hV⟩ : ∃ V, IntKind.i64.wrap N = V := ⟨_, rfl⟩
      rw [hV]
      have HSN := Lib.hid hsn
      have HN := Lib.hid hN
      have HV := Lib.hid hV
      have i1 : (k : Int) < g := by omega
      subst hao
      obtain ⟨hx0, hx1⟩ := hx
      clear hcell hsn hN hV
      go_wp2_with fail
      go_roundw
      case rel =>
        refine ⟨k + 1, by omega, by go_num, ?_, by trivial⟩
        rw [HSN.out, or_byte V x hx0 hx1, ← HV.out]
        congr 1
        rw [IntKind.wrap_i64, IntKind.wrap_i64, IntKind.wrap_i64]
        omega
      case measure => simp [intOf]; omega
    · obtain rfl : k = g := by omega
      have hf : got.take k = got := List.take_of_length_le (by rw [HG.out]; exact Nat.le_refl _)
      rw [hf]
      clear hf
      go_wp2_with fail
      go_ret
      exact ⟨rfl, HR.out, HON.out⟩
end Go.Proofs.YtnhnabcpkaeaaaaGreatDoor
/- The reader of wire: kind, count, known, Number, whole. Conditions: the reader is one that was made. -/
namespace Go.Proofs.YtnhnabcpkaeaaaaGreatDoor
open Go.RowKit
set_option maxRecDepth 20000
theorem Rdr.cells {w : World} {M rb : Nat} {bad : Bool} {left : List Int} (h : Rdr w M rb bad left) : ∃ a c, w.cell? ⟨rb, 0, none⟩ = some (.bool true) ∧ w.cell? ⟨rb, 1, none⟩ = some (.bool bad) ∧ w.cell? ⟨rb, 2, none⟩ = some (.slice a left.length c) ∧ w.frozen? ⟨rb, 1, none⟩ = false := by
  obtain ⟨a, c, h⟩ := h
  exact ⟨a, c, Go.Joins.cell_of_block h.blk 0, Go.Joins.cell_of_block h.blk 1, Go.Joins.cell_of_block h.blk 2, Go.Joins.unfrozen_of_block h.blk 1⟩
theorem Rdr.setBad {w : World} {M rb : Nat} {bad : Bool} {left : List Int} (h : Rdr w M rb bad left) (x : Bool) : Rdr (w.setCell ⟨rb, 1, none⟩ (.bool x)) M rb x left := by
  obtain ⟨a, c, h⟩ := h
  exact ⟨a, c, h.setBad x⟩
theorem Rdr.lt {w : World} {M rb : Nat} {bad : Bool} {left : List Int} (h : Rdr w M rb bad left) : rb < w.heap.size := by obtain ⟨a, c, h⟩ := h; exact h.lt
theorem known_any (M rb : Nat) (bad : Bool) (left : List Int) (w : World) (h : Rdr w M rb bad left) :
    Calls Tryz.prog 97 #[.pointer (some ⟨rb, 0, none⟩)] w fun e w' => e = .returned (.bool true) ∧ w = w' := by
  obtain ⟨a, c, d0, _, _, _⟩ := h.cells
  clear h
  go_enter Tryz.func97, Tryz.ntmps97
  go_wp2_with fail
  go_ret
  exact ⟨rfl, rfl⟩
theorem takeS_wf {n : Nat} {bad : Bool} {left : List Int} (h : BytesWf left) : BytesWf (takeS n bad left).1 ∧ BytesWf (takeS n bad left).2.2 ∧ (takeS n bad left).1.length ≤ n ∧ (takeS n bad left).2.2.length ≤ left.length := by
  unfold takeS
  split
  · exact ⟨(fun x hx => by cases hx), h, by simp, Nat.le_refl _⟩
  · exact ⟨h.take n, h.drop n, List.length_take_le _ _, by simp⟩
theorem getN_small {l : List Int} (h : BytesWf l) {n : Nat} (hl : l.length ≤ n) : 0 ≤ getN l ∧ getN l < 256 ^ n := by
  have h1 := getN_bound l h
  refine ⟨h1.1, Int.lt_of_lt_of_le h1.2 ?_⟩
  have : (256 : Nat) ^ l.length ≤ 256 ^ n := Nat.pow_le_pow_right (by decide) hl
  exact_mod_cast this
theorem kind_any (M rb : Nat) (bad : Bool) (left : List Int) (w : World) (h : Rdr w M rb bad left) (hw : BytesWf left) (hl : left.length ≤ 140737488351232) :
    Calls Tryz.prog 100 #[.pointer (some ⟨rb, 0, none⟩)] w fun e w' => e = .returned (.int .u8 (getN (takeS 1 bad left).1)) ∧ Rdr w' M rb (takeS 1 bad left).2.1 (takeS 1 bad left).2.2 ∧ Only rb w w' := by
  have H := Lib.hid h
  have hs := said_any M rb 1 bad left w h hw hl (by omega)
  have hb := getN_small (takeS_wf (n := 1) (bad := bad) hw).1 (takeS_wf (n := 1) (bad := bad) hw).2.2.1
  generalize (takeS 1 bad left) = r at hs hb ⊢
  obtain ⟨got, bad2, left2⟩ := r
  dsimp only at hs hb ⊢
  obtain ⟨N, hN⟩ : ∃ N, getN got = N := ⟨_, rfl⟩
  rw [hN] at hs hb ⊢
  have hN2 : IntKind.i64.wrap N = N := IntWalk.i64_in _ (by omega)
  rw [hN2] at hs
  have HS := Lib.hid hs
  have hb1 : 0 ≤ N := hb.1
  have hb2 : N ≤ 255 := by have := hb.2; omega
  clear hs hb hN hN2 h
  go_enter Tryz.func100, Tryz.ntmps100
  go_wp2_with fail
  refine HS.out.mono ?_
  rintro e w1 ⟨rfl, hr, ho⟩
  have HR := Lib.hid hr
  clear hr
  go_wp2_with fail
  go_ret
  exact ⟨rfl, HR.out, ho⟩
/-- What count tells. -/
def countS (bad : Bool) (left : List Int) : Int × Bool × List Int := if (takeS 4 bad left).2.1 = true ∨ 65536 < getN (takeS 4 bad left).1 then (0, true, (takeS 4 bad left).2.2) else (getN (takeS 4 bad left).1, false, (takeS 4 bad left).2.2)
theorem count_rd (M rb : Nat) (bad : Bool) (left : List Int) (w : World) (h : Rdr w M rb bad left) (hw : BytesWf left) (hl : left.length ≤ 140737488351232) :
    Calls Tryz.prog 127 #[.pointer (some ⟨rb, 0, none⟩)] w (SaidAt M rb (countS bad left).1 (countS bad left).2.1 (countS bad left).2.2 w) := by
  have hs := said_any M rb 4 bad left w h hw hl (by omega)
  have hb := getN_small (takeS_wf (n := 4) (bad := bad) hw).1 (takeS_wf (n := 4) (bad := bad) hw).2.2.1
  unfold countS
  generalize (takeS 4 bad left) = r at hs hb ⊢
  obtain ⟨got, bad2, left2⟩ := r
  dsimp only at hs hb ⊢
  obtain ⟨N, hN⟩ : ∃ N, getN got = N := ⟨_, rfl⟩
  rw [hN] at hs hb ⊢
  have hN2 : IntKind.i64.wrap N = N := IntWalk.i64_in _ (by omega)
  rw [hN2] at hs
  have HS := Lib.hid hs
  have hb1 : 0 ≤ N := hb.1
  have hb2 : N ≤ 4294967295 := by have := hb.2; omega
  clear hs hb hN hN2 h
  cases bad2 with
  | true =>
    rw [if_pos (Or.inl rfl)]
    dsimp only
    go_enter Tryz.func127, Tryz.ntmps127
    go_wp2_with fail
    refine HS.out.mono ?_
    rintro e w1 ⟨rfl, hr, ho⟩
    obtain ⟨a, c, _, d1, _, f1⟩ := hr.cells
    have HR := Lib.hid hr
    have HO := Lib.hid ho
    clear hr ho
    go_wp2_with fail
    go_ret
    exact ⟨rfl, HR.out.setBad true, HO.out.trans (Only.set _ _ _ _)⟩
  | false =>
    by_cases hgt : 65536 < N
    · rw [if_pos (Or.inr hgt)]
      dsimp only
      go_enter Tryz.func127, Tryz.ntmps127
      go_wp2_with fail
      refine HS.out.mono ?_
      rintro e w1 ⟨rfl, hr, ho⟩
      obtain ⟨a, c, _, d1, _, f1⟩ := hr.cells
      have HR := Lib.hid hr
      have HO := Lib.hid ho
      clear hr ho
      go_wp2_with fail
      go_ret
      exact ⟨rfl, HR.out.setBad true, HO.out.trans (Only.set _ _ _ _)⟩
    · rw [if_neg (by simp; omega)]
      dsimp only
      have hle : N ≤ 65536 := by omega
      have hd : decide ((65536 : Int) < N) = false := by simpa using hle
      go_enter Tryz.func127, Tryz.ntmps127
      go_wp2_with fail
      refine HS.out.mono ?_
      rintro e w1 ⟨rfl, hr, ho⟩
      obtain ⟨a, c, _, d1, _, f1⟩ := hr.cells
      have HR := Lib.hid hr
      have HO := Lib.hid ho
      clear hr ho
      go_wp2_with fail
      go_ret
      exact ⟨rfl, HR.out.setBad false, HO.out.trans (Only.set _ _ _ _)⟩
theorem number_rd (M rb : Nat) (bad : Bool) (left : List Int) (w : World) (h : Rdr w M rb bad left) (hw : BytesWf left) (hl : left.length ≤ 140737488351232) :
    Calls Tryz.prog 68 #[.pointer (some ⟨rb, 0, none⟩)] w (SaidAt M rb (IntKind.i64.wrap (getN (takeS 8 bad left).1)) (takeS 8 bad left).2.1 (takeS 8 bad left).2.2 w) := by
  have HK := Lib.hid (known_any M rb bad left w h)
  have HS := Lib.hid (said_any M rb 8 bad left w h hw hl (by omega))
  clear h
  generalize IntKind.i64.wrap (getN (takeS 8 bad left).1) = V at HS ⊢
  go_enter Tryz.func68, Tryz.ntmps68
  go_wp2_with fail
  refine HK.out.mono ?_
  rintro e w1 ⟨rfl, rfl⟩
  go_wp2_with fail
  refine HS.out.mono ?_
  rintro e w1 ⟨rfl, hr, ho⟩
  have HR := Lib.hid hr
  clear hr
  go_wp2_with fail
  go_ret
  exact ⟨rfl, HR.out, ho⟩
end Go.Proofs.YtnhnabcpkaeaaaaGreatDoor
/- The reader of wire: NewReader, Bad, Done. Conditions: as each says. -/
namespace Go.Proofs.YtnhnabcpkaeaaaaGreatDoor
open Go.RowKit
set_option maxRecDepth 20000
theorem done_rd (M rb : Nat) (bad : Bool) (left : List Int) (w : World) (h : Rdr w M rb bad left) :
    Calls Tryz.prog 69 #[.pointer (some ⟨rb, 0, none⟩)] w fun e w' => e = .returned (.bool (!bad && left.isEmpty)) ∧ w = w' := by
  have HK := Lib.hid (known_any M rb bad left w h)
  obtain ⟨a, c, _, d1, d2, _⟩ := h.cells
  clear h
  cases bad with
  | true =>
    go_enter Tryz.func69, Tryz.ntmps69
    go_wp2_with fail
    refine HK.out.mono ?_
    rintro e w1 ⟨rfl, rfl⟩
    go_wp2_with fail
    go_ret
    exact ⟨rfl, rfl⟩
  | false =>
    obtain ⟨n, hn⟩ : ∃ n, left.length = n := ⟨_, rfl⟩
    rw [hn] at d2
    have he : left.isEmpty = decide (n = 0) := by rw [← hn]; cases left <;> simp
    rw [he]
    clear hn he
    by_cases h0 : n = 0
    · subst h0
      go_enter Tryz.func69, Tryz.ntmps69
      go_wp2_with fail
      refine HK.out.mono ?_
      rintro e w1 ⟨rfl, rfl⟩
      go_wp2_with fail
      go_ret
      exact ⟨rfl, rfl⟩
    · have d3 : decide (n = 0) = false := by simpa using h0
      have d4 : ¬ (n : Int) = 0 := by omega
      have d5 : decide ((n : Int) = 0) = false := by simpa using h0
      have d6 : ((n : Int) == 0) = false := by simpa using h0
      rw [d3]
      go_enter Tryz.func69, Tryz.ntmps69
      go_wp2_with fail
      refine HK.out.mono ?_
      rintro e w1 ⟨rfl, rfl⟩
      go_wp2_with fail
      go_ret
      exact ⟨rfl, rfl⟩
theorem newReader_any (ao : Option Addr) (n cap : Nat) (xs : List Int) (w : World) (B : Nat) (hn : xs.length = n) (hx : BytesIn w B ao xs) (hB : B ≤ w.heap.size) (hao : ao = none → cap = 0) (hl : n ≤ 140737488351232) :
    Calls Tryz.prog 66 #[.slice ao n cap] w fun e w' => ∃ rb, e = .returned (.pointer (some ⟨rb, 0, none⟩)) ∧ w.heap.size ≤ rb ∧ Rdr w' rb rb false xs ∧ Below w.heap.size w w' := by
  subst hn
  have HX := Lib.hid hx
  have HA := Lib.hid hao
  clear hx hao
  go_enter Tryz.func66, Tryz.ntmps66
  go_wp2_with fail
  refine (clone_any ao cap xs w B HX.out hB HA.out hl).mono ?_
  rintro e w1 ⟨v, rfl, ho, hb⟩
  obtain ⟨a, c, hv⟩ := row_slice ho
  subst hv
  have HO := Lib.hid ho
  clear ho
  go_wp2_with fail
  go_ret
  have hA : Below w1.heap.size w1 (w1.alloc (.cells #[.bool true, .bool false, .slice a xs.length c] 148)) := (Below.refl _ _).alloc (Nat.le_refl _) _
  refine ⟨w1.heap.size, rfl, hb.size, ⟨a, c, heap_alloc_new w1 _, ?_, own_capG HO.out, own_none HO.out, by simp⟩, hb.alloc hb.size _⟩
  rcases (own_bytes' HO.out) with h | ⟨b, off, h1, h2, h3⟩
  · exact Or.inl h
  · refine Or.inr ⟨b, off, h1, h2, by omega, fun i hi => ?_⟩
    rw [hA.cell (p := ⟨b, _, none⟩) h2]
    exact h3 i hi
end Go.Proofs.YtnhnabcpkaeaaaaGreatDoor
/- Steps of a region that draws its order, guarded operations included, each taken by its number. Any program. Conditions: as each says. -/
namespace Go.Proofs.YtnhnabcpkaeaaaaGreatDoor
open Go.RowKit
variable {P : Program} {md : Region.Mode} {ops : Array Oper} {Q : Exit → Act → World → Prop}
/-- An operation that its guard passes over. -/
theorem take_no (i : Nat) {oi : Oper} {fuel : Nat} {listed : Array Bool} {a : Act} {w : World} (hi : ops.toList[i]? = some oi) (hs : Region.noSelect ops = true) (hf : Region.free md ops listed i = true) (hr : (Region.ready md ops listed).contains i = true)
    (hQ : ∀ c a w, Q (.panic c) (a.put oi.dst undef) w → Q (.panic c) a w) (hw : Region.wanted oi (yielded ops a.tmps) = false) (h : wpAnyH P md ops Q (fun _ => True) fuel (listed.setIfInBounds i true) (a.put oi.dst undef) w) : wpAnyH P md ops Q (fun _ => True) (fuel + 1) listed a w :=
  wpAnyH_take (by rw [← Array.getElem?_toList]; exact hi) hs hf hr hQ (Or.inr ⟨hw, rfl⟩) trivial h
/-- An operation that yields the same in whatever world. -/
theorem take_yes (i : Nat) {oi : Oper} {v : Value} {fuel : Nat} {listed : Array Bool} {a : Act} {w : World} (hi : ops.toList[i]? = some oi) (hs : Region.noSelect ops = true) (hf : Region.free md ops listed i = true) (hr : (Region.ready md ops listed).contains i = true)
    (hQ : ∀ c a w, Q (.panic c) (a.put oi.dst v) w → Q (.panic c) a w) (hw : Region.wanted oi (yielded ops a.tmps) = true) (hy : ∀ w, (execOp a.eval oi).run P w = .ok (.value v) w) (h : wpAnyH P md ops Q (fun _ => True) fuel (listed.setIfInBounds i true) (a.put oi.dst v) w) : wpAnyH P md ops Q (fun _ => True) (fuel + 1) listed a w :=
  wpAnyH_take (by rw [← Array.getElem?_toList]; exact hi) hs hf hr hQ (Or.inl ⟨hw, fun w _ => hy w⟩) trivial h
/-- An operation that alone may come up. -/
theorem take_alone (i : Nat) {oi : Oper} {fuel : Nat} {listed : Array Bool} {a : Act} {w : World} (hi : ops.toList[i]? = some oi) (hr : Region.ready md ops listed = [i]) (hw : Region.wanted oi (yielded ops a.tmps) = true)
    (h : ∀ K' : Act → World → Prop, Shut (∀ a w, wpAnyH P md ops Q (fun _ => True) fuel (listed.setIfInBounds i true) a w → K' a w) → Oper.wp P oi a w K' Q) : wpAnyH P md ops Q (fun _ => True) (fuel + 1) listed a w :=
  wpAnyH_ready (rs := [i]) hr (by simp) (AllReadyH.cons (by rw [← Array.getElem?_toList]; exact hi) (fun K hK => by rw [if_pos hw]; exact h K (fun a w hW => hK.out a w trivial (fun _ => hW))) AllReadyH.nil)
theorem held_begin {id : Nat} {a : Act} {w : World} (hm : P.follows .mixedOrders = true) (h : wpAnyH P .any ops Q (fun _ => True) ops.size (Array.replicate ops.size false) a w.drew) : (Code.region id ops true).wp P Q a w :=
  wp_region_held_drew hm trivial (fun _ => h)
end Go.Proofs.YtnhnabcpkaeaaaaGreatDoor
/- The reader of wire: Text. Conditions: the reader is one that was made. -/
namespace Go.Proofs.YtnhnabcpkaeaaaaGreatDoor
open Go.RowKit
set_option maxRecDepth 20000
/-- The text that bytes say. -/
def strN (l : List Int) : ByteArray := strOfNums l
theorem conv_text {w : World} {M rb c : Nat} {a : Option Addr} {l : List Int} (h : BytesOff w M rb a l) (hn : a = none → c = 0) : (convert 22 9 (.slice a l.length c)).run Tryz.prog w = .ok (.string (strN l)) w := by
  rcases h with rfl | ⟨b, off, rfl, _, _, h3⟩
  · cases a with
    | none =>
      rw [run_convert_bytes_string w _ _ 5 none _ c Tryz.underlying22 Tryz.underlying5 Tryz.underlying9]
      simp [Conv.bytesToString]
      rfl
    | some ad =>
      rw [run_convert_bytes_string w _ _ 5 (some ad) _ c Tryz.underlying22 Tryz.underlying5 Tryz.underlying9]
      simp [Conv.bytesToString]
      rfl
  · exact run_convert_bytes_arg w _ 5 Tryz.underlying22 Tryz.underlying5 b off l.length c l rfl h3 _ Tryz.underlying9
/-- What Text tells. -/
def textS (bad : Bool) (left : List Int) : ByteArray × Bool × List Int :=
  let r := takeS (countS bad left).1.toNat (countS bad left).2.1 (countS bad left).2.2
  (strN r.1, r.2.1, r.2.2)
theorem countS_wf {bad : Bool} {left : List Int} (h : BytesWf left) : 0 ≤ (countS bad left).1 ∧ (countS bad left).1 ≤ 65536 ∧ BytesWf (countS bad left).2.2 ∧ (countS bad left).2.2.length ≤ left.length := by
  have h1 := takeS_wf (n := 4) (bad := bad) h
  have h2 := getN_small h1.1 h1.2.2.1
  unfold countS
  split
  · exact ⟨by simp, by simp, h1.2.1, h1.2.2.2⟩
  · rename_i hc
    exact ⟨h2.1, by show getN _ ≤ _; rcases Int.lt_or_le 65536 (getN (takeS 4 bad left).1) with h | h; exact absurd (Or.inr h) hc; exact h, h1.2.1, h1.2.2.2⟩
set_option maxHeartbeats 1000000 in
theorem text_rd (M rb : Nat) (bad : Bool) (left : List Int) (w : World) (h : Rdr w M rb bad left) (hw : BytesWf left) (hl : left.length ≤ 140737488351232) :
    Calls Tryz.prog 124 #[.pointer (some ⟨rb, 0, none⟩)] w fun e w' => e = .returned (.string (textS bad left).1) ∧ Rdr w' M rb (textS bad left).2.1 (textS bad left).2.2 ∧ Only rb w w' := by
  have HK := Lib.hid (known_any M rb bad left w h)
  have hcw := countS_wf (bad := bad) hw
  have hct := fun w1 (hr : Rdr w1 M rb bad left) => count_rd M rb bad left w1 hr hw hl
  unfold textS
  generalize countS bad left = r at hcw hct ⊢
  obtain ⟨n, b1, l1⟩ := r
  dsimp only at hcw hct ⊢
  obtain ⟨hn0, hn1, hl1w, hl1⟩ := hcw
  obtain ⟨m, rfl⟩ : ∃ m : Nat, n = m := ⟨n.toNat, by omega⟩
  rw [Int.toNat_natCast]
  obtain ⟨q, hq⟩ : ∃ q, takeS m b1 l1 = q := ⟨_, rfl⟩
  have HTK := Lib.hid (fun w1 (hr : Rdr w1 M rb b1 l1) => hq ▸ take_any M rb m b1 l1 w1 hr (by omega) (by omega))
  rw [hq]
  have HCT := Lib.hid hct
  have H := Lib.hid h
  clear h hct hq hw hl1w
  obtain ⟨got, b2, l2⟩ := q
  dsimp only
  go_enter Tryz.func124, Tryz.ntmps124
  go_wp2_with fail
  refine HK.out.mono ?_
  rintro e w1 ⟨rfl, rfl⟩
  go_wp2_with fail
  have hd : Rdr w.drew M rb bad left := H.out.below (Below.refl _ _).drew
  have HD := Lib.hid hd
  clear hd
  refine held_begin (by kernel_rfl) ?_
  (first | (refine take_no 0 rfl (by kernel_rfl) (by kernel_rfl) (by kernel_rfl) (fun _ _ _ h => h) (by rfl) ?_) | (refine take_yes (v := ?_) 0 rfl (by kernel_rfl) (by kernel_rfl) (by kernel_rfl) (fun _ _ _ h => h) (by rfl) ?_ ?_; rotate_left; focus (intro wS; go_simp; first | done | with_reducible rfl)))
  (try simp only [Act.put, List.setIfInBounds_toArray, List.set_cons_zero, List.set_cons_succ])
  (first | (refine take_no 1 rfl (by kernel_rfl) (by kernel_rfl) (by kernel_rfl) (fun _ _ _ h => h) (by rfl) ?_) | (refine take_yes (v := ?_) 1 rfl (by kernel_rfl) (by kernel_rfl) (by kernel_rfl) (fun _ _ _ h => h) (by rfl) ?_ ?_; rotate_left; focus (intro wS; go_simp; first | done | with_reducible rfl)))
  (try simp only [Act.put, List.setIfInBounds_toArray, List.set_cons_zero, List.set_cons_succ])
  (first | (refine take_no 2 rfl (by kernel_rfl) (by kernel_rfl) (by kernel_rfl) (fun _ _ _ h => h) (by rfl) ?_) | (refine take_yes (v := ?_) 2 rfl (by kernel_rfl) (by kernel_rfl) (by kernel_rfl) (fun _ _ _ h => h) (by rfl) ?_ ?_; rotate_left; focus (intro wS; go_simp; first | done | with_reducible rfl)))
  (try simp only [Act.put, List.setIfInBounds_toArray, List.set_cons_zero, List.set_cons_succ])
  (first | (refine take_no 3 rfl (by kernel_rfl) (by kernel_rfl) (by kernel_rfl) (fun _ _ _ h => h) (by rfl) ?_) | (refine take_yes (v := ?_) 3 rfl (by kernel_rfl) (by kernel_rfl) (by kernel_rfl) (fun _ _ _ h => h) (by rfl) ?_ ?_; rotate_left; focus (intro wS; go_simp; first | done | with_reducible rfl)))
  (try simp only [Act.put, List.setIfInBounds_toArray, List.set_cons_zero, List.set_cons_succ])
  (first | (refine take_no 4 rfl (by kernel_rfl) (by kernel_rfl) (by kernel_rfl) (fun _ _ _ h => h) (by rfl) ?_) | (refine take_yes (v := ?_) 4 rfl (by kernel_rfl) (by kernel_rfl) (by kernel_rfl) (fun _ _ _ h => h) (by rfl) ?_ ?_; rotate_left; focus (intro wS; go_simp; first | done | with_reducible rfl)))
  (try simp only [Act.put, List.setIfInBounds_toArray, List.set_cons_zero, List.set_cons_succ])
  (first | (refine take_no 5 rfl (by kernel_rfl) (by kernel_rfl) (by kernel_rfl) (fun _ _ _ h => h) (by rfl) ?_) | (refine take_yes (v := ?_) 5 rfl (by kernel_rfl) (by kernel_rfl) (by kernel_rfl) (fun _ _ _ h => h) (by rfl) ?_ ?_; rotate_left; focus (intro wS; go_simp; first | done | with_reducible rfl)))
  (try simp only [Act.put, List.setIfInBounds_toArray, List.set_cons_zero, List.set_cons_succ])
  refine take_alone 6 rfl (by kernel_rfl) (by rfl) (fun K hK => ?_)
  go_simp
  (refine (HCT.out _ HD.out).mono ?_; rintro e w2 ⟨rfl, hr2, ho2⟩; have HR2 := Lib.hid hr2; have HO2 := Lib.hid ho2; clear hr2 ho2)
  refine hK.out _ _ ?_
  clear hK K
  (try simp only [Act.put, List.setIfInBounds_toArray, List.set_cons_zero, List.set_cons_succ])
  refine take_alone 7 rfl (by kernel_rfl) (by rfl) (fun K hK => ?_)
  go_simp
  (refine (HTK.out _ HR2.out).mono ?_; rintro e w3 ⟨a, c, rfl, hoff, hnil, hcap, hr3, ho3⟩; have hconv := conv_text hoff hnil; dsimp only at hconv hr3 ⊢; have HR3 := Lib.hid hr3; have HO3 := Lib.hid (HO2.out.trans ho3); clear hr3 ho3 hoff hnil hcap)
  refine hK.out _ _ ?_
  clear hK K
  (try simp only [Act.put, List.setIfInBounds_toArray, List.set_cons_zero, List.set_cons_succ])
  refine take_alone 8 rfl (by kernel_rfl) (by rfl) (fun K hK => ?_)
  go_simp
  skip
  refine hK.out _ _ ?_
  clear hK K
  (try simp only [Act.put, List.setIfInBounds_toArray, List.set_cons_zero, List.set_cons_succ])
  (first | (refine take_no 9 rfl (by kernel_rfl) (by kernel_rfl) (by kernel_rfl) (fun _ _ _ h => h) (by rfl) ?_) | (refine take_yes (v := ?_) 9 rfl (by kernel_rfl) (by kernel_rfl) (by kernel_rfl) (fun _ _ _ h => h) (by rfl) ?_ ?_; rotate_left; focus (intro wS; go_simp; first | done | with_reducible rfl)))
  (try simp only [Act.put, List.setIfInBounds_toArray, List.set_cons_zero, List.set_cons_succ])
  refine wpAnyH_done (by kernel_rfl) ?_ _
  clear hconv
  go_wp2_with fail
  go_ret
  exact ⟨rfl, HR3.out, ⟨HO3.out.1, HO3.out.2, HO3.out.3⟩⟩
end Go.Proofs.YtnhnabcpkaeaaaaGreatDoor
/- The reader of wire: sure of a value; Value. Conditions: the reader is one that was made. -/
namespace Go.Proofs.YtnhnabcpkaeaaaaGreatDoor
open Go.RowKit
set_option maxRecDepth 20000
def Va.val (v : Va) : Value := .agg #[.int .u8 v.kind, .int .i64 v.num, .string v.text]
def Va.none : Va := ⟨0, 0, ByteArray.empty⟩
set_option maxHeartbeats 1000000 in
theorem sureV_rd (M rb : Nat) (bad : Bool) (left : List Int) (kd num : Int) (text : ByteArray) (w : World) (h : Rdr w M rb bad left) :
    Calls Tryz.prog 151 #[.pointer (some ⟨rb, 0, none⟩), .agg #[.int .u8 kd, .int .i64 num, .string text]] w fun e w' => e = .returned (if bad then Va.none.val else .agg #[.int .u8 kd, .int .i64 num, .string text]) ∧ Below w.heap.size w w' := by
  obtain ⟨a, c, _, d1, _, _⟩ := h.cells
  have hlt := h.lt
  have dA : ∀ o1 o2 o3, (((w.alloc o1).alloc o2).alloc o3).cell? ⟨rb, 1, none⟩ = some (.bool bad) := fun o1 o2 o3 => by
    have hb := (((Below.refl w.heap.size w).alloc (Nat.le_refl _) o1).alloc (by simp) o2).alloc (by simp; omega) o3
    rw [hb.cell (p := ⟨rb, 1, none⟩) hlt]; exact d1
  clear h d1
  cases bad with
  | true =>
    go_enter Tryz.func151, Tryz.ntmps151
    go_wp2_with fail
    exact bodyPost_ret (v := .agg #[.int .u8 0, .int .i64 0, .string ByteArray.empty]) (by simp [results, Tryz.results151, go_sem]; rfl) rfl ⟨rfl, (((Below.refl w.heap.size w).alloc (Nat.le_refl _) _).alloc (by simp) _).alloc (by simp; omega) _⟩
  | false =>
    go_enter Tryz.func151, Tryz.ntmps151
    go_wp2_with fail
    exact bodyPost_ret (v := .agg #[.int .u8 kd, .int .i64 num, .string text]) (by simp [results, Tryz.results151, go_sem]) rfl ⟨rfl, (((Below.refl w.heap.size w).alloc (Nat.le_refl _) _).alloc (by simp) _).alloc (by simp; omega) _⟩
end Go.Proofs.YtnhnabcpkaeaaaaGreatDoor
