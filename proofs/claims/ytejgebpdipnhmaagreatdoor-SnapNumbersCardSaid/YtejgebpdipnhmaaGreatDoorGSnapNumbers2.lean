/- The reader of wire: take, said, kind, count. Conditions: the reader is one that was made. -/
import Derived.Test.YtejgebpdipnhmaaGreatDoorGSnapNumbers1
import Derived.Test.YtejgebpdipnhmaaGreatDoorGSnapNumbers0
import Derived.Deep.RegionHeld3
import Derived.Lib.SlBytesRow
import Derived.Lib.BufferRead
import Derived.BigQuiet
import Derived.Laws.BitsAllLaws
set_option linter.unusedVariables false
set_option linter.unusedSimpArgs false
namespace Go.Proofs.YtejgebpdipnhmaaGreatDoor
open Go.RowKit
set_option maxRecDepth 20000
/-- Nothing but block rb is written. -/
structure Only (rb : Nat) (w w' : World) : Prop where
  size : w.heap.size ≤ w'.heap.size
  block : ∀ b, b < w.heap.size → b ≠ rb → w'.heap[b]? = w.heap[b]?
  rest : w'.os = w.os ∧ w'.tape = w.tape ∧ w'.output = w.output
theorem Only.trans {rb : Nat} {w w' w'' : World} (h : Only rb w w') (h2 : Only rb w' w'') : Only rb w w'' := ⟨Nat.le_trans h.1 h2.1, fun b hb hn => (h2.2 b (Nat.lt_of_lt_of_le hb h.1) hn).trans (h.2 b hb hn), h2.3.1.trans h.3.1, h2.3.2.1.trans h.3.2.1, h2.3.2.2.trans h.3.2.2⟩
theorem Only.set (rb : Nat) (w : World) (i : Nat) (v : Value) : Only rb w (w.setCell ⟨rb, i, none⟩ v) := ⟨by simp, fun b _ hn => heap_setCell_other _ _ _ _ hn, rfl, rfl, rfl⟩
theorem Only.of_below {rb : Nat} {w w' : World} (h : Below w.heap.size w w') : Only rb w w' := ⟨h.size, fun b hb _ => h.block b hb, h.os, h.tape, h.output⟩
/-- What writes a block of its own alone, changes nothing that was there. -/
theorem Only.toBelow {rb B : Nat} {w w' : World} (h : Only rb w w') (hB : B ≤ w.heap.size) (hr : B ≤ rb) : Below B w w' := ⟨h.3.1, h.3.2.1, h.3.2.2, h.1, fun k hk => h.2 k (by omega) (by omega)⟩
theorem cell_block {w w' : World} {b o : Nat} (h : w'.heap[b]? = w.heap[b]?) : w'.cell? ⟨b, o, none⟩ = w.cell? ⟨b, o, none⟩ := by simp [World.cell?, h]
/-- Bytes that lie in a block that is not rb. -/
def BytesOff (w : World) (M rb : Nat) (ao : Option Addr) (xs : List Int) : Prop :=
  xs = [] ∨ ∃ b off, ao = some ⟨b, off, none⟩ ∧ b < M ∧ b ≠ rb ∧ ∀ i, i < xs.length → w.cell? ⟨b, off + i, none⟩ = some (.int .u8 (xs.getD i 0))
theorem BytesOff.in {w : World} {M rb : Nat} {ao : Option Addr} {xs : List Int} (h : BytesOff w M rb ao xs) : BytesIn w M ao xs := by
  rcases h with h | ⟨b, off, h1, h2, _, h3⟩
  · exact Or.inl h
  · exact Or.inr ⟨b, off, h1, h2, h3⟩
theorem BytesOff.only {w w' : World} {M rb : Nat} {ao : Option Addr} {xs : List Int} (h : BytesOff w M rb ao xs) (hM : M ≤ w.heap.size) (ho : Only rb w w') : BytesOff w' M rb ao xs := by
  rcases h with h | ⟨b, off, h1, h2, h4, h3⟩
  · exact Or.inl h
  · exact Or.inr ⟨b, off, h1, h2, h4, fun i hi => (cell_block (ho.2 b (by omega) h4)).trans (h3 i hi)⟩
theorem BytesOff.take {w : World} {M rb : Nat} {ao : Option Addr} {xs : List Int} (n : Nat) (h : BytesOff w M rb ao xs) : BytesOff w M rb ao (xs.take n) := by
  rcases h with h | ⟨b, off, h1, h2, h4, h3⟩
  · exact Or.inl (by rw [h]; simp)
  · refine Or.inr ⟨b, off, h1, h2, h4, fun i hi => ?_⟩
    rw [List.length_take] at hi
    rw [h3 i (by omega)]
    simp [List.getD, List.getElem?_take, show i < n by omega]
theorem BytesOff.drop {w : World} {M rb cap : Nat} {ao : Option Addr} {xs : List Int} (n : Nat) (hc : xs.length ≤ cap) (h : BytesOff w M rb ao xs) : BytesOff w M rb (subA ao cap n 1) (xs.drop n) := by
  by_cases hn : xs.length ≤ n
  · exact Or.inl (List.drop_of_length_le hn)
  · rcases h with h | ⟨b, off, h1, h2, h4, h3⟩
    · exact Or.inl (by rw [h]; simp)
    · subst h1
      have e : subA (some ⟨b, off, none⟩) cap n 1 = some ⟨b, off + n, none⟩ := by
        unfold subA; rw [if_neg (by omega)]; show some (Addr.add ⟨b, off, none⟩ (n * 1)) = _; rw [Go.WideShapes.add_plain, Nat.mul_one]
      rw [e]
      refine Or.inr ⟨b, off + n, rfl, h2, h4, fun i hi => ?_⟩
      rw [List.length_drop] at hi
      rw [Nat.add_assoc, h3 _ (by omega)]
      simp [List.getD]
/-- Block rb is a reader: whether something was not there, and what is left. -/
structure RdrIs (w : World) (M rb : Nat) (bad : Bool) (left : List Int) (a : Option Addr) (c : Nat) : Prop where
  blk : w.heap[rb]? = some (.cells #[.bool true, .bool bad, .slice a left.length c] 134 (0, 0))
  off : BytesOff w M rb a left
  cap : left.length ≤ c
  nil : a = none → c = 0
  le : M ≤ w.heap.size
theorem RdrIs.lt {w : World} {M rb : Nat} {bad : Bool} {left : List Int} {a : Option Addr} {c : Nat} (h : RdrIs w M rb bad left a c) : rb < w.heap.size := (Array.getElem?_eq_some_iff.1 h.blk).1
def Rdr (w : World) (M rb : Nat) (bad : Bool) (left : List Int) : Prop := ∃ a c, RdrIs w M rb bad left a c
theorem Rdr.below {w w' : World} {M rb : Nat} {bad : Bool} {left : List Int} (h : Rdr w M rb bad left) (hb : Below w.heap.size w w') : Rdr w' M rb bad left := by
  obtain ⟨a, c, h⟩ := h
  exact ⟨a, c, (hb.block rb h.lt).trans h.blk, h.off.only h.le (Only.of_below hb), h.cap, h.nil, Nat.le_trans h.le hb.size⟩
theorem RdrIs.setBad {w : World} {M rb : Nat} {bad : Bool} {left : List Int} {a : Option Addr} {c : Nat} (h : RdrIs w M rb bad left a c) (x : Bool) : RdrIs (w.setCell ⟨rb, 1, none⟩ (.bool x)) M rb x left a c :=
  ⟨Go.Joins.block_setCell (i := 1) h.blk (.bool x), h.off.only h.le (Only.set _ _ _ _), h.cap, h.nil, by simpa using h.le⟩
/-- A store into a block that is not the reader's, nor its bytes'. -/
theorem Rdr.other {w : World} {M rb g i : Nat} {bad : Bool} {left : List Int} (h : Rdr w M rb bad left) (hg : M ≤ g) (hr : g ≠ rb) (v : Value) : Rdr (w.setCell ⟨g, i, none⟩ v) M rb bad left := by
  obtain ⟨a, c, h⟩ := h
  refine ⟨a, c, (heap_setCell_other _ _ _ _ (Ne.symm hr)).trans h.blk, ?_, h.cap, h.nil, by simpa using h.le⟩
  rcases h.off with h0 | ⟨b, off, h1, h2, h4, h3⟩
  · exact Or.inl h0
  · exact Or.inr ⟨b, off, h1, h2, h4, fun j hj => (cell_block (heap_setCell_other _ _ _ _ (show b ≠ g by omega))).trans (h3 j hj)⟩
/-- What take does. -/
def takeS (n : Nat) (bad : Bool) (left : List Int) : List Int × Bool × List Int := if bad = true ∨ left.length < n then ([], true, left) else (left.take n, false, left.drop n)
def TookAt (M rb : Nat) (r : List Int × Bool × List Int) (w : World) (e : Ending) (w' : World) : Prop :=
  ∃ a c, e = .returned (.slice a r.1.length c) ∧ BytesOff w' M rb a r.1 ∧ (a = none → c = 0) ∧ r.1.length ≤ c ∧ Rdr w' M rb r.2.1 r.2.2 ∧ Only rb w w'
set_option maxHeartbeats 1000000 in
theorem take_any (M rb n : Nat) (bad : Bool) (left : List Int) (w : World) (h : Rdr w M rb bad left) (hl : left.length ≤ 140737488351232) (hn : n ≤ 1099511627776) :
    Calls Tryz.prog 175 #[.pointer (some ⟨rb, 0, none⟩), .int .i64 n] w (TookAt M rb (takeS n bad left) w) := by
  obtain ⟨a, c, h⟩ := h
  obtain ⟨m, hm⟩ : ∃ m, left.length = m := ⟨_, rfl⟩
  have hblk := h.blk
  rw [hm] at hblk hl
  have d1 : w.cell? ⟨rb, 1, none⟩ = some (.bool bad) := Go.Joins.cell_of_block hblk 1
  have d2 : w.cell? ⟨rb, 2, none⟩ = some (.slice a m c) := Go.Joins.cell_of_block hblk 2
  have f1 : w.frozen? ⟨rb, 1, none⟩ = false := Go.Joins.unfrozen_of_block hblk 1
  have f2 : w.frozen? ⟨rb, 2, none⟩ = false := Go.Joins.unfrozen_of_block hblk 2
  have H := Lib.hid h
  have HM := Lib.hid hm
  cases bad with
  | true =>
    have hs : takeS n true left = ([], true, left) := if_pos (Or.inl rfl)
    rw [hs]
    clear h hm hblk hs
    go_enter Tryz.func175, Tryz.ntmps175
    go_wp2_with fail
    go_ret
    exact ⟨none, 0, rfl, Or.inl rfl, fun _ => rfl, by simp, ⟨a, c, H.out.setBad true⟩, Only.set _ _ _ _⟩
  | false =>
    by_cases hlt : m < n
    · have hs : takeS n false left = ([], true, left) := if_pos (Or.inr (by rw [hm]; exact hlt))
      rw [hs]
      have i1 : (m : Int) < n := by omega
      clear h hm hblk hs
      go_enter Tryz.func175, Tryz.ntmps175
      go_wp2_with fail
      go_ret
      exact ⟨none, 0, rfl, Or.inl rfl, fun _ => rfl, by simp, ⟨a, c, H.out.setBad true⟩, Only.set _ _ _ _⟩
    · have hs : takeS n false left = (left.take n, false, left.drop n) := if_neg (by rw [hm]; simp; omega)
      rw [hs]
      have i1 : ¬ (m : Int) < n := by omega
      have i2 : (n : Int) ≤ m := by omega
      have hcap := H.out.cap
      rw [HM.out] at hcap
      have hsl1 : ∀ w', (Instr.sliceAt 24 (.slice a m c) none (some (.int .i64 (n : Int))) none).run Tryz.prog w' = .ok (.slice (subA a c 0 1) n c) w' := fun w' => run_sub_h sliceByte sizeByte a m c n (by omega) .i64 n rfl w'
      have hsl2 : ∀ w', (Instr.sliceAt 24 (.slice a m c) (some (.int .i64 (n : Int))) none none).run Tryz.prog w' = .ok (.slice (subA a c n 1) (m - n) (c - n)) w' := fun w' => run_sub_l sliceByte sizeByte a m c n (by omega) .i64 n rfl w'
      clear h hm hblk hs
      go_enter Tryz.func175, Tryz.ntmps175
      go_wp2_with fail
      go_ret
      have hlt1 : (left.take n).length = n := by rw [List.length_take, HM.out]; omega
      have hld : (left.drop n).length = m - n := by rw [List.length_drop, HM.out]
      have h1 := H.out.setBad false
      have ho : Only rb w ((w.setCell ⟨rb, 1, none⟩ (.bool false)).setCell ⟨rb, 2, none⟩ (.slice (subA a c n 1) (m - n) (c - n))) := (Only.set _ _ _ _).trans (Only.set _ _ _ _)
      have hoff := H.out.off.only H.out.le ho
      have hc2 : left.length ≤ c := H.out.cap
      refine ⟨subA a c 0 1, c, by rw [hlt1]; rfl, ?_, fun e => H.out.nil (subA_eq_none e), by rw [hlt1]; omega, ⟨subA a c n 1, c - n, ?_, ?_, ?_, ?_, ?_⟩, ho⟩
      · have := (hoff.drop 0 hc2).take n
        rwa [List.drop_zero] at this
      · rw [hld]
        exact Go.Joins.block_setCell (i := 2) h1.blk (.slice (subA a c n 1) (m - n) (c - n))
      · exact hoff.drop n hc2
      · rw [hld]; omega
      · intro e
        have := H.out.nil (subA_eq_none e)
        omega
      · have := H.out.le
        simpa using this
end Go.Proofs.YtejgebpdipnhmaaGreatDoor
/- The reader of wire: said, kind, count. Conditions: the reader is one that was made. -/
namespace Go.Proofs.YtejgebpdipnhmaaGreatDoor
open Go.RowKit
set_option maxRecDepth 20000
theorem or_byte (V x : Int) (h0 : 0 ≤ x) (h1 : x < 256) : bits .or .i64 (wrap64 (V * 256)) x = IntKind.i64.wrap (V * 256 + x) := by
  obtain ⟨y, rfl⟩ : ∃ y : Nat, x = y := ⟨x.toNat, by omega⟩
  have e1 : wrap64 (V * 256) = IntKind.i64.wrap (V * 256) := by simp only [wrap64, IntKind.wrap_i64]
  rw [e1]
  obtain ⟨m, hm⟩ : ∃ m : Nat, (m : Int) = (V * 256) % 18446744073709551616 := ⟨((V * 256) % 18446744073709551616).toNat, by omega⟩
  have h256 : m % 256 = 0 := by omega
  have hml : m < 18446744073709551616 := by omega
  have g1 : (BitVec.ofInt 64 (IntKind.i64.wrap (V * 256))).toNat = m := by
    rw [BitVec.toNat_ofInt, IntKind.wrap_i64]
    omega
  have g2 : (BitVec.ofInt 64 (y : Int)).toNat = y := by
    rw [BitVec.ofInt_natCast, BitVec.toNat_ofNat]; exact Nat.mod_eq_of_lt (by omega)
  show IntKind.i64.wrap ((BitVec.ofInt 64 (IntKind.i64.wrap (V * 256)) ||| BitVec.ofInt 64 (y : Int)).toNat : Int) = _
  rw [BitVec.toNat_or, g1, g2]
  have h := Nat.two_pow_add_eq_or_of_lt (i := 8) (b := y) (by omega) (m / 256)
  have e : 2 ^ 8 * (m / 256) = m := by omega
  rw [e] at h
  rw [← h, IntKind.wrap_i64, IntKind.wrap_i64]
  omega
def SaidAt (M rb : Nat) (v : Int) (bad : Bool) (left : List Int) (w : World) (e : Ending) (w' : World) : Prop :=
  e = .returned (.int .i64 v) ∧ Rdr w' M rb bad left ∧ Only rb w w'
set_option maxHeartbeats 1000000 in
theorem said_any (M rb n : Nat) (bad : Bool) (left : List Int) (w : World) (h : Rdr w M rb bad left) (hw : BytesWf left) (hl : left.length ≤ 140737488351232) (hn : n ≤ 8) :
    Calls Tryz.prog 124 #[.pointer (some ⟨rb, 0, none⟩), .int .i64 n] w (SaidAt M rb (IntKind.i64.wrap (getN (takeS n bad left).1)) (takeS n bad left).2.1 (takeS n bad left).2.2 w) := by
  have H := Lib.hid h
  obtain ⟨got, bad2, left2, hts⟩ : ∃ got bad2 left2, takeS n bad left = (got, bad2, left2) := ⟨_, _, _, rfl⟩
  have hgw : BytesWf got := by
    intro x hx
    unfold takeS at hts
    split at hts
    · obtain ⟨rfl, _⟩ := Prod.mk.injEq .. ▸ hts
      cases hx
    · obtain ⟨rfl, _⟩ := Prod.mk.injEq .. ▸ hts
      exact hw x (List.mem_of_mem_take hx)
  have hgl : got.length ≤ n := by
    unfold takeS at hts
    split at hts
    · obtain ⟨rfl, _⟩ := Prod.mk.injEq .. ▸ hts
      simp
    · obtain ⟨rfl, _⟩ := Prod.mk.injEq .. ▸ hts
      exact List.length_take_le _ _
  rw [hts]
  dsimp only
  have HT := Lib.hid hts
  have HGW := Lib.hid hgw
  clear h hts hgw hw
  go_enter Tryz.func124, Tryz.ntmps124
  go_wp2_with fail
  refine (take_any M rb n bad left w H.out hl (by omega)).mono ?_
  rintro e w1 ht
  rw [HT.out] at ht
  obtain ⟨a, c, rfl, ho, hnil, hc, hr, hon⟩ := ht
  dsimp only at ho hr hc ⊢
  obtain ⟨g, hg⟩ : ∃ g, got.length = g := ⟨_, rfl⟩
  rw [hg] at hc hgl ⊢
  have HG := Lib.hid hg
  have HO := Lib.hid ho
  have HR := Lib.hid hr
  have HON := Lib.hid hon
  clear hg ho hr hon hnil
  go_wp2_with fail
  go_loopw [5, 12] (fun v i wr => ∃ k : Nat, k ≤ g ∧ i = .int .i64 k ∧ v = .int .i64 (IntKind.i64.wrap (getN (got.take k))) ∧ wr = w1) (fun _ i _ => g - (intOf i).toNat)
  case atStart => exact ⟨0, by omega, rfl, by rfl, rfl⟩
  case round =>
    obtain ⟨k, hk, rfl, rfl, rfl⟩ := hrel
    by_cases hlt : k < g
    · rcases HO.out with h0 | ⟨b, off, hao, hb, _, hcell⟩
      · have := HG.out; rw [h0] at this; simp at this; omega
      have hkx : k < got.length := by rw [HG.out]; exact hlt
      have c0 := hcell k hkx
      have hx := HGW.out (got.getD k 0) (by simp [List.getD, List.getElem?_eq_getElem hkx])
      have hsn : getN (got.take (k + 1)) = getN (got.take k) * 256 + got.getD k 0 := by
        rw [List.take_succ_eq_append_getElem hkx, getN_snoc]
        simp [List.getD, List.getElem?_eq_getElem hkx]
      generalize got.getD k 0 = x at c0 hx hsn
      obtain ⟨N, hN⟩ : ∃ N, getN (got.take k) = N := ⟨_, rfl⟩
      rw [hN] at hsn ⊢
      obtain ⟨V, hV⟩ : ∃ V, IntKind.i64.wrap N = V := ⟨_, rfl⟩
      rw [hV]
      have HSN := Lib.hid hsn
      have HN := Lib.hid hN
      have HV := Lib.hid hV
      have i1 : (k : Int) < g := by omega
      subst hao
      obtain ⟨hx0, hx1⟩ := hx
      clear hcell hsn hN hV
      go_wp2_with fail
      go_roundw
      case rel =>
        refine ⟨k + 1, by omega, by go_num, ?_, by trivial⟩
        rw [HSN.out, or_byte V x hx0 hx1, ← HV.out]
        congr 1
        rw [IntKind.wrap_i64, IntKind.wrap_i64, IntKind.wrap_i64]
        omega
      case measure => simp [intOf]; omega
    · obtain rfl : k = g := by omega
      have hf : got.take k = got := List.take_of_length_le (by rw [HG.out]; exact Nat.le_refl _)
      rw [hf]
      clear hf
      go_wp2_with fail
      go_ret
      exact ⟨rfl, HR.out, HON.out⟩
end Go.Proofs.YtejgebpdipnhmaaGreatDoor
/- The reader of wire: kind, count, known, Number, whole. Conditions: the reader is one that was made. -/
namespace Go.Proofs.YtejgebpdipnhmaaGreatDoor
open Go.RowKit
set_option maxRecDepth 20000
theorem Rdr.cells {w : World} {M rb : Nat} {bad : Bool} {left : List Int} (h : Rdr w M rb bad left) : ∃ a c, w.cell? ⟨rb, 0, none⟩ = some (.bool true) ∧ w.cell? ⟨rb, 1, none⟩ = some (.bool bad) ∧ w.cell? ⟨rb, 2, none⟩ = some (.slice a left.length c) ∧ w.frozen? ⟨rb, 1, none⟩ = false := by
  obtain ⟨a, c, h⟩ := h
  exact ⟨a, c, Go.Joins.cell_of_block h.blk 0, Go.Joins.cell_of_block h.blk 1, Go.Joins.cell_of_block h.blk 2, Go.Joins.unfrozen_of_block h.blk 1⟩
theorem Rdr.lt {w : World} {M rb : Nat} {bad : Bool} {left : List Int} (h : Rdr w M rb bad left) : rb < w.heap.size := by obtain ⟨a, c, h⟩ := h; exact h.lt
theorem known_any (M rb : Nat) (bad : Bool) (left : List Int) (w : World) (h : Rdr w M rb bad left) :
    Calls Tryz.prog 69 #[.pointer (some ⟨rb, 0, none⟩)] w fun e w' => e = .returned (.bool true) ∧ w = w' := by
  obtain ⟨a, c, d0, _, _, _⟩ := h.cells
  clear h
  go_enter Tryz.func69, Tryz.ntmps69
  go_wp2_with fail
  go_ret
  exact ⟨rfl, rfl⟩
theorem takeS_wf {n : Nat} {bad : Bool} {left : List Int} (h : BytesWf left) : BytesWf (takeS n bad left).1 ∧ BytesWf (takeS n bad left).2.2 ∧ (takeS n bad left).1.length ≤ n ∧ (takeS n bad left).2.2.length ≤ left.length := by
  unfold takeS
  split
  · exact ⟨(fun x hx => by cases hx), h, by simp, Nat.le_refl _⟩
  · exact ⟨h.take n, h.drop n, List.length_take_le _ _, by simp⟩
theorem getN_small {l : List Int} (h : BytesWf l) {n : Nat} (hl : l.length ≤ n) : 0 ≤ getN l ∧ getN l < 256 ^ n := by
  have h1 := getN_bound l h
  refine ⟨h1.1, Int.lt_of_lt_of_le h1.2 ?_⟩
  have : (256 : Nat) ^ l.length ≤ 256 ^ n := Nat.pow_le_pow_right (by decide) hl
  exact_mod_cast this
theorem number_rd (M rb : Nat) (bad : Bool) (left : List Int) (w : World) (h : Rdr w M rb bad left) (hw : BytesWf left) (hl : left.length ≤ 140737488351232) :
    Calls Tryz.prog 68 #[.pointer (some ⟨rb, 0, none⟩)] w (SaidAt M rb (IntKind.i64.wrap (getN (takeS 8 bad left).1)) (takeS 8 bad left).2.1 (takeS 8 bad left).2.2 w) := by
  have HK := Lib.hid (known_any M rb bad left w h)
  have HS := Lib.hid (said_any M rb 8 bad left w h hw hl (by omega))
  clear h
  generalize IntKind.i64.wrap (getN (takeS 8 bad left).1) = V at HS ⊢
  go_enter Tryz.func68, Tryz.ntmps68
  go_wp2_with fail
  refine HK.out.mono ?_
  rintro e w1 ⟨rfl, rfl⟩
  go_wp2_with fail
  refine HS.out.mono ?_
  rintro e w1 ⟨rfl, hr, ho⟩
  have HR := Lib.hid hr
  clear hr
  go_wp2_with fail
  go_ret
  exact ⟨rfl, HR.out, ho⟩
end Go.Proofs.YtejgebpdipnhmaaGreatDoor
/- The reader of wire: NewReader, Bad, Done. Conditions: as each says. -/
namespace Go.Proofs.YtejgebpdipnhmaaGreatDoor
open Go.RowKit
set_option maxRecDepth 20000
theorem bad_rd (M rb : Nat) (bad : Bool) (left : List Int) (w : World) (h : Rdr w M rb bad left) :
    Calls Tryz.prog 33 #[.pointer (some ⟨rb, 0, none⟩)] w fun e w' => e = .returned (.bool bad) ∧ w = w' := by
  have HK := Lib.hid (known_any M rb bad left w h)
  obtain ⟨a, c, _, d1, _, _⟩ := h.cells
  clear h
  go_enter Tryz.func33, Tryz.ntmps33
  go_wp2_with fail
  refine HK.out.mono ?_
  rintro e w1 ⟨rfl, rfl⟩
  go_wp2_with fail
  go_ret
  exact ⟨rfl, rfl⟩
theorem newReader_any (ao : Option Addr) (n cap : Nat) (xs : List Int) (w : World) (B : Nat) (hn : xs.length = n) (hx : BytesIn w B ao xs) (hB : B ≤ w.heap.size) (hao : ao = none → cap = 0) (hl : n ≤ 140737488351232) :
    Calls Tryz.prog 31 #[.slice ao n cap] w fun e w' => ∃ rb, e = .returned (.pointer (some ⟨rb, 0, none⟩)) ∧ w.heap.size ≤ rb ∧ Rdr w' rb rb false xs ∧ Below w.heap.size w w' := by
  subst hn
  have HX := Lib.hid hx
  have HA := Lib.hid hao
  clear hx hao
  go_enter Tryz.func31, Tryz.ntmps31
  go_wp2_with fail
  refine (clone_any ao cap xs w B HX.out hB HA.out hl).mono ?_
  rintro e w1 ⟨v, rfl, ho, hb⟩
  obtain ⟨a, c, hv⟩ := row_slice ho
  subst hv
  have HO := Lib.hid ho
  clear ho
  go_wp2_with fail
  go_ret
  have hA : Below w1.heap.size w1 (w1.alloc (.cells #[.bool true, .bool false, .slice a xs.length c] 134)) := (Below.refl _ _).alloc (Nat.le_refl _) _
  refine ⟨w1.heap.size, rfl, hb.size, ⟨a, c, heap_alloc_new w1 _, ?_, own_capG HO.out, own_none HO.out, by simp⟩, hb.alloc hb.size _⟩
  rcases (own_bytes' HO.out) with h | ⟨b, off, h1, h2, h3⟩
  · exact Or.inl h
  · refine Or.inr ⟨b, off, h1, h2, by omega, fun i hi => ?_⟩
    rw [hA.cell (p := ⟨b, _, none⟩) h2]
    exact h3 i hi
end Go.Proofs.YtejgebpdipnhmaaGreatDoor
/- Steps of a region that draws its order, guarded operations included, each taken by its number. Any program. Conditions: as each says. -/
namespace Go.Proofs.YtejgebpdipnhmaaGreatDoor
open Go.RowKit
variable {P : Program} {md : Region.Mode} {ops : Array Oper} {Q : Exit → Act → World → Prop}
end Go.Proofs.YtejgebpdipnhmaaGreatDoor
/- The reader of wire: Text. Conditions: the reader is one that was made. -/
namespace Go.Proofs.YtejgebpdipnhmaaGreatDoor
open Go.RowKit
set_option maxRecDepth 20000
end Go.Proofs.YtejgebpdipnhmaaGreatDoor
/- The reader of wire: sure of a value; Value. Conditions: the reader is one that was made. -/
namespace Go.Proofs.YtejgebpdipnhmaaGreatDoor
open Go.RowKit
set_option maxRecDepth 20000
end Go.Proofs.YtejgebpdipnhmaaGreatDoor
/- The reader of wire: Value. Conditions: the reader is one that was made. -/
namespace Go.Proofs.YtejgebpdipnhmaaGreatDoor
open Go.RowKit
set_option maxRecDepth 20000
end Go.Proofs.YtejgebpdipnhmaaGreatDoor
/- SameBytes: bytes that read alike are told to be the same. Conditions: the cells lie as their readings say. -/
namespace Go.Proofs.YtejgebpdipnhmaaGreatDoor
open Go.RowKit
set_option maxRecDepth 20000
theorem sameB_any (ao : Option Addr) (n cap : Nat) (co : Option Addr) (m cap2 : Nat) (xs : List Int) (w : World) (hn : xs.length = n) (hm : xs.length = m) (hx : BytesIn w w.heap.size ao xs) (hy : BytesIn w w.heap.size co xs) (hl : n ≤ 4611686018427387904) :
    Calls Tryz.prog 15 #[.slice ao n cap, .slice co m cap2] w fun e w' => e = .returned (.bool true) ∧ Below w.heap.size w w' := by
  obtain rfl : n = m := by omega
  have HX := Lib.hid hx
  have HY := Lib.hid hy
  have HN := Lib.hid hn
  clear hx hy hn hm
  go_enter Tryz.func15, Tryz.ntmps15
  go_wp2_with fail
  go_loopw [5] (fun i wr => ∃ k : Nat, k ≤ n ∧ i = .int .i64 k ∧ Below w.heap.size w wr) (fun i _ => n - (intOf i).toNat)
  case atStart => exact ⟨0, by omega, rfl, Below.refl _ _⟩
  case round =>
    obtain ⟨k, hk, rfl, hbel⟩ := hrel
    by_cases hlt : k < n
    · have hHN := HN.out
      rcases HX.out with h0 | ⟨b, off, rfl, hb, hc⟩
      · rw [h0] at hHN; simp at hHN; omega
      rcases HY.out with h0 | ⟨b2, off2, rfl, hb2, hc2⟩
      · rw [h0] at hHN; simp at hHN; omega
      have d0 := hc k (by omega)
      have d1 := hc2 k (by omega)
      generalize xs.getD k 0 = x at d0 d1
      clear hc hc2 hHN
      have c0 : ∀ x' : Calm w.heap.size w, x'.1.cell? ⟨b, off + k, none⟩ = some (.int .u8 x) := fun x' => x'.cell d0 hb
      have c1 : ∀ x' : Calm w.heap.size w, x'.1.cell? ⟨b2, off2 + k, none⟩ = some (.int .u8 x) := fun x' => x'.cell d1 hb2
      have i1 : (k : Int) < n := by omega
      clear d0 d1
      go_wp2_with fail
      refine wp_region_calm (B := w.heap.size) (W0 := w) hbel (by kernel_rfl) (by kernel_rfl) ?_
      repeat (go_big_quiet_step (fail))
      refine wpQuiet_nil ?_
      intro w5 hb5
      clear c0 c1
      go_wp2_with fail
      go_roundw
      case rel => exact ⟨k + 1, by omega, by go_num, hb5⟩
      case measure => simp [intOf]; omega
    · obtain rfl : k = n := by omega
      go_wp2_with fail
      go_ret
      exact ⟨rfl, hbel⟩
end Go.Proofs.YtejgebpdipnhmaaGreatDoor
/- Join of wire; a reader's Number and Value with what they tell under names. Conditions: as each says. -/
namespace Go.Proofs.YtejgebpdipnhmaaGreatDoor
open Go.RowKit
set_option maxRecDepth 20000
theorem wjoin_x (ao : Option Addr) (n cap : Nat) (ps : List Pt) (L : List Int) (w : World) (B : Nat) (hn : ps.length = n) (hL : ps.flatMap Pt.data = L) (hx : RowsIn 1 ptCells ptSub w B ao ps) (hB : B ≤ w.heap.size) (hw : ∀ p ∈ ps, BytesWf p.data) (hc : n ≤ cap) (hl : L.length ≤ 140737488351232) (hnl : n ≤ 1099511627776) :
    Calls Tryz.prog 19 #[.slice ao n cap] w (JoinedX L w) := by
  have HJ := Lib.hid (join_x ao n cap ps w B hn hx hB hw hc (by rw [hL]; exact hl) hnl)
  rw [hL] at HJ
  clear hn hx hw hL
  go_enter Tryz.func19, Tryz.ntmps19
  go_wp2_with fail
  refine HJ.out.mono ?_
  rintro e w1 ⟨a, c, rfl, h1, h2, h3, h4, h6, h5⟩
  have H := Lib.hid (And.intro h4 h6)
  clear h4 h6
  go_wp2_with fail
  go_ret
  exact ⟨a, c, rfl, h1, h2, h3, H.out.1, H.out.2, h5⟩
theorem wjoin_any (ao : Option Addr) (n cap : Nat) (ps : List Pt) (L : List Int) (w : World) (B : Nat) (hn : ps.length = n) (hL : ps.flatMap Pt.data = L) (hx : RowsIn 1 ptCells ptSub w B ao ps) (hB : B ≤ w.heap.size) (hw : ∀ p ∈ ps, BytesWf p.data) (hc : n ≤ cap) (hl : L.length ≤ 140737488351232) (hnl : n ≤ 1099511627776) :
    Calls Tryz.prog 19 #[.slice ao n cap] w (JoinedAt L w) := (wjoin_x ao n cap ps L w B hn hL hx hB hw hc hl hnl).mono fun _ _ h => h.drop
theorem number_at (M rb : Nat) (bad : Bool) (left : List Int) (v : Int) (b2 : Bool) (l2 : List Int) (w : World) (hs : (IntKind.i64.wrap (getN (takeS 8 bad left).1), (takeS 8 bad left).2) = (v, b2, l2)) (h : Rdr w M rb bad left) (hw : BytesWf left) (hl : left.length ≤ 140737488351232) :
    Calls Tryz.prog 68 #[.pointer (some ⟨rb, 0, none⟩)] w (SaidAt M rb v b2 l2 w) := by
  have := number_rd M rb bad left w h hw hl
  simp only [Prod.mk.injEq] at hs
  obtain ⟨h1, h2⟩ := hs
  rw [h1, h2] at this
  exact this
/-- Bytes of a call's own, with their list under a name. -/
theorem number_w (n : Int) (L : List Int) (w : World) (hL : numB 8 n = L) : Calls Tryz.prog 52 #[.int .i64 n] w (BytesNew L w.heap.size w) := hL ▸ number_any n w
theorem own_in {w : World} {base n c : Nat} {a : Option Addr} {l : List Int} (hn : l.length = n) (h : w.ownsRow base 5 1 (.slice a n c) n (l.map bv)) : BytesIn w w.heap.size a l := by
  subst hn; exact own_bytes' h
end Go.Proofs.YtejgebpdipnhmaaGreatDoor
/- SameInts, SameValues, SameCommand, SameEntry, SameEntries: what reads alike is told to be the same. Conditions: the cells lie as their readings say. -/
namespace Go.Proofs.YtejgebpdipnhmaaGreatDoor
open Go.RowKit
set_option maxRecDepth 20000
theorem sameI_any (ao : Option Addr) (n cap : Nat) (co : Option Addr) (m cap2 : Nat) (xs : List Int) (w : World) (B : Nat) (hn : xs.length = n) (hm : xs.length = m) (hx : NumsIn w B ao xs) (hy : NumsIn w B co xs) (hB : B ≤ w.heap.size) (hl : n ≤ 4611686018427387904) :
    Calls Tryz.prog 57 #[.slice ao n cap, .slice co m cap2] w fun e w' => e = .returned (.bool true) ∧ Below w.heap.size w w' := by
  obtain rfl : n = m := by omega
  have HX := Lib.hid (hx.mono noSub_rising hB)
  have HY := Lib.hid (hy.mono noSub_rising hB)
  have HN := Lib.hid hn
  clear hx hy hn hm
  go_enter Tryz.func57, Tryz.ntmps57
  go_wp2_with fail
  go_loopw [5] (fun i wr => ∃ k : Nat, k ≤ n ∧ i = .int .i64 k ∧ Below w.heap.size w wr) (fun i _ => n - (intOf i).toNat)
  case atStart => exact ⟨0, by omega, rfl, Below.refl _ _⟩
  case round =>
    obtain ⟨k, hk, rfl, hbel⟩ := hrel
    by_cases hlt : k < n
    · have hkx : xs[k]? = some (xs[k]'(by rw [HN.out]; exact hlt)) := List.getElem?_eq_getElem _
      obtain ⟨b, off, hao, hb, hc, _⟩ := HX.out.at hkx
      obtain ⟨b2, off2, hco, hb2, hc2, _⟩ := HY.out.at hkx
      have d0 := hc 0 (by decide)
      have d1 := hc2 0 (by decide)
      generalize xs[k]'(by rw [HN.out]; exact hlt) = x at d0 d1
      subst hao hco
      have c0 : ∀ x' : Calm w.heap.size w, x'.1.cell? ⟨b, off + k, none⟩ = some (.int .i64 x) := fun x' => x'.cell (by simpa [iCells] using d0) hb
      have c1 : ∀ x' : Calm w.heap.size w, x'.1.cell? ⟨b2, off2 + k, none⟩ = some (.int .i64 x) := fun x' => x'.cell (by simpa [iCells] using d1) hb2
      have i1 : (k : Int) < n := by omega
      clear d0 d1 hc hc2 hkx
      go_wp2_with fail
      refine wp_region_calm (B := w.heap.size) (W0 := w) hbel (by kernel_rfl) (by kernel_rfl) ?_
      repeat (go_big_quiet_step (fail))
      refine wpQuiet_nil ?_
      intro w5 hb5
      clear c0 c1
      go_wp2_with fail
      go_roundw
      case rel => exact ⟨k + 1, by omega, by go_num, hb5⟩
      case measure => simp [intOf]; omega
    · obtain rfl : k = n := by omega
      go_wp2_with fail
      go_ret
      exact ⟨rfl, hbel⟩
end Go.Proofs.YtejgebpdipnhmaaGreatDoor
/- Facts and replies as they lie in memory; SameFact, SameFacts, SameReply tell that what reads alike is the same. Conditions: the cells lie as their readings say. -/
namespace Go.Proofs.YtejgebpdipnhmaaGreatDoor
open Go.RowKit
set_option maxRecDepth 20000
end Go.Proofs.YtejgebpdipnhmaaGreatDoor
/- What the reader of wire tells of rows and structs: plain definitions and laws; a reader where other blocks grow. Conditions: as each says. -/
namespace Go.Proofs.YtejgebpdipnhmaaGreatDoor
open Go.RowKit
set_option maxRecDepth 20000
/-- What is left are bytes, and not more. -/
def Shrinks {α : Type} (one : Bool → List Int → α × Bool × List Int) : Prop := ∀ b l, BytesWf l → BytesWf (one b l).2.2 ∧ (one b l).2.2.length ≤ l.length
theorem takeS_shrinks (n : Nat) : Shrinks (takeS n) := fun _ _ h => ⟨(takeS_wf h).2.1, (takeS_wf h).2.2.2⟩
/-- A number. -/
def numS (b : Bool) (l : List Int) : Int × Bool × List Int := (IntKind.i64.wrap (getN (takeS 8 b l).1), (takeS 8 b l).2)
theorem numS_shrinks : Shrinks numS := fun b l hl => takeS_shrinks 8 b l hl
/-- A row of a call's own stays where a reader reads. -/
theorem own_only {w w' : World} {rb base e size n : Nat} {v : Value} {xs : List Value} (h : w.ownsRow base e size v n xs) (ho : Only rb w w') (hr : v.ownBlock ≠ some rb) : w'.ownsRow base e size v n xs := by
  refine ⟨h.1, ?_⟩
  rcases h.2 with hn | ⟨g, cap, cur, rfl, h1, h2, h3⟩
  · exact Or.inl hn
  · refine Or.inr ⟨g, cap, cur, rfl, h1, ?_, h3⟩
    rw [ho.2 g (Array.getElem?_eq_some_iff.1 h2).1 (by rintro rfl; exact hr rfl)]
    exact h2
/- Rows of values that the reader of wire reads. Conditions: the reader is one that was made. -/
/- Rows of ints that the reader of wire reads. Conditions: the reader is one that was made. -/
/- The reader of wire: what is told under names; Values; commands, facts of a call's own. Conditions: the reader is one that was made. -/
theorem own_only' {w w' : World} {r base e size n : Nat} {v : Value} {xs : List Value} (h : w.ownsRow base e size v n xs) (ho : Only r w w') (hr : r < base) : w'.ownsRow base e size v n xs := own_only h ho (fun e => by have := (h.lt r e).1; omega)
def IntsOwn (w : World) (base : Nat) (a : Option Addr) (n c : Nat) (xs : List Int) : Prop := w.ownsRow base 3 1 (.slice a n c) n (xs.flatMap iCells)
theorem IntsOwn.only {w w' : World} {r base n c : Nat} {a : Option Addr} {xs : List Int} (h : IntsOwn w base a n c xs) (ho : Only r w w') (hr : r < base) : IntsOwn w' base a n c xs := own_only' h ho hr
theorem IntsOwn.below {w w' : World} {base n c B : Nat} {a : Option Addr} {xs : List Int} (h : IntsOwn w base a n c xs) (hb : Below B w w') (hB : w.heap.size ≤ B) : IntsOwn w' base a n c xs := own_below h hb hB
theorem IntsOwn.le {w : World} {base base' n c : Nat} {a : Option Addr} {xs : List Int} (h : IntsOwn w base a n c xs) (hB : base' ≤ base) : IntsOwn w base' a n c xs := Go.Joins.ownsRow_le h hB
theorem IntsOwn.nil (w : World) (base : Nat) : IntsOwn w base none 0 0 [] := World.ownsRow_nil _ _ _ _
end Go.Proofs.YtejgebpdipnhmaaGreatDoor
/- The writer's facts, commands; Fact, Command, Reply, Entry of wire. Conditions: what is written is not too long. -/
namespace Go.Proofs.YtejgebpdipnhmaaGreatDoor
open Go.RowKit
set_option maxRecDepth 20000
end Go.Proofs.YtejgebpdipnhmaaGreatDoor
/- What is written in any form, with whatever behind it, is read as it was. No program. Conditions: as each says. -/
namespace Go.Proofs.YtejgebpdipnhmaaGreatDoor
open Go.RowKit
set_option maxRecDepth 20000
theorem takeS_back (n : Nat) (a rest : List Int) (h : a.length = n) : takeS n false (a ++ rest) = (a, false, rest) := by
  subst h
  unfold takeS
  rw [if_neg (by simp)]
  simp
def N64 (n : Int) : Prop := -9223372036854775808 ≤ n ∧ n ≤ 9223372036854775807
theorem numS_back (n : Int) (rest : List Int) (h : N64 n) : numS false (numB 8 n ++ rest) = (n, false, rest) := by
  unfold numS
  rw [takeS_back 8 _ _ (numB_len 8 n)]
  dsimp only
  rw [getN_numB]
  have h1 := h.1
  have h2 := h.2
  have e : IntKind.i64.wrap (n % 256 ^ 8) = n := by
    show (if (true && decide (n % 256 ^ 8 % 2 ^ 64 ≥ (2 ^ 63 : Int))) = true then n % 256 ^ 8 % 2 ^ 64 - 2 ^ 64 else n % 256 ^ 8 % 2 ^ 64) = n
    have e1 : (256 : Int) ^ 8 = 18446744073709551616 := by decide
    have e2 : (2 : Int) ^ 64 = 18446744073709551616 := by decide
    have e3 : (2 : Int) ^ 63 = 9223372036854775808 := by decide
    rw [e1, e2, e3]
    split
    · rename_i hc
      have hc : n % 18446744073709551616 % 18446744073709551616 ≥ 9223372036854775808 := by simpa using hc
      omega
    · rename_i hc
      have hc : ¬ n % 18446744073709551616 % 18446744073709551616 ≥ 9223372036854775808 := by simpa using hc
      omega
  rw [e]
end Go.Proofs.YtejgebpdipnhmaaGreatDoor
/- The sum of bytes, in plain Lean. No program. Conditions: bytes are below 256. -/
namespace Go.Proofs.YtejgebpdipnhmaaGreatDoor
open Go
def bitN (w : Nat) : Nat := (w / 2) ^^^ (if w % 2 = 1 then 3988292384 else 0)
def itN : Nat → Nat → Nat
  | 0, w => w
  | j + 1, w => bitN (itN j w)
def byteN (w : Nat) (x : Int) : Nat := itN 8 (w ^^^ x.toNat)
def sumTo (xs : List Int) (k : Nat) : Nat := (xs.take k).foldl byteN 4294967295
/-- The sum of bytes. -/
def sumS (xs : List Int) : Nat := sumTo xs xs.length ^^^ 4294967295
theorem bitN_lt {w : Nat} (h : w < 4294967296) : bitN w < 4294967296 := by
  unfold bitN
  refine Nat.xor_lt_two_pow (n := 32) (by omega) ?_
  split <;> omega
theorem itN_lt {w : Nat} (h : w < 4294967296) (j : Nat) : itN j w < 4294967296 := by
  induction j with
  | zero => exact h
  | succ j ih => exact bitN_lt ih
theorem byteN_lt {w : Nat} (h : w < 4294967296) {x : Int} (hx : 0 ≤ x ∧ x < 256) : byteN w x < 4294967296 :=
  itN_lt (Nat.xor_lt_two_pow (n := 32) (by omega) (by omega)) 8
theorem sumTo_succ {xs : List Int} {k : Nat} (h : k < xs.length) : sumTo xs (k + 1) = byteN (sumTo xs k) (xs.getD k 0) := by
  unfold sumTo
  rw [List.take_succ_eq_append_getElem h, List.foldl_append]
  simp [List.getD, List.getElem?_eq_getElem h]
theorem sumTo_lt {xs : List Int} (hw : ∀ x ∈ xs, 0 ≤ x ∧ x < 256) (k : Nat) : sumTo xs k < 4294967296 := by
  unfold sumTo
  have : ∀ (l : List Int) (s : Nat), s < 4294967296 → (∀ x ∈ l, 0 ≤ x ∧ x < 256) → l.foldl byteN s < 4294967296 := by
    intro l
    induction l with
    | nil => intro s h _; exact h
    | cons a l ih => intro s h hl; exact ih _ (byteN_lt h (hl a List.mem_cons_self)) (fun x hx => hl x (List.mem_cons_of_mem _ hx))
  exact this _ _ (by decide) (fun x hx => hw x (List.mem_of_mem_take hx))
theorem sumS_lt {xs : List Int} (hw : ∀ x ∈ xs, 0 ≤ x ∧ x < 256) : sumS xs < 4294967296 :=
  Nat.xor_lt_two_pow (n := 32) (sumTo_lt hw _) (by decide)
theorem and_one (w : Nat) (h : w < 4294967296) : bits .and .u32 (w : Int) 1 = ((w % 2 : Nat) : Int) := by
  have := u32_and_nat w 1 h (by decide)
  rw [Nat.and_one_is_mod] at this
  exact this
theorem bit_prog {w : Nat} (h : w < 4294967296) : bits .xor .u32 ((w : Int) / 2) (bits .and .u32 3988292384 (-bits .and .u32 (w : Int) 1 % 4294967296)) = (bitN w : Int) := by
  have e : bits .and .u32 3988292384 (-bits .and .u32 (w : Int) 1 % 4294967296) = ((if w % 2 = 1 then 3988292384 else 0 : Nat) : Int) := by
    rw [and_one w h]
    by_cases h2 : w % 2 = 1
    · rw [if_pos h2, h2]; decide
    · have h3 : w % 2 = 0 := by omega
      rw [if_neg h2, h3]; decide
  rw [e]
  have h3 : ((w : Int) / 2) = ((w / 2 : Nat) : Int) := by omega
  rw [h3]
  exact u32_xor_nat _ _ (by omega) (by split <;> omega)
theorem bit_ref1 {w : Nat} (h : w < 4294967296) (h2 : w % 2 = 1) : bits .xor .u32 ((w : Int) / 2) 3988292384 = (bitN w : Int) := by
  have h3 : ((w : Int) / 2) = ((w / 2 : Nat) : Int) := by omega
  unfold bitN
  rw [h3, if_pos h2]
  exact u32_xor_nat _ 3988292384 (by omega) (by decide)
theorem bit_ref0 {w : Nat} (h2 : w % 2 ≠ 1) : ((w : Int) / 2) = (bitN w : Int) := by
  unfold bitN
  rw [if_neg h2, Nat.xor_zero]
  omega
theorem byte_in {w : Nat} (h : w < 4294967296) {x : Int} (hx : 0 ≤ x ∧ x < 256) : bits .xor .u32 (w : Int) x = ((w ^^^ x.toNat : Nat) : Int) := by
  have := u32_xor_nat w x.toNat h (by omega)
  rw [Int.toNat_of_nonneg hx.1] at this
  exact this
theorem u32_not {z : Nat} (h : z < 4294967296) : bits .xor .u32 IntKind.u32.max (z : Int) = ((z ^^^ 4294967295 : Nat) : Int) := by
  rw [Nat.xor_comm]
  exact u32_xor_nat 4294967295 z (by decide) h
end Go.Proofs.YtejgebpdipnhmaaGreatDoor
