/- Steps of a region that draws its order, guarded operations included, each taken by its number. Any program. Conditions: as each says. -/
import Derived.Test.YtnhnabcpkaeaaaaGreatDoorGWalReads0
import Derived.Deep.RegionHeld3
import Derived.Test.YtnhnabcpkaeaaaaGreatDoorGWalReads2
import Derived.Lib.SlBytesRow
import Derived.Lib.BufferRead
import Derived.Test.YtnhnabcpkaeaaaaGreatDoorGWalReads1
import Derived.BigQuiet
set_option linter.unusedVariables false
set_option linter.unusedSimpArgs false
namespace Go.Proofs.YtnhnabcpkaeaaaaGreatDoor
open Go.RowKit
variable {P : Program} {md : Region.Mode} {ops : Array Oper} {Q : Exit → Act → World → Prop}
/-- An operation that its guard passes over. -/
theorem take_no (i : Nat) {oi : Oper} {fuel : Nat} {listed : Array Bool} {a : Act} {w : World} (hi : ops.toList[i]? = some oi) (hs : Region.noSelect ops = true) (hf : Region.free md ops listed i = true) (hr : (Region.ready md ops listed).contains i = true)
    (hQ : ∀ c a w, Q (.panic c) (a.put oi.dst undef) w → Q (.panic c) a w) (hw : Region.wanted oi (yielded ops a.tmps) = false) (h : wpAnyH P md ops Q (fun _ => True) fuel (listed.setIfInBounds i true) (a.put oi.dst undef) w) : wpAnyH P md ops Q (fun _ => True) (fuel + 1) listed a w :=
  wpAnyH_take (by rw [← Array.getElem?_toList]; exact hi) hs hf hr hQ (Or.inr ⟨hw, rfl⟩) trivial h
/-- An operation that yields the same in whatever world. -/
theorem take_yes (i : Nat) {oi : Oper} {v : Value} {fuel : Nat} {listed : Array Bool} {a : Act} {w : World} (hi : ops.toList[i]? = some oi) (hs : Region.noSelect ops = true) (hf : Region.free md ops listed i = true) (hr : (Region.ready md ops listed).contains i = true)
    (hQ : ∀ c a w, Q (.panic c) (a.put oi.dst v) w → Q (.panic c) a w) (hw : Region.wanted oi (yielded ops a.tmps) = true) (hy : ∀ w, (execOp a.eval oi).run P w = .ok (.value v) w) (h : wpAnyH P md ops Q (fun _ => True) fuel (listed.setIfInBounds i true) (a.put oi.dst v) w) : wpAnyH P md ops Q (fun _ => True) (fuel + 1) listed a w :=
  wpAnyH_take (by rw [← Array.getElem?_toList]; exact hi) hs hf hr hQ (Or.inl ⟨hw, fun w _ => hy w⟩) trivial h
/-- An operation that alone may come up. -/
theorem take_alone (i : Nat) {oi : Oper} {fuel : Nat} {listed : Array Bool} {a : Act} {w : World} (hi : ops.toList[i]? = some oi) (hr : Region.ready md ops listed = [i]) (hw : Region.wanted oi (yielded ops a.tmps) = true)
    (h : ∀ K' : Act → World → Prop, Shut (∀ a w, wpAnyH P md ops Q (fun _ => True) fuel (listed.setIfInBounds i true) a w → K' a w) → Oper.wp P oi a w K' Q) : wpAnyH P md ops Q (fun _ => True) (fuel + 1) listed a w :=
  wpAnyH_ready (rs := [i]) hr (by simp) (AllReadyH.cons (by rw [← Array.getElem?_toList]; exact hi) (fun K hK => by rw [if_pos hw]; exact h K (fun a w hW => hK.out a w trivial (fun _ => hW))) AllReadyH.nil)
theorem held_begin {id : Nat} {a : Act} {w : World} (hm : P.follows .mixedOrders = true) (h : wpAnyH P .any ops Q (fun _ => True) ops.size (Array.replicate ops.size false) a w.drew) : (Code.region id ops true).wp P Q a w :=
  wp_region_held_drew hm trivial (fun _ => h)
end Go.Proofs.YtnhnabcpkaeaaaaGreatDoor
/- The reader of wire: Text. Conditions: the reader is one that was made. -/
namespace Go.Proofs.YtnhnabcpkaeaaaaGreatDoor
open Go.RowKit
set_option maxRecDepth 20000
/-- The text that bytes say. -/
def strN (l : List Int) : ByteArray := strOfNums l
theorem conv_text {w : World} {M rb c : Nat} {a : Option Addr} {l : List Int} (h : BytesOff w M rb a l) (hn : a = none → c = 0) : (convert 22 9 (.slice a l.length c)).run Tryz.prog w = .ok (.string (strN l)) w := by
  rcases h with rfl | ⟨b, off, rfl, _, _, h3⟩
  · cases a with
    | none =>
      rw [run_convert_bytes_string w _ _ 5 none _ c Tryz.underlying22 Tryz.underlying5 Tryz.underlying9]
      simp [Conv.bytesToString]
      rfl
    | some ad =>
      rw [run_convert_bytes_string w _ _ 5 (some ad) _ c Tryz.underlying22 Tryz.underlying5 Tryz.underlying9]
      simp [Conv.bytesToString]
      rfl
  · exact run_convert_bytes_arg w _ 5 Tryz.underlying22 Tryz.underlying5 b off l.length c l rfl h3 _ Tryz.underlying9
/-- What Text tells. -/
def textS (bad : Bool) (left : List Int) : ByteArray × Bool × List Int :=
  let r := takeS (countS bad left).1.toNat (countS bad left).2.1 (countS bad left).2.2
  (strN r.1, r.2.1, r.2.2)
theorem countS_wf {bad : Bool} {left : List Int} (h : BytesWf left) : 0 ≤ (countS bad left).1 ∧ (countS bad left).1 ≤ 65536 ∧ BytesWf (countS bad left).2.2 ∧ (countS bad left).2.2.length ≤ left.length := by
  have h1 := takeS_wf (n := 4) (bad := bad) h
  have h2 := getN_small h1.1 h1.2.2.1
  unfold countS
  split
  · exact ⟨by simp, by simp, h1.2.1, h1.2.2.2⟩
  · rename_i hc
    exact ⟨h2.1, by show getN _ ≤ _; rcases Int.lt_or_le 65536 (getN (takeS 4 bad left).1) with h | h; exact absurd (Or.inr h) hc; exact h, h1.2.1, h1.2.2.2⟩
set_option maxHeartbeats 1000000 in
theorem text_rd (M rb : Nat) (bad : Bool) (left : List Int) (w : World) (h : Rdr w M rb bad left) (hw : BytesWf left) (hl : left.length ≤ 140737488351232) :
    Calls Tryz.prog 124 #[.pointer (some ⟨rb, 0, none⟩)] w fun e w' => e = .returned (.string (textS bad left).1) ∧ Rdr w' M rb (textS bad left).2.1 (textS bad left).2.2 ∧ Only rb w w' := by
  have HK := Lib.hid (known_any M rb bad left w h)
  have hcw := countS_wf (bad := bad) hw
  have hct := fun w1 (hr : Rdr w1 M rb bad left) => count_rd M rb bad left w1 hr hw hl
  unfold textS
  generalize countS bad left = r at hcw hct ⊢
  obtain ⟨n, b1, l1⟩ := r
  dsimp only at hcw hct ⊢
  obtain ⟨hn0, hn1, hl1w, hl1⟩ := hcw
  obtain ⟨m, rfl⟩ : ∃ m : Nat, n = m := ⟨n.toNat, by omega⟩
  rw [Int.toNat_natCast]
  obtain ⟨q, hq⟩ : ∃ q, takeS m b1 l1 = q := ⟨_, rfl⟩
  have HTK := Lib.hid (fun w1 (hr : Rdr w1 M rb b1 l1) => hq ▸ take_any M rb m b1 l1 w1 hr (by omega) (by omega))
  rw [hq]
  have HCT := Lib.hid hct
  have H := Lib.hid h
  clear h hct hq hw hl1w
  obtain ⟨got, b2, l2⟩ := q
  dsimp only
  go_enter Tryz.func124, Tryz.ntmps124
  go_wp2_with fail
  refine HK.out.mono ?_
  rintro e w1 ⟨rfl, rfl⟩
  go_wp2_with fail
  have hd : Rdr w.drew M rb bad left := H.out.below (Below.refl _ _).drew
  have HD := Lib.hid hd
  clear hd
  refine held_begin (by kernel_rfl) ?_
  (first | (refine take_no 0 rfl (by kernel_rfl) (by kernel_rfl) (by kernel_rfl) (fun _ _ _ h => h) (by rfl) ?_) | (refine take_yes (v := ?_) 0 rfl (by kernel_rfl) (by kernel_rfl) (by kernel_rfl) (fun _ _ _ h => h) (by rfl) ?_ ?_; rotate_left; focus (intro wS; go_simp; first | done | with_reducible rfl)))
  (try simp only [Act.put, List.setIfInBounds_toArray, List.set_cons_zero, List.set_cons_succ])
  (first | (refine take_no 1 rfl (by kernel_rfl) (by kernel_rfl) (by kernel_rfl) (fun _ _ _ h => h) (by rfl) ?_) | (refine take_yes (v := ?_) 1 rfl (by kernel_rfl) (by kernel_rfl) (by kernel_rfl) (fun _ _ _ h => h) (by rfl) ?_ ?_; rotate_left; focus (intro wS; go_simp; first | done | with_reducible rfl)))
  (try simp only [Act.put, List.setIfInBounds_toArray, List.set_cons_zero, List.set_cons_succ])
  (first | (refine take_no 2 rfl (by kernel_rfl) (by kernel_rfl) (by kernel_rfl) (fun _ _ _ h => h) (by rfl) ?_) | (refine take_yes (v := ?_) 2 rfl (by kernel_rfl) (by kernel_rfl) (by kernel_rfl) (fun _ _ _ h => h) (by rfl) ?_ ?_; rotate_left; focus (intro wS; go_simp; first | done | with_reducible rfl)))
  (try simp only [Act.put, List.setIfInBounds_toArray, List.set_cons_zero, List.set_cons_succ])
  (first | (refine take_no 3 rfl (by kernel_rfl) (by kernel_rfl) (by kernel_rfl) (fun _ _ _ h => h) (by rfl) ?_) | (refine take_yes (v := ?_) 3 rfl (by kernel_rfl) (by kernel_rfl) (by kernel_rfl) (fun _ _ _ h => h) (by rfl) ?_ ?_; rotate_left; focus (intro wS; go_simp; first | done | with_reducible rfl)))
  (try simp only [Act.put, List.setIfInBounds_toArray, List.set_cons_zero, List.set_cons_succ])
  (first | (refine take_no 4 rfl (by kernel_rfl) (by kernel_rfl) (by kernel_rfl) (fun _ _ _ h => h) (by rfl) ?_) | (refine take_yes (v := ?_) 4 rfl (by kernel_rfl) (by kernel_rfl) (by kernel_rfl) (fun _ _ _ h => h) (by rfl) ?_ ?_; rotate_left; focus (intro wS; go_simp; first | done | with_reducible rfl)))
  (try simp only [Act.put, List.setIfInBounds_toArray, List.set_cons_zero, List.set_cons_succ])
  (first | (refine take_no 5 rfl (by kernel_rfl) (by kernel_rfl) (by kernel_rfl) (fun _ _ _ h => h) (by rfl) ?_) | (refine take_yes (v := ?_) 5 rfl (by kernel_rfl) (by kernel_rfl) (by kernel_rfl) (fun _ _ _ h => h) (by rfl) ?_ ?_; rotate_left; focus (intro wS; go_simp; first | done | with_reducible rfl)))
  (try simp only [Act.put, List.setIfInBounds_toArray, List.set_cons_zero, List.set_cons_succ])
  refine take_alone 6 rfl (by kernel_rfl) (by rfl) (fun K hK => ?_)
  go_simp
  (refine (HCT.out _ HD.out).mono ?_; rintro e w2 ⟨rfl, hr2, ho2⟩; have HR2 := Lib.hid hr2; have HO2 := Lib.hid ho2; clear hr2 ho2)
  refine hK.out _ _ ?_
  clear hK K
  (try simp only [Act.put, List.setIfInBounds_toArray, List.set_cons_zero, List.set_cons_succ])
  refine take_alone 7 rfl (by kernel_rfl) (by rfl) (fun K hK => ?_)
  go_simp
  (refine (HTK.out _ HR2.out).mono ?_; rintro e w3 ⟨a, c, rfl, hoff, hnil, hcap, hr3, ho3⟩; have hconv := conv_text hoff hnil; dsimp only at hconv hr3 ⊢; have HR3 := Lib.hid hr3; have HO3 := Lib.hid (HO2.out.trans ho3); clear hr3 ho3 hoff hnil hcap)
  refine hK.out _ _ ?_
  clear hK K
  (try simp only [Act.put, List.setIfInBounds_toArray, List.set_cons_zero, List.set_cons_succ])
  refine take_alone 8 rfl (by kernel_rfl) (by rfl) (fun K hK => ?_)
  go_simp
  skip
  refine hK.out _ _ ?_
  clear hK K
  (try simp only [Act.put, List.setIfInBounds_toArray, List.set_cons_zero, List.set_cons_succ])
  (first | (refine take_no 9 rfl (by kernel_rfl) (by kernel_rfl) (by kernel_rfl) (fun _ _ _ h => h) (by rfl) ?_) | (refine take_yes (v := ?_) 9 rfl (by kernel_rfl) (by kernel_rfl) (by kernel_rfl) (fun _ _ _ h => h) (by rfl) ?_ ?_; rotate_left; focus (intro wS; go_simp; first | done | with_reducible rfl)))
  (try simp only [Act.put, List.setIfInBounds_toArray, List.set_cons_zero, List.set_cons_succ])
  refine wpAnyH_done (by kernel_rfl) ?_ _
  clear hconv
  go_wp2_with fail
  go_ret
  exact ⟨rfl, HR3.out, ⟨HO3.out.1, HO3.out.2, HO3.out.3⟩⟩
end Go.Proofs.YtnhnabcpkaeaaaaGreatDoor
/- The reader of wire: sure of a value; Value. Conditions: the reader is one that was made. -/
namespace Go.Proofs.YtnhnabcpkaeaaaaGreatDoor
open Go.RowKit
set_option maxRecDepth 20000
def Va.val (v : Va) : Value := .agg #[.int .u8 v.kind, .int .i64 v.num, .string v.text]
def Va.none : Va := ⟨0, 0, ByteArray.empty⟩
set_option maxHeartbeats 1000000 in
theorem sureV_rd (M rb : Nat) (bad : Bool) (left : List Int) (kd num : Int) (text : ByteArray) (w : World) (h : Rdr w M rb bad left) :
    Calls Tryz.prog 151 #[.pointer (some ⟨rb, 0, none⟩), .agg #[.int .u8 kd, .int .i64 num, .string text]] w fun e w' => e = .returned (if bad then Va.none.val else .agg #[.int .u8 kd, .int .i64 num, .string text]) ∧ Below w.heap.size w w' := by
  obtain ⟨a, c, _, d1, _, _⟩ := h.cells
  have hlt := h.lt
  have dA : ∀ o1 o2 o3, (((w.alloc o1).alloc o2).alloc o3).cell? ⟨rb, 1, none⟩ = some (.bool bad) := fun o1 o2 o3 => by
    have hb := (((Below.refl w.heap.size w).alloc (Nat.le_refl _) o1).alloc (by simp) o2).alloc (by simp; omega) o3
    rw [hb.cell (p := ⟨rb, 1, none⟩) hlt]; exact d1
  clear h d1
  cases bad with
  | true =>
    go_enter Tryz.func151, Tryz.ntmps151
    go_wp2_with fail
    exact bodyPost_ret (v := .agg #[.int .u8 0, .int .i64 0, .string ByteArray.empty]) (by simp [results, Tryz.results151, go_sem]; rfl) rfl ⟨rfl, (((Below.refl w.heap.size w).alloc (Nat.le_refl _) _).alloc (by simp) _).alloc (by simp; omega) _⟩
  | false =>
    go_enter Tryz.func151, Tryz.ntmps151
    go_wp2_with fail
    exact bodyPost_ret (v := .agg #[.int .u8 kd, .int .i64 num, .string text]) (by simp [results, Tryz.results151, go_sem]) rfl ⟨rfl, (((Below.refl w.heap.size w).alloc (Nat.le_refl _) _).alloc (by simp) _).alloc (by simp; omega) _⟩
end Go.Proofs.YtnhnabcpkaeaaaaGreatDoor
/- The reader of wire: Value. Conditions: the reader is one that was made. -/
namespace Go.Proofs.YtnhnabcpkaeaaaaGreatDoor
open Go.RowKit
set_option maxRecDepth 20000
theorem Only.new {rb g i : Nat} {w w' : World} (h : Only rb w w') (hg : w.heap.size ≤ g) (v : Value) : Only rb w (w'.setCell ⟨g, i, none⟩ v) :=
  ⟨by simpa using h.1, fun b hb hn => (heap_setCell_other _ _ _ _ (show b ≠ g by omega)).trans (h.2 b hb hn), h.3⟩
theorem Only.alloc {rb : Nat} {w w' : World} (h : Only rb w w') (o : Obj) : Only rb w (w'.alloc o) := h.trans (Only.of_below ((Below.refl _ _).alloc (Nat.le_refl _) o))
theorem stored3 {w : World} {g : Nat} {a b c : Value} {T : TypeId} (h : w.heap[g]? = some (.cells #[a, b, c] T (0, 0))) (x y z : Value) : (((w.setCell ⟨g, 0, none⟩ x).setCell ⟨g, 1, none⟩ y).setCell ⟨g, 2, none⟩ z).heap[g]? = some (.cells #[x, y, z] T (0, 0)) :=
  Go.Joins.block_setCell (i := 2) (Go.Joins.block_setCell (i := 1) (Go.Joins.block_setCell (i := 0) h x) y) z
/-- What Value tells. -/
def valueS (bad : Bool) (left : List Int) : Va × Bool × List Int :=
  let k := takeS 1 bad left
  let kd := getN k.1
  if kd = 1 then
    let r := takeS 8 k.2.1 k.2.2
    (if r.2.1 then Va.none else ⟨1, IntKind.i64.wrap (getN r.1), ByteArray.empty⟩, r.2.1, r.2.2)
  else if kd = 2 then
    let r := textS k.2.1 k.2.2
    (if r.2.1 then Va.none else ⟨2, 0, r.1⟩, r.2.1, r.2.2)
  else (Va.none, true, k.2.2)
set_option maxHeartbeats 2000000 in
theorem value_rd (M rb : Nat) (bad : Bool) (left : List Int) (w : World) (h : Rdr w M rb bad left) (hw : BytesWf left) (hl : left.length ≤ 140737488351232) :
    Calls Tryz.prog 142 #[.pointer (some ⟨rb, 0, none⟩)] w fun e w' => e = .returned (valueS bad left).1.val ∧ Rdr w' M rb (valueS bad left).2.1 (valueS bad left).2.2 ∧ Only rb w w' := by
  have hrb := h.lt
  have hM : M ≤ w.heap.size := by obtain ⟨a, c, h⟩ := h; exact h.le
  have hA := (Below.refl w.heap.size w).alloc (Nat.le_refl _) (.cells #[.int .u8 0, .int .i64 0, .string ByteArray.empty] 132)
  have h0 : Rdr (w.alloc (.cells #[.int .u8 0, .int .i64 0, .string ByteArray.empty] 132)) M rb bad left := h.below hA
  have o0 : Only rb w (w.alloc (.cells #[.int .u8 0, .int .i64 0, .string ByteArray.empty] 132)) := Only.of_below hA
  have k0 := heap_alloc_new w (.cells #[.int .u8 0, .int .i64 0, .string ByteArray.empty] 132)
  have s0 : (w.alloc (.cells #[.int .u8 0, .int .i64 0, .string ByteArray.empty] 132)).heap.size = w.heap.size + 1 := by simp
  have H0 := Lib.hid h0
  have O0 := Lib.hid o0
  have K0 := Lib.hid k0
  have S0 := Lib.hid s0
  obtain ⟨v, b3, l3, hv⟩ : ∃ v b3 l3, valueS bad left = (v, b3, l3) := ⟨_, _, _, rfl⟩
  rw [hv]
  dsimp only
  have hwk := takeS_wf (n := 1) (bad := bad) hw
  have hkind := fun w1 (hr : Rdr w1 M rb bad left) => kind_any M rb bad left w1 hr hw hl
  unfold valueS at hv
  generalize takeS 1 bad left = r at hwk hkind hv
  obtain ⟨got, b1, l1⟩ := r
  dsimp only at hwk hkind hv
  generalize getN got = kd at hkind hv
  have HV := Lib.hid hv
  have HK := Lib.hid hkind
  have HW := Lib.hid hwk
  have hl1 : l1.length ≤ 140737488351232 := by have := hwk.2.2.2; omega
  clear h hA h0 o0 k0 s0 hkind hwk hw hv
  go_enter Tryz.func142, Tryz.ntmps142
  go_wp2_with fail
  refine (known_any M rb bad left _ H0.out).mono ?_
  rintro e w1 ⟨rfl, rfl⟩
  go_wp2_with fail
  refine (HK.out _ H0.out).mono ?_
  rintro e w1 ⟨rfl, hr1, ho1⟩
  have hs1 := ho1.1
  rw [S0.out] at hs1
  have hblk1 := (ho1.2 w.heap.size (by rw [S0.out]; omega) (by omega)).trans K0.out
  have R1 := Lib.hid hr1
  have O1 := Lib.hid (O0.out.trans ho1)
  have B1 := Lib.hid hblk1
  clear hr1 ho1 hblk1
  have hA1 := fun o => (Below.refl w1.heap.size w1).alloc (Nat.le_refl _) o
  by_cases hk1 : kd = 1
  · subst hk1
    go_wp2_with fail
    have hnum := number_rd M rb b1 l1 _ (R1.out.below (hA1 (.cells #[.int .u8 1, .int .i64 0, .string ByteArray.empty] 132))) HW.out.2.1 hl1
    have hv := HV.out
    rw [if_pos (by trivial)] at hv
    generalize takeS 8 b1 l1 = r at hnum hv
    obtain ⟨got2, b2, l2⟩ := r
    dsimp only at hnum hv
    generalize IntKind.i64.wrap (getN got2) = num at hnum hv
    have HV2 := Lib.hid hv
    clear hv
    refine hnum.mono ?_
    rintro e w2 ⟨rfl, hr2, ho2⟩
    have hs2 := ho2.1
    simp only [World.size_alloc] at hs2
    have ht := (ho2.2 w1.heap.size (by simp) (by omega)).trans (heap_alloc_new w1 (.cells #[.int .u8 1, .int .i64 0, .string ByteArray.empty] 132))
    have e0 : w2.cell? ⟨w1.heap.size, 0, none⟩ = some (.int .u8 1) := Go.Joins.cell_of_block ht 0
    have e1 : w2.cell? ⟨w1.heap.size, 1, none⟩ = some (.int .i64 0) := Go.Joins.cell_of_block ht 1
    have e2 : w2.cell? ⟨w1.heap.size, 2, none⟩ = some (.string ByteArray.empty) := Go.Joins.cell_of_block ht 2
    have f1 : w2.frozen? ⟨w1.heap.size, 1, none⟩ = false := Go.Joins.unfrozen_of_block ht 1
    have hz := (ho2.2 w.heap.size (by simp; omega) (by omega)).trans (((World.grownBy_alloc w1 (.cells #[.int .u8 1, .int .i64 0, .string ByteArray.empty] 132) Option.none).block w.heap.size (by omega) (by simp)).trans B1.out)
    have R2 := Lib.hid hr2
    have O2 := Lib.hid ((O1.out.alloc _).trans ho2)
    have Z2 := Lib.hid hz
    clear hr2 ho2 hz ht hnum
    go_wp2_with fail
    refine (sureV_rd M rb b2 l2 1 num ByteArray.empty _ (R2.out.other (by omega) (by omega) (.int .i64 num))).mono ?_
    rintro e w3 ⟨he, hb3⟩
    have hz3 := (hb3.block w.heap.size (by simp; omega)).trans ((heap_setCell_other _ _ _ _ (show w.heap.size ≠ w1.heap.size by omega)).trans Z2.out)
    have hr3 := (R2.out.other (g := w1.heap.size) (i := 1) (by omega) (by omega) (.int .i64 num)).below hb3
    have ho3 := (O2.out.new (g := w1.heap.size) (i := 1) (by omega) (.int .i64 num)).trans (Only.of_below hb3)
    clear e0 e1 e2 f1 hb3 R2 O2 Z2
    have z0 : w3.cell? ⟨w.heap.size, 0, none⟩ = some (.int .u8 0) := Go.Joins.cell_of_block hz3 0
    have z1 : w3.cell? ⟨w.heap.size, 1, none⟩ = some (.int .i64 0) := Go.Joins.cell_of_block hz3 1
    have z2 : w3.cell? ⟨w.heap.size, 2, none⟩ = some (.string ByteArray.empty) := Go.Joins.cell_of_block hz3 2
    have g0 : w3.frozen? ⟨w.heap.size, 0, none⟩ = false := Go.Joins.unfrozen_of_block hz3 0
    have g1 : w3.frozen? ⟨w.heap.size, 1, none⟩ = false := Go.Joins.unfrozen_of_block hz3 1
    have g2 : w3.frozen? ⟨w.heap.size, 2, none⟩ = false := Go.Joins.unfrozen_of_block hz3 2
    have R3 := Lib.hid hr3
    have O3 := Lib.hid ho3
    have Z3 := Lib.hid hz3
    clear hr3 ho3 hz3
    cases b2 with
    | true =>
      rw [if_pos rfl] at he
      unfold Va.none Va.val at he
      subst he
      go_wp2_with fail
      have q := stored3 Z3.out (.int .u8 0) (.int .i64 0) (.string ByteArray.empty)
      have r4 := ((R3.out.other (g := w.heap.size) (i := 0) hM (by omega) (.int .u8 0)).other (g := w.heap.size) (i := 1) hM (by omega) (.int .i64 0)).other (g := w.heap.size) (i := 2) hM (by omega) (.string ByteArray.empty)
      have o4 := ((O3.out.new (g := w.heap.size) (i := 0) (Nat.le_refl _) (.int .u8 0)).new (g := w.heap.size) (i := 1) (Nat.le_refl _) (.int .i64 0)).new (g := w.heap.size) (i := 2) (Nat.le_refl _) (.string ByteArray.empty)
      generalize (((w3.setCell ⟨w.heap.size, 0, none⟩ (.int .u8 0)).setCell ⟨w.heap.size, 1, none⟩ (.int .i64 0)).setCell ⟨w.heap.size, 2, none⟩ (.string ByteArray.empty)) = w4 at q r4 o4 ⊢
      have d0 : w4.cell? ⟨w.heap.size, 0, none⟩ = some (.int .u8 0) := Go.Joins.cell_of_block q 0
      have d1 : w4.cell? ⟨w.heap.size, 1, none⟩ = some (.int .i64 0) := Go.Joins.cell_of_block q 1
      have d2 : w4.cell? ⟨w.heap.size, 2, none⟩ = some (.string ByteArray.empty) := Go.Joins.cell_of_block q 2
      have hv := HV2.out
      simp only [if_true, if_false, Bool.false_eq_true, Prod.mk.injEq] at hv
      obtain ⟨rfl, rfl, rfl⟩ := hv
      exact bodyPost_ret (v := .agg #[.int .u8 0, .int .i64 0, .string ByteArray.empty]) (by simp [results, Tryz.results142, go_sem, d0, d1, d2]) rfl ⟨rfl, r4, o4⟩
    | false =>
      rw [if_neg (by simp)] at he
      subst he
      go_wp2_with fail
      have q := stored3 Z3.out (.int .u8 1) (.int .i64 num) (.string ByteArray.empty)
      have r4 := ((R3.out.other (g := w.heap.size) (i := 0) hM (by omega) (.int .u8 1)).other (g := w.heap.size) (i := 1) hM (by omega) (.int .i64 num)).other (g := w.heap.size) (i := 2) hM (by omega) (.string ByteArray.empty)
      have o4 := ((O3.out.new (g := w.heap.size) (i := 0) (Nat.le_refl _) (.int .u8 1)).new (g := w.heap.size) (i := 1) (Nat.le_refl _) (.int .i64 num)).new (g := w.heap.size) (i := 2) (Nat.le_refl _) (.string ByteArray.empty)
      generalize (((w3.setCell ⟨w.heap.size, 0, none⟩ (.int .u8 1)).setCell ⟨w.heap.size, 1, none⟩ (.int .i64 num)).setCell ⟨w.heap.size, 2, none⟩ (.string ByteArray.empty)) = w4 at q r4 o4 ⊢
      have d0 : w4.cell? ⟨w.heap.size, 0, none⟩ = some (.int .u8 1) := Go.Joins.cell_of_block q 0
      have d1 : w4.cell? ⟨w.heap.size, 1, none⟩ = some (.int .i64 num) := Go.Joins.cell_of_block q 1
      have d2 : w4.cell? ⟨w.heap.size, 2, none⟩ = some (.string ByteArray.empty) := Go.Joins.cell_of_block q 2
      have hv := HV2.out
      simp only [if_true, if_false, Bool.false_eq_true, Prod.mk.injEq] at hv
      obtain ⟨rfl, rfl, rfl⟩ := hv
      exact bodyPost_ret (v := .agg #[.int .u8 1, .int .i64 num, .string ByteArray.empty]) (by simp [results, Tryz.results142, go_sem, d0, d1, d2]) rfl ⟨rfl, r4, o4⟩
  · by_cases hk2 : kd = 2
    · subst hk2
      go_wp2_with fail
      have hnum := text_rd M rb b1 l1 _ (R1.out.below (hA1 (.cells #[.int .u8 2, .int .i64 0, .string ByteArray.empty] 132))) HW.out.2.1 hl1
      have hv := HV.out
      rw [if_neg hk1, if_pos (by trivial)] at hv
      generalize textS b1 l1 = r at hnum hv
      obtain ⟨txt, b2, l2⟩ := r
      dsimp only at hnum hv
      have HV2 := Lib.hid hv
      clear hv
      refine hnum.mono ?_
      rintro e w2 ⟨rfl, hr2, ho2⟩
      have hs2 := ho2.1
      simp only [World.size_alloc] at hs2
      have ht := (ho2.2 w1.heap.size (by simp) (by omega)).trans (heap_alloc_new w1 (.cells #[.int .u8 2, .int .i64 0, .string ByteArray.empty] 132))
      have e0 : w2.cell? ⟨w1.heap.size, 0, none⟩ = some (.int .u8 2) := Go.Joins.cell_of_block ht 0
      have e1 : w2.cell? ⟨w1.heap.size, 1, none⟩ = some (.int .i64 0) := Go.Joins.cell_of_block ht 1
      have e2 : w2.cell? ⟨w1.heap.size, 2, none⟩ = some (.string ByteArray.empty) := Go.Joins.cell_of_block ht 2
      have f1 : w2.frozen? ⟨w1.heap.size, 2, none⟩ = false := Go.Joins.unfrozen_of_block ht 2
      have hz := (ho2.2 w.heap.size (by simp; omega) (by omega)).trans (((World.grownBy_alloc w1 (.cells #[.int .u8 2, .int .i64 0, .string ByteArray.empty] 132) Option.none).block w.heap.size (by omega) (by simp)).trans B1.out)
      have R2 := Lib.hid hr2
      have O2 := Lib.hid ((O1.out.alloc _).trans ho2)
      have Z2 := Lib.hid hz
      clear hr2 ho2 hz ht hnum
      go_wp2_with fail
      refine (sureV_rd M rb b2 l2 2 0 txt _ (R2.out.other (by omega) (by omega) (.string txt))).mono ?_
      rintro e w3 ⟨he, hb3⟩
      have hz3 := (hb3.block w.heap.size (by simp; omega)).trans ((heap_setCell_other _ _ _ _ (show w.heap.size ≠ w1.heap.size by omega)).trans Z2.out)
      have hr3 := (R2.out.other (g := w1.heap.size) (i := 2) (by omega) (by omega) (.string txt)).below hb3
      have ho3 := (O2.out.new (g := w1.heap.size) (i := 2) (by omega) (.string txt)).trans (Only.of_below hb3)
      clear e0 e1 e2 f1 hb3 R2 O2 Z2
      have z0 : w3.cell? ⟨w.heap.size, 0, none⟩ = some (.int .u8 0) := Go.Joins.cell_of_block hz3 0
      have z1 : w3.cell? ⟨w.heap.size, 1, none⟩ = some (.int .i64 0) := Go.Joins.cell_of_block hz3 1
      have z2 : w3.cell? ⟨w.heap.size, 2, none⟩ = some (.string ByteArray.empty) := Go.Joins.cell_of_block hz3 2
      have g0 : w3.frozen? ⟨w.heap.size, 0, none⟩ = false := Go.Joins.unfrozen_of_block hz3 0
      have g1 : w3.frozen? ⟨w.heap.size, 1, none⟩ = false := Go.Joins.unfrozen_of_block hz3 1
      have g2 : w3.frozen? ⟨w.heap.size, 2, none⟩ = false := Go.Joins.unfrozen_of_block hz3 2
      have R3 := Lib.hid hr3
      have O3 := Lib.hid ho3
      have Z3 := Lib.hid hz3
      clear hr3 ho3 hz3
      cases b2 with
      | true =>
        rw [if_pos rfl] at he
        unfold Va.none Va.val at he
        subst he
        go_wp2_with fail
        have q := stored3 Z3.out (.int .u8 0) (.int .i64 0) (.string ByteArray.empty)
        have r4 := ((R3.out.other (g := w.heap.size) (i := 0) hM (by omega) (.int .u8 0)).other (g := w.heap.size) (i := 1) hM (by omega) (.int .i64 0)).other (g := w.heap.size) (i := 2) hM (by omega) (.string ByteArray.empty)
        have o4 := ((O3.out.new (g := w.heap.size) (i := 0) (Nat.le_refl _) (.int .u8 0)).new (g := w.heap.size) (i := 1) (Nat.le_refl _) (.int .i64 0)).new (g := w.heap.size) (i := 2) (Nat.le_refl _) (.string ByteArray.empty)
        generalize (((w3.setCell ⟨w.heap.size, 0, none⟩ (.int .u8 0)).setCell ⟨w.heap.size, 1, none⟩ (.int .i64 0)).setCell ⟨w.heap.size, 2, none⟩ (.string ByteArray.empty)) = w4 at q r4 o4 ⊢
        have d0 : w4.cell? ⟨w.heap.size, 0, none⟩ = some (.int .u8 0) := Go.Joins.cell_of_block q 0
        have d1 : w4.cell? ⟨w.heap.size, 1, none⟩ = some (.int .i64 0) := Go.Joins.cell_of_block q 1
        have d2 : w4.cell? ⟨w.heap.size, 2, none⟩ = some (.string ByteArray.empty) := Go.Joins.cell_of_block q 2
        have hv := HV2.out
        simp only [if_true, if_false, Bool.false_eq_true, Prod.mk.injEq] at hv
        obtain ⟨rfl, rfl, rfl⟩ := hv
        exact bodyPost_ret (v := .agg #[.int .u8 0, .int .i64 0, .string ByteArray.empty]) (by simp [results, Tryz.results142, go_sem, d0, d1, d2]) rfl ⟨rfl, r4, o4⟩
      | false =>
        rw [if_neg (by simp)] at he
        subst he
        go_wp2_with fail
        have q := stored3 Z3.out (.int .u8 2) (.int .i64 0) (.string txt)
        have r4 := ((R3.out.other (g := w.heap.size) (i := 0) hM (by omega) (.int .u8 2)).other (g := w.heap.size) (i := 1) hM (by omega) (.int .i64 0)).other (g := w.heap.size) (i := 2) hM (by omega) (.string txt)
        have o4 := ((O3.out.new (g := w.heap.size) (i := 0) (Nat.le_refl _) (.int .u8 2)).new (g := w.heap.size) (i := 1) (Nat.le_refl _) (.int .i64 0)).new (g := w.heap.size) (i := 2) (Nat.le_refl _) (.string txt)
        generalize (((w3.setCell ⟨w.heap.size, 0, none⟩ (.int .u8 2)).setCell ⟨w.heap.size, 1, none⟩ (.int .i64 0)).setCell ⟨w.heap.size, 2, none⟩ (.string txt)) = w4 at q r4 o4 ⊢
        have d0 : w4.cell? ⟨w.heap.size, 0, none⟩ = some (.int .u8 2) := Go.Joins.cell_of_block q 0
        have d1 : w4.cell? ⟨w.heap.size, 1, none⟩ = some (.int .i64 0) := Go.Joins.cell_of_block q 1
        have d2 : w4.cell? ⟨w.heap.size, 2, none⟩ = some (.string txt) := Go.Joins.cell_of_block q 2
        have hv := HV2.out
        simp only [if_true, if_false, Bool.false_eq_true, Prod.mk.injEq] at hv
        obtain ⟨rfl, rfl, rfl⟩ := hv
        exact bodyPost_ret (v := .agg #[.int .u8 2, .int .i64 0, .string txt]) (by simp [results, Tryz.results142, go_sem, d0, d1, d2]) rfl ⟨rfl, r4, o4⟩
    · have n1 : (kd == 1) = false := by simpa using hk1
      have n2 : decide (kd = 1) = false := by simpa using hk1
      have n3 : (kd == 2) = false := by simpa using hk2
      have n4 : decide (kd = 2) = false := by simpa using hk2
      have hr2 := R1.out.below (hA1 (.cells #[.int .u8 kd, .int .i64 0, .string ByteArray.empty] 132))
      obtain ⟨ca, cc, _, c1', _, cf'⟩ := R1.out.cells
      have hrl := R1.out.lt
      have c1 : ∀ o, (w1.alloc o).cell? ⟨rb, 1, none⟩ = some (.bool b1) := fun o => ((hA1 o).cell (p := ⟨rb, 1, none⟩) hrl).trans c1'
      have cf : ∀ o, (w1.alloc o).frozen? ⟨rb, 1, none⟩ = false := fun o => ((hA1 o).frozen (p := ⟨rb, 1, none⟩) hrl).trans cf'
      clear c1' cf'
      have ht := heap_alloc_new w1 (.cells #[.int .u8 kd, .int .i64 0, .string ByteArray.empty] 132)
      have e0 : (w1.alloc (.cells #[.int .u8 kd, .int .i64 0, .string ByteArray.empty] 132)).cell? ⟨w1.heap.size, 0, none⟩ = some (.int .u8 kd) := Go.Joins.cell_of_block ht 0
      have e1 : (w1.alloc (.cells #[.int .u8 kd, .int .i64 0, .string ByteArray.empty] 132)).cell? ⟨w1.heap.size, 1, none⟩ = some (.int .i64 0) := Go.Joins.cell_of_block ht 1
      have e2 : (w1.alloc (.cells #[.int .u8 kd, .int .i64 0, .string ByteArray.empty] 132)).cell? ⟨w1.heap.size, 2, none⟩ = some (.string ByteArray.empty) := Go.Joins.cell_of_block ht 2
      have hz := ((World.grownBy_alloc w1 (.cells #[.int .u8 kd, .int .i64 0, .string ByteArray.empty] 132) Option.none).block w.heap.size (by omega) (by simp)).trans B1.out
      have R2 := Lib.hid ((R1.out.setBad true).below ((Below.refl _ _).alloc (Nat.le_refl _) (.cells #[.int .u8 kd, .int .i64 0, .string ByteArray.empty] 132)))
      have O2 := Lib.hid ((O1.out.trans (Only.set rb _ 1 (.bool true))).alloc (.cells #[.int .u8 kd, .int .i64 0, .string ByteArray.empty] 132))
      have hz2 := ((World.grownBy_alloc (w1.setCell ⟨rb, 1, none⟩ (.bool true)) (.cells #[.int .u8 kd, .int .i64 0, .string ByteArray.empty] 132) Option.none).block w.heap.size (by simp; omega) (by simp)).trans ((heap_setCell_other _ _ _ _ (show w.heap.size ≠ rb by omega)).trans B1.out)
      have Z2 := Lib.hid hz2
      clear hr2 ht hz hz2
      go_wp2_with fail
      refine (sureV_rd M rb true l1 kd 0 ByteArray.empty _ R2.out).mono ?_
      rintro e w3 ⟨he, hb3⟩
      have hz3 := (hb3.block w.heap.size (by simp; omega)).trans Z2.out
      have hr3 := R2.out.below hb3
      have ho3 := O2.out.trans (Only.of_below hb3)
      clear e0 e1 e2 hb3 R2 O2 Z2 c1 cf
      have z0 : w3.cell? ⟨w.heap.size, 0, none⟩ = some (.int .u8 0) := Go.Joins.cell_of_block hz3 0
      have z1 : w3.cell? ⟨w.heap.size, 1, none⟩ = some (.int .i64 0) := Go.Joins.cell_of_block hz3 1
      have z2 : w3.cell? ⟨w.heap.size, 2, none⟩ = some (.string ByteArray.empty) := Go.Joins.cell_of_block hz3 2
      have g0 : w3.frozen? ⟨w.heap.size, 0, none⟩ = false := Go.Joins.unfrozen_of_block hz3 0
      have g1 : w3.frozen? ⟨w.heap.size, 1, none⟩ = false := Go.Joins.unfrozen_of_block hz3 1
      have g2 : w3.frozen? ⟨w.heap.size, 2, none⟩ = false := Go.Joins.unfrozen_of_block hz3 2
      have R3 := Lib.hid hr3
      have O3 := Lib.hid ho3
      have Z3 := Lib.hid hz3
      clear hr3 ho3 hz3
      rw [if_pos rfl] at he
      unfold Va.none Va.val at he
      subst he
      go_wp2_with fail
      have q := stored3 Z3.out (.int .u8 0) (.int .i64 0) (.string ByteArray.empty)
      have r4 := ((R3.out.other (g := w.heap.size) (i := 0) hM (by omega) (.int .u8 0)).other (g := w.heap.size) (i := 1) hM (by omega) (.int .i64 0)).other (g := w.heap.size) (i := 2) hM (by omega) (.string ByteArray.empty)
      have o4 := ((O3.out.new (g := w.heap.size) (i := 0) (Nat.le_refl _) (.int .u8 0)).new (g := w.heap.size) (i := 1) (Nat.le_refl _) (.int .i64 0)).new (g := w.heap.size) (i := 2) (Nat.le_refl _) (.string ByteArray.empty)
      generalize (((w3.setCell ⟨w.heap.size, 0, none⟩ (.int .u8 0)).setCell ⟨w.heap.size, 1, none⟩ (.int .i64 0)).setCell ⟨w.heap.size, 2, none⟩ (.string ByteArray.empty)) = w4 at q r4 o4 ⊢
      have d0 : w4.cell? ⟨w.heap.size, 0, none⟩ = some (.int .u8 0) := Go.Joins.cell_of_block q 0
      have d1 : w4.cell? ⟨w.heap.size, 1, none⟩ = some (.int .i64 0) := Go.Joins.cell_of_block q 1
      have d2 : w4.cell? ⟨w.heap.size, 2, none⟩ = some (.string ByteArray.empty) := Go.Joins.cell_of_block q 2
      have hv := HV.out
      rw [if_neg hk1, if_neg hk2] at hv
      simp only [Prod.mk.injEq] at hv
      obtain ⟨rfl, rfl, rfl⟩ := hv
      exact bodyPost_ret (v := .agg #[.int .u8 0, .int .i64 0, .string ByteArray.empty]) (by simp [results, Tryz.results142, go_sem, d0, d1, d2]) rfl ⟨rfl, r4, o4⟩
end Go.Proofs.YtnhnabcpkaeaaaaGreatDoor
/- SameBytes: bytes that read alike are told to be the same. Conditions: the cells lie as their readings say. -/
namespace Go.Proofs.YtnhnabcpkaeaaaaGreatDoor
open Go.RowKit
set_option maxRecDepth 20000
theorem sameB_any (ao : Option Addr) (n cap : Nat) (co : Option Addr) (m cap2 : Nat) (xs : List Int) (w : World) (hn : xs.length = n) (hm : xs.length = m) (hx : BytesIn w w.heap.size ao xs) (hy : BytesIn w w.heap.size co xs) (hl : n ≤ 4611686018427387904) :
    Calls Tryz.prog 11 #[.slice ao n cap, .slice co m cap2] w fun e w' => e = .returned (.bool true) ∧ Below w.heap.size w w' := by
  obtain rfl : n = m := by omega
  have HX := Lib.hid hx
  have HY := Lib.hid hy
  have HN := Lib.hid hn
  clear hx hy hn hm
  go_enter Tryz.func11, Tryz.ntmps11
  go_wp2_with fail
  go_loopw [5] (fun i wr => ∃ k : Nat, k ≤ n ∧ i = .int .i64 k ∧ Below w.heap.size w wr) (fun i _ => n - (intOf i).toNat)
  case atStart => exact ⟨0, by omega, rfl, Below.refl _ _⟩
  case round =>
    obtain ⟨k, hk, rfl, hbel⟩ := hrel
    by_cases hlt : k < n
    · have hHN := HN.out
      rcases HX.out with h0 | ⟨b, off, rfl, hb, hc⟩
      · rw [h0] at hHN; simp at hHN; omega
      rcases HY.out with h0 | ⟨b2, off2, rfl, hb2, hc2⟩
      · rw [h0] at hHN; simp at hHN; omega
      have d0 := hc k (by omega)
      have d1 := hc2 k (by omega)
      generalize xs.getD k 0 = x at d0 d1
      clear hc hc2 hHN
      have c0 : ∀ x' : Calm w.heap.size w, x'.1.cell? ⟨b, off + k, none⟩ = some (.int .u8 x) := fun x' => x'.cell d0 hb
      have c1 : ∀ x' : Calm w.heap.size w, x'.1.cell? ⟨b2, off2 + k, none⟩ = some (.int .u8 x) := fun x' => x'.cell d1 hb2
      have i1 : (k : Int) < n := by omega
      clear d0 d1
      go_wp2_with fail
      refine wp_region_calm (B := w.heap.size) (W0 := w) hbel (by kernel_rfl) (by kernel_rfl) ?_
      repeat (go_big_quiet_step (fail))
      refine wpQuiet_nil ?_
      intro w5 hb5
      clear c0 c1
      go_wp2_with fail
      go_roundw
      case rel => exact ⟨k + 1, by omega, by go_num, hb5⟩
      case measure => simp [intOf]; omega
    · obtain rfl : k = n := by omega
      go_wp2_with fail
      go_ret
      exact ⟨rfl, hbel⟩
end Go.Proofs.YtnhnabcpkaeaaaaGreatDoor
/- Join of wire; a reader's Number and Value with what they tell under names. Conditions: as each says. -/
namespace Go.Proofs.YtnhnabcpkaeaaaaGreatDoor
open Go.RowKit
set_option maxRecDepth 20000
theorem wjoin_x (ao : Option Addr) (n cap : Nat) (ps : List Pt) (L : List Int) (w : World) (B : Nat) (hn : ps.length = n) (hL : ps.flatMap Pt.data = L) (hx : RowsIn 1 ptCells ptSub w B ao ps) (hB : B ≤ w.heap.size) (hw : ∀ p ∈ ps, BytesWf p.data) (hc : n ≤ cap) (hl : L.length ≤ 140737488351232) (hnl : n ≤ 1099511627776) :
    Calls Tryz.prog 86 #[.slice ao n cap] w (JoinedX L w) := by
  have HJ := Lib.hid (join_x ao n cap ps w B hn hx hB hw hc (by rw [hL]; exact hl) hnl)
  rw [hL] at HJ
  clear hn hx hw hL
  go_enter Tryz.func86, Tryz.ntmps86
  go_wp2_with fail
  refine HJ.out.mono ?_
  rintro e w1 ⟨a, c, rfl, h1, h2, h3, h4, h6, h5⟩
  have H := Lib.hid (And.intro h4 h6)
  clear h4 h6
  go_wp2_with fail
  go_ret
  exact ⟨a, c, rfl, h1, h2, h3, H.out.1, H.out.2, h5⟩
theorem wjoin_any (ao : Option Addr) (n cap : Nat) (ps : List Pt) (L : List Int) (w : World) (B : Nat) (hn : ps.length = n) (hL : ps.flatMap Pt.data = L) (hx : RowsIn 1 ptCells ptSub w B ao ps) (hB : B ≤ w.heap.size) (hw : ∀ p ∈ ps, BytesWf p.data) (hc : n ≤ cap) (hl : L.length ≤ 140737488351232) (hnl : n ≤ 1099511627776) :
    Calls Tryz.prog 86 #[.slice ao n cap] w (JoinedAt L w) := (wjoin_x ao n cap ps L w B hn hL hx hB hw hc hl hnl).mono fun _ _ h => h.drop
theorem number_at (M rb : Nat) (bad : Bool) (left : List Int) (v : Int) (b2 : Bool) (l2 : List Int) (w : World) (hs : (IntKind.i64.wrap (getN (takeS 8 bad left).1), (takeS 8 bad left).2) = (v, b2, l2)) (h : Rdr w M rb bad left) (hw : BytesWf left) (hl : left.length ≤ 140737488351232) :
    Calls Tryz.prog 68 #[.pointer (some ⟨rb, 0, none⟩)] w (SaidAt M rb v b2 l2 w) := by
  have := number_rd M rb bad left w h hw hl
  simp only [Prod.mk.injEq] at hs
  obtain ⟨h1, h2⟩ := hs
  rw [h1, h2] at this
  exact this
/-- Bytes of a call's own, with their list under a name. -/
theorem number_w (n : Int) (L : List Int) (w : World) (hL : numB 8 n = L) : Calls Tryz.prog 87 #[.int .i64 n] w (BytesNew L w.heap.size w) := hL ▸ number_any n w
theorem own_in {w : World} {base n c : Nat} {a : Option Addr} {l : List Int} (hn : l.length = n) (h : w.ownsRow base 5 1 (.slice a n c) n (l.map bv)) : BytesIn w w.heap.size a l := by
  subst hn; exact own_bytes' h
theorem rowsIn_block {α : Type} {k : Nat} {cells : α → List Value} {sub : World → Nat → α → Prop} (hk : ∀ x, (cells x).length = k) {w : World} {b B : Nat} {T : TypeId} {fz : Nat × Nat} (xs : List α) (cs : Array Value) (h : w.heap[b]? = some (.cells cs T fz)) (hcs : cs.toList = xs.flatMap cells) (hb : b < B) (hs : ∀ x ∈ xs, sub w B x) : RowsIn k cells sub w B (some ⟨b, 0, none⟩) xs := by
  refine Or.inr ⟨b, 0, rfl, hb, fun i x hx => ⟨fun j hj => ?_, hs x (List.mem_of_getElem? hx)⟩⟩
  rw [Go.Joins.cell_of_block h (0 + i * k + j), ← Array.getElem?_toList, hcs, Nat.zero_add]
  exact flat_get hk xs i x hx j hj
end Go.Proofs.YtnhnabcpkaeaaaaGreatDoor
