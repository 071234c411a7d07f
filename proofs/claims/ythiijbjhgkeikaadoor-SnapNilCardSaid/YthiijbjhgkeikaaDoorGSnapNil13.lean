/- A snap among the arguments. Conditions: it is read as the row reads it, its weights are bounded. -/
import Derived.Test.YthiijbjhgkeikaaDoorGSnapNil3
import Derived.Test.YthiijbjhgkeikaaDoorGSnapNil12
set_option linter.unusedVariables false
set_option linter.unusedSimpArgs false
namespace Go.Proofs.YthiijbjhgkeikaaDoor
open Go.RowKit Go.ChangeShapes
set_option maxRecDepth 20000
theorem scells_bs : Tryd.prog.cellsOf 23 = 1 := by kernel_rfl
theorem scells_b : Tryd.prog.cellsOf 5 = 1 := by kernel_rfl
theorem sbytes_b : Tryd.prog.bytesOf 5 = 1 := by kernel_rfl
def sbCells (x : Int) : List Value := [.int .u8 x]
theorem sb_el {H : Type} {enc : TypeId × Value → H} {W : World} {sp : Nat → Bool} {hd : Bool} (cs : List Value) (n : Nat) (y : DataW H) (pl : List MemPlace) (hl : cs.length = 1) (h : DataW.trod enc Tryd.prog W 0 sp hd n 5 cs = some (y, pl)) (_ : DSized Tryd.prog 5 y) :
    ∃ x : Int, sbCells x = cs ∧ noSub W W.heap.size x ∧ (Lit.int .u8 x).wf = true := by
  obtain ⟨k0, e0, _, w0⟩ := DataW.trod_int Tryd.underlying5 h
  exact ⟨k0, e0.symm, trivial, w0⟩
theorem srows_bytes {w : World} {B : Nat} {ao : Option Addr} {xs : List Int} (h : RowsIn 1 sbCells noSub w B ao xs) : BytesIn w B ao xs := by
  rcases h with h | ⟨b, off, h1, h2, h3⟩
  · exact Or.inl h
  · refine Or.inr ⟨b, off, h1, h2, fun i hi => ?_⟩
    have hx : xs[i]? = some xs[i] := List.getElem?_eq_getElem hi
    have := (h3 i _ hx).1 0 (by decide)
    rw [Nat.mul_one, Nat.add_zero] at this
    rw [this]
    simp [sbCells, List.getD, hx]
/-- What holds of a snap among the arguments. -/
structure SnArg (x : Sn) : Prop where
  index : (Lit.int .i64 x.index).wf = true
  term : (Lit.int .i64 x.term).wf = true
  vs : ∀ v ∈ x.vs, (Lit.int .i64 v).wf = true
  vn : x.vs.length * 8 ≤ 140737488351232
  im : BytesWf x.im
  ln : x.im.length ≤ 140737488351232
  vnil : x.va = none → x.vc = 0
  inil : x.ia = none → x.ic = 0
  vcap : x.vs.length ≤ x.vc
  icap : x.im.length ≤ x.ic
theorem sn_el {H : Type} {enc : TypeId × Value → H} {W : World} {sp : Nat → Bool} {hd : Bool} (cs : List Value) (n : Nat) (y : DataW H) (pl : List MemPlace) (hl : cs.length = 4) (h : DataW.trod enc Tryd.prog W 0 sp hd n 25 cs = some (y, pl)) (hz : DSized Tryd.prog 25 y) :
    ∃ x : Sn, snVal x = .agg cs.toArray ∧ snSub W W.heap.size x ∧ SnArg x := by
  obtain ⟨c0, c1, c2, c3, rfl⟩ : ∃ c0 c1 c2 c3, cs = [c0, c1, c2, c3] := by
    match cs, hl with
    | [c0, c1, c2, c3], _ => exact ⟨c0, c1, c2, c3, rfl⟩
  obtain ⟨xs, m, _, hx, _, hlen, hf⟩ := DataW.trod_struct Tryd.underlying25 h
  simp only [Prod.mk.injEq] at hx
  obtain ⟨rfl, _⟩ := hx
  match xs, hlen with
  | [y0, y1, y2, y3], _ =>
    have h0 := hf 0 _ rfl
    have h1 := hf 1 _ rfl
    have h2 := hf 2 _ rfl
    have h3 := hf 3 _ rfl
    have z2 := DSized.field Tryd.underlying25 hz (i := 2) (y := y2) rfl rfl
    have z3 := DSized.field Tryd.underlying25 hz (i := 3) (y := y3) rfl rfl
    simp [cells_i64, cells_ints, scells_bs] at h0 h1 h2 h3
    obtain ⟨k0, e0, _, w0⟩ := DataW.trod_int Tryd.underlying3 h0
    obtain ⟨k1, e1, _, w1⟩ := DataW.trod_int Tryd.underlying3 h1
    obtain ⟨va, vl, vc, e2, t2⟩ := slice_cell Tryd.underlying22 h2
    obtain ⟨ia, il, ic, e3, t3⟩ := slice_cell Tryd.underlying23 h3
    obtain ⟨vs, rfl, vx, vq, vnil, vcap, vlen⟩ := open_sized (k := 1) (cells := iCells) (sub := noSub) (fun x => (Lit.int .i64 x).wf = true) Tryd.underlying22 cells_i64 (by decide) i_el t2 z2
    obtain ⟨im, rfl, ix, iq, inil, icap, ilen⟩ := open_sized (k := 1) (cells := sbCells) (sub := noSub) (fun x => (Lit.int .u8 x).wf = true) Tryd.underlying23 scells_b (by decide) sb_el t3 z3
    simp at e0 e1 e2 e3
    subst e0 e1 e2 e3
    rw [bytes_i] at vlen
    rw [sbytes_b, Nat.mul_one] at ilen
    exact ⟨⟨k0, k1, va, vs, vc, ia, im, ic⟩, rfl, ⟨vx, srows_bytes ix⟩, ⟨w0, w1, vq, vlen, fun x hx => u8_of (iq x hx), ilen, vnil, inil, vcap, icap⟩⟩
theorem open_snap {H : Type} {enc : TypeId × Value → H} {W : World} {sp : Nat → Bool} {hd : Bool} {cs : Array Value} {d : DataW H} {p : List MemPlace} (hc : cs.size = Tryd.prog.cellsOf 25) (h : DataW.Trod enc Tryd.prog W 0 sp hd 25 (.agg cs) d p) (hz : DSized Tryd.prog 25 d) :
    ∃ x : Sn, .agg cs = snVal x ∧ snSub W W.heap.size x ∧ SnArg x := by
  have h12 : Tryd.prog.cellsOf 25 = 4 := by kernel_rfl
  obtain ⟨n, hn⟩ := h
  obtain ⟨t, e, x, w⟩ := sn_el cs.toList n d p (by rw [Array.length_toList, hc, h12]) (by simpa [Value.cells] using hn) hz
  exact ⟨t, by rw [e], x, w⟩
end Go.Proofs.YthiijbjhgkeikaaDoor
/- Without a disk nothing is stored, or loaded. Conditions: as the law's statement. -/
namespace Go.Proofs.YthiijbjhgkeikaaDoor
open Go.RowKit Go.ChangeShapes
set_option maxRecDepth 20000
theorem sstore_nil (w : World) (x : Sn) : Calls Tryd.prog 7 #[.pointer none, snVal x] w fun e w' => e = .returned (.int .i64 1) ∧ Below w.heap.size w w' := by
  have hb1 := (Below.refl w.heap.size w).alloc (Nat.le_refl _) (.cells #[.pointer none] 26)
  have hk1 := heap_alloc_new w (.cells #[.pointer none] 26)
  have hs1 : (w.alloc (.cells #[.pointer none] 26)).heap.size = w.heap.size + 1 := by simp
  have hb21 := (Below.refl _ (w.alloc (.cells #[.pointer none] 26))).alloc (Nat.le_refl _) (.cells (snArr x) 25)
  have hb2 := hb1.alloc hb1.size (.cells (snArr x) 25)
  have hk12 := (hb21.block w.heap.size (by omega)).trans hk1
  have HB2 := Lib.hid hb2
  have HK1 := Lib.hid hk12
  clear hb1 hk1 hs1 hb21 hb2 hk12
  obtain ⟨si, st, va, xs, vc, ia, im, ic⟩ := x
  dsimp only [snVal, snArr] at HB2 HK1 ⊢
  go_enter Tryd.func7, Tryd.ntmps7
  go_upto_region 1 with fail
  generalize (w.alloc (.cells #[.pointer none] 26)).alloc (.cells #[.int .i64 si, .int .i64 st, .slice va xs.length vc, .slice ia im.length ic] 25) = w2 at HB2 HK1 ⊢
  have k1 := Go.Joins.cell_of_block HK1.out 0
  go_wp2_with fail
  refine (read_nil w2 newS).mono ?_
  rintro e w3 ⟨rfl, hb3⟩
  have HB3 := Lib.hid (HB2.out.trans (hb3.mono HB2.out.size))
  clear hb3 k1
  go_wp2_with fail
  go_ret
  exact ⟨rfl, HB3.out⟩
theorem sstore_no (w : World) (x : Sn) (db : Nat) (c1 : w.cell? ⟨db, 1, none⟩ = some (.map none)) (hlt : db < w.heap.size) : Calls Tryd.prog 7 #[.pointer (some ⟨db, 0, none⟩), snVal x] w fun e w' => e = .returned (.int .i64 1) ∧ Below w.heap.size w w' := by
  have hb1 := (Below.refl w.heap.size w).alloc (Nat.le_refl _) (.cells #[.pointer (some ⟨db, 0, none⟩)] 26)
  have hk1 := heap_alloc_new w (.cells #[.pointer (some ⟨db, 0, none⟩)] 26)
  have hs1 : (w.alloc (.cells #[.pointer (some ⟨db, 0, none⟩)] 26)).heap.size = w.heap.size + 1 := by simp
  have hb21 := (Below.refl _ (w.alloc (.cells #[.pointer (some ⟨db, 0, none⟩)] 26))).alloc (Nat.le_refl _) (.cells (snArr x) 25)
  have hb2 := hb1.alloc hb1.size (.cells (snArr x) 25)
  have hk12 := (hb21.block w.heap.size (by omega)).trans hk1
  have HB2 := Lib.hid hb2
  have HK1 := Lib.hid hk12
  have HC := Lib.hid ((hb2.cell (p := ⟨db, 1, none⟩) hlt).trans c1)
  clear hb1 hk1 hs1 hb21 hb2 hk12 c1
  obtain ⟨si, st, va, xs, vc, ia, im, ic⟩ := x
  dsimp only [snVal, snArr] at HB2 HK1 HC ⊢
  go_enter Tryd.func7, Tryd.ntmps7
  go_upto_region 1 with fail
  generalize (w.alloc (.cells #[.pointer (some ⟨db, 0, none⟩)] 26)).alloc (.cells #[.int .i64 si, .int .i64 st, .slice va xs.length vc, .slice ia im.length ic] 25) = w2 at HB2 HK1 HC ⊢
  have k1 := Go.Joins.cell_of_block HK1.out 0
  go_wp2_with fail
  refine (read_no w2 db HC.out (Nat.lt_of_lt_of_le hlt HB2.out.size) newS).mono ?_
  rintro e w3 ⟨rfl, hb3⟩
  have HB3 := Lib.hid (HB2.out.trans (hb3.mono HB2.out.size))
  clear hb3 k1
  go_wp2_with fail
  go_ret
  exact ⟨rfl, HB3.out⟩
theorem same_zero (w : World) : Calls Tryd.prog 8 #[.agg #[.int .i64 0, .int .i64 0, .slice none 0 0, .slice none 0 0], .agg #[.int .i64 0, .int .i64 0, .slice none 0 0, .slice none 0 0]] w fun e w' => e = .returned (.bool true) ∧ Below w.heap.size w w' :=
  sameSnap_any zeroSx zeroSx w ⟨Or.inl rfl, Or.inl rfl⟩ ⟨Or.inl rfl, Or.inl rfl⟩ rfl (Nat.zero_le _) (Nat.zero_le _)
set_option maxHeartbeats 8000000 in
theorem snapNil_any (x : Sn) (w : World) : Calls Tryd.prog 3 #[snVal x] w fun e w' => e = .returned (.bool true) ∧ Below w.heap.size w w' := by
  obtain ⟨si, st, va, xs, vc, ia, im, ic⟩ := x
  obtain ⟨n, hn⟩ : ∃ n, xs.length = n := ⟨_, rfl⟩
  obtain ⟨m, hm⟩ : ∃ m, im.length = m := ⟨_, rfl⟩
  have ST1 := Lib.hid (fun w => sstore_nil w ⟨si, st, va, xs, vc, ia, im, ic⟩)
  have ST2 := Lib.hid (fun w => sstore_no w ⟨si, st, va, xs, vc, ia, im, ic⟩)
  dsimp only [snVal] at ST1 ST2 ⊢
  rw [hn, hm] at ST1 ST2 ⊢
  clear hn hm
  go_enter Tryd.func3, Tryd.ntmps3
  go_upto_region 2 with fail
  have hb1 := (Below.refl w.heap.size w).alloc (Nat.le_refl _) (.cells #[.int .i64 si, .int .i64 st, .slice va n vc, .slice ia m ic] 25)
  have hk1 := heap_alloc_new w (.cells #[.int .i64 si, .int .i64 st, .slice va n vc, .slice ia m ic] 25)
  have hs1 : (w.alloc (.cells #[.int .i64 si, .int .i64 st, .slice va n vc, .slice ia m ic] 25)).heap.size = w.heap.size + 1 := by simp
  generalize w.alloc (.cells #[.int .i64 si, .int .i64 st, .slice va n vc, .slice ia m ic] 25) = w1 at hb1 hk1 hs1 ⊢
  have hb2 := (Below.refl w1.heap.size w1).alloc (Nat.le_refl _) (.cells #[.int .i64 0, .map none] 29)
  have hk2 := heap_alloc_new w1 (.cells #[.int .i64 0, .map none] 29)
  have hs2 : (w1.alloc (.cells #[.int .i64 0, .map none] 29)).heap.size = w1.heap.size + 1 := by simp
  generalize w1.alloc (.cells #[.int .i64 0, .map none] 29) = w2 at hb2 hk2 hs2 ⊢
  have hb3 := (Below.refl w2.heap.size w2).alloc (Nat.le_refl _) (.cells #[.pointer none, .pointer (some ⟨w.heap.size + 1, 0, none⟩)] 26)
  have hk3 := heap_alloc_new w2 (.cells #[.pointer none, .pointer (some ⟨w.heap.size + 1, 0, none⟩)] 26)
  have hs3 : (w2.alloc (.cells #[.pointer none, .pointer (some ⟨w.heap.size + 1, 0, none⟩)] 26)).heap.size = w2.heap.size + 1 := by simp
  generalize w2.alloc (.cells #[.pointer none, .pointer (some ⟨w.heap.size + 1, 0, none⟩)] 26) = w3 at hb3 hk3 hs3 ⊢
  have HK1 := Lib.hid ((hb3.block w.heap.size (by omega)).trans ((hb2.block w.heap.size (by omega)).trans hk1))
  have HK2 : Hid (w3.heap[w.heap.size + 1]? = some (.cells #[.int .i64 0, .map none] 29 (0, 0))) := Lib.hid (by
    have h := (hb3.block w1.heap.size (by omega)).trans hk2
    rw [hs1] at h
    exact h)
  have HK3 : Hid (w3.heap[w.heap.size + 1 + 1]? = some (.cells #[.pointer none, .pointer (some ⟨w.heap.size + 1, 0, none⟩)] 26 (0, 0))) := Lib.hid (by
    rw [hs2, hs1] at hk3
    exact hk3)
  have HS3 : w.heap.size + 3 ≤ w3.heap.size := by omega
  have HB3 := Lib.hid (hb1.trans ((hb2.trans (hb3.mono hb2.size)).mono hb1.size))
  clear hb1 hk1 hs1 hb2 hk2 hs2 hb3 hk3 hs3
  have hC : ∀ w', Below w3.heap.size w3 w' → w'.cell? ⟨w.heap.size, 0, none⟩ = some (.int .i64 si) ∧ w'.cell? ⟨w.heap.size, 1, none⟩ = some (.int .i64 st) ∧ w'.cell? ⟨w.heap.size, 2, none⟩ = some (.slice va n vc) ∧ w'.cell? ⟨w.heap.size, 3, none⟩ = some (.slice ia m ic) ∧
      w'.cell? ⟨w.heap.size + 1 + 1, 0, none⟩ = some (.pointer none) ∧ w'.cell? ⟨w.heap.size + 1 + 1, 1, none⟩ = some (.pointer (some ⟨w.heap.size + 1, 0, none⟩)) ∧ w'.cell? ⟨w.heap.size + 1, 1, none⟩ = some (.map none) ∧ w.heap.size + 1 < w'.heap.size := fun w' hb => by
    have h1 := (hb.block w.heap.size (by omega)).trans HK1.out
    have h2 := (hb.block (w.heap.size + 1) (by omega)).trans HK2.out
    have h3 := (hb.block (w.heap.size + 1 + 1) (by omega)).trans HK3.out
    exact ⟨Go.Joins.cell_of_block h1 0, Go.Joins.cell_of_block h1 1, Go.Joins.cell_of_block h1 2, Go.Joins.cell_of_block h1 3, Go.Joins.cell_of_block h3 0, Go.Joins.cell_of_block h3 1, Go.Joins.cell_of_block h2 1, by have := hb.size; omega⟩
  have HC := Lib.hid hC
  clear hC
  obtain ⟨p0, p1, p2, p3, p4, p5, p6, p7⟩ := HC.out w3 (Below.refl _ _)
  go_upto_region 3 with fail
  refine wp_loop_rounds 3 ?_
  rw [rounds_succ]
  go_wp2_with fail
  refine (sload_nil w3).mono ?_
  rintro e w1a ⟨rfl, hb4⟩
  dsimp only [snVal, zeroSx, List.length]
  clear p0 p1 p2 p3 p4 p5 p6 p7
  have c4 := (Below.refl w3.heap.size w3).trans (hb4.mono (Below.refl w3.heap.size w3).size)
  have hb45 := (Below.refl w1a.heap.size w1a).alloc (Nat.le_refl _) (.cells #[.int .i64 0, .int .i64 0, .slice none 0 0, .slice none 0 0] 25)
  have hk5 := heap_alloc_new w1a (.cells #[.int .i64 0, .int .i64 0, .slice none 0 0, .slice none 0 0] 25)
  have HB1 := Lib.hid (c4.trans (hb45.mono c4.size))
  have HKX1 := Lib.hid hk5
  clear hb4 c4 hb45 hk5
  go_upto_region 6 with fail
  generalize w1a.alloc (.cells #[.int .i64 0, .int .i64 0, .slice none 0 0, .slice none 0 0] 25) = w1b at HB1 HKX1 ⊢
  have hC2 : ∀ w', Below w1b.heap.size w1b w' → w'.cell? ⟨w1a.heap.size, 0, none⟩ = some (.int .i64 0) ∧ w'.cell? ⟨w1a.heap.size, 1, none⟩ = some (.int .i64 0) ∧ w'.cell? ⟨w1a.heap.size, 2, none⟩ = some (.slice none 0 0) ∧ w'.cell? ⟨w1a.heap.size, 3, none⟩ = some (.slice none 0 0) := fun w' hb => by
    have h1 := (hb.block _ (Array.getElem?_eq_some_iff.1 HKX1.out).1).trans HKX1.out
    exact ⟨Go.Joins.cell_of_block h1 0, Go.Joins.cell_of_block h1 1, Go.Joins.cell_of_block h1 2, Go.Joins.cell_of_block h1 3⟩
  have HC21 := Lib.hid hC2
  clear hC2
  have n1 : decide ((1 : Int) = 1) = true := rfl
  refine heldS_begin (fun w' => Below w1b.heap.size w1b w') (by kernel_rfl) ((Below.refl _ _).drew) ?_
  intro hS0
  (first | (refine takeS_no 0 rfl (by kernel_rfl) (by kernel_rfl) (by kernel_rfl) (fun _ _ _ h => h) (by rfl) (by assumption) ?_) | (refine takeS_yes (v := ?_) 0 rfl (by kernel_rfl) (by kernel_rfl) (by kernel_rfl) (fun _ _ _ h => h) (by rfl) (by assumption) ?_ ?_; rotate_left; focus (intro wS hSw; (obtain ⟨p0, p1, p2, p3, p4, p5, p6, p7⟩ := HC.out wS (HB1.out.trans (hSw.mono HB1.out.size)); obtain ⟨r0, r1, r2, r3⟩ := HC21.out wS hSw); go_simp; first | done | with_reducible rfl)))
  (try simp only [Act.put, List.setIfInBounds_toArray, List.set_cons_zero, List.set_cons_succ])
  (first | (refine takeS_no 1 rfl (by kernel_rfl) (by kernel_rfl) (by kernel_rfl) (fun _ _ _ h => h) (by rfl) (by assumption) ?_) | (refine takeS_yes (v := ?_) 1 rfl (by kernel_rfl) (by kernel_rfl) (by kernel_rfl) (fun _ _ _ h => h) (by rfl) (by assumption) ?_ ?_; rotate_left; focus (intro wS hSw; (obtain ⟨p0, p1, p2, p3, p4, p5, p6, p7⟩ := HC.out wS (HB1.out.trans (hSw.mono HB1.out.size)); obtain ⟨r0, r1, r2, r3⟩ := HC21.out wS hSw); go_simp; first | done | with_reducible rfl)))
  (try simp only [Act.put, List.setIfInBounds_toArray, List.set_cons_zero, List.set_cons_succ])
  (first | (refine takeS_no 2 rfl (by kernel_rfl) (by kernel_rfl) (by kernel_rfl) (fun _ _ _ h => h) (by rfl) (by assumption) ?_) | (refine takeS_yes (v := ?_) 2 rfl (by kernel_rfl) (by kernel_rfl) (by kernel_rfl) (fun _ _ _ h => h) (by rfl) (by assumption) ?_ ?_; rotate_left; focus (intro wS hSw; (obtain ⟨p0, p1, p2, p3, p4, p5, p6, p7⟩ := HC.out wS (HB1.out.trans (hSw.mono HB1.out.size)); obtain ⟨r0, r1, r2, r3⟩ := HC21.out wS hSw); go_simp; first | done | with_reducible rfl)))
  (try simp only [Act.put, List.setIfInBounds_toArray, List.set_cons_zero, List.set_cons_succ])
  (first | (refine takeS_no 3 rfl (by kernel_rfl) (by kernel_rfl) (by kernel_rfl) (fun _ _ _ h => h) (by rfl) (by assumption) ?_) | (refine takeS_yes (v := ?_) 3 rfl (by kernel_rfl) (by kernel_rfl) (by kernel_rfl) (fun _ _ _ h => h) (by rfl) (by assumption) ?_ ?_; rotate_left; focus (intro wS hSw; (obtain ⟨p0, p1, p2, p3, p4, p5, p6, p7⟩ := HC.out wS (HB1.out.trans (hSw.mono HB1.out.size)); obtain ⟨r0, r1, r2, r3⟩ := HC21.out wS hSw); go_simp; first | done | with_reducible rfl)))
  (try simp only [Act.put, List.setIfInBounds_toArray, List.set_cons_zero, List.set_cons_succ])
  (first | (refine takeS_no 4 rfl (by kernel_rfl) (by kernel_rfl) (by kernel_rfl) (fun _ _ _ h => h) (by rfl) (by assumption) ?_) | (refine takeS_yes (v := ?_) 4 rfl (by kernel_rfl) (by kernel_rfl) (by kernel_rfl) (fun _ _ _ h => h) (by rfl) (by assumption) ?_ ?_; rotate_left; focus (intro wS hSw; (obtain ⟨p0, p1, p2, p3, p4, p5, p6, p7⟩ := HC.out wS (HB1.out.trans (hSw.mono HB1.out.size)); obtain ⟨r0, r1, r2, r3⟩ := HC21.out wS hSw); go_simp; first | done | with_reducible rfl)))
  (try simp only [Act.put, List.setIfInBounds_toArray, List.set_cons_zero, List.set_cons_succ])
  generalize w1b.drew = w1d at hS0 ⊢
  refine takeS_alone 5 rfl (by kernel_rfl) (by rfl) (fun K hK => ?_)
  go_simp
  (obtain ⟨p0, p1, p2, p3, p4, p5, p6, p7⟩ := HC.out w1d (HB1.out.trans (hS0.mono HB1.out.size)); refine (ST1.out w1d).mono ?_; rintro e w6 ⟨rfl, hb⟩; have c6 := hS0.trans (hb.mono hS0.size); clear hb p0 p1 p2 p3 p4 p5 p6 p7)
  refine hK.out _ _ (by assumption) ?_
  clear hK K
  (try simp only [Act.put, List.setIfInBounds_toArray, List.set_cons_zero, List.set_cons_succ])
  (first | (refine takeS_no 6 rfl (by kernel_rfl) (by kernel_rfl) (by kernel_rfl) (fun _ _ _ h => h) (by rfl) (by assumption) ?_) | (refine takeS_yes (v := ?_) 6 rfl (by kernel_rfl) (by kernel_rfl) (by kernel_rfl) (fun _ _ _ h => h) (by rfl) (by assumption) ?_ ?_; rotate_left; focus (intro wS hSw; (obtain ⟨p0, p1, p2, p3, p4, p5, p6, p7⟩ := HC.out wS (HB1.out.trans (hSw.mono HB1.out.size)); obtain ⟨r0, r1, r2, r3⟩ := HC21.out wS hSw); go_simp; first | done | with_reducible rfl)))
  (try simp only [Act.put, List.setIfInBounds_toArray, List.set_cons_zero, List.set_cons_succ])
  (first | (refine takeS_no 7 rfl (by kernel_rfl) (by kernel_rfl) (by kernel_rfl) (fun _ _ _ h => h) (by rfl) (by assumption) ?_) | (refine takeS_yes (v := ?_) 7 rfl (by kernel_rfl) (by kernel_rfl) (by kernel_rfl) (fun _ _ _ h => h) (by rfl) (by assumption) ?_ ?_; rotate_left; focus (intro wS hSw; (obtain ⟨p0, p1, p2, p3, p4, p5, p6, p7⟩ := HC.out wS (HB1.out.trans (hSw.mono HB1.out.size)); obtain ⟨r0, r1, r2, r3⟩ := HC21.out wS hSw); go_simp; first | done | with_reducible rfl)))
  (try simp only [Act.put, List.setIfInBounds_toArray, List.set_cons_zero, List.set_cons_succ])
  (first | (refine takeS_no 8 rfl (by kernel_rfl) (by kernel_rfl) (by kernel_rfl) (fun _ _ _ h => h) (by rfl) (by assumption) ?_) | (refine takeS_yes (v := ?_) 8 rfl (by kernel_rfl) (by kernel_rfl) (by kernel_rfl) (fun _ _ _ h => h) (by rfl) (by assumption) ?_ ?_; rotate_left; focus (intro wS hSw; (obtain ⟨p0, p1, p2, p3, p4, p5, p6, p7⟩ := HC.out wS (HB1.out.trans (hSw.mono HB1.out.size)); obtain ⟨r0, r1, r2, r3⟩ := HC21.out wS hSw); go_simp; first | done | with_reducible rfl)))
  (try simp only [Act.put, List.setIfInBounds_toArray, List.set_cons_zero, List.set_cons_succ])
  (first | (refine takeS_no 9 rfl (by kernel_rfl) (by kernel_rfl) (by kernel_rfl) (fun _ _ _ h => h) (by rfl) (by assumption) ?_) | (refine takeS_yes (v := ?_) 9 rfl (by kernel_rfl) (by kernel_rfl) (by kernel_rfl) (fun _ _ _ h => h) (by rfl) (by assumption) ?_ ?_; rotate_left; focus (intro wS hSw; (obtain ⟨p0, p1, p2, p3, p4, p5, p6, p7⟩ := HC.out wS (HB1.out.trans (hSw.mono HB1.out.size)); obtain ⟨r0, r1, r2, r3⟩ := HC21.out wS hSw); go_simp; first | done | with_reducible rfl)))
  (try simp only [Act.put, List.setIfInBounds_toArray, List.set_cons_zero, List.set_cons_succ])
  (first | (refine takeS_no 10 rfl (by kernel_rfl) (by kernel_rfl) (by kernel_rfl) (fun _ _ _ h => h) (by rfl) (by assumption) ?_) | (refine takeS_yes (v := ?_) 10 rfl (by kernel_rfl) (by kernel_rfl) (by kernel_rfl) (fun _ _ _ h => h) (by rfl) (by assumption) ?_ ?_; rotate_left; focus (intro wS hSw; (obtain ⟨p0, p1, p2, p3, p4, p5, p6, p7⟩ := HC.out wS (HB1.out.trans (hSw.mono HB1.out.size)); obtain ⟨r0, r1, r2, r3⟩ := HC21.out wS hSw); go_simp; first | done | with_reducible rfl)))
  (try simp only [Act.put, List.setIfInBounds_toArray, List.set_cons_zero, List.set_cons_succ])
  (first | (refine takeS_no 11 rfl (by kernel_rfl) (by kernel_rfl) (by kernel_rfl) (fun _ _ _ h => h) (by rfl) (by assumption) ?_) | (refine takeS_yes (v := ?_) 11 rfl (by kernel_rfl) (by kernel_rfl) (by kernel_rfl) (fun _ _ _ h => h) (by rfl) (by assumption) ?_ ?_; rotate_left; focus (intro wS hSw; (obtain ⟨p0, p1, p2, p3, p4, p5, p6, p7⟩ := HC.out wS (HB1.out.trans (hSw.mono HB1.out.size)); obtain ⟨r0, r1, r2, r3⟩ := HC21.out wS hSw); go_simp; first | done | with_reducible rfl)))
  (try simp only [Act.put, List.setIfInBounds_toArray, List.set_cons_zero, List.set_cons_succ])
  (first | (refine takeS_no 12 rfl (by kernel_rfl) (by kernel_rfl) (by kernel_rfl) (fun _ _ _ h => h) (by rfl) (by assumption) ?_) | (refine takeS_yes (v := ?_) 12 rfl (by kernel_rfl) (by kernel_rfl) (by kernel_rfl) (fun _ _ _ h => h) (by rfl) (by assumption) ?_ ?_; rotate_left; focus (intro wS hSw; (obtain ⟨p0, p1, p2, p3, p4, p5, p6, p7⟩ := HC.out wS (HB1.out.trans (hSw.mono HB1.out.size)); obtain ⟨r0, r1, r2, r3⟩ := HC21.out wS hSw); go_simp; first | done | with_reducible rfl)))
  (try simp only [Act.put, List.setIfInBounds_toArray, List.set_cons_zero, List.set_cons_succ])
  (first | (refine takeS_no 13 rfl (by kernel_rfl) (by kernel_rfl) (by kernel_rfl) (fun _ _ _ h => h) (by rfl) (by assumption) ?_) | (refine takeS_yes (v := ?_) 13 rfl (by kernel_rfl) (by kernel_rfl) (by kernel_rfl) (fun _ _ _ h => h) (by rfl) (by assumption) ?_ ?_; rotate_left; focus (intro wS hSw; (obtain ⟨p0, p1, p2, p3, p4, p5, p6, p7⟩ := HC.out wS (HB1.out.trans (hSw.mono HB1.out.size)); obtain ⟨r0, r1, r2, r3⟩ := HC21.out wS hSw); go_simp; first | done | with_reducible rfl)))
  (try simp only [Act.put, List.setIfInBounds_toArray, List.set_cons_zero, List.set_cons_succ])
  (first | (refine takeS_no 14 rfl (by kernel_rfl) (by kernel_rfl) (by kernel_rfl) (fun _ _ _ h => h) (by rfl) (by assumption) ?_) | (refine takeS_yes (v := ?_) 14 rfl (by kernel_rfl) (by kernel_rfl) (by kernel_rfl) (fun _ _ _ h => h) (by rfl) (by assumption) ?_ ?_; rotate_left; focus (intro wS hSw; (obtain ⟨p0, p1, p2, p3, p4, p5, p6, p7⟩ := HC.out wS (HB1.out.trans (hSw.mono HB1.out.size)); obtain ⟨r0, r1, r2, r3⟩ := HC21.out wS hSw); go_simp; first | done | with_reducible rfl)))
  (try simp only [Act.put, List.setIfInBounds_toArray, List.set_cons_zero, List.set_cons_succ])
  (first | (refine takeS_no 15 rfl (by kernel_rfl) (by kernel_rfl) (by kernel_rfl) (fun _ _ _ h => h) (by rfl) (by assumption) ?_) | (refine takeS_yes (v := ?_) 15 rfl (by kernel_rfl) (by kernel_rfl) (by kernel_rfl) (fun _ _ _ h => h) (by rfl) (by assumption) ?_ ?_; rotate_left; focus (intro wS hSw; (obtain ⟨p0, p1, p2, p3, p4, p5, p6, p7⟩ := HC.out wS (HB1.out.trans (hSw.mono HB1.out.size)); obtain ⟨r0, r1, r2, r3⟩ := HC21.out wS hSw); go_simp; first | done | with_reducible rfl)))
  (try simp only [Act.put, List.setIfInBounds_toArray, List.set_cons_zero, List.set_cons_succ])
  (first | (refine takeS_no 16 rfl (by kernel_rfl) (by kernel_rfl) (by kernel_rfl) (fun _ _ _ h => h) (by rfl) (by assumption) ?_) | (refine takeS_yes (v := ?_) 16 rfl (by kernel_rfl) (by kernel_rfl) (by kernel_rfl) (fun _ _ _ h => h) (by rfl) (by assumption) ?_ ?_; rotate_left; focus (intro wS hSw; (obtain ⟨p0, p1, p2, p3, p4, p5, p6, p7⟩ := HC.out wS (HB1.out.trans (hSw.mono HB1.out.size)); obtain ⟨r0, r1, r2, r3⟩ := HC21.out wS hSw); go_simp; first | done | with_reducible rfl)))
  (try simp only [Act.put, List.setIfInBounds_toArray, List.set_cons_zero, List.set_cons_succ])
  refine takeS_alone 17 rfl (by kernel_rfl) (by rfl) (fun K hK => ?_)
  go_simp
  (refine (same_zero w6).mono ?_; rintro e w7 ⟨rfl, hb⟩; have c7 := c6.trans (hb.mono c6.size); clear hb)
  refine hK.out _ _ (by assumption) ?_
  clear hK K
  (try simp only [Act.put, List.setIfInBounds_toArray, List.set_cons_zero, List.set_cons_succ])
  (first | (refine takeS_no 18 rfl (by kernel_rfl) (by kernel_rfl) (by kernel_rfl) (fun _ _ _ h => h) (by rfl) (by assumption) ?_) | (refine takeS_yes (v := ?_) 18 rfl (by kernel_rfl) (by kernel_rfl) (by kernel_rfl) (fun _ _ _ h => h) (by rfl) (by assumption) ?_ ?_; rotate_left; focus (intro wS hSw; (obtain ⟨p0, p1, p2, p3, p4, p5, p6, p7⟩ := HC.out wS (HB1.out.trans (hSw.mono HB1.out.size)); obtain ⟨r0, r1, r2, r3⟩ := HC21.out wS hSw); go_simp; first | done | with_reducible rfl)))
  (try simp only [Act.put, List.setIfInBounds_toArray, List.set_cons_zero, List.set_cons_succ])
  (first | (refine takeS_no 19 rfl (by kernel_rfl) (by kernel_rfl) (by kernel_rfl) (fun _ _ _ h => h) (by rfl) (by assumption) ?_) | (refine takeS_yes (v := ?_) 19 rfl (by kernel_rfl) (by kernel_rfl) (by kernel_rfl) (fun _ _ _ h => h) (by rfl) (by assumption) ?_ ?_; rotate_left; focus (intro wS hSw; (obtain ⟨p0, p1, p2, p3, p4, p5, p6, p7⟩ := HC.out wS (HB1.out.trans (hSw.mono HB1.out.size)); obtain ⟨r0, r1, r2, r3⟩ := HC21.out wS hSw); go_simp; first | done | with_reducible rfl)))
  (try simp only [Act.put, List.setIfInBounds_toArray, List.set_cons_zero, List.set_cons_succ])
  refine wpAnyH_done (by kernel_rfl) ?_ _
  have HBN1 := Lib.hid (HB1.out.trans (c7.mono HB1.out.size))
  clear c7 c6 hS0
  obtain ⟨p0, p1, p2, p3, p4, p5, p6, p7⟩ := HC.out w7 HBN1.out
  go_wp2_with fail
  rw [rounds_succ]
  go_wp2_with fail
  refine (sload_no w7 (w.heap.size + 1) p6 p7).mono ?_
  rintro e w2a ⟨rfl, hb4⟩
  dsimp only [snVal, zeroSx, List.length]
  clear p0 p1 p2 p3 p4 p5 p6 p7
  have c4 := HBN1.out.trans (hb4.mono HBN1.out.size)
  have hb45 := (Below.refl w2a.heap.size w2a).alloc (Nat.le_refl _) (.cells #[.int .i64 0, .int .i64 0, .slice none 0 0, .slice none 0 0] 25)
  have hk5 := heap_alloc_new w2a (.cells #[.int .i64 0, .int .i64 0, .slice none 0 0, .slice none 0 0] 25)
  have HB2 := Lib.hid (c4.trans (hb45.mono c4.size))
  have HKX2 := Lib.hid hk5
  clear hb4 c4 hb45 hk5
  go_upto_region 6 with fail
  generalize w2a.alloc (.cells #[.int .i64 0, .int .i64 0, .slice none 0 0, .slice none 0 0] 25) = w2b at HB2 HKX2 ⊢
  have hC2 : ∀ w', Below w2b.heap.size w2b w' → w'.cell? ⟨w2a.heap.size, 0, none⟩ = some (.int .i64 0) ∧ w'.cell? ⟨w2a.heap.size, 1, none⟩ = some (.int .i64 0) ∧ w'.cell? ⟨w2a.heap.size, 2, none⟩ = some (.slice none 0 0) ∧ w'.cell? ⟨w2a.heap.size, 3, none⟩ = some (.slice none 0 0) := fun w' hb => by
    have h1 := (hb.block _ (Array.getElem?_eq_some_iff.1 HKX2.out).1).trans HKX2.out
    exact ⟨Go.Joins.cell_of_block h1 0, Go.Joins.cell_of_block h1 1, Go.Joins.cell_of_block h1 2, Go.Joins.cell_of_block h1 3⟩
  have HC22 := Lib.hid hC2
  clear hC2
  have n1 : decide ((1 : Int) = 1) = true := rfl
  refine heldS_begin (fun w' => Below w2b.heap.size w2b w') (by kernel_rfl) ((Below.refl _ _).drew) ?_
  intro hS0
  (first | (refine takeS_no 0 rfl (by kernel_rfl) (by kernel_rfl) (by kernel_rfl) (fun _ _ _ h => h) (by rfl) (by assumption) ?_) | (refine takeS_yes (v := ?_) 0 rfl (by kernel_rfl) (by kernel_rfl) (by kernel_rfl) (fun _ _ _ h => h) (by rfl) (by assumption) ?_ ?_; rotate_left; focus (intro wS hSw; (obtain ⟨p0, p1, p2, p3, p4, p5, p6, p7⟩ := HC.out wS (HB2.out.trans (hSw.mono HB2.out.size)); obtain ⟨r0, r1, r2, r3⟩ := HC22.out wS hSw); go_simp; first | done | with_reducible rfl)))
  (try simp only [Act.put, List.setIfInBounds_toArray, List.set_cons_zero, List.set_cons_succ])
  (first | (refine takeS_no 1 rfl (by kernel_rfl) (by kernel_rfl) (by kernel_rfl) (fun _ _ _ h => h) (by rfl) (by assumption) ?_) | (refine takeS_yes (v := ?_) 1 rfl (by kernel_rfl) (by kernel_rfl) (by kernel_rfl) (fun _ _ _ h => h) (by rfl) (by assumption) ?_ ?_; rotate_left; focus (intro wS hSw; (obtain ⟨p0, p1, p2, p3, p4, p5, p6, p7⟩ := HC.out wS (HB2.out.trans (hSw.mono HB2.out.size)); obtain ⟨r0, r1, r2, r3⟩ := HC22.out wS hSw); go_simp; first | done | with_reducible rfl)))
  (try simp only [Act.put, List.setIfInBounds_toArray, List.set_cons_zero, List.set_cons_succ])
  (first | (refine takeS_no 2 rfl (by kernel_rfl) (by kernel_rfl) (by kernel_rfl) (fun _ _ _ h => h) (by rfl) (by assumption) ?_) | (refine takeS_yes (v := ?_) 2 rfl (by kernel_rfl) (by kernel_rfl) (by kernel_rfl) (fun _ _ _ h => h) (by rfl) (by assumption) ?_ ?_; rotate_left; focus (intro wS hSw; (obtain ⟨p0, p1, p2, p3, p4, p5, p6, p7⟩ := HC.out wS (HB2.out.trans (hSw.mono HB2.out.size)); obtain ⟨r0, r1, r2, r3⟩ := HC22.out wS hSw); go_simp; first | done | with_reducible rfl)))
  (try simp only [Act.put, List.setIfInBounds_toArray, List.set_cons_zero, List.set_cons_succ])
  (first | (refine takeS_no 3 rfl (by kernel_rfl) (by kernel_rfl) (by kernel_rfl) (fun _ _ _ h => h) (by rfl) (by assumption) ?_) | (refine takeS_yes (v := ?_) 3 rfl (by kernel_rfl) (by kernel_rfl) (by kernel_rfl) (fun _ _ _ h => h) (by rfl) (by assumption) ?_ ?_; rotate_left; focus (intro wS hSw; (obtain ⟨p0, p1, p2, p3, p4, p5, p6, p7⟩ := HC.out wS (HB2.out.trans (hSw.mono HB2.out.size)); obtain ⟨r0, r1, r2, r3⟩ := HC22.out wS hSw); go_simp; first | done | with_reducible rfl)))
  (try simp only [Act.put, List.setIfInBounds_toArray, List.set_cons_zero, List.set_cons_succ])
  (first | (refine takeS_no 4 rfl (by kernel_rfl) (by kernel_rfl) (by kernel_rfl) (fun _ _ _ h => h) (by rfl) (by assumption) ?_) | (refine takeS_yes (v := ?_) 4 rfl (by kernel_rfl) (by kernel_rfl) (by kernel_rfl) (fun _ _ _ h => h) (by rfl) (by assumption) ?_ ?_; rotate_left; focus (intro wS hSw; (obtain ⟨p0, p1, p2, p3, p4, p5, p6, p7⟩ := HC.out wS (HB2.out.trans (hSw.mono HB2.out.size)); obtain ⟨r0, r1, r2, r3⟩ := HC22.out wS hSw); go_simp; first | done | with_reducible rfl)))
  (try simp only [Act.put, List.setIfInBounds_toArray, List.set_cons_zero, List.set_cons_succ])
  generalize w2b.drew = w2d at hS0 ⊢
  refine takeS_alone 5 rfl (by kernel_rfl) (by rfl) (fun K hK => ?_)
  go_simp
  (obtain ⟨p0, p1, p2, p3, p4, p5, p6, p7⟩ := HC.out w2d (HB2.out.trans (hS0.mono HB2.out.size)); refine (ST2.out w2d (w.heap.size + 1) p6 p7).mono ?_; rintro e w6 ⟨rfl, hb⟩; have c6 := hS0.trans (hb.mono hS0.size); clear hb p0 p1 p2 p3 p4 p5 p6 p7)
  refine hK.out _ _ (by assumption) ?_
  clear hK K
  (try simp only [Act.put, List.setIfInBounds_toArray, List.set_cons_zero, List.set_cons_succ])
  (first | (refine takeS_no 6 rfl (by kernel_rfl) (by kernel_rfl) (by kernel_rfl) (fun _ _ _ h => h) (by rfl) (by assumption) ?_) | (refine takeS_yes (v := ?_) 6 rfl (by kernel_rfl) (by kernel_rfl) (by kernel_rfl) (fun _ _ _ h => h) (by rfl) (by assumption) ?_ ?_; rotate_left; focus (intro wS hSw; (obtain ⟨p0, p1, p2, p3, p4, p5, p6, p7⟩ := HC.out wS (HB2.out.trans (hSw.mono HB2.out.size)); obtain ⟨r0, r1, r2, r3⟩ := HC22.out wS hSw); go_simp; first | done | with_reducible rfl)))
  (try simp only [Act.put, List.setIfInBounds_toArray, List.set_cons_zero, List.set_cons_succ])
  (first | (refine takeS_no 7 rfl (by kernel_rfl) (by kernel_rfl) (by kernel_rfl) (fun _ _ _ h => h) (by rfl) (by assumption) ?_) | (refine takeS_yes (v := ?_) 7 rfl (by kernel_rfl) (by kernel_rfl) (by kernel_rfl) (fun _ _ _ h => h) (by rfl) (by assumption) ?_ ?_; rotate_left; focus (intro wS hSw; (obtain ⟨p0, p1, p2, p3, p4, p5, p6, p7⟩ := HC.out wS (HB2.out.trans (hSw.mono HB2.out.size)); obtain ⟨r0, r1, r2, r3⟩ := HC22.out wS hSw); go_simp; first | done | with_reducible rfl)))
  (try simp only [Act.put, List.setIfInBounds_toArray, List.set_cons_zero, List.set_cons_succ])
  (first | (refine takeS_no 8 rfl (by kernel_rfl) (by kernel_rfl) (by kernel_rfl) (fun _ _ _ h => h) (by rfl) (by assumption) ?_) | (refine takeS_yes (v := ?_) 8 rfl (by kernel_rfl) (by kernel_rfl) (by kernel_rfl) (fun _ _ _ h => h) (by rfl) (by assumption) ?_ ?_; rotate_left; focus (intro wS hSw; (obtain ⟨p0, p1, p2, p3, p4, p5, p6, p7⟩ := HC.out wS (HB2.out.trans (hSw.mono HB2.out.size)); obtain ⟨r0, r1, r2, r3⟩ := HC22.out wS hSw); go_simp; first | done | with_reducible rfl)))
  (try simp only [Act.put, List.setIfInBounds_toArray, List.set_cons_zero, List.set_cons_succ])
  (first | (refine takeS_no 9 rfl (by kernel_rfl) (by kernel_rfl) (by kernel_rfl) (fun _ _ _ h => h) (by rfl) (by assumption) ?_) | (refine takeS_yes (v := ?_) 9 rfl (by kernel_rfl) (by kernel_rfl) (by kernel_rfl) (fun _ _ _ h => h) (by rfl) (by assumption) ?_ ?_; rotate_left; focus (intro wS hSw; (obtain ⟨p0, p1, p2, p3, p4, p5, p6, p7⟩ := HC.out wS (HB2.out.trans (hSw.mono HB2.out.size)); obtain ⟨r0, r1, r2, r3⟩ := HC22.out wS hSw); go_simp; first | done | with_reducible rfl)))
  (try simp only [Act.put, List.setIfInBounds_toArray, List.set_cons_zero, List.set_cons_succ])
  (first | (refine takeS_no 10 rfl (by kernel_rfl) (by kernel_rfl) (by kernel_rfl) (fun _ _ _ h => h) (by rfl) (by assumption) ?_) | (refine takeS_yes (v := ?_) 10 rfl (by kernel_rfl) (by kernel_rfl) (by kernel_rfl) (fun _ _ _ h => h) (by rfl) (by assumption) ?_ ?_; rotate_left; focus (intro wS hSw; (obtain ⟨p0, p1, p2, p3, p4, p5, p6, p7⟩ := HC.out wS (HB2.out.trans (hSw.mono HB2.out.size)); obtain ⟨r0, r1, r2, r3⟩ := HC22.out wS hSw); go_simp; first | done | with_reducible rfl)))
  (try simp only [Act.put, List.setIfInBounds_toArray, List.set_cons_zero, List.set_cons_succ])
  (first | (refine takeS_no 11 rfl (by kernel_rfl) (by kernel_rfl) (by kernel_rfl) (fun _ _ _ h => h) (by rfl) (by assumption) ?_) | (refine takeS_yes (v := ?_) 11 rfl (by kernel_rfl) (by kernel_rfl) (by kernel_rfl) (fun _ _ _ h => h) (by rfl) (by assumption) ?_ ?_; rotate_left; focus (intro wS hSw; (obtain ⟨p0, p1, p2, p3, p4, p5, p6, p7⟩ := HC.out wS (HB2.out.trans (hSw.mono HB2.out.size)); obtain ⟨r0, r1, r2, r3⟩ := HC22.out wS hSw); go_simp; first | done | with_reducible rfl)))
  (try simp only [Act.put, List.setIfInBounds_toArray, List.set_cons_zero, List.set_cons_succ])
  (first | (refine takeS_no 12 rfl (by kernel_rfl) (by kernel_rfl) (by kernel_rfl) (fun _ _ _ h => h) (by rfl) (by assumption) ?_) | (refine takeS_yes (v := ?_) 12 rfl (by kernel_rfl) (by kernel_rfl) (by kernel_rfl) (fun _ _ _ h => h) (by rfl) (by assumption) ?_ ?_; rotate_left; focus (intro wS hSw; (obtain ⟨p0, p1, p2, p3, p4, p5, p6, p7⟩ := HC.out wS (HB2.out.trans (hSw.mono HB2.out.size)); obtain ⟨r0, r1, r2, r3⟩ := HC22.out wS hSw); go_simp; first | done | with_reducible rfl)))
  (try simp only [Act.put, List.setIfInBounds_toArray, List.set_cons_zero, List.set_cons_succ])
  (first | (refine takeS_no 13 rfl (by kernel_rfl) (by kernel_rfl) (by kernel_rfl) (fun _ _ _ h => h) (by rfl) (by assumption) ?_) | (refine takeS_yes (v := ?_) 13 rfl (by kernel_rfl) (by kernel_rfl) (by kernel_rfl) (fun _ _ _ h => h) (by rfl) (by assumption) ?_ ?_; rotate_left; focus (intro wS hSw; (obtain ⟨p0, p1, p2, p3, p4, p5, p6, p7⟩ := HC.out wS (HB2.out.trans (hSw.mono HB2.out.size)); obtain ⟨r0, r1, r2, r3⟩ := HC22.out wS hSw); go_simp; first | done | with_reducible rfl)))
  (try simp only [Act.put, List.setIfInBounds_toArray, List.set_cons_zero, List.set_cons_succ])
  (first | (refine takeS_no 14 rfl (by kernel_rfl) (by kernel_rfl) (by kernel_rfl) (fun _ _ _ h => h) (by rfl) (by assumption) ?_) | (refine takeS_yes (v := ?_) 14 rfl (by kernel_rfl) (by kernel_rfl) (by kernel_rfl) (fun _ _ _ h => h) (by rfl) (by assumption) ?_ ?_; rotate_left; focus (intro wS hSw; (obtain ⟨p0, p1, p2, p3, p4, p5, p6, p7⟩ := HC.out wS (HB2.out.trans (hSw.mono HB2.out.size)); obtain ⟨r0, r1, r2, r3⟩ := HC22.out wS hSw); go_simp; first | done | with_reducible rfl)))
  (try simp only [Act.put, List.setIfInBounds_toArray, List.set_cons_zero, List.set_cons_succ])
  (first | (refine takeS_no 15 rfl (by kernel_rfl) (by kernel_rfl) (by kernel_rfl) (fun _ _ _ h => h) (by rfl) (by assumption) ?_) | (refine takeS_yes (v := ?_) 15 rfl (by kernel_rfl) (by kernel_rfl) (by kernel_rfl) (fun _ _ _ h => h) (by rfl) (by assumption) ?_ ?_; rotate_left; focus (intro wS hSw; (obtain ⟨p0, p1, p2, p3, p4, p5, p6, p7⟩ := HC.out wS (HB2.out.trans (hSw.mono HB2.out.size)); obtain ⟨r0, r1, r2, r3⟩ := HC22.out wS hSw); go_simp; first | done | with_reducible rfl)))
  (try simp only [Act.put, List.setIfInBounds_toArray, List.set_cons_zero, List.set_cons_succ])
  (first | (refine takeS_no 16 rfl (by kernel_rfl) (by kernel_rfl) (by kernel_rfl) (fun _ _ _ h => h) (by rfl) (by assumption) ?_) | (refine takeS_yes (v := ?_) 16 rfl (by kernel_rfl) (by kernel_rfl) (by kernel_rfl) (fun _ _ _ h => h) (by rfl) (by assumption) ?_ ?_; rotate_left; focus (intro wS hSw; (obtain ⟨p0, p1, p2, p3, p4, p5, p6, p7⟩ := HC.out wS (HB2.out.trans (hSw.mono HB2.out.size)); obtain ⟨r0, r1, r2, r3⟩ := HC22.out wS hSw); go_simp; first | done | with_reducible rfl)))
  (try simp only [Act.put, List.setIfInBounds_toArray, List.set_cons_zero, List.set_cons_succ])
  refine takeS_alone 17 rfl (by kernel_rfl) (by rfl) (fun K hK => ?_)
  go_simp
  (refine (same_zero w6).mono ?_; rintro e w7 ⟨rfl, hb⟩; have c7 := c6.trans (hb.mono c6.size); clear hb)
  refine hK.out _ _ (by assumption) ?_
  clear hK K
  (try simp only [Act.put, List.setIfInBounds_toArray, List.set_cons_zero, List.set_cons_succ])
  (first | (refine takeS_no 18 rfl (by kernel_rfl) (by kernel_rfl) (by kernel_rfl) (fun _ _ _ h => h) (by rfl) (by assumption) ?_) | (refine takeS_yes (v := ?_) 18 rfl (by kernel_rfl) (by kernel_rfl) (by kernel_rfl) (fun _ _ _ h => h) (by rfl) (by assumption) ?_ ?_; rotate_left; focus (intro wS hSw; (obtain ⟨p0, p1, p2, p3, p4, p5, p6, p7⟩ := HC.out wS (HB2.out.trans (hSw.mono HB2.out.size)); obtain ⟨r0, r1, r2, r3⟩ := HC22.out wS hSw); go_simp; first | done | with_reducible rfl)))
  (try simp only [Act.put, List.setIfInBounds_toArray, List.set_cons_zero, List.set_cons_succ])
  (first | (refine takeS_no 19 rfl (by kernel_rfl) (by kernel_rfl) (by kernel_rfl) (fun _ _ _ h => h) (by rfl) (by assumption) ?_) | (refine takeS_yes (v := ?_) 19 rfl (by kernel_rfl) (by kernel_rfl) (by kernel_rfl) (fun _ _ _ h => h) (by rfl) (by assumption) ?_ ?_; rotate_left; focus (intro wS hSw; (obtain ⟨p0, p1, p2, p3, p4, p5, p6, p7⟩ := HC.out wS (HB2.out.trans (hSw.mono HB2.out.size)); obtain ⟨r0, r1, r2, r3⟩ := HC22.out wS hSw); go_simp; first | done | with_reducible rfl)))
  (try simp only [Act.put, List.setIfInBounds_toArray, List.set_cons_zero, List.set_cons_succ])
  refine wpAnyH_done (by kernel_rfl) ?_ _
  have HBN2 := Lib.hid (HB2.out.trans (c7.mono HB2.out.size))
  clear c7 c6 hS0
  obtain ⟨p0, p1, p2, p3, p4, p5, p6, p7⟩ := HC.out w7 HBN2.out
  go_wp2_with fail
  rw [rounds_succ]
  go_wp2_with fail
  refine (awake19_any w7).mono ?_
  rintro e w8 ⟨rfl, hb8⟩
  have hb := HB3.out.trans ((HBN2.out.trans (hb8.mono HBN2.out.size)).mono HB3.out.size)
  clear hb8 p0 p1 p2 p3 p4 p5 p6 p7
  go_wp2_with fail
  go_ret
  exact ⟨rfl, hb⟩
theorem walk_SnapNil {H : Type} {enc : TypeId × Value → H} {d : DataW H} {p : List MemPlace} (W : World) (cs : Array Value) (hc : cs.size = Tryd.prog.cellsOf 25) (h : DataW.Trod enc Tryd.prog W 0 (fun _ => true) true 25 (.agg cs) d p) (hz : DSized Tryd.prog 25 d) :
    Calls Tryd.prog 3 #[.agg cs] W fun e w' => e = .returned (.bool true) ∧ Below W.heap.size W w' := by
  obtain ⟨x, hx, _, _⟩ := open_snap hc h hz
  rw [hx]
  exact snapNil_any x W
end Go.Proofs.YthiijbjhgkeikaaDoor
