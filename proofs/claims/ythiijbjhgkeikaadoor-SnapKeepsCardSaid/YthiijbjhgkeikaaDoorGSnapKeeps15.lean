/- THE STAGE'S THEOREM of snap, walked. Conditions: as the law's statement. -/
import Derived.Test.YthiijbjhgkeikaaDoorGSnapKeeps14
import Derived.Deep.DeepCutAuto
set_option linter.unusedVariables false
set_option linter.unusedSimpArgs false
namespace Go.Proofs.YthiijbjhgkeikaaDoor
open Go.RowKit Go.ChangeShapes
set_option maxRecDepth 20000
/-- What lies before a round, and behind it. -/
structure KSt (W w : World) (db mb g6 R n : Nat) (sm : Bool) : Prop where
  ex : ∃ (L : Dk) (x : Sn), DiskIs w w.heap.size db mb R n L ∧ Keeps R L x.plain sm ∧ w.heap[g6]? = some (.cells (snArr x) 25 (0, 0)) ∧ snSub w w.heap.size x ∧ SnFine x
  below : Below W.heap.size W w
theorem KSt.next {W w w' : World} {db mb g6 R n : Nat} {sm : Bool} (h : KSt W w db mb g6 R n sm) (hb : Below w.heap.size w w') : KSt W w' db mb g6 R n sm := by
  obtain ⟨⟨L, x, h1, h2, h3, h4, h5⟩, h6⟩ := h
  exact ⟨⟨L, x, (h1.below hb (Nat.le_refl _)).top, h2, (hb.block _ (Array.getElem?_eq_some_iff.1 h3).1).trans h3, snSub_mono (snSub_below h4 hb (Nat.le_refl _)) hb.size, h5⟩, h6.trans (hb.mono h6.size)⟩
/-- A step that turns the disk alone. -/
theorem KSt.turn {W w w' : World} {db mb g6 R n n' : Nat} {sm : Bool} {L L' : Dk} {x : Sn} (h1 : DiskIs w w.heap.size db mb R n L) (h2 : Keeps R L' x.plain sm) (h3 : w.heap[g6]? = some (.cells (snArr x) 25 (0, 0))) (h4 : snSub w w.heap.size x) (h5 : SnFine x) (h6 : Below W.heap.size W w)
    (hd : DiskIs w' w'.heap.size db mb R n' L') (hg : w.grownBy w' (some mb)) (hmb : W.heap.size ≤ mb) (hm6 : mb ≠ g6) : KSt W w' db mb g6 R n' sm := by
  obtain ⟨es, ck, hmk⟩ := h1.map.block
  exact ⟨⟨L', x, hd, h2, (hg.block _ (Array.getElem?_eq_some_iff.1 h3).1 (by simpa using fun e => hm6 e.symm)).trans h3, snSub_mono (sub_map h4 (Nat.le_refl _) hg hmk) hg.size, h5⟩, h6.grown hg h6.size (fun k hk => by cases hk; exact hmb)⟩
theorem KSt.more {W w : World} {db mb g6 R n n' : Nat} {sm : Bool} (h : KSt W w db mb g6 R n sm) (hn : n ≤ n') : KSt W w db mb g6 R n' sm :=
  let ⟨⟨L, x, h1, h2, h3, h4, h5⟩, h6⟩ := h; ⟨⟨L, x, h1.more hn, h2, h3, h4, h5⟩, h6⟩
/-- What lies within a round. -/
structure KD (W w : World) (db mb g6 g9 R n : Nat) (L : Dk) (x s : Sn) (op nn : Int) : Prop where
  disk : DiskIs w w.heap.size db mb R n L
  k6 : w.heap[g6]? = some (.cells (snArr x) 25 (0, 0))
  k9 : w.heap[g9]? = some (.cells #[.int .i64 op, .int .i64 nn, .int .i64 s.index, .int .i64 s.term, .slice s.va s.vs.length s.vc, .slice s.ia s.im.length s.ic] 42 (0, 0))
  xs : snSub w w.heap.size x
  sx : snSub w w.heap.size s
  below : Below W.heap.size W w
theorem KD.next {W w w' : World} {db mb g6 g9 R n : Nat} {L : Dk} {x s : Sn} {op nn : Int} (h : KD W w db mb g6 g9 R n L x s op nn) (hb : Below w.heap.size w w') : KD W w' db mb g6 g9 R n L x s op nn :=
  ⟨(h.disk.below hb (Nat.le_refl _)).top, (hb.block _ (Array.getElem?_eq_some_iff.1 h.k6).1).trans h.k6, (hb.block _ (Array.getElem?_eq_some_iff.1 h.k9).1).trans h.k9, snSub_mono (snSub_below h.xs hb (Nat.le_refl _)) hb.size, snSub_mono (snSub_below h.sx hb (Nat.le_refl _)) hb.size, h.below.trans (hb.mono h.below.size)⟩
theorem KD.turn {W w w' : World} {db mb g6 g9 R n n' : Nat} {L L' : Dk} {x s : Sn} {op nn : Int} (h : KD W w db mb g6 g9 R n L x s op nn) (hd : DiskIs w' w'.heap.size db mb R n' L') (hg : w.grownBy w' (some mb)) (hmb : W.heap.size ≤ mb) (h6 : mb < g6) (h9 : mb < g9) : KD W w' db mb g6 g9 R n' L' x s op nn := by
  obtain ⟨es, ck, hmk⟩ := h.disk.map.block
  exact ⟨hd, (hg.block _ (Array.getElem?_eq_some_iff.1 h.k6).1 (by simp; omega)).trans h.k6, (hg.block _ (Array.getElem?_eq_some_iff.1 h.k9).1 (by simp; omega)).trans h.k9, snSub_mono (sub_map h.xs (Nat.le_refl _) hg hmk) hg.size, snSub_mono (sub_map h.sx (Nat.le_refl _) hg hmk) hg.size, h.below.grown hg h.below.size (fun k hk => by cases hk; exact hmb)⟩
theorem KD.cells {W w : World} {db mb g6 g9 R n : Nat} {L : Dk} {x s : Sn} {op nn : Int} (h : KD W w db mb g6 g9 R n L x s op nn) (vl ml : Nat) (hv : s.vs.length = vl) (hm : s.im.length = ml) :
    w.cell? ⟨g9, 2, none⟩ = some (.int .i64 s.index) ∧ w.cell? ⟨g9, 3, none⟩ = some (.int .i64 s.term) ∧ w.cell? ⟨g9, 4, none⟩ = some (.slice s.va vl s.vc) ∧ w.cell? ⟨g9, 5, none⟩ = some (.slice s.ia ml s.ic) := by
  subst hv hm
  exact ⟨Go.Joins.cell_of_block h.k9 2, Go.Joins.cell_of_block h.k9 3, Go.Joins.cell_of_block h.k9 4, Go.Joins.cell_of_block h.k9 5⟩
theorem KD.st {W w : World} {db mb g6 g9 R n : Nat} {L : Dk} {x s : Sn} {op nn : Int} {sm : Bool} (h : KD W w db mb g6 g9 R n L x s op nn) (hk : Keeps R L x.plain sm) (hf : SnFine x) : KSt W w db mb g6 R n sm := ⟨⟨L, x, h.disk, hk, h.k6, h.xs, hf⟩, h.below⟩
theorem sstore_at {w : World} {B db mb room n : Nat} {L : Dk} (h : DiskIs w B db mb room n L) (hn : n ≤ 999980) (x : Sn) (vl ml : Nat) (hv : x.vs.length = vl) (hm : x.im.length = ml) (hx : snSub w w.heap.size x) (hf : SnFine x) (r : Dk × Int) (hr : dStore room L x.plain = r) :
    Calls Tryd.prog 7 #[.pointer (some ⟨db, 0, none⟩), .agg #[.int .i64 x.index, .int .i64 x.term, .slice x.va vl x.vc, .slice x.ia ml x.ic]] w (DkAt r db mb room (n + 6) w) := by
  subst hv hm
  exact sstore_any h hn x hx hf r hr
theorem copySnap_at (x : Sn) (vl ml : Nat) (hv : x.vs.length = vl) (hm : x.im.length = ml) (w : World) (hx : snSub w w.heap.size x) (hf : SnFine x) :
    Calls Tryd.prog 17 #[.agg #[.int .i64 x.index, .int .i64 x.term, .slice x.va vl x.vc, .slice x.ia ml x.ic]] w fun e w' => ∃ (va : Option Addr) (vc : Nat) (ia : Option Addr) (ic : Nat), e = .returned (.agg #[.int .i64 x.index, .int .i64 x.term, .slice va vl vc, .slice ia ml ic]) ∧ SnFine ⟨x.index, x.term, va, x.vs, vc, ia, x.im, ic⟩ ∧ OwnSn w' w.heap.size ⟨x.index, x.term, va, x.vs, vc, ia, x.im, ic⟩ ∧ Below w.heap.size w w' := by
  subst hv hm
  exact copySnap_any x w hx hf
theorem zeros_wf (n : Nat) : BytesWf (List.replicate n 0) := fun x hx => by rw [List.eq_of_mem_replicate hx]; omega
set_option maxHeartbeats 16000000 in
theorem snapKeeps_any (room : Int) (hroom : (Lit.int .i64 room).wf = true) (ao : Option Addr) (n cap : Nat) (ds : List SnDo) (w : World) (hn : ds.length = n) (hx : RowsIn 6 stCells stSub w w.heap.size ao ds) (hq : ∀ s ∈ ds, StArg s) :
    Calls Tryd.prog 4 #[.int .i64 room, .slice ao n cap] w fun e w' => e = .returned (.bool true) ∧ Below w.heap.size w w' := by
  have HN := Lib.hid hn
  have HX := Lib.hid hx
  have HQ := Lib.hid hq
  clear hn hx hq
  go_enter Tryd.func4, Tryd.ntmps4
  go_wp2_with fail
  refine (awake19_any w).mono ?_
  rintro e w1 ⟨rfl, hb1⟩
  have HB1 := Lib.hid hb1
  clear hb1
  go_wp2_with fail
  refine (pick_any room 3000 (by decide) (by decide) w1).mono ?_
  rintro e w1' ⟨rfl, rfl⟩
  have hr0 := Int.emod_nonneg room (show (3000 : Int) ≠ 0 by decide)
  have hr1 := Int.emod_lt_of_pos room (show (0 : Int) < 3000 by decide)
  obtain ⟨R, hR⟩ : ∃ R : Nat, room % 3000 = R := ⟨(room % 3000).toNat, by omega⟩
  have hR2 : R < 3000 := by omega
  rw [hR]
  clear hr0 hr1 hR
  go_wp2_with fail
  refine (dnew_any R w1 R (by omega) (by omega)).mono ?_
  rintro e w2 ⟨rfl, hd2, hb2⟩
  obtain ⟨mb, hmb⟩ : ∃ k, w1.heap.size = k := ⟨_, rfl⟩
  obtain ⟨db, hdb⟩ : ∃ k, w1.heap.size + 1 = k := ⟨_, rfl⟩
  rw [hdb]
  rw [hdb, hmb] at hd2
  have hmw : w.heap.size ≤ mb := by rw [← hmb]; exact HB1.out.size
  have hdw : w.heap.size ≤ db := by omega
  have hb12 := HB1.out.trans (hb2.mono HB1.out.size)
  clear hmb hdb hb2
  have hb3 := (Below.refl w2.heap.size w2).alloc (Nat.le_refl _) (.cells #[.int .i64 0, .int .i64 0, .slice none 0 0, .slice none 0 0] 25)
  have hk3 := heap_alloc_new w2 (.cells #[.int .i64 0, .int .i64 0, .slice none 0 0, .slice none 0 0] 25)
  have hst : KSt w (w2.alloc (.cells #[.int .i64 0, .int .i64 0, .slice none 0 0, .slice none 0 0] 25)) db mb w2.heap.size R 0 false := ⟨⟨[], zeroSx, (hd2.below hb3 (Nat.le_refl _)).top, ⟨fun h => (by cases h), fun _ => ⟨rfl, rfl⟩⟩, hk3, ⟨Or.inl rfl, Or.inl rfl⟩, zeroSx_fine⟩, hb12.trans (hb3.mono hb12.size)⟩
  have hdl := hd2.dlt
  have hml := hd2.mlt
  have hw2 := hb12.size
  have HST := Lib.hid hst
  clear hb3 hk3 hst hd2 hb12
  obtain ⟨g6, hg6⟩ : ∃ k, w2.heap.size = k := ⟨_, rfl⟩
  go_upto_region 6 with fail
  rw [hg6] at HST hdl hml hw2
  generalize w2.alloc (.cells #[.int .i64 0, .int .i64 0, .slice none 0 0, .slice none 0 0] 25) = w3 at HST ⊢
  clear hg6
  go_wp2_with fail
  go_loopw [7, 8] (fun v i wr => ∃ (k : Nat) (sm : Bool), k ≤ n ∧ k ≤ 40 ∧ i = .int .i64 k ∧ v = .bool sm ∧ KSt w wr db mb g6 R (20 * k) sm) (fun _ i _ => n - (intOf i).toNat)
  case atStart => exact ⟨0, false, by omega, by omega, rfl, rfl, HST.out⟩
  case round =>
    clear HST
    obtain ⟨k, sm, hk, hk40, rfl, rfl, hst⟩ := hrel
    have HST := Lib.hid hst
    have hwr := hst.below.size
    clear hst
    obtain ⟨Q, hQ⟩ := pair_of sm
    rw [hQ] at HST ⊢
    clear hQ
    by_cases hlt : k < n
    · by_cases h40 : k < 40
      · have i1 : (k : Int) < n := by omega
        have i2 : (k : Int) < 40 := by omega
        have hkx : ds[k]? = some (ds[k]'(by rw [HN.out]; exact hlt)) := List.getElem?_eq_getElem _
        have hqx := HQ.out (ds[k]'(by rw [HN.out]; exact hlt)) (List.getElem_mem _)
        obtain ⟨b, off, hao, hb, hc, hsub⟩ := HX.out.at hkx
        generalize ds[k]'(by rw [HN.out]; exact hlt) = s at hc hqx hsub hkx
        obtain ⟨op, nn, ⟨si, st, va, xs, vc, ia, im, ic⟩⟩ := s
        subst hao
        have hcc : ∀ j, j < 6 → wr.cell? ⟨b, off + k * 6 + j, none⟩ = (stCells ⟨op, nn, ⟨si, st, va, xs, vc, ia, im, ic⟩⟩)[j]? := fun j hj => (HST.out.below.cell (p := ⟨b, off + k * 6 + j, none⟩) hb).trans (hc j hj)
        have c0 := hcc 0 (by decide)
        have c1 := hcc 1 (by decide)
        have c2 := hcc 2 (by decide)
        have c3 := hcc 3 (by decide)
        have c4 := hcc 4 (by decide)
        have c5 := hcc 5 (by decide)
        simp only [stCells, List.getElem?_cons_zero, List.getElem?_cons_succ, Nat.add_zero] at c0 c1 c2 c3 c4 c5
        obtain ⟨vl, hvl⟩ : ∃ q, xs.length = q := ⟨_, rfl⟩
        obtain ⟨ml, hmll⟩ : ∃ q, im.length = q := ⟨_, rfl⟩
        rw [hvl] at c4
        rw [hmll] at c5
        have HVL := Lib.hid hvl
        have HML := Lib.hid hmll
        have HQX := Lib.hid hqx
        have HSX := Lib.hid (show snSub wr wr.heap.size ⟨si, st, va, xs, vc, ia, im, ic⟩ from snSub_mono (snSub_below hsub HST.out.below (Nat.le_refl _)) hwr)
        clear hcc hc hvl hmll hqx hsub hkx
        go_upto_region 11 with fail
        have hg69 : g6 < wr.heap.size := let ⟨⟨L, x, _, _, h3, _, _⟩, _⟩ := HST.out; (Array.getElem?_eq_some_iff.1 h3).1
        have hb4 := (Below.refl wr.heap.size wr).alloc (Nat.le_refl _) (.cells #[.int .i64 op, .int .i64 nn, .int .i64 si, .int .i64 st, .slice va vl vc, .slice ia ml ic] 42)
        have hk4 := heap_alloc_new wr (.cells #[.int .i64 op, .int .i64 nn, .int .i64 si, .int .i64 st, .slice va vl vc, .slice ia ml ic] 42)
        have HST4 := Lib.hid (HST.out.next hb4)
        have HSX4 := Lib.hid (snSub_mono (snSub_below HSX.out hb4 (Nat.le_refl _)) hb4.size)
        clear HST HSX hb4 c0 c1 c2 c3 c4 c5
        generalize wr.alloc (.cells #[.int .i64 op, .int .i64 nn, .int .i64 si, .int .i64 st, .slice va vl vc, .slice ia ml ic] 42) = w4 at hk4 HST4 HSX4 ⊢
        obtain ⟨g9, hg9⟩ : ∃ q, wr.heap.size = q := ⟨_, rfl⟩
        rw [hg9] at hk4 hwr hg69 ⊢
        clear hg9
        have hgl := (Array.getElem?_eq_some_iff.1 hk4).1
        have HK4 := Lib.hid hk4
        have hC : ∀ w', Below w4.heap.size w4 w' → w'.cell? ⟨g9, 0, none⟩ = some (.int .i64 op) ∧ w'.cell? ⟨g9, 1, none⟩ = some (.int .i64 nn) ∧ w'.cell? ⟨g9, 2, none⟩ = some (.int .i64 si) ∧ w'.cell? ⟨g9, 3, none⟩ = some (.int .i64 st) ∧ w'.cell? ⟨g9, 4, none⟩ = some (.slice va vl vc) ∧ w'.cell? ⟨g9, 5, none⟩ = some (.slice ia ml ic) := fun w' hb => by
          have h := (hb.block _ hgl).trans HK4.out
          exact ⟨Go.Joins.cell_of_block h 0, Go.Joins.cell_of_block h 1, Go.Joins.cell_of_block h 2, Go.Joins.cell_of_block h 3, Go.Joins.cell_of_block h 4, Go.Joins.cell_of_block h 5⟩
        obtain ⟨d0, d1, d2, d3, d4, d5⟩ := hC w4 (Below.refl _ _)
        clear hC hk4
        by_cases hm1 : 20000 < ml
        · have i3 : (20000 : Int) < ml := by omega
          go_wp2_with fail
          go_ret
          exact ⟨rfl, HST4.out.below⟩
        have i3 : ¬ (20000 : Int) < ml := by omega
        have l3 : (ml : Int) ≤ 20000 := by omega
        have e3 : decide ((20000 : Int) < (ml : Int)) = false := decide_eq_false i3
        by_cases hk1 : 100 < vl
        · have i4 : (100 : Int) < vl := by omega
          go_wp2_with fail
          go_ret
          exact ⟨rfl, HST4.out.below⟩
        have i4 : ¬ (100 : Int) < vl := by omega
        have l4 : (vl : Int) ≤ 100 := by omega
        have e4 : decide ((100 : Int) < (vl : Int)) = false := decide_eq_false i4
        have HFX := Lib.hid (show SnFine ⟨si, st, va, xs, vc, ia, im, ic⟩ from HQX.out.x.fine (by have := HVL.out; dsimp only; omega) (by have := HML.out; dsimp only; omega))
        have hnw := of_lit HQX.out.n
        have HNW := Lib.hid hnw
        clear hnw HQX
        go_upto_if 48 with fail
        iterate 5 go_step
        go_cut [7] (fun v wq => ∃ sm : Bool, v = .bool sm ∧ KSt w wq db mb g6 R (20 * k + 12) sm)
        case first =>
          go_wp2_with fail
          refine (pick_any op 5 (by decide) (by decide) w4).mono ?_
          rintro e w4' ⟨rfl, rfl⟩
          obtain ⟨p, hp⟩ : ∃ p, op % 5 = p := ⟨_, rfl⟩
          rw [hp]
          clear hp
          obtain ⟨⟨L, x, hd, hkp, hk6, hxs, hxf⟩, hbw⟩ := HST4.out
          have HD := Lib.hid hd
          have HKP := Lib.hid hkp
          have HK6 := Lib.hid hk6
          have HXS := Lib.hid hxs
          have HXF := Lib.hid hxf
          have HBW := Lib.hid hbw
          clear hd hkp hk6 hxs hxf hbw HST4
          by_cases hp2 : p = 2
          · subst hp2
            go_wp2_with fail
            refine (crash_any HD.out (by omega) nn HNW.out).mono ?_
            rintro e w5 ⟨rfl, hd5, hg5⟩
            have HFIN := Lib.hid (KSt.turn HD.out (HKP.out.crash nn) HK6.out HXS.out HXF.out HBW.out hd5 hg5 hmw (by omega))
            clear hd5 hg5 d0 d1 d2 d3 d4 d5
            go_wp2_with fail
            go_meet
            exact ⟨Q.1, rfl, HFIN.out.more (by omega)⟩
          by_cases hp3 : p = 3
          · subst hp3
            go_wp2_with fail
            refine (pick_any nn 300 (by decide) (by decide) w4).mono ?_
            rintro e w4' ⟨rfl, rfl⟩
            have hr0 := Int.emod_nonneg nn (show (300 : Int) ≠ 0 by decide)
            have hr1 := Int.emod_lt_of_pos nn (show (0 : Int) < 300 by decide)
            obtain ⟨z, hz⟩ : ∃ z : Nat, nn % 300 = z := ⟨(nn % 300).toNat, by omega⟩
            have hz2 : z < 300 := by omega
            rw [hz]
            clear hr0 hr1 hz
            obtain ⟨i0, hi, hz0, hz1, hz3⟩ := info_parts infoByte
            go_wp2_with (at_make; refine wpList_make_full _ rfl _ _ 23 rfl w4.heap.size 5 i0 (.int .u8 0) 1 Tryd.underlying23 hi hz0 hz1 .i64 .i64 _ _ z rfl rfl rfl rfl (by rw [hz3]; omega) (by unfold maxLen; omega) (Nat.le_refl _) ?_)
            intro w5 hown hg5
            have ez : (madeCells #[Value.int .u8 0] z).toList = (List.replicate z 0).map bv := by
              rw [List.map_replicate]
              exact toList_madeCells_one _ z
            rw [ez] at hown
            have HO5 := Lib.hid (show BOwn w5 w4.heap.size (some ⟨w4.heap.size, 0, none⟩) z z (List.replicate z 0) from ⟨List.length_replicate, hown⟩)
            have hb5 : Below w4.heap.size w4 w5 := ⟨hg5.os, hg5.tape, hg5.output, hg5.size, fun i hi => hg5.block i hi (by simp)⟩
            have HD5 := Lib.hid ((HD.out.below hb5 (Nat.le_refl _)).top)
            have HK65 := Lib.hid ((hb5.block _ (Array.getElem?_eq_some_iff.1 HK6.out).1).trans HK6.out)
            have HXS5 := Lib.hid (snSub_mono (snSub_below HXS.out hb5 (Nat.le_refl _)) hb5.size)
            have HBW5 := Lib.hid (HBW.out.trans (hb5.mono HBW.out.size))
            clear hown hg5 hb5 ez hi hz0 hz1 hz3
            go_wp2_with fail
            refine (append_any HD5.out (by omega) logS log_named (some ⟨w4.heap.size, 0, none⟩) z z (List.replicate z 0) List.length_replicate HO5.out.in (zeros_wf z) (fun h => by cases h) (by omega) _ rfl).mono ?_
            rintro e w6 ⟨rfl, hd6, hg6⟩
            have HFIN := Lib.hid (KSt.turn HD5.out (HKP.out.same (append_other R L logN snapN (List.replicate z 0) (by decide))) HK65.out HXS5.out HXF.out HBW5.out hd6 hg6 hmw (by omega))
            clear hd6 hg6 d0 d1 d2 d3 d4 d5
            go_wp2_with fail
            go_meet
            exact ⟨Q.1, rfl, HFIN.out.more (by omega)⟩
          by_cases hp4 : p = 4
          · subst hp4
            go_wp2_with fail
            refine (remove_any HD.out (by omega) logS logS_le _ rfl).mono ?_
            rintro e w5 ⟨rfl, hd5, hg5⟩
            have HFIN := Lib.hid (KSt.turn HD.out (HKP.out.same (remove_other L logN snapN (by decide))) HK6.out HXS.out HXF.out HBW.out hd5 hg5 hmw (by omega))
            clear hd5 hg5 d0 d1 d2 d3 d4 d5
            go_wp2_with fail
            go_meet
            exact ⟨Q.1, rfl, HFIN.out.more (by omega)⟩
          have HKD4 := Lib.hid (show KD w w4 db mb g6 g9 R (20 * k) L x ⟨si, st, va, xs, vc, ia, im, ic⟩ op nn from ⟨HD.out, HK6.out, by dsimp only; rw [HVL.out, HML.out]; exact HK4.out, HXS.out, HSX4.out, HBW.out⟩)
          clear HD HK6 HXS HBW HK4 HSX4
          obtain ⟨⟨L1, e1⟩, hq1⟩ : ∃ q, dRemove L newN = q := ⟨_, rfl⟩
          have hL1 : L1 = dDel L newN := by have := dRemove_fst L newN; rw [hq1] at this; exact this
          have HQ1 := Lib.hid hq1
          have HL1 := Lib.hid hL1
          clear hq1 hL1 d0 d1 d2 d3 d4 d5
          go_wp2_with fail
          refine (remove_any HKD4.out.disk (by omega) newS newS_le _ HQ1.out).mono ?_
          rintro e w5 ⟨rfl, hd5, hg5⟩
          have HKD5 := Lib.hid (HKD4.out.turn hd5 hg5 hmw (by omega) (by omega))
          clear hd5 hg5 HKD4
          obtain ⟨us, hus⟩ : ∃ u, dUsed L1 = u := ⟨_, rfl⟩
          have hul : us ≤ R := by rw [← hus]; exact HKD5.out.disk.used
          have HUS := Lib.hid hus
          clear hus
          go_wp2_with fail
          refine (used_at HKD5.out.disk us HUS.out).mono ?_
          rintro e w6 ⟨rfl, hb6⟩
          have HKD6 := Lib.hid (HKD5.out.next hb6)
          clear hb6 HKD5
          obtain ⟨lf, hlf⟩ : ∃ l : Nat, (R : Int) - us = l := ⟨R - us, by omega⟩
          have hlw : IntKind.i64.wrap ((R : Int) - (us : Int)) = (lf : Int) := by rw [hlf]; exact IntWalk.i64_in _ (by omega)
          obtain ⟨d2, d3, d4, d5⟩ := HKD6.out.cells vl ml HVL.out HML.out
          dsimp only at d2 d3 d4 d5
          obtain ⟨⟨pb, pe⟩, hpb⟩ : ∃ q, snPut ⟨si, st, xs, im⟩ = q := ⟨_, rfl⟩
          have HPB := Lib.hid hpb
          clear hpb
          go_wp2_with fail
          refine (sput_at ⟨si, st, va, xs, vc, ia, im, ic⟩ vl ml HVL.out HML.out w6 HKD6.out.sx HFX.out (pb, pe) HPB.out).mono ?_
          rintro e w7 ⟨a7, n7, c7, rfl, ho7, hb7⟩
          have HKD7 := Lib.hid (HKD6.out.next hb7)
          have HN7 := Lib.hid ho7.len
          clear hb7 ho7 HKD6 d2 d3 d4 d5
          dsimp only
          have hwant := store_want (room := R) (L := L1) HKD7.out.disk.ok (by rw [HL1.out, dDel_twice]) HKD7.out.disk.used ⟨si, st, xs, im⟩
          have hsn1 : dGet L1 snapN = dGet L snapN := by rw [HL1.out, dGet_del, if_neg snap_ne]
          obtain ⟨⟨L2, e2⟩, hq2⟩ : ∃ q, dStore R L1 ⟨si, st, xs, im⟩ = q := ⟨_, rfl⟩
          rw [hq2] at hwant
          unfold wantS at hwant
          rw [HPB.out] at hwant
          dsimp only at hwant
          rw [HUS.out, HN7.out, hlf] at hwant
          have HQ2 := Lib.hid hq2
          have HSN1 := Lib.hid hsn1
          clear hq2 hsn1
          obtain ⟨d2, d3, d4, d5⟩ := HKD7.out.cells vl ml HVL.out HML.out
          dsimp only at d2 d3 d4 d5
          by_cases hpe : pe = 0
          · subst hpe
            by_cases hbig : lf < n7
            · have j1 : (lf : Int) < n7 := by omega
              have j2 : decide ((lf : Int) < (n7 : Int)) = true := decide_eq_true j1
              rw [if_pos ⟨rfl, j1⟩] at hwant
              obtain ⟨h1, h2, _⟩ := hwant
              subst h1
              have H2 := Lib.hid (h2 (by decide))
              clear h2
              go_wp2_with fail
              refine (sstore_at HKD7.out.disk (by omega) ⟨si, st, va, xs, vc, ia, im, ic⟩ vl ml HVL.out HML.out HKD7.out.sx HFX.out (L2, 5) HQ2.out).mono ?_
              rintro e w8 ⟨rfl, hd8, hg8⟩
              have HFIN := Lib.hid ((HKD7.out.turn hd8 hg8 hmw (by omega) (by omega)).st (HKP.out.same (H2.out.trans HSN1.out)) HXF.out)
              clear hd8 hg8 d2 d3 d4 d5
              go_wp2_with fail
              go_meet
              exact ⟨Q.1, rfl, HFIN.out.more (by omega)⟩
            · have j1 : ¬ (lf : Int) < n7 := by omega
              have j2 : decide ((lf : Int) < (n7 : Int)) = false := decide_eq_false j1
              have j3 : (n7 : Int) ≤ lf := by omega
              rw [if_neg (fun h => j1 h.2)] at hwant
              obtain ⟨h1, _, h3⟩ := hwant
              subst h1
              have H3 := Lib.hid (h3 rfl)
              clear h3
              go_wp2_with fail
              refine (sstore_at HKD7.out.disk (by omega) ⟨si, st, va, xs, vc, ia, im, ic⟩ vl ml HVL.out HML.out HKD7.out.sx HFX.out (L2, 0) HQ2.out).mono ?_
              rintro e w8 ⟨rfl, hd8, hg8⟩
              have HKD8 := Lib.hid (HKD7.out.turn hd8 hg8 hmw (by omega) (by omega))
              clear hd8 hg8 d2 d3 d4 d5
              obtain ⟨d2, d3, d4, d5⟩ := HKD8.out.cells vl ml HVL.out HML.out
              dsimp only at d2 d3 d4 d5
              go_wp2_with fail
              refine (copySnap_at ⟨si, st, va, xs, vc, ia, im, ic⟩ vl ml HVL.out HML.out w8 HKD8.out.sx HFX.out).mono ?_
              rintro e w9 ⟨va2, vc2, ia2, ic2, rfl, hyf, hyo, hb9⟩
              have HKD9 := Lib.hid (HKD8.out.next hb9)
              have HYO := Lib.hid hyo
              have HYF := Lib.hid hyf
              have hz89 := hb9.size
              have h68 := (Array.getElem?_eq_some_iff.1 HKD8.out.k6).1
              have hk6 := HKD9.out.k6
              unfold snArr at hk6
              have hu0 := Go.Joins.unfrozen_of_block hk6 0
              have hu1 := Go.Joins.unfrozen_of_block hk6 1
              have hu2 := Go.Joins.unfrozen_of_block hk6 2
              have hu3 := Go.Joins.unfrozen_of_block hk6 3
              have hc0 := Go.Joins.cell_of_block hk6 0
              have hc1 := Go.Joins.cell_of_block hk6 1
              have hc2 := Go.Joins.cell_of_block hk6 2
              have hc3 := Go.Joins.cell_of_block hk6 3
              clear hb9 hyf hyo d2 d3 d4 d5 hk6 HKD8
              go_wp2_with fail
              have hk := block_four (a := .int .i64 si) (b := .int .i64 st) (c := .slice va2 vl vc2) (d := .slice ia2 ml ic2) HKD9.out.k6
              have hgr := grown_four (w := w9) (g := g6) (a := .int .i64 si) (b := .int .i64 st) (c := .slice va2 vl vc2) (d := .slice ia2 ml ic2)
              have hnb := no_bytes_sn HKD9.out.k6
              generalize (((w9.setCell ⟨g6, 0, none⟩ (.int .i64 si)).setCell ⟨g6, 1, none⟩ (.int .i64 st)).setCell ⟨g6, 2, none⟩ (.slice va2 vl vc2)).setCell ⟨g6, 3, none⟩ (.slice ia2 ml ic2) = w10 at hk hgr ⊢
              have hfin : KSt w w10 db mb g6 R (20 * k + 12) true := by
                obtain ⟨b2, hb2, hg2⟩ := H3.out
                have hvo : IntsOwn w10 w8.heap.size va2 xs.length vc2 xs := World.ownsRow.kept HYO.out.1 hgr (Or.inr fun e => by have h1 := (World.ownsRow.lt HYO.out.1 _ e).1; omega)
                have hbo := HYO.out.2.kept hgr (Or.inr fun e => by have h1 := HYO.out.2.lt _ e; omega)
                refine ⟨⟨L2, ⟨si, st, va2, xs, vc2, ia2, im, ic2⟩, ⟨(HKD9.out.disk.toDiskAt.other hgr (by omega) (by omega) hnb).more (by omega), HKD9.out.disk.used⟩, ⟨fun _ => ⟨b2, by dsimp only [Sn.plain]; rw [HPB.out]; exact hb2, HFX.out.im, hg2⟩, fun h => by cases h⟩, ?_, ⟨ints_in rfl hvo, hbo.in⟩, HYF.out⟩, HKD9.out.below.grown hgr HKD9.out.below.size (fun q hq => by cases hq; omega)⟩
                rw [hk]
                unfold snArr
                dsimp only
                rw [HVL.out, HML.out]
              go_meet
              exact ⟨true, rfl, hfin⟩
          · rw [if_neg (fun h => hpe h.1)] at hwant
            obtain ⟨h1, h2, _⟩ := hwant
            subst h1
            have H2 := Lib.hid (h2 hpe)
            clear h2
            go_wp2_with fail
            refine (sstore_at HKD7.out.disk (by omega) ⟨si, st, va, xs, vc, ia, im, ic⟩ vl ml HVL.out HML.out HKD7.out.sx HFX.out (L2, e2) HQ2.out).mono ?_
            rintro e w8 ⟨rfl, hd8, hg8⟩
            have HFIN := Lib.hid ((HKD7.out.turn hd8 hg8 hmw (by omega) (by omega)).st (HKP.out.same (H2.out.trans HSN1.out)) HXF.out)
            clear hd8 hg8 d2 d3 d4 d5
            go_wp2_with fail
            go_meet
            exact ⟨Q.1, rfl, HFIN.out.more (by omega)⟩
        case rest =>
        obtain ⟨sm2, rfl, hst2⟩ := hcut
        obtain ⟨Q2, hQ2⟩ := pair_of sm2
        rw [hQ2] at hst2
        rw [hQ2]
        obtain ⟨⟨L, x, hd, hkp, hk6, hxs, hxf⟩, hbw⟩ := hst2
        have HD := Lib.hid hd
        have HKP := Lib.hid hkp
        have HK6 := Lib.hid hk6
        have HXS := Lib.hid hxs
        have HXF := Lib.hid hxf
        have HBW := Lib.hid hbw
        clear hd hkp hk6 hxs hxf hbw HST4 HSX4 HK4 HVL HML HFX HNW hQ2
        go_wp2_with fail
        refine (sload_any HD.out (by omega) (HKP.out.len HD.out.used (by omega)) _ HKP.out.load).mono ?_
        rintro e w5 ⟨y, rfl, hyp, hyf, hyo, hd5, hg5⟩
        obtain ⟨es, ck, hmk⟩ := HD.out.map.block
        have h6c := (Array.getElem?_eq_some_iff.1 HK6.out).1
        have hk65 := (hg5.block g6 h6c (by simp; omega)).trans HK6.out
        have hz5 := hg5.size
        have hb56 := (Below.refl w5.heap.size w5).alloc (Nat.le_refl _) (.cells (snArr y) 25)
        have hky := heap_alloc_new w5 (.cells (snArr y) 25)
        have HXS6 := Lib.hid (snSub_mono (snSub_below (snSub_mono (sub_map HXS.out (Nat.le_refl _) hg5 hmk) hz5) hb56 (Nat.le_refl _)) hb56.size)
        have HYS6 := Lib.hid (snSub_mono (snSub_below (own_sub hyo) hb56 (Nat.le_refl _)) hb56.size)
        have HK66 := Lib.hid ((hb56.block g6 (by omega)).trans hk65)
        have HKY := Lib.hid hky
        have HD6 := Lib.hid ((hd5.below hb56 (Nat.le_refl _)).top)
        have HBW6 := Lib.hid ((HBW.out.grown hg5 HBW.out.size (fun q hq => by cases hq; exact hmw)).trans (hb56.mono (Nat.le_trans HBW.out.size hz5)))
        have HYP := Lib.hid hyp
        have HYF := Lib.hid hyf
        clear hyp hyf hyo hd5 hg5 hb56 hky hk65 hmk HD HXS HBW HK6
        obtain ⟨yi, yt, yva, yxs, yvc, yia, yim, yic⟩ := y
        obtain ⟨xi, xt, xva, xxs, xvc, xia, xim, xic⟩ := x
        dsimp only [snVal, snArr] at HXS6 HYS6 HK66 HKY HD6 HBW6 ⊢
        go_upto_region 31 with fail
        generalize w5.alloc (.cells #[.int .i64 yi, .int .i64 yt, .slice yva yxs.length yvc, .slice yia yim.length yic] 25) = w6 at HXS6 HYS6 HK66 HKY HD6 HBW6 ⊢
        have g0 := Go.Joins.cell_of_block HK66.out 0
        have g1 := Go.Joins.cell_of_block HK66.out 1
        have g2 := Go.Joins.cell_of_block HK66.out 2
        have g3 := Go.Joins.cell_of_block HK66.out 3
        have e0 := Go.Joins.cell_of_block HKY.out 0
        have e1 := Go.Joins.cell_of_block HKY.out 1
        have e2 := Go.Joins.cell_of_block HKY.out 2
        have e3 := Go.Joins.cell_of_block HKY.out 3
        go_wp2_with fail
        refine (sameSnap_any ⟨yi, yt, yva, yxs, yvc, yia, yim, yic⟩ ⟨xi, xt, xva, xxs, xvc, xia, xim, xic⟩ w6 HYS6.out HXS6.out HYP.out HYF.out.vn HYF.out.ln).mono ?_
        rintro e w7 ⟨rfl, hb7⟩
        have HFIN := Lib.hid (KSt.next (sm := Q2.1) ⟨⟨L, ⟨xi, xt, xva, xxs, xvc, xia, xim, xic⟩, HD6.out, HKP.out, HK66.out, HXS6.out, HXF.out⟩, HBW6.out⟩ hb7)
        clear hb7 g0 g1 g2 g3 e0 e1 e2 e3
        go_wp2_with fail
        go_roundw
        case rel => exact ⟨k + 1, Q2.1, by omega, by omega, by go_num, rfl, HFIN.out.more (by omega)⟩
        case measure => simp [intOf] <;> omega
      · have i1 : (k : Int) < n := by omega
        have i2 : ¬ (k : Int) < 40 := by omega
        go_wp2_with fail
        go_ret
        exact ⟨rfl, HST.out.below⟩
    · have i1 : ¬ (k : Int) < n := by omega
      go_wp2_with fail
      go_ret
      exact ⟨rfl, HST.out.below⟩
theorem walk_SnapKeeps {H : Type} {enc : TypeId × Value → H} {d : DataW H} {p : List MemPlace} (W : World) (room : Int) (hroom : (Lit.int .i64 room).wf = true) (ao : Option Addr) (n cap : Nat) (h : DataW.Trod enc Tryd.prog W 0 (fun _ => true) true 38 (.slice ao n cap) d p) (hz : DSized Tryd.prog 38 d) :
    Calls Tryd.prog 4 #[.int .i64 room, .slice ao n cap] W fun e w' => e = .returned (.bool true) ∧ Below W.heap.size W w' := by
  obtain ⟨ds, h1, h2, h3, _, _, _⟩ := open_sized (k := 6) (cells := stCells) (sub := stSub) StArg Tryd.underlying38 scells_do (by decide) st_el h hz
  exact snapKeeps_any room hroom ao n cap ds W h1 h2 h3
end Go.Proofs.YthiijbjhgkeikaaDoor
