/- OverInts, OverValues, OverBytes, OverEntries, OverLetter: what was lent is written over; all keeps its shape, and nothing else is changed. Conditions: the rows have twelve places behind their ends. -/
import Derived.Test.YtglgcjkglhlggaaGreatDoorGLetterPuts14
import Derived.Test.YtglgcjkglhlggaaGreatDoorGLetterPuts12
import Derived.Test.YtglgcjkglhlggaaGreatDoorGLetterPuts13
set_option linter.unusedVariables false
set_option linter.unusedSimpArgs false
namespace Go.Proofs.YtglgcjkglhlggaaGreatDoor
open Go.RowKit
set_option maxRecDepth 20000
theorem size_oI : ∀ w, (sizeOf (Tryz.prog.elem 24)).run Tryz.prog w = .ok 1 w := fun _ => by kernel_rfl
theorem slice_oI : Tryz.prog.underlying 24 = some (.slice (Tryz.prog.elem 24)) := by kernel_rfl
set_option maxHeartbeats 2000000 in
theorem overI_room (B T : Nat) (a : Option Addr) (n c : Nat) (w : World) (h : Room w B T 3 1 a n c) (hn : n ≤ 1099511627776) :
    Calls Tryz.prog 43 #[.slice a n c] w fun e w' => e = .returned (.tuple #[]) ∧ OverK B T [3] w w' := by
  obtain ⟨g, rfl, hgB, hgT, rfl, hbk⟩ := h
  have hsl : ∀ w', (Instr.sliceAt 24 (.slice (some ⟨g, 0, none⟩) n (n + 12)) none (some (.int .i64 ((n : Int) + 12))) none).run Tryz.prog w' = .ok (.slice (some ⟨g, 0, none⟩) (n + 12) (n + 12)) w' := fun w' => by
    have h1 := run_sub_h slice_oI size_oI (some ⟨g, 0, none⟩) n (n + 12) (n + 12) (Nat.le_refl _) .i64 ((n : Int) + 12) (by omega) w'
    rwa [subA_zero _ _ _ (by intro a ha; cases ha; rfl)] at h1
  have HK := Lib.hid hbk
  clear hbk
  go_enter Tryz.func43, Tryz.ntmps43
  go_wp2_with fail
  clear hsl
  go_loopw [3] (fun i wr => ∃ q : Nat, q ≤ n + 12 ∧ i = .int .i64 q ∧ Blk wr g 3 ((n + 12) * 1) ∧ OverK B T [3] w wr) (fun i _ => n + 12 - (intOf i).toNat)
  case atStart => exact ⟨0, by omega, rfl, HK.out, OverK.refl _ _ _ _⟩
  case round =>
    obtain ⟨q, hq, rfl, hbk, hov⟩ := hrel
    have HOV := Lib.hid hov
    have HBK := Lib.hid hbk
    clear hov hbk
    by_cases hlt : q < n + 12
    · have i1 : (q : Int) < (n : Int) + 12 := by omega
      have i2 : (q : Int) < ((n + 12 : Nat) : Int) := by omega
      go_wp2_with fail
      refine (markI_at 2 _ 2 q (by omega) rfl (by omega) (by omega) wr).mono ?_
      rintro e w3 ⟨rfl, hb3⟩
      have hov := HOV.out.then_below hb3 (Nat.le_trans (by have := HK.out.lt; omega) HOV.out.size)
      have hbk3 := HBK.out.below hb3 (Nat.le_refl _)
      obtain ⟨o0, d0⟩ := hbk3.cell (i := q) (by omega)
      have f0 : w3.frozen? ⟨g, q, none⟩ = false := hbk3.free _
      have s0 := hov.set hbk3 (by simp) hgB hgT (q) (.int .i64 (markN 2 q))
      have b0 := hbk3.set g (q) (.int .i64 (markN 2 q))
      have SX := Lib.hid s0
      have BX := Lib.hid b0
      clear s0 b0 hov hbk3
      go_wp2_with fail
      go_roundw
      case rel => exact ⟨q + 1, by omega, by go_num, BX.out, SX.out⟩
      case measure => simp [intOf]; omega
    · obtain rfl : q = n + 12 := by omega
      go_wp2_with fail
      go_end0
      exact ⟨rfl, HOV.out⟩
theorem size_oV : ∀ w, (sizeOf (Tryz.prog.elem 51)).run Tryz.prog w = .ok 3 w := fun _ => by kernel_rfl
theorem slice_oV : Tryz.prog.underlying 51 = some (.slice (Tryz.prog.elem 51)) := by kernel_rfl
set_option maxHeartbeats 2000000 in
theorem overV_room (B T : Nat) (a : Option Addr) (n c : Nat) (w : World) (h : Room w B T 58 3 a n c) (hn : n ≤ 1099511627776) :
    Calls Tryz.prog 198 #[.slice a n c] w fun e w' => e = .returned (.tuple #[]) ∧ OverK B T [58] w w' := by
  obtain ⟨g, rfl, hgB, hgT, rfl, hbk⟩ := h
  have hsl : ∀ w', (Instr.sliceAt 51 (.slice (some ⟨g, 0, none⟩) n (n + 12)) none (some (.int .i64 ((n : Int) + 12))) none).run Tryz.prog w' = .ok (.slice (some ⟨g, 0, none⟩) (n + 12) (n + 12)) w' := fun w' => by
    have h1 := run_sub_h slice_oV size_oV (some ⟨g, 0, none⟩) n (n + 12) (n + 12) (Nat.le_refl _) .i64 ((n : Int) + 12) (by omega) w'
    rwa [subA_zero _ _ _ (by intro a ha; cases ha; rfl)] at h1
  have HK := Lib.hid hbk
  clear hbk
  go_enter Tryz.func198, Tryz.ntmps198
  go_wp2_with fail
  clear hsl
  go_loopw [3] (fun i wr => ∃ q : Nat, q ≤ n + 12 ∧ i = .int .i64 q ∧ Blk wr g 58 ((n + 12) * 3) ∧ OverK B T [58] w wr) (fun i _ => n + 12 - (intOf i).toNat)
  case atStart => exact ⟨0, by omega, rfl, HK.out, OverK.refl _ _ _ _⟩
  case round =>
    obtain ⟨q, hq, rfl, hbk, hov⟩ := hrel
    have HOV := Lib.hid hov
    have HBK := Lib.hid hbk
    clear hov hbk
    by_cases hlt : q < n + 12
    · have i1 : (q : Int) < (n : Int) + 12 := by omega
      have i2 : (q : Int) < ((n + 12 : Nat) : Int) := by omega
      go_wp2_with fail
      refine (markV_at 2 _ 2 q (by omega) rfl (by omega) (by omega) wr).mono ?_
      rintro e w3 ⟨rfl, hb3⟩
      have hov := HOV.out.then_below hb3 (Nat.le_trans (by have := HK.out.lt; omega) HOV.out.size)
      have hbk3 := HBK.out.below hb3 (Nat.le_refl _)
      obtain ⟨o0, d0⟩ := hbk3.cell (i := q * 3) (by omega)
      have f0 : w3.frozen? ⟨g, q * 3, none⟩ = false := hbk3.free _
      obtain ⟨o1, d1⟩ := hbk3.cell (i := q * 3 + 1) (by omega)
      have f1 : w3.frozen? ⟨g, q * 3 + 1, none⟩ = false := hbk3.free _
      obtain ⟨o2, d2⟩ := hbk3.cell (i := q * 3 + 2) (by omega)
      have f2 : w3.frozen? ⟨g, q * 3 + 2, none⟩ = false := hbk3.free _
      have s0 := hov.set hbk3 (by simp) hgB hgT (q * 3) (.int .u8 0)
      have b0 := hbk3.set g (q * 3) (.int .u8 0)
      have s1 := s0.set b0 (by simp) hgB hgT (q * 3 + 1) (.int .i64 (markN 2 q))
      have b1 := b0.set g (q * 3 + 1) (.int .i64 (markN 2 q))
      have s2 := s1.set b1 (by simp) hgB hgT (q * 3 + 2) (.string ByteArray.empty)
      have b2 := b1.set g (q * 3 + 2) (.string ByteArray.empty)
      have SX := Lib.hid s2
      have BX := Lib.hid b2
      clear s0 b0 s1 b1 s2 b2 hov hbk3
      go_wp2_with fail
      go_roundw
      case rel => exact ⟨q + 1, by omega, by go_num, BX.out, SX.out⟩
      case measure => simp [intOf]; omega
    · obtain rfl : q = n + 12 := by omega
      go_wp2_with fail
      go_end0
      exact ⟨rfl, HOV.out⟩
theorem size_oB : ∀ w, (sizeOf (Tryz.prog.elem 25)).run Tryz.prog w = .ok 1 w := fun _ => by kernel_rfl
theorem slice_oB : Tryz.prog.underlying 25 = some (.slice (Tryz.prog.elem 25)) := by kernel_rfl
set_option maxHeartbeats 2000000 in
theorem overB_room (B T : Nat) (a : Option Addr) (n c : Nat) (w : World) (h : Room w B T 5 1 a n c) (hn : n ≤ 1099511627776) :
    Calls Tryz.prog 20 #[.slice a n c] w fun e w' => e = .returned (.tuple #[]) ∧ OverK B T [5] w w' := by
  obtain ⟨g, rfl, hgB, hgT, rfl, hbk⟩ := h
  have hsl : ∀ w', (Instr.sliceAt 25 (.slice (some ⟨g, 0, none⟩) n (n + 12)) none (some (.int .i64 ((n : Int) + 12))) none).run Tryz.prog w' = .ok (.slice (some ⟨g, 0, none⟩) (n + 12) (n + 12)) w' := fun w' => by
    have h1 := run_sub_h slice_oB size_oB (some ⟨g, 0, none⟩) n (n + 12) (n + 12) (Nat.le_refl _) .i64 ((n : Int) + 12) (by omega) w'
    rwa [subA_zero _ _ _ (by intro a ha; cases ha; rfl)] at h1
  have HK := Lib.hid hbk
  clear hbk
  go_enter Tryz.func20, Tryz.ntmps20
  go_wp2_with fail
  clear hsl
  go_loopw [3] (fun i wr => ∃ q : Nat, q ≤ n + 12 ∧ i = .int .i64 q ∧ Blk wr g 5 ((n + 12) * 1) ∧ OverK B T [5] w wr) (fun i _ => n + 12 - (intOf i).toNat)
  case atStart => exact ⟨0, by omega, rfl, HK.out, OverK.refl _ _ _ _⟩
  case round =>
    obtain ⟨q, hq, rfl, hbk, hov⟩ := hrel
    have HOV := Lib.hid hov
    have HBK := Lib.hid hbk
    clear hov hbk
    by_cases hlt : q < n + 12
    · have i1 : (q : Int) < (n : Int) + 12 := by omega
      have i2 : (q : Int) < ((n + 12 : Nat) : Int) := by omega
      go_wp2_with fail
      refine (markBK_at _ _ 2 q (by omega) rfl (by omega) (by omega) wr).mono ?_
      rintro e w3 ⟨rfl, rfl⟩
      have hov := HOV.out
      have hbk3 := HBK.out
      obtain ⟨o0, d0⟩ := hbk3.cell (i := q) (by omega)
      have f0 : wr.frozen? ⟨g, q, none⟩ = false := hbk3.free _
      have s0 := hov.set hbk3 (by simp) hgB hgT (q) (.int .u8 (markBK 2 q))
      have b0 := hbk3.set g (q) (.int .u8 (markBK 2 q))
      have SX := Lib.hid s0
      have BX := Lib.hid b0
      clear s0 b0 hov hbk3
      go_wp2_with fail
      go_roundw
      case rel => exact ⟨q + 1, by omega, by go_num, BX.out, SX.out⟩
      case measure => simp [intOf]; omega
    · obtain rfl : q = n + 12 := by omega
      go_wp2_with fail
      go_end0
      exact ⟨rfl, HOV.out⟩
theorem overC_room (B T : Nat) (ck : Int) (text : ByteArray) (num : Int) (a : Option Addr) (n c : Nat) (w : World) (h : Room w B T 58 3 a n c) (hn : n ≤ 1099511627776) (hB : B ≤ w.heap.size) :
    Calls Tryz.prog 135 #[.agg #[.int .u8 ck, .string text, .slice a n c, .int .i64 num]] w fun e w' => e = .returned (.tuple #[]) ∧ OverK B T [58] w w' := by
  have hb := (Below.refl w.heap.size w).alloc (Nat.le_refl _) (.cells #[.int .u8 ck, .string text, .slice a n c, .int .i64 num] 53)
  have HB := Lib.hid hb
  have H := Lib.hid (h.below hb)
  clear h hb
  go_enter Tryz.func135, Tryz.ntmps135
  go_wp2_with fail
  refine (overV_room B T a n c _ H.out hn).mono ?_
  rintro e w3 ⟨rfl, ho⟩
  go_wp2_with fail
  go_end0
  exact ⟨rfl, ((OverK.refl B T [58] w).then_below HB.out hB).trans ho (fun _ h => h)⟩
/-- An entry whose lists may be written over. -/
structure EnRoom (w : World) (B T : Nat) (f : En) : Prop where
  args : Room w B T 58 3 f.aao f.args.length f.acap
  vs : Room w B T 3 1 f.vao f.vs.length f.vcap
theorem EnRoom.over {w w' : World} {B T : Nat} {f : En} {Ts : List TypeId} (h : EnRoom w B T f) (ho : OverK B T Ts w w') : EnRoom w' B T f := ⟨h.args.over ho, h.vs.over ho⟩
theorem EnRoom.below {w w' : World} {B T : Nat} {f : En} (h : EnRoom w B T f) (hb : Below w.heap.size w w') : EnRoom w' B T f := ⟨h.args.below hb, h.vs.below hb⟩
theorem EnLent.room {w : World} {B : Nat} {f : En} (h : EnLent w B f) : EnRoom w B w.heap.size f := by
  obtain ⟨⟨g, h1, h2, h3⟩, ⟨g', h1', h2', h3'⟩⟩ := h
  exact ⟨⟨g, h1, h3.lt.1, h3.lt.2, h2, Blk.of_own h3⟩, ⟨g', h1', h3'.lt.1, h3'.lt.2, h2', Blk.of_own h3'⟩⟩
def overTs : List TypeId := [58, 3]
set_option maxHeartbeats 2000000 in
theorem overEn_room (B T : Nat) (x0 x1 x2 x3 ck : Int) (text : ByteArray) (ao : Option Addr) (an ac : Nat) (num : Int) (vo : Option Addr) (vn vc : Nat) (w : World) (h : Room w B T 58 3 ao an ac) (h2 : Room w B T 3 1 vo vn vc) (hn : an ≤ 1099511627776) (hn2 : vn ≤ 1099511627776) (hB : B ≤ w.heap.size) (hT : T ≤ w.heap.size) :
    Calls Tryz.prog 76 #[.agg #[.int .i64 x0, .int .u8 x1, .int .i64 x2, .int .i64 x3, .int .u8 ck, .string text, .slice ao an ac, .int .i64 num, .slice vo vn vc]] w fun e w' => e = .returned (.tuple #[]) ∧ OverK B T overTs w w' := by
  have hb := (Below.refl w.heap.size w).alloc (Nat.le_refl _) (.cells #[.int .i64 x0, .int .u8 x1, .int .i64 x2, .int .i64 x3, .int .u8 ck, .string text, .slice ao an ac, .int .i64 num, .slice vo vn vc] 55)
  have hk := heap_alloc_new w (.cells #[.int .i64 x0, .int .u8 x1, .int .i64 x2, .int .i64 x3, .int .u8 ck, .string text, .slice ao an ac, .int .i64 num, .slice vo vn vc] 55)
  have HB := Lib.hid hb
  have HK := Lib.hid hk
  have H := Lib.hid (h.below hb)
  have H2 := Lib.hid (h2.below hb)
  have HS := Lib.hid (show w.heap.size ≤ (w.alloc (.cells #[.int .i64 x0, .int .u8 x1, .int .i64 x2, .int .i64 x3, .int .u8 ck, .string text, .slice ao an ac, .int .i64 num, .slice vo vn vc] 55)).heap.size from hb.size)
  clear h h2 hb hk
  go_enter Tryz.func76, Tryz.ntmps76
  go_wp2_with fail
  refine (overC_room B T ck text num ao an ac _ H.out hn (Nat.le_trans hB HS.out)).mono ?_
  rintro e w3 ⟨rfl, ho⟩
  have hk3 := ho.far _ _ _ HK.out (by decide)
  have c8 : w3.cell? ⟨w.heap.size, 8, none⟩ = some (.slice vo vn vc) := Go.Joins.cell_of_block hk3 8
  have HH := Lib.hid (H2.out.over ho)
  have HO := Lib.hid ((((OverK.refl B T overTs w).then_below HB.out hB).trans ho (by decide)))
  clear hk3 ho
  go_wp2_with fail
  refine (overI_room B T vo vn vc w3 HH.out hn2).mono ?_
  rintro e w4 ⟨rfl, ho⟩
  clear c8
  go_wp2_with fail
  go_end0
  exact ⟨rfl, HO.out.trans ho (by decide)⟩
theorem EnsLent.room {w : World} {B g n : Nat} {frs : List En} (h : EnsLent w B g n frs) : Room w B w.heap.size 55 9 (some ⟨g, 0, none⟩) n (n + 12) := ⟨g, rfl, h.lt.1, h.lt.2, rfl, Blk.of_own h.row⟩
def overEsTs : List TypeId := [58, 3, 55]
set_option maxHeartbeats 4000000 in
theorem overEs_any (B T g n c : Nat) (frs : List En) (w : World) (hn : frs.length = n) (hx : EnsIn w w.heap.size (some ⟨g, 0, none⟩) frs) (hr : ∀ f ∈ frs, EnRoom w B T f) (hroom : Room w B T 55 9 (some ⟨g, 0, none⟩) n c) (hd : ∀ f ∈ frs, f.args.length ≤ 1099511627776 ∧ f.vs.length ≤ 1099511627776) (hl : n ≤ 1099511627776) (hT : T ≤ w.heap.size) :
    Calls Tryz.prog 42 #[.slice (some ⟨g, 0, none⟩) n c] w fun e w' => e = .returned (.tuple #[]) ∧ OverK B T overEsTs w w' := by
  obtain ⟨g', hg', hgB, hgT, rfl, hbk⟩ := hroom
  cases hg'
  have hsl : ∀ w', (Instr.sliceAt 23 (.slice (some ⟨g, 0, none⟩) n (n + 12)) none (some (.int .i64 ((n : Int) + 12))) none).run Tryz.prog w' = .ok (.slice (some ⟨g, 0, none⟩) (n + 12) (n + 12)) w' := fun w' => by
    have h1 := run_sub_h sliceEntry' sizeEntry' (some ⟨g, 0, none⟩) n (n + 12) (n + 12) (Nat.le_refl _) .i64 ((n : Int) + 12) (by omega) w'
    rwa [subA_zero _ _ _ (by intro a ha; cases ha; rfl)] at h1
  obtain ⟨cs, hcs, hcz⟩ := hbk
  have hcl : ∀ (k : Nat) (f : En), frs[k]? = some f → ∀ w' : World, w'.heap[g]? = some (.cells cs 55 (0, 0)) → ∀ j, j < 9 → w'.cell? ⟨g, k * 9 + j, none⟩ = (enCells f)[j]? := fun k f hf w' hw' j hj => by
    obtain ⟨b, off, hao, hb, hc, _⟩ := hx.at hf
    cases hao
    have h0 := hc j hj
    rw [Nat.zero_add] at h0
    rw [← h0, Go.Joins.cell_of_block hw', Go.Joins.cell_of_block hcs]
  have HN := Lib.hid hn
  have HC := Lib.hid hcl
  have HD := Lib.hid hd
  have HS := Lib.hid hsl
  have HCZ := Lib.hid hcz
  have HCS := Lib.hid hcs
  have HR := Lib.hid hr
  clear hn hcl hd hsl hcz hcs hx hr
  go_enter Tryz.func42, Tryz.ntmps42
  go_wp2_with fail
  go_loopw [2] (fun i wr => ∃ k : Nat, k ≤ n ∧ i = .int .i64 k ∧ (∀ f ∈ frs, EnRoom wr B T f) ∧ wr.heap[g]? = some (.cells cs 55 (0, 0)) ∧ OverK B T overEsTs w wr) (fun i _ => n - (intOf i).toNat)
  case atStart => exact ⟨0, by omega, rfl, HR.out, HCS.out, OverK.refl _ _ _ _⟩
  case round =>
    clear HR HCS
    obtain ⟨k, hk, rfl, hroom, hrow, hov⟩ := hrel
    have HO := Lib.hid hroom
    have HR := Lib.hid hrow
    have HV := Lib.hid hov
    clear hroom hrow hov
    by_cases hlt : k < n
    · have hkf : k < frs.length := by rw [HN.out]; exact hlt
      have hx0 : frs[k]? = some frs[k] := List.getElem?_eq_getElem hkf
      have hc := HC.out k _ hx0 wr HR.out
      have hro := HO.out frs[k] (List.getElem_mem hkf)
      have hdl := HD.out frs[k] (List.getElem_mem hkf)
      generalize frs[k] = x at hc hro hdl hx0
      obtain ⟨x0, x1, x2, x3, ck, text, ao, fd, fc, num, vo, vs, vc⟩ := x
      obtain ⟨an, han⟩ : ∃ an, fd.length = an := ⟨_, rfl⟩
      obtain ⟨vn, hvn⟩ : ∃ vn, vs.length = vn := ⟨_, rfl⟩
      obtain ⟨r1, r2⟩ := hro
      dsimp only at hdl r1 r2
      rw [han] at r1 hdl
      rw [hvn] at r2 hdl
      have c0 : wr.cell? ⟨g, k * 9, none⟩ = some (.int .i64 x0) := hc 0 (by decide)
      have c1 : wr.cell? ⟨g, k * 9 + 1, none⟩ = some (.int .u8 x1) := hc 1 (by decide)
      have c2 : wr.cell? ⟨g, k * 9 + 1 + 1, none⟩ = some (.int .i64 x2) := hc 2 (by decide)
      have c3 : wr.cell? ⟨g, k * 9 + 1 + 1 + 1, none⟩ = some (.int .i64 x3) := hc 3 (by decide)
      have c4 : wr.cell? ⟨g, k * 9 + 1 + 1 + 1 + 1, none⟩ = some (.int .u8 ck) := hc 4 (by decide)
      have c5 : wr.cell? ⟨g, k * 9 + 1 + 1 + 1 + 1 + 1, none⟩ = some (.string text) := hc 5 (by decide)
      have c6 : wr.cell? ⟨g, k * 9 + 1 + 1 + 1 + 1 + 1 + 1, none⟩ = some (.slice ao an fc) := (hc 6 (by decide)).trans (by rw [← han]; rfl)
      have c7 : wr.cell? ⟨g, k * 9 + 1 + 1 + 1 + 1 + 1 + 1 + 1, none⟩ = some (.int .i64 num) := hc 7 (by decide)
      have c8 : wr.cell? ⟨g, k * 9 + 1 + 1 + 1 + 1 + 1 + 1 + 1 + 1, none⟩ = some (.slice vo vn vc) := (hc 8 (by decide)).trans (by rw [← hvn]; rfl)
      have R1 := Lib.hid r1
      have R2 := Lib.hid r2
      have hd1 := hdl.1
      have hd2 := hdl.2
      have i1 : (k : Int) < n := by omega
      have hsz := HV.out.size
      clear hc hx0 han hvn r1 r2 hdl
      go_wp2_with fail
      refine (overEn_room B T x0 x1 x2 x3 ck text ao an fc num vo vn vc wr R1.out R2.out hd1 hd2 (by omega) (by omega)).mono ?_
      rintro e w3 ⟨rfl, ho⟩
      have hro3 : ∀ f ∈ frs, EnRoom w3 B T f := fun f hf => (HO.out f hf).over ho
      have hr3 := ho.far _ _ _ HR.out (by decide)
      have hv3 := HV.out.trans ho (by decide)
      have H1 := Lib.hid hro3
      have H2 := Lib.hid hr3
      have H3 := Lib.hid hv3
      clear hro3 hr3 hv3 ho c0 c1 c2 c3 c4 c5 c6 c7 c8
      go_wp2_with fail
      go_roundw
      case rel => exact ⟨k + 1, by omega, by go_num, H1.out, H2.out, H3.out⟩
      case measure => simp [intOf]; omega
    · obtain rfl : k = n := by omega
      have hsl := HS.out
      go_wp2_with fail
      clear hsl
      go_loopw [4] (fun i wr => ∃ q : Nat, q ≤ k + 12 ∧ i = .int .i64 q ∧ Blk wr g 55 ((k + 12) * 9) ∧ OverK B T overEsTs w wr) (fun i _ => k + 12 - (intOf i).toNat)
      case atStart => exact ⟨0, by omega, rfl, ⟨cs, HR.out, HCZ.out⟩, HV.out⟩
      case round =>
        clear HO HR HV
        obtain ⟨q, hq, rfl, hbk, hov⟩ := hrel
        have HOV := Lib.hid hov
        have HBK := Lib.hid hbk
        clear hov hbk
        have hsz := HOV.out.size
        by_cases hltq : q < k + 12
        · have i1 : (q : Int) < (k : Int) + 12 := by omega
          have i2 : (q : Int) < ((k + 12 : Nat) : Int) := by omega
          go_wp2_with fail
          refine (markE_at 2 _ 2 q (by omega) rfl (by omega) (by omega) wr).mono ?_
          rintro e w3 ⟨rfl, hb3⟩
          have hov := HOV.out.then_below hb3 (by omega)
          have hbk3 := HBK.out.below hb3 (Nat.le_refl _)
          obtain ⟨o0, d0⟩ := hbk3.cell (i := q * 9) (by omega)
          have f0 : w3.frozen? ⟨g, q * 9, none⟩ = false := hbk3.free _
          obtain ⟨o1, d1⟩ := hbk3.cell (i := q * 9 + 1) (by omega)
          have f1 : w3.frozen? ⟨g, q * 9 + 1, none⟩ = false := hbk3.free _
          obtain ⟨o2, d2⟩ := hbk3.cell (i := q * 9 + 2) (by omega)
          have f2 : w3.frozen? ⟨g, q * 9 + 2, none⟩ = false := hbk3.free _
          obtain ⟨o3, d3⟩ := hbk3.cell (i := q * 9 + 3) (by omega)
          have f3 : w3.frozen? ⟨g, q * 9 + 3, none⟩ = false := hbk3.free _
          obtain ⟨o4, d4⟩ := hbk3.cell (i := q * 9 + 4) (by omega)
          have f4 : w3.frozen? ⟨g, q * 9 + 4, none⟩ = false := hbk3.free _
          obtain ⟨o5, d5⟩ := hbk3.cell (i := q * 9 + 5) (by omega)
          have f5 : w3.frozen? ⟨g, q * 9 + 5, none⟩ = false := hbk3.free _
          obtain ⟨o6, d6⟩ := hbk3.cell (i := q * 9 + 6) (by omega)
          have f6 : w3.frozen? ⟨g, q * 9 + 6, none⟩ = false := hbk3.free _
          obtain ⟨o7, d7⟩ := hbk3.cell (i := q * 9 + 7) (by omega)
          have f7 : w3.frozen? ⟨g, q * 9 + 7, none⟩ = false := hbk3.free _
          obtain ⟨o8, d8⟩ := hbk3.cell (i := q * 9 + 8) (by omega)
          have f8 : w3.frozen? ⟨g, q * 9 + 8, none⟩ = false := hbk3.free _
          have s0 := hov.set hbk3 (by decide) hgB hgT (q * 9) (.int .i64 (markN 2 q))
          have b0 := hbk3.set g (q * 9) (.int .i64 (markN 2 q))
          have s1 := s0.set b0 (by decide) hgB hgT (q * 9 + 1) (.int .u8 0)
          have b1 := b0.set g (q * 9 + 1) (.int .u8 0)
          have s2 := s1.set b1 (by decide) hgB hgT (q * 9 + 2) (.int .i64 0)
          have b2 := b1.set g (q * 9 + 2) (.int .i64 0)
          have s3 := s2.set b2 (by decide) hgB hgT (q * 9 + 3) (.int .i64 0)
          have b3 := b2.set g (q * 9 + 3) (.int .i64 0)
          have s4 := s3.set b3 (by decide) hgB hgT (q * 9 + 4) (.int .u8 0)
          have b4 := b3.set g (q * 9 + 4) (.int .u8 0)
          have s5 := s4.set b4 (by decide) hgB hgT (q * 9 + 5) (.string ByteArray.empty)
          have b5 := b4.set g (q * 9 + 5) (.string ByteArray.empty)
          have s6 := s5.set b5 (by decide) hgB hgT (q * 9 + 6) (.slice none 0 0)
          have b6 := b5.set g (q * 9 + 6) (.slice none 0 0)
          have s7 := s6.set b6 (by decide) hgB hgT (q * 9 + 7) (.int .i64 0)
          have b7 := b6.set g (q * 9 + 7) (.int .i64 0)
          have s8 := s7.set b7 (by decide) hgB hgT (q * 9 + 8) (.slice none 0 0)
          have b8 := b7.set g (q * 9 + 8) (.slice none 0 0)
          have SX := Lib.hid s8
          have BX := Lib.hid b8
          clear s0 b0 s1 b1 s2 b2 s3 b3 s4 b4 s5 b5 s6 b6 s7 b7 s8 b8 hov hbk3
          go_wp2_with fail
          go_roundw
          case rel => exact ⟨q + 1, by omega, by go_num, BX.out, SX.out⟩
          case measure => simp [intOf]; omega
        · go_wp2_with fail
          go_end0
          exact ⟨rfl, HOV.out⟩
end Go.Proofs.YtglgcjkglhlggaaGreatDoor
/- Loads of whole structs. No program. Conditions: as each says. -/
namespace Go.Proofs.YtglgcjkglhlggaaGreatDoor
open Go.RowKit
set_option maxRecDepth 20000
theorem load_want {P : Program} {ops : Array Oper} {rest : List Oper} {op : Oper} {a : Act} {w : World} {Q : Exit → Act → World → Prop} (hw : Region.wanted op (yielded ops a.tmps) = true) (ty : TypeId) (x : Operand) (ho : op.op = .load ty x)
    (b o : Nat) (hx : a.eval x = .pointer (some ⟨b, o, none⟩)) (cs : List Value) (d : TypeDesc) (hc : w.rangeAt b o cs)
    (hu : P.underlying ty = some d) (hd : d.isRow = true) (hi : (P.info? ty).map (·.size) = some cs.length)
    (h : wpList P ops Q rest (a.put op.dst (.agg cs.toArray)) w) : wpList P ops Q (op :: rest) a w :=
  Go.BigFrame.wpList_want hw fun _ hK => wp_load_mid ty x ho b o hx cs d hc hu hd hi (hK _ _ h)
theorem rng_block {w : World} {g : Nat} {A : Array Value} {T : TypeId} {fz : Nat × Nat} (h : w.heap[g]? = some (.cells A T fz)) : w.rangeAt g 0 A.toList := fun j v hv => by
  rw [Nat.zero_add, Go.Joins.cell_of_block h, ← Array.getElem?_toList]
  exact hv
end Go.Proofs.YtglgcjkglhlggaaGreatDoor
/- LentLetter, KeptLetter, OverLetter. Conditions: the letters lie as their readings say. -/
namespace Go.Proofs.YtglgcjkglhlggaaGreatDoor
open Go.RowKit
set_option maxRecDepth 20000
/-- A letter whose lists are lent. -/
structure LtLent (w : World) (B : Nat) (l : Lt) : Prop where
  es : ∃ g, l.eo = some ⟨g, 0, none⟩ ∧ l.ecap = l.es.length + 12 ∧ EnsLent w B g l.es.length l.es
  vs : ∃ g, l.vo = some ⟨g, 0, none⟩ ∧ l.vcap = l.vs.length + 12 ∧ LentI w B g l.vs
  im : ∃ g, l.io = some ⟨g, 0, none⟩ ∧ l.icap = l.im.length + 12 ∧ LentB w B g l.im
theorem lentB_rows {w : World} {B g : Nat} {xs : List Int} (h : LentB w B g xs) : BytesIn w w.heap.size (some ⟨g, 0, none⟩) xs := by
  refine Or.inr ⟨g, 0, rfl, ownsRow_ltB h, fun i hi => ?_⟩
  rw [Nat.zero_add, World.ownsRow.cellAt h i (by omega), List.getElem?_map, List.getElem?_append_left hi, List.getElem?_eq_getElem hi]
  simp [bv, List.getD, hi]
theorem LtLent.below {w w' : World} {B B' : Nat} {l : Lt} (h : LtLent w B l) (hb : Below B' w w') (hB : w.heap.size ≤ B') : LtLent w' B l := by
  obtain ⟨⟨g, h1, h2, h3⟩, ⟨g', h1', h2', h3'⟩, ⟨g'', h1'', h2'', h3''⟩⟩ := h
  exact ⟨⟨g, h1, h2, h3.below hb hB⟩, ⟨g', h1', h2', own_below h3' hb hB⟩, ⟨g'', h1'', h2'', own_below h3'' hb hB⟩⟩
theorem LtLent.sub {w : World} {B : Nat} {l : Lt} (h : LtLent w B l) : ltSub w w.heap.size l := by
  obtain ⟨⟨g, h1, h2, h3⟩, ⟨g', h1', h2', h3'⟩, ⟨g'', h1'', h2'', h3''⟩⟩ := h
  refine ⟨?_, ?_, ?_⟩
  · rw [h1]; exact h3.rows rfl
  · rw [h1']; exact RowsIn.mono noSub_rising h3'.rows h3'.lt.2
  · rw [h1'']; exact lentB_rows h3''
theorem plain_of {xs ys : List En} (h : xs.map En.plain = ys.map En.plain) {e : En} (he : e ∈ xs) : ∃ f ∈ ys, f.plain = e.plain := by
  have : e.plain ∈ ys.map En.plain := h ▸ List.mem_map_of_mem he
  obtain ⟨f, hf, h⟩ := List.mem_map.1 this
  exact ⟨f, hf, h⟩
theorem enFine_lent {e f : En} (hf : EnFine f) (hp : f.plain = e.plain) (ha : e.aao ≠ none) (hv : e.vao ≠ none) (hc : e.args.length ≤ e.acap) (hc2 : e.vs.length ≤ e.vcap) : EnFine e := by
  obtain ⟨x0, x1, x2, x3, ck, text, ao, fd, fc, num, vo, vs, vc⟩ := f
  obtain ⟨y0, y1, y2, y3, ck2, text2, ao2, fd2, fc2, num2, vo2, vs2, vc2⟩ := e
  simp only [En.plain, EnP.mk.injEq] at hp
  obtain ⟨rfl, rfl, rfl, rfl, rfl, rfl, rfl, rfl, rfl⟩ := hp
  obtain ⟨wf, h2, h3, h4, h5, h6⟩ := hf
  exact ⟨⟨wf.term, wf.kind, wf.session, wf.seq, wf.ck, wf.text, wf.args, wf.num, wf.vs, wf.argn, wf.vn, fun h => absurd h ha, fun h => absurd h hv, hc, hc2⟩, h2, h3, h4, h5, h6⟩
theorem LtLent.fine {w : World} {B : Nat} {x l : Lt} (h : LtLent w B x) (hp : x.plain = l.plain) (hf : LtFine l) : LtFine x := by
  obtain ⟨⟨g, h1, h2, h3⟩, ⟨g', h1', h2', h3'⟩, ⟨g'', h1'', h2'', h3''⟩⟩ := h
  obtain ⟨kd, fr, tt, tm, ix, ws, ob, cm, rn, ea, es, ec, va, vs, vc, ia, im, ic⟩ := x
  obtain ⟨kd2, fr2, tt2, tm2, ix2, ws2, ob2, cm2, rn2, ea2, es2, ec2, va2, vs2, vc2, ia2, im2, ic2⟩ := l
  simp only [Lt.plain, LtP.mk.injEq] at hp
  obtain ⟨rfl, rfl, rfl, rfl, rfl, rfl, rfl, rfl, rfl, hes, rfl, rfl⟩ := hp
  have hn : es.length = es2.length := by have := congrArg List.length hes; simpa using this
  dsimp only at h1 h2 h1' h2' h1'' h2'' h3
  refine ⟨hf.kind, hf.fr, hf.tov, hf.term, hf.index, hf.was, hf.commit, hf.round, fun e he => ?_, by have := hf.en; dsimp only at this ⊢; omega, hf.vs, hf.vn, hf.im, hf.ln, ?_, ?_, ?_, by dsimp only; omega⟩
  · obtain ⟨f, hf2, hpl⟩ := plain_of hes he
    obtain ⟨⟨a1, b1, c1, _⟩, ⟨a2, b2, c2, _⟩⟩ := h3.lent e he
    exact enFine_lent (hf.es f hf2) hpl (by rw [b1]; simp) (by rw [b2]; simp) (by omega) (by omega)
  · intro h; dsimp only at h; rw [h1] at h; cases h
  · intro h; dsimp only at h; rw [h1'] at h; cases h
  · intro h; dsimp only at h; rw [h1''] at h; cases h
theorem EnFine.okL {f : En} (h : EnFine f) : EnOkL f := ⟨h.wf.anil, h.wf.vnil, Nat.le_trans h.args (by decide), Nat.le_trans h.vn (by decide)⟩
def LentLtPost (l : Lt) (w : World) (e : Ending) (w' : World) : Prop := ∃ x : Lt, e = .returned (ltVal x) ∧ x.plain = l.plain ∧ LtLent w' w.heap.size x ∧ Below w.heap.size w w'
set_option maxHeartbeats 8000000 in
theorem lentLt_any (l : Lt) (w : World) (hx : ltSub w w.heap.size l) (hf : LtFine l) : Calls Tryz.prog 8 #[ltVal l] w (LentLtPost l w) := by
  have HFE := Lib.hid (fun e he => (hf.es e he).okL)
  obtain ⟨kd, fr, tt, tm, ix, ws, ob, cm, rn, eo, es, ec, vo, vs, vc, io, im, ic⟩ := l
  obtain ⟨n, hn⟩ : ∃ n, es.length = n := ⟨_, rfl⟩
  obtain ⟨m, hm⟩ : ∃ m, vs.length = m := ⟨_, rfl⟩
  obtain ⟨q, hq⟩ : ∃ q, im.length = q := ⟨_, rfl⟩
  have l1 := hf.en
  have l2 := hf.vn
  have l3 := hf.ln
  dsimp only at l1 l2 l3 HFE
  rw [hn] at l1
  rw [hm] at l2
  rw [hq] at l3
  have HF := Lib.hid hf
  have HX := Lib.hid hx
  have HN := Lib.hid hn
  have HM := Lib.hid hm
  have HQ := Lib.hid hq
  unfold ltVal
  dsimp only
  rw [hn, hm, hq]
  clear hf hx hn hm hq
  obtain ⟨hb2, h1, h2, hz2⟩ := alloc2_facts w #[.int .u8 kd, .int .i64 fr, .int .i64 tt, .int .i64 tm, .int .i64 ix, .int .i64 ws, .bool ob, .int .i64 cm, .int .i64 rn, .slice eo n ec, .slice vo m vc, .slice io q ic] #[.int .u8 0, .int .i64 0, .int .i64 0, .int .i64 0, .int .i64 0, .int .i64 0, .bool false, .int .i64 0, .int .i64 0, .slice none 0 0, .slice none 0 0, .slice none 0 0] 27 27
  have HB2 := Lib.hid hb2
  have H1 := Lib.hid h1
  have H2 := Lib.hid h2
  have HZ := Lib.hid (Nat.le_of_eq hz2.symm)
  clear hb2 h1 h2 hz2
  go_enter Tryz.func8, Tryz.ntmps8
  go_upto_region 1 with fail
  have hb2 := HB2.out
  have h1 := H1.out
  have h2 := H2.out
  have hz2 := HZ.out
  clear HB2 H1 H2 HZ
  generalize (w.alloc (.cells #[.int .u8 kd, .int .i64 fr, .int .i64 tt, .int .i64 tm, .int .i64 ix, .int .i64 ws, .bool ob, .int .i64 cm, .int .i64 rn, .slice eo n ec, .slice vo m vc, .slice io q ic] 27)).alloc (.cells #[.int .u8 0, .int .i64 0, .int .i64 0, .int .i64 0, .int .i64 0, .int .i64 0, .bool false, .int .i64 0, .int .i64 0, .slice none 0 0, .slice none 0 0, .slice none 0 0] 27) = w2 at hb2 h1 h2 hz2 ⊢
  have c9 : w2.cell? ⟨w.heap.size, 9, none⟩ = some (.slice eo n ec) := Go.Joins.cell_of_block h1 9
  have hx2 := ltSub_mono (ltSub_below HX.out hb2 (Nat.le_refl _)) hb2.size
  have hcall := lentEs_any eo ec es w2 hx2.1 HFE.out (by rw [HN.out]; omega)
  rw [HN.out] at hcall
  have HCALL := Lib.hid hcall
  have H1 := Lib.hid h1
  have H2 := Lib.hid h2
  have HB := Lib.hid hb2
  clear hcall hx2 h1 h2 hb2
  go_wp2_with fail
  refine HCALL.out.mono ?_
  rintro e w3 ⟨frs, rfl, hmap, hL, hb3⟩
  rw [HN.out] at hL ⊢
  obtain ⟨g1, hg1⟩ : ∃ g, w2.heap.size = g := ⟨_, rfl⟩
  rw [hg1] at hL ⊢
  have hgz : w.heap.size + 2 ≤ g1 := by omega
  have hs3 := hb3.size
  have k1 := (hb3.block w.heap.size (by omega)).trans H1.out
  have k2 := (hb3.block (w.heap.size + 1) (by omega)).trans H2.out
  have hb3' := HB.out.trans (hb3.mono HB.out.size)
  have hg3 : g1 ≤ w3.heap.size := by omega
  clear c9 HCALL hg1 hb3 H1 H2 HB hz2
  have f9 : w3.frozen? ⟨w.heap.size, 9, none⟩ = false := Go.Joins.unfrozen_of_block k1 9
  have c9 : w3.cell? ⟨w.heap.size, 9, none⟩ = some (.slice eo n ec) := Go.Joins.cell_of_block k1 9
  have HMAP := Lib.hid hmap
  have K1 := Lib.hid k1
  have K2 := Lib.hid k2
  have HB3 := Lib.hid hb3'
  have HL := Lib.hid hL
  clear hmap k1 k2 hb3' hL
  go_upto_region 2 with fail
  have k1 : (w3.setCell ⟨w.heap.size, 9, none⟩ (.slice (some ⟨g1, 0, none⟩) n (n + 12))).heap[w.heap.size]? = some (.cells #[.int .u8 kd, .int .i64 fr, .int .i64 tt, .int .i64 tm, .int .i64 ix, .int .i64 ws, .bool ob, .int .i64 cm, .int .i64 rn, .slice (some ⟨g1, 0, none⟩) n (n + 12), .slice vo m vc, .slice io q ic] 27 (0, 0)) := blk_to K1.out _ rfl
  have ho := Only.set w.heap.size w3 9 (.slice (some ⟨g1, 0, none⟩) n (n + 12))
  have k2 := (ho.2 (w.heap.size + 1) (by omega) (by omega)).trans K2.out
  have hb4 := HB3.out.trans (ho.toBelow HB3.out.size (Nat.le_refl _))
  have hL4 := HL.out.blocks (fun g h1 h2 => ho.2 g h2 (by omega))
  have hs4 := ho.1
  generalize w3.setCell ⟨w.heap.size, 9, none⟩ (.slice (some ⟨g1, 0, none⟩) n (n + 12)) = w4 at k1 k2 ho hb4 hL4 hs4 ⊢
  clear c9 f9 K1 K2 HB3 HL
  have c10 : w4.cell? ⟨w.heap.size, 10, none⟩ = some (.slice vo m vc) := Go.Joins.cell_of_block k1 10
  have hx4 := ltSub_mono (ltSub_below HX.out hb4 (Nat.le_refl _)) hb4.size
  have hcall := lentI_any vo m vc vs w4 HM.out hx4.2.1 HF.out.vnil (by omega)
  have HCALL := Lib.hid hcall
  have K1 := Lib.hid k1
  have K2 := Lib.hid k2
  have HB4 := Lib.hid hb4
  have HL4 := Lib.hid hL4
  clear hcall hx4 k1 k2 hb4 hL4 ho
  go_wp2_with fail
  refine HCALL.out.mono ?_
  rintro e w5 ⟨g2, rfl, hg2, _, hV, hb5⟩
  have hs5 := hb5.size
  have k1 := (hb5.block w.heap.size (by omega)).trans K1.out
  have k2 := (hb5.block (w.heap.size + 1) (by omega)).trans K2.out
  have hb5' := HB4.out.trans (hb5.mono HB4.out.size)
  have hL5 := HL4.out.below hb5 (Nat.le_refl _)
  clear c10 HCALL hb5 K1 K2 HB4 HL4
  have f10 : w5.frozen? ⟨w.heap.size, 10, none⟩ = false := Go.Joins.unfrozen_of_block k1 10
  have c10 : w5.cell? ⟨w.heap.size, 10, none⟩ = some (.slice vo m vc) := Go.Joins.cell_of_block k1 10
  have K1 := Lib.hid k1
  have K2 := Lib.hid k2
  have HB5 := Lib.hid hb5'
  have HL := Lib.hid hL5
  have HV := Lib.hid hV
  clear k1 k2 hb5' hL5 hV
  go_upto_region 3 with fail
  have k1 : (w5.setCell ⟨w.heap.size, 10, none⟩ (.slice (some ⟨g2, 0, none⟩) m (m + 12))).heap[w.heap.size]? = some (.cells #[.int .u8 kd, .int .i64 fr, .int .i64 tt, .int .i64 tm, .int .i64 ix, .int .i64 ws, .bool ob, .int .i64 cm, .int .i64 rn, .slice (some ⟨g1, 0, none⟩) n (n + 12), .slice (some ⟨g2, 0, none⟩) m (m + 12), .slice io q ic] 27 (0, 0)) := blk_to K1.out _ rfl
  have ho := Only.set w.heap.size w5 10 (.slice (some ⟨g2, 0, none⟩) m (m + 12))
  have k2 := (ho.2 (w.heap.size + 1) (by omega) (by omega)).trans K2.out
  have hb6 := HB5.out.trans (ho.toBelow HB5.out.size (Nat.le_refl _))
  have hL6 := HL.out.blocks (fun g h1 h2 => ho.2 g h2 (by omega))
  have hV6 := LentI.blocks HV.out (fun g h1 h2 => ho.2 g h2 (by omega))
  have hs6 := ho.1
  generalize w5.setCell ⟨w.heap.size, 10, none⟩ (.slice (some ⟨g2, 0, none⟩) m (m + 12)) = w6 at k1 k2 ho hb6 hL6 hV6 hs6 ⊢
  clear c10 f10 K1 K2 HB5 HL HV
  have c11 : w6.cell? ⟨w.heap.size, 11, none⟩ = some (.slice io q ic) := Go.Joins.cell_of_block k1 11
  have hx6 := ltSub_mono (ltSub_below HX.out hb6 (Nat.le_refl _)) hb6.size
  have hcall := lentB_any io ic im w6 hx6.2.2 HF.out.inil (by rw [HQ.out]; omega)
  rw [HQ.out] at hcall
  have HCALL := Lib.hid hcall
  have K1 := Lib.hid k1
  have K2 := Lib.hid k2
  have HB6 := Lib.hid hb6
  have HL6 := Lib.hid hL6
  have HV6 := Lib.hid hV6
  clear hcall hx6 k1 k2 hb6 hL6 hV6 ho
  go_wp2_with fail
  refine HCALL.out.mono ?_
  rintro e w7 ⟨g3, rfl, hg3a, _, hI, hb7⟩
  rw [HQ.out]
  have hs7 := hb7.size
  have k1 := (hb7.block w.heap.size (by omega)).trans K1.out
  have k2 := (hb7.block (w.heap.size + 1) (by omega)).trans K2.out
  have hb7' := HB6.out.trans (hb7.mono HB6.out.size)
  have hL7 := HL6.out.below hb7 (Nat.le_refl _)
  have hV7 := HV6.out.below hb7 (Nat.le_refl _)
  clear c11 HCALL hb7 K1 K2 HB6 HL6 HV6
  have f11 : w7.frozen? ⟨w.heap.size, 11, none⟩ = false := Go.Joins.unfrozen_of_block k1 11
  have c11 : w7.cell? ⟨w.heap.size, 11, none⟩ = some (.slice io q ic) := Go.Joins.cell_of_block k1 11
  have K1 := Lib.hid k1
  have K2 := Lib.hid k2
  have HB7 := Lib.hid hb7'
  have HL := Lib.hid hL7
  have HV := Lib.hid hV7
  have HI := Lib.hid hI
  clear k1 k2 hb7' hL7 hV7 hI
  go_upto_region 4 with fail
  have k1 : (w7.setCell ⟨w.heap.size, 11, none⟩ (.slice (some ⟨g3, 0, none⟩) q (q + 12))).heap[w.heap.size]? = some (.cells #[.int .u8 kd, .int .i64 fr, .int .i64 tt, .int .i64 tm, .int .i64 ix, .int .i64 ws, .bool ob, .int .i64 cm, .int .i64 rn, .slice (some ⟨g1, 0, none⟩) n (n + 12), .slice (some ⟨g2, 0, none⟩) m (m + 12), .slice (some ⟨g3, 0, none⟩) q (q + 12)] 27 (0, 0)) := blk_to K1.out _ rfl
  have ho := Only.set w.heap.size w7 11 (.slice (some ⟨g3, 0, none⟩) q (q + 12))
  have k2 := (ho.2 (w.heap.size + 1) (by omega) (by omega)).trans K2.out
  have hb8 := HB7.out.trans (ho.toBelow HB7.out.size (Nat.le_refl _))
  have hL8 := HL.out.blocks (fun g h1 h2 => ho.2 g h2 (by omega))
  have hV8 := LentI.blocks HV.out (fun g h1 h2 => ho.2 g h2 (by omega))
  have hI8 := own_blocks' HI.out (fun g h1 h2 => ho.2 g h2 (by omega))
  have hs8 := ho.1
  generalize w7.setCell ⟨w.heap.size, 11, none⟩ (.slice (some ⟨g3, 0, none⟩) q (q + 12)) = w8 at k1 k2 ho hb8 hL8 hV8 hI8 hs8 ⊢
  clear c11 f11 K1 K2 HB7 HL HV HI ho
  obtain ⟨x, hxd⟩ : ∃ x : Lt, x = ⟨kd, fr, tt, tm, ix, ws, ob, cm, rn, some ⟨g1, 0, none⟩, frs, n + 12, some ⟨g2, 0, none⟩, vs, m + 12, some ⟨g3, 0, none⟩, im, q + 12⟩ := ⟨_, rfl⟩
  have hfn : frs.length = n := by have := congrArg List.length HMAP.out; simpa [HN.out] using this
  have hxa : #[.int .u8 kd, .int .i64 fr, .int .i64 tt, .int .i64 tm, .int .i64 ix, .int .i64 ws, .bool ob, .int .i64 cm, .int .i64 rn, .slice (some ⟨g1, 0, none⟩) n (n + 12), .slice (some ⟨g2, 0, none⟩) m (m + 12), .slice (some ⟨g3, 0, none⟩) q (q + 12)] = ltArr x := by rw [hxd]; unfold ltArr; dsimp only; rw [hfn, HM.out, HQ.out]
  rw [hxa] at k1
  have hrg := rng_block k1
  have ho2 := only_setRow (w.heap.size + 1) w8 (ltArr x)
  have hkx : (w8.setRow (w.heap.size + 1) (ltArr x)).heap[w.heap.size + 1]? = some (.cells (ltArr x) 27 (0, 0)) := setRow_heap w8 (w.heap.size + 1) _ (ltArr x) _ _ k2
  have hfin : x.plain = (⟨kd, fr, tt, tm, ix, ws, ob, cm, rn, eo, es, ec, vo, vs, vc, io, im, ic⟩ : Lt).plain ∧ LtLent (w8.setRow (w.heap.size + 1) (ltArr x)) w.heap.size x ∧ Below w.heap.size w (w8.setRow (w.heap.size + 1) (ltArr x)) := by
    refine ⟨?_, ⟨⟨g1, ?_, ?_, ?_⟩, ⟨g2, ?_, ?_, ?_⟩, ⟨g3, ?_, ?_, ?_⟩⟩, hb8.trans (ho2.toBelow hb8.size (by omega))⟩
    · rw [hxd]; unfold Lt.plain; dsimp only; rw [HMAP.out]
    · rw [hxd]
    · rw [hxd]; dsimp only; rw [hfn]
    · rw [hxd]; dsimp only; rw [hfn]; exact (hL8.blocks (fun g h1 h2 => (only_setRow (w.heap.size + 1) w8 _).2 g h2 (by omega))).le (by omega)
    · rw [hxd]
    · rw [hxd]; dsimp only; rw [HM.out]
    · rw [hxd]; exact (LentI.blocks hV8 (fun g h1 h2 => (only_setRow (w.heap.size + 1) w8 _).2 g h2 (by omega))).le (by omega)
    · rw [hxd]
    · rw [hxd]; dsimp only; rw [HQ.out]
    · rw [hxd]; exact Go.Joins.ownsRow_le (own_blocks' hI8 (fun g h1 h2 => (only_setRow (w.heap.size + 1) w8 _).2 g h2 (by omega))) (by omega)
  have HFIN := Lib.hid hfin
  have HKX := Lib.hid hkx
  clear hfin hkx hxa hxd hfn k1 hL8 hV8 hI8 hb8 ho2 HMAP
  go_wp2_with (first | (refine wpList_load_mid rfl 27 (.tmp 1) rfl w.heap.size 0 rfl (ltArr x).toList _ hrg Tryz.underlying27 rfl (info_lt3 x) ?_) | (refine wpList_store_row rfl 27 (.tmp 2) (.tmp 15) rfl (w.heap.size + 1) (ltArr x) rfl (by first | rfl | simp) 27 _ k2 (info_lt2 x) rfl (ltArr_one x) ?_))
  exact bodyPost_ret (results_cell_row rfl _ _ (w.heap.size + 1) 27 (ltArr x) _ _ rfl HKX.out Tryz.underlying27 rfl (info_lt2 x)) rfl ⟨x, rfl, HFIN.out⟩
theorem keptLt_at (kd fr tt tm ix ws : Int) (ob : Bool) (cm rn : Int) (g1 g2 g3 n m q : Nat) (eo vo io : Option Addr) (ec vc ic : Nat) (frs es : List En) (vs im : List Int) (w : World) (B : Nat)
    (hn : es.length = n) (hm : vs.length = m) (hq : im.length = q) (hmap : frs.map En.plain = es.map En.plain) (hL : EnsLent w B g1 n frs) (hV : LentI w B g2 vs) (hI : LentB w B g3 im)
    (hx : EnsIn w w.heap.size eo es) (hy : NumsIn w w.heap.size vo vs) (hz : BytesIn w w.heap.size io im) (hd : ∀ f ∈ es, f.args.length ≤ 1099511627776 ∧ f.vs.length ≤ 1099511627776) (l1 : n ≤ 1099511627776) (l2 : m ≤ 1099511627776) (l3 : q ≤ 1099511627776) :
    Calls Tryz.prog 12 #[.agg #[.int .u8 kd, .int .i64 fr, .int .i64 tt, .int .i64 tm, .int .i64 ix, .int .i64 ws, .bool ob, .int .i64 cm, .int .i64 rn, .slice (some ⟨g1, 0, none⟩) n (n + 12), .slice (some ⟨g2, 0, none⟩) m (m + 12), .slice (some ⟨g3, 0, none⟩) q (q + 12)], .agg #[.int .u8 kd, .int .i64 fr, .int .i64 tt, .int .i64 tm, .int .i64 ix, .int .i64 ws, .bool ob, .int .i64 cm, .int .i64 rn, .slice eo n ec, .slice vo m vc, .slice io q ic]] w fun e w' => e = .returned (.bool true) ∧ Below w.heap.size w w' := by
  have hfn : frs.length = n := by have := congrArg List.length hmap; simpa [hn] using this
  obtain ⟨hb2, h1, h2, hz2⟩ := alloc2_facts w #[.int .u8 kd, .int .i64 fr, .int .i64 tt, .int .i64 tm, .int .i64 ix, .int .i64 ws, .bool ob, .int .i64 cm, .int .i64 rn, .slice (some ⟨g1, 0, none⟩) n (n + 12), .slice (some ⟨g2, 0, none⟩) m (m + 12), .slice (some ⟨g3, 0, none⟩) q (q + 12)] #[.int .u8 kd, .int .i64 fr, .int .i64 tt, .int .i64 tm, .int .i64 ix, .int .i64 ws, .bool ob, .int .i64 cm, .int .i64 rn, .slice eo n ec, .slice vo m vc, .slice io q ic] 27 27
  have HS := Lib.hid (show ∀ w', Below w.heap.size w w' → Calls Tryz.prog 22 #[.agg #[.int .u8 kd, .int .i64 fr, .int .i64 tt, .int .i64 tm, .int .i64 ix, .int .i64 ws, .bool ob, .int .i64 cm, .int .i64 rn, .slice (some ⟨g1, 0, none⟩) n (n + 12), .slice (some ⟨g2, 0, none⟩) m (m + 12), .slice (some ⟨g3, 0, none⟩) q (q + 12)], .agg #[.int .u8 kd, .int .i64 fr, .int .i64 tt, .int .i64 tm, .int .i64 ix, .int .i64 ws, .bool ob, .int .i64 cm, .int .i64 rn, .slice eo n ec, .slice vo m vc, .slice io q ic]] w' fun e w'' => e = .returned (.bool true) ∧ Below w'.heap.size w' w'' from fun w' hb => by
    have h := sameL_any ⟨kd, fr, tt, tm, ix, ws, ob, cm, rn, some ⟨g1, 0, none⟩, frs, n + 12, some ⟨g2, 0, none⟩, vs, m + 12, some ⟨g3, 0, none⟩, im, q + 12⟩ ⟨kd, fr, tt, tm, ix, ws, ob, cm, rn, eo, es, ec, vo, vs, vc, io, im, ic⟩ w' w.heap.size (by unfold Lt.plain; dsimp only; rw [hmap])
      (ltSub_below ⟨hL.rows hfn, RowsIn.mono noSub_rising hV.rows hV.lt.2, lentB_rows hI⟩ hb (Nat.le_refl _)) (ltSub_below ⟨hx, hy, hz⟩ hb (Nat.le_refl _)) hb.size (by dsimp only; omega) (by dsimp only; omega) (by dsimp only; omega) (by
        intro e he
        obtain ⟨f, hf, hpl⟩ := plain_of hmap he
        have h1 := hd f hf
        have e1 := congrArg (fun p => p.args.length) hpl
        have e2 := congrArg (fun p => p.vs.length) hpl
        dsimp only [En.plain] at e1 e2
        exact ⟨by omega, by omega⟩)
    unfold ltVal at h
    dsimp only at h
    rw [hfn, hn, hm, hq] at h
    exact h)
  have HK := Lib.hid (show ∀ w', Below w.heap.size w w' → Calls Tryz.prog 40 #[.slice (some ⟨g1, 0, none⟩) n (n + 12), .slice eo n ec] w' fun e w'' => e = .returned (.bool true) ∧ Below w'.heap.size w' w'' from fun w' hb => by
    have h := keptEs_any eo ec g1 B es frs w' ((hx.below enSub_kept hb (Nat.le_refl _)).mono enSub_rising hb.size) (by rw [hn]; exact hL.below hb (Nat.le_refl _)) hmap hd (by omega)
    rw [hn] at h
    exact h)
  have HKI := Lib.hid (show ∀ w', Below w.heap.size w w' → Calls Tryz.prog 41 #[.slice (some ⟨g2, 0, none⟩) m (m + 12), .slice vo m vc] w' fun e w'' => e = .returned (.bool true) ∧ Below w'.heap.size w' w'' from fun w' hb => by
    have h := keptI_any vo m vc g2 B vs w' hm ((hy.below noSub_kept hb (Nat.le_refl _)).mono noSub_rising hb.size) (hV.below hb (Nat.le_refl _)) (by omega)
    exact h)
  have HKB := Lib.hid (show ∀ w', Below w.heap.size w w' → Calls Tryz.prog 19 #[.slice (some ⟨g3, 0, none⟩) q (q + 12), .slice io q ic] w' fun e w'' => e = .returned (.bool true) ∧ Below w'.heap.size w' w'' from fun w' hb => by
    have h := keptB_any io ic g3 B im w' ((hz.below hb (Nat.le_refl _)).mono hb.size) (own_below hI hb (Nat.le_refl _)) (by omega)
    rw [hq] at h
    exact h)
  clear hx hy hz hd hn hm hq hmap hL hV hI hfn
  have HB2 := Lib.hid hb2
  have H1 := Lib.hid h1
  have H2 := Lib.hid h2
  have HZ := Lib.hid (Nat.le_of_eq hz2.symm)
  clear hb2 h1 h2 hz2
  go_enter Tryz.func12, Tryz.ntmps12
  go_upto_region 1 with fail
  have hb2 := HB2.out
  have h1 := H1.out
  have h2 := H2.out
  have hz2 := HZ.out
  clear HB2 H1 H2 HZ
  generalize (w.alloc (.cells #[.int .u8 kd, .int .i64 fr, .int .i64 tt, .int .i64 tm, .int .i64 ix, .int .i64 ws, .bool ob, .int .i64 cm, .int .i64 rn, .slice (some ⟨g1, 0, none⟩) n (n + 12), .slice (some ⟨g2, 0, none⟩) m (m + 12), .slice (some ⟨g3, 0, none⟩) q (q + 12)] 27)).alloc (.cells #[.int .u8 kd, .int .i64 fr, .int .i64 tt, .int .i64 tm, .int .i64 ix, .int .i64 ws, .bool ob, .int .i64 cm, .int .i64 rn, .slice eo n ec, .slice vo m vc, .slice io q ic] 27) = w2 at hb2 h1 h2 hz2 ⊢
  have HB2 := Lib.hid hb2
  have H1 := Lib.hid h1
  have H2 := Lib.hid h2
  have hr1 := rng_block h1
  have hr2 := rng_block h2
  have hs2 := hb2.size
  clear hb2 h1 h2
  go_wp2_with (first | (refine wpList_load_mid rfl 27 (.tmp 2) rfl w.heap.size 0 rfl _ _ hr1 Tryz.underlying27 rfl info_lt ?_) | (refine wpList_load_mid rfl 27 (.tmp 3) rfl (w.heap.size + 1) 0 rfl _ _ hr2 Tryz.underlying27 rfl info_lt ?_))
  refine (HS.out w2 HB2.out).mono ?_
  rintro e w3 ⟨rfl, b3⟩
  have hs3 := b3.size
  have k1 := (b3.block w.heap.size (by omega)).trans H1.out
  have k2 := (b3.block (w.heap.size + 1) (by omega)).trans H2.out
  have HB3 := Lib.hid (HB2.out.trans (b3.mono hs2))
  have K1 := Lib.hid k1
  have K2 := Lib.hid k2
  have c9 : w3.cell? ⟨w.heap.size, 9, none⟩ = some (.slice (some ⟨g1, 0, none⟩) n (n + 12)) := Go.Joins.cell_of_block k1 9
  have d9 : w3.cell? ⟨w.heap.size + 1, 9, none⟩ = some (.slice eo n ec) := Go.Joins.cell_of_block k2 9
  clear hr1 hr2 b3 k1 k2 H1 H2 HB2
  go_wp2_with fail
  refine (HK.out w3 HB3.out).mono ?_
  rintro e w4 ⟨rfl, b4⟩
  have hs4 := b4.size
  have k1 := (b4.block w.heap.size (by omega)).trans K1.out
  have k2 := (b4.block (w.heap.size + 1) (by omega)).trans K2.out
  have HB4 := Lib.hid (HB3.out.trans (b4.mono (by omega)))
  clear c9 d9 b4 K1 K2 HB3
  have c10 : w4.cell? ⟨w.heap.size, 10, none⟩ = some (.slice (some ⟨g2, 0, none⟩) m (m + 12)) := Go.Joins.cell_of_block k1 10
  have d10 : w4.cell? ⟨w.heap.size + 1, 10, none⟩ = some (.slice vo m vc) := Go.Joins.cell_of_block k2 10
  have K1 := Lib.hid k1
  have K2 := Lib.hid k2
  clear k1 k2
  go_wp2_with fail
  refine (HKI.out w4 HB4.out).mono ?_
  rintro e w5 ⟨rfl, b5⟩
  have hs5 := b5.size
  have k1 := (b5.block w.heap.size (by omega)).trans K1.out
  have k2 := (b5.block (w.heap.size + 1) (by omega)).trans K2.out
  have HB5 := Lib.hid (HB4.out.trans (b5.mono (by omega)))
  clear c10 d10 b5 K1 K2 HB4
  have c11 : w5.cell? ⟨w.heap.size, 11, none⟩ = some (.slice (some ⟨g3, 0, none⟩) q (q + 12)) := Go.Joins.cell_of_block k1 11
  have d11 : w5.cell? ⟨w.heap.size + 1, 11, none⟩ = some (.slice io q ic) := Go.Joins.cell_of_block k2 11
  clear k1 k2
  go_wp2_with fail
  refine (HKB.out w5 HB5.out).mono ?_
  rintro e w6 ⟨rfl, b6⟩
  clear c11 d11
  go_wp2_with fail
  go_ret
  exact ⟨rfl, HB5.out.trans (b6.mono HB5.out.size)⟩
theorem keptLt_any (x l : Lt) (w : World) (B : Nat) (hp : x.plain = l.plain) (hL : LtLent w B x) (hx : ltSub w w.heap.size l) (hf : LtFine l) :
    Calls Tryz.prog 12 #[ltVal x, ltVal l] w fun e w' => e = .returned (.bool true) ∧ Below w.heap.size w w' := by
  obtain ⟨⟨g, h1, h2, h3⟩, ⟨g', h1', h2', h3'⟩, ⟨g'', h1'', h2'', h3''⟩⟩ := hL
  have hd := hf.es
  have l1 := hf.en
  have l2 := hf.vn
  have l3 := hf.ln
  obtain ⟨kd, fr, tt, tm, ix, ws, ob, cm, rn, ea, es, ec, va, vs, vc, ia, im, ic⟩ := x
  obtain ⟨kd2, fr2, tt2, tm2, ix2, ws2, ob2, cm2, rn2, ea2, es2, ec2, va2, vs2, vc2, ia2, im2, ic2⟩ := l
  simp only [Lt.plain, LtP.mk.injEq] at hp
  obtain ⟨rfl, rfl, rfl, rfl, rfl, rfl, rfl, rfl, rfl, hes, rfl, rfl⟩ := hp
  have hn : es.length = es2.length := by have := congrArg List.length hes; simpa using this
  dsimp only at h1 h2 h3 h1' h2' h3' h1'' h2'' h3'' hd l1 l2 l3
  subst h1 h2 h1' h2' h1'' h2''
  unfold ltVal
  dsimp only
  rw [hn] at h3 ⊢
  exact keptLt_at _ _ _ _ _ _ _ _ _ g g' g'' _ _ _ ea2 va2 ia2 ec2 vc2 ic2 es es2 vs im w B rfl rfl rfl hes h3 h3' h3'' hx.1 hx.2.1 hx.2.2 (fun f hf2 => ⟨Nat.le_trans (hd f hf2).args (by decide), Nat.le_trans (hd f hf2).vn (by decide)⟩) (by omega) (by omega) (by omega)
/-- A letter whose lists may be written over. -/
structure LtRoom (w : World) (B T : Nat) (l : Lt) : Prop where
  er : ∃ g, l.eo = some ⟨g, 0, none⟩
  sub : EnsIn w T l.eo l.es
  ents : ∀ f ∈ l.es, EnRoom w B T f
  es : Room w B T 55 9 l.eo l.es.length l.ecap
  vs : Room w B T 3 1 l.vo l.vs.length l.vcap
  im : Room w B T 5 1 l.io l.im.length l.icap
theorem LtLent.room {w w' : World} {B : Nat} {l : Lt} (h : LtLent w B l) (hb : Below w.heap.size w w') : LtRoom w' B w.heap.size l := by
  obtain ⟨⟨g, h1, h2, h3⟩, ⟨g', h1', h2', h3'⟩, ⟨g'', h1'', h2'', h3''⟩⟩ := h
  refine ⟨⟨g, h1⟩, ?_, fun f hf => (h3.lent f hf).room.below hb, ?_, ?_, ?_⟩
  · rw [h1]; exact (h3.rows rfl).below enSub_kept hb (Nat.le_refl _)
  · rw [h1, h2]; exact h3.room.below hb
  · rw [h1', h2']; exact Room.below ⟨g', rfl, h3'.lt.1, h3'.lt.2, rfl, Blk.of_own h3'⟩ hb
  · rw [h1'', h2'']; exact Room.below ⟨g'', rfl, (World.ownsRow.lt h3'' g'' rfl).1, (World.ownsRow.lt h3'' g'' rfl).2, rfl, Blk.of_own h3''⟩ hb
def overLtTs : List TypeId := [58, 3, 55, 5]
set_option maxHeartbeats 4000000 in
theorem overLt_any (l : Lt) (w : World) (B T : Nat) (h : LtRoom w B T l) (hf : LtFine l) (hB : B ≤ w.heap.size) (hT : T ≤ w.heap.size) :
    Calls Tryz.prog 13 #[ltVal l] w fun e w' => e = .returned (.tuple #[]) ∧ OverK B T overLtTs w w' := by
  obtain ⟨⟨g, hg⟩, r1, r2, r3, r4, r5⟩ := h
  have hd := hf.es
  have l1 := hf.en
  have l2 := hf.vn
  have l3 := hf.ln
  obtain ⟨kd, fr, tt, tm, ix, ws, ob, cm, rn, eo, es, ec, vo, vs, vc, io, im, ic⟩ := l
  dsimp only at hg r1 r2 r3 r4 r5 hd l1 l2 l3
  subst hg
  obtain ⟨n, hn⟩ : ∃ n, es.length = n := ⟨_, rfl⟩
  obtain ⟨m, hm⟩ : ∃ m, vs.length = m := ⟨_, rfl⟩
  obtain ⟨q, hq⟩ : ∃ q, im.length = q := ⟨_, rfl⟩
  unfold ltVal
  dsimp only
  rw [hn] at r3 l1 ⊢
  rw [hm] at r4 l2 ⊢
  rw [hq] at r5 l3 ⊢
  have hb1 := (Below.refl w.heap.size w).alloc (Nat.le_refl _) (.cells #[.int .u8 kd, .int .i64 fr, .int .i64 tt, .int .i64 tm, .int .i64 ix, .int .i64 ws, .bool ob, .int .i64 cm, .int .i64 rn, .slice (some ⟨g, 0, none⟩) n ec, .slice vo m vc, .slice io q ic] 27)
  have hk1 := heap_alloc_new w (.cells #[.int .u8 kd, .int .i64 fr, .int .i64 tt, .int .i64 tm, .int .i64 ix, .int .i64 ws, .bool ob, .int .i64 cm, .int .i64 rn, .slice (some ⟨g, 0, none⟩) n ec, .slice vo m vc, .slice io q ic] 27)
  have HB1 := Lib.hid hb1
  have HK1 := Lib.hid hk1
  have HSZ := Lib.hid hb1.size
  have HC := Lib.hid (overEs_any B T g n ec es _ hn ((r1.below enSub_kept hb1 hT).mono enSub_rising (Nat.le_trans hT hb1.size)) (fun f hf2 => (r2 f hf2).below hb1) (r3.below hb1) (fun f hf2 => ⟨Nat.le_trans (hd f hf2).args (by decide), Nat.le_trans (hd f hf2).vn (by decide)⟩) (by omega) (Nat.le_trans hT hb1.size))
  have R4 := Lib.hid (r4.below hb1)
  have R5 := Lib.hid (r5.below hb1)
  clear hb1 hk1 r1 r2 r3 r4 r5 hd hn hm hq hf
  go_enter Tryz.func13, Tryz.ntmps13
  go_wp2_with fail
  have hc := HC.out
  have hk1 := HK1.out
  have hb1 := HB1.out
  have hs1 := HSZ.out
  have r4 := R4.out
  have r5 := R5.out
  generalize w.alloc (.cells #[.int .u8 kd, .int .i64 fr, .int .i64 tt, .int .i64 tm, .int .i64 ix, .int .i64 ws, .bool ob, .int .i64 cm, .int .i64 rn, .slice (some ⟨g, 0, none⟩) n ec, .slice vo m vc, .slice io q ic] 27) = w1 at hc hk1 hb1 hs1 r4 r5 ⊢
  have HK1 := Lib.hid hk1
  have HB1 := Lib.hid hb1
  have R4 := Lib.hid r4
  have R5 := Lib.hid r5
  clear hk1 hb1 r4 r5 HC HSZ
  refine hc.mono ?_
  rintro e w2 ⟨rfl, ho⟩
  have hk2 : w2.heap[w.heap.size]? = some (.cells #[.int .u8 kd, .int .i64 fr, .int .i64 tt, .int .i64 tm, .int .i64 ix, .int .i64 ws, .bool ob, .int .i64 cm, .int .i64 rn, .slice (some ⟨g, 0, none⟩) n ec, .slice vo m vc, .slice io q ic] 27 (0, 0)) := (ho.mid.far _ hT (by have := (Array.getElem?_eq_some_iff.1 HK1.out).1; omega)).trans HK1.out
  have c10 : w2.cell? ⟨w.heap.size, 10, none⟩ = some (.slice vo m vc) := Go.Joins.cell_of_block hk2 10
  have HK2 := Lib.hid hk2
  have HR4 := Lib.hid (R4.out.over ho)
  have HR5 := Lib.hid (R5.out.over ho)
  have HO := Lib.hid (((OverK.refl B T overLtTs w).then_below HB1.out hB).trans ho (by decide))
  have hs2 := ho.size
  clear hc hk2 ho
  go_wp2_with fail
  refine (overI_room B T vo m vc w2 HR4.out (by omega)).mono ?_
  rintro e w3 ⟨rfl, ho⟩
  have hk3 := (ho.mid.far _ hT (by have := (Array.getElem?_eq_some_iff.1 HK2.out).1; omega)).trans HK2.out
  have c11 : w3.cell? ⟨w.heap.size, 11, none⟩ = some (.slice io q ic) := Go.Joins.cell_of_block hk3 11
  have HR6 := Lib.hid (HR5.out.over ho)
  have HO2 := Lib.hid (HO.out.trans ho (by decide))
  clear hk3 ho c10
  go_wp2_with fail
  refine (overB_room B T io q ic w3 HR6.out (by omega)).mono ?_
  rintro e w4 ⟨rfl, ho⟩
  clear c11
  go_wp2_with fail
  go_end0
  exact ⟨rfl, HO2.out.trans ho (by decide)⟩
end Go.Proofs.YtglgcjkglhlggaaGreatDoor
