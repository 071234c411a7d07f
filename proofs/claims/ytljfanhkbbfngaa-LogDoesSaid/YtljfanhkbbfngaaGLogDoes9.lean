/- The document's log: Voters, New; the log's New of numbers out of range. Conditions: as each says. -/
import Derived.Test.YtljfanhkbbfngaaGLogDoes8
import Derived.Test.YtljfanhkbbfngaaGLogDoes0
set_option linter.unusedVariables false
set_option linter.unusedSimpArgs false
namespace Go.Proofs.Ytljfanhkbbfngaa
open Go.RowKit
set_option maxRecDepth 20000
set_option maxHeartbeats 4000000 in
theorem rvoters_any (B rb : Nat) (base term : Int) (v : Value) (es : List En) (fo : Option Addr) (fn fcap : Nat) (first : List Int) (w : World) (hL : RfAt w B rb base term v es) (hfn : first.length = fn) (hf : NumsIn w w.heap.size fo first) (hfnil : fo = none → fcap = 0) (hq : ∀ e ∈ es, e.vs.length ≤ 1000000) (hl : es.length ≤ 1000000) (hfl : fn ≤ 1000000) :
    Calls Try.prog 42 #[.pointer (some ⟨rb, 0, none⟩), .slice fo fn fcap] w (IntsE (votS first (es.map En.plain)) w) := by
  obtain ⟨a, c, hv⟩ := hL.form
  subst hv
  obtain ⟨n, hn⟩ : ∃ n, es.length = n := ⟨_, rfl⟩
  have c2 : w.cell? ⟨rb, 2, none⟩ = some (.slice a n c) := by rw [← hn]; exact hL.c2
  rw [hn] at hl
  have HL := Lib.hid hL
  have HN := Lib.hid hn
  have HQ := Lib.hid hq
  have HF := Lib.hid (show NumsIn w w.heap.size fo first ∧ first.length = fn ∧ (fo = none → fcap = 0) ∧ fn ≤ 1000000 from ⟨hf, hfn, hfnil, hfl⟩)
  clear hL hn hq hf hfn hfnil hfl
  go_enter Try.func42, Try.ntmps42
  go_wp2_with fail
  go_loopw [5, 6] (fun u i wr => ∃ (k : Nat) (oa : Option Addr) (on oc : Nat), k ≤ n ∧ i = .int .i64 k ∧ u = .slice oa on oc ∧ (NumsIn w w.heap.size oa (votS first ((es.map En.plain).take k)) ∧ (votS first ((es.map En.plain).take k)).length = on ∧ (oa = none → oc = 0) ∧ on ≤ 1000000) ∧ wr = w) (fun _ i _ => n - (intOf i).toNat)
  case atStart => exact ⟨0, fo, fn, fcap, by omega, rfl, rfl, HF.out, rfl⟩
  case round =>
    obtain ⟨k, oa, on, oc, hk, rfl, rfl, hv, rfl⟩ := hrel
    have HV := Lib.hid hv
    clear hv
    by_cases hkn : k < n
    · have i1 : (k : Int) < n := by omega
      have hkl : k < es.length := by rw [HN.out]; exact hkn
      obtain ⟨g, c', hg⟩ := Go.Joins.ownsRow_form (show wr.ownsRow B 59 9 (.slice a n c) n (es.flatMap enCells) by have := HL.out.row; rw [HN.out] at this; exact this) (by omega)
      injection hg with hg1 hg2 hg3
      subst hg1
      clear hg2 hg3
      have hrow := HL.out.row
      have hcell : ∀ j, j < 9 → wr.cell? ⟨g, k * 9 + j, none⟩ = (enCells es[k])[j]? := fun j hj => by
        have h := World.ownsRow.cellAt hrow (k * 9 + j) (by omega)
        exact h.trans (flat_get enCells_len es k _ (List.getElem?_eq_getElem hkl) j hj)
      have hsub := (HL.out.sub _ (List.getElem_mem hkl)).2
      have hnil := (HL.out.nils _ (List.getElem_mem hkl)).2
      have hvl := HQ.out _ (List.getElem_mem hkl)
      have htk : votS first ((es.map En.plain).take (k + 1)) = if (es[k]).kind = 3 then (es[k]).vs else votS first ((es.map En.plain).take k) := by
        rw [votS_take first (show k < (es.map En.plain).length by rw [List.length_map]; exact hkl), List.getElem_map]; rfl
      generalize es[k] = x at hcell hsub hnil hvl htk
      obtain ⟨x0, kd, x2, x3, ck, text, ao, args, ac, num, vo, vs, vc⟩ := x
      dsimp only at hsub hnil hvl htk
      have d1 : wr.cell? ⟨g, k * 9 + 1, none⟩ = some (.int .u8 kd) := hcell 1 (by decide)
      have d8 : wr.cell? ⟨g, k * 9 + 8, none⟩ = some (.slice vo vs.length vc) := hcell 8 (by decide)
      have HT := Lib.hid htk
      have HS := Lib.hid (And.intro hsub (And.intro hnil hvl))
      clear hcell hsub hnil hvl htk hrow
      by_cases hk3 : kd = 3
      · subst hk3
        go_wp2_with fail
        go_roundw
        case rel =>
          have ht := HT.out
          rw [if_pos rfl] at ht
          exact ⟨k + 1, vo, vs.length, vc, by omega, by go_num, rfl, by rw [ht]; exact ⟨HS.out.1, rfl, HS.out.2⟩, by trivial⟩
        case measure => simp [intOf]; omega
      · have dk : decide (kd = 3) = false := by simpa using hk3
        have db : (kd == 3) = false := by simpa using hk3
        go_wp2_with fail
        go_roundw
        case rel =>
          have ht := HT.out
          rw [if_neg hk3] at ht
          exact ⟨k + 1, oa, on, oc, by omega, by go_num, rfl, by rw [ht]; exact HV.out, by trivial⟩
        case measure => simp [intOf]; omega
    · obtain rfl : k = n := by omega
      have hall : (es.map En.plain).take k = es.map En.plain := List.take_of_length_le (by rw [List.length_map, HN.out]; exact Nat.le_refl _)
      rw [hall] at HV
      clear hall
      obtain ⟨hv1, hv2, hv3, hv4⟩ := HV.out
      have HV1 := Lib.hid (hv1.below noSub_kept ((Below.refl wr.heap.size wr).alloc (Nat.le_refl _) (.cells #[] 3)) (Nat.le_refl _))
      have HV2 := Lib.hid hv2
      have HV3 := Lib.hid hv3
      clear hv1 hv2 hv3
      go_wp2_with (at_builtin; refine wpList_append_rows (sub := noSub) Try.underlying24 infoI rfl (by decide) iCells_len iCells_one rfl (.tmp 34) (.tmp 35) rfl wr.heap.size (.slice (some ⟨wr.heap.size, 0, none⟩) 0 0) 0 [] rfl (World.ownsRow_lit wr #[] 0 (Nat.le_refl _) (by unfold maxLen; omega) rfl) oa on oc _ HV2.out rfl wr.heap.size HV1.out HV3.out (by unfold maxLen; omega) (by omega) (by simp) ?_)
      intro v1 w1 hown1 hg1 _
      have hb1 : Below wr.heap.size wr w1 := ((Below.refl wr.heap.size wr).alloc (Nat.le_refl _) _).grown hg1 (by simp) (fun q hq => by cases hq; exact Nat.le_refl _)
      (try rw [Nat.zero_add] at hown1)
      (try rw [List.nil_append] at hown1)
      obtain ⟨a1, k1, rfl⟩ := row_slice hown1
      have HO1 := Lib.hid hown1
      clear hown1 hg1
      go_wp2_with fail
      go_ret
      exact ⟨a1, on, k1, rfl, HV2.out, HO1.out, hb1⟩
theorem lnew_none (base term : Int) (x : Value) (w : World) (h : ¬ (0 ≤ base ∧ base ≤ 1099511627776 ∧ 0 ≤ term ∧ term ≤ 1099511627776)) :
    Calls Try.prog 8 #[.int .i64 base, .int .i64 term, x] w fun e w' => e = .returned (.pointer none) ∧ w' = w := by
  by_cases c1 : base < 0
  · have d1 : decide (base < 0) = true := by simpa using c1
    go_enter Try.func8, Try.ntmps8
    go_wp2_with fail
    go_ret
    exact ⟨rfl, rfl⟩
  · have d1 : decide (base < 0) = false := by simpa using c1
    by_cases c2 : 1099511627776 < base
    · have d2 : decide (1099511627776 < base) = true := by simpa using c2
      go_enter Try.func8, Try.ntmps8
      go_wp2_with fail
      go_ret
      exact ⟨rfl, rfl⟩
    · have d2 : decide (1099511627776 < base) = false := by simpa using c2
      by_cases c3 : term < 0
      · have d3 : decide (term < 0) = true := by simpa using c3
        go_enter Try.func8, Try.ntmps8
        go_wp2_with fail
        go_ret
        exact ⟨rfl, rfl⟩
      · have d3 : decide (term < 0) = false := by simpa using c3
        have c4 : 1099511627776 < term := by omega
        have d4 : decide (1099511627776 < term) = true := by simpa using c4
        go_enter Try.func8, Try.ntmps8
        go_wp2_with fail
        go_ret
        exact ⟨rfl, rfl⟩
theorem rnew_none (base term : Int) (x : Value) (w : World) (h : ¬ (0 ≤ base ∧ base ≤ 1099511627776 ∧ 0 ≤ term ∧ term ≤ 1099511627776)) :
    Calls Try.prog 9 #[.int .i64 base, .int .i64 term, x] w fun e w' => e = .returned (.tuple #[.pointer none, .bool false]) ∧ w' = w := by
  by_cases c1 : base < 0
  · have d1 : decide (base < 0) = true := by simpa using c1
    go_enter Try.func9, Try.ntmps9
    go_wp2_with fail
    go_ret2
    exact ⟨rfl, rfl⟩
  · have d1 : decide (base < 0) = false := by simpa using c1
    by_cases c2 : 1099511627776 < base
    · have d2 : decide (1099511627776 < base) = true := by simpa using c2
      go_enter Try.func9, Try.ntmps9
      go_wp2_with fail
      go_ret2
      exact ⟨rfl, rfl⟩
    · have d2 : decide (1099511627776 < base) = false := by simpa using c2
      by_cases c3 : term < 0
      · have d3 : decide (term < 0) = true := by simpa using c3
        go_enter Try.func9, Try.ntmps9
        go_wp2_with fail
        go_ret2
        exact ⟨rfl, rfl⟩
      · have d3 : decide (term < 0) = false := by simpa using c3
        have c4 : 1099511627776 < term := by omega
        have d4 : decide (1099511627776 < term) = true := by simpa using c4
        go_enter Try.func9, Try.ntmps9
        go_wp2_with fail
        go_ret2
        exact ⟨rfl, rfl⟩
set_option maxHeartbeats 1000000 in
theorem rnew_any (base term : Int) (ao : Option Addr) (n cap : Nat) (es : List En) (w : World) (hb : 0 ≤ base ∧ base ≤ 1099511627776 ∧ 0 ≤ term ∧ term ≤ 1099511627776) (hn : es.length = n) (hx : EnsIn w w.heap.size ao es) (hao : ao = none → cap = 0) (hl : n ≤ 1000000) (hq : EnsArg es) :
    Calls Try.prog 9 #[.int .i64 base, .int .i64 term, .slice ao n cap] w fun e w' => ∃ rb v, e = .returned (.tuple #[.pointer (some ⟨rb, 0, none⟩), .bool true]) ∧ RfAt w' w.heap.size rb base term v es ∧ Below w.heap.size w w' := by
  obtain ⟨h1, h2, h3, h4⟩ := hb
  have hsub : ∀ e ∈ es, enSub w w.heap.size e := fun e he => by
    rcases hx with h | ⟨b, off, _, _, h3⟩
    · rw [h] at he; cases he
    · obtain ⟨q, hq⟩ := List.getElem?_of_mem he
      exact (h3 q e hq).2
  have HSUB := Lib.hid hsub
  have HX := Lib.hid (hx.below enSub_kept ((Below.refl w.heap.size w).alloc (Nat.le_refl _) (.cells #[] 59)) (Nat.le_refl _))
  have HA := Lib.hid hao
  have HN := Lib.hid hn
  have HQ := Lib.hid hq
  clear hx hao hn hq hsub
  have d1 : decide (base < 0) = false := by simp; omega
  have d2 : decide (1099511627776 < base) = false := by simp; omega
  have d3 : decide (term < 0) = false := by simp; omega
  have d4 : decide (1099511627776 < term) = false := by simp; omega
  go_enter Try.func9, Try.ntmps9
  go_wp2_with (at_builtin; refine wpList_append_rows Try.underlying22 infoEn rfl (by decide) enCells_len enCells_one rfl (.tmp 24) (.tmp 25) rfl w.heap.size (.slice (some ⟨w.heap.size, 0, none⟩) 0 0) 0 [] rfl (World.ownsRow_lit w #[] 0 (Nat.le_refl _) (by unfold maxLen; omega) rfl) ao n cap es HN.out rfl w.heap.size HX.out HA.out (by unfold maxLen; omega) (by omega) (by simp) ?_)
  intro v1 w1 hown1 hg1 _
  have hb1 : Below w.heap.size w w1 := ((Below.refl w.heap.size w).alloc (Nat.le_refl _) _).grown hg1 (by simp) (fun q hq => by cases hq; exact Nat.le_refl _)
  (try rw [Nat.zero_add] at hown1)
  (try rw [List.nil_append] at hown1)
  obtain ⟨a1, k1, rfl⟩ := row_slice hown1
  have HO1 := Lib.hid hown1
  have HB1 := Lib.hid hb1
  clear hown1 hg1 hb1 d1 d2 d3 d4
  go_wp2_with fail
  go_ret2
  have hb := HB1.out
  have hb2 := hb.alloc hb.size (.cells #[.int .i64 base, .int .i64 term, .slice a1 n k1] 39)
  refine ⟨w1.heap.size, .slice a1 n k1, rfl, ⟨heap_alloc_new w1 _, ?_, fun e he => ?_, HQ.out.2, hb.size, fun e he => enK_sub (HSUB.out e he) fun g hg => by have := hb.size; omega⟩, hb2⟩
  · rw [HN.out]; exact HO1.out.alloc _
  · exact enSub_rising _ _ _ _ (enSub_kept _ _ _ _ _ (HSUB.out e he) hb2 (Nat.le_refl _)) hb2.size
end Go.Proofs.Ytljfanhkbbfngaa
/- SameInts, SameValues, SameCommand, SameEntry, SameEntries: what reads alike is told to be the same. Conditions: the cells lie as their readings say. -/
namespace Go.Proofs.Ytljfanhkbbfngaa
open Go.RowKit
set_option maxRecDepth 20000
theorem same_val (t : TypeId) (h : t = 76) (a b : Int) (s : ByteArray) (w : World) : (binOp .neq t (.agg #[.int .u8 a, .int .i64 b, .string s]) (.agg #[.int .u8 a, .int .i64 b, .string s])).run Try.prog w = .ok (.bool false) w := by
  subst h
  simp [go_sem, Try.underlying76]
theorem sameI_any (ao : Option Addr) (n cap : Nat) (co : Option Addr) (m cap2 : Nat) (xs : List Int) (w : World) (B : Nat) (hn : xs.length = n) (hm : xs.length = m) (hx : NumsIn w B ao xs) (hy : NumsIn w B co xs) (hB : B ≤ w.heap.size) (hl : n ≤ 4611686018427387904) :
    Calls Try.prog 40 #[.slice ao n cap, .slice co m cap2] w fun e w' => e = .returned (.bool true) ∧ Below w.heap.size w w' := by
  obtain rfl : n = m := by omega
  have HX := Lib.hid (hx.mono noSub_rising hB)
  have HY := Lib.hid (hy.mono noSub_rising hB)
  have HN := Lib.hid hn
  clear hx hy hn hm
  go_enter Try.func40, Try.ntmps40
  go_wp2_with fail
  go_loopw [5] (fun i wr => ∃ k : Nat, k ≤ n ∧ i = .int .i64 k ∧ Below w.heap.size w wr) (fun i _ => n - (intOf i).toNat)
  case atStart => exact ⟨0, by omega, rfl, Below.refl _ _⟩
  case round =>
    obtain ⟨k, hk, rfl, hbel⟩ := hrel
    by_cases hlt : k < n
    · have hkx : xs[k]? = some (xs[k]'(by rw [HN.out]; exact hlt)) := List.getElem?_eq_getElem _
      obtain ⟨b, off, hao, hb, hc, _⟩ := HX.out.at hkx
      obtain ⟨b2, off2, hco, hb2, hc2, _⟩ := HY.out.at hkx
      have d0 := hc 0 (by decide)
      have d1 := hc2 0 (by decide)
      generalize xs[k]'(by rw [HN.out]; exact hlt) = x at d0 d1
      subst hao hco
      have c0 : ∀ x' : Calm w.heap.size w, x'.1.cell? ⟨b, off + k, none⟩ = some (.int .i64 x) := fun x' => x'.cell (by simpa [iCells] using d0) hb
      have c1 : ∀ x' : Calm w.heap.size w, x'.1.cell? ⟨b2, off2 + k, none⟩ = some (.int .i64 x) := fun x' => x'.cell (by simpa [iCells] using d1) hb2
      have i1 : (k : Int) < n := by omega
      clear d0 d1 hc hc2 hkx
      go_wp2_with fail
      refine wp_region_calm (B := w.heap.size) (W0 := w) hbel (by kernel_rfl) (by kernel_rfl) ?_
      repeat (go_big_quiet_step (fail))
      refine wpQuiet_nil ?_
      intro w5 hb5
      clear c0 c1
      go_wp2_with fail
      go_roundw
      case rel => exact ⟨k + 1, by omega, by go_num, hb5⟩
      case measure => simp [intOf]; omega
    · obtain rfl : k = n := by omega
      go_wp2_with fail
      go_ret
      exact ⟨rfl, hbel⟩
theorem sameV_any (ao : Option Addr) (n cap : Nat) (co : Option Addr) (m cap2 : Nat) (xs : List Va) (w : World) (B : Nat) (hn : xs.length = n) (hm : xs.length = m) (hx : ValsIn w B ao xs) (hy : ValsIn w B co xs) (hB : B ≤ w.heap.size) (hl : n ≤ 4611686018427387904) :
    Calls Try.prog 59 #[.slice ao n cap, .slice co m cap2] w fun e w' => e = .returned (.bool true) ∧ Below w.heap.size w w' := by
  obtain rfl : n = m := by omega
  have HX := Lib.hid (hx.mono noSub_rising hB)
  have HY := Lib.hid (hy.mono noSub_rising hB)
  have HN := Lib.hid hn
  clear hx hy hn hm
  go_enter Try.func59, Try.ntmps59
  go_wp2_with fail
  go_loopw [5] (fun i wr => ∃ k : Nat, k ≤ n ∧ i = .int .i64 k ∧ Below w.heap.size w wr) (fun i _ => n - (intOf i).toNat)
  case atStart => exact ⟨0, by omega, rfl, Below.refl _ _⟩
  case round =>
    obtain ⟨k, hk, rfl, hbel⟩ := hrel
    by_cases hlt : k < n
    · have hkx : xs[k]? = some (xs[k]'(by rw [HN.out]; exact hlt)) := List.getElem?_eq_getElem _
      obtain ⟨b, off, hao, hb, hc, _⟩ := HX.out.at hkx
      obtain ⟨b2, off2, hco, hb2, hc2, _⟩ := HY.out.at hkx
      have d0 := hc 0 (by decide)
      have d1 := hc 1 (by decide)
      have d2 := hc 2 (by decide)
      have g0 := hc2 0 (by decide)
      have g1 := hc2 1 (by decide)
      have g2 := hc2 2 (by decide)
      generalize xs[k]'(by rw [HN.out]; exact hlt) = x at d0 d1 d2 g0 g1 g2
      obtain ⟨xk, xn, xt⟩ := x
      subst hao hco
      have c0 : ∀ x' : Calm w.heap.size w, x'.1.cell? ⟨b, off + k * 3, none⟩ = some (.int .u8 xk) := fun x' => x'.cell d0 hb
      have c1 : ∀ x' : Calm w.heap.size w, x'.1.cell? ⟨b, off + k * 3 + 1, none⟩ = some (.int .i64 xn) := fun x' => x'.cell d1 hb
      have c2 : ∀ x' : Calm w.heap.size w, x'.1.cell? ⟨b, off + k * 3 + 2, none⟩ = some (.string xt) := fun x' => x'.cell d2 hb
      have c2' : ∀ x' : Calm w.heap.size w, x'.1.cell? ⟨b, off + k * 3 + 1 + 1, none⟩ = some (.string xt) := c2
      have e0 : ∀ x' : Calm w.heap.size w, x'.1.cell? ⟨b2, off2 + k * 3, none⟩ = some (.int .u8 xk) := fun x' => x'.cell g0 hb2
      have e1 : ∀ x' : Calm w.heap.size w, x'.1.cell? ⟨b2, off2 + k * 3 + 1, none⟩ = some (.int .i64 xn) := fun x' => x'.cell g1 hb2
      have e2 : ∀ x' : Calm w.heap.size w, x'.1.cell? ⟨b2, off2 + k * 3 + 2, none⟩ = some (.string xt) := fun x' => x'.cell g2 hb2
      have e2' : ∀ x' : Calm w.heap.size w, x'.1.cell? ⟨b2, off2 + k * 3 + 1 + 1, none⟩ = some (.string xt) := e2
      have hq := fun w => same_val 76 rfl xk xn xt w
      have i1 : (k : Int) < n := by omega
      clear d0 d1 d2 g0 g1 g2 hc hc2 hkx
      go_wp2_with fail
      refine wp_region_calm (B := w.heap.size) (W0 := w) hbel (by kernel_rfl) (by kernel_rfl) ?_
      repeat (go_big_quiet_step (fail))
      refine wpQuiet_nil ?_
      intro w5 hb5
      clear c0 c1 c2 e0 e1 e2 c2' e2' hq
      go_wp2_with fail
      go_roundw
      case rel => exact ⟨k + 1, by omega, by go_num, hb5⟩
      case measure => simp [intOf]; omega
    · obtain rfl : k = n := by omega
      go_wp2_with fail
      go_ret
      exact ⟨rfl, hbel⟩
theorem sameC_any (ck : Int) (text : ByteArray) (num : Int) (ao : Option Addr) (n cap : Nat) (co : Option Addr) (cap2 : Nat) (xs : List Va) (w : World) (B : Nat) (hn : xs.length = n) (hx : ValsIn w B ao xs) (hy : ValsIn w B co xs) (hB : B ≤ w.heap.size) (hl : n ≤ 4611686018427387904) :
    Calls Try.prog 51 #[.agg #[.int .u8 ck, .string text, .slice ao n cap, .int .i64 num], .agg #[.int .u8 ck, .string text, .slice co n cap2, .int .i64 num]] w fun e w' => e = .returned (.bool true) ∧ Below w.heap.size w w' := by
  have HX := Lib.hid hx
  have HY := Lib.hid hy
  have HN := Lib.hid hn
  clear hx hy hn
  have hb := ((Below.refl w.heap.size w).alloc (Nat.le_refl _) (.cells #[.int .u8 ck, .string text, .slice ao n cap, .int .i64 num] 57)).alloc (by simp) (.cells #[.int .u8 ck, .string text, .slice co n cap2, .int .i64 num] 57)
  have hs1 := hb.size
  have k1 : ((w.alloc (.cells #[.int .u8 ck, .string text, .slice ao n cap, .int .i64 num] 57)).alloc (.cells #[.int .u8 ck, .string text, .slice co n cap2, .int .i64 num] 57)).heap[w.heap.size]? = some (.cells #[.int .u8 ck, .string text, .slice ao n cap, .int .i64 num] 57 (0, 0)) :=
    ((World.grownBy_alloc _ _ none).block _ (by simp) (by simp)).trans (heap_alloc_new w _)
  have k2 : ((w.alloc (.cells #[.int .u8 ck, .string text, .slice ao n cap, .int .i64 num] 57)).alloc (.cells #[.int .u8 ck, .string text, .slice co n cap2, .int .i64 num] 57)).heap[w.heap.size + 1]? = some (.cells #[.int .u8 ck, .string text, .slice co n cap2, .int .i64 num] 57 (0, 0)) := by
    have := heap_alloc_new (w.alloc (.cells #[.int .u8 ck, .string text, .slice ao n cap, .int .i64 num] 57)) (.cells #[.int .u8 ck, .string text, .slice co n cap2, .int .i64 num] 57)
    simpa using this
  have K1 := Lib.hid k1
  have K2 := Lib.hid k2
  clear k1 k2
  go_enter Try.func51, Try.ntmps51
  go_wp2_with fail
  refine (sameV_any ao n cap co n cap2 xs _ B HN.out HN.out (HX.out.below noSub_kept (hb.mono hB) (Nat.le_refl _)) (HY.out.below noSub_kept (hb.mono hB) (Nat.le_refl _)) (Nat.le_trans hB hs1) hl).mono ?_
  rintro e w' ⟨rfl, hb2⟩
  have hlt1 := (Array.getElem?_eq_some_iff.1 K1.out).1
  have hlt2 := (Array.getElem?_eq_some_iff.1 K2.out).1
  have c1 : w'.cell? ⟨w.heap.size, 3, none⟩ = some (.int .i64 num) := Go.Joins.cell_of_block ((hb2.block _ hlt1).trans K1.out) 3
  have c2 : w'.cell? ⟨w.heap.size + 1, 3, none⟩ = some (.int .i64 num) := Go.Joins.cell_of_block ((hb2.block _ hlt2).trans K2.out) 3
  have hb3 := hb.trans (hb2.mono hs1)
  go_wp2_with fail
  go_ret
  exact ⟨rfl, hb3⟩
theorem sameE_any (x y : En) (w : World) (B : Nat) (hp : x.plain = y.plain) (hx : enSub w B x) (hy : enSub w B y) (hB : B ≤ w.heap.size) (hl : x.args.length ≤ 4611686018427387904) (hl2 : x.vs.length ≤ 4611686018427387904) :
    Calls Try.prog 31 #[enVal x, enVal y] w fun e w' => e = .returned (.bool true) ∧ Below w.heap.size w w' := by
  obtain ⟨t, k, s, q, ck, text, aao, args, acap, num, vao, vs, vcap⟩ := x
  obtain ⟨t2, k2, s2, q2, ck2, text2, aao2, args2, acap2, num2, vao2, vs2, vcap2⟩ := y
  simp only [En.plain, EnP.mk.injEq] at hp
  obtain ⟨rfl, rfl, rfl, rfl, rfl, rfl, rfl, rfl, rfl⟩ := hp
  unfold enVal
  dsimp only at hl hl2 ⊢
  have HX := Lib.hid hx
  have HY := Lib.hid hy
  clear hx hy
  obtain ⟨n, hn⟩ : ∃ n, args.length = n := ⟨_, rfl⟩
  obtain ⟨m, hm⟩ : ∃ m, vs.length = m := ⟨_, rfl⟩
  rw [hn] at hl ⊢
  rw [hm] at hl2 ⊢
  have HN := Lib.hid hn
  have HM := Lib.hid hm
  clear hn hm
  have hb := ((Below.refl w.heap.size w).alloc (Nat.le_refl _) (.cells #[.int .i64 t, .int .u8 k, .int .i64 s, .int .i64 q, .int .u8 ck, .string text, .slice aao n acap, .int .i64 num, .slice vao m vcap] 59)).alloc (by simp) (.cells #[.int .i64 t, .int .u8 k, .int .i64 s, .int .i64 q, .int .u8 ck, .string text, .slice aao2 n acap2, .int .i64 num, .slice vao2 m vcap2] 59)
  have hs1 := hb.size
  have k1 : ((w.alloc (.cells #[.int .i64 t, .int .u8 k, .int .i64 s, .int .i64 q, .int .u8 ck, .string text, .slice aao n acap, .int .i64 num, .slice vao m vcap] 59)).alloc (.cells #[.int .i64 t, .int .u8 k, .int .i64 s, .int .i64 q, .int .u8 ck, .string text, .slice aao2 n acap2, .int .i64 num, .slice vao2 m vcap2] 59)).heap[w.heap.size]? = some (.cells #[.int .i64 t, .int .u8 k, .int .i64 s, .int .i64 q, .int .u8 ck, .string text, .slice aao n acap, .int .i64 num, .slice vao m vcap] 59 (0, 0)) :=
    ((World.grownBy_alloc _ _ none).block _ (by simp) (by simp)).trans (heap_alloc_new w _)
  have k2 : ((w.alloc (.cells #[.int .i64 t, .int .u8 k, .int .i64 s, .int .i64 q, .int .u8 ck, .string text, .slice aao n acap, .int .i64 num, .slice vao m vcap] 59)).alloc (.cells #[.int .i64 t, .int .u8 k, .int .i64 s, .int .i64 q, .int .u8 ck, .string text, .slice aao2 n acap2, .int .i64 num, .slice vao2 m vcap2] 59)).heap[w.heap.size + 1]? = some (.cells #[.int .i64 t, .int .u8 k, .int .i64 s, .int .i64 q, .int .u8 ck, .string text, .slice aao2 n acap2, .int .i64 num, .slice vao2 m vcap2] 59 (0, 0)) := by
    have := heap_alloc_new (w.alloc (.cells #[.int .i64 t, .int .u8 k, .int .i64 s, .int .i64 q, .int .u8 ck, .string text, .slice aao n acap, .int .i64 num, .slice vao m vcap] 59)) (.cells #[.int .i64 t, .int .u8 k, .int .i64 s, .int .i64 q, .int .u8 ck, .string text, .slice aao2 n acap2, .int .i64 num, .slice vao2 m vcap2] 59)
    simpa using this
  have K1 := Lib.hid k1
  have K2 := Lib.hid k2
  clear k1 k2
  go_enter Try.func31, Try.ntmps31
  go_wp2_with fail
  refine (sameC_any ck text num aao n acap aao2 acap2 args _ B HN.out (HX.out.1.below noSub_kept (hb.mono hB) (Nat.le_refl _)) (HY.out.1.below noSub_kept (hb.mono hB) (Nat.le_refl _)) (Nat.le_trans hB hs1) hl).mono ?_
  rintro e w' ⟨rfl, hb2⟩
  have hlt1 := (Array.getElem?_eq_some_iff.1 K1.out).1
  have hlt2 := (Array.getElem?_eq_some_iff.1 K2.out).1
  have c1 : w'.cell? ⟨w.heap.size, 8, none⟩ = some (.slice vao m vcap) := Go.Joins.cell_of_block ((hb2.block _ hlt1).trans K1.out) 8
  have c2 : w'.cell? ⟨w.heap.size + 1, 8, none⟩ = some (.slice vao2 m vcap2) := Go.Joins.cell_of_block ((hb2.block _ hlt2).trans K2.out) 8
  have hb3 := hb.trans (hb2.mono hs1)
  have hs3 := hb3.size
  go_wp2_with fail
  refine (sameI_any vao m vcap vao2 m vcap2 vs _ B HM.out HM.out (HX.out.2.below noSub_kept (hb3.mono hB) (Nat.le_refl _)) (HY.out.2.below noSub_kept (hb3.mono hB) (Nat.le_refl _)) (Nat.le_trans hB hs3) hl2).mono ?_
  rintro e w' ⟨rfl, hb4⟩
  clear c1 c2
  go_wp2_with fail
  go_ret
  exact ⟨rfl, hb3.trans (hb4.mono hs3)⟩
/-- An entry's lists have bounded lengths. -/
def EnSmall (e : En) : Prop := e.args.length ≤ 1099511627776 ∧ e.vs.length ≤ 1099511627776
theorem sameEs_any (ao : Option Addr) (n cap : Nat) (co : Option Addr) (m cap2 : Nat) (xs ys : List En) (w : World) (B : Nat) (hn : xs.length = n) (hm : ys.length = m) (he : xs.map En.plain = ys.map En.plain) (hx : EnsIn w B ao xs) (hy : EnsIn w B co ys) (hB : B ≤ w.heap.size) (hl : n ≤ 1099511627776) (hsm : ∀ x ∈ xs, EnSmall x) :
    Calls Try.prog 19 #[.slice ao n cap, .slice co m cap2] w fun e w' => e = .returned (.bool true) ∧ Below w.heap.size w w' := by
  have hnm : xs.length = ys.length := by have := congrArg List.length he; simpa using this
  obtain rfl : n = m := by omega
  have HX := Lib.hid (hx.mono enSub_rising hB)
  have HY := Lib.hid (hy.mono enSub_rising hB)
  have HN := Lib.hid hn
  have HM := Lib.hid hm
  have HE := Lib.hid he
  have HS := Lib.hid hsm
  clear hx hy hn hm he hnm hsm
  go_enter Try.func19, Try.ntmps19
  go_wp2_with fail
  go_loopw [5] (fun i wr => ∃ k : Nat, k ≤ n ∧ i = .int .i64 k ∧ Below w.heap.size w wr) (fun i _ => n - (intOf i).toNat)
  case atStart => exact ⟨0, by omega, rfl, Below.refl _ _⟩
  case round =>
    obtain ⟨k, hk, rfl, hbel⟩ := hrel
    by_cases hlt : k < n
    · have hkx : xs[k]? = some (xs[k]'(by rw [HN.out]; exact hlt)) := List.getElem?_eq_getElem _
      have hky : ys[k]? = some (ys[k]'(by rw [HM.out]; exact hlt)) := List.getElem?_eq_getElem _
      have hsx := HS.out _ (List.getElem_mem (l := xs) (n := k) (by rw [HN.out]; exact hlt))
      have hp : (xs[k]'(by rw [HN.out]; exact hlt)).plain = (ys[k]'(by rw [HM.out]; exact hlt)).plain := by
        have := congrArg (fun l => l[k]?) HE.out
        simp only [List.getElem?_map, hkx, hky] at this
        simpa using this
      obtain ⟨b, off, hao, hb, hc, hcs⟩ := HX.out.at hkx
      obtain ⟨b2, off2, hco, hb2, hc2, hcs2⟩ := HY.out.at hky
      generalize xs[k]'(by rw [HN.out]; exact hlt) = x at hc hcs hp hsx
      generalize ys[k]'(by rw [HM.out]; exact hlt) = y at hc2 hcs2 hp
      have hcall : ∀ x' : Calm w.heap.size w, Calls Try.prog 31 #[enVal x, enVal y] x'.1 fun e w' => e = .returned (.bool true) ∧ Below x'.1.heap.size x'.1 w' := fun x' =>
        sameE_any x y x'.1 w.heap.size hp (enSub_kept _ _ _ _ _ hcs x'.2 (Nat.le_refl _)) (enSub_kept _ _ _ _ _ hcs2 x'.2 (Nat.le_refl _)) x'.2.size (by have := hsx.1; omega) (by have := hsx.2; omega)
      obtain ⟨t, kd, s, q, ck, text, aao, args, acap, num, vao, vs, vcap⟩ := x
      obtain ⟨t2, kd2, s2, q2, ck2, text2, aao2, args2, acap2, num2, vao2, vs2, vcap2⟩ := y
      simp only [En.plain, EnP.mk.injEq] at hp
      obtain ⟨rfl, rfl, rfl, rfl, rfl, rfl, rfl, rfl, rfl⟩ := hp
      unfold enVal at hcall
      dsimp only at hcall
      obtain ⟨an, han⟩ : ∃ an, args.length = an := ⟨_, rfl⟩
      obtain ⟨vn, hvn⟩ : ∃ vn, vs.length = vn := ⟨_, rfl⟩
      rw [han, hvn] at hcall
      have HC := Lib.hid hcall
      subst hao hco
      have c0 : ∀ x' : Calm w.heap.size w, x'.1.cell? ⟨b, off + k * 9, none⟩ = some (.int .i64 t) := fun x' => x'.cell (hc 0 (by decide)) hb
      have c1 : ∀ x' : Calm w.heap.size w, x'.1.cell? ⟨b, off + k * 9 + 1, none⟩ = some (.int .u8 kd) := fun x' => x'.cell (hc 1 (by decide)) hb
      have c2 : ∀ x' : Calm w.heap.size w, x'.1.cell? ⟨b, off + k * 9 + 2, none⟩ = some (.int .i64 s) := fun x' => x'.cell (hc 2 (by decide)) hb
      have c3 : ∀ x' : Calm w.heap.size w, x'.1.cell? ⟨b, off + k * 9 + 3, none⟩ = some (.int .i64 q) := fun x' => x'.cell (hc 3 (by decide)) hb
      have c4 : ∀ x' : Calm w.heap.size w, x'.1.cell? ⟨b, off + k * 9 + 4, none⟩ = some (.int .u8 ck) := fun x' => x'.cell (hc 4 (by decide)) hb
      have c5 : ∀ x' : Calm w.heap.size w, x'.1.cell? ⟨b, off + k * 9 + 5, none⟩ = some (.string text) := fun x' => x'.cell (hc 5 (by decide)) hb
      have c6 : ∀ x' : Calm w.heap.size w, x'.1.cell? ⟨b, off + k * 9 + 6, none⟩ = some (.slice aao an acap) := fun x' => x'.cell (han ▸ hc 6 (by decide)) hb
      have c7 : ∀ x' : Calm w.heap.size w, x'.1.cell? ⟨b, off + k * 9 + 7, none⟩ = some (.int .i64 num) := fun x' => x'.cell (hc 7 (by decide)) hb
      have c8 : ∀ x' : Calm w.heap.size w, x'.1.cell? ⟨b, off + k * 9 + 8, none⟩ = some (.slice vao vn vcap) := fun x' => x'.cell (hvn ▸ hc 8 (by decide)) hb
      have e0 : ∀ x' : Calm w.heap.size w, x'.1.cell? ⟨b2, off2 + k * 9, none⟩ = some (.int .i64 t) := fun x' => x'.cell (hc2 0 (by decide)) hb2
      have e1 : ∀ x' : Calm w.heap.size w, x'.1.cell? ⟨b2, off2 + k * 9 + 1, none⟩ = some (.int .u8 kd) := fun x' => x'.cell (hc2 1 (by decide)) hb2
      have e2 : ∀ x' : Calm w.heap.size w, x'.1.cell? ⟨b2, off2 + k * 9 + 2, none⟩ = some (.int .i64 s) := fun x' => x'.cell (hc2 2 (by decide)) hb2
      have e3 : ∀ x' : Calm w.heap.size w, x'.1.cell? ⟨b2, off2 + k * 9 + 3, none⟩ = some (.int .i64 q) := fun x' => x'.cell (hc2 3 (by decide)) hb2
      have e4 : ∀ x' : Calm w.heap.size w, x'.1.cell? ⟨b2, off2 + k * 9 + 4, none⟩ = some (.int .u8 ck) := fun x' => x'.cell (hc2 4 (by decide)) hb2
      have e5 : ∀ x' : Calm w.heap.size w, x'.1.cell? ⟨b2, off2 + k * 9 + 5, none⟩ = some (.string text) := fun x' => x'.cell (hc2 5 (by decide)) hb2
      have e6 : ∀ x' : Calm w.heap.size w, x'.1.cell? ⟨b2, off2 + k * 9 + 6, none⟩ = some (.slice aao2 an acap2) := fun x' => x'.cell (han ▸ hc2 6 (by decide)) hb2
      have e7 : ∀ x' : Calm w.heap.size w, x'.1.cell? ⟨b2, off2 + k * 9 + 7, none⟩ = some (.int .i64 num) := fun x' => x'.cell (hc2 7 (by decide)) hb2
      have e8 : ∀ x' : Calm w.heap.size w, x'.1.cell? ⟨b2, off2 + k * 9 + 8, none⟩ = some (.slice vao2 vn vcap2) := fun x' => x'.cell (hvn ▸ hc2 8 (by decide)) hb2
      have i1 : (k : Int) < n := by omega
      clear hc hc2 hkx hky hcs hcs2 hsx hcall han hvn
      go_wp2_with fail
      refine wp_region_calm (B := w.heap.size) (W0 := w) hbel (by kernel_rfl) (by kernel_rfl) ?_
      repeat (go_big_quiet_step ((go_at_call 31; exact Calm.call (Nat.le_refl _) (HC.out _))))
      refine wpQuiet_nil ?_
      intro w5 hb5
      clear c0 c1 c2 c3 c4 c5 c6 c7 c8 e0 e1 e2 e3 e4 e5 e6 e7 e8
      go_wp2_with fail
      go_roundw
      case rel => exact ⟨k + 1, by omega, by go_num, hb5⟩
      case measure => simp [intOf]; omega
    · obtain rfl : k = n := by omega
      go_wp2_with fail
      go_ret
      exact ⟨rfl, hbel⟩
end Go.Proofs.Ytljfanhkbbfngaa
/- like: a log tells what the document's tells. Conditions: both lie as the same entries say; the numbers are not too great. -/
namespace Go.Proofs.Ytljfanhkbbfngaa
open Go.RowKit
set_option maxRecDepth 20000
theorem rtermT (B rb : Nat) (base term : Int) (v : Value) (es : List En) (i : Int) (T : Int × Bool) (w : World) (hr : termS base term (es.map En.plain) i = T) (hL : RfAt w B rb base term v es) (hN : LogNums base es.length i) :
    Calls Try.prog 13 #[.pointer (some ⟨rb, 0, none⟩), .int .i64 i] w (PlaceAt T.1 T.2 w) := rterm_any B rb base term v es i T.1 T.2 w hr hL hN
theorem ltermT (B lb : Nat) (base term : Int) (v : Value) (es : List En) (i : Int) (T : Int × Bool) (w : World) (hr : termS base term (es.map En.plain) i = T) (hL : LogAt w B lb base term v es) (hN : LogNums base es.length i) :
    Calls Try.prog 25 #[.pointer (some ⟨lb, 0, none⟩), .int .i64 i] w (PlaceAt T.1 T.2 w) := term_any B lb base term v es i T.1 T.2 w hr hL hN
theorem atS_small {base : Int} {es : List En} {i : Int} (hq : EnsArg es) : (atS base (es.map En.plain) i).1.args.length ≤ 1099511627776 ∧ (atS base (es.map En.plain) i).1.vs.length ≤ 1099511627776 := by
  by_cases c : base < i ∧ i - base ≤ es.length
  · have hk : (i - base - 1).toNat < es.length := by omega
    rw [atS_in (k := (i - base - 1).toNat) (by rw [List.length_map]; exact hk) (by omega), List.getElem_map]
    exact hq.1 _ (List.getElem_mem hk)
  · rw [atS_out (by rw [List.length_map]; exact c)]
    exact ⟨Nat.zero_le _, Nat.zero_le _⟩
set_option maxHeartbeats 8000000 in
theorem like_any (B1 B2 lb rb : Nat) (base term : Int) (v rv : Value) (es fs : List En) (fo : Option Addr) (fn fcap : Nat) (first : List Int) (w : World) (hL : LogAt w B1 lb base term v es) (hR : RfAt w B2 rb base term rv fs) (hp : es.map En.plain = fs.map En.plain) (hb : 0 ≤ base ∧ base ≤ 1125899906842624) (hl : es.length ≤ 1000000) (hq : EnsArg es) (hv : ∀ e ∈ es, e.vs.length ≤ 1000000)
    (hfn : first.length = fn) (hf : NumsIn w w.heap.size fo first) (hfnil : fo = none → fcap = 0) (hfl : fn ≤ 1000000) :
    Calls Try.prog 24 #[.pointer (some ⟨lb, 0, none⟩), .pointer (some ⟨rb, 0, none⟩), .slice fo fn fcap] w fun e w' => e = .returned (.bool true) ∧ Below w.heap.size w w' := by
  have hlen : es.length = fs.length := by have := congrArg List.length hp; simpa using this
  have hvf : ∀ e ∈ fs, e.vs.length ≤ 1000000 := fun e he => by
    have h1 : e.plain ∈ es.map En.plain := by rw [hp]; exact List.mem_map_of_mem he
    obtain ⟨x, hx, hxe⟩ := List.mem_map.1 h1
    have h2 : x.vs = e.vs := congrArg EnP.vs hxe
    rw [← h2]; exact hv x hx
  have hn1 : ∀ i : Int, -10 ≤ i - base → i - base ≤ 2000000 → LogNums base es.length i := fun i h1 h2 => ⟨hb.1, by omega, by omega, by omega, by omega⟩
  have hn0 : LogNums base es.length 0 := ⟨hb.1, by omega, by omega, by omega, by omega⟩
  obtain ⟨⟨la, lt⟩, hla⟩ : ∃ q, lastS base term (es.map En.plain) = q := ⟨_, rfl⟩
  obtain ⟨a, c, hrv⟩ := hR.form
  subst hrv
  obtain ⟨n, hn⟩ : ∃ n, es.length = n := ⟨_, rfl⟩
  rw [← hlen, hn] at hR
  rw [hn] at hl
  have HL := Lib.hid hL
  have HR := Lib.hid hR
  have HP := Lib.hid hp
  have HQ := Lib.hid hq
  have HVF := Lib.hid hvf
  have HLA := Lib.hid hla
  have HN := Lib.hid hn
  have HLEN := Lib.hid hlen
  have HN1 := Lib.hid hn1
  have HN0 := Lib.hid hn0
  have HF := Lib.hid (And.intro hfn (And.intro hf hfnil))
  have hltl := hL.lt
  have hltr := hR.lt
  clear hL hR hp hq hvf hv hla hn hlen hn1 hn0 hfn hf hfnil
  go_enter Try.func24, Try.ntmps24
  go_wp2_with fail
  refine (logBase_any B1 lb base term v es w HL.out).mono ?_
  rintro e w1 ⟨rfl, b1⟩
  go_wp2_with fail
  refine (last_any B1 lb base term v es la lt w1 HLA.out (HL.out.below b1 (Nat.le_refl _)) HN0.out).mono ?_
  rintro e w2 ⟨rfl, b2'⟩
  have b2 := b1.trans (b2'.mono b1.size)
  clear b1 b2'
  go_wp2_with fail
  refine (rlast_any B2 rb base term _ fs la lt w2 (by rw [← HP.out]; exact HLA.out) (HR.out.below b2 (Nat.le_refl _)) (by rw [← HLEN.out]; exact HN0.out)).mono ?_
  rintro e w3 ⟨rfl, b3'⟩
  have b3 := b2.trans (b3'.mono b2.size)
  clear b2 b3'
  have hR3 := HR.out.below b3 (Nat.le_refl _)
  have c0 := hR3.c0
  have c1 := hR3.c1
  clear hR3
  go_wp2_with fail
  refine (voters_any B1 lb base term v es fo fn fcap first w3 (HL.out.below b3 (Nat.le_refl _)) HF.out.1 (RowsIn.mono noSub_rising (HF.out.2.1.below noSub_kept b3 (Nat.le_refl _)) b3.size) HF.out.2.2 HQ.out (by rw [HN.out]; omega) (by omega)).mono ?_
  rintro e w4 ⟨a4, n4, c4, rfl, hn4, ho4, b4'⟩
  have b4 := b3.trans (b4'.mono b3.size)
  have HO4 := Lib.hid ho4
  have HN4 := Lib.hid hn4
  clear b3 b4' c0 c1 ho4 hn4
  go_wp2_with fail
  refine (rvoters_any B2 rb base term _ fs fo fn fcap first w4 (HR.out.below b4 (Nat.le_refl _)) HF.out.1 (RowsIn.mono noSub_rising (HF.out.2.1.below noSub_kept b4 (Nat.le_refl _)) b4.size) HF.out.2.2 HVF.out (by rw [← HLEN.out, HN.out]; omega) (by omega)).mono ?_
  rintro e w5 ⟨a5, n5, c5, rfl, hn5, ho5, b5'⟩
  have b5 := b4.trans (b5'.mono b4.size)
  rw [← HP.out] at hn5 ho5
  have hx4 : NumsIn w5 w5.heap.size a4 (votS first (es.map En.plain)) := own_rowsIn iCells_len (sub := noSub) HN4.out (own_below HO4.out b5' (Nat.le_refl _)) (fun _ _ => trivial)
  have hx5 : NumsIn w5 w5.heap.size a5 (votS first (es.map En.plain)) := own_rowsIn iCells_len (sub := noSub) hn5 ho5 (fun _ _ => trivial)
  have hvl : (votS first (es.map En.plain)).length ≤ 1099511627776 := votS_len (by have := HF.out.1; omega) (fun p hp => by obtain ⟨x, hx, rfl⟩ := List.mem_map.1 hp; exact HQ.out.1 x hx)
  go_wp2_with fail
  refine (sameI_any a4 n4 c4 a5 n5 c5 _ w5 w5.heap.size HN4.out hn5 hx4 hx5 (Nat.le_refl _) (by have := HN4.out; omega)).mono ?_
  rintro e w6 ⟨rfl, b6'⟩
  have b6 := b5.trans (b6'.mono b5.size)
  clear b4 b5 b5' b6' hn5 ho5 hx4 hx5 hvl HO4 HN4 HF HVF HLA
  go_wp2_with fail
  go_loopw [13, 14, 15, 16, 17, 18, 19, 20, 21] (fun i _ _ _ _ _ _ _ _ wr => ∃ k : Nat, k ≤ n + 3 ∧ i = .int .i64 ((k : Int) - 1) ∧ Below w.heap.size w wr) (fun i _ _ _ _ _ _ _ _ _ => (n + 3 - intOf i).toNat)
  case atStart => exact ⟨0, by omega, by simp, b6⟩
  case round =>
    clear b6
    obtain ⟨k, hk, rfl, hbel⟩ := hrel
    have hRr := HR.out.below hbel (Nat.le_refl _)
    have c2 : wr.cell? ⟨rb, 2, none⟩ = some (.slice a n c) := hRr.c2
    clear hRr
    have hsw := hbel.size
    have w1 : IntKind.i64.wrap ((n : Int) + 1) = n + 1 := IntWalk.i64_in _ (by omega)
    obtain ⟨z, hz⟩ : ∃ z : Int, (k : Int) - 1 = z := ⟨_, rfl⟩
    rw [hz]
    have HZ := Lib.hid hz
    have hz1 : -1 ≤ z ∧ z ≤ n + 2 := by omega
    clear hz
    by_cases hlt : z ≤ (n : Int) + 1
    · have w2 : IntKind.i64.wrap (base + z) = base + z := IntWalk.i64_in _ (by omega)
      have hN1 := HN1.out (base + z) (by omega) (by omega)
      have HNZ := Lib.hid hN1
      obtain ⟨T, hT⟩ : ∃ T, termS base term (es.map En.plain) (base + z) = T := ⟨_, rfl⟩
      obtain ⟨R, hR⟩ : ∃ R, atS base (es.map En.plain) (base + z) = R := ⟨_, rfl⟩
      have HT := Lib.hid hT
      have HRR := Lib.hid hR
      clear hN1 hT hR
      go_wp2_with fail
      refine (ltermT B1 lb base term v es (base + z) T wr HT.out (HL.out.below hbel (Nat.le_refl _)) HNZ.out).mono ?_
      rintro e v1 ⟨rfl, q1'⟩
      have q1 := hbel.trans (q1'.mono hsw)
      clear q1' c2 hbel hsw
      go_wp2_with fail
      refine (rtermT B2 rb base term _ fs (base + z) T v1 (by rw [← HP.out]; exact HT.out) (HR.out.below q1 (Nat.le_refl _)) (by rw [← HLEN.out]; exact HNZ.out)).mono ?_
      rintro e v2 ⟨rfl, q2'⟩
      have q2 := q1.trans (q2'.mono q1.size)
      clear q2' q1
      go_wp2_with fail
      refine (at_any B1 lb base term v es (base + z) R v2 HRR.out (HL.out.below q2 (Nat.le_refl _)) HNZ.out HQ.out).mono ?_
      rintro e v3 ⟨⟨x0, x1, x2, x3, xk, xt, xa, xg, xc, xn, xo, xv, xd⟩, rfl, hxp, hxs, _, q3'⟩
      dsimp only [enVal]
      have q3 := (q2.trans (q3'.mono q2.size)).alloc (Nat.le_trans q2.size q3'.size) (.cells #[.int .i64 x0, .int .u8 x1, .int .i64 x2, .int .i64 x3, .int .u8 xk, .string xt, .slice xa xg.length xc, .int .i64 xn, .slice xo xv.length xd] 59)
      have k3 := heap_alloc_new v3 (.cells #[.int .i64 x0, .int .u8 x1, .int .i64 x2, .int .i64 x3, .int .u8 xk, .string xt, .slice xa xg.length xc, .int .i64 xn, .slice xo xv.length xd] 59)
      have hxs' := enSub_rising _ _ _ _ (enSub_kept _ _ _ _ _ hxs ((Below.refl v3.heap.size v3).alloc (Nat.le_refl _) (.cells #[.int .i64 x0, .int .u8 x1, .int .i64 x2, .int .i64 x3, .int .u8 xk, .string xt, .slice xa xg.length xc, .int .i64 xn, .slice xo xv.length xd] 59)) (Nat.le_refl _)) (show v3.heap.size ≤ (v3.alloc (.cells #[.int .i64 x0, .int .u8 x1, .int .i64 x2, .int .i64 x3, .int .u8 xk, .string xt, .slice xa xg.length xc, .int .i64 xn, .slice xo xv.length xd] 59)).heap.size by simp)
      go_upto_region 12 with fail
      generalize hv4 : v3.alloc (.cells #[.int .i64 x0, .int .u8 x1, .int .i64 x2, .int .i64 x3, .int .u8 xk, .string xt, .slice xa xg.length xc, .int .i64 xn, .slice xo xv.length xd] 59) = v4 at q3 k3 hxs' ⊢
      clear hv4 q3' q2
      have HXP := Lib.hid hxp
      have HXS := Lib.hid hxs'
      have HK3 := Lib.hid k3
      have hl3 := (Array.getElem?_eq_some_iff.1 k3).1
      clear hxp hxs hxs' k3
      go_wp2_with fail
      refine (rat_any B2 rb base term _ fs (base + z) R v4 (by rw [← HP.out]; exact HRR.out) (HR.out.below q3 (Nat.le_refl _)) (by rw [← HLEN.out]; exact HNZ.out)).mono ?_
      rintro e v5 ⟨⟨y0, y1, y2, y3, yk, yt, ya, yg, yc, yn, yo, yv, yd⟩, rfl, hyp, hys, _, q5'⟩
      dsimp only [enVal]
      have q5 := (q3.trans (q5'.mono q3.size)).alloc (Nat.le_trans q3.size q5'.size) (.cells #[.int .i64 y0, .int .u8 y1, .int .i64 y2, .int .i64 y3, .int .u8 yk, .string yt, .slice ya yg.length yc, .int .i64 yn, .slice yo yv.length yd] 59)
      have k5 := heap_alloc_new v5 (.cells #[.int .i64 y0, .int .u8 y1, .int .i64 y2, .int .i64 y3, .int .u8 yk, .string yt, .slice ya yg.length yc, .int .i64 yn, .slice yo yv.length yd] 59)
      have hbe := (Below.refl v5.heap.size v5).alloc (Nat.le_refl _) (.cells #[.int .i64 y0, .int .u8 y1, .int .i64 y2, .int .i64 y3, .int .u8 yk, .string yt, .slice ya yg.length yc, .int .i64 yn, .slice yo yv.length yd] 59)
      have hys' := enSub_rising _ _ _ _ (enSub_kept _ _ _ _ _ hys hbe (Nat.le_refl _)) hbe.size
      have hxe := q5'.trans (hbe.mono q5'.size)
      go_upto_region 13 with fail
      generalize hv6 : v5.alloc (.cells #[.int .i64 y0, .int .u8 y1, .int .i64 y2, .int .i64 y3, .int .u8 yk, .string yt, .slice ya yg.length yc, .int .i64 yn, .slice yo yv.length yd] 59) = v6 at q5 k5 hbe hys' hxe ⊢
      clear hv6 q5' q3
      have hxs6 := enSub_rising _ _ _ _ (enSub_kept _ _ _ _ _ HXS.out hxe (Nat.le_refl _)) hxe.size
      have k36 := (hxe.block _ hl3).trans HK3.out
      have HS6 := Lib.hid (And.intro hxs6 (And.intro hys' hyp))
      clear hxs6 hys' hyp hys hbe hxe HXS HK3
      have d0 := Go.Joins.cell_of_block k36 0
      have d1 := Go.Joins.cell_of_block k36 1
      have d2 := Go.Joins.cell_of_block k36 2
      have d3 := Go.Joins.cell_of_block k36 3
      have d4 := Go.Joins.cell_of_block k36 4
      have d5 := Go.Joins.cell_of_block k36 5
      have d6 := Go.Joins.cell_of_block k36 6
      have d7 := Go.Joins.cell_of_block k36 7
      have d8 := Go.Joins.cell_of_block k36 8
      have e0 := Go.Joins.cell_of_block k5 0
      have e1 := Go.Joins.cell_of_block k5 1
      have e2 := Go.Joins.cell_of_block k5 2
      have e3 := Go.Joins.cell_of_block k5 3
      have e4 := Go.Joins.cell_of_block k5 4
      have e5 := Go.Joins.cell_of_block k5 5
      have e6 := Go.Joins.cell_of_block k5 6
      have e7 := Go.Joins.cell_of_block k5 7
      have e8 := Go.Joins.cell_of_block k5 8
      clear k36 k5
      go_wp2_with fail
      refine (sameE_any ⟨x0, x1, x2, x3, xk, xt, xa, xg, xc, xn, xo, xv, xd⟩ ⟨y0, y1, y2, y3, yk, yt, ya, yg, yc, yn, yo, yv, yd⟩ v6 v6.heap.size (HXP.out.trans HS6.out.2.2.symm) HS6.out.1 HS6.out.2.1 (Nat.le_refl _) ?_ ?_).mono ?_
      · have h1 := (atS_small (base := base) (i := base + z) HQ.out).1
        rw [HRR.out, ← HXP.out] at h1
        exact Nat.le_trans h1 (by decide)
      · have h1 := (atS_small (base := base) (i := base + z) HQ.out).2
        rw [HRR.out, ← HXP.out] at h1
        exact Nat.le_trans h1 (by decide)
      rintro e v7 ⟨rfl, q7⟩
      clear d0 d1 d2 d3 d4 d5 d6 d7 d8 e0 e1 e2 e3 e4 e5 e6 e7 e8
      have w3 : IntKind.i64.wrap (z + 1) = z + 1 := IntWalk.i64_in _ (by omega)
      go_wp2_with fail
      go_roundw
      case rel => exact ⟨k + 1, by have := HZ.out; omega, by have := HZ.out; first | go_num | (congr 1; omega), q5.trans (q7.mono q5.size)⟩
      case measure => simp [intOf]; omega
    · go_wp2_with fail
      go_ret
      exact ⟨rfl, hbel⟩
end Go.Proofs.Ytljfanhkbbfngaa
