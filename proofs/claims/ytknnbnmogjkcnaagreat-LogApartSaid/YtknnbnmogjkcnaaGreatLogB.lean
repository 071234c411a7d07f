/- A log's Term, Last, Base; New. Conditions: the log is one that was made; its numbers are not too great. -/
import Derived.Test.YtknnbnmogjkcnaaGreatLogA
namespace Go.Proofs.YtknnbnmogjkcnaaGreat
open Go.RowKit
set_option maxRecDepth 20000

theorem place_at (lb : Nat) (base : Int) (a : Option Addr) (n c : Nat) (i : Int) (k : Int) (ok : Bool) (w : World) (hr : placeS base n i = (k, ok)) (h0 : w.cell? ⟨lb, 0, none⟩ = some (.bool true)) (h1 : w.cell? ⟨lb, 1, none⟩ = some (.int .i64 base)) (h3 : w.cell? ⟨lb, 3, none⟩ = some (.slice a n c))
    (hb : 0 ≤ base ∧ base ≤ 1152921504606846976) (hi : -1152921504606846976 ≤ i ∧ i ≤ 1152921504606846976) (hn : n ≤ 1099511627776) :
    Calls Tryz.prog 17 #[.pointer (some ⟨lb, 0, none⟩), .int .i64 i] w (PlaceAt k ok w) := by
  have h := place_any lb base a n c i w h0 h1 h3 hb hi hn
  rw [hr] at h
  exact h
def En.zero : En := ⟨0, 0, 0, 0, 0, ByteArray.empty, none, [], 0, 0, none, [], 0⟩
/-- The term at an index. -/
def termS (base term : Int) (es : List EnP) (i : Int) : Int × Bool :=
  if base < i ∧ i - base ≤ es.length then ((es.getD (i - base - 1).toNat En.zero.plain).term, true) else if i = base then (term, true) else (0, false)
/-- What bounds a log's numbers. -/
def LogNums (base : Int) (n : Nat) (i : Int) : Prop := 0 ≤ base ∧ base ≤ 1152921504606846976 ∧ -1152921504606846976 ≤ i ∧ i ≤ 1152921504606846976 ∧ n ≤ 1099511627776
theorem term_cell {w : World} {B g n c : Nat} {es : List En} (h : w.ownsRow B 38 9 (.slice (some ⟨g, 0, none⟩) n c) n (es.flatMap enCells)) (hn : es.length = n) {k : Nat} (hk : k < n) : w.cell? ⟨g, k * 9, none⟩ = some (.int .i64 ((es.map En.plain).getD k En.zero.plain).term) := by
  have hk' : k < es.length := by omega
  have hf := flat_get enCells_len es k _ (List.getElem?_eq_getElem hk') 0 (by decide)
  have e : (es.map En.plain).getD k En.zero.plain = es[k].plain := by simp [List.getD, List.getElem?_map, List.getElem?_eq_getElem hk']
  rw [e, World.ownsRow.cellAt h _ (by omega)]
  exact hf
set_option maxHeartbeats 1000000 in
theorem term_any (B lb : Nat) (base term : Int) (v : Value) (es : List En) (i : Int) (r : Int) (ok : Bool) (w : World) (hr : termS base term (es.map En.plain) i = (r, ok)) (hL : LogAt w B lb base term v es) (hN : LogNums base es.length i) :
    Calls Tryz.prog 10 #[.pointer (some ⟨lb, 0, none⟩), .int .i64 i] w (PlaceAt r ok w) := by
  obtain ⟨a, c, hv⟩ := hL.form
  subst hv
  obtain ⟨h1, h2, h3, h4, h5⟩ := hN
  unfold termS at hr
  rw [List.length_map] at hr
  have HL := Lib.hid hL
  have hlt := hL.lt
  obtain ⟨n, hn⟩ : ∃ n, es.length = n := ⟨_, rfl⟩
  rw [hn] at h5 hr
  have hc3 : w.cell? ⟨lb, 3, none⟩ = some (.slice a n c) := by rw [← hn]; exact hL.c3
  have HC3 := Lib.hid hc3
  have HN := Lib.hid hn
  clear hL hn hc3
  by_cases c1 : base < i ∧ i - base ≤ n
  · obtain ⟨k, hk⟩ : ∃ k : Nat, i = base + 1 + k := ⟨(i - base - 1).toNat, by omega⟩
    have hp : placeS base n i = ((k : Int), true) := by unfold placeS; rw [if_pos c1]; rw [hk]; congr 1; omega
    rw [if_pos c1, show (i - base - 1).toNat = k by omega] at hr
    obtain ⟨hr1, hr2⟩ := Prod.mk.injEq .. ▸ hr
    have hkn : k < n := by omega
    have HR1 := Lib.hid hr1
    subst hr2
    have HP := Lib.hid hp
    clear hr hp hr1 hk
    go_enter Tryz.func10, Tryz.ntmps10
    go_wp2_with fail
    refine (place_at lb base a n c i k true w HP.out HL.out.c0 HL.out.c1 HC3.out ⟨h1, h2⟩ ⟨h3, h4⟩ h5).mono ?_
    rintro e w1 ⟨rfl, hb1⟩
    have hL1 := HL.out.below hb1 (Nat.le_refl _)
    obtain ⟨g, c2, hg⟩ := Go.Joins.ownsRow_form (show w1.ownsRow B 38 9 (.slice a n c) n (es.flatMap enCells) by have := hL1.ens.row; rw [HN.out] at this; exact this) (by omega)
    injection hg with hg1 _ _
    subst hg1
    have d0 : w1.cell? ⟨lb, 3, none⟩ = some (.slice (some ⟨g, 0, none⟩) n c) := (hb1.cell (p := ⟨lb, 3, none⟩) hlt).trans HC3.out
    have d1 := term_cell (by have := hL1.ens.row; rw [HN.out] at this; exact this) HN.out hkn
    rw [HR1.out] at d1
    have i1 : (k : Int) < n := by omega
    clear hL1
    go_wp2_with fail
    go_ret2
    exact ⟨rfl, hb1⟩
  · have hp : placeS base n i = (0, false) := if_neg c1
    rw [if_neg c1] at hr
    have HP := Lib.hid hp
    clear hp
    by_cases c2 : i = base
    · rw [if_pos c2] at hr
      obtain ⟨hr1, hr2⟩ := Prod.mk.injEq .. ▸ hr
      subst hr1 hr2 c2
      clear hr
      go_enter Tryz.func10, Tryz.ntmps10
      go_wp2_with fail
      refine (place_at lb i a n c i 0 false w HP.out HL.out.c0 HL.out.c1 HC3.out ⟨h1, h2⟩ ⟨h3, h4⟩ h5).mono ?_
      rintro e w1 ⟨rfl, hb1⟩
      have hL1 := Lib.hid (HL.out.below hb1 (Nat.le_refl _))
      go_wp2_with fail
      refine (there_any lb w1 hL1.out.c0).mono ?_
      rintro e w' ⟨rfl, rfl⟩
      have d1 := hL1.out.c1
      have d2 := hL1.out.c2
      go_wp2_with fail
      go_ret2
      exact ⟨rfl, hb1⟩
    · rw [if_neg c2] at hr
      obtain ⟨hr1, hr2⟩ := Prod.mk.injEq .. ▸ hr
      subst hr1 hr2
      clear hr
      go_enter Tryz.func10, Tryz.ntmps10
      go_wp2_with fail
      refine (place_at lb base a n c i 0 false w HP.out HL.out.c0 HL.out.c1 HC3.out ⟨h1, h2⟩ ⟨h3, h4⟩ h5).mono ?_
      rintro e w1 ⟨rfl, hb1⟩
      have hL1 := Lib.hid (HL.out.below hb1 (Nat.le_refl _))
      go_wp2_with fail
      refine (there_any lb w1 hL1.out.c0).mono ?_
      rintro e w' ⟨rfl, rfl⟩
      have d1 := hL1.out.c1
      have d2 := hL1.out.c2
      go_wp2_with fail
      go_ret2
      exact ⟨rfl, hb1⟩
def lastS (base term : Int) (es : List EnP) : Int × Int := if es.length = 0 then (base, term) else (base + es.length, (es.getD (es.length - 1) En.zero.plain).term)
def TwoAt (a b : Int) (w : World) (e : Ending) (w' : World) : Prop := e = .returned (.tuple #[.int .i64 a, .int .i64 b]) ∧ Below w.heap.size w w'
theorem last_any (B lb : Nat) (base term : Int) (v : Value) (es : List En) (r t : Int) (w : World) (hr : lastS base term (es.map En.plain) = (r, t)) (hL : LogAt w B lb base term v es) (hN : LogNums base es.length 0) :
    Calls Tryz.prog 12 #[.pointer (some ⟨lb, 0, none⟩)] w (TwoAt r t w) := by
  obtain ⟨a, c, hv⟩ := hL.form
  subst hv
  obtain ⟨h1, h2, _, _, h5⟩ := hN
  unfold lastS at hr
  rw [List.length_map] at hr
  have HL := Lib.hid hL
  obtain ⟨n, hn⟩ : ∃ n, es.length = n := ⟨_, rfl⟩
  rw [hn] at h5 hr
  have c0 := hL.c0
  have c1 := hL.c1
  have c2 := hL.c2
  have c3 : w.cell? ⟨lb, 3, none⟩ = some (.slice a n c) := by rw [← hn]; exact hL.c3
  have HN := Lib.hid hn
  clear hL hn
  by_cases h0 : n = 0
  · rw [if_pos h0] at hr
    obtain ⟨hr1, hr2⟩ := Prod.mk.injEq .. ▸ hr
    subst hr1 hr2 h0
    clear hr
    go_enter Tryz.func12, Tryz.ntmps12
    go_wp2_with (go_at_call 18; (with_reducible refine (there_any lb w c0).mono ?_); rintro e w' ⟨rfl, rfl⟩)
    go_quiet (fail)
    go_wp2_with fail
    go_ret2
    exact ⟨rfl, below_drewN (Below.refl _ _) _⟩
  · rw [if_neg h0] at hr
    obtain ⟨hr1, hr2⟩ := Prod.mk.injEq .. ▸ hr
    obtain ⟨m, rfl⟩ : ∃ m, n = m + 1 := ⟨n - 1, by omega⟩
    have hrow : w.ownsRow B 38 9 (.slice a (m + 1) c) (m + 1) (es.flatMap enCells) := by have := HL.out.ens.row; rw [HN.out] at this; exact this
    obtain ⟨g, cc, hg⟩ := Go.Joins.ownsRow_form hrow (by omega)
    injection hg with hg1 _ _
    subst hg1
    have d1 := term_cell hrow HN.out (show m < m + 1 by omega)
    rw [show m + 1 - 1 = m by omega] at hr2
    rw [hr2] at d1
    have w1 : IntKind.i64.wrap ((m : Int) + 1 - 1) = m := by rw [IntWalk.i64_in _ (by omega)]; omega
    have w2 : IntKind.i64.wrap (base + ((m : Int) + 1)) = base + ((m : Int) + 1) := IntWalk.i64_in _ (by omega)
    have i1 : (m : Int) < (m : Int) + 1 := by omega
    have i2 : (0 : Int) < (m : Int) + 1 := by omega
    have i0 : (0 : Int) ≤ m := by omega
    have e1 : (m : Int) + 1 - 1 = m := by omega
    have HR1 := Lib.hid hr1
    clear hr hr1 hr2 hrow h0
    go_enter Tryz.func12, Tryz.ntmps12
    go_wp2_with (go_at_call 18; (with_reducible refine (there_any lb w c0).mono ?_); rintro e w' ⟨rfl, rfl⟩)
    go_quiet (fail)
    go_wp2_with fail
    go_ret2
    exact ⟨by rw [← HR1.out]; push_cast; rfl, below_drewN (Below.refl _ _) _⟩
/-- What a log is made of. -/
def EnsArg (es : List En) : Prop := (∀ x ∈ es, x.args.length ≤ 1099511627776 ∧ x.vs.length ≤ 1099511627776) ∧ ∀ x ∈ es, EnNil x
def NewAt (base term : Int) (xs : List EnP) (w : World) (e : Ending) (w' : World) : Prop :=
  ∃ lb v es, e = .returned (.pointer (some ⟨lb, 0, none⟩)) ∧ LogAt w' w.heap.size lb base term v es ∧ es.map En.plain = xs ∧ Below w.heap.size w w'
theorem new_any (base term : Int) (ao : Option Addr) (n cap : Nat) (xs : List En) (w : World) (B : Nat) (hb : 0 ≤ base ∧ base ≤ 1099511627776) (ht : 0 ≤ term ∧ term ≤ 1099511627776) (hn : xs.length = n) (hx : EnsIn w B ao xs) (hB : B ≤ w.heap.size) (hao : ao = none → cap = 0) (hl : n ≤ 1099511627776) (hq : EnsArg xs) :
    Calls Tryz.prog 6 #[.int .i64 base, .int .i64 term, .slice ao n cap] w (NewAt base term (xs.map En.plain) w) := by
  have HX := Lib.hid hx
  have HN := Lib.hid hn
  have HA := Lib.hid hao
  have HQ := Lib.hid hq
  obtain ⟨hb1, hb2⟩ := hb
  obtain ⟨ht1, ht2⟩ := ht
  clear hx hn hao hq
  have i1 : ¬ base < 0 := by omega
  have i2 : ¬ 1099511627776 < base := by omega
  have i3 : ¬ term < 0 := by omega
  have i4 : ¬ 1099511627776 < term := by omega
  go_enter Tryz.func6, Tryz.ntmps6
  go_wp2_with fail
  refine (copied_any ao n cap xs w B HN.out HX.out hB HA.out hl HQ.out.1 HQ.out.2).mono ?_
  rintro e w1 ⟨a, c, es, rfl, ho, hm, hb1'⟩
  have HO := Lib.hid ho
  have HM := Lib.hid hm
  clear ho hm
  go_wp2_with fail
  go_ret
  exact ⟨w1.heap.size, _, es, rfl, ⟨heap_alloc_new w1 _, HO.out.below ((Below.refl w1.heap.size w1).alloc (Nat.le_refl _) _) (Nat.le_refl _), hb1'.size⟩, HM.out, hb1'.alloc hb1'.size _⟩
end Go.Proofs.YtknnbnmogjkcnaaGreat
