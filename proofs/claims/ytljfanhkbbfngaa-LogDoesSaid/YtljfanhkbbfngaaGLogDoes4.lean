/- A log, told by what its entries say. Conditions: the log is one that was made; its numbers are not too great. -/
import Derived.Test.YtljfanhkbbfngaaGLogDoes3
import Derived.Deep.Cut
import Derived.Deep.MidRow
import Derived.Laws.Tables
import Derived.Test.YtljfanhkbbfngaaGLogDoes0
import Derived.Deep.RegionHeld3
set_option linter.unusedVariables false
set_option linter.unusedSimpArgs false
namespace Go.Proofs.Ytljfanhkbbfngaa
open Go.RowKit
set_option maxRecDepth 20000
/-- A log whose entries say ps. -/
def LogIs (w : World) (B lb : Nat) (base term : Int) (ps : List EnP) : Prop := ∃ v es, LogAt w B lb base term v es ∧ es.map En.plain = ps
def PSmall (ps : List EnP) : Prop := ∀ p ∈ ps, p.args.length ≤ 1099511627776 ∧ p.vs.length ≤ 1099511627776
theorem LogIs.below {w w' : World} {B B' lb : Nat} {base term : Int} {ps : List EnP} (h : LogIs w B lb base term ps) (hb : Below B' w w') (hB : w.heap.size ≤ B') : LogIs w' B lb base term ps := by
  obtain ⟨v, es, h1, h2⟩ := h
  exact ⟨v, es, h1.below hb hB, h2⟩
theorem ensArg_own {w : World} {B : Nat} {v : Value} {es : List En} (h : EnsOwn w B v es) (hp : PSmall (es.map En.plain)) : EnsArg es :=
  ⟨fun x hx => hp x.plain (List.mem_map.2 ⟨x, hx, rfl⟩), fun x hx => ⟨own_none (h.own x hx).1, own_none (h.own x hx).2⟩⟩
theorem plainB_mem {es : List En} (h : plainB es = true) {x : En} (hx : x ∈ es) : x.vs.length + x.args.length + x.text.size ≤ 100 := by
  have := List.all_eq_true.1 h x hx
  simpa [light1] using this
theorem new_is (base term : Int) (ao : Option Addr) (n cap : Nat) (xs : List En) (w : World) (B : Nat) (hb : 0 ≤ base ∧ base ≤ 1099511627776) (ht : 0 ≤ term ∧ term ≤ 1099511627776) (hn : xs.length = n) (hx : EnsIn w B ao xs) (hB : B ≤ w.heap.size) (hao : ao = none → cap = 0) (hl : n ≤ 1099511627776) (hq : EnsArg xs) :
    Calls Try.prog 8 #[.int .i64 base, .int .i64 term, .slice ao n cap] w fun e w' => ∃ lb, e = .returned (.pointer (some ⟨lb, 0, none⟩)) ∧ LogIs w' w.heap.size lb base term (xs.map En.plain) ∧ Below w.heap.size w w' :=
  (new_any base term ao n cap xs w B hb ht hn hx hB hao hl hq).mono fun _ _ ⟨lb, v, es, h1, h2, h3, h4⟩ => ⟨lb, h1, ⟨v, es, h2, h3⟩, h4⟩
theorem term_is (B lb : Nat) (base term : Int) (ps : List EnP) (i : Int) (r : Int) (ok : Bool) (w : World) (hr : termS base term ps i = (r, ok)) (hL : LogIs w B lb base term ps) (hN : LogNums base ps.length i) :
    Calls Try.prog 25 #[.pointer (some ⟨lb, 0, none⟩), .int .i64 i] w fun e w' => e = .returned (.tuple #[.int .i64 r, .bool ok]) ∧ Below w.heap.size w w' := by
  obtain ⟨v, es, h1, rfl⟩ := hL
  rw [List.length_map] at hN
  exact term_any B lb base term v es i r ok w hr h1 hN
theorem last_is (B lb : Nat) (base term : Int) (ps : List EnP) (r t : Int) (w : World) (hr : lastS base term ps = (r, t)) (hL : LogIs w B lb base term ps) (hN : LogNums base ps.length 0) :
    Calls Try.prog 26 #[.pointer (some ⟨lb, 0, none⟩)] w fun e w' => e = .returned (.tuple #[.int .i64 r, .int .i64 t]) ∧ Below w.heap.size w w' := by
  obtain ⟨v, es, h1, rfl⟩ := hL
  rw [List.length_map] at hN
  exact last_any B lb base term v es r t w hr h1 hN
theorem from_is (B lb : Nat) (base term : Int) (ps qs : List EnP) (i most : Int) (w : World) (hr : fromS base ps i most = qs) (hL : LogIs w B lb base term ps) (hN : LogNums base ps.length i) (hB : B ≤ w.heap.size) (hps : PSmall ps) (hmost : most ≤ 9223372036854775807) :
    Calls Try.prog 20 #[.pointer (some ⟨lb, 0, none⟩), .int .i64 i, .int .i64 most] w (FromAt qs w) := by
  subst hr
  obtain ⟨v, es, h1, rfl⟩ := hL
  rw [List.length_map] at hN
  unfold fromS
  rw [List.length_map]
  by_cases hc : (placeS base es.length i).2 = false ∨ most < 1
  · rw [if_pos hc]
    exact (from_none B lb base term v es i most w hc h1 hN).mono fun e w' ⟨he, hb⟩ => ⟨none, 0, [], he, EnsOwn.nil _ _, rfl, hb⟩
  · rw [if_neg hc]
    have hm : 1 ≤ most := by
      rcases Int.lt_or_le most 1 with h | h
      · exact absurd (Or.inr h) hc
      · exact h
    have hp : base < i ∧ i - base ≤ es.length := by
      by_cases h : base < i ∧ i - base ≤ es.length
      · exact h
      · exact absurd (Or.inl (by unfold placeS; rw [if_neg h])) hc
    obtain ⟨k, hk⟩ : ∃ k : Nat, i = base + 1 + k := ⟨(i - base - 1).toNat, by omega⟩
    obtain ⟨m, hm2⟩ : ∃ m : Nat, (m : Int) = min most (es.length - k) := ⟨(min most ((es.length : Int) - k)).toNat, by omega⟩
    have h := from_some B lb base term v es i most k m w hk (by omega) hm hm2 h1 hN hB (ensArg_own h1.ens hps) hmost
    have e1 : (i - base - 1).toNat = k := by omega
    have e2 : (((es.map En.plain).drop k).take most.toNat) = (((es.map En.plain).drop k).take m) := by
      by_cases hle : most ≤ es.length - k
      · have : m = most.toNat := by omega
        rw [this]
      · have hl : ((es.map En.plain).drop k).length = es.length - k := by rw [List.length_drop, List.length_map]
        rw [List.take_of_length_le (by rw [hl]; omega), List.take_of_length_le (by rw [hl]; omega)]
    rw [e1, e2]
    exact h
theorem append_is (B lb : Nat) (base term : Int) (ps : List EnP) (ao : Option Addr) (m cap : Nat) (xs : List En) (r : Int) (w : World) (B2 : Nat) (hr : r = base + ps.length + 1) (hL : LogIs w B lb base term ps) (hN : LogNums base ps.length 0) (hB : B ≤ w.heap.size) (hn : xs.length = m) (hm : 0 < m) (hx : EnsIn w B2 ao xs) (hB2 : B2 ≤ w.heap.size) (hao : ao = none → cap = 0) (hl : m ≤ 1099511627776) (hnm : ps.length + m ≤ 1099511627776) (hq : EnsArg xs) :
    Calls Try.prog 14 #[.pointer (some ⟨lb, 0, none⟩), .slice ao m cap] w fun e w' => e = .returned (.int .i64 r) ∧ LogIs w' B lb base term (ps ++ xs.map En.plain) ∧ Below B w w' := by
  obtain ⟨v, es, h1, rfl⟩ := hL
  rw [List.length_map] at hN hr hnm
  subst hr
  refine (append_any B lb base term v es ao m cap xs w B2 h1 hN hB hn hm hx hB2 hao hl hnm hq).mono fun e w' ⟨v', es2, g1, g2, g3, g4, _⟩ => ⟨g1, ⟨v', es ++ es2, g2, ?_⟩, g4⟩
  rw [List.map_append, g3]
theorem compact_is (B lb : Nat) (base term t : Int) (ps : List EnP) (k : Nat) (i : Int) (w : World) (hi : i = base + k) (hk : k ≤ ps.length) (hr : termS base term ps i = (t, true)) (hL : LogIs w B lb base term ps) (hN : LogNums base ps.length i) (hB : B ≤ w.heap.size) :
    Calls Try.prog 17 #[.pointer (some ⟨lb, 0, none⟩), .int .i64 i] w fun e w' => e = .returned (.int .i64 0) ∧ LogIs w' B lb i t (ps.drop k) ∧ Below B w w' := by
  obtain ⟨v, es, h1, rfl⟩ := hL
  rw [List.length_map] at hN hk
  refine (compact_any B lb base term t v es k i w hi hk hr h1 hN hB).mono fun e w' ⟨v', g1, g2, g3, _⟩ => ⟨g1, ⟨v', es.drop k, g2, ?_⟩, g3⟩
  rw [List.map_drop]
theorem compact_no_is (B lb : Nat) (base term : Int) (ps : List EnP) (i r : Int) (w : World) (hr : termS base term ps i = (r, false)) (hL : LogIs w B lb base term ps) (hN : LogNums base ps.length i) :
    Calls Try.prog 17 #[.pointer (some ⟨lb, 0, none⟩), .int .i64 i] w fun e w' => e = .returned (.int .i64 2) ∧ Below w.heap.size w w' := by
  obtain ⟨v, es, h1, rfl⟩ := hL
  rw [List.length_map] at hN
  exact compact_no B lb base term v es i r w hr h1 hN
theorem fit_no_is (B lb : Nat) (base term : Int) (ps : List EnP) (i t r : Int) (ok : Bool) (ms : Value) (w : World) (hr : termS base term ps i = (r, ok)) (hno : ok = true → r ≠ t) (hL : LogIs w B lb base term ps) (hN : LogNums base ps.length i) :
    Calls Try.prog 22 #[.pointer (some ⟨lb, 0, none⟩), .int .i64 i, .int .i64 t, ms] w fun e w' => e = .returned (.tuple #[.bool false, .int .i64 0]) ∧ Below w.heap.size w w' := by
  obtain ⟨v, es, h1, rfl⟩ := hL
  rw [List.length_map] at hN
  exact fit_no B lb base term v es i t r ok ms w hr hno h1 hN
/-- Up to k the entries are there. -/
structure FitTo (base term : Int) (ps : List EnP) (i : Int) (ms : List EnP) (k : Nat) : Prop where
  le : k ≤ ms.length
  same : ∀ j x, j < k → ms[j]? = some x → termS base term ps (i + 1 + j) = (x.term, true)
  stop : ∀ x, ms[k]? = some x → ∀ r ok, termS base term ps (i + 1 + k) = (r, ok) → ok = true → r ≠ x.term
theorem fit_to (base term : Int) (ps : List EnP) (i : Int) : ∀ ms : List EnP, ∃ k, FitTo base term ps i ms k := by
  intro ms
  by_cases h : ∃ k, k < ms.length ∧ ∃ x, ms[k]? = some x ∧ termS base term ps (i + 1 + k) ≠ (x.term, true)
  · obtain ⟨k, hk⟩ := h
    have key : ∀ n, ∀ k, k ≤ n → (k < ms.length ∧ ∃ x, ms[k]? = some x ∧ termS base term ps (i + 1 + k) ≠ (x.term, true)) → ∃ k0, FitTo base term ps i ms k0 := by
      intro n
      induction n with
      | zero =>
        intro k hk0 ⟨h1, x, h2, h3⟩
        obtain rfl : k = 0 := by omega
        refine ⟨0, Nat.zero_le _, fun j y hj => absurd hj (Nat.not_lt_zero j), fun y hy r ok hr ho => ?_⟩
        rw [h2] at hy
        obtain rfl := Option.some.inj hy
        rintro rfl
        subst ho
        exact h3 hr
      | succ n ih =>
        intro k hk0 ⟨h1, x, h2, h3⟩
        by_cases hb : ∃ j, j < k ∧ ∃ y, ms[j]? = some y ∧ termS base term ps (i + 1 + j) ≠ (y.term, true)
        · obtain ⟨j, hj, y, hy, hn⟩ := hb
          exact ih j (by omega) ⟨by omega, y, hy, hn⟩
        · refine ⟨k, by omega, fun j y hj hy => ?_, fun y hy r ok hr ho => ?_⟩
          · by_cases he : termS base term ps (i + 1 + j) = (y.term, true)
            · exact he
            · exact absurd ⟨j, hj, y, hy, he⟩ hb
          · rw [h2] at hy
            obtain rfl := Option.some.inj hy
            rintro rfl
            subst ho
            exact h3 hr
    exact key k k (Nat.le_refl _) hk
  · refine ⟨ms.length, Nat.le_refl _, fun j x hj hx => ?_, fun x hx => by simp at hx⟩
    by_cases he : termS base term ps (i + 1 + j) = (x.term, true)
    · exact he
    · exact absurd ⟨j, hj, x, hx, he⟩ h
/-- What Fit makes of a log. -/
def FitIs (B lb : Nat) (base term : Int) (ps ms : List EnP) (i : Int) (k : Nat) (w : World) (e : Ending) (w' : World) : Prop :=
  e = .returned (.tuple #[.bool true, .int .i64 (if k = ms.length then 0 else i + 1 + k)]) ∧ LogIs w' B lb base term (if k = ms.length then ps else ps.take (i - base + k).toNat ++ ms.drop k) ∧ Below B w w'
def FitsAt (B lb : Nat) (base term : Int) (v : Value) (es : List En) (ms : List EnP) (i : Int) (k : Nat) (w : World) (e : Ending) (w' : World) : Prop :=
  ∃ v' es', e = .returned (.tuple #[.bool true, .int .i64 (if k = ms.length then 0 else i + 1 + k)]) ∧ LogAt w' B lb base term v' es' ∧ es'.map En.plain = (if k = ms.length then es.map En.plain else (es.map En.plain).take (i - base + k).toNat ++ ms.drop k) ∧ Below B w w' ∧ Turned lb v v' es es' w w'
theorem fit_at (B lb : Nat) (base term : Int) (v : Value) (es : List En) (i t : Int) (ao : Option Addr) (m cap : Nat) (xs : List En) (k : Nat) (w : World) (B2 : Nat) (hr : termS base term (es.map En.plain) i = (t, true)) (hk : FitTo base term (es.map En.plain) i (xs.map En.plain) k)
    (h1 : LogAt w B lb base term v es) (hN : LogNums base es.length i) (hi : i ≤ 1125899906842624) (hB : B ≤ w.heap.size) (hn : xs.length = m) (hx : EnsIn w B2 ao xs) (hB2 : B2 ≤ w.heap.size) (hao : ao = none → cap = 0) (hcap : m ≤ cap) (hl : m ≤ 1099511627776) (hnm : es.length + m ≤ 1099511627776) (hqa : EnsArg xs) :
    Calls Try.prog 22 #[.pointer (some ⟨lb, 0, none⟩), .int .i64 i, .int .i64 t, .slice ao m cap] w (FitsAt B lb base term v es (xs.map En.plain) i k w) := by
  obtain ⟨k1, k2, k3⟩ := hk
  rw [List.length_map] at k1
  have hq0 : 0 ≤ i - base ∧ i - base ≤ es.length := by
    unfold termS at hr
    rw [List.length_map] at hr
    split at hr
    · omega
    · split at hr
      · omega
      · simp at hr
  have hq : i - base + k ≤ es.length := by
    by_cases h0 : k = 0
    · omega
    · have hlt : k - 1 < (xs.map En.plain).length := by rw [List.length_map]; omega
      have := k2 (k - 1) _ (by omega) (List.getElem?_eq_getElem hlt)
      unfold termS at this
      rw [List.length_map] at this
      split at this
      · omega
      · split at this
        · omega
        · simp at this
  refine (fit_any B lb base term v es i t ao m cap xs k w B2 hr (by omega) (fun j x hj hx => ?_) (fun x hx => ?_) h1 hN hi hq0.1 hq hB hn hx hB2 hao hcap hl hnm hqa).mono fun e w' hp => ?_
  · exact k2 j x.plain hj (by rw [List.getElem?_map, hx]; rfl)
  · exact k3 x.plain (by rw [List.getElem?_map, hx]; rfl)
  · unfold FitsAt
    rw [List.length_map, hn]
    rcases hp with ⟨e1, e2, e3⟩ | ⟨e1, v', es', e2, e3, e4, e5, e6⟩
    · rw [if_pos e1, if_pos e1]
      exact ⟨v, es, e2, h1.below e3 (Nat.le_refl _), rfl, e3.mono hB, Apt.of_below e3, Or.inl rfl, fun e he => Or.inl he⟩
    · rw [if_neg (by omega), if_neg (by omega)]
      exact ⟨v', es', e2, e3, e4, e5, e6⟩
theorem fit_is (B lb : Nat) (base term : Int) (ps : List EnP) (i t : Int) (ao : Option Addr) (m cap : Nat) (xs : List En) (k : Nat) (w : World) (B2 : Nat) (hr : termS base term ps i = (t, true)) (hk : FitTo base term ps i (xs.map En.plain) k)
    (hL : LogIs w B lb base term ps) (hN : LogNums base ps.length i) (hi : i ≤ 1099511627776) (hB : B ≤ w.heap.size) (hn : xs.length = m) (hx : EnsIn w B2 ao xs) (hB2 : B2 ≤ w.heap.size) (hao : ao = none → cap = 0) (hcap : m ≤ cap) (hl : m ≤ 1099511627776) (hnm : ps.length + m ≤ 1099511627776) (hqa : EnsArg xs) :
    Calls Try.prog 22 #[.pointer (some ⟨lb, 0, none⟩), .int .i64 i, .int .i64 t, .slice ao m cap] w (FitIs B lb base term ps (xs.map En.plain) i k w) := by
  obtain ⟨v, es, h1, rfl⟩ := hL
  rw [List.length_map] at hN hnm
  refine (fit_at B lb base term v es i t ao m cap xs k w B2 hr hk h1 hN (by omega) hB hn hx hB2 hao hcap hl hnm hqa).mono ?_
  rintro e w' ⟨v', es', e1, e2, e3, e4, _⟩
  exact ⟨e1, ⟨v', es', e2, e3⟩, e4⟩
end Go.Proofs.Ytljfanhkbbfngaa
/- What a log tells, plain: entries at an index, voters; the reference's reading of a log. No program. Conditions: none. -/
namespace Go.Proofs.Ytljfanhkbbfngaa
open Go.RowKit
set_option maxRecDepth 20000
/-- The entry at an index. -/
def atS (base : Int) (ps : List EnP) (i : Int) : EnP × Bool :=
  if base < i ∧ i - base ≤ ps.length then (ps.getD (i - base - 1).toNat En.zero.plain, true) else (En.zero.plain, false)
theorem atS_in {base : Int} {ps : List EnP} {i : Int} {k : Nat} (hk : k < ps.length) (hi : i = base + 1 + k) : atS base ps i = (ps[k], true) := by
  unfold atS
  rw [if_pos (by omega), show (i - base - 1).toNat = k by omega]
  simp [List.getD, List.getElem?_eq_getElem hk]
theorem atS_out {base : Int} {ps : List EnP} {i : Int} (h : ¬ (base < i ∧ i - base ≤ ps.length)) : atS base ps i = (En.zero.plain, false) := if_neg h
theorem termS_at {base term : Int} {ps : List EnP} {i : Int} (h : i ≠ base) : termS base term ps i = ((atS base ps i).1.term, (atS base ps i).2) := by
  unfold termS atS
  by_cases c : base < i ∧ i - base ≤ ps.length
  · rw [if_pos c, if_pos c]
  · rw [if_neg c, if_neg c, if_neg h]; rfl
theorem termS_base {base term : Int} {ps : List EnP} : termS base term ps base = (term, true) := by
  unfold termS
  rw [if_neg (by omega), if_pos rfl]
/-- The voters that the last entry that says some says. -/
def votS (first : List Int) (ps : List EnP) : List Int := ps.foldl (fun out p => if p.kind = 3 then p.vs else out) first
theorem votS_snoc (first : List Int) (ps : List EnP) (p : EnP) : votS first (ps ++ [p]) = if p.kind = 3 then p.vs else votS first ps := by simp [votS]
theorem votS_take (first : List Int) {ps : List EnP} {k : Nat} (hk : k < ps.length) : votS first (ps.take (k + 1)) = if ps[k].kind = 3 then ps[k].vs else votS first (ps.take k) := by
  rw [List.take_succ_eq_append_getElem hk, votS_snoc]
theorem votS_lenT {first : List Int} {ps : List EnP} (hf : first.length ≤ 1099511627776) (h : PSmall ps) : ∀ k, k ≤ ps.length → (votS first (ps.take k)).length ≤ 1099511627776 := by
  intro k
  induction k with
  | zero => intro _; simpa [votS] using hf
  | succ k ih =>
    intro hk
    rw [votS_take first (show k < ps.length by omega)]
    split
    · exact (h _ (List.getElem_mem _)).2
    · exact ih (by omega)
theorem votS_len {first : List Int} {ps : List EnP} (hf : first.length ≤ 1099511627776) (h : PSmall ps) : (votS first ps).length ≤ 1099511627776 := by
  have := votS_lenT hf h ps.length (Nat.le_refl _)
  rwa [List.take_length] at this
theorem fromS_none {base : Int} {ps : List EnP} {i most : Int} (h : ¬ (base < i ∧ i - base ≤ ps.length) ∨ most < 1) : fromS base ps i most = [] := by
  unfold fromS
  refine if_pos (h.imp (fun h => ?_) id)
  unfold placeS
  rw [if_neg h]
theorem fromS_some {base : Int} {ps : List EnP} {i most : Int} {k : Nat} (hk : k < ps.length) (hi : i = base + 1 + k) (hm : 1 ≤ most) : fromS base ps i most = (ps.drop k).take most.toNat := by
  have hp : placeS base ps.length i = (i - base - 1, true) := if_pos (by omega)
  unfold fromS
  rw [hp, if_neg (by simp; omega), show (i - base - 1).toNat = k by omega]
/-- Of more than there are the bound tells nothing. -/
theorem fromS_min {base : Int} {ps : List EnP} {i most : Int} (h : ps.length ≤ 100000) : fromS base ps i (min most 100000) = fromS base ps i most := by
  by_cases hm : most ≤ 100000
  · rw [Int.min_eq_left hm]
  · rw [Int.min_eq_right (by omega)]
    by_cases c : base < i ∧ i - base ≤ ps.length
    · obtain ⟨k, hk⟩ : ∃ k : Nat, i = base + 1 + k := ⟨(i - base - 1).toNat, by omega⟩
      rw [fromS_some (k := k) (by omega) hk (by omega), fromS_some (k := k) (by omega) hk (by omega), List.take_of_length_le (by simp; omega), List.take_of_length_le (by simp; omega)]
    · rw [fromS_none (Or.inl c), fromS_none (Or.inl c)]
end Go.Proofs.Ytljfanhkbbfngaa
/- Blocks that are kept: rows of a call's own and rows that are only read. Conditions: as each says. -/
namespace Go.Proofs.Ytljfanhkbbfngaa
open Go.RowKit
set_option maxRecDepth 20000
/-- Of what was there the blocks of K are kept. -/
structure Keeps (K : Nat → Prop) (w w' : World) : Prop where
  size : w.heap.size ≤ w'.heap.size
  same : ∀ g, g < w.heap.size → K g → w'.heap[g]? = w.heap[g]?
theorem Keeps.of_below {K : Nat → Prop} {w w' : World} (h : Below w.heap.size w w') : Keeps K w w' := ⟨h.size, fun g hg _ => h.block g hg⟩
theorem own_keeps {K : Nat → Prop} {w w' : World} {base e size n : Nat} {v : Value} {xs : List Value} (h : w.ownsRow base e size v n xs) (hk : Keeps K w w') (hv : ∀ g, v.ownBlock = some g → K g) : w'.ownsRow base e size v n xs := by
  refine ⟨h.1, h.2.imp id ?_⟩
  rintro ⟨g, cap, cur, h1, h2, h3, h4, h5, h6, h7⟩
  exact ⟨g, cap, cur, h1, h2, (hk.same g (Array.getElem?_eq_some_iff.1 h3).1 (hv g (by rw [h1]; rfl))).trans h3, h4, h5, h6, h7⟩
/-- A row that is only read lies in a block of K, or is empty. -/
def RowsK {α : Type} (K : Nat → Prop) (ao : Option Addr) (xs : List α) : Prop := xs = [] ∨ ∃ b off, ao = some ⟨b, off, none⟩ ∧ K b
theorem RowsK.imp {α : Type} {K K' : Nat → Prop} {ao : Option Addr} {xs : List α} (h : RowsK K ao xs) (hK : ∀ g, K g → K' g) : RowsK K' ao xs := Or.imp id (fun ⟨b, o, h1, h2⟩ => ⟨b, o, h1, hK b h2⟩) h
theorem RowsK.and {α : Type} {K K' : Nat → Prop} {ao : Option Addr} {xs : List α} (h : RowsK K ao xs) (h' : RowsK K' ao xs) : RowsK (fun g => K g ∧ K' g) ao xs := by
  rcases h with h | ⟨b, o, h1, h2⟩
  · exact Or.inl h
  · rcases h' with h' | ⟨b', o', h1', h2'⟩
    · exact Or.inl h'
    · rw [h1] at h1'
      cases h1'
      exact Or.inr ⟨b, o, h1, h2, h2'⟩
theorem rows_keeps {α : Type} {k : Nat} {cells : α → List Value} {K : Nat → Prop} {w w' : World} {ao : Option Addr} {xs : List α} (h : RowsIn k cells noSub w w.heap.size ao xs) (hk : Keeps K w w') (hr : RowsK K ao xs) : RowsIn k cells noSub w' w'.heap.size ao xs := by
  rcases hr with hr | ⟨b', o', h1', h2'⟩
  · exact Or.inl hr
  · rcases h with h | ⟨b, off, h1, h2, h3⟩
    · exact Or.inl h
    · obtain rfl : b' = b := by rw [h1] at h1'; cases h1'; rfl
      refine Or.inr ⟨b', off, h1, Nat.lt_of_lt_of_le h2 hk.size, fun i x hx => ⟨fun j hj => ?_, trivial⟩⟩
      rw [← (h3 i x hx).1 j hj]
      simp [World.cell?, hk.same b' h2 h2']
theorem rowsK_in {α : Type} {k : Nat} {cells : α → List Value} {sub : World → Nat → α → Prop} {K : Nat → Prop} {w : World} {B : Nat} {ao : Option Addr} {xs : List α} (h : RowsIn k cells sub w B ao xs) (hK : ∀ g, g < B → K g) : RowsK K ao xs := by
  rcases h with h | ⟨b, off, h1, h2, _⟩
  · exact Or.inl h
  · exact Or.inr ⟨b, off, h1, hK b h2⟩
theorem rowsK_own {α : Type} {K : Nat → Prop} {w : World} {base e size n c : Nat} {a : Option Addr} {xs : List α} {l : List Value} (hn : xs.length = n) (h : w.ownsRow base e size (.slice a n c) n l) (hK : ∀ g, base ≤ g → g < w.heap.size → K g) : RowsK K a xs := by
  rcases Go.Joins.ownsRow_forms h with ⟨_, hz⟩ | ⟨g, cap, h1⟩
  · exact Or.inl (List.eq_nil_of_length_eq_zero (by omega))
  · injection h1 with h1 _ _
    subst h1
    have := World.ownsRow.lt h g rfl
    exact Or.inr ⟨g, 0, rfl, hK g this.1 this.2⟩
def enK (K : Nat → Prop) (e : En) : Prop := RowsK K e.aao e.args ∧ RowsK K e.vao e.vs
theorem enK.imp {K K' : Nat → Prop} {e : En} (h : enK K e) (hK : ∀ g, K g → K' g) : enK K' e := ⟨h.1.imp hK, h.2.imp hK⟩
theorem enK.and {K K' : Nat → Prop} {e : En} (h : enK K e) (h' : enK K' e) : enK (fun g => K g ∧ K' g) e := ⟨h.1.and h'.1, h.2.and h'.2⟩
theorem enSub_keeps {K : Nat → Prop} {w w' : World} {e : En} (h : enSub w w.heap.size e) (hk : Keeps K w w') (he : enK K e) : enSub w' w'.heap.size e := ⟨rows_keeps h.1 hk he.1, rows_keeps h.2 hk he.2⟩
theorem enK_sub {K : Nat → Prop} {w : World} {B : Nat} {e : En} (h : enSub w B e) (hK : ∀ g, g < B → K g) : enK K e := ⟨rowsK_in h.1 hK, rowsK_in h.2 hK⟩
theorem enK_own {K : Nat → Prop} {w : World} {base : Nat} {e : En} (h : enOwn w base e) (hK : ∀ g, base ≤ g → g < w.heap.size → K g) : enK K e := ⟨rowsK_own rfl h.1 hK, rowsK_own rfl h.2 hK⟩
theorem enOwn_keeps {K : Nat → Prop} {w w' : World} {base : Nat} {e : En} (h : enOwn w base e) (hk : Keeps K w w') (ha : ∀ g, (argV e).ownBlock = some g → K g) (hv : ∀ g, (votV e).ownBlock = some g → K g) : enOwn w' base e := ⟨own_keeps h.1 hk ha, own_keeps h.2 hk hv⟩
/-- A log whose blocks are kept. -/
theorem LogAt.keeps {K : Nat → Prop} {w w' : World} {B lb : Nat} {base term : Int} {v : Value} {es : List En} (h : LogAt w B lb base term v es) (hk : Keeps K w w') (hl : K lb) (hv : ∀ g, v.ownBlock = some g → K g) (he : ∀ e ∈ es, (∀ g, (argV e).ownBlock = some g → K g) ∧ ∀ g, (votV e).ownBlock = some g → K g) : LogAt w' B lb base term v es :=
  ⟨(hk.same lb h.lt hl).trans h.blk, ⟨own_keeps h.ens.row hk hv, fun e h' => enOwn_keeps (h.ens.own e h') hk (he e h').1 (he e h').2, h.ens.sep⟩, h.low⟩
/-- The blocks that a log does not write. -/
def LK (lb : Nat) (v : Value) (g : Nat) : Prop := g ≠ lb ∧ v.ownBlock ≠ some g
theorem Apt.keeps {lb : Nat} {v : Value} {w w' : World} (h : Apt lb v w w') (hs : w.heap.size ≤ w'.heap.size) : Keeps (LK lb v) w w' := ⟨hs, fun g h1 h2 => h g h1 h2.1 h2.2⟩
/-- Block rb is the document's log: these entries behind base, in a row of its own; what hangs on them is only read. -/
structure RfAt (w : World) (B rb : Nat) (base term : Int) (v : Value) (es : List En) : Prop where
  blk : w.heap[rb]? = some (.cells #[.int .i64 base, .int .i64 term, v] 39 (0, 0))
  row : w.ownsRow B 59 9 v es.length (es.flatMap enCells)
  sub : ∀ e ∈ es, enSub w w.heap.size e
  nils : ∀ e ∈ es, EnNil e
  low : B ≤ rb
  apart : ∀ e ∈ es, enK (fun g => g ≠ rb) e
/-- Its blocks are of K. -/
structure RfK (K : Nat → Prop) (rb : Nat) (v : Value) (es : List En) : Prop where
  blk : K rb
  row : ∀ g, v.ownBlock = some g → K g
  sub : ∀ e ∈ es, enK K e
theorem RfAt.lt {w : World} {B rb : Nat} {base term : Int} {v : Value} {es : List En} (h : RfAt w B rb base term v es) : rb < w.heap.size := (Array.getElem?_eq_some_iff.1 h.blk).1
theorem RfAt.inside {K : Nat → Prop} {w : World} {B rb : Nat} {base term : Int} {v : Value} {es : List En} (h : RfAt w B rb base term v es) (hK : ∀ g, g < w.heap.size → K g) : RfK K rb v es :=
  ⟨hK _ h.lt, fun g hg => hK _ (World.ownsRow.lt h.row g hg).2, fun e he => enK_sub (h.sub e he) hK⟩
theorem RfK.imp {K K' : Nat → Prop} {rb : Nat} {v : Value} {es : List En} (h : RfK K rb v es) (hK : ∀ g, K g → K' g) : RfK K' rb v es := ⟨hK _ h.blk, fun g hg => hK _ (h.row g hg), fun e he => (h.sub e he).imp hK⟩
theorem RfK.and {K K' : Nat → Prop} {rb : Nat} {v : Value} {es : List En} (h : RfK K rb v es) (h' : RfK K' rb v es) : RfK (fun g => K g ∧ K' g) rb v es := ⟨⟨h.blk, h'.blk⟩, fun g hg => ⟨h.row g hg, h'.row g hg⟩, fun e he => (h.sub e he).and (h'.sub e he)⟩
theorem RfAt.keeps {K : Nat → Prop} {w w' : World} {B rb : Nat} {base term : Int} {v : Value} {es : List En} (h : RfAt w B rb base term v es) (hk : Keeps K w w') (hr : RfK K rb v es) : RfAt w' B rb base term v es :=
  ⟨(hk.same rb h.lt hr.blk).trans h.blk, own_keeps h.row hk hr.row, fun e he => enSub_keeps (h.sub e he) hk (hr.sub e he), h.nils, h.low, h.apart⟩
theorem RfAt.below {w w' : World} {B B' rb : Nat} {base term : Int} {v : Value} {es : List En} (h : RfAt w B rb base term v es) (hb : Below B' w w') (hB : w.heap.size ≤ B') : RfAt w' B rb base term v es :=
  h.keeps (K := fun _ => True) (Keeps.of_below (hb.mono hB)) (h.inside fun _ _ => trivial)
theorem RfAt.c0 {w : World} {B rb : Nat} {base term : Int} {v : Value} {es : List En} (h : RfAt w B rb base term v es) : w.cell? ⟨rb, 0, none⟩ = some (.int .i64 base) := Go.Joins.cell_of_block h.blk 0
theorem RfAt.c1 {w : World} {B rb : Nat} {base term : Int} {v : Value} {es : List En} (h : RfAt w B rb base term v es) : w.cell? ⟨rb, 1, none⟩ = some (.int .i64 term) := Go.Joins.cell_of_block h.blk 1
theorem RfAt.c2 {w : World} {B rb : Nat} {base term : Int} {v : Value} {es : List En} (h : RfAt w B rb base term v es) : w.cell? ⟨rb, 2, none⟩ = some v := Go.Joins.cell_of_block h.blk 2
theorem RfAt.form {w : World} {B rb : Nat} {base term : Int} {v : Value} {es : List En} (h : RfAt w B rb base term v es) : ∃ a c, v = .slice a es.length c := row_slice h.row
/-- What its writing methods do. -/
structure RTurned (rb : Nat) (v v' : Value) (es es' xs : List En) (w w' : World) : Prop where
  keeps : Keeps (fun g => g ≠ rb) w w'
  row : v' = v ∨ ∀ g, v'.ownBlock = some g → w.heap.size ≤ g
  from_ : ∀ e ∈ es', e ∈ es ∨ e ∈ xs
end Go.Proofs.Ytljfanhkbbfngaa
/- A log's At, and its Voters. Conditions: the log is one that was made; its numbers are not too great. -/
namespace Go.Proofs.Ytljfanhkbbfngaa
open Go.RowKit
set_option maxRecDepth 20000
theorem run_sub_lhm {P : Program} {t : TypeId} {k : Nat} (ht : P.underlying t = some (.slice (P.elem t))) (hk : ∀ w, (sizeOf (P.elem t)).run P w = .ok k w) (ao : Option Addr) (n cap l h : Nat) (hl : l ≤ h) (hh : h ≤ cap) (kl kh km : IntKind) (lo hi : Int) (el : lo = l) (eh : hi = h) (w : World) :
    (Instr.sliceAt t (.slice ao n cap) (some (.int kl lo)) (some (.int kh hi)) (some (.int km hi))).run P w = .ok (.slice (subA ao h l k) (h - l) (h - l)) w := by
  subst el eh
  rw [run_sliceAt_slice _ _ _ _ _ _ ht, run_slice_lhm _ _ _ _ _ ht _ _ _ _ _ _ (by omega) (by omega) (by omega) (by omega), hk]
  simp [Result.andThen, sliced, subA]
theorem results_cell_row_ld {P : Program} {fn : Func} {p u : Tmp} {ty : TypeId} (h : fn.results = #[.cell p ty, .tmp u]) (tmps : Array Value) (w : World) (g : Nat) (t : TypeId) (cs : Array Value) (fr : Nat × Nat) (d : TypeDesc) (v : Value)
    (hp : tmps.getD p undef = .pointer (some ⟨g, 0, none⟩)) (hv : tmps.getD u undef = v) (hg : w.heap[g]? = some (.cells cs t fr))
    (hu : P.underlying ty = some d) (hd : (match d with | .struct _ | .array _ _ => true | _ => false) = true) (hi : (P.info? ty).map (·.size) = some cs.size) :
    (results fn tmps).run P w = .ok (.tuple #[.agg cs, v]) w := by
  rw [results_cell_tmp h, hp, hv]
  simp [asAddr, run_loadVar_row w g t ty cs fr d hg hu hd hi, Result.andThen]
theorem info_en9 : (Try.prog.info? 59).map (·.size) = some 9 := by kernel_rfl
def zeroEnA : Array Value := #[.int .i64 0, .int .u8 0, .int .i64 0, .int .i64 0, .int .u8 0, .string ⟨#[]⟩, .slice none 0 0, .int .i64 0, .slice none 0 0]
theorem setRow_sameL {w : World} {g : Nat} {cs : Array Value} {t : TypeId} {fr : Nat × Nat} (h : w.heap[g]? = some (.cells cs t fr)) : w.setRow g cs = w := by
  have hm : (w.setRow g cs).heap = w.heap := by
    apply Array.ext_getElem?
    intro j
    by_cases hj : g = j
    · subst hj
      rw [setRow_heap w g cs cs t fr h, h]
    · simp only [World.setRow, Array.getElem?_modify, if_neg hj]
  have : w.setRow g cs = { w with heap := (w.setRow g cs).heap } := rfl
  rw [this, hm]
theorem grown_row (w : World) (g : Nat) (cs : Array Value) : w.grownBy (w.setRow g cs) (some g) := ⟨rfl, rfl, rfl, by simp, fun k _ hk => setRow_other w g k cs (fun e => hk (by rw [e]))⟩
theorem enArr_one (x : En) : ((enCells x).toArray).all (·.oneCell') = true := by simp [enCells, Value.oneCell']
theorem info_enC (x : En) : (Try.prog.info? 59).map (·.size) = some ((enCells x).toArray).size := info_en9
theorem info_enL (x : En) : (Try.prog.info? 59).map (·.size) = some (enCells x).length := info_en9
/-- An entry is told, and whether there is one. -/
def AtAt (r : EnP × Bool) (w : World) (e : Ending) (w' : World) : Prop :=
  ∃ x : En, e = .returned (.tuple #[enVal x, .bool r.2]) ∧ x.plain = r.1 ∧ enSub w' w'.heap.size x ∧ EnNil x ∧ Below w.heap.size w w'
theorem at_none (B lb : Nat) (base term : Int) (v : Value) (es : List En) (i : Int) (w : World) (hk : ¬ (base < i ∧ i - base ≤ es.length)) (hL : LogAt w B lb base term v es) (hN : LogNums base es.length i) :
    Calls Try.prog 43 #[.pointer (some ⟨lb, 0, none⟩), .int .i64 i] w (AtAt (En.zero.plain, false) w) := by
  obtain ⟨a, c, hv⟩ := hL.form
  subst hv
  have hb0 := (Below.refl w.heap.size w).alloc (Nat.le_refl _) (.cells zeroEnA 59)
  have hk0 := heap_alloc_new w (.cells zeroEnA 59)
  have HB0 := Lib.hid hb0
  have HK0 := Lib.hid hk0
  have HL := Lib.hid (hL.below hb0 (Nat.le_refl _))
  have hp : placeS base es.length i = (0, false) := if_neg hk
  have HP := Lib.hid hp
  have HN := Lib.hid hN
  clear hb0 hk0 hL hp hN hk
  dsimp only [zeroEnA] at HB0 HK0 HL
  go_enter Try.func43, Try.ntmps43
  go_upto_region 1 with fail
  generalize w.alloc (.cells #[.int .i64 0, .int .u8 0, .int .i64 0, .int .i64 0, .int .u8 0, .string ⟨#[]⟩, .slice none 0 0, .int .i64 0, .slice none 0 0] 59) = w0 at HB0 HK0 HL ⊢
  go_wp2_with fail
  refine (place_at lb base a es.length c i 0 false w0 HP.out HL.out.c0 HL.out.c1 HL.out.c3 ⟨HN.out.1, HN.out.2.1⟩ ⟨HN.out.2.2.1, HN.out.2.2.2.1⟩ HN.out.2.2.2.2).mono ?_
  rintro e w1 ⟨rfl, hb1⟩
  have hlt := (Array.getElem?_eq_some_iff.1 HK0.out).1
  have k1 := (hb1.block w.heap.size hlt).trans HK0.out
  have HB := Lib.hid (HB0.out.trans (hb1.mono HB0.out.size))
  have K1 := Lib.hid k1
  clear hb1 k1
  go_wp2_with (refine wpList_store_row rfl 59 (.tmp 4) (.tmp 16) rfl w.heap.size (enCells En.zero).toArray rfl rfl 59 _ K1.out (info_enC _) rfl (enArr_one _) ?_; rw [setRow_sameL (cs := (enCells En.zero).toArray) K1.out])
  exact bodyPost_ret (results_cell_row_ld rfl _ _ w.heap.size 59 _ _ _ _ rfl rfl K1.out Try.underlying59 rfl info_en9) rfl ⟨En.zero, rfl, rfl, ⟨Or.inl rfl, Or.inl rfl⟩, ⟨fun _ => rfl, fun _ => rfl⟩, HB.out⟩
end Go.Proofs.Ytljfanhkbbfngaa
/- A log's At at an index that it knows. Conditions: the log is one that was made; its numbers are not too great. -/
namespace Go.Proofs.Ytljfanhkbbfngaa
open Go.RowKit
set_option maxRecDepth 20000
set_option maxHeartbeats 2000000 in
theorem at_some (B lb : Nat) (base term : Int) (v : Value) (es : List En) (i : Int) (k : Nat) (x : En) (w : World) (hi : i = base + 1 + k) (hx : es[k]? = some x) (hL : LogAt w B lb base term v es) (hN : LogNums base es.length i) (hq : EnsArg es) :
    Calls Try.prog 43 #[.pointer (some ⟨lb, 0, none⟩), .int .i64 i] w (AtAt (x.plain, true) w) := by
  obtain ⟨a, c, hv⟩ := hL.form
  subst hv
  have hkn : k < es.length := (List.getElem?_eq_some_iff.1 hx).1
  have hb0 := (Below.refl w.heap.size w).alloc (Nat.le_refl _) (.cells zeroEnA 59)
  have hk0 := heap_alloc_new w (.cells zeroEnA 59)
  have HB0 := Lib.hid hb0
  have HK0 := Lib.hid hk0
  have HL := Lib.hid (hL.below hb0 (Nat.le_refl _))
  have hcap := own_capG hL.ens.row
  obtain ⟨n, hn⟩ : ∃ n, es.length = n := ⟨_, rfl⟩
  have hp : placeS base n i = ((k : Int), true) := by unfold placeS; rw [if_pos (by omega)]; rw [hi]; congr 1; omega
  have HP := Lib.hid hp
  rw [hn] at hN hkn hcap
  have HEN := Lib.hid hn
  have HN := Lib.hid hN
  have HX := Lib.hid hx
  have HQ := Lib.hid (show EnsArg [x] from ⟨fun y hy => by rw [List.mem_singleton.1 hy]; exact hq.1 x (List.mem_of_getElem? hx), fun y hy => by rw [List.mem_singleton.1 hy]; exact hq.2 x (List.mem_of_getElem? hx)⟩)
  have hsl : ∀ w', (Instr.sliceAt 22 (.slice a n c) (some (.int .i64 (k : Int))) (some (.int .i64 ((k : Int) + 1))) (some (.int .i64 ((k : Int) + 1)))).run Try.prog w' = .ok (.slice (subA a (k + 1) k 9) 1 1) w' := fun w' => by
    have h := run_sub_lhm sliceEn sizeEn a n c k (k + 1) (by omega) (by omega) .i64 .i64 .i64 (k : Int) ((k : Int) + 1) rfl (by omega) w'
    rwa [show k + 1 - k = 1 by omega] at h
  have w1 : IntKind.i64.wrap ((k : Int) + 1) = (k : Int) + 1 := IntWalk.i64_in _ (by have := hN.2.2.2.2; omega)
  clear hb0 hk0 hL hp hN hx hq hn hi
  dsimp only [zeroEnA] at HB0 HK0 HL
  go_enter Try.func43, Try.ntmps43
  go_upto_region 1 with fail
  generalize w.alloc (.cells #[.int .i64 0, .int .u8 0, .int .i64 0, .int .i64 0, .int .u8 0, .string ⟨#[]⟩, .slice none 0 0, .int .i64 0, .slice none 0 0] 59) = w0 at HB0 HK0 HL ⊢
  go_wp2_with fail
  refine (place_at lb base a n c i k true w0 HP.out HL.out.c0 HL.out.c1 (by have := HL.out.c3; rw [HEN.out] at this; exact this) ⟨HN.out.1, HN.out.2.1⟩ ⟨HN.out.2.2.1, HN.out.2.2.2.1⟩ HN.out.2.2.2.2).mono ?_
  rintro e w2 ⟨rfl, hb1⟩
  have hL2 := HL.out.below hb1 (Nat.le_refl _)
  have d3 : w2.cell? ⟨lb, 3, none⟩ = some (.slice a n c) := by have := hL2.c3; rw [HEN.out] at this; exact this
  have hlt := (Array.getElem?_eq_some_iff.1 HK0.out).1
  have HK2 := Lib.hid ((hb1.block w.heap.size hlt).trans HK0.out)
  have HB2 := Lib.hid (HB0.out.trans (hb1.mono HB0.out.size))
  have hsub : EnsIn w2 w2.heap.size (subA a (k + 1) k 9) [x] := by
    obtain ⟨a', c', hv, _, _, hin⟩ := hL2.ens.lie
    cases hv
    have h := EnsIn.sub (c := k + 1) (RowsIn.take (k + 1) hin) k 1 (by simp; omega) (by rw [List.length_take, HEN.out]; omega)
    have e : ((es.take (k + 1)).drop k).take 1 = [x] := by
      apply List.ext_getElem?
      intro j
      rw [List.getElem?_take, List.getElem?_drop, List.getElem?_take]
      cases j with
      | zero => simpa using HX.out
      | succ j => simp
    rwa [e] at h
  have hnil : subA a (k + 1) k 9 = none → (1 : Nat) = 0 := fun h => by
    have h1 := subA_eq_none h
    have h2 := own_none hL2.ens.row h1
    omega
  have HSUB := Lib.hid hsub
  have HNIL := Lib.hid hnil
  clear hL2 hb1 hsub hnil hlt
  go_wp2_with fail
  refine (copied_at (subA a (k + 1) k 9) 1 1 [x] [x.plain] w2 w2.heap.size rfl rfl HSUB.out (Nat.le_refl _) HNIL.out (by omega) HQ.out).mono ?_
  rintro e w3 ⟨a3, c3, es3, rfl, ho3, hm3, hb3⟩
  obtain ⟨y, rfl⟩ : ∃ y, es3 = [y] := by
    match es3, hm3 with
    | [y], _ => exact ⟨y, rfl⟩
    | [], h => simp at h
    | _ :: _ :: _, h => simp at h
  have hyp : y.plain = x.plain := by simpa using hm3
  obtain ⟨g3, c3', hg3⟩ := Go.Joins.ownsRow_form ho3.row (by simp)
  injection hg3 with hg4 hgx hg5
  subst hg4
  clear hgx hg5
  have hrow := ho3.row
  have HYS := Lib.hid (ho3.own y (List.mem_singleton.2 rfl))
  have HYP := Lib.hid hyp
  have hk3 := (hb3.block w.heap.size (Array.getElem?_eq_some_iff.1 HK2.out).1).trans HK2.out
  have HK3 := Lib.hid hk3
  have HB3 := Lib.hid (HB2.out.trans (hb3.mono HB2.out.size))
  have HZ2 := Lib.hid HB2.out.size
  have HLT2 := Lib.hid (Array.getElem?_eq_some_iff.1 HK2.out).1
  clear ho3 hm3 hyp hb3
  have hrg : w3.rangeAt g3 0 (enCells y) := fun j u hu => by
    have hj : j < 9 := (List.getElem?_eq_some_iff.1 hu).1
    have := World.ownsRow.cellAt hrow j (by simpa using hj)
    rw [Nat.zero_add, this]
    simpa using hu
  have HRG := Lib.hid hrg
  clear hrg
  clear hrow hk3 hsl d3 w1
  go_wp2_with (first | (refine wpList_load_mid rfl 59 (.tmp 28) rfl g3 0 rfl (enCells y) _ HRG.out Try.underlying59 rfl (info_enL y) ?_) | (refine wpList_store_row rfl 59 (.tmp 4) (.tmp 29) rfl w.heap.size (enCells y).toArray rfl rfl 59 _ HK3.out (info_enC y) rfl (enArr_one y) ?_))
  have hk9 := setRow_heap w3 w.heap.size _ (enCells y).toArray _ _ HK3.out
  have hg9 := grown_row w3 w.heap.size (enCells y).toArray
  generalize w3.setRow w.heap.size (enCells y).toArray = w9 at hk9 hg9 ⊢
  have hown : enOwn w9 w2.heap.size y := ⟨World.ownsRow.kept HYS.out.1 hg9 (Or.inr fun e => by have h1 := (World.ownsRow.lt HYS.out.1 _ e).1; have := HLT2.out; omega), World.ownsRow.kept HYS.out.2 hg9 (Or.inr fun e => by have h1 := (World.ownsRow.lt HYS.out.2 _ e).1; have := HLT2.out; omega)⟩
  refine bodyPost_ret (results_cell_row_ld rfl _ _ w.heap.size 59 _ _ _ _ rfl rfl hk9 Try.underlying59 rfl (info_enC y)) rfl ⟨y, rfl, HYP.out, hown.sub, ?_, HB3.out.grown hg9 HB3.out.size (fun k hk => by cases hk; exact Nat.le_refl _)⟩
  exact ⟨own_none hown.1, own_none hown.2⟩
end Go.Proofs.Ytljfanhkbbfngaa
/- Steps of a region that draws its order, guarded operations included, each taken by its number. Any program. Conditions: as each says. -/
namespace Go.Proofs.Ytljfanhkbbfngaa
open Go.RowKit
variable {P : Program} {md : Region.Mode} {ops : Array Oper} {Q : Exit → Act → World → Prop}
end Go.Proofs.Ytljfanhkbbfngaa
/- Steps of a region that draws its order, guarded operations and loads included, each taken by its number, in worlds of which something is kept. Any program. Conditions: as each says. -/
namespace Go.Proofs.Ytljfanhkbbfngaa
open Go.RowKit
variable {P : Program} {md : Region.Mode} {ops : Array Oper} {Q : Exit → Act → World → Prop} {S : World → Prop}
theorem takeS_no (i : Nat) {oi : Oper} {fuel : Nat} {listed : Array Bool} {a : Act} {w : World} (hi : ops.toList[i]? = some oi) (hs : Region.noSelect ops = true) (hf : Region.free md ops listed i = true) (hr : (Region.ready md ops listed).contains i = true)
    (hQ : ∀ c a w, Q (.panic c) (a.put oi.dst undef) w → Q (.panic c) a w) (hw : Region.wanted oi (yielded ops a.tmps) = false) (hS : S w) (h : wpAnyH P md ops Q S fuel (listed.setIfInBounds i true) (a.put oi.dst undef) w) : wpAnyH P md ops Q S (fuel + 1) listed a w :=
  wpAnyH_take (by rw [← Array.getElem?_toList]; exact hi) hs hf hr hQ (Or.inr ⟨hw, rfl⟩) hS h
/-- An operation that yields the same in whatever world of the kind. -/
theorem takeS_yes (i : Nat) {oi : Oper} {v : Value} {fuel : Nat} {listed : Array Bool} {a : Act} {w : World} (hi : ops.toList[i]? = some oi) (hs : Region.noSelect ops = true) (hf : Region.free md ops listed i = true) (hr : (Region.ready md ops listed).contains i = true)
    (hQ : ∀ c a w, Q (.panic c) (a.put oi.dst v) w → Q (.panic c) a w) (hw : Region.wanted oi (yielded ops a.tmps) = true) (hS : S w) (hy : ∀ w, S w → (execOp a.eval oi).run P w = .ok (.value v) w) (h : wpAnyH P md ops Q S fuel (listed.setIfInBounds i true) (a.put oi.dst v) w) : wpAnyH P md ops Q S (fuel + 1) listed a w :=
  wpAnyH_take (by rw [← Array.getElem?_toList]; exact hi) hs hf hr hQ (Or.inl ⟨hw, hy⟩) hS h
/-- An operation that alone may come up. -/
theorem takeS_alone (i : Nat) {oi : Oper} {fuel : Nat} {listed : Array Bool} {a : Act} {w : World} (hi : ops.toList[i]? = some oi) (hr : Region.ready md ops listed = [i]) (hw : Region.wanted oi (yielded ops a.tmps) = true)
    (h : ∀ K' : Act → World → Prop, Shut (∀ a w, S w → wpAnyH P md ops Q S fuel (listed.setIfInBounds i true) a w → K' a w) → Oper.wp P oi a w K' Q) : wpAnyH P md ops Q S (fuel + 1) listed a w :=
  wpAnyH_ready (rs := [i]) hr (by simp) (AllReadyH.cons (by rw [← Array.getElem?_toList]; exact hi) (fun K hK => by rw [if_pos hw]; exact h K (fun a w hS hW => hK.out a w hS (fun _ => hW))) AllReadyH.nil)
theorem heldS_begin {id : Nat} {a : Act} {w : World} (S : World → Prop) (hm : P.follows .mixedOrders = true) (hS : S w.drew) (h : S w.drew → wpAnyH P .any ops Q S ops.size (Array.replicate ops.size false) a w.drew) : (Code.region id ops true).wp P Q a w :=
  wp_region_held_drew hm hS h
end Go.Proofs.Ytljfanhkbbfngaa
