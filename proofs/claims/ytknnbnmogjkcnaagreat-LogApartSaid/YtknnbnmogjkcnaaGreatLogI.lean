/- A log, told by what its entries say. Conditions: the log is one that was made; its numbers are not too great. -/
import Derived.Test.YtknnbnmogjkcnaaGreatLogH
namespace Go.Proofs.YtknnbnmogjkcnaaGreat
open Go.RowKit
set_option maxRecDepth 20000

/-- A log whose entries say ps. -/
def LogIs (w : World) (B lb : Nat) (base term : Int) (ps : List EnP) : Prop := ∃ v es, LogAt w B lb base term v es ∧ es.map En.plain = ps
def PSmall (ps : List EnP) : Prop := ∀ p ∈ ps, p.args.length ≤ 1099511627776 ∧ p.vs.length ≤ 1099511627776
theorem LogIs.below {w w' : World} {B B' lb : Nat} {base term : Int} {ps : List EnP} (h : LogIs w B lb base term ps) (hb : Below B' w w') (hB : w.heap.size ≤ B') : LogIs w' B lb base term ps := by
  obtain ⟨v, es, h1, h2⟩ := h
  exact ⟨v, es, h1.below hb hB, h2⟩
theorem LogIs.lt {w : World} {B lb : Nat} {base term : Int} {ps : List EnP} (h : LogIs w B lb base term ps) : B ≤ lb ∧ lb < w.heap.size := by
  obtain ⟨v, es, h1, h2⟩ := h
  exact ⟨h1.low, h1.lt⟩
theorem LogIs.le {w : World} {B B' lb : Nat} {base term : Int} {ps : List EnP} (h : LogIs w B lb base term ps) (hB : B' ≤ B) : LogIs w B' lb base term ps := by
  obtain ⟨v, es, h1, h2⟩ := h
  exact ⟨v, es, h1.le hB, h2⟩
theorem ensArg_own {w : World} {B : Nat} {v : Value} {es : List En} (h : EnsOwn w B v es) (hp : PSmall (es.map En.plain)) : EnsArg es :=
  ⟨fun x hx => hp x.plain (List.mem_map.2 ⟨x, hx, rfl⟩), fun x hx => ⟨own_none (h.own x hx).1, own_none (h.own x hx).2⟩⟩
theorem len_map {es : List En} {ps : List EnP} (h : es.map En.plain = ps) : es.length = ps.length := by rw [← h, List.length_map]
theorem plainB_mem {es : List En} (h : plainB es = true) {x : En} (hx : x ∈ es) : x.vs.length + x.args.length + x.text.size ≤ 100 := by
  have := List.all_eq_true.1 h x hx
  simpa [light1] using this
theorem EnWf.argOf {es : List En} (h : ∀ e ∈ es, EnWf e) (hp : plainB es = true) : EnsArg es := ⟨fun x hx => ⟨by have := plainB_mem hp hx; omega, by have := plainB_mem hp hx; omega⟩, fun x hx => ⟨(h x hx).anil, (h x hx).vnil⟩⟩
theorem psmall_plain {es : List En} (hp : plainB es = true) : PSmall (es.map En.plain) := fun p hp' => by
  obtain ⟨x, hx, rfl⟩ := List.mem_map.1 hp'
  have := plainB_mem hp hx
  exact ⟨by show x.args.length ≤ _; omega, by show x.vs.length ≤ _; omega⟩
theorem PSmall.append {a b : List EnP} (ha : PSmall a) (hb : PSmall b) : PSmall (a ++ b) := fun p hp => (List.mem_append.1 hp).elim (ha p) (hb p)
theorem PSmall.take {a : List EnP} (ha : PSmall a) (n : Nat) : PSmall (a.take n) := fun p hp => ha p (List.mem_of_mem_take hp)
theorem PSmall.drop {a : List EnP} (ha : PSmall a) (n : Nat) : PSmall (a.drop n) := fun p hp => ha p (List.mem_of_mem_drop hp)

theorem new_is (base term : Int) (ao : Option Addr) (n cap : Nat) (xs : List En) (w : World) (B : Nat) (hb : 0 ≤ base ∧ base ≤ 1099511627776) (ht : 0 ≤ term ∧ term ≤ 1099511627776) (hn : xs.length = n) (hx : EnsIn w B ao xs) (hB : B ≤ w.heap.size) (hao : ao = none → cap = 0) (hl : n ≤ 1099511627776) (hq : EnsArg xs) :
    Calls Tryz.prog 6 #[.int .i64 base, .int .i64 term, .slice ao n cap] w fun e w' => ∃ lb, e = .returned (.pointer (some ⟨lb, 0, none⟩)) ∧ LogIs w' w.heap.size lb base term (xs.map En.plain) ∧ Below w.heap.size w w' :=
  (new_any base term ao n cap xs w B hb ht hn hx hB hao hl hq).mono fun _ _ ⟨lb, v, es, h1, h2, h3, h4⟩ => ⟨lb, h1, ⟨v, es, h2, h3⟩, h4⟩
theorem term_is (B lb : Nat) (base term : Int) (ps : List EnP) (i : Int) (r : Int) (ok : Bool) (w : World) (hr : termS base term ps i = (r, ok)) (hL : LogIs w B lb base term ps) (hN : LogNums base ps.length i) :
    Calls Tryz.prog 10 #[.pointer (some ⟨lb, 0, none⟩), .int .i64 i] w fun e w' => e = .returned (.tuple #[.int .i64 r, .bool ok]) ∧ Below w.heap.size w w' := by
  obtain ⟨v, es, h1, rfl⟩ := hL
  rw [List.length_map] at hN
  exact term_any B lb base term v es i r ok w hr h1 hN
theorem last_is (B lb : Nat) (base term : Int) (ps : List EnP) (r t : Int) (w : World) (hr : lastS base term ps = (r, t)) (hL : LogIs w B lb base term ps) (hN : LogNums base ps.length 0) :
    Calls Tryz.prog 12 #[.pointer (some ⟨lb, 0, none⟩)] w fun e w' => e = .returned (.tuple #[.int .i64 r, .int .i64 t]) ∧ Below w.heap.size w w' := by
  obtain ⟨v, es, h1, rfl⟩ := hL
  rw [List.length_map] at hN
  exact last_any B lb base term v es r t w hr h1 hN
theorem from_is (B lb : Nat) (base term : Int) (ps qs : List EnP) (i most : Int) (w : World) (hr : fromS base ps i most = qs) (hL : LogIs w B lb base term ps) (hN : LogNums base ps.length i) (hB : B ≤ w.heap.size) (hps : PSmall ps) (hmost : most ≤ 1152921504606846976) :
    Calls Tryz.prog 8 #[.pointer (some ⟨lb, 0, none⟩), .int .i64 i, .int .i64 most] w (FromAt qs w) := by
  subst hr
  obtain ⟨v, es, h1, rfl⟩ := hL
  rw [List.length_map] at hN
  unfold fromS
  rw [List.length_map]
  by_cases hc : (placeS base es.length i).2 = false ∨ most < 1
  · rw [if_pos hc]
    exact (from_none B lb base term v es i most w hc h1 hN).mono fun e w' ⟨he, hb⟩ => ⟨none, 0, [], he, EnsOwn.nil _ _, rfl, hb⟩
  · rw [if_neg hc]
    have hm : 1 ≤ most := by
      rcases Int.lt_or_le most 1 with h | h
      · exact absurd (Or.inr h) hc
      · exact h
    have hp : base < i ∧ i - base ≤ es.length := by
      by_cases h : base < i ∧ i - base ≤ es.length
      · exact h
      · exact absurd (Or.inl (by unfold placeS; rw [if_neg h])) hc
    obtain ⟨k, hk⟩ : ∃ k : Nat, i = base + 1 + k := ⟨(i - base - 1).toNat, by omega⟩
    obtain ⟨m, hm2⟩ : ∃ m : Nat, (m : Int) = min most (es.length - k) := ⟨(min most ((es.length : Int) - k)).toNat, by omega⟩
    have h := from_some B lb base term v es i most k m w hk (by omega) hm hm2 h1 hN hB (ensArg_own h1.ens hps) hmost
    have e1 : (i - base - 1).toNat = k := by omega
    have e2 : (((es.map En.plain).drop k).take most.toNat) = (((es.map En.plain).drop k).take m) := by
      by_cases hle : most ≤ es.length - k
      · have : m = most.toNat := by omega
        rw [this]
      · have hl : ((es.map En.plain).drop k).length = es.length - k := by rw [List.length_drop, List.length_map]
        rw [List.take_of_length_le (by rw [hl]; omega), List.take_of_length_le (by rw [hl]; omega)]
    rw [e1, e2]
    exact h
theorem append_is (B lb : Nat) (base term : Int) (ps : List EnP) (ao : Option Addr) (m cap : Nat) (xs : List En) (r : Int) (w : World) (B2 : Nat) (hr : r = base + ps.length + 1) (hL : LogIs w B lb base term ps) (hN : LogNums base ps.length 0) (hB : B ≤ w.heap.size) (hn : xs.length = m) (hm : 0 < m) (hx : EnsIn w B2 ao xs) (hB2 : B2 ≤ w.heap.size) (hao : ao = none → cap = 0) (hl : m ≤ 1099511627776) (hnm : ps.length + m ≤ 1099511627776) (hq : EnsArg xs) :
    Calls Tryz.prog 9 #[.pointer (some ⟨lb, 0, none⟩), .slice ao m cap] w fun e w' => e = .returned (.int .i64 r) ∧ LogIs w' B lb base term (ps ++ xs.map En.plain) ∧ Below B w w' := by
  obtain ⟨v, es, h1, rfl⟩ := hL
  rw [List.length_map] at hN hr hnm
  subst hr
  refine (append_any B lb base term v es ao m cap xs w B2 h1 hN hB hn hm hx hB2 hao hl hnm hq).mono fun e w' ⟨v', es2, g1, g2, g3, g4⟩ => ⟨g1, ⟨v', es ++ es2, g2, ?_⟩, g4⟩
  rw [List.map_append, g3]
theorem compact_is (B lb : Nat) (base term t : Int) (ps : List EnP) (k : Nat) (i : Int) (w : World) (hi : i = base + k) (hk : k ≤ ps.length) (hr : termS base term ps i = (t, true)) (hL : LogIs w B lb base term ps) (hN : LogNums base ps.length i) (hB : B ≤ w.heap.size) :
    Calls Tryz.prog 13 #[.pointer (some ⟨lb, 0, none⟩), .int .i64 i] w fun e w' => e = .returned (.int .i64 0) ∧ LogIs w' B lb i t (ps.drop k) ∧ Below B w w' := by
  obtain ⟨v, es, h1, rfl⟩ := hL
  rw [List.length_map] at hN hk
  refine (compact_any B lb base term t v es k i w hi hk hr h1 hN hB).mono fun e w' ⟨v', g1, g2, g3⟩ => ⟨g1, ⟨v', es.drop k, g2, ?_⟩, g3⟩
  rw [List.map_drop]
theorem compact_no_is (B lb : Nat) (base term : Int) (ps : List EnP) (i r : Int) (w : World) (hr : termS base term ps i = (r, false)) (hL : LogIs w B lb base term ps) (hN : LogNums base ps.length i) :
    Calls Tryz.prog 13 #[.pointer (some ⟨lb, 0, none⟩), .int .i64 i] w fun e w' => e = .returned (.int .i64 2) ∧ Below w.heap.size w w' := by
  obtain ⟨v, es, h1, rfl⟩ := hL
  rw [List.length_map] at hN
  exact compact_no B lb base term v es i r w hr h1 hN
theorem fit_no_is (B lb : Nat) (base term : Int) (ps : List EnP) (i t r : Int) (ok : Bool) (ms : Value) (w : World) (hr : termS base term ps i = (r, ok)) (hno : ok = true → r ≠ t) (hL : LogIs w B lb base term ps) (hN : LogNums base ps.length i) :
    Calls Tryz.prog 11 #[.pointer (some ⟨lb, 0, none⟩), .int .i64 i, .int .i64 t, ms] w fun e w' => e = .returned (.tuple #[.bool false, .int .i64 0]) ∧ Below w.heap.size w w' := by
  obtain ⟨v, es, h1, rfl⟩ := hL
  rw [List.length_map] at hN
  exact fit_no B lb base term v es i t r ok ms w hr hno h1 hN
/-- Up to k the entries are there. -/
structure FitTo (base term : Int) (ps : List EnP) (i : Int) (ms : List EnP) (k : Nat) : Prop where
  le : k ≤ ms.length
  same : ∀ j x, j < k → ms[j]? = some x → termS base term ps (i + 1 + j) = (x.term, true)
  stop : ∀ x, ms[k]? = some x → ∀ r ok, termS base term ps (i + 1 + k) = (r, ok) → ok = true → r ≠ x.term
theorem fit_to (base term : Int) (ps : List EnP) (i : Int) : ∀ ms : List EnP, ∃ k, FitTo base term ps i ms k := by
  intro ms
  by_cases h : ∃ k, k < ms.length ∧ ∃ x, ms[k]? = some x ∧ termS base term ps (i + 1 + k) ≠ (x.term, true)
  · obtain ⟨k, hk⟩ := h
    have key : ∀ n, ∀ k, k ≤ n → (k < ms.length ∧ ∃ x, ms[k]? = some x ∧ termS base term ps (i + 1 + k) ≠ (x.term, true)) → ∃ k0, FitTo base term ps i ms k0 := by
      intro n
      induction n with
      | zero =>
        intro k hk0 ⟨h1, x, h2, h3⟩
        obtain rfl : k = 0 := by omega
        refine ⟨0, Nat.zero_le _, fun j y hj => absurd hj (Nat.not_lt_zero j), fun y hy r ok hr ho => ?_⟩
        rw [h2] at hy
        obtain rfl := Option.some.inj hy
        rintro rfl
        subst ho
        exact h3 hr
      | succ n ih =>
        intro k hk0 ⟨h1, x, h2, h3⟩
        by_cases hb : ∃ j, j < k ∧ ∃ y, ms[j]? = some y ∧ termS base term ps (i + 1 + j) ≠ (y.term, true)
        · obtain ⟨j, hj, y, hy, hn⟩ := hb
          exact ih j (by omega) ⟨by omega, y, hy, hn⟩
        · refine ⟨k, by omega, fun j y hj hy => ?_, fun y hy r ok hr ho => ?_⟩
          · by_cases he : termS base term ps (i + 1 + j) = (y.term, true)
            · exact he
            · exact absurd ⟨j, hj, y, hy, he⟩ hb
          · rw [h2] at hy
            obtain rfl := Option.some.inj hy
            rintro rfl
            subst ho
            exact h3 hr
    exact key k k (Nat.le_refl _) hk
  · refine ⟨ms.length, Nat.le_refl _, fun j x hj hx => ?_, fun x hx => by simp at hx⟩
    by_cases he : termS base term ps (i + 1 + j) = (x.term, true)
    · exact he
    · exact absurd ⟨j, hj, x, hx, he⟩ h
/-- What Fit makes of a log. -/
def FitIs (B lb : Nat) (base term : Int) (ps ms : List EnP) (i : Int) (k : Nat) (w : World) (e : Ending) (w' : World) : Prop :=
  e = .returned (.tuple #[.bool true, .int .i64 (if k = ms.length then 0 else i + 1 + k)]) ∧ LogIs w' B lb base term (if k = ms.length then ps else ps.take (i - base + k).toNat ++ ms.drop k) ∧ Below B w w'
theorem fit_is (B lb : Nat) (base term : Int) (ps : List EnP) (i t : Int) (ao : Option Addr) (m cap : Nat) (xs : List En) (k : Nat) (w : World) (B2 : Nat) (hr : termS base term ps i = (t, true)) (hk : FitTo base term ps i (xs.map En.plain) k)
    (hL : LogIs w B lb base term ps) (hN : LogNums base ps.length i) (hi : i ≤ 1099511627776) (hB : B ≤ w.heap.size) (hn : xs.length = m) (hx : EnsIn w B2 ao xs) (hB2 : B2 ≤ w.heap.size) (hao : ao = none → cap = 0) (hcap : m ≤ cap) (hl : m ≤ 1099511627776) (hnm : ps.length + m ≤ 1099511627776) (hqa : EnsArg xs) :
    Calls Tryz.prog 11 #[.pointer (some ⟨lb, 0, none⟩), .int .i64 i, .int .i64 t, .slice ao m cap] w (FitIs B lb base term ps (xs.map En.plain) i k w) := by
  obtain ⟨v, es, h1, rfl⟩ := hL
  rw [List.length_map] at hN hnm
  obtain ⟨k1, k2, k3⟩ := hk
  rw [List.length_map] at k1
  have hq0 : 0 ≤ i - base ∧ i - base ≤ es.length := by
    unfold termS at hr
    rw [List.length_map] at hr
    split at hr
    · omega
    · split at hr
      · omega
      · simp at hr
  have hq : i - base + k ≤ es.length := by
    by_cases h0 : k = 0
    · omega
    · have hlt : k - 1 < (xs.map En.plain).length := by rw [List.length_map]; omega
      have := k2 (k - 1) _ (by omega) (List.getElem?_eq_getElem hlt)
      unfold termS at this
      rw [List.length_map] at this
      split at this
      · omega
      · split at this
        · omega
        · simp at this
  refine (fit_any B lb base term v es i t ao m cap xs k w B2 hr (by omega) (fun j x hj hx => ?_) (fun x hx => ?_) h1 hN hi hq0.1 hq hB hn hx hB2 hao hcap hl hnm hqa).mono fun e w' hp => ?_
  · exact k2 j x.plain hj (by rw [List.getElem?_map, hx]; rfl)
  · exact k3 x.plain (by rw [List.getElem?_map, hx]; rfl)
  · unfold FitIs
    rw [List.length_map, hn]
    rcases hp with ⟨e1, e2, e3⟩ | ⟨e1, v', es', e2, e3, e4, e5⟩
    · rw [if_pos e1, if_pos e1]
      exact ⟨e2, ⟨v, es, h1.below e3 (Nat.le_refl _), rfl⟩, e3.mono hB⟩
    · rw [if_neg (by omega), if_neg (by omega)]
      exact ⟨e2, ⟨v', es', e3, e4⟩, e5⟩
end Go.Proofs.YtknnbnmogjkcnaaGreat
