/- A deed under way: what its parts leave. Conditions: as each says. -/
import Derived.Test.YtljfanhkbbfngaaGLogDoes13
set_option linter.unusedVariables false
set_option linter.unusedSimpArgs false
namespace Go.Proofs.Ytljfanhkbbfngaa
open Go.RowKit
set_option maxRecDepth 20000
theorem Room.up {w : World} {B T T' n c : Nat} {E : TypeId} {SZ : Nat} {a : Option Addr} (h : Room w B T E SZ a n c) (hT : T ≤ T') : Room w B T' E SZ a n c := by
  obtain ⟨g, h1, h2, h3, h4, h5⟩ := h
  exact ⟨g, h1, h2, by omega, h4, h5⟩
theorem Lent.up {w : World} {lo hi hi' g n : Nat} {frs : List En} (h : Lent w lo hi g n frs) (hT : hi ≤ hi') : Lent w lo hi' g n frs :=
  ⟨h.lent, fun f hf => ⟨(h.rooms f hf).args.up hT, (h.rooms f hf).vs.up hT⟩, h.room.up hT⟩
theorem Lent.nils {w : World} {lo hi g n : Nat} {frs : List En} (h : Lent w lo hi g n frs) : ∀ f ∈ frs, EnNil f := fun f hf => by
  obtain ⟨⟨g1, h1, _⟩, ⟨g2, h2, _⟩⟩ := h.lent.lent f hf
  constructor <;> intro e <;> simp_all
theorem ens_sub {w : World} {B n c : Nat} {es : List En} {a : Option Addr} (h : EnsOwn w B (.slice a n c) es) : es.length = n ∧ (a = none → c = 0) ∧ EnsIn w w.heap.size a es ∧ n ≤ c := by
  obtain ⟨a', c', h1, h2, h3, h4⟩ := h.lie
  simp only [Value.slice.injEq] at h1
  obtain ⟨rfl, rfl, rfl⟩ := h1
  exact ⟨rfl, h3, h4, h2⟩
theorem Both.mono {w : World} {B lb rb : Nat} {base term : Int} {v rv : Value} {es fs : List En} {s s' : Int} {n n' : Nat} (h : Both w B lb rb base term v es rv fs s n) (hs : s ≤ s') (hn : n ≤ n') : Both w B lb rb base term v es rv fs s' n' :=
  ⟨h.log, h.ref, h.far, h.same, h.b0, by have := h.sum; omega, by have := h.len; omega, h.small⟩
/-- A deed is under way. -/
structure Way (w3 w4 : World) (B lb rb g m gd : Nat) (base term : Int) (v : Value) (es : List En) (rv : Value) (fs : List En) (s : Int) (n : Nat) (frs : List En) (cs : Array Value) (E : TypeId) : Prop where
  both : Both w3 B lb rb base term v es rv fs s n
  sub : Below w3.heap.size w3 w4
  lent : Lent w4 w3.heap.size w4.heap.size g m frs
  box : w4.heap[gd]? = some (.cells cs E (0, 0))
  aside : Aside gd lb rb v
  lt : gd < w3.heap.size
  flen : frs.length = m
  m30 : m ≤ 30
  small : SmallE frs
theorem Way.next {w3 w4 w5 : World} {B lb rb g m gd : Nat} {base term : Int} {v rv : Value} {es fs : List En} {s : Int} {n : Nat} {frs : List En} {cs : Array Value} {E : TypeId} (h : Way w3 w4 B lb rb g m gd base term v es rv fs s n frs cs E) (hb : Below w4.heap.size w4 w5) : Way w3 w5 B lb rb g m gd base term v es rv fs s n frs cs E :=
  ⟨h.both, h.sub.trans (hb.mono h.sub.size), (h.lent.below hb).up hb.size, (hb.block gd (by have := h.lt; have := h.sub.size; omega)).trans h.box, h.aside, h.lt, h.flen, h.m30, h.small⟩
theorem Way.log {w3 w4 : World} {B lb rb g m gd : Nat} {base term : Int} {v rv : Value} {es fs : List En} {s : Int} {n : Nat} {frs : List En} {cs : Array Value} {E : TypeId} (h : Way w3 w4 B lb rb g m gd base term v es rv fs s n frs cs E) : LogAt w4 B lb base term v es := h.both.log.below h.sub (Nat.le_refl _)
theorem Way.ref {w3 w4 : World} {B lb rb g m gd : Nat} {base term : Int} {v rv : Value} {es fs : List En} {s : Int} {n : Nat} {frs : List En} {cs : Array Value} {E : TypeId} (h : Way w3 w4 B lb rb g m gd base term v es rv fs s n frs cs E) : RfAt w4 B rb base term rv fs := h.both.ref.below h.sub (Nat.le_refl _)
theorem Way.own {w3 w4 : World} {B lb rb g m gd : Nat} {base term : Int} {v rv : Value} {es fs : List En} {s : Int} {n : Nat} {frs : List En} {cs : Array Value} {E : TypeId} (h : Way w3 w4 B lb rb g m gd base term v es rv fs s n frs cs E) : EnsIn w4 w4.heap.size (some ⟨g, 0, none⟩) frs ∧ EnsArg frs := ⟨h.lent.lent.rows h.flen, h.small.small, h.lent.nils⟩
/-- A deed is done, its own entries not yet written over. -/
structure Done (w7 : World) (B lb rb lo hi g m gd : Nat) (s : Int) (n : Nat) (frs : List En) (cs : Array Value) (E : TypeId) : Prop where
  aft : Aft w7 B lb rb lo hi s n
  lent : Lent w7 lo hi g m frs
  box : w7.heap[gd]? = some (.cells cs E (0, 0))
  hi : hi ≤ w7.heap.size
  lt : gd < lo
theorem Done.next {w7 w8 : World} {B lb rb lo hi g m gd : Nat} {s : Int} {n : Nat} {frs : List En} {cs : Array Value} {E : TypeId} (h : Done w7 B lb rb lo hi g m gd s n frs cs E) (hb : Below w7.heap.size w7 w8) : Done w8 B lb rb lo hi g m gd s n frs cs E :=
  ⟨h.aft.below hb, h.lent.below hb, (hb.block gd (Array.getElem?_eq_some_iff.1 h.box).1).trans h.box, Nat.le_trans h.hi hb.size, h.lt⟩
theorem Way.read {w3 w4 w7 : World} {B lb rb g m gd : Nat} {base term : Int} {v rv : Value} {es fs : List En} {s : Int} {n : Nat} {frs : List En} {cs : Array Value} {E : TypeId} (h : Way w3 w4 B lb rb g m gd base term v es rv fs s n frs cs E) (hb : Below w4.heap.size w4 w7) : Done w7 B lb rb w3.heap.size w4.heap.size g m gd (s + 30) (n + 30) frs cs E := by
  have hb2 := h.both.mono (s' := s + 30) (n' := n + 30) (by omega) (by omega)
  obtain ⟨q1, q2, q3⟩ := aft_step (n' := n + 30) (s' := s + 30) (w5 := w4) (w6 := w4) (w7 := w7) (es' := es) (fs' := fs) (xs := []) h.both h.sub (turned_same (Below.refl _ _)) h.log (Nat.le_refl _) (Below.refl _ _) (RTurned.same hb) (h.ref.below hb (Nat.le_refl _)) (fun e he => nomatch he) h.both.same h.both.b0 hb2.sum hb2.len h.both.small h.lent h.box h.aside h.lt
  exact ⟨q1, q2, q3, hb.size, h.lt⟩
theorem Way.rf {w3 w4 w5 w6 : World} {B lb rb g m gd : Nat} {base term : Int} {v v' rv : Value} {es es' fs : List En} {s : Int} {n : Nat} {frs : List En} {cs : Array Value} {E : TypeId} (h : Way w3 w4 B lb rb g m gd base term v es rv fs s n frs cs E) (ht : Turned lb v v' es es' w4 w5) (hs : w4.heap.size ≤ w5.heap.size) (hb : Below w5.heap.size w5 w6) : RfAt w6 B rb base term rv fs := rf_mid h.ref h.both.far ht hs hb
theorem Way.copies {w3 w4 w5 w6 : World} {B lb rb g m gd : Nat} {base term : Int} {v rv : Value} {es fs : List En} {s : Int} {n : Nat} {frs : List En} {cs : Array Value} {E : TypeId} {cv : Value} {cps : List En} (h : Way w3 w4 B lb rb g m gd base term v es rv fs s n frs cs E) (hs : w4.heap.size ≤ w5.heap.size) (hc : EnsOwn w6 w5.heap.size cv cps) (hp : cps.map En.plain = frs.map En.plain) :
    (∀ e ∈ cps, enK (fun g => w5.heap.size ≤ g) e) ∧ (∀ e ∈ cps, enK (fun g => g ≠ rb) e) ∧ SmallE cps ∧ EnsArg cps ∧ cps.length = m := by
  have hsm : SmallE cps := SmallE.of_same h.small hp
  have hlt := h.ref.lt
  refine ⟨fun e he => enK_own (hc.own e he) fun g h1 _ => h1, fun e he => enK_own (hc.own e he) fun g h1 _ => by omega, hsm, own_arg hc hsm, ?_⟩
  have := congrArg List.length hp
  rw [List.length_map, List.length_map, h.flen] at this
  exact this
theorem SmallE.part {es xs ys : List En} (h : SmallE xs) (h2 : SmallE ys) (hs : ∀ e ∈ es, e ∈ xs ∨ e ∈ ys) : SmallE es := fun e he => (hs e he).elim (h e) (h2 e)
theorem Way.append {w3 w4 w5 w6 w7 : World} {B lb rb g m gd : Nat} {base term : Int} {v v' rv rv' : Value} {es es' fs : List En} {s : Int} {n : Nat} {frs cps : List En} {cs : Array Value} {E : TypeId} {cv : Value} (h : Way w3 w4 B lb rb g m gd base term v es rv fs s n frs cs E)
    (hL5 : LogAt w5 B lb base term v' es') (hes : es'.map En.plain = es.map En.plain ++ frs.map En.plain) (ht : Turned lb v v' es es' w4 w5) (hs : w4.heap.size ≤ w5.heap.size) (hc : EnsOwn w6 w5.heap.size cv cps) (hp : cps.map En.plain = frs.map En.plain) (hb : Below w5.heap.size w5 w6)
    (hR7 : RfAt w7 B rb base term rv' (fs ++ cps)) (hr : RTurned rb rv rv' fs (fs ++ cps) cps w6 w7) : Done w7 B lb rb w3.heap.size w4.heap.size g m gd (s + 30) (n + 30) frs cs E := by
  have hsm : SmallE es' := SmallE.of_same (fs := es ++ frs) (h.both.small.part h.small fun e he => List.mem_append.1 he) (by rw [hes, List.map_append])
  have hl : es'.length = es.length + m := by have := congrArg List.length hes; simpa [h.flen] using this
  have h30 := h.m30
  have h1 := h.both.sum
  have h2 := h.both.len
  obtain ⟨q1, q2, q3⟩ := aft_step (n' := n + 30) (s' := s + 30) h.both h.sub ht hL5 hs hb hr hR7 (h.copies hs hc hp).1 (by rw [hes, List.map_append, h.both.same, hp]) h.both.b0 (by rw [hl]; omega) (by omega) hsm h.lent h.box h.aside h.lt
  exact ⟨q1, q2, q3, Nat.le_trans hs (Nat.le_trans hb.size hr.keeps.size), h.lt⟩
theorem Way.compact {w3 w4 w5 w7 : World} {B lb rb g m gd k : Nat} {base term i t : Int} {v v' rv rv' : Value} {es fs : List En} {s : Int} {n : Nat} {frs : List En} {cs : Array Value} {E : TypeId} (h : Way w3 w4 B lb rb g m gd base term v es rv fs s n frs cs E) (hi : i = base + k) (hk : k ≤ es.length)
    (hL5 : LogAt w5 B lb i t v' (es.drop k)) (ht : Turned lb v v' es (es.drop k) w4 w5) (hs : w4.heap.size ≤ w5.heap.size) (hR7 : RfAt w7 B rb i t rv' (fs.drop k)) (hr : RTurned rb rv rv' fs (fs.drop k) [] w5 w7) : Done w7 B lb rb w3.heap.size w4.heap.size g m gd (s + 30) (n + 30) frs cs E := by
  have h1 := h.both.sum
  have h2 := h.both.len
  have h0 := h.both.b0
  have hsm : SmallE (es.drop k) := h.both.small.part (ys := []) (fun e he => nomatch he) fun e he => Or.inl (List.mem_of_mem_drop he)
  obtain ⟨q1, q2, q3⟩ := aft_step (n' := n + 30) (s' := s + 30) h.both h.sub ht hL5 hs (Below.refl _ _) hr hR7 (fun e he => nomatch he) (by rw [List.map_drop, List.map_drop, h.both.same]) (by omega) (by rw [List.length_drop]; omega) (by rw [List.length_drop]; omega) hsm h.lent h.box h.aside h.lt
  exact ⟨q1, q2, q3, Nat.le_trans hs hr.keeps.size, h.lt⟩
theorem Way.fit {w3 w4 w5 w6 w7 : World} {B lb rb g m gd k z : Nat} {base term : Int} {v v' rv rv' : Value} {es es' fs : List En} {s : Int} {n : Nat} {frs cps : List En} {cs : Array Value} {E : TypeId} {cv : Value} (h : Way w3 w4 B lb rb g m gd base term v es rv fs s n frs cs E)
    (hL5 : LogAt w5 B lb base term v' es') (hes : es'.map En.plain = if k = m then es.map En.plain else (es.map En.plain).take z ++ (frs.map En.plain).drop k) (ht : Turned lb v v' es es' w4 w5) (hs : w4.heap.size ≤ w5.heap.size) (hc : EnsOwn w6 w5.heap.size cv cps) (hp : cps.map En.plain = frs.map En.plain) (hb : Below w5.heap.size w5 w6)
    (hR7 : RfAt w7 B rb base term rv' (if k = m then fs else fs.take z ++ cps.drop k)) (hr : RTurned rb rv rv' fs (if k = m then fs else fs.take z ++ cps.drop k) cps w6 w7) : Done w7 B lb rb w3.heap.size w4.heap.size g m gd (s + 30) (n + 30) frs cs E := by
  have h30 := h.m30
  have h1 := h.both.sum
  have h2 := h.both.len
  have hsame : es'.map En.plain = (if k = m then fs else fs.take z ++ cps.drop k).map En.plain := by
    rw [hes]
    by_cases hk : k = m
    · rw [if_pos hk, if_pos hk, h.both.same]
    · rw [if_neg hk, if_neg hk, List.map_append, List.map_take, List.map_drop, h.both.same, hp]
  have hsm : SmallE es' := by
    by_cases hk : k = m
    · rw [if_pos hk] at hes
      exact SmallE.of_same h.both.small hes
    · rw [if_neg hk] at hes
      exact SmallE.of_same (fs := es.take z ++ frs.drop k) (h.both.small.part h.small fun e he => (List.mem_append.1 he).imp List.mem_of_mem_take List.mem_of_mem_drop) (by rw [hes, List.map_append, List.map_take, List.map_drop])
  have hl : es'.length ≤ es.length + m := by
    have := congrArg List.length hes
    rw [List.length_map] at this
    split at this
    · rw [List.length_map] at this; omega
    · rw [List.length_append, List.length_take, List.length_drop, List.length_map, List.length_map, h.flen] at this; omega
  obtain ⟨q1, q2, q3⟩ := aft_step (n' := n + 30) (s' := s + 30) h.both h.sub ht hL5 hs hb hr hR7 (h.copies hs hc hp).1 hsame h.both.b0 (by omega) (by omega) hsm h.lent h.box h.aside h.lt
  exact ⟨q1, q2, q3, Nat.le_trans hs (Nat.le_trans hb.size hr.keeps.size), h.lt⟩
theorem Way.boxT {w3 w4 w5 : World} {B lb rb g m gd : Nat} {base term : Int} {v v' rv : Value} {es es' fs : List En} {s : Int} {n : Nat} {frs : List En} {cs : Array Value} {E : TypeId} (h : Way w3 w4 B lb rb g m gd base term v es rv fs s n frs cs E) (ht : Turned lb v v' es es' w4 w5) : w5.heap[gd]? = some (.cells cs E (0, 0)) :=
  (ht.apt gd (by have := h.lt; have := h.sub.size; omega) (fun e => by have := h.aside.lb; omega) (fun e => by have := h.aside.row gd e; omega)).trans h.box
theorem wf_i64 {n : Int} (h : (Lit.int .i64 n).wf = true) : -9223372036854775808 ≤ n ∧ n ≤ 9223372036854775807 := by
  have h : (decide (IntKind.i64.min ≤ n) && decide (n ≤ IntKind.i64.max)) = true := h
  have e1 : IntKind.i64.min = -9223372036854775808 := by decide
  have e2 : IntKind.i64.max = 9223372036854775807 := by decide
  rw [e1, e2] at h
  simpa using h
theorem termS_true {base term i t : Int} {es : List En} (hr : termS base term (es.map En.plain) i = (t, true)) : 0 ≤ i - base ∧ i - base ≤ es.length := by
  unfold termS at hr
  rw [List.length_map] at hr
  split at hr
  · omega
  · split at hr
    · omega
    · simp at hr
theorem fromE_len (base : Int) (es : List En) (i most : Int) : (fromE base es i most).length ≤ es.length := by
  unfold fromE
  split
  · rw [List.length_take, List.length_drop]; omega
  · exact Nat.zero_le _
theorem oper_min {w : World} {o : Oper} {a : Act} {K : Act → World → Prop} {Q : Exit → Act → World → Prop} (x y : Operand)
    (ho : o.op = .call { callee := .builtin .min, args := #[x, y], argTypes := #[3, 3] }) (p q m : Int) (hx : a.eval x = .int .i64 p) (hy : a.eval y = .int .i64 q) (hm : min p q = m) (h : K (a.put o.dst (.int .i64 m)) w) :
    Oper.wp Try.prog o a w K Q := by
  have e : (if q < p then q else p) = m := by
    rw [← hm]; split <;> omega
  have hrun := run_min_int2 (P := Try.prog) (w := w) #[3, 3] o.type .i64 .i64 p q
  rw [e] at hrun
  unfold Oper.wp
  simp [execOp, ho, resolve, invoke, builtin, hx, hy, hrun, Result.andThen]
  exact h
end Go.Proofs.Ytljfanhkbbfngaa
/- A deed's writing parts at the document's log. Conditions: as each says. -/
namespace Go.Proofs.Ytljfanhkbbfngaa
open Go.RowKit
set_option maxRecDepth 20000
theorem Way.doAppend {w3 w4 w5 w6 : World} {B lb rb g m gd : Nat} {base term : Int} {v v5 rv : Value} {es es5 fs : List En} {s : Int} {n : Nat} {frs cps : List En} {cs : Array Value} {E : TypeId} {a6 : Option Addr} {c6 : Nat} {r : Int} (h : Way w3 w4 B lb rb g m gd base term v es rv fs s n frs cs E)
    (hN : LogNums base es.length 0) (hr : r = if m = 0 then 0 else base + es.length + 1) (hl5 : LogAt w5 B lb base term v5 es5) (hm5 : es5.map En.plain = es.map En.plain ++ frs.map En.plain) (ht5 : Turned lb v v5 es es5 w4 w5) (hs5 : w4.heap.size ≤ w5.heap.size) (hB : B ≤ w4.heap.size) (ho6 : EnsOwn w6 w5.heap.size (.slice a6 m c6) cps) (hm6 : cps.map En.plain = frs.map En.plain) (hb6 : Below w5.heap.size w5 w6) (hlen : es.length + m ≤ 1000000) :
    Calls Try.prog 15 #[.pointer (some ⟨rb, 0, none⟩), .slice a6 m c6] w6 fun e w7 => e = .returned (.int .i64 r) ∧ Done w7 B lb rb w3.heap.size w4.heap.size g m gd (s + 30) (n + 30) frs cs E ∧ Below B w6 w7 := by
  have hlens := h.both.lens
  obtain ⟨k1, k2, k3, k4, k5⟩ := h.copies hs5 ho6 hm6
  obtain ⟨q1, q2, q3, q4⟩ := ens_sub ho6
  have hB6 : B ≤ w6.heap.size := Nat.le_trans hB (Nat.le_trans hs5 hb6.size)
  refine (rappend_any B rb base term rv fs a6 m c6 cps r w6 (by rw [hlens]; exact hr) (h.rf ht5 hs5 hb6) (by rw [hlens]; exact hN) hB6 k5 q3 q2 k4 k2 (by rw [hlens]; exact hlen)).mono ?_
  rintro e w7 ⟨rv7, rfl, hr7, ht7, hb7⟩
  exact ⟨rfl, h.append hl5 hm5 ht5 hs5 ho6 hm6 hb6 hr7 ht7, hb7⟩
theorem Way.doFit {w3 w4 w5 w6 : World} {B lb rb g m gd k0 : Nat} {base term i t : Int} {v v5 rv : Value} {es es5 fs : List En} {s : Int} {n : Nat} {frs cps : List En} {cs : Array Value} {E : TypeId} {a6 : Option Addr} {c6 : Nat} {r : Int} (h : Way w3 w4 B lb rb g m gd base term v es rv fs s n frs cs E)
    (hT : termS base term (es.map En.plain) i = (t, true)) (hk : FitTo base term (es.map En.plain) i (frs.map En.plain) k0) (hN : LogNums base es.length i) (hi : i ≤ 1125899906842624) (hr : r = if k0 = m then 0 else i + 1 + k0) (hl5 : LogAt w5 B lb base term v5 es5) (hm5 : es5.map En.plain = if k0 = m then es.map En.plain else (es.map En.plain).take (i - base + k0).toNat ++ (frs.map En.plain).drop k0) (ht5 : Turned lb v v5 es es5 w4 w5) (hs5 : w4.heap.size ≤ w5.heap.size) (hB : B ≤ w4.heap.size) (ho6 : EnsOwn w6 w5.heap.size (.slice a6 m c6) cps) (hm6 : cps.map En.plain = frs.map En.plain) (hb6 : Below w5.heap.size w5 w6) (hlen : es.length + m ≤ 1000000) :
    Calls Try.prog 23 #[.pointer (some ⟨rb, 0, none⟩), .int .i64 i, .int .i64 t, .slice a6 m c6] w6 fun e w7 => e = .returned (.tuple #[.bool true, .int .i64 r]) ∧ Done w7 B lb rb w3.heap.size w4.heap.size g m gd (s + 30) (n + 30) frs cs E ∧ Below B w6 w7 := by
  have hlens := h.both.lens
  have hsm := h.both.same
  obtain ⟨k1, k2, k3, k4, k5⟩ := h.copies hs5 ho6 hm6
  obtain ⟨q1, q2, q3, q4⟩ := ens_sub ho6
  have hB6 : B ≤ w6.heap.size := Nat.le_trans hB (Nat.le_trans hs5 hb6.size)
  refine (rfit_any B rb base term rv fs i t a6 m c6 cps k0 w6 (if k0 = m then fs else fs.take (i - base + k0).toNat ++ cps.drop k0) r (by rw [← hsm]; exact hT) (by rw [← hsm, hm6]; exact hk) rfl hr (h.rf ht5 hs5 hb6) (by rw [hlens]; exact hN) hi hB6 k5 q3 q2 q4 k4 k2 (by rw [hlens]; exact hlen)).mono ?_
  rintro e w7 ⟨rv7, rfl, hr7, ht7, hb7⟩
  exact ⟨rfl, h.fit hl5 hm5 ht5 hs5 ho6 hm6 hb6 hr7 ht7, hb7⟩
theorem Way.doSame {w3 w4 w5 w6 : World} {B lb rb g m gd : Nat} {base term i most mn : Int} {v rv : Value} {es fs xs : List En} {s : Int} {n : Nat} {frs : List En} {cs : Array Value} {E : TypeId} {a5 a6 : Option Addr} {n5 c5 n6 c6 : Nat} (h : Way w3 w4 B lb rb g m gd base term v es rv fs s n frs cs E)
    (hmn : min most 100000 = mn) (hn5 : xs.length = n5) (ho5 : EnsOwn w5 w4.heap.size (.slice a5 n5 c5) xs) (hm5 : xs.map En.plain = fromS base (es.map En.plain) i most) (hb5 : Below w4.heap.size w4 w5) (hn6 : (fromE base fs i mn).length = n6) (ho6 : w6.ownsRow w5.heap.size 59 9 (.slice a6 n6 c6) n6 ((fromE base fs i mn).flatMap enCells)) (hb6 : Below w5.heap.size w5 w6) (hlen : es.length ≤ 100000) :
    Calls Try.prog 19 #[.slice a5 n5 c5, .slice a6 n6 c6] w6 fun e w7 => e = .returned (.bool true) ∧ Below w4.heap.size w4 w7 ∧ Below w6.heap.size w6 w7 := by
  have hlens := h.both.lens
  have hb56 := hb5.trans (hb6.mono hb5.size)
  have hlen6 := fromE_len base fs i mn
  have hsame6 : xs.map En.plain = (fromE base fs i mn).map En.plain := by
    rw [hm5, fromE_plain, ← hmn, fromS_min (by rw [List.length_map, hlens]; exact hlen), h.both.same]
  have hx6 : EnsIn w6 w6.heap.size a5 xs := (ens_sub (ho5.below hb6 (Nat.le_refl _))).2.2.1
  have hy6 : EnsIn w6 w6.heap.size a6 (fromE base fs i mn) := own_rowsIn enCells_len (sub := enSub) hn6 ho6 (fun e he => (h.ref.below hb56 (Nat.le_refl _)).sub e (fromE_mem he))
  have hsm6 : SmallE xs := SmallE.of_same (fs := fromE base es i mn) (fun e he => h.both.small e (fromE_mem he)) (by rw [hsame6, fromE_plain, fromE_plain, h.both.same])
  have hn56 : n5 = n6 := by
    have h := congrArg List.length hsame6
    rw [List.length_map, List.length_map, hn5, hn6] at h
    exact h
  refine (sameEs_any a5 n5 c5 a6 n6 c6 xs (fromE base fs i mn) w6 w6.heap.size hn5 hn6 hsame6 hx6 hy6 (Nat.le_refl _) (by omega) hsm6.small).mono ?_
  rintro e w7 ⟨rfl, hb7⟩
  exact ⟨rfl, hb56.trans (hb7.mono hb56.size), hb7⟩
end Go.Proofs.Ytljfanhkbbfngaa
