/- A log's Fit. Conditions: the log is one that was made; its numbers are not too great. -/
import Derived.Test.YtljfanhkbbfngaaGLogDoes2
import Derived.Deep.RegionLawGrows
import Derived.Test.YtljfanhkbbfngaaGLogDoes1
set_option linter.unusedVariables false
set_option linter.unusedSimpArgs false
namespace Go.Proofs.Ytljfanhkbbfngaa
open Go.RowKit
set_option maxRecDepth 20000
theorem run_sub_hm {P : Program} {t : TypeId} {k : Nat} (ht : P.underlying t = some (.slice (P.elem t))) (hk : ∀ w, (sizeOf (P.elem t)).run P w = .ok k w) (ao : Option Addr) (n cap h : Nat) (hh : h ≤ cap) (kh km : IntKind) (hi : Int) (eh : hi = h) (w : World) :
    (Instr.sliceAt t (.slice ao n cap) none (some (.int kh hi)) (some (.int km hi))).run P w = .ok (.slice (subA ao h 0 k) h h) w := by
  subst eh
  rw [run_sliceAt_slice _ _ _ _ _ _ ht, run_slice_hm _ _ _ _ _ ht _ _ _ _ (by omega) (by omega) (by omega), hk]
  simp [Result.andThen, sliced, subA]
theorem fit_no (B lb : Nat) (base term : Int) (v : Value) (es : List En) (i t r : Int) (ok : Bool) (ms : Value) (w : World) (hr : termS base term (es.map En.plain) i = (r, ok)) (hno : ok = true → r ≠ t) (hL : LogAt w B lb base term v es) (hN : LogNums base es.length i) :
    Calls Try.prog 22 #[.pointer (some ⟨lb, 0, none⟩), .int .i64 i, .int .i64 t, ms] w fun e w' => e = .returned (.tuple #[.bool false, .int .i64 0]) ∧ Below w.heap.size w w' := by
  have HL := Lib.hid hL
  have HN := Lib.hid hN
  have HR := Lib.hid hr
  clear hL hN hr
  cases ok with
  | false =>
    clear hno
    go_enter Try.func22, Try.ntmps22
    go_wp2_with fail
    refine (term_any B lb base term _ es i r false _ HR.out HL.out HN.out).mono ?_
    rintro e w2 ⟨rfl, hp⟩
    go_wp2_with fail
    go_ret2
    exact ⟨rfl, hp⟩
  | true =>
    have h1 : ¬ r = t := hno rfl
    have d1 : decide (r = t) = false := by simpa using h1
    clear hno
    go_enter Try.func22, Try.ntmps22
    go_wp2_with fail
    refine (term_any B lb base term _ es i r true _ HR.out HL.out HN.out).mono ?_
    rintro e w2 ⟨rfl, hp⟩
    go_wp2_with fail
    go_ret2
    exact ⟨rfl, hp⟩
def FitAt (B lb : Nat) (base term : Int) (v : Value) (es : List En) (ps : List EnP) (i : Int) (k0 m : Nat) (w : World) (e : Ending) (w' : World) : Prop :=
  (k0 = m ∧ e = .returned (.tuple #[.bool true, .int .i64 0]) ∧ Below w.heap.size w w') ∨
  (k0 < m ∧ ∃ v' es', e = .returned (.tuple #[.bool true, .int .i64 (i + 1 + k0)]) ∧ LogAt w' B lb base term v' es' ∧ es'.map En.plain = (es.map En.plain).take (i - base + k0).toNat ++ ps.drop k0 ∧ Below B w w' ∧ Turned lb v v' es es' w w')
/-- Entries, of which the row has been laid anew from some of it and some new ones. -/
theorem LogAt.fitted {w1 w2 w3 : World} {B lb : Nat} {base term : Int} {v v' : Value} {v2 : Value} {es es2 : List En} (q : Nat) (h : LogAt w1 B lb base term v es) (hB : B ≤ w1.heap.size) (hb : Below w1.heap.size w1 w2) (ho : EnsOwn w2 w1.heap.size v2 es2)
    (hown : w3.ownsRow B 59 9 v' ((es.take q).length + es2.length) ((es.take q).flatMap enCells ++ es2.flatMap enCells)) (hg : w2.grownBy w3 none) : EnsOwn w3 B v' (es.take q ++ es2) := by
  have h2 := h.below hb (Nat.le_refl _)
  have hkeep : ∀ {E k : Nat} {v : Value} {n : Nat} {xs : List Value} {b : Nat}, w2.ownsRow b E k v n xs → w3.ownsRow b E k v n xs := fun hr => World.ownsRow.kept hr hg (by
    cases hv : Value.ownBlock _ with
    | none => exact Or.inl rfl
    | some b => exact Or.inr (by simp))
  refine ⟨by rw [List.length_append, List.flatMap_append]; exact hown, fun e he => ?_, List.pairwise_append.2 ⟨h.ens.sep.sublist (List.take_sublist q es), ho.sep, fun e he f hf => ?_⟩⟩
  · rcases List.mem_append.1 he with h' | h'
    · have h3 := h2.ens.own e (List.mem_of_mem_take h')
      exact ⟨hkeep h3.1, hkeep h3.2⟩
    · have h3 := (ho.own e h').le hB
      exact ⟨hkeep h3.1, hkeep h3.2⟩
  · replace he := List.mem_of_mem_take he
    unfold sepE
    constructor
    · cases hb1 : (argV e).ownBlock with
      | none => exact Or.inl rfl
      | some b =>
        right
        intro hh
        have q1 := ((h.ens.own e he).1.lt b hb1).2
        have q2 := ((ho.own f hf).1.lt b hh.symm).1
        omega
    · cases hb1 : (votV e).ownBlock with
      | none => exact Or.inl rfl
      | some b =>
        right
        intro hh
        have q1 := ((h.ens.own e he).2.lt b hb1).2
        have q2 := ((ho.own f hf).2.lt b hh.symm).1
        omega
/-- An append to a full row of rows that are only read, of rows that are only read: at a step of a region that draws its order. -/
theorem step_append_fresh {α : Type} {k bytes : Nat} {cells : α → List Value} {sub sub2 : World → Nat → α → Prop} {z : Value} {T E : TypeId} {w : World} {ops : Array Oper} {o : Oper} {a : Act} {K : Act → World → Prop} {Q : Exit → Act → World → Prop} {F : Prop} (hT : Try.prog.underlying T = some (.slice E))
    (hinfo : (Try.prog.info? E).map (fun i => (i.zero, i.size, i.bytes)) = some (some z, k, bytes)) (hzs : z.cells.size = k) (h0 : 0 < k) (hk : ∀ x, (cells x).length = k) (hone : ∀ x, ∀ u ∈ cells x, u.oneCell' = true) (hgd : o.guard = none) (s x : Operand)
    (ho : o.op = .call { callee := .builtin .append, args := #[s, x], argTypes := #[T, T] })
    (ao : Option Addr) (n : Nat) (ys : List α) (hs : a.eval s = .slice ao n n) (hn : ys.length = n) (B0 : Nat) (hys : RowsIn k cells sub w B0 ao ys) (hao : ao = none → n = 0)
    (ad : Addr) (m cap : Nat) (xs : List α) (hm : xs.length = m) (hm0 : 0 < m) (hx : a.eval x = .slice (some ad) m cap) (B : Nat) (hin : RowsIn k cells sub2 w B (some ad) xs) (hmax : n + m ≤ maxLen) (hlim : (n + m) * bytes ≤ 140737488355328)
    (h : ∀ v' w', w'.ownsRow w.heap.size E k v' (n + m) (ys.flatMap cells ++ xs.flatMap cells) → w.grownBy w' none → K (a.put o.dst v') w') :
    if Region.wanted o (yielded ops a.tmps) = true then Oper.wp Try.prog o a w K Q else F := by
  obtain ⟨i0, hi, hz0, hz1, hz2⟩ := info_parts hinfo
  subst hm
  subst hn
  exact step_append_grows hgd s x T ho E i0 z k bytes hT hi hz0 hz1 hz2 hzs h0 ao ys.length ys.length (ys.flatMap cells) hs (fun e => ⟨hao e, hao e⟩) (flat_len hk ys) (fun b hb j u hu => cells_of_rows hk h0 hys (Below.refl _ _) hb hu) ad xs.length cap (xs.flatMap cells) hx (flat_len hk xs) (fun j u hu => cells_of_rows hk h0 hin (Below.refl _ _) rfl hu) (fun u hu => by
    obtain ⟨y, _, hy⟩ := List.mem_flatMap.1 hu
    exact hone y u hy) (by omega) hmax hlim h
theorem len_of_plain' {es xs : List En} (h : es.map En.plain = xs.map En.plain) : es.length = xs.length := len_of_plain h
theorem row_addr {w : World} {B n c : Nat} {a : Option Addr} {E k : Nat} {xs : List Value} (h : w.ownsRow B E k (.slice a n c) n xs) (z : Nat) : subA a z 0 9 = a := subA_zero a z 9 (fun x hx => by
  rcases Go.Joins.ownsRow_forms h with ⟨h1, _⟩ | ⟨g, c2, h1⟩
  · injection h1 with h2 _ _; rw [hx] at h2; cases h2
  · injection h1 with h2 _ _; rw [hx] at h2; injection h2 with h3; rw [h3])
set_option maxHeartbeats 4000000 in
theorem fit_any (B lb : Nat) (base term : Int) (v : Value) (es : List En) (i t : Int) (ao : Option Addr) (m cap : Nat) (xs : List En) (k0 : Nat) (w : World) (B2 : Nat) (hr : termS base term (es.map En.plain) i = (t, true))
    (hk : k0 ≤ m) (hsame : ∀ k x, k < k0 → xs[k]? = some x → termS base term (es.map En.plain) (i + 1 + k) = (x.term, true)) (hnot : ∀ x, xs[k0]? = some x → ∀ r ok, termS base term (es.map En.plain) (i + 1 + k0) = (r, ok) → ok = true → r ≠ x.term)
    (hL : LogAt w B lb base term v es) (hN : LogNums base es.length i) (hi : i ≤ 1125899906842624) (hq0 : 0 ≤ i - base) (hq : i - base + k0 ≤ es.length) (hB : B ≤ w.heap.size) (hn : xs.length = m) (hx : EnsIn w B2 ao xs) (hB2 : B2 ≤ w.heap.size) (hao : ao = none → cap = 0) (hcap : m ≤ cap) (hl : m ≤ 1099511627776) (hnm : es.length + m ≤ 1099511627776) (hqa : EnsArg xs) :
    Calls Try.prog 22 #[.pointer (some ⟨lb, 0, none⟩), .int .i64 i, .int .i64 t, .slice ao m cap] w (FitAt B lb base term v es (xs.map En.plain) i k0 m w) := by
  obtain ⟨a, c, hv⟩ := hL.form
  subst hv
  have HN := Lib.hid hN
  obtain ⟨h1, h2, h3, h4, h5⟩ := hN
  have HL := Lib.hid hL
  have HR := Lib.hid hr
  have HSAME := Lib.hid hsame
  have HNOT := Lib.hid hnot
  have HXN := Lib.hid hn
  have HX := Lib.hid (show EnsIn w w.heap.size ao xs from hx.mono enSub_rising hB2)
  have HA := Lib.hid hao
  have HQ := Lib.hid hqa
  clear hL hr hsame hnot hn hx hao hqa hB2
  go_enter Try.func22, Try.ntmps22
  go_wp2_with fail
  refine (term_any B lb base term _ es i t true _ HR.out HL.out HN.out).mono ?_
  rintro e w2 ⟨rfl, hp⟩
  go_wp2_with fail
  go_loopw [33] (fun i wr => ∃ k : Nat, k ≤ k0 ∧ i = .int .i64 k ∧ Below w.heap.size w wr) (fun i _ => m - (intOf i).toNat)
  case atStart => exact ⟨0, by omega, rfl, hp⟩
  case round =>
    clear hp
    obtain ⟨k, hk1, rfl, hbel⟩ := hrel
    have hsw := hbel.size
    by_cases hlt : k < m
    · have hkx : xs[k]? = some (xs[k]'(by rw [HXN.out]; exact hlt)) := List.getElem?_eq_getElem _
      obtain ⟨b, off, hao, hb, hc, hcs⟩ := HX.out.at hkx
      have hT : ∀ r ok, termS base term (es.map En.plain) (i + 1 + k) = (r, ok) → (k < k0 → r = (xs[k]'(by rw [HXN.out]; exact hlt)).term ∧ ok = true) ∧ (k = k0 → ok = true → r ≠ (xs[k]'(by rw [HXN.out]; exact hlt)).term) := by
        intro r ok he
        constructor
        · intro h
          rw [HSAME.out k _ h hkx] at he
          simpa [eq_comm] using he
        · intro h ht
          subst h
          exact HNOT.out _ hkx r ok he ht
      generalize xs[k]'(by rw [HXN.out]; exact hlt) = x at hc hcs hT
      obtain ⟨t1, kd, s, q, ck, text, aao, args, acap, num, vao, vs, vcap⟩ := x
      obtain ⟨an, han⟩ : ∃ an, args.length = an := ⟨_, rfl⟩
      obtain ⟨vn, hvn⟩ : ∃ vn, vs.length = vn := ⟨_, rfl⟩
      dsimp only at hT
      obtain ⟨r, ok, hro⟩ : ∃ r ok, termS base term (es.map En.plain) (i + 1 + k) = (r, ok) := ⟨_, _, rfl⟩
      have hT2 := hT r ok hro
      have HT2 := Lib.hid hT2
      have HRO := Lib.hid hro
      have c0 : wr.cell? ⟨b, off + k * 9, none⟩ = some (.int .i64 t1) := (hbel.cell (p := ⟨b, _, none⟩) hb).trans (hc 0 (by decide))
      have c1 : wr.cell? ⟨b, off + k * 9 + 1, none⟩ = some (.int .u8 kd) := (hbel.cell (p := ⟨b, _, none⟩) hb).trans (hc 1 (by decide))
      have c2 : wr.cell? ⟨b, off + k * 9 + 2, none⟩ = some (.int .i64 s) := (hbel.cell (p := ⟨b, _, none⟩) hb).trans (hc 2 (by decide))
      have c3 : wr.cell? ⟨b, off + k * 9 + 3, none⟩ = some (.int .i64 q) := (hbel.cell (p := ⟨b, _, none⟩) hb).trans (hc 3 (by decide))
      have c4 : wr.cell? ⟨b, off + k * 9 + 4, none⟩ = some (.int .u8 ck) := (hbel.cell (p := ⟨b, _, none⟩) hb).trans (hc 4 (by decide))
      have c5 : wr.cell? ⟨b, off + k * 9 + 5, none⟩ = some (.string text) := (hbel.cell (p := ⟨b, _, none⟩) hb).trans (hc 5 (by decide))
      have c6 : wr.cell? ⟨b, off + k * 9 + 6, none⟩ = some (.slice aao an acap) := (hbel.cell (p := ⟨b, _, none⟩) hb).trans (han ▸ hc 6 (by decide))
      have c7 : wr.cell? ⟨b, off + k * 9 + 7, none⟩ = some (.int .i64 num) := (hbel.cell (p := ⟨b, _, none⟩) hb).trans (hc 7 (by decide))
      have c8 : wr.cell? ⟨b, off + k * 9 + 8, none⟩ = some (.slice vao vn vcap) := (hbel.cell (p := ⟨b, _, none⟩) hb).trans (hvn ▸ hc 8 (by decide))
      have i1 : (k : Int) < m := by omega
      have w1 : IntKind.i64.wrap (i + 1) = i + 1 := IntWalk.i64_in _ (by omega)
      have w2' : IntKind.i64.wrap (i + 1 + (k : Int)) = i + 1 + k := IntWalk.i64_in _ (by omega)
      have HAO := Lib.hid hao
      have hnums : LogNums base es.length (i + 1 + k) := ⟨h1, h2, by omega, by omega, h5⟩
      have HNUM := Lib.hid hnums
      subst hao
      clear hT hT2 hro hc hcs hkx han hvn hnums
      go_wp2_with fail
      refine (term_any B lb base term _ es (i + 1 + k) r ok _ HRO.out (HL.out.below (hbel.alloc hsw _) (Nat.le_refl _)) HNUM.out).mono ?_
      rintro e w4 ⟨rfl, hp4⟩
      have g1 : w4.cell? ⟨wr.heap.size, 0, none⟩ = some (.int .i64 t1) := (hp4.cell (p := ⟨wr.heap.size, 0, none⟩) (by simp)).trans (Go.Joins.cell_of_block (heap_alloc_new wr _) 0)
      have hb4 : Below w.heap.size w w4 := (hbel.alloc hsw _).trans (hp4.mono (by simp; omega))
      clear hp4 c0 c1 c2 c3 c4 c5 c6 c7 c8
      by_cases hk0 : k < k0
      · obtain ⟨rfl, rfl⟩ := HT2.out.1 hk0
        go_wp2_with fail
        go_roundw
        case rel => exact ⟨k + 1, by omega, by go_num, hb4⟩
        case measure => simp [intOf]; omega
      · obtain rfl : k = k0 := by omega
        have hL4 := HL.out.below hb4 (Nat.le_refl _)
        have d1 := hL4.c1
        have HL4 := Lib.hid hL4
        clear hL4
        obtain ⟨z, hz⟩ : ∃ z : Nat, i - base + k = z := ⟨(i - base + k).toNat, by omega⟩
        have w3 : IntKind.i64.wrap (i + 1 + (k : Int) - base) = z + 1 := by rw [IntWalk.i64_in _ (by omega)]; omega
        have w5 : IntKind.i64.wrap ((z : Int) + 1 - 1) = z := by rw [IntWalk.i64_in _ (by omega)]; omega
        have HZ := Lib.hid hz
        have hze : z ≤ es.length := by omega
        clear hz w1 w2' hq
        obtain ⟨n, hn0⟩ : ∃ n, es.length = n := ⟨_, rfl⟩
        have d3 : w4.cell? ⟨lb, 3, none⟩ = some (.slice a n c) := by have := HL4.out.c3; rw [hn0] at this; exact this
        rw [hn0] at hze hnm h5
        have hcn : n ≤ c := by have := own_capG HL4.out.ens.row; omega
        have HEN := Lib.hid hn0
        have hsl1 : ∀ w', (Instr.sliceAt 22 (.slice a n c) none (some (.int .i64 (z : Int))) (some (.int .i64 (z : Int)))).run Try.prog w' = .ok (.slice a z z) w' := fun w' => by
          have := run_sub_hm sliceEn sizeEn a n c z (by omega) .i64 .i64 z rfl w'
          rwa [row_addr HL4.out.ens.row z] at this
        have hsl2 : ∀ w', (Instr.sliceAt 22 (.slice (some ⟨b, off, none⟩) m cap) (some (.int .i64 (k : Int))) none none).run Try.prog w' = .ok (.slice (subA (some ⟨b, off, none⟩) cap k 9) (m - k) (cap - k)) w' := fun w' => run_sub_l sliceEn sizeEn _ m cap k hk .i64 k rfl w'
        have hlen : (xs.drop k).length = m - k := by rw [List.length_drop, HXN.out]
        have hmapd : (xs.drop k).map En.plain = (xs.map En.plain).drop k := List.map_drop ..
        have hsubin : ∀ w', Below w.heap.size w w' → EnsIn w' w.heap.size (subA (some ⟨b, off, none⟩) cap k 9) (xs.drop k) := fun w' h => by
          have := EnsIn.sub (HX.out.below enSub_kept h (Nat.le_refl _)) k (xs.length - k) (by rw [HXN.out]; exact hcap) (by have := HXN.out; omega)
          rwa [List.take_of_length_le (by simp)] at this
        have hargs : EnsArg (xs.drop k) := ⟨fun x hx => HQ.out.1 x (List.mem_of_mem_drop hx), fun x hx => HQ.out.2 x (List.mem_of_mem_drop hx)⟩
        have hsnil : subA (some ⟨b, off, none⟩) cap k 9 = none → cap - k = 0 := fun h => by have := subA_eq_none h; cases this
        have HS1 := Lib.hid hsl1
        have HS2 := Lib.hid hsl2
        have HLEN := Lib.hid hlen
        have HMAPD := Lib.hid hmapd
        have HSUBIN := Lib.hid hsubin
        have HARGS := Lib.hid hargs
        have HSNIL := Lib.hid hsnil
        clear hlen hmapd hsubin hargs hsnil hn0 hsl1 hsl2
        cases ok
        rotate_left
        focus
          have dn : ¬ r = t1 := HT2.out.2 rfl rfl
          have dr : decide (r = t1) = false := by simpa using dn
          go_wp2_with fail
        rotate_left
        focus
          have dn : True := trivial
          have dr : True := trivial
          go_wp2_with fail
        all_goals (have hsl1 := HS1.out; have hsl2 := HS2.out; clear dn dr w3 w5)
        all_goals (go_region_law (first | (go_simp; go_at_call 29; refine (copied_at (subA (some ⟨b, off, none⟩) cap k 9) (m - k) (cap - k) (xs.drop k) ((xs.map En.plain).drop k) _ w.heap.size HLEN.out HMAPD.out (HSUBIN.out _ (Below.drew hb4)) (by have := hb4.size; simpa using this) HSNIL.out (by omega) HARGS.out).mono ?_; rintro e x2 ⟨a2, c2, es2, rfl, ho2, hm2, hb2⟩; have hle2 : es2.length = m - k := (len_of_plain' (hm2.trans HMAPD.out.symm)).trans HLEN.out; obtain ⟨g2, c2', hg2⟩ := Go.Joins.ownsRow_form ho2.row (by rw [hle2]; omega); injection hg2 with hg3 hg4 hg5; subst hg3; subst hg5; clear hg4; have hx12 : Below w4.heap.size w4 x2 := Below.trans (Below.drew (Below.refl _ _)) hb2; have hL2 := HL4.out.below hx12 (Nat.le_refl _); have hs2 := hx12.size; have d3 : x2.cell? ⟨lb, 3, none⟩ = some (.slice a n c) := (by have := hL2.c3; rw [HEN.out] at this; exact this); have HL2 := Lib.hid hL2; have HO2 := Lib.hid ho2; have HM2 := Lib.hid hm2; have HLE2 := Lib.hid hle2; clear hL2 ho2 hm2 hle2 hb2) | (refine step_append_fresh (sub := enSub) (sub2 := enSub) Try.underlying22 infoEn rfl (by decide) enCells_len enCells_one (by rfl) (.tmp 69) (.tmp 73) (by rfl) a z (es.take z) (by rfl) (by rw [List.length_take]; have := HEN.out; omega) x2.heap.size (RowsIn.take z (by obtain ⟨a', c', hv', _, _, hin'⟩ := HL2.out.ens.lie; cases hv'; exact hin')) (fun h => by have := own_none HL2.out.ens.row h; omega) ⟨g2, 0, none⟩ (m - k) c2 es2 HLE2.out (by omega) (by rfl) x2.heap.size (by obtain ⟨a', c', hv', _, _, hin'⟩ := HO2.out.lie; injection hv' with e1 _ _; rw [e1]; exact hin') (by unfold maxLen; omega) (by omega) ?_; intro v5 x5 hown5 hg5; obtain ⟨a5, c5, hv5⟩ := row_slice hown5; subst hv5; have hlb5 := (hg5.block lb HL2.out.lt (fun e => by cases e)).trans HL2.out.blk; have d3 : x5.cell? ⟨lb, 3, none⟩ = some (.slice a n c) := (by have := Go.Joins.cell_of_block hlb5 3; rw [HEN.out] at this; exact this); have f3 : x5.frozen? ⟨lb, 3, none⟩ = false := Go.Joins.unfrozen_of_block hlb5 3; have hlens := HLE2.out; have hB4 : B ≤ w4.heap.size := Nat.le_trans hB hb4.size; have htk : (es.take z).length = z := (by rw [List.length_take]; have := HEN.out; omega); have HE5 := Lib.hid (HL4.out.fitted z (v2 := .slice (some ⟨g2, 0, none⟩) (m - k) c2) (es2 := es2) (w3 := x5) (v' := .slice a5 (z + (m - k)) c5) hB4 hx12 (by have := HO2.out; exact this.le (by simp)) (by rw [htk, HLE2.out]; exact Go.Joins.ownsRow_le hown5 (by omega)) hg5); have HB5 := Lib.hid hlb5; have hb5 : Below B w4 x5 := Below.grown (hx12.mono hB4) hg5 (by omega) (fun b hb => by cases hb); have HTN5 := Lib.hid (And.intro (show ∀ e ∈ es2, enOwn x5 w.heap.size e from fun e he => by { have h3 := HO2.out.own e he; have hz4 := hb4.size; have kp : ∀ {E k : Nat} {u : Value} {q : Nat} {ys : List Value} {b : Nat}, x2.ownsRow b E k u q ys → x5.ownsRow b E k u q ys := (fun hr => World.ownsRow.kept hr hg5 (by { cases hv : Value.ownBlock _ with | none => exact Or.inl rfl | some b => exact Or.inr (by simp) })); exact enOwn.le ⟨kp h3.1, kp h3.2⟩ (by simpa using hz4) }) (And.intro (((Apt.of_below (lb := lb) (v := .slice a n c) hb4).trans' hx12 hb4.size).grown (o := none) (by have := hb4.size; omega) hg5 (Or.inr rfl)) (show ∀ g, (Value.slice a5 (z + (m - k)) c5).ownBlock = some g → w.heap.size ≤ g from fun g hg => by { have := (World.ownsRow.lt hown5 g hg).1; have := hb4.size; omega }))); have hz5 := hg5.size; clear hlens htk hown5 hg5 hlb5)))
        all_goals (have hL6 : LogAt (x5.setCell ⟨lb, 3, none⟩ (.slice a5 (z + (m - k)) c5)) B lb base term (.slice a5 (z + (m - k)) c5) (es.take z ++ es2) := ⟨log_store HB5.out, HE5.out.store HB5.out _ _, HL2.out.low⟩)
        all_goals (have hb6 : Below B w (x5.setCell ⟨lb, 3, none⟩ (.slice a5 (z + (m - k)) c5)) := Below.setCell ((hb4.mono hB).trans hb5) HL2.out.low _)
        all_goals (have hT6 : Turned lb (.slice a n c) (.slice a5 (z + (m - k)) c5) es (es.take z ++ es2) w (x5.setCell ⟨lb, 3, none⟩ (.slice a5 (z + (m - k)) c5)) := ⟨HTN5.out.2.1.store (by have := hb4.size; omega) _ _, Or.inr HTN5.out.2.2, fun e he => (List.mem_append.1 he).imp List.mem_of_mem_take (fun h => (HTN5.out.1 e h).store HB5.out _ _)⟩)
        all_goals (clear hz5)
        all_goals (generalize x5.setCell ⟨lb, 3, none⟩ (.slice a5 (z + (m - k)) c5) = x6 at hL6 hb6 hT6 ⊢)
        all_goals (simp only [Exit.then])
        all_goals (rename (∀ (_ : Act) (_ : World), _ → _) => hK0)
        all_goals (refine hK0 _ _ ?_; clear hK0)
        all_goals (go_wp2_with fail)
        all_goals go_ret2
        all_goals (exact Or.inr ⟨hlt, _, _, rfl, hL6, by rw [List.map_append, List.map_take, HM2.out, HZ.out]; rfl, hb6, by rw [HEN.out]; exact hT6⟩)
    · have hk2 : k = m := by omega
      have hk3 : k0 = m := by omega
      subst hk2
      go_wp2_with fail
      go_ret2
      exact Or.inl ⟨hk3, rfl, hbel⟩
end Go.Proofs.Ytljfanhkbbfngaa
/- Entries among the arguments, with the bounds of what hangs on them. Conditions: they are read as the row reads them, their weights are bounded. -/
namespace Go.Proofs.Ytljfanhkbbfngaa
open Go.RowKit Go.ChangeShapes
set_option maxRecDepth 20000
/-- No part of a datum is heavier than memory may be. -/
def DSized {H : Type} (P : Program) (t : TypeId) (d : DataW H) : Prop := ∀ n ∈ d.weights P t, n ≤ reachBytes
theorem DSized.arg {H : Type} {P : Program} {ts : List TypeId} {ds : List (DataW H)} (hsz : (DataW.weightsEach P ts ds).all (· ≤ reachBytes) = true) (j : Nat) {t : TypeId} {d : DataW H} (hj : ts[j]? = some t) (hd : ds[j]? = some d) : DSized P t d := fun n hn => by
  have := List.all_eq_true.1 hsz n (DataW.weights_mem_each hj hd n hn)
  simpa using this
theorem DSized.field {H : Type} {P : Program} {t : TypeId} {fs : Array Field} {xs : List (DataW H × List MemPlace)} (ht : P.underlying t = some (.struct fs)) (h : DSized P t (.agg (xs.map (·.1)))) {i : Nat} {f : Field} {y : DataW H × List MemPlace} (hf : fs[i]? = some f) (hy : xs[i]? = some y) : DSized P f.type y.1 := fun n hn => by
  refine h n ?_
  simp only [DataW.weights, ht]
  exact DataW.weights_mem_each (j := i) (by simp [hf]) (by simp [hy]) n hn
theorem weights_mem_all {H : Type} {P : Program} {e : TypeId} : ∀ {ds : List (DataW H)} {d : DataW H}, d ∈ ds → ∀ n ∈ d.weights P e, n ∈ DataW.weightsAll P e ds
  | d0 :: ds, d, h, n, hn => by
    simp only [DataW.weightsAll, List.mem_append]
    rcases List.mem_cons.1 h with rfl | h
    · exact Or.inl hn
    · exact Or.inr (weights_mem_all h n hn)
theorem DSized.elem {H : Type} {P : Program} {t e : TypeId} {elems sp : List (DataW H)} (ht : P.underlying t = some (.slice e)) (h : DSized P t (.slice elems sp)) {x : DataW H} (hx : x ∈ elems) : DSized P e x := fun n hn => by
  refine h n ?_
  simp only [DataW.weights, ht, List.mem_cons, List.mem_append]
  exact Or.inr (Or.inl (weights_mem_all hx n hn))
theorem DSized.len {H : Type} {P : Program} {t e : TypeId} {elems sp : List (DataW H)} (ht : P.underlying t = some (.slice e)) (h : DSized P t (.slice elems sp)) : elems.length * P.bytesOf e ≤ reachBytes := by
  have := h ((elems.length + sp.length) * P.bytesOf e) (by simp [DataW.weights, ht])
  exact Nat.le_trans (Nat.mul_le_mul_right _ (Nat.le_add_right _ _)) this
theorem DSized.str {H : Type} {P : Program} {t : TypeId} {s : ByteArray} (h : DSized (H := H) P t (.lit (.string s.data.toList))) : s.size ≤ reachBytes := by
  have := h s.data.toList.length (by simp [DataW.weights])
  simpa using this
/-- A slice's elements: none, or at an address, each by its cells and its own reading, with the bounds. -/
theorem slice_sized {H : Type} {enc : TypeId × Value → H} {P : Program} {W : World} {base : Nat} {sp : Nat → Bool} {hd : Bool} {t e : TypeId} {ao : Option Addr} {len cap C : Nat} {d : DataW H} {p : List MemPlace}
    (ht : P.underlying t = some (.slice e)) (hC : P.cellsOf e = C) (hC0 : 0 < C) (h : DataW.Trod enc P W base sp hd t (.slice ao len cap) d p) (hz : DSized P t d) :
    len * P.bytesOf e ≤ reachBytes ∧ (len = 0 ∨ ∃ (b off n : Nat) (D : Nat → DataW H) (Pl : Nat → List MemPlace), ao = some ⟨b, off, none⟩ ∧ base ≤ b ∧ b < W.heap.size ∧
      ∀ i, i < len → DSized P e (D i) ∧ ∃ cs : List Value, cs.length = C ∧ (∀ j, j < C → W.cell? ⟨b, off + i * C + j, none⟩ = cs[j]?) ∧ DataW.trod enc P W base sp hd n e cs = some (D i, Pl i)) := by
  obtain ⟨fuel, hf⟩ := h
  rcases Go.Deep.open_slice ht hf with ⟨h0, _⟩ | ⟨a, len', cap', m, n, D, Pl, h0, hb, hl, hm, hmm, hd, hx⟩
  · simp [Value.cells] at h0
    obtain ⟨rfl, rfl, rfl⟩ := h0
    exact ⟨by simp, Or.inl rfl⟩
  · simp [Value.cells] at h0
    obtain ⟨rfl, rfl, rfl⟩ := h0
    simp only [Prod.mk.injEq] at hd
    obtain ⟨rfl, _⟩ := hd
    have hlen := DSized.len ht hz
    rw [List.length_map, List.length_range] at hlen
    refine ⟨hlen, ?_⟩
    by_cases hz0 : len = 0
    · exact Or.inl hz0
    · right
      have hlm : len ≤ m := by rw [hmm]; split <;> omega
      rw [hC] at hx
      obtain ⟨b, off, spot⟩ := a
      have hs : spot = none := by
        obtain ⟨cs', h1, _⟩ := hx 0 (by omega)
        have h2 := (World.cells?_some h1).2.2 0 hC0
        have h3 : cs'.length = C := (World.cells?_some h1).2.1
        rw [List.getElem?_eq_getElem (by omega)] at h2
        simpa [Addr.add] using World.cell?_spot h2
      subst hs
      refine ⟨b, off, n, D, Pl, rfl, hb, ?_, fun i hi => ⟨DSized.elem ht hz (List.mem_map.2 ⟨i, List.mem_range.2 hi, rfl⟩), ?_⟩⟩
      · obtain ⟨cs', h1, _⟩ := hx 0 (by omega)
        have h2 := World.cells?_block h1 hC0
        simpa [Addr.add] using h2
      · obtain ⟨cs', h1, h2⟩ := hx i (by omega)
        obtain ⟨_, h3, h4⟩ := World.cells?_some h1
        refine ⟨cs', h3, fun j hj => ?_, h2⟩
        have := h4 j hj
        rw [Go.Deep.add_add, Go.WideShapes.add_plain] at this
        rw [← this, Nat.add_assoc]
/-- A slice among the arguments, whose things are read one by one, with the bounds. -/
theorem open_sized {α : Type} {k : Nat} {cells : α → List Value} {sub : World → Nat → α → Prop} {H : Type} {enc : TypeId × Value → H} {P : Program} {W : World} {sp : Nat → Bool} {hd : Bool} {t e : TypeId} {ao : Option Addr} {len cap : Nat} {d : DataW H} {p : List MemPlace} (Q : α → Prop)
    (ht : P.underlying t = some (.slice e)) (hC : P.cellsOf e = k) (hk : 0 < k)
    (hel : ∀ (cs : List Value) (n : Nat) (y : DataW H) (pl : List MemPlace), cs.length = k → DataW.trod enc P W 0 sp hd n e cs = some (y, pl) → DSized P e y → ∃ x : α, cells x = cs ∧ sub W W.heap.size x ∧ Q x)
    (h : DataW.Trod enc P W 0 sp hd t (.slice ao len cap) d p) (hz : DSized P t d) :
    ∃ xs : List α, xs.length = len ∧ RowsIn k cells sub W W.heap.size ao xs ∧ (∀ x ∈ xs, Q x) ∧ (ao = none → cap = 0) ∧ len ≤ cap ∧ len * P.bytesOf e ≤ reachBytes := by
  obtain ⟨h1, h2, h3⟩ := slice_shape ht h
  obtain ⟨hm, h0 | ⟨b, off, n, D, Pl, e1, _, hb, hx⟩⟩ := slice_sized ht hC hk h hz
  · exact ⟨[], h0.symm, Or.inl rfl, (by intro x hx; cases hx), h3, h1, hm⟩
  · have hne : ∀ i, i < len → ∃ x : α, (∀ j, j < k → W.cell? ⟨b, off + i * k + j, none⟩ = (cells x)[j]?) ∧ sub W W.heap.size x ∧ Q x := by
      intro i hi
      obtain ⟨hzi, cs, hl, hc, ht'⟩ := hx i hi
      obtain ⟨x, rfl, hs, hq⟩ := hel cs n _ _ hl ht' hzi
      exact ⟨x, hc, hs, hq⟩
    have key : ∀ m, m ≤ len → ∃ xs : List α, xs.length = m ∧ (∀ x ∈ xs, Q x) ∧ ∀ (i : Nat) (x : α), xs[i]? = some x → (∀ j, j < k → W.cell? ⟨b, off + i * k + j, none⟩ = (cells x)[j]?) ∧ sub W W.heap.size x := by
      intro m
      induction m with
      | zero => intro _; exact ⟨[], rfl, (by intro x hx; cases hx), (by intro i x hx; simp at hx)⟩
      | succ m ih =>
        intro hm'
        obtain ⟨xs, e1, e2, e3⟩ := ih (by omega)
        obtain ⟨x, g1, g2, g3⟩ := hne m (by omega)
        refine ⟨xs ++ [x], by simp [e1], fun y hy => ?_, fun i y hy => ?_⟩
        · rcases List.mem_append.1 hy with hy | hy
          · exact e2 y hy
          · rw [List.mem_singleton.1 hy]; exact g3
        · by_cases hi : i < m
          · rw [List.getElem?_append_left (by omega)] at hy; exact e3 i y hy
          · rw [List.getElem?_append_right (by omega)] at hy
            have hi' : i = m := by
              rcases Nat.lt_or_ge (i - xs.length) 1 with hh | hh
              · omega
              · rw [List.getElem?_eq_none (by simpa using hh)] at hy; cases hy
            subst hi'
            rw [e1, Nat.sub_self] at hy
            obtain rfl : x = y := by simpa using hy
            exact ⟨g1, g2⟩
    obtain ⟨xs, q1, q2, q3⟩ := key len (Nat.le_refl _)
    exact ⟨xs, q1, Or.inr ⟨b, off, e1, hb, q3⟩, q2, h3, h1, hm⟩
/-- A value among the arguments. -/
def VaArg (v : Va) : Prop := (Lit.int .u8 v.kind).wf = true ∧ (Lit.int .i64 v.num).wf = true ∧ v.text.size ≤ reachBytes
theorem cells_va : Try.prog.cellsOf 76 = 3 := by kernel_rfl
theorem cells_en : Try.prog.cellsOf 59 = 9 := by kernel_rfl
theorem cells_cm : Try.prog.cellsOf 57 = 4 := by kernel_rfl
theorem cells_i64 : Try.prog.cellsOf 3 = 1 := by kernel_rfl
theorem cells_int64 : Try.prog.cellsOf 2 = 1 := by kernel_rfl
theorem cells_str : Try.prog.cellsOf 9 = 1 := by kernel_rfl
theorem cells_ek : Try.prog.cellsOf 53 = 1 := by kernel_rfl
theorem cells_vk : Try.prog.cellsOf 74 = 1 := by kernel_rfl
theorem cells_ck : Try.prog.cellsOf 54 = 1 := by kernel_rfl
theorem cells_vas : Try.prog.cellsOf 55 = 1 := by kernel_rfl
theorem cells_ints : Try.prog.cellsOf 24 = 1 := by kernel_rfl
theorem va_el {H : Type} {enc : TypeId × Value → H} {W : World} {sp : Nat → Bool} {hd : Bool} (cs : List Value) (n : Nat) (y : DataW H) (pl : List MemPlace) (hl : cs.length = 3) (h : DataW.trod enc Try.prog W 0 sp hd n 76 cs = some (y, pl)) (hz : DSized Try.prog 76 y) :
    ∃ x : Va, vaCells x = cs ∧ noSub W W.heap.size x ∧ VaArg x := by
  obtain ⟨c0, c1, c2, rfl⟩ : ∃ c0 c1 c2, cs = [c0, c1, c2] := by
    match cs, hl with
    | [c0, c1, c2], _ => exact ⟨c0, c1, c2, rfl⟩
  obtain ⟨xs, m, _, hx, _, hlen, hf⟩ := DataW.trod_struct Try.underlying76 h
  simp only [Prod.mk.injEq] at hx
  obtain ⟨rfl, _⟩ := hx
  match xs, hlen with
  | [y0, y1, y2], _ =>
    have h0 := hf 0 _ rfl
    have h1 := hf 1 _ rfl
    have h2 := hf 2 _ rfl
    simp [cells_vk, cells_int64, cells_str] at h0 h1 h2
    obtain ⟨k0, e0, _, w0⟩ := DataW.trod_int Try.underlying74 h0
    obtain ⟨k1, e1, _, w1⟩ := DataW.trod_int Try.underlying2 h1
    obtain ⟨s, e2, d2, _⟩ := DataW.trod_string Try.underlying9 h2
    have z2 := DSized.field Try.underlying76 hz (i := 2) (y := y2) rfl rfl
    rw [d2] at z2
    simp at e0 e1 e2
    subst e0 e1 e2
    exact ⟨⟨k0, k1, s⟩, rfl, trivial, w0, w1, DSized.str z2⟩
theorem i_el {H : Type} {enc : TypeId × Value → H} {W : World} {sp : Nat → Bool} {hd : Bool} (cs : List Value) (n : Nat) (y : DataW H) (pl : List MemPlace) (hl : cs.length = 1) (h : DataW.trod enc Try.prog W 0 sp hd n 3 cs = some (y, pl)) (_ : DSized Try.prog 3 y) :
    ∃ x : Int, iCells x = cs ∧ noSub W W.heap.size x ∧ (Lit.int .i64 x).wf = true := by
  obtain ⟨k0, e0, _, w0⟩ := DataW.trod_int Try.underlying3 h
  exact ⟨k0, e0.symm, trivial, w0⟩
/-- An entry among the arguments. -/
structure EnWf (e : En) : Prop where
  term : (Lit.int .i64 e.term).wf = true
  kind : (Lit.int .u8 e.kind).wf = true
  session : (Lit.int .i64 e.session).wf = true
  seq : (Lit.int .i64 e.seq).wf = true
  ck : (Lit.int .u8 e.ck).wf = true
  text : e.text.size ≤ 140737488351232
  args : ∀ v ∈ e.args, VaArg v
  num : (Lit.int .i64 e.num).wf = true
  vs : ∀ v ∈ e.vs, (Lit.int .i64 v).wf = true
  argn : e.args.length * 32 ≤ 140737488351232
  vn : e.vs.length * 8 ≤ 140737488351232
  anil : e.aao = none → e.acap = 0
  vnil : e.vao = none → e.vcap = 0
  acap : e.args.length ≤ e.acap
  vcap : e.vs.length ≤ e.vcap
theorem bytes_va : Try.prog.bytesOf 76 = 32 := by kernel_rfl
theorem bytes_i : Try.prog.bytesOf 3 = 8 := by kernel_rfl
theorem bytes_en : Try.prog.bytesOf 59 = 112 := by kernel_rfl
theorem en_el {H : Type} {enc : TypeId × Value → H} {W : World} {sp : Nat → Bool} {hd : Bool} (cs : List Value) (n : Nat) (y : DataW H) (pl : List MemPlace) (hl : cs.length = 9) (h : DataW.trod enc Try.prog W 0 sp hd n 59 cs = some (y, pl)) (hz : DSized Try.prog 59 y) :
    ∃ x : En, enCells x = cs ∧ enSub W W.heap.size x ∧ EnWf x := by
  obtain ⟨c0, c1, c2, c3, c4, c5, c6, c7, c8, rfl⟩ : ∃ c0 c1 c2 c3 c4 c5 c6 c7 c8, cs = [c0, c1, c2, c3, c4, c5, c6, c7, c8] := by
    match cs, hl with
    | [c0, c1, c2, c3, c4, c5, c6, c7, c8], _ => exact ⟨c0, c1, c2, c3, c4, c5, c6, c7, c8, rfl⟩
  obtain ⟨xs, m, _, hx, _, hlen, hf⟩ := DataW.trod_struct Try.underlying59 h
  simp only [Prod.mk.injEq] at hx
  obtain ⟨rfl, _⟩ := hx
  match xs, hlen with
  | [y0, y1, y2, y3, y4, y5], _ =>
    have h0 := hf 0 _ rfl
    have h1 := hf 1 _ rfl
    have h2 := hf 2 _ rfl
    have h3 := hf 3 _ rfl
    have h4 := hf 4 _ rfl
    have h5 := hf 5 _ rfl
    have z4 := DSized.field Try.underlying59 hz (i := 4) (y := y4) rfl rfl
    have z5 := DSized.field Try.underlying59 hz (i := 5) (y := y5) rfl rfl
    simp [cells_i64, cells_ek, cells_cm, cells_ints] at h0 h1 h2 h3 h4 h5
    obtain ⟨k0, e0, _, w0⟩ := DataW.trod_int Try.underlying3 h0
    obtain ⟨k1, e1, _, w1⟩ := DataW.trod_int Try.underlying53 h1
    obtain ⟨k2, e2, _, w2⟩ := DataW.trod_int Try.underlying3 h2
    obtain ⟨k3, e3, _, w3⟩ := DataW.trod_int Try.underlying3 h3
    obtain ⟨va, vl, vc, e5, t5⟩ := slice_cell Try.underlying24 h5
    obtain ⟨vs, rfl, vx, vq, vnil, vcap, vlen⟩ := open_sized (k := 1) (cells := iCells) (sub := noSub) (fun x => (Lit.int .i64 x).wf = true) Try.underlying24 cells_i64 (by decide) i_el t5 z5
    obtain ⟨ys, m4, _, hy, _, hlen4, hf4⟩ := DataW.trod_struct Try.underlying57 h4
    obtain ⟨d4, p4⟩ := y4
    simp only [Prod.mk.injEq] at hy
    obtain ⟨rfl, _⟩ := hy
    match ys, hlen4 with
    | [u0, u1, u2, u3], _ =>
      have g0 := hf4 0 _ rfl
      have g1 := hf4 1 _ rfl
      have g2 := hf4 2 _ rfl
      have g3 := hf4 3 _ rfl
      have q1 := DSized.field Try.underlying57 z4 (i := 1) (y := u1) rfl rfl
      have q2 := DSized.field Try.underlying57 z4 (i := 2) (y := u2) rfl rfl
      simp [cells_i64, cells_ck, cells_str, cells_vas] at g0 g1 g2 g3
      obtain ⟨k4, e4, _, w4⟩ := DataW.trod_int Try.underlying54 g0
      obtain ⟨s, e6, d6, _⟩ := DataW.trod_string Try.underlying9 g1
      obtain ⟨aa, al, ac, e7, t7⟩ := slice_cell Try.underlying55 g2
      obtain ⟨args, rfl, ax, aq, anil, acap, alen⟩ := open_sized (k := 3) (cells := vaCells) (sub := noSub) VaArg Try.underlying55 cells_va (by decide) va_el t7 q2
      obtain ⟨k8, e8, _, w8⟩ := DataW.trod_int Try.underlying3 g3
      rw [d6] at q1
      simp at e0 e1 e2 e3 e4 e5 e6 e7 e8
      subst e0 e1 e2 e3 e4 e5 e6 e7 e8
      rw [bytes_va] at alen
      rw [bytes_i] at vlen
      exact ⟨⟨k0, k1, k2, k3, k4, s, aa, args, ac, k8, va, vs, vc⟩, rfl, ⟨ax, vx⟩, ⟨w0, w1, w2, w3, w4, DSized.str q1, aq, w8, vq, alen, vlen, anil, vnil, acap, vcap⟩⟩
/-- Entries among the arguments. -/
theorem open_entries {H : Type} {enc : TypeId × Value → H} {W : World} {sp : Nat → Bool} {hd : Bool} {ao : Option Addr} {len cap : Nat} {d : DataW H} {p : List MemPlace} (h : DataW.Trod enc Try.prog W 0 sp hd 22 (.slice ao len cap) d p) (hz : DSized Try.prog 22 d) :
    ∃ es : List En, es.length = len ∧ EnsIn W W.heap.size ao es ∧ (∀ e ∈ es, EnWf e) ∧ (ao = none → cap = 0) ∧ len ≤ cap ∧ len * 112 ≤ 140737488351232 := by
  obtain ⟨es, h1, h2, h3, h4, h5, h6⟩ := open_sized (k := 9) (cells := enCells) (sub := enSub) EnWf Try.underlying22 cells_en (by decide) en_el h hz
  rw [bytes_en] at h6
  exact ⟨es, h1, h2, h3, h4, h5, h6⟩
end Go.Proofs.Ytljfanhkbbfngaa
/- The law's own cap on entries. Conditions: the entries are read as the row reads them. -/
namespace Go.Proofs.Ytljfanhkbbfngaa
open Go.RowKit
set_option maxRecDepth 20000
def light1 (e : En) : Bool := decide (e.vs.length + e.args.length + e.text.size ≤ 100)
def plainB (es : List En) : Bool := es.all light1
theorem plainB_take {es : List En} {k : Nat} (hk : k < es.length) : plainB (es.take (k + 1)) = (plainB (es.take k) && light1 es[k]) := by
  unfold plainB
  rw [List.take_succ_eq_append_getElem hk, List.all_append]; simp
set_option maxHeartbeats 1000000 in
theorem plain_any (ao : Option Addr) (n cap : Nat) (es : List En) (w : World) (hn : es.length = n) (hx : EnsIn w w.heap.size ao es) (hq : ∀ e ∈ es, EnWf e) (hl : n ≤ 1099511627776000) :
    Calls Try.prog 6 #[.slice ao n cap] w fun e w' => e = .returned (.bool (plainB es)) ∧ Below w.heap.size w w' := by
  have HX := Lib.hid hx
  have HN := Lib.hid hn
  have HQ := Lib.hid hq
  clear hx hn hq
  go_enter Try.func6, Try.ntmps6
  go_wp2_with fail
  go_loopw [3] (fun i wr => ∃ k : Nat, k ≤ n ∧ i = .int .i64 k ∧ plainB (es.take k) = true ∧ Below w.heap.size w wr) (fun i _ => n - (intOf i).toNat)
  case atStart => exact ⟨0, by omega, rfl, rfl, Below.refl _ _⟩
  case round =>
    obtain ⟨k, hk, rfl, hpl, hbel⟩ := hrel
    have HPL := Lib.hid hpl
    clear hpl
    by_cases hlt : k < n
    · have hkl : k < es.length := by rw [HN.out]; exact hlt
      have hkx : es[k]? = some es[k] := List.getElem?_eq_getElem hkl
      have hwf := HQ.out _ (List.getElem_mem hkl)
      have htk := plainB_take hkl
      obtain ⟨b, off, hao, hb, hc, _⟩ := HX.out.at hkx
      have hfin : light1 es[k] = false → plainB es = false := fun h => by
        unfold plainB
        rw [List.all_eq_false]
        exact ⟨es[k], List.getElem_mem hkl, by simp [h]⟩
      generalize es[k] = x at hc hwf htk hfin
      obtain ⟨t, kd, s, q, ck, text, aao, args, acap, num, vao, vs, vcap⟩ := x
      have z1 := hwf.text
      have z2 := hwf.argn
      have z3 := hwf.vn
      dsimp only at z1 z2 z3
      obtain ⟨an, han⟩ : ∃ an, args.length = an := ⟨_, rfl⟩
      obtain ⟨vn, hvn⟩ : ∃ vn, vs.length = vn := ⟨_, rfl⟩
      obtain ⟨tn, htn⟩ : ∃ tn, text.size = tn := ⟨_, rfl⟩
      rw [han] at z2
      rw [hvn] at z3
      rw [htn] at z1
      have c5 : wr.cell? ⟨b, off + k * 9 + 4 + 1, none⟩ = some (.string text) := (hbel.cell (p := ⟨b, _, none⟩) hb).trans (hc 5 (by decide))
      have c6 : wr.cell? ⟨b, off + k * 9 + 4 + 2, none⟩ = some (.slice aao an acap) := (hbel.cell (p := ⟨b, _, none⟩) hb).trans (han ▸ hc 6 (by decide))
      have c8 : wr.cell? ⟨b, off + k * 9 + 8, none⟩ = some (.slice vao vn vcap) := (hbel.cell (p := ⟨b, _, none⟩) hb).trans (hvn ▸ hc 8 (by decide))
      have i1 : (k : Int) < n := by omega
      have w1 : IntKind.i64.wrap ((vn : Int) + an) = (vn : Int) + an := IntWalk.i64_in _ (by omega)
      have w2 : IntKind.i64.wrap ((vn : Int) + an + (text.size : Int)) = (vn : Int) + an + (text.size : Int) := IntWalk.i64_in _ (by omega)
      have hls : light1 ⟨t, kd, s, q, ck, text, aao, args, acap, num, vao, vs, vcap⟩ = decide (vn + an + tn ≤ 100) := by unfold light1; dsimp only; rw [han, hvn, htn]
      rw [hls] at htk hfin
      have HTK := Lib.hid htk
      have HF := Lib.hid hfin
      have HTN := Lib.hid htn
      subst hao
      clear hc hkx hwf htk hfin hls htn han hvn
      by_cases hgt : 100 < vn + an + tn
      · have d1 : (100 : Int) < (vn : Int) + an + (text.size : Int) := by have := HTN.out; omega
        go_wp2_with fail
        go_quiet (fail)
        go_wp2_with fail
        go_ret
        exact ⟨ret_bool (HF.out (by simp; omega)).symm, below_drewN hbel _⟩
      · have d1 : ¬ (100 : Int) < (vn : Int) + an + (text.size : Int) := by have := HTN.out; omega
        have d2 : decide ((100 : Int) < (vn : Int) + an + (text.size : Int)) = false := by simpa using d1
        go_wp2_with fail
        go_quiet (fail)
        go_wp2_with fail
        go_roundw
        case rel => exact ⟨k + 1, by omega, by go_num, by rw [HTK.out, HPL.out]; simp; omega, below_drewN hbel _⟩
        case measure => simp [intOf]; omega
    · have hk2 : k = n := by omega
      subst hk2
      have hfin : plainB es = true := by have := HPL.out; rwa [List.take_of_length_le (by rw [HN.out]; exact Nat.le_refl _)] at this
      have HF := Lib.hid hfin
      clear hfin
      go_wp2_with fail
      go_ret
      exact ⟨ret_bool HF.out.symm, hbel⟩
end Go.Proofs.Ytljfanhkbbfngaa
