/- A log's Fit. Conditions: the log is one that was made; its numbers are not too great. -/
import Derived.Test.YtknnbnmogjkcnaaGreatLogF
import Derived.Deep.RegionLawGrows
namespace Go.Proofs.YtknnbnmogjkcnaaGreat
open Go.RowKit
set_option maxRecDepth 20000

theorem run_sub_hm {P : Program} {t : TypeId} {k : Nat} (ht : P.underlying t = some (.slice (P.elem t))) (hk : ∀ w, (sizeOf (P.elem t)).run P w = .ok k w) (ao : Option Addr) (n cap h : Nat) (hh : h ≤ cap) (kh km : IntKind) (hi : Int) (eh : hi = h) (w : World) :
    (Instr.sliceAt t (.slice ao n cap) none (some (.int kh hi)) (some (.int km hi))).run P w = .ok (.slice (subA ao h 0 k) h h) w := by
  subst eh
  rw [run_sliceAt_slice _ _ _ _ _ _ ht, run_slice_hm _ _ _ _ _ ht _ _ _ _ (by omega) (by omega) (by omega), hk]
  simp [Result.andThen, sliced, subA]
theorem fit_no (B lb : Nat) (base term : Int) (v : Value) (es : List En) (i t r : Int) (ok : Bool) (ms : Value) (w : World) (hr : termS base term (es.map En.plain) i = (r, ok)) (hno : ok = true → r ≠ t) (hL : LogAt w B lb base term v es) (hN : LogNums base es.length i) :
    Calls Tryz.prog 11 #[.pointer (some ⟨lb, 0, none⟩), .int .i64 i, .int .i64 t, ms] w fun e w' => e = .returned (.tuple #[.bool false, .int .i64 0]) ∧ Below w.heap.size w w' := by
  have HL := Lib.hid hL
  have HN := Lib.hid hN
  have HR := Lib.hid hr
  clear hL hN hr
  cases ok with
  | false =>
    clear hno
    go_enter Tryz.func11, Tryz.ntmps11
    go_wp2_with fail
    refine (term_any B lb base term _ es i r false _ HR.out HL.out HN.out).mono ?_
    rintro e w2 ⟨rfl, hp⟩
    go_wp2_with fail
    go_ret2
    exact ⟨rfl, hp⟩
  | true =>
    have h1 : ¬ r = t := hno rfl
    have d1 : decide (r = t) = false := by simpa using h1
    clear hno
    go_enter Tryz.func11, Tryz.ntmps11
    go_wp2_with fail
    refine (term_any B lb base term _ es i r true _ HR.out HL.out HN.out).mono ?_
    rintro e w2 ⟨rfl, hp⟩
    go_wp2_with fail
    go_ret2
    exact ⟨rfl, hp⟩
def FitAt (B lb : Nat) (base term : Int) (es : List En) (ps : List EnP) (i : Int) (k0 m : Nat) (w : World) (e : Ending) (w' : World) : Prop :=
  (k0 = m ∧ e = .returned (.tuple #[.bool true, .int .i64 0]) ∧ Below w.heap.size w w') ∨
  (k0 < m ∧ ∃ v' es', e = .returned (.tuple #[.bool true, .int .i64 (i + 1 + k0)]) ∧ LogAt w' B lb base term v' es' ∧ es'.map En.plain = (es.map En.plain).take (i - base + k0).toNat ++ ps.drop k0 ∧ Below B w w')
/-- Entries, of which the row has been laid anew from some of it and some new ones. -/
theorem LogAt.fitted {w1 w2 w3 : World} {B lb : Nat} {base term : Int} {v v' : Value} {v2 : Value} {es es2 : List En} (q : Nat) (h : LogAt w1 B lb base term v es) (hB : B ≤ w1.heap.size) (hb : Below w1.heap.size w1 w2) (ho : EnsOwn w2 w1.heap.size v2 es2)
    (hown : w3.ownsRow B 38 9 v' ((es.take q).length + es2.length) ((es.take q).flatMap enCells ++ es2.flatMap enCells)) (hg : w2.grownBy w3 none) : EnsOwn w3 B v' (es.take q ++ es2) := by
  have h2 := h.below hb (Nat.le_refl _)
  have hkeep : ∀ {E k : Nat} {v : Value} {n : Nat} {xs : List Value} {b : Nat}, w2.ownsRow b E k v n xs → w3.ownsRow b E k v n xs := fun hr => World.ownsRow.kept hr hg (by
    cases hv : Value.ownBlock _ with
    | none => exact Or.inl rfl
    | some b => exact Or.inr (by simp))
  refine ⟨by rw [List.length_append, List.flatMap_append]; exact hown, fun e he => ?_, List.pairwise_append.2 ⟨h.ens.sep.sublist (List.take_sublist q es), ho.sep, fun e he f hf => ?_⟩⟩
  · rcases List.mem_append.1 he with h' | h'
    · have h3 := h2.ens.own e (List.mem_of_mem_take h')
      exact ⟨hkeep h3.1, hkeep h3.2⟩
    · have h3 := (ho.own e h').le hB
      exact ⟨hkeep h3.1, hkeep h3.2⟩
  · replace he := List.mem_of_mem_take he
    unfold sepE
    constructor
    · cases hb1 : (argV e).ownBlock with
      | none => exact Or.inl rfl
      | some b =>
        right
        intro hh
        have q1 := ((h.ens.own e he).1.lt b hb1).2
        have q2 := ((ho.own f hf).1.lt b hh.symm).1
        omega
    · cases hb1 : (votV e).ownBlock with
      | none => exact Or.inl rfl
      | some b =>
        right
        intro hh
        have q1 := ((h.ens.own e he).2.lt b hb1).2
        have q2 := ((ho.own f hf).2.lt b hh.symm).1
        omega
/-- An append to a full row of rows that are only read, of rows that are only read: at a step of a region that draws its order. -/
theorem step_append_fresh {α : Type} {k bytes : Nat} {cells : α → List Value} {sub sub2 : World → Nat → α → Prop} {z : Value} {T E : TypeId} {w : World} {ops : Array Oper} {o : Oper} {a : Act} {K : Act → World → Prop} {Q : Exit → Act → World → Prop} {F : Prop} (hT : Tryz.prog.underlying T = some (.slice E))
    (hinfo : (Tryz.prog.info? E).map (fun i => (i.zero, i.size, i.bytes)) = some (some z, k, bytes)) (hzs : z.cells.size = k) (h0 : 0 < k) (hk : ∀ x, (cells x).length = k) (hone : ∀ x, ∀ u ∈ cells x, u.oneCell' = true) (hgd : o.guard = none) (s x : Operand)
    (ho : o.op = .call { callee := .builtin .append, args := #[s, x], argTypes := #[T, T] })
    (ao : Option Addr) (n : Nat) (ys : List α) (hs : a.eval s = .slice ao n n) (hn : ys.length = n) (B0 : Nat) (hys : RowsIn k cells sub w B0 ao ys) (hao : ao = none → n = 0)
    (ad : Addr) (m cap : Nat) (xs : List α) (hm : xs.length = m) (hm0 : 0 < m) (hx : a.eval x = .slice (some ad) m cap) (B : Nat) (hin : RowsIn k cells sub2 w B (some ad) xs) (hmax : n + m ≤ maxLen) (hlim : (n + m) * bytes ≤ 140737488355328)
    (h : ∀ v' w', w'.ownsRow w.heap.size E k v' (n + m) (ys.flatMap cells ++ xs.flatMap cells) → w.grownBy w' none → K (a.put o.dst v') w') :
    if Region.wanted o (yielded ops a.tmps) = true then Oper.wp Tryz.prog o a w K Q else F := by
  obtain ⟨i0, hi, hz0, hz1, hz2⟩ := info_parts hinfo
  subst hm
  subst hn
  exact step_append_grows hgd s x T ho E i0 z k bytes hT hi hz0 hz1 hz2 hzs h0 ao ys.length ys.length (ys.flatMap cells) hs (fun e => ⟨hao e, hao e⟩) (flat_len hk ys) (fun b hb j u hu => cells_of_rows hk h0 hys (Below.refl _ _) hb hu) ad xs.length cap (xs.flatMap cells) hx (flat_len hk xs) (fun j u hu => cells_of_rows hk h0 hin (Below.refl _ _) rfl hu) (fun u hu => by
    obtain ⟨y, _, hy⟩ := List.mem_flatMap.1 hu
    exact hone y u hy) (by omega) hmax hlim h
theorem len_of_plain' {es xs : List En} (h : es.map En.plain = xs.map En.plain) : es.length = xs.length := len_of_plain h
theorem row_addr {w : World} {B n c : Nat} {a : Option Addr} {E k : Nat} {xs : List Value} (h : w.ownsRow B E k (.slice a n c) n xs) (z : Nat) : subA a z 0 9 = a := subA_zero a z 9 (fun x hx => by
  rcases Go.Joins.ownsRow_forms h with ⟨h1, _⟩ | ⟨g, c2, h1⟩
  · injection h1 with h2 _ _; rw [hx] at h2; cases h2
  · injection h1 with h2 _ _; rw [hx] at h2; injection h2 with h3; rw [h3])
set_option maxHeartbeats 4000000 in
theorem fit_any (B lb : Nat) (base term : Int) (v : Value) (es : List En) (i t : Int) (ao : Option Addr) (m cap : Nat) (xs : List En) (k0 : Nat) (w : World) (B2 : Nat) (hr : termS base term (es.map En.plain) i = (t, true))
    (hk : k0 ≤ m) (hsame : ∀ k x, k < k0 → xs[k]? = some x → termS base term (es.map En.plain) (i + 1 + k) = (x.term, true)) (hnot : ∀ x, xs[k0]? = some x → ∀ r ok, termS base term (es.map En.plain) (i + 1 + k0) = (r, ok) → ok = true → r ≠ x.term)
    (hL : LogAt w B lb base term v es) (hN : LogNums base es.length i) (hi : i ≤ 1099511627776) (hq0 : 0 ≤ i - base) (hq : i - base + k0 ≤ es.length) (hB : B ≤ w.heap.size) (hn : xs.length = m) (hx : EnsIn w B2 ao xs) (hB2 : B2 ≤ w.heap.size) (hao : ao = none → cap = 0) (hcap : m ≤ cap) (hl : m ≤ 1099511627776) (hnm : es.length + m ≤ 1099511627776) (hqa : EnsArg xs) :
    Calls Tryz.prog 11 #[.pointer (some ⟨lb, 0, none⟩), .int .i64 i, .int .i64 t, .slice ao m cap] w (FitAt B lb base term es (xs.map En.plain) i k0 m w) := by
  obtain ⟨a, c, hv⟩ := hL.form
  subst hv
  have HN := Lib.hid hN
  obtain ⟨h1, h2, h3, h4, h5⟩ := hN
  have HL := Lib.hid hL
  have HR := Lib.hid hr
  have HSAME := Lib.hid hsame
  have HNOT := Lib.hid hnot
  have HXN := Lib.hid hn
  have HX := Lib.hid (show EnsIn w w.heap.size ao xs from hx.mono enSub_rising hB2)
  have HA := Lib.hid hao
  have HQ := Lib.hid hqa
  clear hL hr hsame hnot hn hx hao hqa hB2
  go_enter Tryz.func11, Tryz.ntmps11
  go_wp2_with fail
  refine (term_any B lb base term _ es i t true _ HR.out HL.out HN.out).mono ?_
  rintro e w2 ⟨rfl, hp⟩
  go_wp2_with fail
  go_loopw [33] (fun i wr => ∃ k : Nat, k ≤ k0 ∧ i = .int .i64 k ∧ Below w.heap.size w wr) (fun i _ => m - (intOf i).toNat)
  case atStart => exact ⟨0, by omega, rfl, hp⟩
  case round =>
    clear hp
    obtain ⟨k, hk1, rfl, hbel⟩ := hrel
    have hsw := hbel.size
    by_cases hlt : k < m
    · have hkx : xs[k]? = some (xs[k]'(by rw [HXN.out]; exact hlt)) := List.getElem?_eq_getElem _
      obtain ⟨b, off, hao, hb, hc, hcs⟩ := HX.out.at hkx
      have hT : ∀ r ok, termS base term (es.map En.plain) (i + 1 + k) = (r, ok) → (k < k0 → r = (xs[k]'(by rw [HXN.out]; exact hlt)).term ∧ ok = true) ∧ (k = k0 → ok = true → r ≠ (xs[k]'(by rw [HXN.out]; exact hlt)).term) := by
        intro r ok he
        constructor
        · intro h
          rw [HSAME.out k _ h hkx] at he
          simpa [eq_comm] using he
        · intro h ht
          subst h
          exact HNOT.out _ hkx r ok he ht
      generalize xs[k]'(by rw [HXN.out]; exact hlt) = x at hc hcs hT
      obtain ⟨t1, kd, s, q, ck, text, aao, args, acap, num, vao, vs, vcap⟩ := x
      obtain ⟨an, han⟩ : ∃ an, args.length = an := ⟨_, rfl⟩
      obtain ⟨vn, hvn⟩ : ∃ vn, vs.length = vn := ⟨_, rfl⟩
      dsimp only at hT
      obtain ⟨r, ok, hro⟩ : ∃ r ok, termS base term (es.map En.plain) (i + 1 + k) = (r, ok) := ⟨_, _, rfl⟩
      have hT2 := hT r ok hro
      have HT2 := Lib.hid hT2
      have HRO := Lib.hid hro
      have c0 : wr.cell? ⟨b, off + k * 9, none⟩ = some (.int .i64 t1) := (hbel.cell (p := ⟨b, _, none⟩) hb).trans (hc 0 (by decide))
      have c1 : wr.cell? ⟨b, off + k * 9 + 1, none⟩ = some (.int .u8 kd) := (hbel.cell (p := ⟨b, _, none⟩) hb).trans (hc 1 (by decide))
      have c2 : wr.cell? ⟨b, off + k * 9 + 2, none⟩ = some (.int .i64 s) := (hbel.cell (p := ⟨b, _, none⟩) hb).trans (hc 2 (by decide))
      have c3 : wr.cell? ⟨b, off + k * 9 + 3, none⟩ = some (.int .i64 q) := (hbel.cell (p := ⟨b, _, none⟩) hb).trans (hc 3 (by decide))
      have c4 : wr.cell? ⟨b, off + k * 9 + 4, none⟩ = some (.int .u8 ck) := (hbel.cell (p := ⟨b, _, none⟩) hb).trans (hc 4 (by decide))
      have c5 : wr.cell? ⟨b, off + k * 9 + 5, none⟩ = some (.string text) := (hbel.cell (p := ⟨b, _, none⟩) hb).trans (hc 5 (by decide))
      have c6 : wr.cell? ⟨b, off + k * 9 + 6, none⟩ = some (.slice aao an acap) := (hbel.cell (p := ⟨b, _, none⟩) hb).trans (han ▸ hc 6 (by decide))
      have c7 : wr.cell? ⟨b, off + k * 9 + 7, none⟩ = some (.int .i64 num) := (hbel.cell (p := ⟨b, _, none⟩) hb).trans (hc 7 (by decide))
      have c8 : wr.cell? ⟨b, off + k * 9 + 8, none⟩ = some (.slice vao vn vcap) := (hbel.cell (p := ⟨b, _, none⟩) hb).trans (hvn ▸ hc 8 (by decide))
      have i1 : (k : Int) < m := by omega
      have w1 : IntKind.i64.wrap (i + 1) = i + 1 := IntWalk.i64_in _ (by omega)
      have w2' : IntKind.i64.wrap (i + 1 + (k : Int)) = i + 1 + k := IntWalk.i64_in _ (by omega)
      have HAO := Lib.hid hao
      have hnums : LogNums base es.length (i + 1 + k) := ⟨h1, h2, by omega, by omega, h5⟩
      have HNUM := Lib.hid hnums
      subst hao
      clear hT hT2 hro hc hcs hkx han hvn hnums
      go_wp2_with fail
      refine (term_any B lb base term _ es (i + 1 + k) r ok _ HRO.out (HL.out.below (hbel.alloc hsw _) (Nat.le_refl _)) HNUM.out).mono ?_
      rintro e w4 ⟨rfl, hp4⟩
      have g1 : w4.cell? ⟨wr.heap.size, 0, none⟩ = some (.int .i64 t1) := (hp4.cell (p := ⟨wr.heap.size, 0, none⟩) (by simp)).trans (Go.Joins.cell_of_block (heap_alloc_new wr _) 0)
      have hb4 : Below w.heap.size w w4 := (hbel.alloc hsw _).trans (hp4.mono (by simp; omega))
      clear hp4 c0 c1 c2 c3 c4 c5 c6 c7 c8
      by_cases hk0 : k < k0
      · obtain ⟨rfl, rfl⟩ := HT2.out.1 hk0
        go_wp2_with fail
        go_roundw
        case rel => exact ⟨k + 1, by omega, by go_num, hb4⟩
        case measure => simp [intOf]; omega
      · obtain rfl : k = k0 := by omega
        have hL4 := HL.out.below hb4 (Nat.le_refl _)
        have d1 := hL4.c1
        have HL4 := Lib.hid hL4
        clear hL4
        obtain ⟨z, hz⟩ : ∃ z : Nat, i - base + k = z := ⟨(i - base + k).toNat, by omega⟩
        have w3 : IntKind.i64.wrap (i + 1 + (k : Int) - base) = z + 1 := by rw [IntWalk.i64_in _ (by omega)]; omega
        have w5 : IntKind.i64.wrap ((z : Int) + 1 - 1) = z := by rw [IntWalk.i64_in _ (by omega)]; omega
        have HZ := Lib.hid hz
        have hze : z ≤ es.length := by omega
        clear hz w1 w2' hq
        obtain ⟨n, hn0⟩ : ∃ n, es.length = n := ⟨_, rfl⟩
        have d3 : w4.cell? ⟨lb, 3, none⟩ = some (.slice a n c) := by have := HL4.out.c3; rw [hn0] at this; exact this
        rw [hn0] at hze hnm h5
        have hcn : n ≤ c := by have := own_capG HL4.out.ens.row; omega
        have HEN := Lib.hid hn0
        have hsl1 : ∀ w', (Instr.sliceAt 22 (.slice a n c) none (some (.int .i64 (z : Int))) (some (.int .i64 (z : Int)))).run Tryz.prog w' = .ok (.slice a z z) w' := fun w' => by
          have := run_sub_hm sliceEn sizeEn a n c z (by omega) .i64 .i64 z rfl w'
          rwa [row_addr HL4.out.ens.row z] at this
        have hsl2 : ∀ w', (Instr.sliceAt 22 (.slice (some ⟨b, off, none⟩) m cap) (some (.int .i64 (k : Int))) none none).run Tryz.prog w' = .ok (.slice (subA (some ⟨b, off, none⟩) cap k 9) (m - k) (cap - k)) w' := fun w' => run_sub_l sliceEn sizeEn _ m cap k hk .i64 k rfl w'
        have hlen : (xs.drop k).length = m - k := by rw [List.length_drop, HXN.out]
        have hmapd : (xs.drop k).map En.plain = (xs.map En.plain).drop k := List.map_drop ..
        have hsubin : ∀ w', Below w.heap.size w w' → EnsIn w' w.heap.size (subA (some ⟨b, off, none⟩) cap k 9) (xs.drop k) := fun w' h => by
          have := EnsIn.sub (HX.out.below enSub_kept h (Nat.le_refl _)) k (xs.length - k) (by rw [HXN.out]; exact hcap) (by have := HXN.out; omega)
          rwa [List.take_of_length_le (by simp)] at this
        have hargs : EnsArg (xs.drop k) := ⟨fun x hx => HQ.out.1 x (List.mem_of_mem_drop hx), fun x hx => HQ.out.2 x (List.mem_of_mem_drop hx)⟩
        have hsnil : subA (some ⟨b, off, none⟩) cap k 9 = none → cap - k = 0 := fun h => by have := subA_eq_none h; cases this
        have HS1 := Lib.hid hsl1
        have HS2 := Lib.hid hsl2
        have HLEN := Lib.hid hlen
        have HMAPD := Lib.hid hmapd
        have HSUBIN := Lib.hid hsubin
        have HARGS := Lib.hid hargs
        have HSNIL := Lib.hid hsnil
        clear hlen hmapd hsubin hargs hsnil hn0 hsl1 hsl2
        cases ok
        rotate_left
        focus
          have dn : ¬ r = t1 := HT2.out.2 rfl rfl
          have dr : decide (r = t1) = false := by simpa using dn
          go_wp2_with fail
        rotate_left
        focus
          have dn : True := trivial
          have dr : True := trivial
          go_wp2_with fail
        all_goals (have hsl1 := HS1.out; have hsl2 := HS2.out; clear dn dr w3 w5)
        all_goals (go_region_law (first | (go_simp; go_at_call 14; refine (copied_at (subA (some ⟨b, off, none⟩) cap k 9) (m - k) (cap - k) (xs.drop k) ((xs.map En.plain).drop k) _ w.heap.size HLEN.out HMAPD.out (HSUBIN.out _ (Below.drew hb4)) (by have := hb4.size; simpa using this) HSNIL.out (by omega) HARGS.out).mono ?_; rintro e x2 ⟨a2, c2, es2, rfl, ho2, hm2, hb2⟩; have hle2 : es2.length = m - k := (len_of_plain' (hm2.trans HMAPD.out.symm)).trans HLEN.out; obtain ⟨g2, c2', hg2⟩ := Go.Joins.ownsRow_form ho2.row (by rw [hle2]; omega); injection hg2 with hg3 hg4 hg5; subst hg3; subst hg5; clear hg4; have hx12 : Below w4.heap.size w4 x2 := Below.trans (Below.drew (Below.refl _ _)) hb2; have hL2 := HL4.out.below hx12 (Nat.le_refl _); have hs2 := hx12.size; have d3 : x2.cell? ⟨lb, 3, none⟩ = some (.slice a n c) := (by have := hL2.c3; rw [HEN.out] at this; exact this); have HL2 := Lib.hid hL2; have HO2 := Lib.hid ho2; have HM2 := Lib.hid hm2; have HLE2 := Lib.hid hle2; clear hL2 ho2 hm2 hle2 hb2) | (refine step_append_fresh (sub := enSub) (sub2 := enSub) Tryz.underlying22 infoEn rfl (by decide) enCells_len enCells_one (by rfl) (.tmp 69) (.tmp 73) (by rfl) a z (es.take z) (by rfl) (by rw [List.length_take]; have := HEN.out; omega) x2.heap.size (RowsIn.take z (by obtain ⟨a', c', hv', _, _, hin'⟩ := HL2.out.ens.lie; cases hv'; exact hin')) (fun h => by have := own_none HL2.out.ens.row h; omega) ⟨g2, 0, none⟩ (m - k) c2 es2 HLE2.out (by omega) (by rfl) x2.heap.size (by obtain ⟨a', c', hv', _, _, hin'⟩ := HO2.out.lie; injection hv' with e1 _ _; rw [e1]; exact hin') (by unfold maxLen; omega) (by omega) ?_; intro v5 x5 hown5 hg5; obtain ⟨a5, c5, hv5⟩ := row_slice hown5; subst hv5; have hlb5 := (hg5.block lb HL2.out.lt (fun e => by cases e)).trans HL2.out.blk; have d3 : x5.cell? ⟨lb, 3, none⟩ = some (.slice a n c) := (by have := Go.Joins.cell_of_block hlb5 3; rw [HEN.out] at this; exact this); have f3 : x5.frozen? ⟨lb, 3, none⟩ = false := Go.Joins.unfrozen_of_block hlb5 3; have hlens := HLE2.out; have hB4 : B ≤ w4.heap.size := Nat.le_trans hB hb4.size; have htk : (es.take z).length = z := (by rw [List.length_take]; have := HEN.out; omega); have HE5 := Lib.hid (HL4.out.fitted z (v2 := .slice (some ⟨g2, 0, none⟩) (m - k) c2) (es2 := es2) (w3 := x5) (v' := .slice a5 (z + (m - k)) c5) hB4 hx12 (by have := HO2.out; exact this.le (by simp)) (by rw [htk, HLE2.out]; exact Go.Joins.ownsRow_le hown5 (by omega)) hg5); have HB5 := Lib.hid hlb5; have hb5 : Below B w4 x5 := Below.grown (hx12.mono hB4) hg5 (by omega) (fun b hb => by cases hb); clear hlens htk hown5 hg5 hlb5)))
        all_goals (have hL6 : LogAt (x5.setCell ⟨lb, 3, none⟩ (.slice a5 (z + (m - k)) c5)) B lb base term (.slice a5 (z + (m - k)) c5) (es.take z ++ es2) := ⟨log_store HB5.out, HE5.out.store HB5.out _ _, HL2.out.low⟩)
        all_goals (have hb6 : Below B w (x5.setCell ⟨lb, 3, none⟩ (.slice a5 (z + (m - k)) c5)) := Below.setCell ((hb4.mono hB).trans hb5) HL2.out.low _)
        all_goals (generalize x5.setCell ⟨lb, 3, none⟩ (.slice a5 (z + (m - k)) c5) = x6 at hL6 hb6 ⊢)
        all_goals (simp only [Exit.then])
        all_goals (rename (∀ (_ : Act) (_ : World), _ → _) => hK0)
        all_goals (refine hK0 _ _ ?_; clear hK0)
        all_goals (go_wp2_with fail)
        all_goals go_ret2
        all_goals (exact Or.inr ⟨hlt, _, _, rfl, hL6, by rw [List.map_append, List.map_take, HM2.out, HZ.out]; rfl, hb6⟩)
    · have hk2 : k = m := by omega
      have hk3 : k0 = m := by omega
      subst hk2
      go_wp2_with fail
      go_ret2
      exact Or.inl ⟨hk3, rfl, hbel⟩
end Go.Proofs.YtknnbnmogjkcnaaGreat
