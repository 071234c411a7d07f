/- The document's log: From, Voters, New. Conditions: the log lies as its entries say; its numbers are not too great. -/
import Derived.Test.YtljfanhkbbfngaaGLogDoes7
import Derived.RangeFuncNested
import Derived.RangeFuncLeaves
import Derived.Shelf.Abstract
import Derived.WalkKit
import Derived.OwnWalkIn
import Derived.TacticsInMore
import Derived.LoopNIn
import Derived.LoopIn
import Derived.Test.YtljfanhkbbfngaaGLogDoes4
set_option linter.unusedVariables false
set_option linter.unusedSimpArgs false
namespace Go.Proofs.Ytljfanhkbbfngaa
open Go.RowKit
set_option maxRecDepth 20000
/-- A row of entries of a call's own; what hangs on them is only read. -/
def RowE (es : List En) (w : World) (e : Ending) (w' : World) : Prop :=
  ∃ a n c, e = .returned (.slice a n c) ∧ es.length = n ∧ w'.ownsRow w.heap.size 59 9 (.slice a n c) n (es.flatMap enCells) ∧ Below w.heap.size w w'
/-- What From tells, entry by entry. -/
def fromE (base : Int) (es : List En) (i most : Int) : List En :=
  if base < i ∧ i - base ≤ es.length ∧ 1 ≤ most then (es.drop (i - base - 1).toNat).take most.toNat else []
theorem fromE_plain (base : Int) (es : List En) (i most : Int) : (fromE base es i most).map En.plain = fromS base (es.map En.plain) i most := by
  unfold fromE
  by_cases c : base < i ∧ i - base ≤ es.length ∧ 1 ≤ most
  · rw [if_pos c, fromS_some (k := (i - base - 1).toNat) (by rw [List.length_map]; omega) (by omega) c.2.2, List.map_take, List.map_drop]
  · rw [if_neg c, fromS_none (by rw [List.length_map]; omega)]; rfl
theorem fromE_mem {base : Int} {es : List En} {i most : Int} {e : En} (h : e ∈ fromE base es i most) : e ∈ es := by
  unfold fromE at h
  split at h
  · exact List.mem_of_mem_drop (List.mem_of_mem_take h)
  · cases h
theorem rfrom_none (B rb : Nat) (base term : Int) (v : Value) (es : List En) (i most : Int) (w : World) (h : ¬ (base < i ∧ i - base ≤ es.length ∧ 1 ≤ most)) (hL : RfAt w B rb base term v es) (hN : LogNums base es.length i) :
    Calls Try.prog 21 #[.pointer (some ⟨rb, 0, none⟩), .int .i64 i, .int .i64 most] w (RowE [] w) := by
  have HL := Lib.hid hL
  have HN := Lib.hid hN
  clear hL hN
  go_enter Try.func21, Try.ntmps21
  go_wp2_with fail
  go_loopw [1, 7, 8, 9] (fun ix u _ _ wr => ix = .int .i64 i ∧ u = .slice none 0 0 ∧ wr = w) (fun _ _ _ _ _ => 0)
  case atStart => exact ⟨rfl, rfl, rfl⟩
  case round =>
    obtain ⟨rfl, rfl, rfl⟩ := hrel
    by_cases hm : (0 : Int) < most
    · go_wp2_with fail
      refine (rat_none B rb base term v es i wr (by omega) HL.out HN.out).mono ?_
      rintro e w1 ⟨⟨x0, x1, x2, x3, ck, text, ao, args, ac, num, vo, vs, vc⟩, rfl, _, _, _, hb⟩
      dsimp only [enVal]
      have hb2 := hb.alloc hb.size (.cells #[.int .i64 x0, .int .u8 x1, .int .i64 x2, .int .i64 x3, .int .u8 ck, .string text, .slice ao args.length ac, .int .i64 num, .slice vo vs.length vc] 59)
      go_upto_region 4 with fail
      generalize w1.alloc (.cells #[.int .i64 x0, .int .u8 x1, .int .i64 x2, .int .i64 x3, .int .u8 ck, .string text, .slice ao args.length ac, .int .i64 num, .slice vo vs.length vc] 59) = w2 at hb2 ⊢
      clear h hb
      go_wp2_with fail
      go_ret
      exact ⟨none, 0, 0, rfl, rfl, World.ownsRow_nil _ _ _ _, hb2⟩
    · clear h
      go_wp2_with fail
      go_ret
      exact ⟨none, 0, 0, rfl, rfl, World.ownsRow_nil _ _ _ _, Below.refl _ _⟩
set_option maxHeartbeats 4000000 in
theorem rfrom_some (B rb : Nat) (base term : Int) (v : Value) (es : List En) (i most : Int) (j : Nat) (L : List En) (w : World) (hi : i = base + 1 + j) (hj : j < es.length) (hm : 1 ≤ most) (hLe : L = (es.drop j).take most.toNat) (hL : RfAt w B rb base term v es) (hN : LogNums base es.length i) (hl : es.length ≤ 1000000) (hb60 : base ≤ 1125899906842624) :
    Calls Try.prog 21 #[.pointer (some ⟨rb, 0, none⟩), .int .i64 i, .int .i64 most] w (RowE L w) := by
  obtain ⟨i0, hi0, hz0, hz1, hz2⟩ := info_parts infoEn
  have HL := Lib.hid hL
  obtain ⟨h1, h2, h3, h4, h5⟩ := hN
  have hlen : L.length ≤ es.length - j ∧ (L.length : Int) ≤ most ∧ (L.length < most → L.length = es.length - j) := by
    rw [hLe, List.length_take, List.length_drop]; omega
  have hat : ∀ k, k < L.length → es[j + k]? = L[k]? := fun k hk => by
    rw [hLe, List.getElem?_take, if_pos (by omega), List.getElem?_drop]
  have HAT := Lib.hid hat
  have HI := Lib.hid hi
  clear hL hLe hat hi
  obtain ⟨n, hn⟩ : ∃ n, L.length = n := ⟨_, rfl⟩
  rw [hn] at hlen
  have HNL := Lib.hid hn
  clear hn
  go_enter Try.func21, Try.ntmps21
  go_wp2_with fail
  go_loopw [1, 7, 8, 9] (fun ix u _ _ wr => ∃ k : Nat, k ≤ n ∧ ix = .int .i64 (i + k) ∧ wr.ownsRow w.heap.size 59 9 u k ((L.take k).flatMap enCells) ∧ Below w.heap.size w wr) (fun ix _ _ _ _ => (i + n - intOf ix).toNat)
  case atStart => exact ⟨0, by omega, by simp, World.ownsRow_nil _ _ _ _, Below.refl _ _⟩
  case round =>
    obtain ⟨k, hk, rfl, hown, hbel⟩ := hrel
    obtain ⟨av, cv, rfl⟩ := row_slice hown
    have HO := Lib.hid hown
    clear hown
    have hs := hbel.size
    by_cases hkn : k < n
    · have hkm : (k : Int) < most := by omega
      have hLk : k < L.length := by rw [HNL.out]; exact hkn
      have hx : es[j + k]? = some L[k] := by rw [HAT.out k hLk]; exact List.getElem?_eq_getElem hLk
      have htk : L.take (k + 1) = L.take k ++ [L[k]] := List.take_succ_eq_append_getElem hLk
      generalize L[k] = x at hx htk
      have HX := Lib.hid hx
      have HT := Lib.hid htk
      clear hx htk
      go_wp2_with fail
      refine (rat_val B rb base term v es (i + k) (j + k) x wr (by have := HI.out; omega) HX.out (HL.out.below hbel (Nat.le_refl _)) ⟨h1, h2, by omega, by have := HI.out; omega, h5⟩).mono ?_
      rintro e w3 ⟨rfl, hb3⟩
      obtain ⟨x0, x1, x2, x3, ck, text, ao, args, ac, num, vo, vs, vc⟩ := x
      dsimp only [enVal]
      have HO3 := Lib.hid (own_below HO.out hb3 (Nat.le_refl _))
      have hb3' := hbel.trans (hb3.mono hs)
      have hk4 := heap_alloc_new w3 (.cells #[.int .i64 x0, .int .u8 x1, .int .i64 x2, .int .i64 x3, .int .u8 ck, .string text, .slice ao args.length ac, .int .i64 num, .slice vo vs.length vc] 59)
      have HO4 := Lib.hid (HO3.out.alloc (.cells #[.int .i64 x0, .int .u8 x1, .int .i64 x2, .int .i64 x3, .int .u8 ck, .string text, .slice ao args.length ac, .int .i64 num, .slice vo vs.length vc] 59))
      have hb4 := hb3'.alloc hb3'.size (.cells #[.int .i64 x0, .int .u8 x1, .int .i64 x2, .int .i64 x3, .int .u8 ck, .string text, .slice ao args.length ac, .int .i64 num, .slice vo vs.length vc] 59)
      clear hb3 hb3' hbel hs
      go_upto_region 4 with fail
      generalize hw4 : w3.alloc (.cells #[.int .i64 x0, .int .u8 x1, .int .i64 x2, .int .i64 x3, .int .u8 ck, .string text, .slice ao args.length ac, .int .i64 num, .slice vo vs.length vc] 59) = w4 at hk4 HO4 hb4 ⊢
      clear hw4 HO3
      have d0 := Go.Joins.cell_of_block hk4 0
      have d1 := Go.Joins.cell_of_block hk4 1
      have d2 := Go.Joins.cell_of_block hk4 2
      have d3 := Go.Joins.cell_of_block hk4 3
      have d4 := Go.Joins.cell_of_block hk4 4
      have d5 := Go.Joins.cell_of_block hk4 5
      have d6 := Go.Joins.cell_of_block hk4 6
      have d7 := Go.Joins.cell_of_block hk4 7
      have d8 := Go.Joins.cell_of_block hk4 8
      have hs4 := hb4.size
      have w1 : IntKind.i64.wrap (i + (k : Int) + 1) = i + ((k + 1 : Nat) : Int) := by rw [IntWalk.i64_in _ (by omega)]; omega
      clear hk4
      go_wp2_with (at_builtin; refine wpList_append_own_at _ rfl (.tmp 23) (.tmp 25) 22 rfl w.heap.size 59 i0 (.agg #[.int .i64 0, .int .u8 0, .int .i64 0, .int .i64 0, .int .u8 0, .string ByteArray.empty, .slice none 0 0, .int .i64 0, .slice none 0 0]) 9 112 Try.underlying22 hi0 hz0 hz1 hz2 rfl (by decide) (.slice av k cv) k ((L.take k).flatMap enCells) rfl (HO4.out.alloc _) ⟨w4.heap.size, 0, none⟩ 1 1 (enCells ⟨x0, x1, x2, x3, ck, text, ao, args, ac, num, vo, vs, vc⟩) rfl rfl (cells_newD w4 59 [.int .i64 x0, .int .u8 x1, .int .i64 x2, .int .i64 x3, .int .u8 ck, .string text, .slice ao args.length ac, .int .i64 num, .slice vo vs.length vc]) (enCells_one _) (by unfold maxLen; omega) (by omega) (by simp; omega) ?_)
      intro v5 w5 hown5 hg5 _ _
      have hb5 := (hb4.alloc hs4 _).grown hg5 (by simp; omega) (fun q hq => (World.ownsRow.lt HO4.out q hq).1)
      have HO5 := Lib.hid hown5
      clear hown5 hg5 d0 d1 d2 d3 d4 d5 d6 d7 d8
      go_wp2_with fail
      go_roundw
      case rel => exact ⟨k + 1, by omega, by go_num, by rw [HT.out, List.flatMap_append]; simpa using HO5.out, hb5⟩
      case measure => simp [intOf]; omega
    · obtain rfl : k = n := by omega
      have htk : L.take k = L := List.take_of_length_le (by rw [HNL.out]; omega)
      rw [htk] at HO
      by_cases hkm : (k : Int) < most
      · go_wp2_with fail
        refine (rat_none B rb base term v es (i + k) wr (by have := HI.out; omega) (HL.out.below hbel (Nat.le_refl _)) ⟨h1, h2, by omega, by have := HI.out; omega, h5⟩).mono ?_
        rintro e w1 ⟨⟨x0, x1, x2, x3, ck, text, ao, args, ac, num, vo, vs, vc⟩, rfl, _, _, _, hb⟩
        dsimp only [enVal]
        have HO3 := Lib.hid ((own_below HO.out hb (Nat.le_refl _)).alloc (.cells #[.int .i64 x0, .int .u8 x1, .int .i64 x2, .int .i64 x3, .int .u8 ck, .string text, .slice ao args.length ac, .int .i64 num, .slice vo vs.length vc] 59))
        have hb2 := (hbel.trans (hb.mono hs)).alloc (Nat.le_trans hs hb.size) (.cells #[.int .i64 x0, .int .u8 x1, .int .i64 x2, .int .i64 x3, .int .u8 ck, .string text, .slice ao args.length ac, .int .i64 num, .slice vo vs.length vc] 59)
        go_upto_region 4 with fail
        generalize w1.alloc (.cells #[.int .i64 x0, .int .u8 x1, .int .i64 x2, .int .i64 x3, .int .u8 ck, .string text, .slice ao args.length ac, .int .i64 num, .slice vo vs.length vc] 59) = w2 at hb2 HO3 ⊢
        clear hb htk
        go_wp2_with fail
        go_ret
        exact ⟨av, k, cv, rfl, HNL.out, HO3.out, hb2⟩
      · clear htk
        go_wp2_with fail
        go_ret
        exact ⟨av, k, cv, rfl, HNL.out, HO.out, hbel⟩
theorem rfrom_any (B rb : Nat) (base term : Int) (v : Value) (es : List En) (i most : Int) (w : World) (hL : RfAt w B rb base term v es) (hN : LogNums base es.length i) (hl : es.length ≤ 1000000) (hb60 : base ≤ 1125899906842624) :
    Calls Try.prog 21 #[.pointer (some ⟨rb, 0, none⟩), .int .i64 i, .int .i64 most] w (RowE (fromE base es i most) w) := by
  by_cases c : base < i ∧ i - base ≤ es.length ∧ 1 ≤ most
  · exact rfrom_some B rb base term v es i most (i - base - 1).toNat _ w (by omega) (by omega) c.2.2 (if_pos c) hL hN hl hb60
  · rw [show fromE base es i most = [] from if_neg c]
    exact rfrom_none B rb base term v es i most w c hL hN
end Go.Proofs.Ytljfanhkbbfngaa
/- slices.Backward over entries: its contract. Conditions: the entries lie where the loop's body writes nothing. -/
namespace Go.Proofs.Ytljfanhkbbfngaa
open Go.RowKit Go.Shelf
attribute [local go_sem] Oper.semAt_some
/-- The places that have come when k rounds are over. -/
def backF (n : Nat) : (k : Nat) → k ≤ n → List (Fin n)
  | 0, _ => []
  | k + 1, h => backF n k (Nat.le_of_succ_le h) ++ [⟨n - 1 - k, by omega⟩]
theorem backF_length {n : Nat} : ∀ (k : Nat) (h : k ≤ n), (backF n k h).length = k := by
  intro k
  induction k with
  | zero => intro _; rfl
  | succ k ih => intro h; rw [backF, List.length_append, ih]; rfl
theorem backF_eq {n k k' : Nat} (e : k = k') (h : k ≤ n) (h' : k' ≤ n) : backF n k h = backF n k' h' := by subst e; rfl
theorem backF_step {n q : Nat} (hq : q < n) : backF n (n - q) (Nat.sub_le _ _) = backF n (n - (q + 1)) (Nat.sub_le _ _) ++ [⟨q, hq⟩] := by
  rw [backF_eq (show n - q = (n - (q + 1)) + 1 by omega) _ (by omega), backF]
  congr 2
  simp; omega
set_option maxRecDepth 100000 in
set_option maxHeartbeats 2000000 in
theorem back1_in (F : Fence) (n : Nat) (hF : F.fn 62) (hro : F.round = none) (hn : 1 ≤ n) (l Bs n₀ b off cap : Nat) (es : List En) (hb : b < n₀) (hBn : Bs < n₀) (J Jx : List (Fin es.length) → World → Prop)
    (hY : ∀ pre x W, J pre W → pre.length < es.length → YieldAt F (n - 1) Try.prog l #[.int .i64 (x.val : Int), enVal es[x.val]] W fun e W' =>
      (e = .returned (.bool true) ∧ J (pre ++ [x]) W' ∧ Below n₀ W W') ∨ (e = .returned (.bool false) ∧ Jx (pre ++ [x]) W'))
    (W : World) (hBs : W.cell? ⟨Bs, 0, none⟩ = some (.slice (some ⟨b, off, none⟩) es.length cap)) (hcs : ∀ k x, es[k]? = some x → ∀ j, j < 9 → W.cell? ⟨b, off + k * 9 + j, none⟩ = (enCells x)[j]?) (h0 : J [] W) (hl : es.length ≤ 1099511627776) :
    CallsIn F n Try.prog 62 #[.func (.yield l) #[] #[], .pointer (some ⟨Bs, 0, none⟩)] W fun e W' => (∃ v, e = .returned v) ∧
      ((∃ ys, ys = backF es.length es.length (Nat.le_refl _) ∧ J ys W') ∨ (∃ pre, (∃ k h, pre = backF es.length (k + 1) h) ∧ Jx pre W')) := by
  refine callsIn_of_wp Try.func62 rfl hF ?_ hro
  simp only [Try.ntmps62, List.size_toArray, List.length_cons, List.length_nil, Nat.reduceAdd, Nat.reduceSub, Array.replicate_succ, Array.replicate_zero, List.push_toArray, List.append_toArray, List.nil_append, List.cons_append]
  have HCS := Lib.hid hcs
  have w1 : IntKind.i64.wrap ((es.length : Int) - 1) = (es.length : Int) - 1 := IntWalk.i64_in _ (by omega)
  clear hcs
  gi_wp2
  gi_loopw [3] (fun i wr => ∃ m : Nat, m ≤ es.length ∧ i = .int .i64 ((m : Int) - 1) ∧ J (backF es.length (es.length - m) (Nat.sub_le _ _)) wr ∧ Below n₀ W wr)
    (fun i _ => (intOf i + 1).toNat)
  case atStart => exact ⟨es.length, Nat.le_refl _, by first | rfl | (rw [w1]), by rw [backF_eq (Nat.sub_self es.length) _ (Nat.zero_le _)]; exact h0, Below.refl _ _⟩
  case round =>
    obtain ⟨m, hm, rfl, hJs, hnx⟩ := hrel
    cases m with
    | zero =>
      gi_wp2
      go_end0
      exact ⟨⟨_, rfl⟩, .inl ⟨_, rfl, hJs⟩⟩
    | succ q =>
      have hq : q < es.length := by omega
      have hqx : es[q]? = some es[q] := List.getElem?_eq_getElem hq
      have hc := HCS.out q _ hqx
      have hsu := backF_step hq
      obtain ⟨fn, tmps, assign, body, hy, hR⟩ := hY _ ⟨q, hq⟩ wr hJs (by rw [backF_length]; omega)
      dsimp only at hy
      generalize es[q] = x at hc hy
      rw [← hsu] at hR
      have HJ := Lib.hid hJs
      obtain ⟨x0, x1, x2, x3, ck, text, ao, args, ac, num, vo, vs, vc⟩ := x
      have c0 : wr.cell? ⟨b, off + q * 9, none⟩ = some (.int .i64 x0) := (hnx.cell (p := ⟨b, _, none⟩) hb).trans (hc 0 (by decide))
      have c1 : wr.cell? ⟨b, off + q * 9 + 1, none⟩ = some (.int .u8 x1) := (hnx.cell (p := ⟨b, _, none⟩) hb).trans (hc 1 (by decide))
      have c2 : wr.cell? ⟨b, off + q * 9 + 1 + 1, none⟩ = some (.int .i64 x2) := (hnx.cell (p := ⟨b, _, none⟩) hb).trans (hc 2 (by decide))
      have c3 : wr.cell? ⟨b, off + q * 9 + 1 + 1 + 1, none⟩ = some (.int .i64 x3) := (hnx.cell (p := ⟨b, _, none⟩) hb).trans (hc 3 (by decide))
      have c4 : wr.cell? ⟨b, off + q * 9 + 1 + 1 + 1 + 1, none⟩ = some (.int .u8 ck) := (hnx.cell (p := ⟨b, _, none⟩) hb).trans (hc 4 (by decide))
      have c5 : wr.cell? ⟨b, off + q * 9 + 1 + 1 + 1 + 1 + 1, none⟩ = some (.string text) := (hnx.cell (p := ⟨b, _, none⟩) hb).trans (hc 5 (by decide))
      have c6 : wr.cell? ⟨b, off + q * 9 + 1 + 1 + 1 + 1 + 1 + 1, none⟩ = some (.slice ao args.length ac) := (hnx.cell (p := ⟨b, _, none⟩) hb).trans (hc 6 (by decide))
      have c7 : wr.cell? ⟨b, off + q * 9 + 1 + 1 + 1 + 1 + 1 + 1 + 1, none⟩ = some (.int .i64 num) := (hnx.cell (p := ⟨b, _, none⟩) hb).trans (hc 7 (by decide))
      have c8 : wr.cell? ⟨b, off + q * 9 + 1 + 1 + 1 + 1 + 1 + 1 + 1 + 1, none⟩ = some (.slice vo vs.length vc) := (hnx.cell (p := ⟨b, _, none⟩) hb).trans (hc 8 (by decide))
      have i1 : (q : Int) < es.length := by omega
      have cb : wr.cell? ⟨Bs, 0, none⟩ = some (.slice (some ⟨b, off, none⟩) es.length cap) := (hnx.cell (p := ⟨Bs, 0, none⟩) hBn).trans hBs
      have i2 : ((q + 1 : Nat) : Int) - 1 = q := by omega
      rw [i2]
      simp only [enVal] at hy
      clear hc hqx hsu hJs
      gi_wp2
      refine hR.mono ?_
      rintro e W3 (⟨rfl, hJ3, hk3⟩ | ⟨rfl, hJx3⟩)
      · gi_wp2
        go_roundw
        case rel => exact ⟨q, by omega, by go_num, hJ3, hnx.trans hk3⟩
        case measure => simp [intOf]
      · gi_wp2
        refine bodyPost_ret (results_none rfl _ _ _) rfl ?_
        exact ⟨⟨_, rfl⟩, .inr ⟨_, ⟨es.length - (q + 1), by omega, backF_eq (by omega) _ _⟩, hJx3⟩⟩
set_option maxRecDepth 100000 in
set_option maxHeartbeats 1000000 in
theorem back1_nil_in (F : Fence) (n : Nat) (hF : F.fn 62) (hro : F.round = none) (l Bs cap : Nat) (ao : Option Addr) (J : List (Fin 0) → World → Prop) (W : World) (hBs : W.cell? ⟨Bs, 0, none⟩ = some (.slice ao 0 cap)) (h0 : J [] W) :
    CallsIn F n Try.prog 62 #[.func (.yield l) #[] #[], .pointer (some ⟨Bs, 0, none⟩)] W fun e W' => (∃ v, e = .returned v) ∧ J [] W' := by
  refine callsIn_of_wp Try.func62 rfl hF ?_ hro
  simp only [Try.ntmps62, List.size_toArray, List.length_cons, List.length_nil, Nat.reduceAdd, Nat.reduceSub, Array.replicate_succ, Array.replicate_zero, List.push_toArray, List.append_toArray, List.nil_append, List.cons_append]
  gi_wp2
  gi_loopw [3] (fun i wr => i = .int .i64 (-1) ∧ J [] wr) (fun _ _ => 0)
  case atStart => exact ⟨rfl, h0⟩
  case round =>
    obtain ⟨rfl, hJs⟩ := hrel
    gi_wp2
    go_end0
    exact ⟨⟨_, rfl⟩, hJs⟩
set_option maxHeartbeats 1000000 in
/-- slices.Backward: the slice is boxed, the function value captures the box. -/
theorem back_in (F : Fence) (n : Nat) (hF : F.fn 56) (hro : F.round = none) (a : Option Addr) (len cap : Nat) (w : World) :
    CallsIn F n Try.prog 56 #[.slice a len cap] w fun e w' => e = .returned (.func (.func 62) #[] #[.pointer (some ⟨w.heap.size, 0, none⟩)]) ∧ w' = w.alloc (.cells #[.slice a len cap] 22) := by
  refine callsIn_of_wp Try.func56 rfl hF ?_ hro
  simp only [Try.ntmps56, List.size_toArray, List.length_cons, List.length_nil, Nat.reduceAdd, Nat.reduceSub, Array.replicate_succ, Array.replicate_zero, List.push_toArray, List.append_toArray, List.nil_append, List.cons_append]
  gi_wp2
  go_ret
  exact ⟨rfl, rfl⟩
theorem back_stops (F : Fence) (n : Nat) (hF : F.fn 62) (hro : F.round = none) (hn : 1 ≤ n) (Bs n₀ cap : Nat) (ao : Option Addr) (es : List En) (w : World) (hBs : Bs < n₀) (hn₀ : n₀ ≤ w.heap.size)
    (hc : w.cell? ⟨Bs, 0, none⟩ = some (.slice ao es.length cap)) (hI : EnsIn w n₀ ao es) (hl : es.length ≤ 1099511627776) :
    SeqStopsK F n Try.prog 62 #[.pointer (some ⟨Bs, 0, none⟩)] (fun x : Fin es.length => #[Value.int .i64 (x.val : Int), enVal es[x.val]]) (Below n₀) (fun ys => ys = backF es.length es.length (Nat.le_refl _)) (fun pre => ∃ k h, pre = backF es.length (k + 1) h) es.length w := fun l J Jx W hW _ _ hY h0 => by
  have hc' := (hW.cell (p := ⟨Bs, 0, none⟩) (Nat.lt_of_lt_of_le hBs hn₀)).trans hc
  rcases hI with h | ⟨b, off, rfl, hb, hcs⟩
  · subst h
    exact (back1_nil_in F n hF hro l Bs cap ao J W hc' h0).mono fun e W' ⟨he, hj⟩ => ⟨he, .inl ⟨_, rfl, hj⟩⟩
  · exact back1_in F n hF hro hn l Bs n₀ b off cap es hb hBs J Jx hY W hc' (fun k x hx j hj => (hW.cell (p := ⟨b, _, none⟩) (Nat.lt_of_lt_of_le hb hn₀)).trans ((hcs k x hx).1 j hj)) h0 hl
end Go.Proofs.Ytljfanhkbbfngaa
/- A log's Voters. Conditions: the log is one that was made; its numbers are not too great. -/
namespace Go.Proofs.Ytljfanhkbbfngaa
open Go.RowKit Go.Shelf
attribute [local go_sem] Oper.semAt_some
set_option maxRecDepth 20000
/-- Numbers of a call's own are told. -/
def IntsE (L : List Int) (w : World) (e : Ending) (w' : World) : Prop :=
  ∃ a n c, e = .returned (.slice a n c) ∧ L.length = n ∧ w'.ownsRow w.heap.size 3 1 (.slice a n c) n (L.flatMap iCells) ∧ Below w.heap.size w w'
theorem votS_all {first : List Int} {es : List En} (h : ∀ x ∈ es, x.kind ≠ 3) : votS first (es.map En.plain) = first := by
  induction es with
  | nil => rfl
  | cons x es ih =>
    have hx := h x (List.mem_cons_self ..)
    show votS (if x.kind = 3 then x.vs else first) (es.map En.plain) = first
    rw [if_neg hx]
    exact ih fun y hy => h y (List.mem_cons_of_mem _ hy)
theorem votS_at {first : List Int} {es : List En} {q : Nat} {x : En} (hx : es[q]? = some x) (hk : x.kind = 3) (h : ∀ j y, q < j → es[j]? = some y → y.kind ≠ 3) : votS first (es.map En.plain) = x.vs := by
  induction es generalizing first q with
  | nil => simp at hx
  | cons z es ih =>
    cases q with
    | zero =>
      simp at hx
      subst hx
      show votS (if z.kind = 3 then z.vs else first) (es.map En.plain) = z.vs
      rw [if_pos hk]
      exact votS_all fun y hy => by
        obtain ⟨j, hj⟩ := List.getElem?_of_mem hy
        exact h (j + 1) y (Nat.succ_pos _) (by simpa using hj)
    | succ q =>
      exact ih (q := q) (by simpa using hx) (fun j y hj hy => h (j + 1) y (by omega) (by simpa using hy))
theorem backF_mem {n : Nat} : ∀ (k : Nat) (h : k ≤ n) (x : Fin n), x ∈ backF n k h ↔ n ≤ x.val + k := by
  intro k
  induction k with
  | zero => intro h x; have := x.2; simp [backF]
  | succ k ih =>
    intro h x
    rw [backF, List.mem_append, ih, List.mem_singleton, Fin.ext_iff]
    have := x.2
    simp
    omega
theorem own_kept_nc {A B : World} {row : Option Nat} {base e size n : Nat} {v : Value} {xs : List Value} (h : A.ownsRow base e size v n xs) (hg : A.grownBy B row) (hr : ∀ r, row = some r → ∃ o : Obj, A.heap[r]? = some o ∧ o.isCells = false) : B.ownsRow base e size v n xs := by
  refine World.ownsRow.kept h hg ?_
  rcases h.2 with ⟨h3, _⟩ | ⟨g, cap, cur, h3, _, h4, _⟩
  · exact Or.inl (by rw [h3]; rfl)
  · refine Or.inr fun e => ?_
    rw [h3] at e
    obtain ⟨o, h1, h2⟩ := hr g e.symm
    rw [h4] at h1
    cases h1
    cases h2
theorem block_kept_nc {A B : World} {row : Option Nat} {g : Nat} {cs : Array Value} {t : TypeId} {fr : Nat × Nat} (h : A.heap[g]? = some (.cells cs t fr)) (hg : A.grownBy B row) (hr : ∀ r, row = some r → ∃ o : Obj, A.heap[r]? = some o ∧ o.isCells = false) : B.heap[g]? = some (.cells cs t fr) := by
  refine (hg.block g (Array.getElem?_eq_some_iff.1 h).1 fun e => ?_).trans h
  obtain ⟨o, h1, h2⟩ := hr g e.symm
  rw [h] at h1
  cases h1
  cases h2
/-- What the loop leaves where it returns. -/
def VotLeft (es : List En) (w : World) (c : Code) (pre : List (Fin es.length)) (W : World) : Prop :=
  c = .ret ∧ ∃ (pre' : List (Fin es.length)) (x : Fin es.length) (a2 : Option Addr) (n2 c2 : Nat), pre = pre' ++ [x] ∧ (∀ y ∈ pre', (es[y.val]).kind ≠ 3) ∧ (es[x.val]).kind = 3 ∧ (es[x.val]).vs.length = n2 ∧ Boxed W w.heap.size 24 (.slice a2 n2 c2) ∧ W.ownsRow w.heap.size 3 1 (.slice a2 n2 c2) n2 ((es[x.val]).vs.flatMap iCells) ∧ Below w.heap.size w W
theorem votLeft_own (es : List En) (w : World) (c : Code) (B0 : Nat) (hB : w.heap.size ≤ B0) : OwnFrom B0 (VotLeft es w c) := fun pre A B row ⟨h1, pre', x, a2, n2, c2, h2, h3, h4, h5, h6, h7, h8⟩ hg hr =>
  ⟨h1, pre', x, a2, n2, c2, h2, h3, h4, h5, block_kept_nc h6 hg (fun r e => (hr r e).2), own_kept_nc h7 hg (fun r e => (hr r e).2), ownFrom_below (β := Unit) (Nat.le_refl _) hB () A B row h8 hg hr⟩
set_option maxRecDepth 100000 in
set_option maxHeartbeats 4000000 in
theorem voters_any (B lb : Nat) (base term : Int) (v : Value) (es : List En) (fo : Option Addr) (fn fcap : Nat) (first : List Int) (w : World) (hL : LogAt w B lb base term v es) (hfn : first.length = fn) (hf : NumsIn w w.heap.size fo first) (hfnil : fo = none → fcap = 0) (hq : EnsArg es) (hl : es.length ≤ 1099511627776) (hfl : fn ≤ 1099511627776) :
    Calls Try.prog 41 #[.pointer (some ⟨lb, 0, none⟩), .slice fo fn fcap] w (IntsE (votS first (es.map En.plain)) w) := by
  obtain ⟨a, c, hv⟩ := hL.form
  subst hv
  have hL1 := hL.below ((Below.refl w.heap.size w).alloc (Nat.le_refl _) (.cells #[.slice none 0 0] 24)) (Nat.le_refl _)
  have d3 := hL1.c3
  have HL1 := Lib.hid hL1
  have HL := Lib.hid hL
  have HF := Lib.hid hf
  have HQ := Lib.hid hq
  have HFN := Lib.hid hfn
  have HNIL := Lib.hid hfnil
  clear hL hL1 hf hq hfn hfnil
  refine (callsIn_wide (n := 6)).1 ?_
  refine callsIn_of_wp_marks Try.func41 rfl trivial ?_ rfl
  simp only [Try.ntmps41, List.size_toArray, List.length_cons, List.length_nil, Nat.reduceAdd, Nat.reduceSub, Array.replicate_succ, Array.replicate_zero, List.push_toArray, List.append_toArray, List.nil_append, List.cons_append]
  gi_wp2_with (first | (refine ⟨trivial, ?_⟩; gi_at_call 34; refine (callsIn_wide.2 (there_any lb _ HL1.out.c0)).mono ?_; rintro e w' ⟨rfl, rfl⟩) | (gi_at_call 34; refine (callsIn_wide.2 (there_any lb _ HL1.out.c0)).mono ?_; rintro e w' ⟨rfl, rfl⟩) | (gi_at_call 56; refine (back_in Fence.wide _ trivial rfl _ _ _ _).mono ?_; rintro e w' ⟨rfl, rfl⟩))
  refine ⟨trivial, (back_in Fence.wide _ trivial rfl _ _ _ _).mono ?_⟩
  rintro e w' ⟨rfl, rfl⟩
  have bR := (Boxed.new w 24 (.slice none 0 0)).alloc (.cells #[.slice a es.length c] 22)
  have bB := Boxed.new (w.alloc (.cells #[.slice none 0 0] 24)) 22 (.slice a es.length c)
  have hB0 : Below w.heap.size w ((w.alloc (.cells #[.slice none 0 0] 24)).alloc (.cells #[.slice a es.length c] 22)) := ((Below.refl _ w).alloc (Nat.le_refl _) _).alloc (by simp) _
  have hsz : ((w.alloc (.cells #[.slice none 0 0] 24)).alloc (.cells #[.slice a es.length c] 22)).heap.size = w.heap.size + 2 := by simp
  rw [World.size_alloc] at bB
  gi_wp2
  generalize (w.alloc (.cells #[.slice none 0 0] 24)).alloc (.cells #[.slice a es.length c] 22) = W0 at bR bB hB0 hsz ⊢
  have hL0 := HL.out.below hB0 (Nat.le_refl _)
  have hin : EnsIn W0 W0.heap.size a es := by
    obtain ⟨a', c', hv, _, _, h⟩ := hL0.ens.lie
    cases hv
    exact h
  have HE := Lib.hid (show ∀ x : Fin es.length, enSub W0 W0.heap.size es[x.val] from fun x => (hL0.ens.own _ (List.getElem_mem _)).sub)
  clear d3 HL1 hL0
  refine wpIn_rangeFunc_ownH rfl (by omega) (gf := 62) (lb := #[.pointer (some ⟨w.heap.size + 1, 0, none⟩)]) rfl trivial (enters_of Try.func62 (by kernel_rfl) rfl)
    (back_stops Fence.wide _ trivial rfl (by omega) (w.heap.size + 1) W0.heap.size c a es W0 (by omega) (Nat.le_refl _) bB.cell hin hl) belowK_t (belowK_b (Nat.le_refl _)) (Below.refl _ _) (fun _ => rfl)
    (fun pre W => (∀ y ∈ pre, (es[y.val]).kind ≠ 3) ∧ Below W0.heap.size W0 W)
    (VotLeft es w)
    (OwnFrom.and (ownFrom_pure _ _) (ownFrom_below (Nat.le_refl _) (Nat.le_refl _)))
    (fun c => votLeft_own es w c _ (by omega))
    ⟨(fun y hy => by cases hy), Below.refl _ _⟩
    (fun x a' W => ∃ Bx, W0.heap.size ≤ Bx ∧ W.heap[Bx]? = some (.cells (enCells es[x.val]).toArray 59 (0, 0)) ∧ a' = { tmps := #[.pointer (some ⟨lb, 0, none⟩), .slice fo fn fcap, undef, undef, .pointer (some ⟨w.heap.size, 0, none⟩), undef, .pointer (some ⟨Bx, 0, none⟩), .pointer (some ⟨lb, 0, none⟩), .bool true, .bool false, .pointer (some ⟨lb, 0, none⟩), .pointer (some ⟨lb, 0, none⟩), .pointer (some ⟨lb, 3, none⟩), .slice a es.length c, .func (.func 62) #[] #[.pointer (some ⟨w.heap.size + 1, 0, none⟩)], .int .i64 (x.val : Int), enVal es[x.val], undef, undef, undef, undef, undef, undef, undef, undef], defers := [] })
    (fun x a' _ X Y row hs hg hr => by obtain ⟨Bx, h1, h2, h3⟩ := hs; exact ⟨Bx, h1, block_kept_nc h2 hg (fun r e => (hr r e).2), h3⟩)
    ?assign ?body ?done ?stop
  case assign =>
    rintro l pre x W K ⟨hk, hb⟩ hK
    dsimp only [enVal]
    gi_wp2
    exact hK _ _ ((KeepsOthers.alloc _ _).from _) ((Below.refl _ W).alloc hb.size _) ⟨hk, hb.alloc hb.size _⟩ ⟨W.heap.size, hb.size, heap_alloc_new W _, rfl⟩
  case body =>
    rintro l pre x a' W hlB ⟨r, hr⟩ ⟨hk, hb⟩ ⟨Bx, hBx, bX, rfl⟩ hlt
    have hbR : Boxed W w.heap.size 24 (.slice none 0 0) := (hb.block _ (by omega)).trans bR
    have hsub := (HE.out x).2
    have hvn := (HQ.out.2 _ (List.getElem_mem x.2)).2
    have hvl := (HQ.out.1 _ (List.getElem_mem x.2)).2
    obtain ⟨n2, hn2⟩ : ∃ n2, (es[x.val]).vs.length = n2 := ⟨_, rfl⟩
    have c1 : W.cell? ⟨Bx, 1, none⟩ = some (.int .u8 (es[x.val]).kind) := Go.Joins.cell_of_block bX 1
    have c8 : W.cell? ⟨Bx, 8, none⟩ = some (.slice (es[x.val]).vao (es[x.val]).vs.length (es[x.val]).vcap) := Go.Joins.cell_of_block bX 8
    have hxk := hk
    have HK := Lib.hid hk
    obtain ⟨kd, hkd⟩ : ∃ kd, (es[x.val]).kind = kd := ⟨_, rfl⟩
    obtain ⟨xv, hxv⟩ : ∃ xv, (es[x.val]).vao = xv := ⟨_, rfl⟩
    obtain ⟨xc, hxc⟩ : ∃ xc, (es[x.val]).vcap = xc := ⟨_, rfl⟩
    rw [hkd] at c1
    rw [hn2, hxv, hxc] at c8
    rw [hxv, hxc] at hvn
    rw [hxv] at hsub
    rw [hn2] at hvl
    obtain ⟨eV, heV⟩ : ∃ eV, enVal es[x.val] = eV := ⟨_, rfl⟩
    rw [heV]
    have HKD := Lib.hid hkd
    have HN2 := Lib.hid hn2
    have HSUB := Lib.hid hsub
    have HVN := Lib.hid hvn
    have hBR := hbR
    have cR := hbR.cell
    have fR := hbR.frozen
    clear hk hxk hkd hn2 hxv hxc heV hsub hvn
    by_cases hk3 : kd = 3
    · subst hk3
      gi_wp2_with (refine ⟨trivial, ?_⟩; gi_at_call 47; refine (CallsIn.inRound l (callsIn_wide.2 (cloneI_any noSub xv n2 xc (es[x.val]).vs W W0.heap.size HN2.out (HSUB.out.below noSub_kept hb (Nat.le_refl _)) noSub_kept hb.size HVN.out hvl))).mono ?_; rintro e w3 ⟨a3, c3, rfl, ho3, hb3⟩; have hR3 : Boxed w3 w.heap.size 24 (.slice none 0 0) := (hb3.block _ (Boxed.lt hBR)).trans hBR; have cR3 := hR3.cell; have fR3 := hR3.frozen; clear c1 c8)
      have hbs := hb.size
      refine ⟨KeepsFrom.trans (⟨hb3.size, fun k o _ hko _ => (hb3.block k (Array.getElem?_eq_some_iff.1 hko).1).trans hko⟩ : KeepsFrom W0.heap.size W w3) ((KeepsOthers.setCell _ _ _).from _), rfl, pre, x, a3, n2, c3, rfl, HK.out, HKD.out, HN2.out, hR3.set _, Go.Joins.ownsRow_le (ownsRow_setCell_other ho3 (fun e => by have h1 : W.heap.size ≤ w.heap.size := (World.ownsRow.lt ho3 w.heap.size e).1; omega) _) (by omega), ((hB0.trans (hb.mono (by omega))).trans (hb3.mono (by omega))).setCell (p := ⟨w.heap.size, 0, none⟩) (Nat.le_refl _) _⟩
    · gi_wp2
      refine ⟨KeepsFrom.refl _ _, Below.refl _ _, fun y hy => ?_, hb⟩
      rcases List.mem_append.1 hy with h | h
      · exact HK.out y h
      · rw [List.mem_singleton.1 h, HKD.out]; exact hk3
  case done =>
    rintro D xs W hD rfl ⟨hk, hb⟩ hK
    have hbR : Boxed W w.heap.size 24 (.slice none 0 0) := (hb.block _ (by omega)).trans bR
    have cR := hbR.cell
    have fR := hbR.frozen
    have hbw : Below w.heap.size w W := hB0.trans (hb.mono (by omega))
    have hvs : votS first (es.map En.plain) = first := votS_all fun y hy => by
      obtain ⟨q, hq, rfl⟩ := List.mem_iff_getElem.1 hy
      exact hk ⟨q, hq⟩ ((backF_mem _ _ _).2 (by simp))
    have HVS := Lib.hid hvs
    clear hk hvs
    gi_wp2_with (refine ⟨trivial, ?_⟩; gi_at_call 47; refine (callsIn_wide.2 (cloneI_any noSub fo fn fcap first W w.heap.size HFN.out (HF.out.below noSub_kept hbw (Nat.le_refl _)) noSub_kept hbw.size HNIL.out hfl)).mono ?_; rintro e w3 ⟨a3, c3, rfl, ho3, hb3⟩; have hR3 : Boxed w3 w.heap.size 24 (.slice none 0 0) := (hb3.block _ (Boxed.lt hbR)).trans hbR; have cR3 := hR3.cell; have fR3 := hR3.frozen; clear cR fR)
    have hbs := hbw.size
    have hDlt : D < W.heap.size := (Array.getElem?_eq_some_iff.1 hK).1
    have hK' : (w3.setCell ⟨w.heap.size, 0, none⟩ (.slice a3 fn c3)).heap[D]? = some (.deferred (some [])) := (KeepsOthers.setCell w3 ⟨w.heap.size, 0, none⟩ (.slice a3 fn c3)).same D _ ((hb3.block D hDlt).trans hK) rfl
    have hR4 : Boxed (w3.setCell ⟨w.heap.size, 0, none⟩ (.slice a3 fn c3)) w.heap.size 24 (.slice a3 fn c3) := hR3.set _
    have hO4 : (w3.setCell ⟨w.heap.size, 0, none⟩ (.slice a3 fn c3)).ownsRow w.heap.size 3 1 (.slice a3 fn c3) fn (first.flatMap iCells) := Go.Joins.ownsRow_le (ownsRow_setCell_other ho3 (fun e => by have h1 : W.heap.size ≤ w.heap.size := (World.ownsRow.lt ho3 w.heap.size e).1; omega) _) (by omega)
    have hB4 : Below w.heap.size w (w3.setCell ⟨w.heap.size, 0, none⟩ (.slice a3 fn c3)) := (hbw.trans (hb3.mono (by omega))).setCell (p := ⟨w.heap.size, 0, none⟩) (Nat.le_refl _) _
    generalize w3.setCell ⟨w.heap.size, 0, none⟩ (.slice a3 fn c3) = w4 at hK' hR4 hO4 hB4 ⊢
    refine ⟨by simp, .inl ⟨_, _, rfl, run_takeDeferred hK', ?_⟩⟩
    have hc5 := cell_kept hR4.cell (grownBy_putObj' _ D (.deferred none)) (fun r e => by cases e; exact ⟨_, hK', rfl⟩)
    refine ⟨.slice a3 fn c3, ?_, a3, fn, c3, rfl, by rw [HVS.out]; exact HFN.out, by rw [HVS.out]; exact own_kept_nc hO4 (grownBy_putObj' _ D (.deferred none)) (fun r e => by cases e; exact ⟨_, hK', rfl⟩), hB4.trans (belowK_b (w := w) (Nat.le_refl _) w4 D _ _ (by omega) hK' rfl rfl)⟩
    simp [results, Try.results41, go_sem, hc5]
  case stop =>
    rintro D c pre W hD ⟨k, hkk, rfl⟩ ⟨rfl, pre', x, a2, n2, c2, h2, h3, h4, h5, h6, h7, h8⟩ hK
    have cR := h6.cell
    have hlast : backF es.length k (Nat.le_of_succ_le hkk) ++ [⟨es.length - 1 - k, by omega⟩] = pre' ++ [x] := h2
    obtain ⟨e1, e2⟩ := List.append_inj' hlast rfl
    have hxv : x.val = es.length - 1 - k := by
      have := List.cons.inj e2
      rw [← this.1]
    have hvs : votS first (es.map En.plain) = (es[x.val]'x.2).vs := votS_at (List.getElem?_eq_getElem x.2) h4 fun j y hj hy => by
      obtain ⟨hjl, rfl⟩ := List.getElem?_eq_some_iff.1 hy
      refine h3 ⟨j, hjl⟩ ?_
      rw [← e1]
      exact (backF_mem _ _ _).2 (by simp; omega)
    have HVS := Lib.hid hvs
    have H5 := Lib.hid h5
    have H7 := Lib.hid h7
    clear h2 h3 h4 h5 h7 hvs hxv e1 e2 hlast
    gi_wp2
    refine ⟨by simp, .inl ⟨_, _, rfl, run_takeDeferred hK, ?_⟩⟩
    have hc5 := cell_kept cR (grownBy_putObj' _ D (.deferred none)) (fun r e => by cases e; exact ⟨_, hK, rfl⟩)
    refine ⟨.slice a2 n2 c2, ?_, a2, n2, c2, rfl, by rw [HVS.out]; exact H5.out, by rw [HVS.out]; exact own_kept_nc H7.out (grownBy_putObj' _ D (.deferred none)) (fun r e => by cases e; exact ⟨_, hK, rfl⟩), h8.trans (belowK_b (w := w) (Nat.le_refl _) W D _ _ (by omega) hK rfl rfl)⟩
    simp [results, Try.results41, go_sem, hc5]
end Go.Proofs.Ytljfanhkbbfngaa
