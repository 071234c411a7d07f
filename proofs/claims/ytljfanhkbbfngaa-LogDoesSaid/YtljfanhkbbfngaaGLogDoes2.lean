/- A log's From, Append. Conditions: the log is one that was made; its numbers are not too great. -/
import Derived.Test.YtljfanhkbbfngaaGLogDoes1
import Derived.Deep.RegionLaw
import Derived.Deep.RegionHeld3
set_option linter.unusedVariables false
set_option linter.unusedSimpArgs false
namespace Go.Proofs.Ytljfanhkbbfngaa
open Go.RowKit
set_option maxRecDepth 20000
theorem sizeEn : ∀ w, (sizeOf (Try.prog.elem 22)).run Try.prog w = .ok 9 w := fun _ => by kernel_rfl
theorem sliceEn : Try.prog.underlying 22 = some (.slice (Try.prog.elem 22)) := by kernel_rfl
/-- A part of a row that is only read. -/
theorem EnsIn.sub {w : World} {B : Nat} {a : Option Addr} {c : Nat} {es : List En} (h : EnsIn w B a es) (l m : Nat) (hl : es.length ≤ c) (hlm : l + m ≤ es.length) : EnsIn w B (subA a c l 9) ((es.drop l).take m) := by
  by_cases h0 : es = []
  · subst h0
    simp only [List.drop_nil, List.take_nil]
    exact Or.inl rfl
  · by_cases hc : c = l
    · have : m = 0 := by omega
      subst this
      exact Or.inl (by simp)
    · rcases h with h | ⟨b, off, h1, h2, h3⟩
      · exact absurd h h0
      · subst h1
        have := RowsIn.drop l (show RowsIn 9 enCells enSub w B (some ⟨b, off, none⟩) es from Or.inr ⟨b, off, rfl, h2, h3⟩)
        have e : subA (some ⟨b, off, none⟩) c l 9 = some ⟨b, off + l * 9, none⟩ := by
          unfold subA; rw [if_neg hc]; show some (Addr.add ⟨b, off, none⟩ (l * 9)) = _; rw [Go.WideShapes.add_plain]
        rw [e]
        exact RowsIn.take m this
theorem copied_at (ao : Option Addr) (n cap : Nat) (xs : List En) (ps : List EnP) (w : World) (B : Nat) (hn : xs.length = n) (hps : xs.map En.plain = ps) (hx : EnsIn w B ao xs) (hB : B ≤ w.heap.size) (hao : ao = none → cap = 0) (hl : n ≤ 1099511627776) (hq : EnsArg xs) :
    Calls Try.prog 29 #[.slice ao n cap] w fun e w' => ∃ a c es, e = .returned (.slice a n c) ∧ EnsOwn w' w.heap.size (.slice a n c) es ∧ es.map En.plain = ps ∧ Below w.heap.size w w' := by
  subst hps
  exact copied_any ao n cap xs w B hn hx hB hao hl hq.1 hq.2
/-- What From tells. -/
def fromS (base : Int) (es : List EnP) (i most : Int) : List EnP :=
  if (placeS base es.length i).2 = false ∨ most < 1 then [] else (es.drop (i - base - 1).toNat).take most.toNat
def FromAt (ps : List EnP) (w : World) (e : Ending) (w' : World) : Prop :=
  ∃ a c es, e = .returned (.slice a ps.length c) ∧ EnsOwn w' w.heap.size (.slice a ps.length c) es ∧ es.map En.plain = ps ∧ Below w.heap.size w w'
/-- The lesser of two numbers, at a step of a region that draws its order. -/
theorem step_min {w : World} {ops : Array Oper} {o : Oper} {a : Act} {K : Act → World → Prop} {Q : Exit → Act → World → Prop} {E : Prop} (hgd : o.guard = none) (x y : Operand)
    (ho : o.op = .call { callee := .builtin .min, args := #[x, y], argTypes := #[3, 3] }) (p q m : Int) (hx : a.eval x = .int .i64 p) (hy : a.eval y = .int .i64 q) (hm : min p q = m) (h : K (a.put o.dst (.int .i64 m)) w) :
    if Region.wanted o (yielded ops a.tmps) = true then Oper.wp Try.prog o a w K Q else E := by
  have hw : Region.wanted o (yielded ops a.tmps) = true := by simp [Region.wanted, hgd]
  rw [if_pos hw]
  have e : (if q < p then q else p) = m := by
    rw [← hm]; split <;> omega
  have hrun := run_min_int2 (P := Try.prog) (w := w) #[3, 3] o.type .i64 .i64 p q
  rw [e] at hrun
  unfold Oper.wp
  simp [execOp, ho, resolve, invoke, builtin, hx, hy, hrun, Result.andThen]
  exact h
theorem from_none (B lb : Nat) (base term : Int) (v : Value) (es : List En) (i most : Int) (w : World) (hr : (placeS base es.length i).2 = false ∨ most < 1) (hL : LogAt w B lb base term v es) (hN : LogNums base es.length i) :
    Calls Try.prog 20 #[.pointer (some ⟨lb, 0, none⟩), .int .i64 i, .int .i64 most] w fun e w' => e = .returned (.slice none 0 0) ∧ Below w.heap.size w w' := by
  obtain ⟨a, c, hv⟩ := hL.form
  subst hv
  obtain ⟨h1, h2, h3, h4, h5⟩ := hN
  have HL := Lib.hid hL
  obtain ⟨n, hn⟩ : ∃ n, es.length = n := ⟨_, rfl⟩
  rw [hn] at h5 hr
  have hc3 : w.cell? ⟨lb, 3, none⟩ = some (.slice a n c) := by rw [← hn]; exact hL.c3
  have HC3 := Lib.hid hc3
  clear hL hc3 hn
  obtain ⟨k, ok, hp⟩ : ∃ k ok, placeS base n i = (k, ok) := ⟨_, _, rfl⟩
  rw [hp] at hr
  dsimp only at hr
  have HP := Lib.hid hp
  clear hp
  cases ok with
  | false =>
    go_enter Try.func20, Try.ntmps20
    go_wp2_with fail
    refine (place_at lb base a n c i k false w HP.out HL.out.c0 HL.out.c1 HC3.out ⟨h1, h2⟩ ⟨h3, h4⟩ h5).mono ?_
    rintro e w1 ⟨rfl, hb1⟩
    go_wp2_with fail
    go_ret
    exact ⟨rfl, hb1⟩
  | true =>
    have hm : most < 1 := by
      rcases hr with h | h
      · cases h
      · exact h
    clear hr
    go_enter Try.func20, Try.ntmps20
    go_wp2_with fail
    refine (place_at lb base a n c i k true w HP.out HL.out.c0 HL.out.c1 HC3.out ⟨h1, h2⟩ ⟨h3, h4⟩ h5).mono ?_
    rintro e w1 ⟨rfl, hb1⟩
    go_wp2_with fail
    go_ret
    exact ⟨rfl, hb1⟩
set_option maxHeartbeats 2000000 in
theorem from_some (B lb : Nat) (base term : Int) (v : Value) (es : List En) (i most : Int) (k m : Nat) (w : World) (hk : i = base + 1 + k) (hkn : k < es.length) (hm1 : 1 ≤ most) (hm : (m : Int) = min most (es.length - k)) (hL : LogAt w B lb base term v es) (hN : LogNums base es.length i) (hB : B ≤ w.heap.size) (hq : EnsArg es) (hmost : most ≤ 9223372036854775807) :
    Calls Try.prog 20 #[.pointer (some ⟨lb, 0, none⟩), .int .i64 i, .int .i64 most] w (FromAt (((es.map En.plain).drop k).take m) w) := by
  obtain ⟨a, c, hv⟩ := hL.form
  subst hv
  obtain ⟨h1, h2, h3, h4, h5⟩ := hN
  have HL := Lib.hid hL
  have hlt := hL.lt
  have hcap := own_capG hL.ens.row
  obtain ⟨n, hn⟩ : ∃ n, es.length = n := ⟨_, rfl⟩
  rw [hn] at h5 hkn hm hcap
  have hc3 : w.cell? ⟨lb, 3, none⟩ = some (.slice a n c) := by rw [← hn]; exact hL.c3
  have HC3 := Lib.hid hc3
  have HN := Lib.hid hn
  have hp : placeS base n i = ((k : Int), true) := by unfold placeS; rw [if_pos (by omega)]; rw [hk]; congr 1; omega
  have HP := Lib.hid hp
  clear hL hc3 hn hp hk
  have hmk : k + m ≤ n := by omega
  have hm2 : (m : Int) ≤ most := by omega
  have hlen : ((es.drop k).take m).length = m := by rw [List.length_take, List.length_drop, HN.out]; omega
  have hmap : ((es.drop k).take m).map En.plain = ((es.map En.plain).drop k).take m := by rw [List.map_take, List.map_drop]
  have hao : subA a c k 9 = none → c - k = 0 := fun h => by
    have h1 := subA_eq_none h
    have h2 := own_none HL.out.ens.row h1
    omega
  have hqs : EnsArg ((es.drop k).take m) := ⟨fun x hx => hq.1 x (List.mem_of_mem_drop (List.mem_of_mem_take hx)), fun x hx => hq.2 x (List.mem_of_mem_drop (List.mem_of_mem_take hx))⟩
  have hsubIn : ∀ w1 : World, LogAt w1 B lb base term (.slice a es.length c) es → ∀ w2, Below w1.heap.size w1 w2 → EnsIn w2 w1.heap.size (subA a c k 9) ((es.drop k).take m) := fun w1 h1 w2 h2 => by
    obtain ⟨a', c', hv, hc', _, hin⟩ := h1.ens.lie
    cases hv
    exact EnsIn.sub (hin.below enSub_kept h2 (Nat.le_refl _)) k m hc' (by rw [HN.out]; omega)
  have hSUB : ((es.drop k).take m).length = m ∧ ((es.drop k).take m).map En.plain = ((es.map En.plain).drop k).take m ∧ ((subA a c k 9 = none → c - k = 0) ∧ EnsArg ((es.drop k).take m)) ∧ (∀ w1 : World, LogAt w1 B lb base term (.slice a es.length c) es → ∀ w2, Below w1.heap.size w1 w2 → EnsIn w2 w1.heap.size (subA a c k 9) ((es.drop k).take m)) := ⟨hlen, hmap, ⟨hao, hqs⟩, hsubIn⟩
  clear hlen hmap hao hqs hsubIn
  obtain ⟨M, hM⟩ : ∃ M, min most (n : Int) = M := ⟨_, rfl⟩
  obtain ⟨H, hH⟩ : ∃ H, min (n : Int) ((k : Int) + M) = H := ⟨_, rfl⟩
  have hHk : H = ((k + m : Nat) : Int) := by omega
  have hM1 : 1 ≤ M ∧ M ≤ n := by omega
  have hsl : ∀ w', (Instr.sliceAt 22 (.slice a n c) (some (.int .i64 k)) (some (.int .i64 H)) none).run Try.prog w' = .ok (.slice (subA a c k 9) m (c - k)) w' := fun w' => by
    have h := run_sub_lh sliceEn sizeEn a n c k (k + m) (by omega) (by omega) .i64 .i64 k H rfl hHk w'
    rwa [show k + m - k = m by omega] at h
  have w1 : IntKind.i64.wrap ((k : Int) + M) = (k : Int) + M := IntWalk.i64_in _ (by omega)
  have i1 : (k : Int) < n := by omega
  have HM := Lib.hid hM
  have HH := Lib.hid hH
  clear hM hH hHk hm
  go_enter Try.func20, Try.ntmps20
  go_wp2_with fail
  refine (place_at lb base a n c i k true w HP.out HL.out.c0 HL.out.c1 HC3.out ⟨h1, h2⟩ ⟨h3, h4⟩ h5).mono ?_
  rintro e w1 ⟨rfl, hb1⟩
  have hL1 := HL.out.below hb1 (Nat.le_refl _)
  have hs1 := hb1.size
  have hS : ∀ w', Below w1.heap.size w1 w' → w'.cell? ⟨lb, 3, none⟩ = some (.slice a n c) := fun w' h => (h.cell (p := ⟨lb, 3, none⟩) hL1.lt).trans ((hb1.cell (p := ⟨lb, 3, none⟩) hlt).trans HC3.out)
  have HSS := Lib.hid hS
  have HSUBE := Lib.hid hSUB
  have HL1 := Lib.hid hL1
  have hrf : Below w1.heap.size w1 w1 := Below.refl _ _
  clear hS hL1 hSUB
  go_wp2_with fail
  go_region_held3 (fun w' => w'.cell? ⟨lb, 3, none⟩ = some (.slice a n c)) ((refine HSS.out _ ?_; repeat (first | with_reducible assumption | with_reducible exact Below.refl _ _ | refine Below.trans ?_ (by assumption) | with_reducible refine Below.drew ?_))) (first | (refine step_min (by rfl) (.tmp 32) (.tmp 37) (by rfl) most n M (by rfl) (by rfl) HM.out ?_) | (refine step_min (by rfl) (.tmp 30) (.tmp 39) (by rfl) n (k + M) H (by rfl) (by rfl) HH.out ?_) | (go_at_call 29; refine (copied_at (subA a c k 9) m (c - k) ((es.drop k).take m) (((es.map En.plain).drop k).take m) _ w1.heap.size HSUBE.out.1 HSUBE.out.2.1 (HSUBE.out.2.2.2 w1 HL1.out _ (Below.drew hrf)) (Nat.le_refl _) HSUBE.out.2.2.1.1 (by omega) HSUBE.out.2.2.1.2).mono ?_; rintro e w3 ⟨a3, c3, es3, rfl, ho3, hm3, hb3⟩))
  have hlenp : (((es.map En.plain).drop k).take m).length = m := by rw [← HSUBE.out.2.1, List.length_map, HSUBE.out.1]
  have HO3 := Lib.hid ho3
  have HM3 := Lib.hid hm3
  have HLP := Lib.hid hlenp
  have hbf : Below w.heap.size w w3 := hb1.trans ((Below.trans (Below.drew hrf) hb3).mono hs1)
  clear ho3 hm3 hlenp hsl
  go_wp2_with fail
  go_ret
  exact ⟨a3, c3, es3, by rw [HLP.out]; rfl, by rw [HLP.out]; exact HO3.out.le hs1, HM3.out, hbf⟩
end Go.Proofs.Ytljfanhkbbfngaa
/- A log's Append. Conditions: the log is one that was made; its numbers are not too great. -/
namespace Go.Proofs.Ytljfanhkbbfngaa
open Go.RowKit
set_option maxRecDepth 20000
/-- An append to a row of the call's own of rows that are only read: at a step of a region that draws its order. -/
theorem step_append_rows {α : Type} {k bytes : Nat} {cells : α → List Value} {sub : World → Nat → α → Prop} {z : Value} {T E : TypeId} {w : World} {ops : Array Oper} {o : Oper} {a : Act} {K : Act → World → Prop} {Q : Exit → Act → World → Prop} {F : Prop} (hT : Try.prog.underlying T = some (.slice E))
    (hinfo : (Try.prog.info? E).map (fun i => (i.zero, i.size, i.bytes)) = some (some z, k, bytes)) (hzs : z.cells.size = k) (h0 : 0 < k) (hk : ∀ x, (cells x).length = k) (hone : ∀ x, ∀ u ∈ cells x, u.oneCell' = true) (hgd : o.guard = none) (s x : Operand)
    (ho : o.op = .call { callee := .builtin .append, args := #[s, x], argTypes := #[T, T] })
    (base : Nat) (v : Value) (n : Nat) (l : List Value) (hs : a.eval s = v) (hown : w.ownsRow base E k v n l)
    (ad : Addr) (m cap : Nat) (xs : List α) (hm : xs.length = m) (hx : a.eval x = .slice (some ad) m cap) (B : Nat) (hin : RowsIn k cells sub w B (some ad) xs) (hmax : n + m ≤ maxLen) (hlim : (n + m) * bytes ≤ 140737488355328) (hbase : base ≤ w.heap.size)
    (h : ∀ v' w', w'.ownsRow base E k v' (n + m) (l ++ xs.flatMap cells) → w.grownBy w' v.ownBlock → (v'.ownBlock = v.ownBlock ∨ v'.ownBlock = some w.heap.size) → K (a.put o.dst v') w') :
    if Region.wanted o (yielded ops a.tmps) = true then Oper.wp Try.prog o a w K Q else F := by
  have hw : Region.wanted o (yielded ops a.tmps) = true := by simp [Region.wanted, hgd]
  rw [if_pos hw]
  obtain ⟨i0, hi, hz0, hz1, hz2⟩ := info_parts hinfo
  subst hm
  obtain ⟨v', w', hrun, r1, r2, _, r4⟩ := run_append_own_at (P := Try.prog) w base T o.type E i0 z k bytes hT hi hz0 hz1 hz2 hzs h0 v n _ hown ad xs.length cap (xs.flatMap cells) (flat_len hk xs) (fun j u hu => cells_of_rows hk h0 hin (Below.refl _ _) rfl hu) (fun u hu => by
    obtain ⟨y, _, hy⟩ := List.mem_flatMap.1 hu
    exact hone y u hy) hmax hlim hbase
  unfold Oper.wp
  simp [execOp, ho, resolve, invoke, builtin, hs, hx, hrun, Result.andThen]
  exact h v' w' r1 r2 r4
/-- A log whose entries have grown. -/
theorem LogAt.grow {w1 w2 w3 : World} {B lb : Nat} {base term : Int} {v v' : Value} {v2 : Value} {es es2 : List En} (h : LogAt w1 B lb base term v es) (hB : B ≤ w1.heap.size) (hb : Below w1.heap.size w1 w2) (ho : EnsOwn w2 w1.heap.size v2 es2)
    (hown : w3.ownsRow B 59 9 v' (es.length + es2.length) (es.flatMap enCells ++ es2.flatMap enCells)) (hg : w2.grownBy w3 v.ownBlock) : EnsOwn w3 B v' (es ++ es2) := by
  have h2 := h.below hb (Nat.le_refl _)
  refine ⟨by rw [List.length_append, List.flatMap_append]; exact hown, fun e he => ?_, List.pairwise_append.2 ⟨h.ens.sep, ho.sep, fun e he f hf => ?_⟩⟩
  · rcases List.mem_append.1 he with h' | h'
    · have h3 := h2.ens.own e h'
      exact ⟨World.ownsRow.kept h3.1 hg (own_apart h3.1 h2.ens.row (by decide)), World.ownsRow.kept h3.2 hg (own_apart h3.2 h2.ens.row (by decide))⟩
    · have h3 := (ho.own e h').le hB
      exact ⟨World.ownsRow.kept h3.1 hg (own_apart h3.1 h2.ens.row (by decide)), World.ownsRow.kept h3.2 hg (own_apart h3.2 h2.ens.row (by decide))⟩
  · unfold sepE
    constructor
    · cases hb1 : (argV e).ownBlock with
      | none => exact Or.inl rfl
      | some b =>
        right
        intro hh
        have q1 := ((h.ens.own e he).1.lt b hb1).2
        have q2 := ((ho.own f hf).1.lt b hh.symm).1
        omega
    · cases hb1 : (votV e).ownBlock with
      | none => exact Or.inl rfl
      | some b =>
        right
        intro hh
        have q1 := ((h.ens.own e he).2.lt b hb1).2
        have q2 := ((ho.own f hf).2.lt b hh.symm).1
        omega
theorem LogAt.grow_own {w1 w2 w3 : World} {B lb : Nat} {base term : Int} {v v2 : Value} {es es2 : List En} (h : LogAt w1 B lb base term v es) (hb : Below w1.heap.size w1 w2) (ho : EnsOwn w2 w1.heap.size v2 es2) (hg : w2.grownBy w3 v.ownBlock) : ∀ e ∈ es2, enOwn w3 w1.heap.size e := fun e he => by
  have h2 := h.below hb (Nat.le_refl _)
  have h3 := ho.own e he
  exact ⟨World.ownsRow.kept h3.1 hg (own_apart h3.1 h2.ens.row (by decide)), World.ownsRow.kept h3.2 hg (own_apart h3.2 h2.ens.row (by decide))⟩
theorem own_ne_log {w : World} {B lb : Nat} {base term : Int} {v : Value} {es : List En} (h : LogAt w B lb base term v es) : v.ownBlock ≠ some lb := by
  intro hh
  rcases h.ens.row.2 with ⟨h1, _⟩ | ⟨g, cap, cur, h1, _, g1, _⟩
  · rw [h1] at hh; simp [Value.ownBlock] at hh
  · rw [h1] at hh
    simp [Value.ownBlock] at hh
    subst hh
    rw [h.blk] at g1
    simp only [Option.some.injEq, Obj.cells.injEq] at g1
    exact absurd g1.2.1 (by decide)
theorem row_ne_log {w : World} {B lb : Nat} {base term : Int} {v0 v : Value} {T : TypeId} {k n : Nat} {xs : List Value} (hb : w.heap[lb]? = some (.cells #[.bool true, .int .i64 base, .int .i64 term, v0] 65 (0, 0))) (h : w.ownsRow B T k v n xs) (hT : 65 ≠ T) : v.ownBlock ≠ some lb := by
  intro hh
  rcases h.2 with ⟨h1, _⟩ | ⟨g, cap, cur, h1, _, g1, _⟩
  · rw [h1] at hh; simp [Value.ownBlock] at hh
  · rw [h1] at hh
    simp [Value.ownBlock] at hh
    subst hh
    rw [hb] at g1
    simp only [Option.some.injEq, Obj.cells.injEq] at g1
    exact hT g1.2.1
theorem EnsOwn.store {w : World} {B lb : Nat} {base term : Int} {v0 v : Value} {es : List En} (h : EnsOwn w B v es) (hb : w.heap[lb]? = some (.cells #[.bool true, .int .i64 base, .int .i64 term, v0] 65 (0, 0))) (j : Nat) (u : Value) : EnsOwn (w.setCell ⟨lb, j, none⟩ u) B v es :=
  ⟨ownsRow_setCell_other h.row (row_ne_log hb h.row (by decide)) u, fun e he => ⟨ownsRow_setCell_other (h.own e he).1 (row_ne_log hb (h.own e he).1 (by decide)) u, ownsRow_setCell_other (h.own e he).2 (row_ne_log hb (h.own e he).2 (by decide)) u⟩, h.sep⟩
theorem enOwn.store {w : World} {B lb : Nat} {base term : Int} {v0 : Value} {e : En} (h : enOwn w B e) (hb : w.heap[lb]? = some (.cells #[.bool true, .int .i64 base, .int .i64 term, v0] 65 (0, 0))) (j : Nat) (u : Value) : enOwn (w.setCell ⟨lb, j, none⟩ u) B e :=
  ⟨ownsRow_setCell_other h.1 (row_ne_log hb h.1 (by decide)) u, ownsRow_setCell_other h.2 (row_ne_log hb h.2 (by decide)) u⟩
theorem log_store {w : World} {lb : Nat} {base term : Int} {v0 u : Value} (h : w.heap[lb]? = some (.cells #[.bool true, .int .i64 base, .int .i64 term, v0] 65 (0, 0))) : (w.setCell ⟨lb, 3, none⟩ u).heap[lb]? = some (.cells #[.bool true, .int .i64 base, .int .i64 term, u] 65 (0, 0)) := by
  have hlt := (Array.getElem?_eq_some_iff.1 h).1
  have h' := (Array.getElem?_eq_some_iff.1 h).2
  show (w.heap.modify lb _)[lb]? = _
  rw [Array.getElem?_eq_getElem (by simpa using hlt), Array.getElem_modify_self, h']
  rfl
def AppendAt (B lb : Nat) (base term : Int) (v : Value) (es : List En) (ps : List EnP) (r : Int) (w : World) (e : Ending) (w' : World) : Prop :=
  ∃ v' es2, e = .returned (.int .i64 r) ∧ LogAt w' B lb base term v' (es ++ es2) ∧ es2.map En.plain = ps ∧ Below B w w' ∧ Turned lb v v' es (es ++ es2) w w'
theorem len_of_plain {es xs : List En} (h : es.map En.plain = xs.map En.plain) : es.length = xs.length := by
  have := congrArg List.length h
  simpa only [List.length_map] using this
set_option maxHeartbeats 4000000 in
theorem append_any (B lb : Nat) (base term : Int) (v : Value) (es : List En) (ao : Option Addr) (m cap : Nat) (xs : List En) (w : World) (B2 : Nat) (hL : LogAt w B lb base term v es) (hN : LogNums base es.length 0) (hB : B ≤ w.heap.size) (hn : xs.length = m) (hm : 0 < m) (hx : EnsIn w B2 ao xs) (hB2 : B2 ≤ w.heap.size) (hao : ao = none → cap = 0) (hl : m ≤ 1099511627776) (hnm : es.length + m ≤ 1099511627776) (hq : EnsArg xs) :
    Calls Try.prog 14 #[.pointer (some ⟨lb, 0, none⟩), .slice ao m cap] w (AppendAt B lb base term v es (xs.map En.plain) (base + es.length + 1) w) := by
  obtain ⟨a, c, hv⟩ := hL.form
  subst hv
  obtain ⟨h1, h2, _, _, h5⟩ := hN
  have HL := Lib.hid hL
  obtain ⟨n, hn0⟩ : ∃ n, es.length = n := ⟨_, rfl⟩
  have hc0 := hL.c0
  have hc1 := hL.c1
  have hc3 : w.cell? ⟨lb, 3, none⟩ = some (.slice a n c) := by rw [← hn0]; exact hL.c3
  rw [hn0] at h5 hnm ⊢
  have HN := Lib.hid hn0
  have HX := Lib.hid hx
  have HXN := Lib.hid hn
  have HA := Lib.hid hao
  have HQ := Lib.hid hq
  clear hL hn0 hx hn hao hq
  have w1 : IntKind.i64.wrap (base + (n : Int)) = base + n := IntWalk.i64_in _ (by omega)
  have w2 : IntKind.i64.wrap (base + (n : Int) + 1) = base + n + 1 := IntWalk.i64_in _ (by omega)
  have m0 : ¬ (m : Int) = 0 := by omega
  go_enter Try.func14, Try.ntmps14
  go_wp2_with (go_at_call 34; (with_reducible refine (there_any lb w hc0).mono ?_); rintro e w' ⟨rfl, rfl⟩)
  go_quiet (fail)
  have hb1 : Below w.heap.size w (w.drewN nq) := below_drewN (Below.refl _ _) _
  generalize w.drewN nq = x1 at hb1 ⊢
  have hL1 := HL.out.below hb1 (Nat.le_refl _)
  have hs1 := hb1.size
  have d3 : x1.cell? ⟨lb, 3, none⟩ = some (.slice a n c) := by have := hL1.c3; rw [HN.out] at this; exact this
  have hB1 : B ≤ x1.heap.size := by omega
  have HL1 := Lib.hid hL1
  clear hc0 hc1 hc3 hL1 w1 w2
  go_wp2_with fail
  go_region_law (first | (go_simp; go_at_call 29; refine (copied_at ao m cap xs (xs.map En.plain) _ w.heap.size HXN.out rfl ((HX.out.mono enSub_rising hB2).below enSub_kept (hb1.drew) (Nat.le_refl _)) hs1 HA.out hl HQ.out).mono ?_; rintro e x2 ⟨a2, c2, es2, rfl, ho2, hm2, hb2⟩; have hle2 : es2.length = m := (len_of_plain hm2).trans HXN.out; obtain ⟨g2, c2', hg2⟩ := Go.Joins.ownsRow_form ho2.row (by rw [hle2]; exact hm); injection hg2 with hg3 hg4 hg5; subst hg3; subst hg5; clear hg4; have hx12 : Below x1.heap.size x1 x2 := Below.trans (Below.drew (Below.refl _ _)) hb2; have hL2 := HL1.out.below hx12 (Nat.le_refl _); have hs2 := hx12.size; have d3 : x2.cell? ⟨lb, 3, none⟩ = some (.slice a n c) := (by have := hL2.c3; rw [HN.out] at this; exact this); have HL2 := Lib.hid hL2; have HO2 := Lib.hid ho2; have HM2 := Lib.hid hm2; have HLE2 := Lib.hid hle2; clear hL2 ho2 hm2 hle2) | (refine step_append_rows Try.underlying22 infoEn rfl (by decide) enCells_len enCells_one (by rfl) (.tmp 29) (.tmp 31) (by rfl) B (.slice a n c) n (es.flatMap enCells) (by rfl) (by have := HL2.out.ens.row; rw [HN.out] at this; exact this) ⟨g2, 0, none⟩ m c2 es2 HLE2.out (by rfl) x2.heap.size (by obtain ⟨a', c', hv', _, _, hin'⟩ := HO2.out.lie; cases hv'; exact hin') (by unfold maxLen; omega) (by omega) (by omega) ?_; intro v5 x5 hown5 hg5 hrow5; obtain ⟨a5, c5, hv5⟩ := row_slice hown5; subst hv5; have hlb5 := (hg5.block lb HL2.out.lt (fun e => own_ne_log HL2.out (by rw [HN.out]; exact e.symm))).trans HL2.out.blk; have d3 : x5.cell? ⟨lb, 3, none⟩ = some (.slice a n c) := (by have := Go.Joins.cell_of_block hlb5 3; rw [HN.out] at this; exact this); have f3 : x5.frozen? ⟨lb, 3, none⟩ = false := Go.Joins.unfrozen_of_block hlb5 3; have hlens := HLE2.out; have HTN5 := Lib.hid (And.intro (HL1.out.grow_own hx12 HO2.out (by rw [HN.out]; exact hg5)) (And.intro (((Apt.of_below (lb := lb) (v := .slice a n c) hb1).trans' hx12 hb1.size).grown (o := (Value.slice a n c).ownBlock) (by omega) hg5 (Or.inl rfl)) hrow5)); have HE5 := Lib.hid (HL1.out.grow (v2 := .slice (some ⟨g2, 0, none⟩) m c2) (es2 := es2) (w3 := x5) (v' := .slice a5 (n + m) c5) hB1 hx12 HO2.out (by rw [HN.out, HLE2.out]; exact hown5) (by rw [HN.out]; exact hg5)); have HB5 := Lib.hid hlb5; have hb5 : Below B x1 x5 := Below.grown (hx12.mono hB1) hg5 (by omega) (fun b hb => (HL2.out.ens.row.lt b (by rw [HN.out]; exact hb)).1); have hz5 := hg5.size; clear hlens hown5 hg5 hlb5 hrow5))
  all_goals (have hL6 : LogAt (x5.setCell ⟨lb, 3, none⟩ (.slice a5 (n + m) c5)) B lb base term (.slice a5 (n + m) c5) (es ++ es2) := ⟨log_store HB5.out, HE5.out.store HB5.out _ _, HL2.out.low⟩)
  all_goals (have hb6 : Below B w (x5.setCell ⟨lb, 3, none⟩ (.slice a5 (n + m) c5)) := Below.setCell ((hb1.mono hB).trans hb5) HL2.out.low _)
  all_goals (have hT6 : Turned lb (.slice a n c) (.slice a5 (n + m) c5) es (es ++ es2) w (x5.setCell ⟨lb, 3, none⟩ (.slice a5 (n + m) c5)) := ⟨HTN5.out.2.1.store (by omega) _ _, HTN5.out.2.2.imp id (fun h g hg => by rw [h] at hg; have := Option.some.inj hg; omega), fun e he => (List.mem_append.1 he).imp id (fun h => ((HTN5.out.1 e h).store HB5.out _ _).le hs1)⟩)
  all_goals (clear hz5)
  all_goals (generalize x5.setCell ⟨lb, 3, none⟩ (.slice a5 (n + m) c5) = x6 at hL6 hb6 hT6 ⊢)
  all_goals (simp only [Exit.then])
  all_goals (rename (∀ (_ : Act) (_ : World), _ → _) => hK0)
  all_goals (refine hK0 _ _ ?_; clear hK0)
  all_goals (go_wp2_with fail)
  all_goals go_ret
  all_goals (exact ⟨_, es2, rfl, hL6, HM2.out, hb6, hT6⟩)
end Go.Proofs.Ytljfanhkbbfngaa
/- A log's Compact. Conditions: the log is one that was made; its numbers are not too great. -/
namespace Go.Proofs.Ytljfanhkbbfngaa
open Go.RowKit
set_option maxRecDepth 20000
theorem log_store1 {w : World} {lb : Nat} {base term : Int} {v0 : Value} (u : Int) (h : w.heap[lb]? = some (.cells #[.bool true, .int .i64 base, .int .i64 term, v0] 65 (0, 0))) : (w.setCell ⟨lb, 1, none⟩ (.int .i64 u)).heap[lb]? = some (.cells #[.bool true, .int .i64 u, .int .i64 term, v0] 65 (0, 0)) := by
  have hlt := (Array.getElem?_eq_some_iff.1 h).1
  have h' := (Array.getElem?_eq_some_iff.1 h).2
  show (w.heap.modify lb _)[lb]? = _
  rw [Array.getElem?_eq_getElem (by simpa using hlt), Array.getElem_modify_self, h']
  rfl
theorem log_store2 {w : World} {lb : Nat} {base term : Int} {v0 : Value} (u : Int) (h : w.heap[lb]? = some (.cells #[.bool true, .int .i64 base, .int .i64 term, v0] 65 (0, 0))) : (w.setCell ⟨lb, 2, none⟩ (.int .i64 u)).heap[lb]? = some (.cells #[.bool true, .int .i64 base, .int .i64 u, v0] 65 (0, 0)) := by
  have hlt := (Array.getElem?_eq_some_iff.1 h).1
  have h' := (Array.getElem?_eq_some_iff.1 h).2
  show (w.heap.modify lb _)[lb]? = _
  rw [Array.getElem?_eq_getElem (by simpa using hlt), Array.getElem_modify_self, h']
  rfl
/-- Entries of which the row has been copied and cut: the old rows of args stay. -/
theorem EnsOwn.cut {w w' : World} {B B' : Nat} {v v' : Value} {es : List En} (h : EnsOwn w B v es) (hb : Below B' w w') (hB : w.heap.size ≤ B') (k : Nat) (hr : w'.ownsRow B 59 9 v' (es.drop k).length ((es.drop k).flatMap enCells)) : EnsOwn w' B v' (es.drop k) :=
  ⟨hr, fun e he => (h.own e (List.mem_of_mem_drop he)).below hb hB, h.sep.sublist (List.drop_sublist k es)⟩
/-- Compact at an index that the log does not know. -/
theorem compact_no (B lb : Nat) (base term : Int) (v : Value) (es : List En) (i r : Int) (w : World) (hr : termS base term (es.map En.plain) i = (r, false)) (hL : LogAt w B lb base term v es) (hN : LogNums base es.length i) :
    Calls Try.prog 17 #[.pointer (some ⟨lb, 0, none⟩), .int .i64 i] w fun e w' => e = .returned (.int .i64 2) ∧ Below w.heap.size w w' := by
  have hc0 := hL.c0
  have HL := Lib.hid hL
  have HN := Lib.hid hN
  have HR := Lib.hid hr
  clear hL hN hr
  go_enter Try.func17, Try.ntmps17
  go_wp2_with (first | (go_at_call 34; (with_reducible refine (there_any lb w hc0).mono ?_); rintro e w' ⟨rfl, rfl⟩) | (go_at_call 25; (refine (term_any B lb base term v es i r false _ HR.out (HL.out.below (by first | exact below_drewN (Below.refl _ _) _ | exact Below.drew (Below.refl _ _) | exact Below.refl _ _) (Nat.le_refl _)) HN.out).mono ?_); rintro e w2 ⟨rfl, hp⟩))
  go_ret
  exact ⟨rfl, hp⟩
end Go.Proofs.Ytljfanhkbbfngaa
/- A log's Compact at an index that it knows.  Conditions: the log is one that was made; its numbers are not too great. -/
namespace Go.Proofs.Ytljfanhkbbfngaa
open Go.RowKit
set_option maxRecDepth 20000
def CompactAt (B lb : Nat) (i t : Int) (v : Value) (es0 es : List En) (w : World) (e : Ending) (w' : World) : Prop :=
  ∃ v', e = .returned (.int .i64 0) ∧ LogAt w' B lb i t v' es ∧ Below B w w' ∧ Turned lb v v' es0 es w w'
set_option maxHeartbeats 4000000 in
theorem compact_any (B lb : Nat) (base term t : Int) (v : Value) (es : List En) (k : Nat) (i : Int) (w : World) (hi : i = base + k) (hk : k ≤ es.length) (hr : termS base term (es.map En.plain) i = (t, true)) (hL : LogAt w B lb base term v es) (hN : LogNums base es.length i) (hB : B ≤ w.heap.size) :
    Calls Try.prog 17 #[.pointer (some ⟨lb, 0, none⟩), .int .i64 i] w (CompactAt B lb i t v es (es.drop k) w) := by
  obtain ⟨a, c, hv⟩ := hL.form
  subst hv
  have HN := Lib.hid hN
  obtain ⟨h1, h2, h3, h4, h5⟩ := hN
  have hc0 := hL.c0
  have HL := Lib.hid hL
  have HR := Lib.hid hr
  obtain ⟨n, hn0⟩ : ∃ n, es.length = n := ⟨_, rfl⟩
  rw [hn0] at h5 hk
  have HE := Lib.hid hn0
  have hsl : ∀ w', (Instr.sliceAt 22 (.slice a n c) (some (.int .i64 (i - base))) none none).run Try.prog w' = .ok (.slice (subA a c k 9) (n - k) (c - k)) w' := fun w' => run_sub_l sliceEn sizeEn a n c k hk .i64 (i - base) (by omega) w'
  have w1 : IntKind.i64.wrap (i - base) = i - base := IntWalk.i64_in _ (by omega)
  have HSL := Lib.hid hsl
  have HW1 := Lib.hid w1
  clear hL hn0 hr hi hsl w1
  go_enter Try.func17, Try.ntmps17
  go_wp2_with (go_at_call 34; (with_reducible refine (there_any lb w hc0).mono ?_); rintro e w' ⟨rfl, rfl⟩)
  refine (term_any B lb base term _ es i t true _ HR.out (HL.out.below (by first | exact below_drewN (Below.refl _ _) _ | exact Below.drew (Below.refl _ _) | exact Below.refl _ _) (Nat.le_refl _)) HN.out).mono ?_
  rintro e w2 ⟨rfl, hp⟩
  have hL2 := HL.out.below hp (Nat.le_refl _)
  have d1 := hL2.c1
  have d2 := hL2.c2
  have d3 : w2.cell? ⟨lb, 3, none⟩ = some (.slice a n c) := by have := hL2.c3; rw [HE.out] at this; exact this
  have HL2 := Lib.hid hL2
  have HP := Lib.hid hp
  have hsl := HSL.out
  have w1 := HW1.out
  clear hL2 hp hc0
  go_wp2_with fail
  have hlt2 := HL2.out.lt
  have hle : (es.drop k).length = n - k := by rw [List.length_drop, HE.out]
  have hin : ∀ w', Below w2.heap.size w2 w' → EnsIn w' w2.heap.size (subA a c k 9) (es.drop k) := fun w' hb => by
    obtain ⟨a', c', hv, hc', _, hin'⟩ := HL2.out.ens.lie
    cases hv
    have := EnsIn.sub (hin'.below enSub_kept hb (Nat.le_refl _)) k (es.length - k) hc' (by rw [HE.out]; omega)
    rwa [List.take_of_length_le (by simp)] at this
  have hnil : subA a c k 9 = none → c - k = 0 := fun h => by
    have h1 := subA_eq_none h
    have h2 := own_none HL2.out.ens.row h1
    omega
  have HLE := Lib.hid hle
  have HIN := Lib.hid hin
  have HNIL := Lib.hid hnil
  clear hle hin hnil
  go_region_law (first | (go_simp; go_at_call 36; refine (cloneE_any enSub (subA a c k 9) (n - k) (c - k) (es.drop k) _ w2.heap.size HLE.out (HIN.out _ (Below.drew (Below.refl _ _))) enSub_kept (by simp) HNIL.out (by omega)).mono ?_; rintro e x3 ⟨a3, c3, rfl, ho3, hb3⟩; have hx := (Below.drew (Below.refl w2.heap.size w2)).trans hb3; have hs3 := hx.size; have hL3 := HL2.out.below hx (Nat.le_refl _); have e1 := hL3.c1; have e2 := hL3.c2; have e3 := hL3.c3; rw [HE.out] at e3; have f1 : x3.frozen? ⟨lb, 1, none⟩ = false := Go.Joins.unfrozen_of_block hL3.blk 1; have f2 : x3.frozen? ⟨lb, 2, none⟩ = false := Go.Joins.unfrozen_of_block hL3.blk 2; have f3 : x3.frozen? ⟨lb, 3, none⟩ = false := Go.Joins.unfrozen_of_block hL3.blk 3; have HO3 := Lib.hid ho3; have HL3 := Lib.hid hL3; clear hb3 hsl w1 d1 d2 d3 ho3 hL3))
  all_goals (have hB2 : B ≤ w2.heap.size := Nat.le_trans hB HP.out.size)
  all_goals (have hr3 : x3.ownsRow B 59 9 (.slice a3 (n - k) c3) (es.drop k).length ((es.drop k).flatMap enCells) := (by rw [HLE.out]; exact Go.Joins.ownsRow_le HO3.out (by simpa using hB2)))
  all_goals (have he3 : EnsOwn x3 B (.slice a3 (n - k) c3) (es.drop k) := EnsOwn.cut HL2.out.ens hx (Nat.le_refl _) k hr3)
  all_goals (have b3 := HL3.out.blk; have he4 := he3.store b3 1 (.int .i64 i); have b4 := log_store1 i b3; have he5 := he4.store b4 2 (.int .i64 t); have b5 := log_store2 t b4; have he6 := he5.store b5 3 (.slice a3 (n - k) c3); have b6 := log_store (u := .slice a3 (n - k) c3) b5)
  all_goals (have hL6 : LogAt (((x3.setCell ⟨lb, 1, none⟩ (.int .i64 i)).setCell ⟨lb, 2, none⟩ (.int .i64 t)).setCell ⟨lb, 3, none⟩ (.slice a3 (n - k) c3)) B lb i t (.slice a3 (n - k) c3) (es.drop k) := ⟨b6, he6, HL3.out.low⟩)
  all_goals (have hb6 : Below B w (((x3.setCell ⟨lb, 1, none⟩ (.int .i64 i)).setCell ⟨lb, 2, none⟩ (.int .i64 t)).setCell ⟨lb, 3, none⟩ (.slice a3 (n - k) c3)) := Below.setCell (Below.setCell (Below.setCell ((HP.out.mono hB).trans (hx.mono hB2)) HL3.out.low _) HL3.out.low _) HL3.out.low _)
  all_goals (have hT6 : Turned lb (.slice a n c) (.slice a3 (n - k) c3) es (es.drop k) w (((x3.setCell ⟨lb, 1, none⟩ (.int .i64 i)).setCell ⟨lb, 2, none⟩ (.int .i64 t)).setCell ⟨lb, 3, none⟩ (.slice a3 (n - k) c3)) := ⟨(((Apt.store (Apt.trans' (Apt.of_below HP.out) hx HP.out.size) (by have := HP.out.size; omega) _ _).store (by have := HP.out.size; simp; omega) _ _).store (by have := HP.out.size; simp; omega) _ _), Or.inr (fun g hg => by have h1 := (World.ownsRow.lt HO3.out g hg).1; have := HP.out.size; simp at h1; omega), fun e he => Or.inl (List.mem_of_mem_drop he)⟩)
  all_goals (clear hr3 he3 b3 he4 b4 he5 b5 he6 b6 e1 e2 e3 f1 f2 f3)
  all_goals (generalize ((x3.setCell ⟨lb, 1, none⟩ (.int .i64 i)).setCell ⟨lb, 2, none⟩ (.int .i64 t)).setCell ⟨lb, 3, none⟩ (.slice a3 (n - k) c3) = x6 at hL6 hb6 hT6 ⊢)
  all_goals (simp only [Exit.then])
  all_goals (rename (∀ (_ : Act) (_ : World), _ → _) => hK0)
  all_goals (refine hK0 _ _ ?_; clear hK0)
  all_goals (go_wp2_with fail)
  all_goals go_ret
  all_goals (exact ⟨_, rfl, hL6, hb6, by rw [HE.out]; exact hT6⟩)
end Go.Proofs.Ytljfanhkbbfngaa
