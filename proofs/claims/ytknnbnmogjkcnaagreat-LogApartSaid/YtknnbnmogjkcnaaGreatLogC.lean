/- A log's From, Append. Conditions: the log is one that was made; its numbers are not too great. -/
import Derived.Test.YtknnbnmogjkcnaaGreatLogB
import Derived.Test.YtknnbnmogjkcnaaGreatSub
import Derived.Deep.RegionLaw
import Derived.Deep.RegionHeld3
namespace Go.Proofs.YtknnbnmogjkcnaaGreat
open Go.RowKit
set_option maxRecDepth 20000

theorem sizeEn : ∀ w, (sizeOf (Tryz.prog.elem 22)).run Tryz.prog w = .ok 9 w := fun _ => by kernel_rfl
theorem sliceEn : Tryz.prog.underlying 22 = some (.slice (Tryz.prog.elem 22)) := by kernel_rfl
/-- A part of a row that is only read. -/
theorem EnsIn.sub {w : World} {B : Nat} {a : Option Addr} {c : Nat} {es : List En} (h : EnsIn w B a es) (l m : Nat) (hl : es.length ≤ c) (hlm : l + m ≤ es.length) : EnsIn w B (subA a c l 9) ((es.drop l).take m) := by
  by_cases h0 : es = []
  · subst h0
    simp only [List.drop_nil, List.take_nil]
    exact Or.inl rfl
  · by_cases hc : c = l
    · have : m = 0 := by omega
      subst this
      exact Or.inl (by simp)
    · rcases h with h | ⟨b, off, h1, h2, h3⟩
      · exact absurd h h0
      · subst h1
        have := RowsIn.drop l (show RowsIn 9 enCells enSub w B (some ⟨b, off, none⟩) es from Or.inr ⟨b, off, rfl, h2, h3⟩)
        have e : subA (some ⟨b, off, none⟩) c l 9 = some ⟨b, off + l * 9, none⟩ := by
          unfold subA; rw [if_neg hc]; show some (Addr.add ⟨b, off, none⟩ (l * 9)) = _; rw [Go.WideShapes.add_plain]
        rw [e]
        exact RowsIn.take m this
theorem copied_at (ao : Option Addr) (n cap : Nat) (xs : List En) (ps : List EnP) (w : World) (B : Nat) (hn : xs.length = n) (hps : xs.map En.plain = ps) (hx : EnsIn w B ao xs) (hB : B ≤ w.heap.size) (hao : ao = none → cap = 0) (hl : n ≤ 1099511627776) (hq : EnsArg xs) :
    Calls Tryz.prog 14 #[.slice ao n cap] w fun e w' => ∃ a c es, e = .returned (.slice a n c) ∧ EnsOwn w' w.heap.size (.slice a n c) es ∧ es.map En.plain = ps ∧ Below w.heap.size w w' := by
  subst hps
  exact copied_any ao n cap xs w B hn hx hB hao hl hq.1 hq.2
/-- What From tells. -/
def fromS (base : Int) (es : List EnP) (i most : Int) : List EnP :=
  if (placeS base es.length i).2 = false ∨ most < 1 then [] else (es.drop (i - base - 1).toNat).take most.toNat
def FromAt (ps : List EnP) (w : World) (e : Ending) (w' : World) : Prop :=
  ∃ a c es, e = .returned (.slice a ps.length c) ∧ EnsOwn w' w.heap.size (.slice a ps.length c) es ∧ es.map En.plain = ps ∧ Below w.heap.size w w'
/-- The lesser of two numbers, at a step of a region that draws its order. -/
theorem step_min {w : World} {ops : Array Oper} {o : Oper} {a : Act} {K : Act → World → Prop} {Q : Exit → Act → World → Prop} {E : Prop} (hgd : o.guard = none) (x y : Operand)
    (ho : o.op = .call { callee := .builtin .min, args := #[x, y], argTypes := #[3, 3] }) (p q m : Int) (hx : a.eval x = .int .i64 p) (hy : a.eval y = .int .i64 q) (hm : min p q = m) (h : K (a.put o.dst (.int .i64 m)) w) :
    if Region.wanted o (yielded ops a.tmps) = true then Oper.wp Tryz.prog o a w K Q else E := by
  have hw : Region.wanted o (yielded ops a.tmps) = true := by simp [Region.wanted, hgd]
  rw [if_pos hw]
  have e : (if q < p then q else p) = m := by
    rw [← hm]; split <;> omega
  have hrun := run_min_int2 (P := Tryz.prog) (w := w) #[3, 3] o.type .i64 .i64 p q
  rw [e] at hrun
  unfold Oper.wp
  simp [execOp, ho, resolve, invoke, builtin, hx, hy, hrun, Result.andThen]
  exact h
theorem from_none (B lb : Nat) (base term : Int) (v : Value) (es : List En) (i most : Int) (w : World) (hr : (placeS base es.length i).2 = false ∨ most < 1) (hL : LogAt w B lb base term v es) (hN : LogNums base es.length i) :
    Calls Tryz.prog 8 #[.pointer (some ⟨lb, 0, none⟩), .int .i64 i, .int .i64 most] w fun e w' => e = .returned (.slice none 0 0) ∧ Below w.heap.size w w' := by
  obtain ⟨a, c, hv⟩ := hL.form
  subst hv
  obtain ⟨h1, h2, h3, h4, h5⟩ := hN
  have HL := Lib.hid hL
  obtain ⟨n, hn⟩ : ∃ n, es.length = n := ⟨_, rfl⟩
  rw [hn] at h5 hr
  have hc3 : w.cell? ⟨lb, 3, none⟩ = some (.slice a n c) := by rw [← hn]; exact hL.c3
  have HC3 := Lib.hid hc3
  clear hL hc3 hn
  obtain ⟨k, ok, hp⟩ : ∃ k ok, placeS base n i = (k, ok) := ⟨_, _, rfl⟩
  rw [hp] at hr
  dsimp only at hr
  have HP := Lib.hid hp
  clear hp
  cases ok with
  | false =>
    go_enter Tryz.func8, Tryz.ntmps8
    go_wp2_with fail
    refine (place_at lb base a n c i k false w HP.out HL.out.c0 HL.out.c1 HC3.out ⟨h1, h2⟩ ⟨h3, h4⟩ h5).mono ?_
    rintro e w1 ⟨rfl, hb1⟩
    go_wp2_with fail
    go_ret
    exact ⟨rfl, hb1⟩
  | true =>
    have hm : most < 1 := by
      rcases hr with h | h
      · cases h
      · exact h
    clear hr
    go_enter Tryz.func8, Tryz.ntmps8
    go_wp2_with fail
    refine (place_at lb base a n c i k true w HP.out HL.out.c0 HL.out.c1 HC3.out ⟨h1, h2⟩ ⟨h3, h4⟩ h5).mono ?_
    rintro e w1 ⟨rfl, hb1⟩
    go_wp2_with fail
    go_ret
    exact ⟨rfl, hb1⟩
set_option maxHeartbeats 2000000 in
theorem from_some (B lb : Nat) (base term : Int) (v : Value) (es : List En) (i most : Int) (k m : Nat) (w : World) (hk : i = base + 1 + k) (hkn : k < es.length) (hm1 : 1 ≤ most) (hm : (m : Int) = min most (es.length - k)) (hL : LogAt w B lb base term v es) (hN : LogNums base es.length i) (hB : B ≤ w.heap.size) (hq : EnsArg es) (hmost : most ≤ 1152921504606846976) :
    Calls Tryz.prog 8 #[.pointer (some ⟨lb, 0, none⟩), .int .i64 i, .int .i64 most] w (FromAt (((es.map En.plain).drop k).take m) w) := by
  obtain ⟨a, c, hv⟩ := hL.form
  subst hv
  obtain ⟨h1, h2, h3, h4, h5⟩ := hN
  have HL := Lib.hid hL
  have hlt := hL.lt
  have hcap := own_capG hL.ens.row
  obtain ⟨n, hn⟩ : ∃ n, es.length = n := ⟨_, rfl⟩
  rw [hn] at h5 hkn hm hcap
  have hc3 : w.cell? ⟨lb, 3, none⟩ = some (.slice a n c) := by rw [← hn]; exact hL.c3
  have HC3 := Lib.hid hc3
  have HN := Lib.hid hn
  have hp : placeS base n i = ((k : Int), true) := by unfold placeS; rw [if_pos (by omega)]; rw [hk]; congr 1; omega
  have HP := Lib.hid hp
  clear hL hc3 hn hp hk
  have hmk : k + m ≤ n := by omega
  have hm2 : (m : Int) ≤ most := by omega
  have hlen : ((es.drop k).take m).length = m := by rw [List.length_take, List.length_drop, HN.out]; omega
  have hmap : ((es.drop k).take m).map En.plain = ((es.map En.plain).drop k).take m := by rw [List.map_take, List.map_drop]
  have hao : subA a c k 9 = none → c - k = 0 := fun h => by
    have h1 := subA_eq_none h
    have h2 := own_none HL.out.ens.row h1
    omega
  have hqs : EnsArg ((es.drop k).take m) := ⟨fun x hx => hq.1 x (List.mem_of_mem_drop (List.mem_of_mem_take hx)), fun x hx => hq.2 x (List.mem_of_mem_drop (List.mem_of_mem_take hx))⟩
  have hsubIn : ∀ w1 : World, LogAt w1 B lb base term (.slice a es.length c) es → ∀ w2, Below w1.heap.size w1 w2 → EnsIn w2 w1.heap.size (subA a c k 9) ((es.drop k).take m) := fun w1 h1 w2 h2 => by
    obtain ⟨a', c', hv, hc', _, hin⟩ := h1.ens.lie
    cases hv
    exact EnsIn.sub (hin.below enSub_kept h2 (Nat.le_refl _)) k m hc' (by rw [HN.out]; omega)
  have hSUB : ((es.drop k).take m).length = m ∧ ((es.drop k).take m).map En.plain = ((es.map En.plain).drop k).take m ∧ ((subA a c k 9 = none → c - k = 0) ∧ EnsArg ((es.drop k).take m)) ∧ (∀ w1 : World, LogAt w1 B lb base term (.slice a es.length c) es → ∀ w2, Below w1.heap.size w1 w2 → EnsIn w2 w1.heap.size (subA a c k 9) ((es.drop k).take m)) := ⟨hlen, hmap, ⟨hao, hqs⟩, hsubIn⟩
  clear hlen hmap hao hqs hsubIn
  obtain ⟨M, hM⟩ : ∃ M, min most (n : Int) = M := ⟨_, rfl⟩
  obtain ⟨H, hH⟩ : ∃ H, min (n : Int) ((k : Int) + M) = H := ⟨_, rfl⟩
  have hHk : H = ((k + m : Nat) : Int) := by omega
  have hM1 : 1 ≤ M ∧ M ≤ n := by omega
  have hsl : ∀ w', (Instr.sliceAt 22 (.slice a n c) (some (.int .i64 k)) (some (.int .i64 H)) none).run Tryz.prog w' = .ok (.slice (subA a c k 9) m (c - k)) w' := fun w' => by
    have h := run_sub_lh sliceEn sizeEn a n c k (k + m) (by omega) (by omega) .i64 .i64 k H rfl hHk w'
    rwa [show k + m - k = m by omega] at h
  have w1 : IntKind.i64.wrap ((k : Int) + M) = (k : Int) + M := IntWalk.i64_in _ (by omega)
  have i1 : (k : Int) < n := by omega
  have HM := Lib.hid hM
  have HH := Lib.hid hH
  clear hM hH hHk hm
  go_enter Tryz.func8, Tryz.ntmps8
  go_wp2_with fail
  refine (place_at lb base a n c i k true w HP.out HL.out.c0 HL.out.c1 HC3.out ⟨h1, h2⟩ ⟨h3, h4⟩ h5).mono ?_
  rintro e w1 ⟨rfl, hb1⟩
  have hL1 := HL.out.below hb1 (Nat.le_refl _)
  have hs1 := hb1.size
  have hS : ∀ w', Below w1.heap.size w1 w' → w'.cell? ⟨lb, 3, none⟩ = some (.slice a n c) := fun w' h => (h.cell (p := ⟨lb, 3, none⟩) hL1.lt).trans ((hb1.cell (p := ⟨lb, 3, none⟩) hlt).trans HC3.out)
  have HSS := Lib.hid hS
  have HSUBE := Lib.hid hSUB
  have HL1 := Lib.hid hL1
  have hrf : Below w1.heap.size w1 w1 := Below.refl _ _
  clear hS hL1 hSUB
  go_wp2_with fail
  go_region_held3 (fun w' => w'.cell? ⟨lb, 3, none⟩ = some (.slice a n c)) ((refine HSS.out _ ?_; repeat (first | with_reducible assumption | with_reducible exact Below.refl _ _ | refine Below.trans ?_ (by assumption) | with_reducible refine Below.drew ?_))) (first | (refine step_min (by rfl) (.tmp 32) (.tmp 37) (by rfl) most n M (by rfl) (by rfl) HM.out ?_) | (refine step_min (by rfl) (.tmp 30) (.tmp 39) (by rfl) n (k + M) H (by rfl) (by rfl) HH.out ?_) | (go_at_call 14; refine (copied_at (subA a c k 9) m (c - k) ((es.drop k).take m) (((es.map En.plain).drop k).take m) _ w1.heap.size HSUBE.out.1 HSUBE.out.2.1 (HSUBE.out.2.2.2 w1 HL1.out _ (Below.drew hrf)) (Nat.le_refl _) HSUBE.out.2.2.1.1 (by omega) HSUBE.out.2.2.1.2).mono ?_; rintro e w3 ⟨a3, c3, es3, rfl, ho3, hm3, hb3⟩))
  have hlenp : (((es.map En.plain).drop k).take m).length = m := by rw [← HSUBE.out.2.1, List.length_map, HSUBE.out.1]
  have HO3 := Lib.hid ho3
  have HM3 := Lib.hid hm3
  have HLP := Lib.hid hlenp
  have hbf : Below w.heap.size w w3 := hb1.trans ((Below.trans (Below.drew hrf) hb3).mono hs1)
  clear ho3 hm3 hlenp hsl
  go_wp2_with fail
  go_ret
  exact ⟨a3, c3, es3, by rw [HLP.out]; rfl, by rw [HLP.out]; exact HO3.out.le hs1, HM3.out, hbf⟩
end Go.Proofs.YtknnbnmogjkcnaaGreat
