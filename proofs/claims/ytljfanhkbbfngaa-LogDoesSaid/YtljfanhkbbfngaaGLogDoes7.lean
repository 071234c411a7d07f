/- The document's log: Compact. Conditions: the log lies as its entries say; its numbers are not too great. -/
import Derived.Test.YtljfanhkbbfngaaGLogDoes6
set_option linter.unusedVariables false
set_option linter.unusedSimpArgs false
namespace Go.Proofs.Ytljfanhkbbfngaa
open Go.RowKit
set_option maxRecDepth 20000
theorem RfAt.ownNe {w : World} {B rb : Nat} {base term : Int} {v : Value} {es : List En} (h : RfAt w B rb base term v es) : ∀ g, v.ownBlock = some g → g ≠ rb := fun g hg e => by
  subst e
  rcases h.row.2 with ⟨h1, _⟩ | ⟨g', cap, cur, h1, _, g1, _⟩
  · rw [h1] at hg; simp [Value.ownBlock] at hg
  · rw [h1] at hg
    simp [Value.ownBlock] at hg
    subst hg
    rw [h.blk] at g1
    simp only [Option.some.injEq, Obj.cells.injEq] at g1
    exact absurd g1.2.1 (by decide)
theorem RfAt.set0 {w : World} {B rb : Nat} {base term : Int} {v : Value} {es : List En} (h : RfAt w B rb base term v es) (i : Int) : RfAt (w.setCell ⟨rb, 0, none⟩ (.int .i64 i)) B rb i term v es := by
  have hg := grown_setL w ⟨rb, 0, none⟩ (.int .i64 i)
  have hk : Keeps (fun g => g ≠ rb) w (w.setCell ⟨rb, 0, none⟩ (.int .i64 i)) := ⟨hg.size, fun g h1 h2 => hg.block g h1 (fun e => h2 (Option.some.inj e))⟩
  have hbk := Go.Joins.block_setCell (i := 0) h.blk (.int .i64 i)
  exact ⟨by simpa using hbk, own_keeps h.row hk h.ownNe, fun e he => enSub_keeps (h.sub e he) hk (h.apart e he), h.nils, h.low, h.apart⟩
theorem RfAt.set1 {w : World} {B rb : Nat} {base term : Int} {v : Value} {es : List En} (h : RfAt w B rb base term v es) (i : Int) : RfAt (w.setCell ⟨rb, 1, none⟩ (.int .i64 i)) B rb base i v es := by
  have hg := grown_setL w ⟨rb, 1, none⟩ (.int .i64 i)
  have hk : Keeps (fun g => g ≠ rb) w (w.setCell ⟨rb, 1, none⟩ (.int .i64 i)) := ⟨hg.size, fun g h1 h2 => hg.block g h1 (fun e => h2 (Option.some.inj e))⟩
  have hbk := Go.Joins.block_setCell (i := 1) h.blk (.int .i64 i)
  exact ⟨by simpa using hbk, own_keeps h.row hk h.ownNe, fun e he => enSub_keeps (h.sub e he) hk (h.apart e he), h.nils, h.low, h.apart⟩
theorem RTurned.set {rb : Nat} {v v' : Value} {es es' xs : List En} {w w' : World} (h : RTurned rb v v' es es' xs w w') (j : Nat) (u : Value) : RTurned rb v v' es es' xs w (w'.setCell ⟨rb, j, none⟩ u) := by
  have hg := grown_setL w' ⟨rb, j, none⟩ u
  exact ⟨⟨Nat.le_trans h.keeps.size hg.size, fun g h1 h2 => (hg.block g (Nat.lt_of_lt_of_le h1 h.keeps.size) (fun e => h2 (Option.some.inj e))).trans (h.keeps.same g h1 h2)⟩, h.row, h.from_⟩
theorem rcompact_no (B rb : Nat) (base term : Int) (v : Value) (es : List En) (i r : Int) (w : World) (hr : termS base term (es.map En.plain) i = (r, false)) (hL : RfAt w B rb base term v es) (hN : LogNums base es.length i) :
    Calls Try.prog 18 #[.pointer (some ⟨rb, 0, none⟩), .int .i64 i] w fun e w' => e = .returned (.int .i64 2) ∧ Below w.heap.size w w' := by
  go_enter Try.func18, Try.ntmps18
  go_wp2_with fail
  refine (rterm_any B rb base term v es i r false w hr hL hN).mono ?_
  rintro e w1 ⟨rfl, hb⟩
  clear hr hL hN
  go_wp2_with fail
  go_ret
  exact ⟨rfl, hb⟩
set_option maxHeartbeats 4000000 in
theorem rcompact_any (B rb : Nat) (base term t : Int) (v : Value) (es : List En) (k : Nat) (i : Int) (w : World) (hi : i = base + k) (hk : k ≤ es.length) (hr : termS base term (es.map En.plain) i = (t, true)) (hL : RfAt w B rb base term v es) (hN : LogNums base es.length i) (hB : B ≤ w.heap.size) (hnm : es.length ≤ 1000000) :
    Calls Try.prog 18 #[.pointer (some ⟨rb, 0, none⟩), .int .i64 i] w (RPutAt B rb i t v es (es.drop k) [] (.int .i64 0) w) := by
  obtain ⟨a, c, hv⟩ := hL.form
  subst hv
  have HN := Lib.hid hN
  obtain ⟨h1, h2, h3, h4, h5⟩ := hN
  have HL := Lib.hid hL
  have HR := Lib.hid hr
  have hrl := hL.lt
  obtain ⟨n, hn0⟩ : ∃ n, es.length = n := ⟨_, rfl⟩
  rw [hn0] at h5 hk hnm ⊢
  have HE := Lib.hid hn0
  have hcn : n ≤ c := by have := own_capG hL.row; omega
  have hsl : ∀ w', (Instr.sliceAt 22 (.slice a n c) (some (.int .i64 (i - base))) none none).run Try.prog w' = .ok (.slice (subA a c k 9) (n - k) (c - k)) w' := fun w' => run_sub_l sliceEn sizeEn a n c k hk .i64 (i - base) (by omega) w'
  have w1 : IntKind.i64.wrap (i - base) = i - base := IntWalk.i64_in _ (by omega)
  have hin0 : EnsIn w w.heap.size a es := own_rowsIn enCells_len (sub := enSub) rfl hL.row (fun x hx => hL.sub x hx)
  have hin : EnsIn w w.heap.size (subA a c k 9) (es.drop k) := by
    have := EnsIn.sub hin0 k (es.length - k) (by rw [hn0]; exact hcn) (by rw [hn0]; omega)
    rwa [List.take_of_length_le (by simp)] at this
  have hnil : subA a c k 9 = none → c - k = 0 := fun h => by
    have h1 := subA_eq_none h
    have h2 := own_none hL.row h1
    omega
  have hlen : (es.drop k).length = n - k := by rw [List.length_drop, hn0]
  have HSL := Lib.hid hsl
  have HW1 := Lib.hid w1
  have HIN := Lib.hid hin
  have HNIL := Lib.hid hnil
  have HLEN := Lib.hid hlen
  clear hL hr hi hn0 hsl w1 hin hin0 hnil hlen
  go_enter Try.func18, Try.ntmps18
  go_wp2_with fail
  refine (rterm_any B rb base term _ es i t true w HR.out HL.out HN.out).mono ?_
  rintro e w2 ⟨rfl, hb2⟩
  have HB2 := Lib.hid hb2
  have hL2 := HL.out.below hb2 (Nat.le_refl _)
  have e0 := hL2.c0
  have e2 : w2.cell? ⟨rb, 2, none⟩ = some (.slice a n c) := by have := hL2.c2; rw [HE.out] at this; exact this
  have hsl := HSL.out
  have w1 := HW1.out
  clear hb2 hL2
  go_upto_region 4 with fail
  refine heldS_begin (fun (w' : World) => w'.cell? ⟨rb, 0, none⟩ = some (.int .i64 base)) (by kernel_rfl) (e0) ?_
  intro hS0
  (first | (refine takeS_no 0 rfl (by kernel_rfl) (by kernel_rfl) (by kernel_rfl) (fun _ _ _ h => h) (by rfl) (by assumption) ?_) | (refine takeS_yes (v := ?_) 0 rfl (by kernel_rfl) (by kernel_rfl) (by kernel_rfl) (fun _ _ _ h => h) (by rfl) (by assumption) ?_ ?_; rotate_left; focus (intro wS hSw; have q0 := hSw; go_simp; first | done | with_reducible rfl)))
  (try simp only [Act.put, List.setIfInBounds_toArray, List.set_cons_zero, List.set_cons_succ])
  (first | (refine takeS_no 2 rfl (by kernel_rfl) (by kernel_rfl) (by kernel_rfl) (fun _ _ _ h => h) (by rfl) (by assumption) ?_) | (refine takeS_yes (v := ?_) 2 rfl (by kernel_rfl) (by kernel_rfl) (by kernel_rfl) (fun _ _ _ h => h) (by rfl) (by assumption) ?_ ?_; rotate_left; focus (intro wS hSw; have q0 := hSw; go_simp; first | done | with_reducible rfl)))
  (try simp only [Act.put, List.setIfInBounds_toArray, List.set_cons_zero, List.set_cons_succ])
  (first | (refine takeS_no 3 rfl (by kernel_rfl) (by kernel_rfl) (by kernel_rfl) (fun _ _ _ h => h) (by rfl) (by assumption) ?_) | (refine takeS_yes (v := ?_) 3 rfl (by kernel_rfl) (by kernel_rfl) (by kernel_rfl) (fun _ _ _ h => h) (by rfl) (by assumption) ?_ ?_; rotate_left; focus (intro wS hSw; have q0 := hSw; go_simp; first | done | with_reducible rfl)))
  (try simp only [Act.put, List.setIfInBounds_toArray, List.set_cons_zero, List.set_cons_succ])
  (first | (refine takeS_no 4 rfl (by kernel_rfl) (by kernel_rfl) (by kernel_rfl) (fun _ _ _ h => h) (by rfl) (by assumption) ?_) | (refine takeS_yes (v := ?_) 4 rfl (by kernel_rfl) (by kernel_rfl) (by kernel_rfl) (fun _ _ _ h => h) (by rfl) (by assumption) ?_ ?_; rotate_left; focus (intro wS hSw; have q0 := hSw; go_simp; first | done | with_reducible rfl)))
  (try simp only [Act.put, List.setIfInBounds_toArray, List.set_cons_zero, List.set_cons_succ])
  (first | (refine takeS_no 6 rfl (by kernel_rfl) (by kernel_rfl) (by kernel_rfl) (fun _ _ _ h => h) (by rfl) (by assumption) ?_) | (refine takeS_yes (v := ?_) 6 rfl (by kernel_rfl) (by kernel_rfl) (by kernel_rfl) (fun _ _ _ h => h) (by rfl) (by assumption) ?_ ?_; rotate_left; focus (intro wS hSw; have q0 := hSw; go_simp; first | done | with_reducible rfl)))
  (try simp only [Act.put, List.setIfInBounds_toArray, List.set_cons_zero, List.set_cons_succ])
  (first | (refine takeS_no 7 rfl (by kernel_rfl) (by kernel_rfl) (by kernel_rfl) (fun _ _ _ h => h) (by rfl) (by assumption) ?_) | (refine takeS_yes (v := ?_) 7 rfl (by kernel_rfl) (by kernel_rfl) (by kernel_rfl) (fun _ _ _ h => h) (by rfl) (by assumption) ?_ ?_; rotate_left; focus (intro wS hSw; have q0 := hSw; go_simp; first | done | with_reducible rfl)))
  (try simp only [Act.put, List.setIfInBounds_toArray, List.set_cons_zero, List.set_cons_succ])
  (first | (refine takeS_no 8 rfl (by kernel_rfl) (by kernel_rfl) (by kernel_rfl) (fun _ _ _ h => h) (by rfl) (by assumption) ?_) | (refine takeS_yes (v := ?_) 8 rfl (by kernel_rfl) (by kernel_rfl) (by kernel_rfl) (fun _ _ _ h => h) (by rfl) (by assumption) ?_ ?_; rotate_left; focus (intro wS hSw; have q0 := hSw; go_simp; first | done | with_reducible rfl)))
  (try simp only [Act.put, List.setIfInBounds_toArray, List.set_cons_zero, List.set_cons_succ])
  (first | (refine takeS_no 9 rfl (by kernel_rfl) (by kernel_rfl) (by kernel_rfl) (fun _ _ _ h => h) (by rfl) (by assumption) ?_) | (refine takeS_yes (v := ?_) 9 rfl (by kernel_rfl) (by kernel_rfl) (by kernel_rfl) (fun _ _ _ h => h) (by rfl) (by assumption) ?_ ?_; rotate_left; focus (intro wS hSw; have q0 := hSw; go_simp; first | done | with_reducible rfl)))
  (try simp only [Act.put, List.setIfInBounds_toArray, List.set_cons_zero, List.set_cons_succ])
  (first | (refine takeS_no 10 rfl (by kernel_rfl) (by kernel_rfl) (by kernel_rfl) (fun _ _ _ h => h) (by rfl) (by assumption) ?_) | (refine takeS_yes (v := ?_) 10 rfl (by kernel_rfl) (by kernel_rfl) (by kernel_rfl) (fun _ _ _ h => h) (by rfl) (by assumption) ?_ ?_; rotate_left; focus (intro wS hSw; have q0 := hSw; go_simp; first | done | with_reducible rfl)))
  (try simp only [Act.put, List.setIfInBounds_toArray, List.set_cons_zero, List.set_cons_succ])
  (first | (refine takeS_no 11 rfl (by kernel_rfl) (by kernel_rfl) (by kernel_rfl) (fun _ _ _ h => h) (by rfl) (by assumption) ?_) | (refine takeS_yes (v := ?_) 11 rfl (by kernel_rfl) (by kernel_rfl) (by kernel_rfl) (fun _ _ _ h => h) (by rfl) (by assumption) ?_ ?_; rotate_left; focus (intro wS hSw; have q0 := hSw; go_simp; first | done | with_reducible rfl)))
  (try simp only [Act.put, List.setIfInBounds_toArray, List.set_cons_zero, List.set_cons_succ])
  have hbd : Below w.heap.size w w2.drew := HB2.out.drew
  have e2' : w2.drew.cell? ⟨rb, 2, none⟩ = some (.slice a n c) := e2
  generalize w2.drew = wd at hS0 hbd e2' ⊢
  clear e0 e2
  have HBD := Lib.hid hbd
  have e2o : ∀ o, (wd.alloc o).cell? ⟨rb, 2, none⟩ = some (.slice a n c) := fun o => (World.cell?_alloc_lt wd o _ (by have := hbd.size; show rb < wd.heap.size; omega)).trans e2'
  have hSo : ∀ o, (wd.alloc o).cell? ⟨rb, 0, none⟩ = some (.int .i64 base) := fun o => (World.cell?_alloc_lt wd o _ (by have := hbd.size; show rb < wd.heap.size; omega)).trans hS0
  refine takeS_two 1 5 rfl rfl (by kernel_rfl) (by rfl) (by rfl) (fun K hK => ?_) (fun K hK => ?_)
  rotate_left
  focus
    go_simp
    (skip)
    refine hK.out _ _ (by assumption) ?_
    clear hK K
    (try simp only [Act.put, List.setIfInBounds_toArray, List.set_cons_zero, List.set_cons_succ])
    (first | (refine takeS_no 12 rfl (by kernel_rfl) (by kernel_rfl) (by kernel_rfl) (fun _ _ _ h => h) (by rfl) (by assumption) ?_) | (refine takeS_yes (v := ?_) 12 rfl (by kernel_rfl) (by kernel_rfl) (by kernel_rfl) (fun _ _ _ h => h) (by rfl) (by assumption) ?_ ?_; rotate_left; focus (intro wS hSw; have q0 := hSw; go_simp; first | done | with_reducible rfl)))
    (try simp only [Act.put, List.setIfInBounds_toArray, List.set_cons_zero, List.set_cons_succ])
    refine takeS_alone 1 rfl (by kernel_rfl) (by rfl) (fun K hK => ?_)
    go_simp
    (have hS1 := hSo (.cells #[] 59))
    refine hK.out _ _ (by assumption) ?_
    clear hK K
    (try simp only [Act.put, List.setIfInBounds_toArray, List.set_cons_zero, List.set_cons_succ])
  rotate_left
  focus
    go_simp
    (have hS1 := hSo (.cells #[] 59))
    refine hK.out _ _ (by assumption) ?_
    clear hK K
    (try simp only [Act.put, List.setIfInBounds_toArray, List.set_cons_zero, List.set_cons_succ])
    refine takeS_alone 5 rfl (by kernel_rfl) (by rfl) (fun K hK => ?_)
    go_simp
    (skip)
    refine hK.out _ _ (by assumption) ?_
    clear hK K
    (try simp only [Act.put, List.setIfInBounds_toArray, List.set_cons_zero, List.set_cons_succ])
    (first | (refine takeS_no 12 rfl (by kernel_rfl) (by kernel_rfl) (by kernel_rfl) (fun _ _ _ h => h) (by rfl) (by assumption) ?_) | (refine takeS_yes (v := ?_) 12 rfl (by kernel_rfl) (by kernel_rfl) (by kernel_rfl) (fun _ _ _ h => h) (by rfl) (by assumption) ?_ ?_; rotate_left; focus (intro wS hSw; have q0 := hSw; go_simp; first | done | with_reducible rfl)))
    (try simp only [Act.put, List.setIfInBounds_toArray, List.set_cons_zero, List.set_cons_succ])
  all_goals
  all_goals (clear e2o hSo e2' hsl w1)
  all_goals (have hzs : wd.heap.size + 1 ≤ (wd.alloc (.cells #[] 59)).heap.size := by simp)
  all_goals (have hown0 := World.ownsRow_lit (base := wd.heap.size) (e := 59) (size := 9) wd #[] 0 (Nat.le_refl _) (by unfold maxLen; omega) rfl)
  all_goals (have hba : Below w.heap.size w (wd.alloc (.cells #[] 59)) := HBD.out.alloc HBD.out.size _)
  all_goals (generalize hwa : wd.alloc (.cells #[] 59) = wa at hown0 hba hzs hS1 ⊢)
  all_goals (clear hwa hS0)
  all_goals (have HBA := Lib.hid hba; have HO0 := Lib.hid hown0; clear hba hown0)
  all_goals
    refine takeS_alone 13 rfl (by kernel_rfl) (by rfl) (fun K hK => ?_)
    skip
    (refine oper_append_rows Try.underlying22 infoEn rfl (by decide) enCells_len enCells_one (.tmp 16) (.tmp 27) rfl wd.heap.size (.slice (some ⟨wd.heap.size, 0, none⟩) 0 0) 0 [] rfl HO0.out (subA a c k 9) (n - k) (c - k) (es.drop k) HLEN.out rfl w.heap.size (HIN.out.below enSub_kept HBA.out (Nat.le_refl _)) HNIL.out (by unfold maxLen; omega) (by omega) (by omega) ?_; intro v5 w5 hown5 hg5; rw [Nat.zero_add, List.nil_append] at hown5; obtain ⟨a5, k5, rfl⟩ := row_slice hown5; have hb5 : Below w.heap.size w w5 := HBA.out.grown hg5 HBA.out.size (fun q hq => by { cases hq; exact HBD.out.size }); have hk5 := (hb5.block rb hrl).trans HL.out.blk; have d0 := Go.Joins.cell_of_block hk5 0; have d2 := Go.Joins.cell_of_block hk5 2; have f2 := Go.Joins.unfrozen_of_block hk5 2; have hput := HL.out.put (es2 := es.drop k) (xs := []) hb5 hB (Go.Joins.ownsRow_le (by { rw [HLEN.out]; exact hown5 }) HBD.out.size) (fun e he => HL.out.sub e (List.mem_of_mem_drop he)) (fun e he => HL.out.nils e (List.mem_of_mem_drop he)) (fun e he => HL.out.apart e (List.mem_of_mem_drop he)) (fun e he => Or.inl (List.mem_of_mem_drop he)); have HPUT := Lib.hid hput; clear hown5 hg5 hb5 hk5 hput)
    refine hK.out _ _ (by assumption) ?_
    clear hK K
    (try simp only [Act.put, List.setIfInBounds_toArray, List.set_cons_zero, List.set_cons_succ])
    (first | (refine takeS_no 14 rfl (by kernel_rfl) (by kernel_rfl) (by kernel_rfl) (fun _ _ _ h => h) (by rfl) (by assumption) ?_) | (refine takeS_yes (v := ?_) 14 rfl (by kernel_rfl) (by kernel_rfl) (by kernel_rfl) (fun _ _ _ h => h) (by rfl) (by assumption) ?_ ?_; rotate_left; focus (intro wS hSw; have q0 := hSw; go_simp; first | done | with_reducible rfl)))
    (try simp only [Act.put, List.setIfInBounds_toArray, List.set_cons_zero, List.set_cons_succ])
    (first | (refine takeS_no 15 rfl (by kernel_rfl) (by kernel_rfl) (by kernel_rfl) (fun _ _ _ h => h) (by rfl) (by assumption) ?_) | (refine takeS_yes (v := ?_) 15 rfl (by kernel_rfl) (by kernel_rfl) (by kernel_rfl) (fun _ _ _ h => h) (by rfl) (by assumption) ?_ ?_; rotate_left; focus (intro wS hSw; have q0 := hSw; go_simp; first | done | with_reducible rfl)))
    (try simp only [Act.put, List.setIfInBounds_toArray, List.set_cons_zero, List.set_cons_succ])
    refine takeS_alone 16 rfl (by kernel_rfl) (by rfl) (fun K hK => ?_)
    go_simp
    (generalize w5.setCell ⟨rb, 2, none⟩ (.slice a5 (n - k) k5) = w6 at HPUT ⊢; have hS6 := HPUT.out.1.c0; clear d0 d2 f2)
    refine hK.out _ _ (by assumption) ?_
    clear hK K
    (try simp only [Act.put, List.setIfInBounds_toArray, List.set_cons_zero, List.set_cons_succ])
    refine wpAnyH_done (by kernel_rfl) ?_ _
    simp only [Exit.then]
    rename (∀ (_ : Act) (_ : World), _ → _) => hK0
    refine hK0 _ _ ?_
    clear hK0
    have e0 := HPUT.out.1.c0
    have e1 := HPUT.out.1.c1
    have f0 := Go.Joins.unfrozen_of_block HPUT.out.1.blk 0
    have f1 := Go.Joins.unfrozen_of_block HPUT.out.1.blk 1
    go_wp2_with fail
    go_ret
    obtain ⟨hp1, hp2, hp3⟩ := HPUT.out
    rw [HE.out] at hp2
    exact ⟨_, rfl, (hp1.set0 i).set1 t, (hp2.set 0 _).set 1 _, (hp3.setCell (p := ⟨rb, 0, none⟩) hp1.low _).setCell (p := ⟨rb, 1, none⟩) hp1.low _⟩
end Go.Proofs.Ytljfanhkbbfngaa
/- The document's log: Fit. Conditions: the log lies as its entries say; its numbers are not too great. -/
namespace Go.Proofs.Ytljfanhkbbfngaa
open Go.RowKit
set_option maxRecDepth 20000
theorem rfit_no (B rb : Nat) (base term : Int) (v : Value) (es : List En) (i t r : Int) (ok : Bool) (ms : Value) (w : World) (hr : termS base term (es.map En.plain) i = (r, ok)) (hno : ok = true → r ≠ t) (hL : RfAt w B rb base term v es) (hN : LogNums base es.length i) :
    Calls Try.prog 23 #[.pointer (some ⟨rb, 0, none⟩), .int .i64 i, .int .i64 t, ms] w fun e w' => e = .returned (.tuple #[.bool false, .int .i64 0]) ∧ Below w.heap.size w w' := by
  cases ok
  · go_enter Try.func23, Try.ntmps23
    go_wp2_with fail
    refine (rterm_any B rb base term v es i r false w hr hL hN).mono ?_
    rintro e w2 ⟨rfl, hp⟩
    clear hr hL hN hno
    go_wp2_with fail
    go_ret2
    exact ⟨rfl, hp⟩
  · have hne := hno rfl
    have dr : decide (r = t) = false := by simpa using hne
    clear hno
    go_enter Try.func23, Try.ntmps23
    go_wp2_with fail
    refine (rterm_any B rb base term v es i r true w hr hL hN).mono ?_
    rintro e w2 ⟨rfl, hp⟩
    clear hr hL hN
    go_wp2_with fail
    go_ret2
    exact ⟨rfl, hp⟩
set_option maxHeartbeats 8000000 in
theorem rfit_any (B rb : Nat) (base term : Int) (v : Value) (es : List En) (i t : Int) (ao : Option Addr) (m cap : Nat) (ms : List En) (k0 : Nat) (w : World) (es2 : List En) (r : Int) (hr : termS base term (es.map En.plain) i = (t, true)) (hkf : FitTo base term (es.map En.plain) i (ms.map En.plain) k0)
    (hes2 : es2 = if k0 = m then es else es.take (i - base + k0).toNat ++ ms.drop k0) (hrr : r = if k0 = m then 0 else i + 1 + k0) (hL : RfAt w B rb base term v es) (hN : LogNums base es.length i) (hi : i ≤ 1125899906842624) (hB : B ≤ w.heap.size) (hn : ms.length = m) (hx : EnsIn w w.heap.size ao ms) (hao : ao = none → cap = 0) (hcap : m ≤ cap) (hq : EnsArg ms) (ha : ∀ e ∈ ms, enK (fun g => g ≠ rb) e) (hnm : es.length + m ≤ 1000000) :
    Calls Try.prog 23 #[.pointer (some ⟨rb, 0, none⟩), .int .i64 i, .int .i64 t, .slice ao m cap] w (RPutAt B rb base term v es es2 ms (.tuple #[.bool true, .int .i64 r]) w) := by
  obtain ⟨a, c, hv⟩ := hL.form
  subst hv
  obtain ⟨k1, k2, k3⟩ := hkf
  rw [List.length_map, hn] at k1
  have hq0 : 0 ≤ i - base ∧ i - base ≤ es.length := by
    unfold termS at hr
    rw [List.length_map] at hr
    split at hr
    · omega
    · split at hr
      · omega
      · simp at hr
  have hqk : i - base + k0 ≤ es.length := by
    by_cases h0 : k0 = 0
    · omega
    · have hlt : k0 - 1 < (ms.map En.plain).length := by rw [List.length_map]; omega
      have := k2 (k0 - 1) _ (by omega) (List.getElem?_eq_getElem hlt)
      unfold termS at this
      rw [List.length_map] at this
      split at this
      · omega
      · split at this
        · omega
        · simp at this
  have hsub : ∀ e ∈ ms, enSub w w.heap.size e := fun e he => by
    rcases hx with h | ⟨b, off, _, _, h3⟩
    · rw [h] at he; cases he
    · obtain ⟨q, hq⟩ := List.getElem?_of_mem he
      exact (h3 q e hq).2
  have HN := Lib.hid hN
  obtain ⟨h1, h2, h3, h4, h5⟩ := hN
  have HL := Lib.hid hL
  have HR := Lib.hid hr
  have HSAME := Lib.hid (show ∀ j x, j < k0 → ms[j]? = some x → termS base term (es.map En.plain) (i + 1 + j) = (x.term, true) from fun j x hj hx => k2 j x.plain hj (by rw [List.getElem?_map, hx]; rfl))
  have HNOT := Lib.hid (show ∀ x, ms[k0]? = some x → ∀ r ok, termS base term (es.map En.plain) (i + 1 + k0) = (r, ok) → ok = true → r ≠ x.term from fun x hx => k3 x.plain (by rw [List.getElem?_map, hx]; rfl))
  have HSUB := Lib.hid hsub
  have HXN := Lib.hid hn
  have HX := Lib.hid hx
  have HA := Lib.hid hao
  have HQ := Lib.hid hq
  have HK := Lib.hid ha
  have HES := Lib.hid hes2
  have HRR := Lib.hid hrr
  have hrl := hL.lt
  clear hL hr k2 k3 hsub hn hx hao hq ha hes2 hrr
  go_enter Try.func23, Try.ntmps23
  go_wp2_with fail
  refine (rterm_any B rb base term _ es i t true w HR.out HL.out HN.out).mono ?_
  rintro e w2 ⟨rfl, hp⟩
  go_wp2_with fail
  go_loopw [12, 13, 14, 15] (fun i _ _ _ wr => ∃ k : Nat, k ≤ k0 ∧ i = .int .i64 k ∧ Below w.heap.size w wr) (fun i _ _ _ _ => m - (intOf i).toNat)
  case atStart => exact ⟨0, by omega, rfl, hp⟩
  case round =>
    clear hp
    obtain ⟨k, hk1, rfl, hbel⟩ := hrel
    have hsw := hbel.size
    by_cases hlt : k < m
    · have hkx : ms[k]? = some (ms[k]'(by rw [HXN.out]; exact hlt)) := List.getElem?_eq_getElem _
      obtain ⟨b, off, hao, hb, hc, _⟩ := HX.out.at hkx
      have hT : ∀ r ok, termS base term (es.map En.plain) (i + 1 + k) = (r, ok) → (k < k0 → r = (ms[k]'(by rw [HXN.out]; exact hlt)).term ∧ ok = true) ∧ (k = k0 → ok = true → r ≠ (ms[k]'(by rw [HXN.out]; exact hlt)).term) := by
        intro r ok he
        constructor
        · intro h
          rw [HSAME.out k _ h hkx] at he
          simpa [eq_comm] using he
        · intro h ht
          subst h
          exact HNOT.out _ hkx r ok he ht
      obtain ⟨t1, ht1⟩ : ∃ t1, (ms[k]'(by rw [HXN.out]; exact hlt)).term = t1 := ⟨_, rfl⟩
      have c0 : ∀ w', Below w.heap.size w w' → w'.cell? ⟨b, off + k * 9, none⟩ = some (.int .i64 t1) := fun w' h => by
        rw [← ht1]
        exact (h.cell (p := ⟨b, _, none⟩) hb).trans (hc 0 (by decide))
      rw [ht1] at hT
      rw [termS_at (show i + 1 + (k : Int) ≠ base by omega)] at hT
      obtain ⟨⟨p, is⟩, hpp⟩ : ∃ q, atS base (es.map En.plain) (i + 1 + k) = q := ⟨_, rfl⟩
      rw [hpp] at hT
      have hT2 := hT _ _ rfl
      dsimp only at hT2
      have HT2 := Lib.hid hT2
      have HPP := Lib.hid hpp
      have HC0 := Lib.hid c0
      have i1 : (k : Int) < m := by omega
      have w1 : IntKind.i64.wrap (i + 1) = i + 1 := IntWalk.i64_in _ (by omega)
      have w2' : IntKind.i64.wrap (i + 1 + (k : Int)) = i + 1 + k := IntWalk.i64_in _ (by omega)
      have hnums : LogNums base es.length (i + 1 + k) := ⟨h1, h2, by omega, by omega, h5⟩
      have HNUM := Lib.hid hnums
      subst hao
      clear hT hT2 hpp hc hkx ht1 hnums c0
      go_wp2_with fail
      refine (rat_any B rb base term _ es (i + 1 + k) _ wr HPP.out (HL.out.below hbel (Nat.le_refl _)) HNUM.out).mono ?_
      rintro e w4 ⟨x, rfl, hxp, _, _, hp4⟩
      have hxt : x.term = p.term := congrArg EnP.term hxp
      obtain ⟨x0, x1, x2, x3, ck, text, xao, args, xac, num, xvo, vs, xvc⟩ := x
      dsimp only at hxt
      dsimp only [enVal]
      have hb4 : Below w.heap.size w (w4.alloc (.cells #[.int .i64 x0, .int .u8 x1, .int .i64 x2, .int .i64 x3, .int .u8 ck, .string text, .slice xao args.length xac, .int .i64 num, .slice xvo vs.length xvc] 59)) := (hbel.trans (hp4.mono hsw)).alloc (Nat.le_trans hsw hp4.size) _
      have hkb := heap_alloc_new w4 (.cells #[.int .i64 x0, .int .u8 x1, .int .i64 x2, .int .i64 x3, .int .u8 ck, .string text, .slice xao args.length xac, .int .i64 num, .slice xvo vs.length xvc] 59)
      rw [← hxt] at HT2
      clear hxp hxt hp4 hbel hsw
      go_upto_region 9 with fail
      generalize w4.alloc (.cells #[.int .i64 x0, .int .u8 x1, .int .i64 x2, .int .i64 x3, .int .u8 ck, .string text, .slice xao args.length xac, .int .i64 num, .slice xvo vs.length xvc] 59) = w5 at hb4 hkb ⊢
      have d0 := Go.Joins.cell_of_block hkb 0
      have d1 := HC0.out w5 hb4
      clear hkb
      by_cases hk0 : k < k0
      · obtain ⟨hh1, rfl⟩ := HT2.out.1 hk0
        rw [hh1] at d0
        clear hh1
        go_quiet (fail)
        go_wp2_with fail
        go_roundw
        case rel => exact ⟨k + 1, by omega, by go_num, below_drewN hb4 _⟩
        case measure => simp [intOf]; omega
      · obtain rfl : k = k0 := by omega
        cases is
        rotate_left
        focus
          have dn : ¬ x0 = t1 := HT2.out.2 rfl rfl
          have dr : decide (x0 = t1) = false := by simpa using dn
          have db : (x0 == t1) = false := by simpa using dn
          go_quiet (fail)
        rotate_left
        focus
          have dn : True := trivial
          have dr : True := trivial
          have db : True := trivial
          go_quiet (fail)
        all_goals (clear dn dr d0 d1)
        all_goals (have hbq : Below w.heap.size w (w5.drewN nq) := below_drewN hb4 _)
        all_goals (generalize w5.drewN nq = w6 at hbq ⊢)
        all_goals (have HB6 := Lib.hid hbq; have e0 : w6.cell? ⟨rb, 0, none⟩ = some (.int .i64 base) := (hbq.cell (p := ⟨rb, 0, none⟩) hrl).trans HL.out.c0; have e2 : w6.cell? ⟨rb, 2, none⟩ = some (.slice a es.length c) := (hbq.cell (p := ⟨rb, 2, none⟩) hrl).trans HL.out.c2)
        all_goals (obtain ⟨z, hz⟩ : ∃ z : Nat, i - base + k = z := ⟨(i - base + k).toNat, by omega⟩)
        all_goals (have w3 : IntKind.i64.wrap (i + 1 + (k : Int) - base) = z + 1 := by { rw [IntWalk.i64_in _ (by omega)]; omega })
        all_goals (have w5' : IntKind.i64.wrap ((z : Int) + 1 - 1) = z := by { rw [IntWalk.i64_in _ (by omega)]; omega })
        all_goals (have w6' : IntKind.i64.wrap (z : Int) = z := IntWalk.i64_in _ (by omega))
        all_goals (obtain ⟨n, hn0⟩ : ∃ n, es.length = n := ⟨_, rfl⟩)
        all_goals (have HZ := Lib.hid hz; have HEN := Lib.hid hn0)
        all_goals (have hcn : n ≤ c := by { have := own_capG HL.out.row; omega })
        all_goals (rw [hn0] at e2 hnm h5)
        all_goals (have hzn : z ≤ n := by omega)
        all_goals (have hsl1 : ∀ w', (Instr.sliceAt 22 (.slice a n c) none (some (.int .i64 (z : Int))) none).run Try.prog w' = .ok (.slice a z c) w' := fun w' => by { have h := run_sub_h sliceEn sizeEn a n c z (by omega) .i64 (z : Int) rfl w'; rwa [row_addr HL.out.row c] at h })
        all_goals (have hsl2 : ∀ w', (Instr.sliceAt 22 (.slice (some ⟨b, off, none⟩) m cap) (some (.int .i64 (k : Int))) none none).run Try.prog w' = .ok (.slice (subA (some ⟨b, off, none⟩) cap k 9) (m - k) (cap - k)) w' := fun w' => run_sub_l sliceEn sizeEn _ m cap k (by omega) .i64 k rfl w')
        all_goals (clear hz hn0 w1 w2' hq0 hqk)
        all_goals (have hin0 : EnsIn w w.heap.size a es := own_rowsIn enCells_len (sub := enSub) rfl HL.out.row (fun x hx => HL.out.sub x hx))
        all_goals (have HIN1 := Lib.hid (show EnsIn w w.heap.size a (es.take z) from RowsIn.take z hin0))
        all_goals (have HIN2 := Lib.hid (show EnsIn w w.heap.size (subA (some ⟨b, off, none⟩) cap k 9) (ms.drop k) from (by { have h := EnsIn.sub HX.out k (ms.length - k) (by rw [HXN.out]; exact hcap) (by have := HXN.out; omega); rwa [List.take_of_length_le (by simp)] at h })))
        all_goals (have HNL1 := Lib.hid (own_none HL.out.row))
        all_goals (have HNL2 := Lib.hid (show subA (some ⟨b, off, none⟩) cap k 9 = none → cap - k = 0 from fun h => by { have := subA_eq_none h; cases this }))
        all_goals (have HLN1 := Lib.hid (show (es.take z).length = z by { rw [List.length_take, HEN.out]; omega }))
        all_goals (have HLN2 := Lib.hid (show (ms.drop k).length = m - k by rw [List.length_drop, HXN.out]))
        all_goals (clear hin0)
        all_goals (go_upto_region 10 with fail)
        all_goals (clear db)
        all_goals
          refine heldS_begin (fun (w' : World) => w'.cell? ⟨rb, 0, none⟩ = some (.int .i64 base)) (by kernel_rfl) (e0) ?_
          intro hS0
          (first | (refine takeS_no 0 rfl (by kernel_rfl) (by kernel_rfl) (by kernel_rfl) (fun _ _ _ h => h) (by rfl) (by assumption) ?_) | (refine takeS_yes (v := ?_) 0 rfl (by kernel_rfl) (by kernel_rfl) (by kernel_rfl) (fun _ _ _ h => h) (by rfl) (by assumption) ?_ ?_; rotate_left; focus (intro wS hSw; have q0 := hSw; go_simp; first | done | with_reducible rfl)))
          (try simp only [Act.put, List.setIfInBounds_toArray, List.set_cons_zero, List.set_cons_succ])
          (first | (refine takeS_no 2 rfl (by kernel_rfl) (by kernel_rfl) (by kernel_rfl) (fun _ _ _ h => h) (by rfl) (by assumption) ?_) | (refine takeS_yes (v := ?_) 2 rfl (by kernel_rfl) (by kernel_rfl) (by kernel_rfl) (fun _ _ _ h => h) (by rfl) (by assumption) ?_ ?_; rotate_left; focus (intro wS hSw; have q0 := hSw; go_simp; first | done | with_reducible rfl)))
          (try simp only [Act.put, List.setIfInBounds_toArray, List.set_cons_zero, List.set_cons_succ])
          (first | (refine takeS_no 3 rfl (by kernel_rfl) (by kernel_rfl) (by kernel_rfl) (fun _ _ _ h => h) (by rfl) (by assumption) ?_) | (refine takeS_yes (v := ?_) 3 rfl (by kernel_rfl) (by kernel_rfl) (by kernel_rfl) (fun _ _ _ h => h) (by rfl) (by assumption) ?_ ?_; rotate_left; focus (intro wS hSw; have q0 := hSw; go_simp; first | done | with_reducible rfl)))
          (try simp only [Act.put, List.setIfInBounds_toArray, List.set_cons_zero, List.set_cons_succ])
          (first | (refine takeS_no 4 rfl (by kernel_rfl) (by kernel_rfl) (by kernel_rfl) (fun _ _ _ h => h) (by rfl) (by assumption) ?_) | (refine takeS_yes (v := ?_) 4 rfl (by kernel_rfl) (by kernel_rfl) (by kernel_rfl) (fun _ _ _ h => h) (by rfl) (by assumption) ?_ ?_; rotate_left; focus (intro wS hSw; have q0 := hSw; go_simp; first | done | with_reducible rfl)))
          (try simp only [Act.put, List.setIfInBounds_toArray, List.set_cons_zero, List.set_cons_succ])
          (first | (refine takeS_no 6 rfl (by kernel_rfl) (by kernel_rfl) (by kernel_rfl) (fun _ _ _ h => h) (by rfl) (by assumption) ?_) | (refine takeS_yes (v := ?_) 6 rfl (by kernel_rfl) (by kernel_rfl) (by kernel_rfl) (fun _ _ _ h => h) (by rfl) (by assumption) ?_ ?_; rotate_left; focus (intro wS hSw; have q0 := hSw; go_simp; first | done | with_reducible rfl)))
          (try simp only [Act.put, List.setIfInBounds_toArray, List.set_cons_zero, List.set_cons_succ])
          (first | (refine takeS_no 7 rfl (by kernel_rfl) (by kernel_rfl) (by kernel_rfl) (fun _ _ _ h => h) (by rfl) (by assumption) ?_) | (refine takeS_yes (v := ?_) 7 rfl (by kernel_rfl) (by kernel_rfl) (by kernel_rfl) (fun _ _ _ h => h) (by rfl) (by assumption) ?_ ?_; rotate_left; focus (intro wS hSw; have q0 := hSw; go_simp; first | done | with_reducible rfl)))
          (try simp only [Act.put, List.setIfInBounds_toArray, List.set_cons_zero, List.set_cons_succ])
          (first | (refine takeS_no 8 rfl (by kernel_rfl) (by kernel_rfl) (by kernel_rfl) (fun _ _ _ h => h) (by rfl) (by assumption) ?_) | (refine takeS_yes (v := ?_) 8 rfl (by kernel_rfl) (by kernel_rfl) (by kernel_rfl) (fun _ _ _ h => h) (by rfl) (by assumption) ?_ ?_; rotate_left; focus (intro wS hSw; have q0 := hSw; go_simp; first | done | with_reducible rfl)))
          (try simp only [Act.put, List.setIfInBounds_toArray, List.set_cons_zero, List.set_cons_succ])
          (first | (refine takeS_no 9 rfl (by kernel_rfl) (by kernel_rfl) (by kernel_rfl) (fun _ _ _ h => h) (by rfl) (by assumption) ?_) | (refine takeS_yes (v := ?_) 9 rfl (by kernel_rfl) (by kernel_rfl) (by kernel_rfl) (fun _ _ _ h => h) (by rfl) (by assumption) ?_ ?_; rotate_left; focus (intro wS hSw; have q0 := hSw; go_simp; first | done | with_reducible rfl)))
          (try simp only [Act.put, List.setIfInBounds_toArray, List.set_cons_zero, List.set_cons_succ])
          (first | (refine takeS_no 10 rfl (by kernel_rfl) (by kernel_rfl) (by kernel_rfl) (fun _ _ _ h => h) (by rfl) (by assumption) ?_) | (refine takeS_yes (v := ?_) 10 rfl (by kernel_rfl) (by kernel_rfl) (by kernel_rfl) (fun _ _ _ h => h) (by rfl) (by assumption) ?_ ?_; rotate_left; focus (intro wS hSw; have q0 := hSw; go_simp; first | done | with_reducible rfl)))
          (try simp only [Act.put, List.setIfInBounds_toArray, List.set_cons_zero, List.set_cons_succ])
          (first | (refine takeS_no 11 rfl (by kernel_rfl) (by kernel_rfl) (by kernel_rfl) (fun _ _ _ h => h) (by rfl) (by assumption) ?_) | (refine takeS_yes (v := ?_) 11 rfl (by kernel_rfl) (by kernel_rfl) (by kernel_rfl) (fun _ _ _ h => h) (by rfl) (by assumption) ?_ ?_; rotate_left; focus (intro wS hSw; have q0 := hSw; go_simp; first | done | with_reducible rfl)))
          (try simp only [Act.put, List.setIfInBounds_toArray, List.set_cons_zero, List.set_cons_succ])
          (first | (refine takeS_no 12 rfl (by kernel_rfl) (by kernel_rfl) (by kernel_rfl) (fun _ _ _ h => h) (by rfl) (by assumption) ?_) | (refine takeS_yes (v := ?_) 12 rfl (by kernel_rfl) (by kernel_rfl) (by kernel_rfl) (fun _ _ _ h => h) (by rfl) (by assumption) ?_ ?_; rotate_left; focus (intro wS hSw; have q0 := hSw; go_simp; first | done | with_reducible rfl)))
          (try simp only [Act.put, List.setIfInBounds_toArray, List.set_cons_zero, List.set_cons_succ])
          (first | (refine takeS_no 15 rfl (by kernel_rfl) (by kernel_rfl) (by kernel_rfl) (fun _ _ _ h => h) (by rfl) (by assumption) ?_) | (refine takeS_yes (v := ?_) 15 rfl (by kernel_rfl) (by kernel_rfl) (by kernel_rfl) (fun _ _ _ h => h) (by rfl) (by assumption) ?_ ?_; rotate_left; focus (intro wS hSw; have q0 := hSw; go_simp; first | done | with_reducible rfl)))
          (try simp only [Act.put, List.setIfInBounds_toArray, List.set_cons_zero, List.set_cons_succ])
          (first | (refine takeS_no 16 rfl (by kernel_rfl) (by kernel_rfl) (by kernel_rfl) (fun _ _ _ h => h) (by rfl) (by assumption) ?_) | (refine takeS_yes (v := ?_) 16 rfl (by kernel_rfl) (by kernel_rfl) (by kernel_rfl) (fun _ _ _ h => h) (by rfl) (by assumption) ?_ ?_; rotate_left; focus (intro wS hSw; have q0 := hSw; go_simp; first | done | with_reducible rfl)))
          (try simp only [Act.put, List.setIfInBounds_toArray, List.set_cons_zero, List.set_cons_succ])
          (first | (refine takeS_no 17 rfl (by kernel_rfl) (by kernel_rfl) (by kernel_rfl) (fun _ _ _ h => h) (by rfl) (by assumption) ?_) | (refine takeS_yes (v := ?_) 17 rfl (by kernel_rfl) (by kernel_rfl) (by kernel_rfl) (fun _ _ _ h => h) (by rfl) (by assumption) ?_ ?_; rotate_left; focus (intro wS hSw; have q0 := hSw; go_simp; first | done | with_reducible rfl)))
          (try simp only [Act.put, List.setIfInBounds_toArray, List.set_cons_zero, List.set_cons_succ])
          have hbd : Below w.heap.size w w6.drew := HB6.out.drew
          have e2' : w6.drew.cell? ⟨rb, 2, none⟩ = some (.slice a n c) := e2
          generalize w6.drew = wd at hS0 hbd e2' ⊢
          clear e0 e2
          have HBD := Lib.hid hbd
          have e2o : ∀ o, (wd.alloc o).cell? ⟨rb, 2, none⟩ = some (.slice a n c) := fun o => (World.cell?_alloc_lt wd o _ (by have := hbd.size; show rb < wd.heap.size; omega)).trans e2'
          have hSo : ∀ o, (wd.alloc o).cell? ⟨rb, 0, none⟩ = some (.int .i64 base) := fun o => (World.cell?_alloc_lt wd o _ (by have := hbd.size; show rb < wd.heap.size; omega)).trans hS0
          refine takeS_two 1 5 rfl rfl (by kernel_rfl) (by rfl) (by rfl) (fun K hK => ?_) (fun K hK => ?_)
          rotate_left
          focus
            go_simp
            (skip)
            refine hK.out _ _ (by assumption) ?_
            clear hK K
            (try simp only [Act.put, List.setIfInBounds_toArray, List.set_cons_zero, List.set_cons_succ])
            (first | (refine takeS_no 13 rfl (by kernel_rfl) (by kernel_rfl) (by kernel_rfl) (fun _ _ _ h => h) (by rfl) (by assumption) ?_) | (refine takeS_yes (v := ?_) 13 rfl (by kernel_rfl) (by kernel_rfl) (by kernel_rfl) (fun _ _ _ h => h) (by rfl) (by assumption) ?_ ?_; rotate_left; focus (intro wS hSw; have q0 := hSw; go_simp; first | done | with_reducible rfl)))
            (try simp only [Act.put, List.setIfInBounds_toArray, List.set_cons_zero, List.set_cons_succ])
            refine takeS_alone 1 rfl (by kernel_rfl) (by rfl) (fun K hK => ?_)
            go_simp
            (have hS1 := hSo (.cells #[] 59))
            refine hK.out _ _ (by assumption) ?_
            clear hK K
            (try simp only [Act.put, List.setIfInBounds_toArray, List.set_cons_zero, List.set_cons_succ])
          rotate_left
          focus
            go_simp
            (have hS1 := hSo (.cells #[] 59))
            refine hK.out _ _ (by assumption) ?_
            clear hK K
            (try simp only [Act.put, List.setIfInBounds_toArray, List.set_cons_zero, List.set_cons_succ])
            refine takeS_alone 5 rfl (by kernel_rfl) (by rfl) (fun K hK => ?_)
            go_simp
            (skip)
            refine hK.out _ _ (by assumption) ?_
            clear hK K
            (try simp only [Act.put, List.setIfInBounds_toArray, List.set_cons_zero, List.set_cons_succ])
            (first | (refine takeS_no 13 rfl (by kernel_rfl) (by kernel_rfl) (by kernel_rfl) (fun _ _ _ h => h) (by rfl) (by assumption) ?_) | (refine takeS_yes (v := ?_) 13 rfl (by kernel_rfl) (by kernel_rfl) (by kernel_rfl) (fun _ _ _ h => h) (by rfl) (by assumption) ?_ ?_; rotate_left; focus (intro wS hSw; have q0 := hSw; go_simp; first | done | with_reducible rfl)))
            (try simp only [Act.put, List.setIfInBounds_toArray, List.set_cons_zero, List.set_cons_succ])
          all_goals
          all_goals (clear e2o hSo e2' hsl1 hsl2 w3 w5' w6')
          all_goals (have hzs : wd.heap.size + 1 ≤ (wd.alloc (.cells #[] 59)).heap.size := by simp)
          all_goals (have hown0 := World.ownsRow_lit (base := wd.heap.size) (e := 59) (size := 9) wd #[] 0 (Nat.le_refl _) (by unfold maxLen; omega) rfl)
          all_goals (have hba : Below w.heap.size w (wd.alloc (.cells #[] 59)) := HBD.out.alloc HBD.out.size _)
          all_goals (generalize hwa : wd.alloc (.cells #[] 59) = wa at hown0 hba hzs hS1 ⊢)
          all_goals (clear hwa hS0)
          all_goals (have HBA := Lib.hid hba; have HO0 := Lib.hid hown0; clear hba hown0)
          all_goals
            refine takeS_alone 14 rfl (by kernel_rfl) (by rfl) (fun K hK => ?_)
            skip
            (refine oper_append_rows Try.underlying22 infoEn rfl (by decide) enCells_len enCells_one (.tmp 57) (.tmp 69) rfl wd.heap.size (.slice (some ⟨wd.heap.size, 0, none⟩) 0 0) 0 [] rfl HO0.out a z c (es.take z) HLN1.out rfl w.heap.size (HIN1.out.below enSub_kept HBA.out (Nat.le_refl _)) HNL1.out (by unfold maxLen; omega) (by omega) (by omega) ?_; intro v7 w7 hown7 hg7; rw [Nat.zero_add, List.nil_append] at hown7; obtain ⟨a7, k7, rfl⟩ := row_slice hown7; have hb7 : Below w.heap.size w w7 := HBA.out.grown hg7 HBA.out.size (fun q hq => by { cases hq; exact HBD.out.size }); have hz7 : wd.heap.size ≤ w7.heap.size := (by { have := hg7.size; omega }); have d7 := Go.Joins.cell_of_block ((hb7.block rb hrl).trans HL.out.blk) 0; have HB7 := Lib.hid hb7; have HO7 := Lib.hid hown7; clear hown7 hg7 hb7)
            refine hK.out _ _ (by assumption) ?_
            clear hK K
            (try simp only [Act.put, List.setIfInBounds_toArray, List.set_cons_zero, List.set_cons_succ])
            refine takeS_alone 18 rfl (by kernel_rfl) (by rfl) (fun K hK => ?_)
            skip
            (refine oper_append_rows Try.underlying22 infoEn rfl (by decide) enCells_len enCells_one (.tmp 70) (.tmp 73) rfl wd.heap.size (.slice a7 z k7) z ((es.take z).flatMap enCells) rfl HO7.out (subA (some ⟨b, off, none⟩) cap k 9) (m - k) (cap - k) (ms.drop k) HLN2.out rfl w.heap.size (HIN2.out.below enSub_kept HB7.out (Nat.le_refl _)) HNL2.out (by unfold maxLen; omega) (by omega) hz7 ?_; intro v8 w8 hown8 hg8; obtain ⟨a8, k8, rfl⟩ := row_slice hown8; have hb8 : Below w.heap.size w w8 := HB7.out.grown hg8 HB7.out.size (fun q hq => by { have h1 := (World.ownsRow.lt HO7.out q hq).1; have := HBD.out.size; omega }); have hk8 := (hb8.block rb hrl).trans HL.out.blk; have d8 := Go.Joins.cell_of_block hk8 0; have d9 := Go.Joins.cell_of_block hk8 2; have f9 := Go.Joins.unfrozen_of_block hk8 2; have hput := HL.out.put (es2 := es.take z ++ ms.drop k) (xs := ms) hb8 hB (Go.Joins.ownsRow_le (by { rw [List.length_append, HLN1.out, HLN2.out, List.flatMap_append]; exact hown8 }) HBD.out.size) (fun e he => (List.mem_append.1 he).elim (fun h => HL.out.sub e (List.mem_of_mem_take h)) (fun h => HSUB.out e (List.mem_of_mem_drop h))) (fun e he => (List.mem_append.1 he).elim (fun h => HL.out.nils e (List.mem_of_mem_take h)) (fun h => HQ.out.2 e (List.mem_of_mem_drop h))) (fun e he => (List.mem_append.1 he).elim (fun h => HL.out.apart e (List.mem_of_mem_take h)) (fun h => HK.out e (List.mem_of_mem_drop h))) (fun e he => (List.mem_append.1 he).imp List.mem_of_mem_take List.mem_of_mem_drop); have HPUT := Lib.hid hput; clear hown8 hg8 hb8 hk8 hput)
            refine hK.out _ _ (by assumption) ?_
            clear hK K
            (try simp only [Act.put, List.setIfInBounds_toArray, List.set_cons_zero, List.set_cons_succ])
            (first | (refine takeS_no 19 rfl (by kernel_rfl) (by kernel_rfl) (by kernel_rfl) (fun _ _ _ h => h) (by rfl) (by assumption) ?_) | (refine takeS_yes (v := ?_) 19 rfl (by kernel_rfl) (by kernel_rfl) (by kernel_rfl) (fun _ _ _ h => h) (by rfl) (by assumption) ?_ ?_; rotate_left; focus (intro wS hSw; have q0 := hSw; go_simp; first | done | with_reducible rfl)))
            (try simp only [Act.put, List.setIfInBounds_toArray, List.set_cons_zero, List.set_cons_succ])
            (first | (refine takeS_no 20 rfl (by kernel_rfl) (by kernel_rfl) (by kernel_rfl) (fun _ _ _ h => h) (by rfl) (by assumption) ?_) | (refine takeS_yes (v := ?_) 20 rfl (by kernel_rfl) (by kernel_rfl) (by kernel_rfl) (fun _ _ _ h => h) (by rfl) (by assumption) ?_ ?_; rotate_left; focus (intro wS hSw; have q0 := hSw; go_simp; first | done | with_reducible rfl)))
            (try simp only [Act.put, List.setIfInBounds_toArray, List.set_cons_zero, List.set_cons_succ])
            refine takeS_alone 21 rfl (by kernel_rfl) (by rfl) (fun K hK => ?_)
            go_simp
            (generalize w8.setCell ⟨rb, 2, none⟩ (.slice a8 (z + (m - k)) k8) = w9 at HPUT ⊢; have hS9 := HPUT.out.1.c0; clear d8 d9 f9)
            refine hK.out _ _ (by assumption) ?_
            clear hK K
            (try simp only [Act.put, List.setIfInBounds_toArray, List.set_cons_zero, List.set_cons_succ])
            refine wpAnyH_done (by kernel_rfl) ?_ _
            simp only [Exit.then]
            rename (∀ (_ : Act) (_ : World), _ → _) => hK0
            refine hK0 _ _ ?_
            clear hK0
            go_wp2_with fail
            go_ret2
            have he := HES.out
            have hrr := HRR.out
            rw [if_neg (by omega), HZ.out, Int.toNat_natCast] at he
            rw [if_neg (by omega)] at hrr
            subst he hrr
            obtain ⟨hp1, hp2, hp3⟩ := HPUT.out
            exact ⟨_, rfl, hp1, hp2, hp3⟩
    · have hk2 : k = m := by omega
      have hk3 : k0 = m := by omega
      subst hk2
      go_wp2_with fail
      go_ret2
      have he := HES.out
      have hrr := HRR.out
      rw [if_pos hk3] at he hrr
      subst he hrr
      exact ⟨_, rfl, HL.out.below hbel (Nat.le_refl _), RTurned.same hbel, hbel.mono hB⟩
end Go.Proofs.Ytljfanhkbbfngaa
