/- A peer stands, and its voters are asked. Conditions: it is new, it is one of more than one voter. -/
import Derived.Test.YtbimjggkiiadmaaGreatDoorGRaftNone7
import Derived.Test.YtbimjggkiiadmaaGreatDoorGRaftNone6
import Derived.Test.YtbimjggkiiadmaaGreatDoorGRaftNone5
import Derived.Maps.Own
import Derived.Maps.OwnOps
import Derived.Maps.OwnSet
import Derived.Maps.Views
import Derived.StillTailTactics
import Derived.Test.YtbimjggkiiadmaaGreatDoorGRaftNone4
set_option linter.unusedVariables false
set_option linter.unusedSimpArgs false
namespace Go.Proofs.YtbimjggkiiadmaaGreatDoor
open Go.RowKit
set_option maxRecDepth 20000
/-- Blocks that are no peer's, no log's and no entries' or letters' stay. -/
def KS (w w' : World) : Prop := ∀ (g : Nat) (cs : Array Value) (T : TypeId) (fr : Nat × Nat), w.heap[g]? = some (Obj.cells cs T fr) → T ≠ 52 → T ≠ 92 → T ≠ 34 → T ≠ 27 → w'.heap[g]? = w.heap[g]?
theorem KS.weak {w w' : World} (h : KS w w') : KB w w' := fun g cs T fr hg h1 h2 h3 h4 _ => h g cs T fr hg h1 h2 h3 h4
theorem KS.trans {a b c : World} (h : KS a b) (h' : KS b c) : KS a c := fun g cs T fr hg h1 h2 h3 h4 =>
  (h' g cs T fr ((h g cs T fr hg h1 h2 h3 h4).trans hg) h1 h2 h3 h4).trans (h g cs T fr hg h1 h2 h3 h4)
theorem KS.of_below {a b : World} (h : Below a.heap.size a b) : KS a b := fun g _ _ _ hg _ _ _ _ => h.block g (Array.getElem?_eq_some_iff.1 hg).1
theorem KS.grow {b c : World} {p : Nat} {cs : Array Value} {U : TypeId} {fr : Nat × Nat} (hp : b.heap[p]? = some (.cells cs U fr)) (hU : U = 52 ∨ U = 92 ∨ U = 34 ∨ U = 27) (hg : b.grownBy c (some p)) : KS b c := fun g cs' T fr' hq h1 h2 h3 h4 => by
  refine hg.block g (Array.getElem?_eq_some_iff.1 hq).1 (fun e => ?_)
  have e := Option.some.inj e
  subst e
  rw [hp] at hq
  simp only [Option.some.injEq, Obj.cells.injEq] at hq
  obtain ⟨_, rfl, _⟩ := hq
  rcases hU with e | e | e | e
  · exact h1 e
  · exact h2 e
  · exact h3 e
  · exact h4 e
/-- What stays: what lies below a bound, and blocks of other types. -/
def Stay (B : Nat) (w w' : World) : Prop := Below B w w' ∧ KS w w'
theorem Stay.trans {B : Nat} {a b c : World} (h : Stay B a b) (h' : Stay B b c) : Stay B a c := ⟨h.1.trans h'.1, h.2.trans h'.2⟩
theorem Stay.below {B : Nat} {a b : World} (h : Below a.heap.size a b) (hB : B ≤ a.heap.size) : Stay B a b := ⟨h.mono hB, KS.of_below h⟩
theorem Stay.grown {w w' : World} {B pb lb : Nat} {s : PP} {vs : List Int} {ps : List EnP} (h : PeerIs w B pb lb s vs ps) (hg : w.grownBy w' (some pb)) : Stay B w w' :=
  ⟨(Below.refl B w).grown hg (Nat.le_trans h.low (Nat.le_of_lt h.lt)) (fun q hq => by cases hq; exact h.low), KS.grow h.blk (Or.inl rfl) hg⟩
theorem Stay.set {w : World} {B pb lb : Nat} {s : PP} {vs : List Int} {ps : List EnP} (h : PeerIs w B pb lb s vs ps) (k : Nat) (u : Value) : Stay B w (w.setCell ⟨pb, k, none⟩ u) := Stay.grown h (grown_setL w ⟨pb, k, none⟩ u)
/-- The peer that has stood, its letters, its votes. -/
def PP.stood (first log vb v : Value) : PP := { PP.fresh 1 first log 0 0 with term := 1, voted := 1, role := 2, votes := vb, letters := v }
def StoodTo (xs : List Int) (first log : Value) (t : PP) (w : World) : Prop := ∃ vb v, t = .stood first log vb v ∧ ∃ g c cs fr, v = .slice (some ⟨g, 0, none⟩) xs.length c ∧ w.heap[g]? = some (Obj.cells cs 27 fr) ∧ ∀ k, k < xs.length → cs[k * 12 + 2]? = some (.int .i64 (xs.getD k 0))
theorem firm_stood (xs : List Int) (first log : Value) (t : PP) : Firm (StoodTo xs first log t) := by
  refine ⟨?_, ?_⟩
  · rintro w w' ⟨vb, v, h, g, c, cs, fr, h1, h2, h3⟩ hb
    exact ⟨vb, v, h, g, c, cs, fr, h1, (hb.block g (Array.getElem?_eq_some_iff.1 h2).1).trans h2, h3⟩
  · rintro w w' g' cs' fr' ⟨vb, v, h, g, c, cs, fr, h1, h2, h3⟩ hg hgr
    refine ⟨vb, v, h, g, c, cs, fr, h1, (hgr.block g (Array.getElem?_eq_some_iff.1 h2).1 (fun e => ?_)).trans h2, h3⟩
    have e := Option.some.inj e
    subst e
    rw [h2] at hg
    simp only [Option.some.injEq, Obj.cells.injEq] at hg
    exact absurd hg.2.1 (by decide)
set_option maxHeartbeats 8000000 in
theorem pstand_many {w : World} {B pb lb : Nat} {vs xs : List Int} {first log : Value} (wt lm : Int) (h : PeerIs w B pb lb (.fresh 1 first log wt lm) vs []) (hv : vs.length ≤ 1000) (hvs : votS vs [] = vs) (hen : enoughS vs [1] = false) (hxs : (vs.filter fun x => !(x == 1)) = xs) (h0 : 0 < xs.length ∧ xs.length ≤ 9 ∧ 0 < vs.length) :
    Calls Tryz.prog 33 #[.pointer (some ⟨pb, 0, none⟩)] w (EndIs fun w' => ∃ t, PeerIs w' B pb lb t vs [] ∧ StoodTo xs first log t w' ∧ Below B w w' ∧ KB w w') := by
  have HEN := Lib.hid hen
  have HXS := Lib.hid hxs
  clear hen hxs
  have HV := Lib.hid hv
  have HVS := Lib.hid hvs
  have hB : B ≤ w.heap.size := Nat.le_trans h.low (Nat.le_of_lt h.lt)
  have c0 : w.cell? ⟨pb, 0, none⟩ = some (.int .i64 0) := h.cells 0
  have f0 := h.soft 0
  have h1 := h.set 0 (.int .i64 1) { PP.fresh 1 first log wt lm with term := 1 } rfl rfl rfl
  have st1 := Stay.set h 0 (.int .i64 1)
  clear h hv hvs
  go_enter Tryz.func33, Tryz.ntmps33
  go_upto_region 1 with fail
  generalize w.setCell ⟨pb, 0, none⟩ (.int .i64 1) = w1 at h1 st1 ⊢
  clear c0 f0
  have c1 : w1.cell? ⟨pb, 38, none⟩ = some (.int .i64 1) := h1.cells 38
  have c2 : w1.cell? ⟨pb, 1, none⟩ = some (.int .i64 0) := h1.cells 1
  have f1 := h1.soft 1
  have h2 := h1.set 1 (.int .i64 1) { PP.fresh 1 first log wt lm with term := 1, voted := 1 } rfl rfl rfl
  have st2 := st1.trans (Stay.set h1 1 (.int .i64 1))
  clear h1 st1
  go_upto_region 2 with fail
  generalize w1.setCell ⟨pb, 1, none⟩ (.int .i64 1) = w2 at h2 st2 ⊢
  clear c1 c2 f1
  go_wp2_with fail
  refine (pfollow_any h2 0).mono ?_
  rintro e w3 ⟨rfl, h3, hg3⟩
  have st3 := st2.trans (Stay.grown h2 hg3)
  have h3 : PeerIs w3 B pb lb { PP.fresh 1 first log wt lm with term := 1, voted := 1 } vs [] := h3
  clear h2 st2 hg3
  have c1 : w3.cell? ⟨pb, 38, none⟩ = some (.int .i64 1) := h3.cells 38
  have hpl3 := h3.lt
  have e1 : w3.cell? ⟨pb, 41, none⟩ = some (.int .u8 1) := h3.cells 41
  have e2 : w3.cell? ⟨pb, 45, none⟩ = some (.slice none 0 0) := h3.cells 45
  have g1 := h3.soft 41
  have g2 := h3.soft 45
  have H3 := Lib.hid h3
  have ST3 := Lib.hid st3
  clear h3 st3
  go_upto_region 4 with fail
  obtain ⟨gv, hgv⟩ : ∃ gv, w3.heap.size = gv := ⟨_, rfl⟩
  have h4 := H3.out.set 41 (.int .u8 2) { PP.fresh 1 first log wt lm with term := 1, voted := 1, role := 2 } rfl rfl rfl
  have h5 := h4.set 45 (.slice (some ⟨gv, 0, none⟩) 1 1) { PP.fresh 1 first log wt lm with term := 1, voted := 1, role := 2, votes := .slice (some ⟨gv, 0, none⟩) 1 1 } rfl rfl rfl
  have st5 := (ST3.out.trans (Stay.set H3.out 41 (.int .u8 2))).trans (Stay.set h4 45 (.slice (some ⟨gv, 0, none⟩) 1 1))
  have sz5 : ((w3.setCell ⟨pb, 41, none⟩ (.int .u8 2)).setCell ⟨pb, 45, none⟩ (.slice (some ⟨gv, 0, none⟩) 1 1)).heap.size = gv := by simp [hgv]
  rw [hgv] at hpl3 ⊢
  generalize (w3.setCell ⟨pb, 41, none⟩ (.int .u8 2)).setCell ⟨pb, 45, none⟩ (.slice (some ⟨gv, 0, none⟩) 1 1) = w4 at h5 st5 sz5 ⊢
  clear h4 H3 ST3 e1 e2 g1 g2 hgv c1
  have hb5 := (Below.refl w4.heap.size w4).alloc (Nat.le_refl _) (.cells #[.int .i64 1] 3)
  have k5 := heap_alloc_new w4 (.cells #[.int .i64 1] 3)
  rw [sz5] at k5
  have st5 := st5.trans (Stay.below hb5 (Nat.le_trans h5.low (Nat.le_of_lt h5.lt)))
  have h5 := h5.below hb5 (Nat.le_refl _)
  clear hb5 sz5
  generalize w4.alloc (.cells #[.int .i64 1] 3) = w5 at h5 st5 k5 ⊢
  go_wp2_with fail
  refine (preset_any h5).mono ?_
  rintro e w6 ⟨rfl, h6, hg6⟩
  have st6 := st5.trans (Stay.grown h5 hg6)
  have k6 := (hg6.block gv (Array.getElem?_eq_some_iff.1 k5).1 (fun e => by have := Option.some.inj e; omega)).trans k5
  have h6 : PeerIs w6 B pb lb { PP.fresh 1 first log 0 0 with term := 1, voted := 1, role := 2, votes := .slice (some ⟨gv, 0, none⟩) 1 1 } vs [] := h6
  clear h5 st5 k5 hg6
  go_upto_region 5 with fail
  have HC := Lib.hid (fun (wS : World) (hb : Below w6.heap.size w6 wS) => (show wS.cell? ⟨pb, 45, none⟩ = some (.slice (some ⟨gv, 0, none⟩) 1 1) from (h6.below hb (Nat.le_refl _)).cells 45))
  have HC7 := Lib.hid (h6.below (Below.refl w6.heap.size w6).drew (Nat.le_refl _))
  have H6 := Lib.hid h6
  have ST6 := Lib.hid st6
  have K6 := Lib.hid k6
  clear h6 st6 k6
  refine heldS_begin (fun w' => Below w6.heap.size w6 w') (by kernel_rfl) ((Below.refl _ _).drew) ?_
  intro hS0
  (first | (refine takeS_no 0 rfl (by kernel_rfl) (by kernel_rfl) (by kernel_rfl) (fun _ _ _ h => h) (by rfl) (by assumption) ?_) | (refine takeS_yes (v := ?_) 0 rfl (by kernel_rfl) (by kernel_rfl) (by kernel_rfl) (fun _ _ _ h => h) (by rfl) (by assumption) ?_ ?_; rotate_left; focus (intro wS hSw; have q0 := HC.out wS hSw; go_simp; first | done | with_reducible rfl)))
  (try simp only [Act.put, List.setIfInBounds_toArray, List.set_cons_zero, List.set_cons_succ])
  (first | (refine takeS_no 2 rfl (by kernel_rfl) (by kernel_rfl) (by kernel_rfl) (fun _ _ _ h => h) (by rfl) (by assumption) ?_) | (refine takeS_yes (v := ?_) 2 rfl (by kernel_rfl) (by kernel_rfl) (by kernel_rfl) (fun _ _ _ h => h) (by rfl) (by assumption) ?_ ?_; rotate_left; focus (intro wS hSw; have q0 := HC.out wS hSw; go_simp; first | done | with_reducible rfl)))
  (try simp only [Act.put, List.setIfInBounds_toArray, List.set_cons_zero, List.set_cons_succ])
  (first | (refine takeS_no 3 rfl (by kernel_rfl) (by kernel_rfl) (by kernel_rfl) (fun _ _ _ h => h) (by rfl) (by assumption) ?_) | (refine takeS_yes (v := ?_) 3 rfl (by kernel_rfl) (by kernel_rfl) (by kernel_rfl) (fun _ _ _ h => h) (by rfl) (by assumption) ?_ ?_; rotate_left; focus (intro wS hSw; have q0 := HC.out wS hSw; go_simp; first | done | with_reducible rfl)))
  (try simp only [Act.put, List.setIfInBounds_toArray, List.set_cons_zero, List.set_cons_succ])
  (first | (refine takeS_no 4 rfl (by kernel_rfl) (by kernel_rfl) (by kernel_rfl) (fun _ _ _ h => h) (by rfl) (by assumption) ?_) | (refine takeS_yes (v := ?_) 4 rfl (by kernel_rfl) (by kernel_rfl) (by kernel_rfl) (fun _ _ _ h => h) (by rfl) (by assumption) ?_ ?_; rotate_left; focus (intro wS hSw; have q0 := HC.out wS hSw; go_simp; first | done | with_reducible rfl)))
  (try simp only [Act.put, List.setIfInBounds_toArray, List.set_cons_zero, List.set_cons_succ])
  (first | (refine takeS_no 5 rfl (by kernel_rfl) (by kernel_rfl) (by kernel_rfl) (fun _ _ _ h => h) (by rfl) (by assumption) ?_) | (refine takeS_yes (v := ?_) 5 rfl (by kernel_rfl) (by kernel_rfl) (by kernel_rfl) (fun _ _ _ h => h) (by rfl) (by assumption) ?_ ?_; rotate_left; focus (intro wS hSw; have q0 := HC.out wS hSw; go_simp; first | done | with_reducible rfl)))
  (try simp only [Act.put, List.setIfInBounds_toArray, List.set_cons_zero, List.set_cons_succ])
  refine takeS_alone 1 rfl (by kernel_rfl) (by rfl) (fun K hK => ?_)
  go_simp
  (refine (pvoters_any HC7.out (by show (0 : Int) < 1; decide) HVS.out (fun p hp => by cases hp) (by simp) (by have := HV.out; omega)).mono ?_; rintro e w7 ⟨a7, n7, c7, rfl, rfl, ho7, hb7⟩; have hS1 := (Below.refl w6.heap.size w6).drew.trans hb7; have hn7 := ints_of_nums (own_rowsIn iCells_len (sub := noSub) rfl ho7 fun _ _ => trivial); clear ho7 hb7)
  refine hK.out _ _ (by assumption) ?_
  clear hK K
  (try simp only [Act.put, List.setIfInBounds_toArray, List.set_cons_zero, List.set_cons_succ])
  refine takeS_alone 6 rfl (by kernel_rfl) (by rfl) (fun K hK => ?_)
  go_simp
  (have hy := ints_of_nums (rows_block (sub := noSub) iCells_len [1] _ ((hS1.block gv (Array.getElem?_eq_some_iff.1 K6.out).1).trans K6.out) rfl (Nat.lt_of_lt_of_le (Array.getElem?_eq_some_iff.1 K6.out).1 hS1.size) (fun _ _ => trivial)); refine (enough_any a7 (some ⟨gv, 0, none⟩) c7 1 vs [1] w7 hn7 hy (by have := HV.out; omega) (by simp)).mono ?_; rw [HEN.out]; rintro e w8 ⟨rfl, hb8⟩; have hS2 := hS1.trans (hb8.mono hS1.size); clear hb8 hn7 hy)
  refine hK.out _ _ (by assumption) ?_
  clear hK K
  (try simp only [Act.put, List.setIfInBounds_toArray, List.set_cons_zero, List.set_cons_succ])
  refine wpAnyH_done (by kernel_rfl) ?_ _
  (try simp only [Exit.then])
  (try (rename (∀ (_ : Act) (_ : World), _ → _) => hK0; refine hK0 _ _ ?_; clear hK0))
  clear hS0 hS1 HC7 HC
  have H8 := Lib.hid (H6.out.below hS2 (Nat.le_refl _))
  have ST8 := Lib.hid (ST6.out.trans (Stay.below hS2 (Nat.le_trans H6.out.low (Nat.le_of_lt H6.out.lt))))
  clear H6 ST6 K6 hS2
  have d0 : w8.cell? ⟨pb, 40, none⟩ = some (.pointer (some ⟨lb, 0, none⟩)) := (H8.out.cells 40).trans (congrArg some H8.out.lg)
  go_wp2_with fail
  refine (last_is B lb 0 0 [] 0 0 w8 last_nil H8.out.log (nums_nil 0 (by omega))).mono ?_
  rintro e w9 ⟨rfl, hb9⟩
  have H9 := Lib.hid (H8.out.below hb9 (Nat.le_refl _))
  have ST9 := Lib.hid (ST8.out.trans (Stay.below hb9 (Nat.le_trans H8.out.low (Nat.le_of_lt H8.out.lt))))
  clear hb9 d0 H8 ST8
  go_wp2_with fail
  refine (pothers_any H9.out (by show (0 : Int) < 1; decide) HVS.out (fun p hp => by cases hp) (by simp) (by have := HV.out; omega) h0.2.2 (by have := HV.out; omega)).mono ?_
  rintro e w10 ⟨ao, cap, rfl, hi10, hlo10, hb10⟩
  have H10 := Lib.hid (H9.out.below hb10 (Nat.le_refl _))
  have ST10 := Lib.hid (ST9.out.trans (Stay.below hb10 (Nat.le_trans H9.out.low (Nat.le_of_lt H9.out.lt))))
  have hne : ∀ p, ao = some p → p.block ≠ pb := fun p hp => by have := hlo10 p hp; have := H9.out.lt; omega
  have hxe : (vs.filter fun x => !(x == (({ PP.fresh 1 first log 0 0 with term := 1, voted := 1, role := 2, votes := .slice (some ⟨gv, 0, none⟩) 1 1 } : PP).id))) = xs := HXS.out
  rw [hxe] at hi10 ⊢
  have HI10 := Lib.hid hi10
  have HNE := Lib.hid hne
  clear hb10 H9 ST9 hi10 hne hlo10 hxe
  go_wp2_with fail
  refine (psend_any xs H10.out rfl HI10.out HNE.out h0.2.1).mono ?_
  rintro e w11 ⟨rfl, v, hp11, ho11, hg11⟩
  have HP11 := Lib.hid hp11
  have HO11 := Lib.hid ho11
  have ST11 := Lib.hid (ST10.out.trans (Stay.grown H10.out hg11))
  clear hp11 ho11 hg11
  go_wp2_with fail
  go_end0
  refine ⟨rfl, _, HP11.out, ⟨_, v, rfl, ?_⟩, ST11.out.1, ST11.out.2.weak⟩
  obtain ⟨hlen, hh | ⟨g, c, cur, h1, h2, h3, h4, h5, h6, h7⟩⟩ := HO11.out
  · have := h0.1; omega
  · refine ⟨g, c, cur, _, h1, h3, fun k hk => ?_⟩
    have hget := flat_get (letA_len' { PP.fresh 1 first log 0 0 with term := 1, voted := 1, role := 2, votes := .slice (some ⟨gv, 0, none⟩) 1 1 }) xs k xs[k] (List.getElem?_eq_getElem hk) 2 (by omega)
    rw [← h7, List.getElem?_take_of_lt (by omega), Array.getElem?_toList] at hget
    rw [hget, List.getD_eq_getElem?_getD, List.getElem?_eq_getElem hk]
    rfl
end Go.Proofs.YtbimjggkiiadmaaGreatDoor
/- The tenth tick of a peer: it stands. Conditions: it is one of its voters. -/
namespace Go.Proofs.YtbimjggkiiadmaaGreatDoor
open Go.RowKit
set_option maxRecDepth 20000
set_option maxHeartbeats 4000000 in
theorem tenth_any {w : World} {B pb lb tb ub : Nat} {vs : List Int} {first log : Value} (P : World → World → Prop) (h : PeerIs w B pb lb (.fresh 1 first log 9 10) vs []) (ht : w.cell? ⟨tb, 0, none⟩ = some (.pointer (some ⟨pb, 0, none⟩))) (hne : tb ≠ pb) (hv : vs.length ≤ 1000) (hvs : votS vs [] = vs) (hhas : hasB vs 1 = true)
    (hS : ∀ w1, PeerIs w1 B pb lb (.fresh 1 first log 10 10) vs [] → Stay B w w1 → Calls Tryz.prog 33 #[.pointer (some ⟨pb, 0, none⟩)] w1 (EndIs (P w1))) :
    Calls Tryz.prog 28 #[.pointer (some ⟨tb, 0, none⟩), .pointer (some ⟨ub, 0, none⟩)] w (EndIs fun w2 => ∃ w1, Stay B w w1 ∧ P w1 w2) := by
  have c0 : w.cell? ⟨pb, 41, none⟩ = some (.int .u8 1) := h.cells 41
  have c1 : w.cell? ⟨pb, 43, none⟩ = some (.int .i64 9) := h.cells 43
  have c2 : w.cell? ⟨pb, 44, none⟩ = some (.int .i64 10) := h.cells 44
  have f1 := h.soft 43
  have h1 := h.set 43 (.int .i64 10) (.fresh 1 first log 10 10) rfl rfl rfl
  have st1 := Stay.set h 43 (.int .i64 10)
  have ht1 := (grown_setL w ⟨pb, 43, none⟩ (.int .i64 10)).cell ht (fun e => hne (Option.some.inj e))
  have HV := Lib.hid hv
  have HVS := Lib.hid hvs
  have HHAS := Lib.hid hhas
  have HS := Lib.hid hS
  clear h hv hvs hhas hS
  go_enter Tryz.func28, Tryz.ntmps28
  go_upto_region 6 with fail
  generalize w.setCell ⟨pb, 43, none⟩ (.int .i64 10) = w1 at h1 st1 ht1 ⊢
  clear c0 c1 c2 f1 ht
  have c2 : w1.cell? ⟨pb, 44, none⟩ = some (.int .i64 10) := h1.cells 44
  go_upto_region 8 with fail
  have hlt := World.block_lt_of_cell? w1 _ ht1
  have HC := Lib.hid (fun (wS : World) (hb : Below w1.heap.size w1 wS) => And.intro ((hb.cell (p := ⟨tb, 0, none⟩) hlt).trans ht1) (And.intro (show wS.cell? ⟨pb, 43, none⟩ = some (.int .i64 10) from (h1.below hb (Nat.le_refl _)).cells 43) (And.intro (show wS.cell? ⟨pb, 44, none⟩ = some (.int .i64 10) from (h1.below hb (Nat.le_refl _)).cells 44) (And.intro (show wS.cell? ⟨pb, 38, none⟩ = some (.int .i64 1) from (h1.below hb (Nat.le_refl _)).cells 38) (show wS.cell? ⟨pb, 0, none⟩ = some (.int .i64 0) from (h1.below hb (Nat.le_refl _)).cells 0)))))
  have HD := Lib.hid (h1.below (Below.refl w1.heap.size w1).drew (Nat.le_refl _))
  have H1 := Lib.hid h1
  have ST1 := Lib.hid st1
  have HT1 := Lib.hid ht1
  clear h1 st1 ht1 c2
  refine heldS_begin (fun w' => Below w1.heap.size w1 w') (by kernel_rfl) ((Below.refl _ _).drew) ?_
  intro hS0
  (first | (refine takeS_no 0 rfl (by kernel_rfl) (by kernel_rfl) (by kernel_rfl) (fun _ _ _ h => h) (by rfl) (by assumption) ?_) | (refine takeS_yes (v := ?_) 0 rfl (by kernel_rfl) (by kernel_rfl) (by kernel_rfl) (fun _ _ _ h => h) (by rfl) (by assumption) ?_ ?_; rotate_left; focus (intro wS hSw; obtain ⟨q0, q1, q2, q3, q4⟩ := HC.out wS hSw; go_simp; first | done | with_reducible rfl)))
  (try simp only [Act.put, List.setIfInBounds_toArray, List.set_cons_zero, List.set_cons_succ])
  (first | (refine takeS_no 1 rfl (by kernel_rfl) (by kernel_rfl) (by kernel_rfl) (fun _ _ _ h => h) (by rfl) (by assumption) ?_) | (refine takeS_yes (v := ?_) 1 rfl (by kernel_rfl) (by kernel_rfl) (by kernel_rfl) (fun _ _ _ h => h) (by rfl) (by assumption) ?_ ?_; rotate_left; focus (intro wS hSw; obtain ⟨q0, q1, q2, q3, q4⟩ := HC.out wS hSw; go_simp; first | done | with_reducible rfl)))
  (try simp only [Act.put, List.setIfInBounds_toArray, List.set_cons_zero, List.set_cons_succ])
  (first | (refine takeS_no 2 rfl (by kernel_rfl) (by kernel_rfl) (by kernel_rfl) (fun _ _ _ h => h) (by rfl) (by assumption) ?_) | (refine takeS_yes (v := ?_) 2 rfl (by kernel_rfl) (by kernel_rfl) (by kernel_rfl) (fun _ _ _ h => h) (by rfl) (by assumption) ?_ ?_; rotate_left; focus (intro wS hSw; obtain ⟨q0, q1, q2, q3, q4⟩ := HC.out wS hSw; go_simp; first | done | with_reducible rfl)))
  (try simp only [Act.put, List.setIfInBounds_toArray, List.set_cons_zero, List.set_cons_succ])
  (first | (refine takeS_no 3 rfl (by kernel_rfl) (by kernel_rfl) (by kernel_rfl) (fun _ _ _ h => h) (by rfl) (by assumption) ?_) | (refine takeS_yes (v := ?_) 3 rfl (by kernel_rfl) (by kernel_rfl) (by kernel_rfl) (fun _ _ _ h => h) (by rfl) (by assumption) ?_ ?_; rotate_left; focus (intro wS hSw; obtain ⟨q0, q1, q2, q3, q4⟩ := HC.out wS hSw; go_simp; first | done | with_reducible rfl)))
  (try simp only [Act.put, List.setIfInBounds_toArray, List.set_cons_zero, List.set_cons_succ])
  (first | (refine takeS_no 4 rfl (by kernel_rfl) (by kernel_rfl) (by kernel_rfl) (fun _ _ _ h => h) (by rfl) (by assumption) ?_) | (refine takeS_yes (v := ?_) 4 rfl (by kernel_rfl) (by kernel_rfl) (by kernel_rfl) (fun _ _ _ h => h) (by rfl) (by assumption) ?_ ?_; rotate_left; focus (intro wS hSw; obtain ⟨q0, q1, q2, q3, q4⟩ := HC.out wS hSw; go_simp; first | done | with_reducible rfl)))
  (try simp only [Act.put, List.setIfInBounds_toArray, List.set_cons_zero, List.set_cons_succ])
  (first | (refine takeS_no 5 rfl (by kernel_rfl) (by kernel_rfl) (by kernel_rfl) (fun _ _ _ h => h) (by rfl) (by assumption) ?_) | (refine takeS_yes (v := ?_) 5 rfl (by kernel_rfl) (by kernel_rfl) (by kernel_rfl) (fun _ _ _ h => h) (by rfl) (by assumption) ?_ ?_; rotate_left; focus (intro wS hSw; obtain ⟨q0, q1, q2, q3, q4⟩ := HC.out wS hSw; go_simp; first | done | with_reducible rfl)))
  (try simp only [Act.put, List.setIfInBounds_toArray, List.set_cons_zero, List.set_cons_succ])
  (first | (refine takeS_no 6 rfl (by kernel_rfl) (by kernel_rfl) (by kernel_rfl) (fun _ _ _ h => h) (by rfl) (by assumption) ?_) | (refine takeS_yes (v := ?_) 6 rfl (by kernel_rfl) (by kernel_rfl) (by kernel_rfl) (fun _ _ _ h => h) (by rfl) (by assumption) ?_ ?_; rotate_left; focus (intro wS hSw; obtain ⟨q0, q1, q2, q3, q4⟩ := HC.out wS hSw; go_simp; first | done | with_reducible rfl)))
  (try simp only [Act.put, List.setIfInBounds_toArray, List.set_cons_zero, List.set_cons_succ])
  (first | (refine takeS_no 7 rfl (by kernel_rfl) (by kernel_rfl) (by kernel_rfl) (fun _ _ _ h => h) (by rfl) (by assumption) ?_) | (refine takeS_yes (v := ?_) 7 rfl (by kernel_rfl) (by kernel_rfl) (by kernel_rfl) (fun _ _ _ h => h) (by rfl) (by assumption) ?_ ?_; rotate_left; focus (intro wS hSw; obtain ⟨q0, q1, q2, q3, q4⟩ := HC.out wS hSw; go_simp; first | done | with_reducible rfl)))
  (try simp only [Act.put, List.setIfInBounds_toArray, List.set_cons_zero, List.set_cons_succ])
  (first | (refine takeS_no 8 rfl (by kernel_rfl) (by kernel_rfl) (by kernel_rfl) (fun _ _ _ h => h) (by rfl) (by assumption) ?_) | (refine takeS_yes (v := ?_) 8 rfl (by kernel_rfl) (by kernel_rfl) (by kernel_rfl) (fun _ _ _ h => h) (by rfl) (by assumption) ?_ ?_; rotate_left; focus (intro wS hSw; obtain ⟨q0, q1, q2, q3, q4⟩ := HC.out wS hSw; go_simp; first | done | with_reducible rfl)))
  (try simp only [Act.put, List.setIfInBounds_toArray, List.set_cons_zero, List.set_cons_succ])
  (first | (refine takeS_no 9 rfl (by kernel_rfl) (by kernel_rfl) (by kernel_rfl) (fun _ _ _ h => h) (by rfl) (by assumption) ?_) | (refine takeS_yes (v := ?_) 9 rfl (by kernel_rfl) (by kernel_rfl) (by kernel_rfl) (fun _ _ _ h => h) (by rfl) (by assumption) ?_ ?_; rotate_left; focus (intro wS hSw; obtain ⟨q0, q1, q2, q3, q4⟩ := HC.out wS hSw; go_simp; first | done | with_reducible rfl)))
  (try simp only [Act.put, List.setIfInBounds_toArray, List.set_cons_zero, List.set_cons_succ])
  (first | (refine takeS_no 10 rfl (by kernel_rfl) (by kernel_rfl) (by kernel_rfl) (fun _ _ _ h => h) (by rfl) (by assumption) ?_) | (refine takeS_yes (v := ?_) 10 rfl (by kernel_rfl) (by kernel_rfl) (by kernel_rfl) (fun _ _ _ h => h) (by rfl) (by assumption) ?_ ?_; rotate_left; focus (intro wS hSw; obtain ⟨q0, q1, q2, q3, q4⟩ := HC.out wS hSw; go_simp; first | done | with_reducible rfl)))
  (try simp only [Act.put, List.setIfInBounds_toArray, List.set_cons_zero, List.set_cons_succ])
  (first | (refine takeS_no 12 rfl (by kernel_rfl) (by kernel_rfl) (by kernel_rfl) (fun _ _ _ h => h) (by rfl) (by assumption) ?_) | (refine takeS_yes (v := ?_) 12 rfl (by kernel_rfl) (by kernel_rfl) (by kernel_rfl) (fun _ _ _ h => h) (by rfl) (by assumption) ?_ ?_; rotate_left; focus (intro wS hSw; obtain ⟨q0, q1, q2, q3, q4⟩ := HC.out wS hSw; go_simp; first | done | with_reducible rfl)))
  (try simp only [Act.put, List.setIfInBounds_toArray, List.set_cons_zero, List.set_cons_succ])
  (first | (refine takeS_no 13 rfl (by kernel_rfl) (by kernel_rfl) (by kernel_rfl) (fun _ _ _ h => h) (by rfl) (by assumption) ?_) | (refine takeS_yes (v := ?_) 13 rfl (by kernel_rfl) (by kernel_rfl) (by kernel_rfl) (fun _ _ _ h => h) (by rfl) (by assumption) ?_ ?_; rotate_left; focus (intro wS hSw; obtain ⟨q0, q1, q2, q3, q4⟩ := HC.out wS hSw; go_simp; first | done | with_reducible rfl)))
  (try simp only [Act.put, List.setIfInBounds_toArray, List.set_cons_zero, List.set_cons_succ])
  (first | (refine takeS_no 14 rfl (by kernel_rfl) (by kernel_rfl) (by kernel_rfl) (fun _ _ _ h => h) (by rfl) (by assumption) ?_) | (refine takeS_yes (v := ?_) 14 rfl (by kernel_rfl) (by kernel_rfl) (by kernel_rfl) (fun _ _ _ h => h) (by rfl) (by assumption) ?_ ?_; rotate_left; focus (intro wS hSw; obtain ⟨q0, q1, q2, q3, q4⟩ := HC.out wS hSw; go_simp; first | done | with_reducible rfl)))
  (try simp only [Act.put, List.setIfInBounds_toArray, List.set_cons_zero, List.set_cons_succ])
  (first | (refine takeS_no 15 rfl (by kernel_rfl) (by kernel_rfl) (by kernel_rfl) (fun _ _ _ h => h) (by rfl) (by assumption) ?_) | (refine takeS_yes (v := ?_) 15 rfl (by kernel_rfl) (by kernel_rfl) (by kernel_rfl) (fun _ _ _ h => h) (by rfl) (by assumption) ?_ ?_; rotate_left; focus (intro wS hSw; obtain ⟨q0, q1, q2, q3, q4⟩ := HC.out wS hSw; go_simp; first | done | with_reducible rfl)))
  (try simp only [Act.put, List.setIfInBounds_toArray, List.set_cons_zero, List.set_cons_succ])
  refine takeS_alone 11 rfl (by kernel_rfl) (by rfl) (fun K hK => ?_)
  go_simp
  (refine (pvoters_any HD.out (by show (0 : Int) < 1; decide) HVS.out (fun p hp => by cases hp) (by simp) (by have := HV.out; omega)).mono ?_; rintro e w7 ⟨a7, n7, c7, rfl, rfl, ho7, hb7⟩; have hS1 := (Below.refl w1.heap.size w1).drew.trans hb7; have hn7 := ints_of_nums (own_rowsIn iCells_len (sub := noSub) rfl ho7 fun _ _ => trivial); clear ho7 hb7)
  refine hK.out _ _ (by assumption) ?_
  clear hK K
  (try simp only [Act.put, List.setIfInBounds_toArray, List.set_cons_zero, List.set_cons_succ])
  refine takeS_alone 16 rfl (by kernel_rfl) (by rfl) (fun K hK => ?_)
  go_simp
  (refine (has_any a7 c7 vs 1 w7 _ hn7 (by have := HV.out; omega)).mono ?_; rw [HHAS.out]; rintro e w8 ⟨rfl, rfl⟩; clear hn7)
  refine hK.out _ _ (by assumption) ?_
  clear hK K
  (try simp only [Act.put, List.setIfInBounds_toArray, List.set_cons_zero, List.set_cons_succ])
  (first | (refine takeS_no 17 rfl (by kernel_rfl) (by kernel_rfl) (by kernel_rfl) (fun _ _ _ h => h) (by rfl) (by assumption) ?_) | (refine takeS_yes (v := ?_) 17 rfl (by kernel_rfl) (by kernel_rfl) (by kernel_rfl) (fun _ _ _ h => h) (by rfl) (by assumption) ?_ ?_; rotate_left; focus (intro wS hSw; obtain ⟨q0, q1, q2, q3, q4⟩ := HC.out wS hSw; go_simp; first | done | with_reducible rfl)))
  (try simp only [Act.put, List.setIfInBounds_toArray, List.set_cons_zero, List.set_cons_succ])
  (first | (refine takeS_no 18 rfl (by kernel_rfl) (by kernel_rfl) (by kernel_rfl) (fun _ _ _ h => h) (by rfl) (by assumption) ?_) | (refine takeS_yes (v := ?_) 18 rfl (by kernel_rfl) (by kernel_rfl) (by kernel_rfl) (fun _ _ _ h => h) (by rfl) (by assumption) ?_ ?_; rotate_left; focus (intro wS hSw; obtain ⟨q0, q1, q2, q3, q4⟩ := HC.out wS hSw; go_simp; first | done | with_reducible rfl)))
  (try simp only [Act.put, List.setIfInBounds_toArray, List.set_cons_zero, List.set_cons_succ])
  (first | (refine takeS_no 19 rfl (by kernel_rfl) (by kernel_rfl) (by kernel_rfl) (fun _ _ _ h => h) (by rfl) (by assumption) ?_) | (refine takeS_yes (v := ?_) 19 rfl (by kernel_rfl) (by kernel_rfl) (by kernel_rfl) (fun _ _ _ h => h) (by rfl) (by assumption) ?_ ?_; rotate_left; focus (intro wS hSw; obtain ⟨q0, q1, q2, q3, q4⟩ := HC.out wS hSw; go_simp; first | done | with_reducible rfl)))
  (try simp only [Act.put, List.setIfInBounds_toArray, List.set_cons_zero, List.set_cons_succ])
  (first | (refine takeS_no 20 rfl (by kernel_rfl) (by kernel_rfl) (by kernel_rfl) (fun _ _ _ h => h) (by rfl) (by assumption) ?_) | (refine takeS_yes (v := ?_) 20 rfl (by kernel_rfl) (by kernel_rfl) (by kernel_rfl) (fun _ _ _ h => h) (by rfl) (by assumption) ?_ ?_; rotate_left; focus (intro wS hSw; obtain ⟨q0, q1, q2, q3, q4⟩ := HC.out wS hSw; go_simp; first | done | with_reducible rfl)))
  (try simp only [Act.put, List.setIfInBounds_toArray, List.set_cons_zero, List.set_cons_succ])
  (first | (refine takeS_no 21 rfl (by kernel_rfl) (by kernel_rfl) (by kernel_rfl) (fun _ _ _ h => h) (by rfl) (by assumption) ?_) | (refine takeS_yes (v := ?_) 21 rfl (by kernel_rfl) (by kernel_rfl) (by kernel_rfl) (fun _ _ _ h => h) (by rfl) (by assumption) ?_ ?_; rotate_left; focus (intro wS hSw; obtain ⟨q0, q1, q2, q3, q4⟩ := HC.out wS hSw; go_simp; first | done | with_reducible rfl)))
  (try simp only [Act.put, List.setIfInBounds_toArray, List.set_cons_zero, List.set_cons_succ])
  (first | (refine takeS_no 22 rfl (by kernel_rfl) (by kernel_rfl) (by kernel_rfl) (fun _ _ _ h => h) (by rfl) (by assumption) ?_) | (refine takeS_yes (v := ?_) 22 rfl (by kernel_rfl) (by kernel_rfl) (by kernel_rfl) (fun _ _ _ h => h) (by rfl) (by assumption) ?_ ?_; rotate_left; focus (intro wS hSw; obtain ⟨q0, q1, q2, q3, q4⟩ := HC.out wS hSw; go_simp; first | done | with_reducible rfl)))
  (try simp only [Act.put, List.setIfInBounds_toArray, List.set_cons_zero, List.set_cons_succ])
  (first | (refine takeS_no 23 rfl (by kernel_rfl) (by kernel_rfl) (by kernel_rfl) (fun _ _ _ h => h) (by rfl) (by assumption) ?_) | (refine takeS_yes (v := ?_) 23 rfl (by kernel_rfl) (by kernel_rfl) (by kernel_rfl) (fun _ _ _ h => h) (by rfl) (by assumption) ?_ ?_; rotate_left; focus (intro wS hSw; obtain ⟨q0, q1, q2, q3, q4⟩ := HC.out wS hSw; go_simp; first | done | with_reducible rfl)))
  (try simp only [Act.put, List.setIfInBounds_toArray, List.set_cons_zero, List.set_cons_succ])
  (first | (refine takeS_no 24 rfl (by kernel_rfl) (by kernel_rfl) (by kernel_rfl) (fun _ _ _ h => h) (by rfl) (by assumption) ?_) | (refine takeS_yes (v := ?_) 24 rfl (by kernel_rfl) (by kernel_rfl) (by kernel_rfl) (fun _ _ _ h => h) (by rfl) (by assumption) ?_ ?_; rotate_left; focus (intro wS hSw; obtain ⟨q0, q1, q2, q3, q4⟩ := HC.out wS hSw; go_simp; first | done | with_reducible rfl)))
  (try simp only [Act.put, List.setIfInBounds_toArray, List.set_cons_zero, List.set_cons_succ])
  (first | (refine takeS_no 25 rfl (by kernel_rfl) (by kernel_rfl) (by kernel_rfl) (fun _ _ _ h => h) (by rfl) (by assumption) ?_) | (refine takeS_yes (v := ?_) 25 rfl (by kernel_rfl) (by kernel_rfl) (by kernel_rfl) (fun _ _ _ h => h) (by rfl) (by assumption) ?_ ?_; rotate_left; focus (intro wS hSw; obtain ⟨q0, q1, q2, q3, q4⟩ := HC.out wS hSw; go_simp; first | done | with_reducible rfl)))
  (try simp only [Act.put, List.setIfInBounds_toArray, List.set_cons_zero, List.set_cons_succ])
  (first | (refine takeS_no 26 rfl (by kernel_rfl) (by kernel_rfl) (by kernel_rfl) (fun _ _ _ h => h) (by rfl) (by assumption) ?_) | (refine takeS_yes (v := ?_) 26 rfl (by kernel_rfl) (by kernel_rfl) (by kernel_rfl) (fun _ _ _ h => h) (by rfl) (by assumption) ?_ ?_; rotate_left; focus (intro wS hSw; obtain ⟨q0, q1, q2, q3, q4⟩ := HC.out wS hSw; go_simp; first | done | with_reducible rfl)))
  (try simp only [Act.put, List.setIfInBounds_toArray, List.set_cons_zero, List.set_cons_succ])
  (first | (refine takeS_no 27 rfl (by kernel_rfl) (by kernel_rfl) (by kernel_rfl) (fun _ _ _ h => h) (by rfl) (by assumption) ?_) | (refine takeS_yes (v := ?_) 27 rfl (by kernel_rfl) (by kernel_rfl) (by kernel_rfl) (fun _ _ _ h => h) (by rfl) (by assumption) ?_ ?_; rotate_left; focus (intro wS hSw; obtain ⟨q0, q1, q2, q3, q4⟩ := HC.out wS hSw; go_simp; first | done | with_reducible rfl)))
  (try simp only [Act.put, List.setIfInBounds_toArray, List.set_cons_zero, List.set_cons_succ])
  (first | (refine takeS_no 28 rfl (by kernel_rfl) (by kernel_rfl) (by kernel_rfl) (fun _ _ _ h => h) (by rfl) (by assumption) ?_) | (refine takeS_yes (v := ?_) 28 rfl (by kernel_rfl) (by kernel_rfl) (by kernel_rfl) (fun _ _ _ h => h) (by rfl) (by assumption) ?_ ?_; rotate_left; focus (intro wS hSw; obtain ⟨q0, q1, q2, q3, q4⟩ := HC.out wS hSw; go_simp; first | done | with_reducible rfl)))
  (try simp only [Act.put, List.setIfInBounds_toArray, List.set_cons_zero, List.set_cons_succ])
  (first | (refine takeS_no 29 rfl (by kernel_rfl) (by kernel_rfl) (by kernel_rfl) (fun _ _ _ h => h) (by rfl) (by assumption) ?_) | (refine takeS_yes (v := ?_) 29 rfl (by kernel_rfl) (by kernel_rfl) (by kernel_rfl) (fun _ _ _ h => h) (by rfl) (by assumption) ?_ ?_; rotate_left; focus (intro wS hSw; obtain ⟨q0, q1, q2, q3, q4⟩ := HC.out wS hSw; go_simp; first | done | with_reducible rfl)))
  (try simp only [Act.put, List.setIfInBounds_toArray, List.set_cons_zero, List.set_cons_succ])
  (first | (refine takeS_no 30 rfl (by kernel_rfl) (by kernel_rfl) (by kernel_rfl) (fun _ _ _ h => h) (by rfl) (by assumption) ?_) | (refine takeS_yes (v := ?_) 30 rfl (by kernel_rfl) (by kernel_rfl) (by kernel_rfl) (fun _ _ _ h => h) (by rfl) (by assumption) ?_ ?_; rotate_left; focus (intro wS hSw; obtain ⟨q0, q1, q2, q3, q4⟩ := HC.out wS hSw; go_simp; first | done | with_reducible rfl)))
  (try simp only [Act.put, List.setIfInBounds_toArray, List.set_cons_zero, List.set_cons_succ])
  (first | (refine takeS_no 31 rfl (by kernel_rfl) (by kernel_rfl) (by kernel_rfl) (fun _ _ _ h => h) (by rfl) (by assumption) ?_) | (refine takeS_yes (v := ?_) 31 rfl (by kernel_rfl) (by kernel_rfl) (by kernel_rfl) (fun _ _ _ h => h) (by rfl) (by assumption) ?_ ?_; rotate_left; focus (intro wS hSw; obtain ⟨q0, q1, q2, q3, q4⟩ := HC.out wS hSw; go_simp; first | done | with_reducible rfl)))
  (try simp only [Act.put, List.setIfInBounds_toArray, List.set_cons_zero, List.set_cons_succ])
  (first | (refine takeS_no 32 rfl (by kernel_rfl) (by kernel_rfl) (by kernel_rfl) (fun _ _ _ h => h) (by rfl) (by assumption) ?_) | (refine takeS_yes (v := ?_) 32 rfl (by kernel_rfl) (by kernel_rfl) (by kernel_rfl) (fun _ _ _ h => h) (by rfl) (by assumption) ?_ ?_; rotate_left; focus (intro wS hSw; obtain ⟨q0, q1, q2, q3, q4⟩ := HC.out wS hSw; go_simp; first | done | with_reducible rfl)))
  (try simp only [Act.put, List.setIfInBounds_toArray, List.set_cons_zero, List.set_cons_succ])
  (first | (refine takeS_no 33 rfl (by kernel_rfl) (by kernel_rfl) (by kernel_rfl) (fun _ _ _ h => h) (by rfl) (by assumption) ?_) | (refine takeS_yes (v := ?_) 33 rfl (by kernel_rfl) (by kernel_rfl) (by kernel_rfl) (fun _ _ _ h => h) (by rfl) (by assumption) ?_ ?_; rotate_left; focus (intro wS hSw; obtain ⟨q0, q1, q2, q3, q4⟩ := HC.out wS hSw; go_simp; first | done | with_reducible rfl)))
  (try simp only [Act.put, List.setIfInBounds_toArray, List.set_cons_zero, List.set_cons_succ])
  (first | (refine takeS_no 34 rfl (by kernel_rfl) (by kernel_rfl) (by kernel_rfl) (fun _ _ _ h => h) (by rfl) (by assumption) ?_) | (refine takeS_yes (v := ?_) 34 rfl (by kernel_rfl) (by kernel_rfl) (by kernel_rfl) (fun _ _ _ h => h) (by rfl) (by assumption) ?_ ?_; rotate_left; focus (intro wS hSw; obtain ⟨q0, q1, q2, q3, q4⟩ := HC.out wS hSw; go_simp; first | done | with_reducible rfl)))
  (try simp only [Act.put, List.setIfInBounds_toArray, List.set_cons_zero, List.set_cons_succ])
  (first | (refine takeS_no 35 rfl (by kernel_rfl) (by kernel_rfl) (by kernel_rfl) (fun _ _ _ h => h) (by rfl) (by assumption) ?_) | (refine takeS_yes (v := ?_) 35 rfl (by kernel_rfl) (by kernel_rfl) (by kernel_rfl) (fun _ _ _ h => h) (by rfl) (by assumption) ?_ ?_; rotate_left; focus (intro wS hSw; obtain ⟨q0, q1, q2, q3, q4⟩ := HC.out wS hSw; go_simp; first | done | with_reducible rfl)))
  (try simp only [Act.put, List.setIfInBounds_toArray, List.set_cons_zero, List.set_cons_succ])
  refine wpAnyH_done (by kernel_rfl) ?_ _
  (try simp only [Exit.then])
  (try (rename (∀ (_ : Act) (_ : World), _ → _) => hK0; refine hK0 _ _ ?_; clear hK0))
  have t9 := (hS1.cell (p := ⟨tb, 0, none⟩) hlt).trans HT1.out
  have H7 := Lib.hid (H1.out.below hS1 (Nat.le_refl _))
  have ST7 := Lib.hid (ST1.out.trans (Stay.below hS1 (Nat.le_trans H1.out.low (Nat.le_of_lt H1.out.lt))))
  clear hS0 hS1 HD HC H1 ST1 HT1
  go_wp2_with fail
  refine (HS.out w7 H7.out ST7.out).mono ?_
  rintro e w9 ⟨rfl, hp9⟩
  have HP9 := Lib.hid hp9
  clear hp9
  go_wp2_with fail
  go_end0
  exact ⟨rfl, w7, ST7.out, HP9.out⟩
theorem ptick_many {w : World} {B pb lb : Nat} {vs xs : List Int} {first log : Value} (draw : Int) (h : PeerIs w B pb lb (.fresh 1 first log 9 10) vs []) (hv : vs.length ≤ 1000) (hvs : votS vs [] = vs) (hhas : hasB vs 1 = true) (hen : enoughS vs [1] = false) (hxs : (vs.filter fun x => !(x == 1)) = xs) (h0 : 0 < xs.length ∧ xs.length ≤ 9 ∧ 0 < vs.length) :
    Calls Tryz.prog 8 #[.pointer (some ⟨pb, 0, none⟩), .int .i64 draw] w (TickIs (StoodTo xs first log) B pb lb vs [] w) := by
  have hB : B ≤ w.heap.size := Nat.le_trans h.low (Nat.le_of_lt h.lt)
  have hone : ∀ t w, StoodTo xs first log t w → t.role ≠ 3 ∧ t.lost = false ∧ t.letters.oneCell' = true ∧ t.snap.oneCell' = true := by
    rintro t w ⟨vb, v, rfl, g, c, cs, fr, rfl, _⟩
    exact ⟨by show (2 : Int) ≠ 3; decide, rfl, rfl, rfl⟩
  refine ptick_any draw _ (firm_stood xs first log) hB (fun t w h => (hone t w h).2.2) fun w1 tb ub hb1 hge ht hu => ?_
  have h1 := h.below hb1 (Nat.le_refl _)
  have hpt : pb < tb := Nat.lt_of_lt_of_le h.lt hge.1
  refine pcall_rest _ _ tick_enters h1 (by show (0 : Int) < 1; decide) (by show (1 : Int) ≠ 3; decide) [] _ (firm_stood xs first log) hone (fun w2 hg2 h2 => ?_) (Nat.le_trans hB hb1.size)
  have t1 : w2.cell? ⟨tb, 0, none⟩ = some (.pointer (some ⟨pb, 0, none⟩)) := hg2.cell ht (fun e => by have := Option.some.inj e; simp only at *; omega)
  refine (tenth_any (fun wa w' => ∃ t, PeerIs w' B pb lb t vs [] ∧ StoodTo xs first log t w' ∧ Below B wa w' ∧ KB wa w') h2 t1 (by omega) hv hvs hhas (fun w3 h3 _ => pstand_many 10 10 h3 hv hvs hen hxs h0)).mono ?_
  rintro e w4 ⟨rfl, w3, st3, t, hp4, hs4, hb4, hk4⟩
  exact ⟨rfl, t, hp4, hs4, st3.1.trans hb4, st3.2.weak.trans hk4⟩
end Go.Proofs.YtbimjggkiiadmaaGreatDoor
/- The map that the laws of layer 25 make of pairs: what it holds, and that of makes it. Conditions: the pairs' cells lie as their reading says. -/
namespace Go.Proofs.YtbimjggkiiadmaaGreatDoor
open Go.RowKit Go.Maps
theorem intLaw : Keyed Tryz.prog 3 := int_keyed Tryz.underlying3
theorem zeroInt (w : World) : (zeroValue 3).run Tryz.prog w = .ok (.int .i64 0) w := by kernel_rfl
/-- The map's datum, of pairs one behind the other. -/
def mapD (ps : List (Int × Int)) : DataW Unit := ps.foldl (fun D p => D.put (.int .i64 p.1) (.lit (.int .i64 p.2))) (.map [])
def mget (ps : List (Int × Int)) (k : Int) : Int := ps.foldl (fun a p => if p.1 = k then p.2 else a) 0
theorem mapD_snoc (ps : List (Int × Int)) (a b : Int) : mapD (ps ++ [(a, b)]) = (mapD ps).put (.int .i64 a) (.lit (.int .i64 b)) := by simp [mapD, List.foldl_append]
theorem mget_snoc (ps : List (Int × Int)) (a b k : Int) : mget (ps ++ [(a, b)]) k = if a = k then b else mget ps k := by simp [mget, List.foldl_append]
theorem mapD_isMap (ps : List (Int × Int)) : IsMap (mapD ps) := by
  unfold mapD
  have : ∀ (l : List (Int × Int)) (D : DataW Unit), IsMap D → IsMap (l.foldl (fun D p => D.put (.int .i64 p.1) (.lit (.int .i64 p.2))) D) := by
    intro l
    induction l with
    | nil => intro D h; exact h
    | cons p l ih => intro D h; exact ih _ (h.put _ _)
  exact this ps _ isMap_empty
theorem mapD_at (ps : List (Int × Int)) (k : Int) : (mapD ps).atKey (.int .i64 k) (.lit (.int .i64 0)) = .lit (.int .i64 (mget ps k)) := by
  induction h : ps.length generalizing ps with
  | zero =>
    have : ps = [] := List.eq_nil_of_length_eq_zero h
    subst this; rfl
  | succ n ih =>
    obtain ⟨qs, p, rfl⟩ : ∃ qs p, ps = qs ++ [p] := ⟨ps.dropLast, ps.getLast (by intro e; rw [e] at h; simp at h), (List.dropLast_concat_getLast _).symm⟩
    obtain ⟨a, b⟩ := p
    rw [mapD_snoc, mget_snoc]
    by_cases e : a = k
    · subst e
      rw [if_pos rfl, atKey_put_same (mapD_isMap qs) (show WideAt.IsKeyLit (.int .i64 a) from trivial)]
    · rw [if_neg e, atKey_put_other (by simpa using fun h => e h.symm)]
      exact ih qs (by simpa using h)
/-- Block b of w is the map of these pairs. -/
def MapIs (w : World) (b : Nat) (ps : List (Int × Int)) : Prop := ∃ n, n ≤ ps.length ∧ w.ownsMap Tryz.prog 3 (plainElem Tryz.prog 3) b n (mapD ps)
theorem MapIs.lt {w : World} {b : Nat} {ps : List (Int × Int)} (h : MapIs w b ps) : b < w.heap.size := h.elim fun _ h => h.2.lt
theorem MapIs.below {w w' : World} {b B : Nat} {ps : List (Int × Int)} (h : MapIs w b ps) (hb : Below B w w') (hB : b < B) : MapIs w' b ps := by
  obtain ⟨n, hn, es, clock, h1, h2⟩ := h
  exact ⟨n, hn, es, clock, by rw [hb.block b hB]; exact h1, h2⟩
theorem MapIs.look {w : World} {b : Nat} {ps : List (Int × Int)} (h : MapIs w b ps) {k : Int} (hk : (Lit.int .i64 k).wf = true) : (Instr.lookup 96 (.map (some b)) (.int .i64 k) false).run Tryz.prog w = .ok (.int .i64 (mget ps k)) w ∧ (Lit.int .i64 (mget ps k)).wf = true := by
  obtain ⟨n, hn, h⟩ := h
  obtain ⟨c, hrun, hat, hwf⟩ := h.lookup_int intLaw Tryz.underlying96 Tryz.underlying3 (zeroInt _) (keyOf_int_mk Tryz.underlying3 hk)
  rw [mapD_at] at hat
  simp at hat
  rw [hat]
  exact ⟨hrun, hwf⟩
end Go.Proofs.YtbimjggkiiadmaaGreatDoor
/- The reference's functions of layer 22, the law's own example, and the law QuorumTells: of any two rows it returns true, and nothing that was there is changed. No condition. -/
namespace Go.Proofs.YtbimjggkiiadmaaGreatDoor
open Go.RowKit
/-! ### At numbers that are written out -/
theorem enough_at (ao co : Option Addr) (n m cap cap2 : Nat) (v u : List Int) (r : Bool) (w : World) (hn : v.length = n) (hm : u.length = m) (hr : enoughS v u = r) (hx : IntsIn w w.heap.size ao v) (hy : IntsIn w w.heap.size co u) (hl : v.length ≤ 4611686018427387904) (hl2 : u.length ≤ 4611686018427387904) :
    Calls Tryz.prog 54 #[.slice ao n cap, .slice co m cap2] w fun e w' => e = .returned (.bool r) ∧ Below w.heap.size w w' := by
  subst hn hm hr; exact enough_any ao co cap cap2 v u w hx hy hl hl2
end Go.Proofs.YtbimjggkiiadmaaGreatDoor
/- Plain laws on what voters have together. No program. No condition but that the voters are right. -/
namespace Go.Proofs.YtbimjggkiiadmaaGreatDoor
def haveS (f : Int → Int) (n : Int) (vs : List Int) : List Int := vs.filter fun x => decide (n ≤ f x)
def indexStep (vs : List Int) (f : Int → Int) (best v : Int) : Int := if best < f v ∧ enoughS vs (haveS f (f v) vs) = true then f v else best
/-- Up to where enough voters have the log (P25.1). -/
def indexS (vs : List Int) (f : Int → Int) : Int := vs.foldl (indexStep vs f) 0
end Go.Proofs.YtbimjggkiiadmaaGreatDoor
