/- A leader is asked for a command. Conditions: the peer leads, its log is not too long. -/
import Derived.Test.YtbimjggkiiadmaaGreatDoorGRaftNone10
set_option linter.unusedVariables false
set_option linter.unusedSimpArgs false
namespace Go.Proofs.YtbimjggkiiadmaaGreatDoor
open Go.RowKit
set_option maxRecDepth 20000
set_option maxHeartbeats 4000000 in
theorem pmay_any {w : World} {B pb lb : Nat} {s : PP} {vs : List Int} {ps : List EnP} (n tt t2 : Int) (ok : Bool) (h : PeerIs w B pb lb s vs ps) (hr : s.role = 3) (hc : s.commit = n) (hn : 0 ≤ n ∧ n ≤ 1000) (hlast : lastS 0 0 ps = (n, tt)) (hterm : termS 0 0 ps n = (t2, ok)) (hl : ps.length ≤ 1000) :
    Calls Tryz.prog 20 #[.pointer (some ⟨pb, 0, none⟩), .agg #[.int .i64 0, .int .u8 2, .int .i64 0, .int .i64 0, .int .u8 0, .string ⟨#[]⟩, .slice none 0 0, .int .i64 0, .slice none 0 0]] w fun e w' => e = .returned (.int .i64 0) ∧ Below w.heap.size w w' := by
  have hb1 := (Below.refl w.heap.size w).alloc (Nat.le_refl _) (.cells #[.int .i64 0, .int .u8 2, .int .i64 0, .int .i64 0, .int .u8 0, .string ⟨#[]⟩, .slice none 0 0, .int .i64 0, .slice none 0 0] 34)
  have k1 := heap_alloc_new w (.cells #[.int .i64 0, .int .u8 2, .int .i64 0, .int .i64 0, .int .u8 0, .string ⟨#[]⟩, .slice none 0 0, .int .i64 0, .slice none 0 0] 34)
  have H := Lib.hid h
  have HR := Lib.hid hr
  have HC := Lib.hid hc
  clear h hr hc
  go_enter Tryz.func20, Tryz.ntmps20
  go_upto_region 1 with fail
  generalize w.alloc (.cells #[.int .i64 0, .int .u8 2, .int .i64 0, .int .i64 0, .int .u8 0, .string ⟨#[]⟩, .slice none 0 0, .int .i64 0, .slice none 0 0] 34) = w1 at hb1 k1 ⊢
  have h1 := H.out.below hb1 (Nat.le_refl _)
  have c1 : w1.cell? ⟨pb, 40, none⟩ = some (.pointer (some ⟨lb, 0, none⟩)) := (h1.cells 40).trans (congrArg some h1.lg)
  have H1 := Lib.hid h1
  have HB1 := Lib.hid hb1
  have K1 := Lib.hid k1
  clear h1 hb1 k1 H
  go_wp2_with fail
  refine (last_is B lb 0 0 ps n tt w1 hlast H1.out.log (nums_any _ _ hl (by omega))).mono ?_
  rintro e w2 ⟨rfl, hb2⟩
  have H2 := Lib.hid (H1.out.below hb2 (Nat.le_refl _))
  have HB2 := Lib.hid (HB1.out.trans (hb2.mono HB1.out.size))
  have K2 := Lib.hid ((hb2.block _ (Array.getElem?_eq_some_iff.1 K1.out).1).trans K1.out)
  clear hb2 c1 H1 HB1 K1
  go_upto_region 2 with fail
  have HCC := Lib.hid (fun (wS : World) (hb : Below w2.heap.size w2 wS) => And.intro (show wS.cell? ⟨pb, 40, none⟩ = some (.pointer (some ⟨lb, 0, none⟩)) from ((H2.out.below hb (Nat.le_refl _)).cells 40).trans (congrArg some H2.out.lg)) (show wS.cell? ⟨pb, 4, none⟩ = some (.int .i64 n) from ((H2.out.below hb (Nat.le_refl _)).cells 4).trans (congrArg (fun x => some (Value.int .i64 x)) HC.out)))
  have hd2 := H2.out.below (Below.refl w2.heap.size w2).drew (Nat.le_refl _)
  refine heldS_begin (fun w' => Below w2.heap.size w2 w') (by kernel_rfl) ((Below.refl _ _).drew) ?_
  intro hS0
  (first | (refine takeS_no 0 rfl (by kernel_rfl) (by kernel_rfl) (by kernel_rfl) (fun _ _ _ h => h) (by rfl) (by assumption) ?_) | (refine takeS_yes (v := ?_) 0 rfl (by kernel_rfl) (by kernel_rfl) (by kernel_rfl) (fun _ _ _ h => h) (by rfl) (by assumption) ?_ ?_; rotate_left; focus (intro wS hSw; obtain ⟨q0, q1⟩ := HCC.out wS hSw; go_simp; first | done | with_reducible rfl)))
  (try simp only [Act.put, List.setIfInBounds_toArray, List.set_cons_zero, List.set_cons_succ])
  (first | (refine takeS_no 1 rfl (by kernel_rfl) (by kernel_rfl) (by kernel_rfl) (fun _ _ _ h => h) (by rfl) (by assumption) ?_) | (refine takeS_yes (v := ?_) 1 rfl (by kernel_rfl) (by kernel_rfl) (by kernel_rfl) (fun _ _ _ h => h) (by rfl) (by assumption) ?_ ?_; rotate_left; focus (intro wS hSw; obtain ⟨q0, q1⟩ := HCC.out wS hSw; go_simp; first | done | with_reducible rfl)))
  (try simp only [Act.put, List.setIfInBounds_toArray, List.set_cons_zero, List.set_cons_succ])
  (first | (refine takeS_no 2 rfl (by kernel_rfl) (by kernel_rfl) (by kernel_rfl) (fun _ _ _ h => h) (by rfl) (by assumption) ?_) | (refine takeS_yes (v := ?_) 2 rfl (by kernel_rfl) (by kernel_rfl) (by kernel_rfl) (fun _ _ _ h => h) (by rfl) (by assumption) ?_ ?_; rotate_left; focus (intro wS hSw; obtain ⟨q0, q1⟩ := HCC.out wS hSw; go_simp; first | done | with_reducible rfl)))
  (try simp only [Act.put, List.setIfInBounds_toArray, List.set_cons_zero, List.set_cons_succ])
  (first | (refine takeS_no 3 rfl (by kernel_rfl) (by kernel_rfl) (by kernel_rfl) (fun _ _ _ h => h) (by rfl) (by assumption) ?_) | (refine takeS_yes (v := ?_) 3 rfl (by kernel_rfl) (by kernel_rfl) (by kernel_rfl) (fun _ _ _ h => h) (by rfl) (by assumption) ?_ ?_; rotate_left; focus (intro wS hSw; obtain ⟨q0, q1⟩ := HCC.out wS hSw; go_simp; first | done | with_reducible rfl)))
  (try simp only [Act.put, List.setIfInBounds_toArray, List.set_cons_zero, List.set_cons_succ])
  (first | (refine takeS_no 4 rfl (by kernel_rfl) (by kernel_rfl) (by kernel_rfl) (fun _ _ _ h => h) (by rfl) (by assumption) ?_) | (refine takeS_yes (v := ?_) 4 rfl (by kernel_rfl) (by kernel_rfl) (by kernel_rfl) (fun _ _ _ h => h) (by rfl) (by assumption) ?_ ?_; rotate_left; focus (intro wS hSw; obtain ⟨q0, q1⟩ := HCC.out wS hSw; go_simp; first | done | with_reducible rfl)))
  (try simp only [Act.put, List.setIfInBounds_toArray, List.set_cons_zero, List.set_cons_succ])
  (first | (refine takeS_no 5 rfl (by kernel_rfl) (by kernel_rfl) (by kernel_rfl) (fun _ _ _ h => h) (by rfl) (by assumption) ?_) | (refine takeS_yes (v := ?_) 5 rfl (by kernel_rfl) (by kernel_rfl) (by kernel_rfl) (fun _ _ _ h => h) (by rfl) (by assumption) ?_ ?_; rotate_left; focus (intro wS hSw; obtain ⟨q0, q1⟩ := HCC.out wS hSw; go_simp; first | done | with_reducible rfl)))
  (try simp only [Act.put, List.setIfInBounds_toArray, List.set_cons_zero, List.set_cons_succ])
  (first | (refine takeS_no 6 rfl (by kernel_rfl) (by kernel_rfl) (by kernel_rfl) (fun _ _ _ h => h) (by rfl) (by assumption) ?_) | (refine takeS_yes (v := ?_) 6 rfl (by kernel_rfl) (by kernel_rfl) (by kernel_rfl) (fun _ _ _ h => h) (by rfl) (by assumption) ?_ ?_; rotate_left; focus (intro wS hSw; obtain ⟨q0, q1⟩ := HCC.out wS hSw; go_simp; first | done | with_reducible rfl)))
  (try simp only [Act.put, List.setIfInBounds_toArray, List.set_cons_zero, List.set_cons_succ])
  (first | (refine takeS_no 7 rfl (by kernel_rfl) (by kernel_rfl) (by kernel_rfl) (fun _ _ _ h => h) (by rfl) (by assumption) ?_) | (refine takeS_yes (v := ?_) 7 rfl (by kernel_rfl) (by kernel_rfl) (by kernel_rfl) (fun _ _ _ h => h) (by rfl) (by assumption) ?_ ?_; rotate_left; focus (intro wS hSw; obtain ⟨q0, q1⟩ := HCC.out wS hSw; go_simp; first | done | with_reducible rfl)))
  (try simp only [Act.put, List.setIfInBounds_toArray, List.set_cons_zero, List.set_cons_succ])
  (first | (refine takeS_no 8 rfl (by kernel_rfl) (by kernel_rfl) (by kernel_rfl) (fun _ _ _ h => h) (by rfl) (by assumption) ?_) | (refine takeS_yes (v := ?_) 8 rfl (by kernel_rfl) (by kernel_rfl) (by kernel_rfl) (fun _ _ _ h => h) (by rfl) (by assumption) ?_ ?_; rotate_left; focus (intro wS hSw; obtain ⟨q0, q1⟩ := HCC.out wS hSw; go_simp; first | done | with_reducible rfl)))
  (try simp only [Act.put, List.setIfInBounds_toArray, List.set_cons_zero, List.set_cons_succ])
  refine takeS_alone 9 rfl (by kernel_rfl) (by rfl) (fun K hK => ?_)
  go_simp
  (refine (term_is B lb 0 0 ps n t2 ok w2.drew hterm hd2.log (nums_any _ _ hl (by omega))).mono ?_; rintro e w3 ⟨rfl, hb3⟩; have hS3 := (Below.refl w2.heap.size w2).drew.trans hb3; clear hb3)
  refine hK.out _ _ (by assumption) ?_
  clear hK K
  (try simp only [Act.put, List.setIfInBounds_toArray, List.set_cons_zero, List.set_cons_succ])
  (first | (refine takeS_no 10 rfl (by kernel_rfl) (by kernel_rfl) (by kernel_rfl) (fun _ _ _ h => h) (by rfl) (by assumption) ?_) | (refine takeS_yes (v := ?_) 10 rfl (by kernel_rfl) (by kernel_rfl) (by kernel_rfl) (fun _ _ _ h => h) (by rfl) (by assumption) ?_ ?_; rotate_left; focus (intro wS hSw; obtain ⟨q0, q1⟩ := HCC.out wS hSw; go_simp; first | done | with_reducible rfl)))
  (try simp only [Act.put, List.setIfInBounds_toArray, List.set_cons_zero, List.set_cons_succ])
  (first | (refine takeS_no 11 rfl (by kernel_rfl) (by kernel_rfl) (by kernel_rfl) (fun _ _ _ h => h) (by rfl) (by assumption) ?_) | (refine takeS_yes (v := ?_) 11 rfl (by kernel_rfl) (by kernel_rfl) (by kernel_rfl) (fun _ _ _ h => h) (by rfl) (by assumption) ?_ ?_; rotate_left; focus (intro wS hSw; obtain ⟨q0, q1⟩ := HCC.out wS hSw; go_simp; first | done | with_reducible rfl)))
  (try simp only [Act.put, List.setIfInBounds_toArray, List.set_cons_zero, List.set_cons_succ])
  (first | (refine takeS_no 12 rfl (by kernel_rfl) (by kernel_rfl) (by kernel_rfl) (fun _ _ _ h => h) (by rfl) (by assumption) ?_) | (refine takeS_yes (v := ?_) 12 rfl (by kernel_rfl) (by kernel_rfl) (by kernel_rfl) (fun _ _ _ h => h) (by rfl) (by assumption) ?_ ?_; rotate_left; focus (intro wS hSw; obtain ⟨q0, q1⟩ := HCC.out wS hSw; go_simp; first | done | with_reducible rfl)))
  (try simp only [Act.put, List.setIfInBounds_toArray, List.set_cons_zero, List.set_cons_succ])
  (first | (refine takeS_no 13 rfl (by kernel_rfl) (by kernel_rfl) (by kernel_rfl) (fun _ _ _ h => h) (by rfl) (by assumption) ?_) | (refine takeS_yes (v := ?_) 13 rfl (by kernel_rfl) (by kernel_rfl) (by kernel_rfl) (fun _ _ _ h => h) (by rfl) (by assumption) ?_ ?_; rotate_left; focus (intro wS hSw; obtain ⟨q0, q1⟩ := HCC.out wS hSw; go_simp; first | done | with_reducible rfl)))
  (try simp only [Act.put, List.setIfInBounds_toArray, List.set_cons_zero, List.set_cons_succ])
  (first | (refine takeS_no 14 rfl (by kernel_rfl) (by kernel_rfl) (by kernel_rfl) (fun _ _ _ h => h) (by rfl) (by assumption) ?_) | (refine takeS_yes (v := ?_) 14 rfl (by kernel_rfl) (by kernel_rfl) (by kernel_rfl) (fun _ _ _ h => h) (by rfl) (by assumption) ?_ ?_; rotate_left; focus (intro wS hSw; obtain ⟨q0, q1⟩ := HCC.out wS hSw; go_simp; first | done | with_reducible rfl)))
  (try simp only [Act.put, List.setIfInBounds_toArray, List.set_cons_zero, List.set_cons_succ])
  refine wpAnyH_done (by kernel_rfl) ?_ _
  (try simp only [Exit.then])
  (try (rename (∀ (_ : Act) (_ : World), _ → _) => hK0; refine hK0 _ _ ?_; clear hK0))
  have H3 := Lib.hid (H2.out.below hS3 (Nat.le_refl _))
  have HB3 := Lib.hid (HB2.out.trans (hS3.mono HB2.out.size))
  have K3 := Lib.hid ((hS3.block _ (Array.getElem?_eq_some_iff.1 K2.out).1).trans K2.out)
  clear hS0 hS3 hd2 H2 HB2 K2 HCC
  have e0 : w3.cell? ⟨w.heap.size, 1, none⟩ = some (.int .u8 2) := Go.Joins.cell_of_block K3.out 1
  have e1 : w3.cell? ⟨pb, 41, none⟩ = some (.int .u8 3) := (H3.out.cells 41).trans (congrArg (fun x => some (Value.int .u8 x)) HR.out)
  have e2 : w3.cell? ⟨pb, 4, none⟩ = some (.int .i64 n) := (H3.out.cells 4).trans (congrArg (fun x => some (Value.int .i64 x)) HC.out)
  have d0 : decide ((1099511627776 : Int) ≤ n) = false := by simp; omega
  have d1 : ¬ (1099511627776 : Int) ≤ n := by omega
  go_upto_region 6 with fail
  go_quiet (fail)
  go_upto_region 8 with fail
  go_quiet (fail)
  go_wp2_with fail
  go_ret
  exact ⟨rfl, below_drewN HB3.out _⟩
theorem Stay.box {w : World} {B pb lb C D g : Nat} {s : PP} {vs : List Int} {ps : List EnP} {cs : Array Value} {fr : Nat × Nat} (h : PeerGap w B pb lb s vs ps C D) (hb : w.heap[g]? = some (.cells cs 34 fr)) (hg : C ≤ g) (k : Nat) (u : Value) : Stay B w (w.setCell ⟨g, k, none⟩ u) :=
  ⟨(Below.refl B w).setCell (p := ⟨g, k, none⟩) (by have := h.peer.low; have := h.at1; show B ≤ g; omega) u, KS.grow hb (Or.inr (Or.inr (Or.inl rfl))) (grown_setL w ⟨g, k, none⟩ u)⟩
/-- A peer apart, the box of itself, the box of what is asked. -/
def AskS (B pb lb tb eb C D : Nat) (s : PP) (vs : List Int) (wS : World) : Prop := ∃ qs, PeerGap wS B pb lb s vs qs C D ∧ wS.heap[tb]? = some (.cells #[.pointer (some ⟨pb, 0, none⟩)] 41 (0, 0)) ∧ wS.heap[eb]? = some (.cells #[.int .i64 1, .int .u8 2, .int .i64 0, .int .i64 0, .int .u8 0, .string ⟨#[]⟩, .slice none 0 0, .int .i64 0, .slice none 0 0] 34 (0, 0))
theorem AskS.cells {B pb lb tb eb C D : Nat} {s : PP} {vs : List Int} {wS : World} (h : AskS B pb lb tb eb C D s vs wS) : wS.cell? ⟨tb, 0, none⟩ = some (.pointer (some ⟨pb, 0, none⟩)) ∧ wS.cell? ⟨pb, 40, none⟩ = some (.pointer (some ⟨lb, 0, none⟩)) ∧ wS.cell? ⟨eb, 0, none⟩ = some (.int .i64 1) ∧ wS.cell? ⟨eb, 1, none⟩ = some (.int .u8 2) ∧ wS.cell? ⟨eb, 2, none⟩ = some (.int .i64 0) ∧ wS.cell? ⟨eb, 3, none⟩ = some (.int .i64 0) ∧ wS.cell? ⟨eb, 4, none⟩ = some (.int .u8 0) ∧ wS.cell? ⟨eb, 5, none⟩ = some (.string ⟨#[]⟩) ∧ wS.cell? ⟨eb, 6, none⟩ = some (.slice none 0 0) ∧ wS.cell? ⟨eb, 7, none⟩ = some (.int .i64 0) ∧ wS.cell? ⟨eb, 8, none⟩ = some (.slice none 0 0) := by
  obtain ⟨qs, h1, h2, h3⟩ := h
  exact ⟨Go.Joins.cell_of_block h2 0, (h1.peer.cells 40).trans (congrArg some h1.peer.lg), Go.Joins.cell_of_block h3 0, Go.Joins.cell_of_block h3 1, Go.Joins.cell_of_block h3 2, Go.Joins.cell_of_block h3 3, Go.Joins.cell_of_block h3 4, Go.Joins.cell_of_block h3 5, Go.Joins.cell_of_block h3 6, Go.Joins.cell_of_block h3 7, Go.Joins.cell_of_block h3 8⟩
/-- Two boxes. -/
def TwoB (pb tb ab : Nat) (r : Int) (wS : World) : Prop := wS.heap[tb]? = some (.cells #[.pointer (some ⟨pb, 0, none⟩)] 41 (0, 0)) ∧ wS.heap[ab]? = some (.cells #[.int .i64 r] 3 (0, 0))
theorem TwoB.cells {pb tb ab : Nat} {r : Int} {wS : World} (h : TwoB pb tb ab r wS) : wS.cell? ⟨tb, 0, none⟩ = some (.pointer (some ⟨pb, 0, none⟩)) ∧ wS.cell? ⟨ab, 0, none⟩ = some (.int .i64 r) := ⟨Go.Joins.cell_of_block h.1 0, Go.Joins.cell_of_block h.2 0⟩
set_option maxHeartbeats 600000 in
theorem ppropose_clo {w : World} {B pb lb tb eb ab C D : Nat} {s : PP} {vs : List Int} {ps : List EnP} (m n r : Int) (h : PeerGap w B pb lb s vs ps C D) (ht : w.heap[tb]? = some (.cells #[.pointer (some ⟨pb, 0, none⟩)] 41 (0, 0))) (he : w.heap[eb]? = some (.cells #[.int .i64 0, .int .u8 2, .int .i64 0, .int .i64 0, .int .u8 0, .string ⟨#[]⟩, .slice none 0 0, .int .i64 0, .slice none 0 0] 34 (0, 0))) (ha : w.heap[ab]? = some (.cells #[.int .i64 0] 3 (0, 0)))
    (hgt : C ≤ tb ∧ tb < D) (hge : C ≤ eb ∧ eb < D) (hga : C ≤ ab ∧ ab < D) (hne : tb ≠ eb ∧ tb ≠ ab) (hD : D ≤ w.heap.size) (htm : s.term = 1) (hf : s.frm = 0) (hr : r = ps.length + 1) (hr0 : 0 < r) (hl : ps.length ≤ 900) (hs : Settles { s with frm := r } vs (ps ++ [(bareE 1 2).plain]) m n 1) :
    Calls Tryz.prog 22 #[.pointer (some ⟨tb, 0, none⟩), .pointer (some ⟨eb, 0, none⟩), .pointer (some ⟨ab, 0, none⟩)] w (EndIs fun w' => PeerIs w' B pb lb { s with frm := r, mt := ⟨0, n, 0, 0, 0, 0, 0, 0, 0, 0⟩, commit := n } vs (ps ++ [(bareE 1 2).plain]) ∧ Below B w w' ∧ KB w w' ∧ w'.heap[ab]? = some (.cells #[.int .i64 r] 3 (0, 0))) := by
  have HS := Lib.hid hs
  have hbx : eb ≠ ab := fun e => by rw [e, ha] at he; simp only [Option.some.injEq, Obj.cells.injEq] at he; exact absurd he.2.1 (by decide)
  have c0 := Go.Joins.cell_of_block ht 0
  have c1 : w.cell? ⟨pb, 0, none⟩ = some (.int .i64 1) := (h.peer.cells 0).trans (congrArg (fun x => some (Value.int .i64 x)) htm)
  have c2 := Go.Joins.cell_of_block he 0
  have f2 := Go.Joins.unfrozen_of_block he 0
  have h1 := h.store hge 0 (.int .i64 1)
  have st1 := Stay.box h he hge.1 0 (.int .i64 1)
  have t1 := (heap_setCell_other w ⟨eb, 0, none⟩ tb (.int .i64 1) hne.1).trans ht
  have a1 := (heap_setCell_other w ⟨eb, 0, none⟩ ab (.int .i64 1) (fun e => hbx e.symm)).trans ha
  have e1 := Go.Joins.block_setCell (i := 0) he (.int .i64 1)
  have hD1 : D ≤ (w.setCell ⟨eb, 0, none⟩ (.int .i64 1)).heap.size := by simpa using hD
  have HR := Lib.hid hr
  clear h ht he ha hs hD hr
  go_enter Tryz.func22, Tryz.ntmps22
  go_upto_region 1 with fail
  generalize w.setCell ⟨eb, 0, none⟩ (.int .i64 1) = w1 at h1 st1 t1 a1 e1 hD1 ⊢
  clear c0 c1 c2 f2
  have hb2 := (Below.refl w1.heap.size w1).drew
  have h2 := h1.below hb2
  have st2 := st1.trans (Stay.below hb2 (Nat.le_trans h1.peer.low (Nat.le_of_lt h1.peer.lt)))
  have t2 := (hb2.block tb (Array.getElem?_eq_some_iff.1 t1).1).trans t1
  have a2 := (hb2.block ab (Array.getElem?_eq_some_iff.1 a1).1).trans a1
  have e2 : w1.drew.heap[eb]? = some (.cells #[.int .i64 1, .int .u8 2, .int .i64 0, .int .i64 0, .int .u8 0, .string ⟨#[]⟩, .slice none 0 0, .int .i64 0, .slice none 0 0] 34 (0, 0)) := (hb2.block eb (Array.getElem?_eq_some_iff.1 e1).1).trans e1
  have hD2 : D ≤ w1.drew.heap.size := Nat.le_trans hD1 hb2.size
  have hS2 : AskS B pb lb tb eb C D s vs w1.drew := ⟨_, h2, t2, e2⟩
  clear h1 st1 t1 a1 e1 hD1 hb2
  refine heldT_begin (fun wS => AskS B pb lb tb eb C D s vs wS) (by kernel_rfl) (hS2) ?_
  intro hS0
  refine takeT_yes (v := ?_) 7 0 rfl (by kernel_rfl) (by kernel_rfl) (by kernel_rfl) (by kernel_rfl) (by kernel_rfl) (fun _ _ _ h => h) (by rfl) (by assumption) ?_ ?_; rotate_left; focus (intro wS hSw; obtain ⟨q0, q1, d0, d1, d2, d3, d4, d5, d6, d7, d8⟩ := AskS.cells hSw; go_simp; first | done | with_reducible rfl)
  (try simp only [Act.put, List.setIfInBounds_toArray, List.set_cons_zero, List.set_cons_succ])
  refine takeT_yes (v := ?_) 7 1 rfl (by kernel_rfl) (by kernel_rfl) (by kernel_rfl) (by kernel_rfl) (by kernel_rfl) (fun _ _ _ h => h) (by rfl) (by assumption) ?_ ?_; rotate_left; focus (intro wS hSw; obtain ⟨q0, q1, d0, d1, d2, d3, d4, d5, d6, d7, d8⟩ := AskS.cells hSw; go_simp; first | done | with_reducible rfl)
  (try simp only [Act.put, List.setIfInBounds_toArray, List.set_cons_zero, List.set_cons_succ])
  refine takeT_yes (v := ?_) 7 2 rfl (by kernel_rfl) (by kernel_rfl) (by kernel_rfl) (by kernel_rfl) (by kernel_rfl) (fun _ _ _ h => h) (by rfl) (by assumption) ?_ ?_; rotate_left; focus (intro wS hSw; obtain ⟨q0, q1, d0, d1, d2, d3, d4, d5, d6, d7, d8⟩ := AskS.cells hSw; go_simp; first | done | with_reducible rfl)
  (try simp only [Act.put, List.setIfInBounds_toArray, List.set_cons_zero, List.set_cons_succ])
  refine takeT_yes (v := ?_) 7 3 rfl (by kernel_rfl) (by kernel_rfl) (by kernel_rfl) (by kernel_rfl) (by kernel_rfl) (fun _ _ _ h => h) (by rfl) (by assumption) ?_ ?_; rotate_left; focus (intro wS hSw; obtain ⟨q0, q1, d0, d1, d2, d3, d4, d5, d6, d7, d8⟩ := AskS.cells hSw; go_simp; first | done | with_reducible rfl)
  (try simp only [Act.put, List.setIfInBounds_toArray, List.set_cons_zero, List.set_cons_succ])
  refine takeT_yes (v := ?_) 7 4 rfl (by kernel_rfl) (by kernel_rfl) (by kernel_rfl) (by kernel_rfl) (by kernel_rfl) (fun _ _ _ h => h) (by rfl) (by assumption) ?_ ?_; rotate_left; focus (intro wS hSw; obtain ⟨q0, q1, d0, d1, d2, d3, d4, d5, d6, d7, d8⟩ := AskS.cells hSw; go_simp; first | done | with_reducible rfl)
  (try simp only [Act.put, List.setIfInBounds_toArray, List.set_cons_zero, List.set_cons_succ])
  clear hS0
  generalize w1.drew = w2 at h2 st2 t2 a2 e2 hD2 hS2 ⊢
  refine takeT_one 5 rfl (by kernel_rfl) (by rfl) (fun K hK => ?_)
  go_simp
  (have hb3 := (Below.refl w2.heap.size w2).alloc (Nat.le_refl _) (.cells #[.int .i64 1, .int .u8 2, .int .i64 0, .int .i64 0, .int .u8 0, .string ⟨#[]⟩, .slice none 0 0, .int .i64 0, .slice none 0 0] 34); have k3 := heap_alloc_new w2 (.cells #[.int .i64 1, .int .u8 2, .int .i64 0, .int .i64 0, .int .u8 0, .string ⟨#[]⟩, .slice none 0 0, .int .i64 0, .slice none 0 0] 34); generalize w2.alloc (.cells #[.int .i64 1, .int .u8 2, .int .i64 0, .int .i64 0, .int .u8 0, .string ⟨#[]⟩, .slice none 0 0, .int .i64 0, .slice none 0 0] 34) = w3 at hb3 k3 ⊢; have h3 := h2.below hb3; have st3 := st2.trans (Stay.below hb3 (Nat.le_trans h2.peer.low (Nat.le_of_lt h2.peer.lt))); have t3 := (hb3.block tb (Array.getElem?_eq_some_iff.1 t2).1).trans t2; have a3 := (hb3.block ab (Array.getElem?_eq_some_iff.1 a2).1).trans a2; have e3 := (hb3.block eb (Array.getElem?_eq_some_iff.1 e2).1).trans e2; have hD3 : D ≤ w3.heap.size := Nat.le_trans hD2 hb3.size; have hS3 : AskS B pb lb tb eb C D s vs w3 := ⟨_, h3, t3, e3⟩; clear h2 st2 t2 a2 e2 hD2 hS2 hb3)
  refine hK.out _ _ (fun _ => by assumption) ?_
  clear hK K
  (try simp only [Act.put, List.setIfInBounds_toArray, List.set_cons_zero, List.set_cons_succ])
  refine takeT_one 6 rfl (by kernel_rfl) (by rfl) (fun K hK => ?_)
  go_simp
  (refine (pappend_gap 1 2 r h3 hD3 HR.out (by omega) k3).mono ?_; rintro e w4 ⟨rfl, h4, st4, hq4⟩; have st4 := st3.trans st4; have t4 := (hq4 tb (by omega) hgt.1 hgt.2).trans t3; have a4 := (hq4 ab (by omega) hga.1 hga.2).trans a3; have e4 := (hq4 eb (by omega) hge.1 hge.2).trans e3; have hS4 : AskS B pb lb tb eb C D s vs w4 := ⟨_, h4, t4, e4⟩; clear h3 st3 t3 a3 e3 hD3 hS3 k3 hq4)
  refine hK.out _ _ (fun _ => by assumption) ?_
  clear hK K
  (try simp only [Act.put, List.setIfInBounds_toArray, List.set_cons_zero, List.set_cons_succ])
  refine takeT_one 7 rfl (by kernel_rfl) (by rfl) (fun K hK => ?_)
  (have c4 := Go.Joins.cell_of_block a4 0; have f4 := Go.Joins.unfrozen_of_block a4 0; go_simp; have h5 := (h4.store hga 0 (.int .i64 r)).peer; have bl5 := st4.1.setCell (p := ⟨ab, 0, none⟩) (by have := h4.peer.low; have := h4.at1; show B ≤ ab; omega) (.int .i64 r); have t5 := (heap_setCell_other w4 ⟨ab, 0, none⟩ tb (.int .i64 r) hne.2).trans t4; have a5 := Go.Joins.block_setCell (i := 0) a4 (.int .i64 r); have kb5 := st4.2.weak.grow a4 (Or.inr (Or.inr (Or.inr (Or.inr rfl)))) (grown_setL w4 ⟨ab, 0, none⟩ (.int .i64 r)); clear c4 f4 h4 st4 t4 a4 e4 hS4; generalize w4.setCell ⟨ab, 0, none⟩ (.int .i64 r) = w5 at h5 bl5 t5 a5 kb5 ⊢)
  refine hK.out _ _ (fun h => left_none h (by kernel_rfl)) ?_
  clear hK K
  (try simp only [Act.put, List.setIfInBounds_toArray, List.set_cons_zero, List.set_cons_succ])
  refine wpAnyT_done (by kernel_rfl) ?_ _
  (try simp only [Exit.then])
  (try (rename (∀ (_ : Act) (_ : World), _ → _) => hK0; refine hK0 _ _ ?_; clear hK0))
  go_upto_region 2 with fail
  have hb6 := (Below.refl w5.heap.size w5).drew
  have h6 := h5.below hb6 (Nat.le_refl _)
  have bl6 := bl5.drew
  have t6 := (hb6.block tb (Array.getElem?_eq_some_iff.1 t5).1).trans t5
  have a6 := (hb6.block ab (Array.getElem?_eq_some_iff.1 a5).1).trans a5
  have kb6 := kb5.low hb6 (Nat.le_trans bl5.size (Nat.le_refl _))
  have hS6 : TwoB pb tb ab r w5.drew := ⟨t6, a6⟩
  trace "1"
  clear h5 bl5 t5 a5 kb5 hb6
  refine heldT_begin (fun wS => TwoB pb tb ab r wS) (by kernel_rfl) (hS6) ?_
  intro hS0
  refine takeT_yes (v := ?_) 1 0 rfl (by kernel_rfl) (by kernel_rfl) (by kernel_rfl) (by kernel_rfl) (by kernel_rfl) (fun _ _ _ h => h) (by rfl) (by assumption) ?_ ?_; rotate_left; focus (intro wS hSw; obtain ⟨q0, q1⟩ := TwoB.cells hSw; go_simp; first | done | with_reducible rfl)
  (try simp only [Act.put, List.setIfInBounds_toArray, List.set_cons_zero, List.set_cons_succ])
  refine takeT_yes (v := ?_) 2 1 rfl (by kernel_rfl) (by kernel_rfl) (by kernel_rfl) (by kernel_rfl) (by kernel_rfl) (fun _ _ _ h => h) (by rfl) (by assumption) ?_ ?_; rotate_left; focus (intro wS hSw; obtain ⟨q0, q1⟩ := TwoB.cells hSw; go_simp; first | done | with_reducible rfl)
  (try simp only [Act.put, List.setIfInBounds_toArray, List.set_cons_zero, List.set_cons_succ])
  refine takeT_yes (v := ?_) 4 2 rfl (by kernel_rfl) (by kernel_rfl) (by kernel_rfl) (by kernel_rfl) (by kernel_rfl) (fun _ _ _ h => h) (by rfl) (by assumption) ?_ ?_; rotate_left; focus (intro wS hSw; obtain ⟨q0, q1⟩ := TwoB.cells hSw; go_simp; first | done | with_reducible rfl)
  (try simp only [Act.put, List.setIfInBounds_toArray, List.set_cons_zero, List.set_cons_succ])
  refine takeT_yes (v := ?_) 4 3 rfl (by kernel_rfl) (by kernel_rfl) (by kernel_rfl) (by kernel_rfl) (by kernel_rfl) (fun _ _ _ h => h) (by rfl) (by assumption) ?_ ?_; rotate_left; focus (intro wS hSw; obtain ⟨q0, q1⟩ := TwoB.cells hSw; go_simp; first | done | with_reducible rfl)
  (try simp only [Act.put, List.setIfInBounds_toArray, List.set_cons_zero, List.set_cons_succ])
  trace "2"
  clear hS0
  generalize w5.drew = w6 at h6 bl6 t6 a6 kb6 hS6 ⊢
  refine takeT_one 4 rfl (by kernel_rfl) (by rfl) (fun K hK => ?_)
  go_simp
  (refine (panew_any r h6 hf hr0).mono ?_; rintro e w7 ⟨rfl, h7, st7⟩)
  refine hK.out _ _ (fun h => left_none h (by kernel_rfl)) ?_
  clear hK K
  (try simp only [Act.put, List.setIfInBounds_toArray, List.set_cons_zero, List.set_cons_succ])
  refine wpAnyT_done (by kernel_rfl) ?_ _
  (try simp only [Exit.then])
  (try (rename (∀ (_ : Act) (_ : World), _ → _) => hK0; refine hK0 _ _ ?_; clear hK0))
  trace "3"
  have t7 := Go.Joins.cell_of_block ((st7.2 tb _ _ _ t6 (by decide) (by decide) (by decide) (by decide)).trans t6) 0
  have a7 := (st7.2 ab _ _ _ a6 (by decide) (by decide) (by decide) (by decide)).trans a6
  trace "4"
  have HBL7 := Lib.hid (bl6.trans st7.1)
  have HKB7 := Lib.hid (kb6.trans st7.2.weak)
  have H7 := Lib.hid h7
  clear h6 bl6 t6 a6 kb6 hS6 st7 h7
  go_wp2_with fail
  trace "5"
  refine (psettle_any m n 1 H7.out HS.out).mono ?_
  rintro e w8 ⟨rfl, h8, st8⟩
  trace "6"
  have H8 := Lib.hid h8
  have ST8 := Lib.hid st8
  clear h8 st8
  go_wp2_with fail
  go_end0
  trace "7"
  exact ⟨rfl, H8.out, HBL7.out.trans ST8.out.1, HKB7.out.trans ST8.out.2.weak, (ST8.out.2 ab _ _ _ a7 (by decide) (by decide) (by decide) (by decide)).trans a7⟩
end Go.Proofs.YtbimjggkiiadmaaGreatDoor
/- A leader is asked for a command. Conditions: it leads, and has committed one entry. -/
namespace Go.Proofs.YtbimjggkiiadmaaGreatDoor
open Go.RowKit
set_option maxRecDepth 20000
theorem propose_enters : ∀ args w, (callFunc 22 args).run Tryz.prog w = .ok (.enter 22 args) w := enters_of Tryz.func22 (by kernel_rfl) rfl
theorem info_ent9 : (Tryz.prog.info? 34).map (·.size) = some 9 := by kernel_rfl
theorem results_tct {P : Program} {fn : Func} {p u z : Tmp} {ty : TypeId} (h : fn.results = #[.tmp u, .cell p ty, .tmp z]) (tmps : Array Value) (w : World) (g : Nat) (t : TypeId) (cs : Array Value) (fr : Nat × Nat) (d : TypeDesc) (v x : Value)
    (hp : tmps.getD p undef = .pointer (some ⟨g, 0, none⟩)) (hv : tmps.getD u undef = v) (hx : tmps.getD z undef = x) (hg : w.heap[g]? = some (.cells cs t fr))
    (hu : P.underlying ty = some d) (hd : (match d with | .struct _ | .array _ _ => true | _ => false) = true) (hi : (P.info? ty).map (·.size) = some cs.size) :
    (results fn tmps).run P w = .ok (.tuple #[v, .agg cs, x]) w := by
  have hp' : tmps[p]?.getD undef = .pointer (some ⟨g, 0, none⟩) := by simpa using hp
  have hv' : tmps[u]?.getD undef = v := by simpa using hv
  have hx' : tmps[z]?.getD undef = x := by simpa using hx
  simp [results, h, hp', hv', hx', asAddr, run_loadVar_row w g t ty cs fr d hg hu hd hi, Sem.run_bind, Result.andThen]
/-- A number's box, and the box of what is told. -/
def AtS (ab b9 : Nat) (t : PP) (wS : World) : Prop := wS.heap[ab]? = some (.cells #[.int .i64 2] 3 (0, 0)) ∧ wS.heap[b9]? = some (.cells #[.int .i64 t.term, .int .i64 t.voted, .int .i64 t.frm, t.letters, .int .i64 t.commit, t.snap, .int .i64 t.sure, .bool t.lost] 45 (0, 0))
theorem AtS.cells {ab b9 : Nat} {t : PP} {wS : World} (h : AtS ab b9 t wS) : wS.cell? ⟨ab, 0, none⟩ = some (.int .i64 2) ∧ wS.cell? ⟨b9, 0, none⟩ = some (.int .i64 t.term) ∧ wS.cell? ⟨b9, 1, none⟩ = some (.int .i64 t.voted) ∧ wS.cell? ⟨b9, 2, none⟩ = some (.int .i64 t.frm) ∧ wS.cell? ⟨b9, 3, none⟩ = some t.letters ∧ wS.cell? ⟨b9, 4, none⟩ = some (.int .i64 t.commit) ∧ wS.cell? ⟨b9, 5, none⟩ = some t.snap ∧ wS.cell? ⟨b9, 6, none⟩ = some (.int .i64 t.sure) ∧ wS.cell? ⟨b9, 7, none⟩ = some (.bool t.lost) :=
  ⟨Go.Joins.cell_of_block h.1 0, Go.Joins.cell_of_block h.2 0, Go.Joins.cell_of_block h.2 1, Go.Joins.cell_of_block h.2 2, Go.Joins.cell_of_block h.2 3, Go.Joins.cell_of_block h.2 4, Go.Joins.cell_of_block h.2 5, Go.Joins.cell_of_block h.2 6, Go.Joins.cell_of_block h.2 7⟩
/-- What Propose tells. -/
def ProposeIs (first log : Value) (B pb lb : Nat) (vs : List Int) (qs : List EnP) (w : World) (e : Ending) (w' : World) : Prop := ∃ t, e = .returned (.tuple #[.int .i64 2, .agg t.out, .int .i64 0]) ∧ PeerIs w' B pb lb t vs qs ∧ LeadsAt first log 2 2 t ∧ Below B w w' ∧ KB w w'
set_option maxHeartbeats 2000000 in
theorem ppropose_any {w : World} {B pb lb : Nat} {vs : List Int} {first log : Value} {s : PP} (h : PeerIs w B pb lb s vs [(bareE 1 1).plain]) (hs : LeadsAt first log 1 1 s) (hv : vs = [1]) :
    Calls Tryz.prog 6 #[.pointer (some ⟨pb, 0, none⟩), .agg #[.int .i64 0, .int .u8 2, .int .i64 0, .int .i64 0, .int .u8 0, .string ⟨#[]⟩, .slice none 0 0, .int .i64 0, .slice none 0 0]] w (ProposeIs first log B pb lb vs [(bareE 1 1).plain, (bareE 1 2).plain] w) := by
  have hB : B ≤ w.heap.size := Nat.le_trans h.low (Nat.le_of_lt h.lt)
  have hb1 := (Below.refl w.heap.size w).alloc (Nat.le_refl _) (.cells #[.pointer (some ⟨pb, 0, none⟩)] 41)
  have k1 := heap_alloc_new w (.cells #[.pointer (some ⟨pb, 0, none⟩)] 41)
  have s1 : (w.alloc (.cells #[.pointer (some ⟨pb, 0, none⟩)] 41)).heap.size = w.heap.size + 1 := by simp
  have H := Lib.hid h
  have HS := Lib.hid hs
  have HV := Lib.hid hv
  clear h hs hv
  go_enter Tryz.func6, Tryz.ntmps6
  go_upto_region 1 with fail
  generalize w.alloc (.cells #[.pointer (some ⟨pb, 0, none⟩)] 41) = wa at hb1 k1 s1 ⊢
  have hb2 := hb1.alloc (by omega) (.cells #[.int .i64 0, .int .u8 2, .int .i64 0, .int .i64 0, .int .u8 0, .string ⟨#[]⟩, .slice none 0 0, .int .i64 0, .slice none 0 0] 34)
  have hb12 := (Below.refl wa.heap.size wa).alloc (Nat.le_refl _) (.cells #[.int .i64 0, .int .u8 2, .int .i64 0, .int .i64 0, .int .u8 0, .string ⟨#[]⟩, .slice none 0 0, .int .i64 0, .slice none 0 0] 34)
  have k2 := heap_alloc_new wa (.cells #[.int .i64 0, .int .u8 2, .int .i64 0, .int .i64 0, .int .u8 0, .string ⟨#[]⟩, .slice none 0 0, .int .i64 0, .slice none 0 0] 34)
  have s2 : (wa.alloc (.cells #[.int .i64 0, .int .u8 2, .int .i64 0, .int .i64 0, .int .u8 0, .string ⟨#[]⟩, .slice none 0 0, .int .i64 0, .slice none 0 0] 34)).heap.size = w.heap.size + 1 + 1 := by simp [s1]
  generalize wa.alloc (.cells #[.int .i64 0, .int .u8 2, .int .i64 0, .int .i64 0, .int .u8 0, .string ⟨#[]⟩, .slice none 0 0, .int .i64 0, .slice none 0 0] 34) = wb at hb2 hb12 k2 s2 ⊢
  have hb3 := hb2.alloc (by omega) (.cells #[.int .i64 0, .int .i64 0, .int .i64 0, .slice none 0 0, .int .i64 0, .pointer none, .int .i64 0, .bool false] 45)
  have hb23 := (Below.refl wb.heap.size wb).alloc (Nat.le_refl _) (.cells #[.int .i64 0, .int .i64 0, .int .i64 0, .slice none 0 0, .int .i64 0, .pointer none, .int .i64 0, .bool false] 45)
  have k3 := heap_alloc_new wb (.cells #[.int .i64 0, .int .i64 0, .int .i64 0, .slice none 0 0, .int .i64 0, .pointer none, .int .i64 0, .bool false] 45)
  have s3 : (wb.alloc (.cells #[.int .i64 0, .int .i64 0, .int .i64 0, .slice none 0 0, .int .i64 0, .pointer none, .int .i64 0, .bool false] 45)).heap.size = w.heap.size + 1 + 1 + 1 := by simp [s2]
  generalize wb.alloc (.cells #[.int .i64 0, .int .i64 0, .int .i64 0, .slice none 0 0, .int .i64 0, .pointer none, .int .i64 0, .bool false] 45) = wc at hb3 hb23 k3 s3 ⊢
  rw [s2] at k3
  rw [s1] at k2
  have t3 := (hb23.block w.heap.size (by omega)).trans ((hb12.block w.heap.size (by omega)).trans k1)
  have e3 := (hb23.block (w.heap.size + 1) (by omega)).trans k2
  have HB3 := Lib.hid hb3
  have HT3 := Lib.hid t3
  have HE3 := Lib.hid e3
  have HK3 := Lib.hid k3
  have H3 := Lib.hid (H.out.below hb3 (Nat.le_refl _))
  have HSZ3 := Lib.hid s3
  clear hb1 hb2 hb12 hb3 hb23 k1 k2 k3 t3 e3 s1 s2 s3
  have c0 := Go.Joins.cell_of_block HT3.out 0
  have c38 : wc.cell? ⟨pb, 38, none⟩ = some (.int .i64 s.id) := H3.out.cells 38
  have hid : (0 : Int) < s.id := by obtain ⟨nx, hh⟩ := HS.out; rw [hh]; show (0 : Int) < 1; decide
  go_wp2_with fail
  refine (pthere_any pb s.id wc c38 hid).mono ?_
  rintro e w' ⟨rfl, rfl⟩
  have hrg : wc.rangeAt (w.heap.size + 1) 0 [.int .i64 0, .int .u8 2, .int .i64 0, .int .i64 0, .int .u8 0, .string ⟨#[]⟩, .slice none 0 0, .int .i64 0, .slice none 0 0] := World.rangeAt_of_block HE3.out 0 9
  go_wp2_with (refine wpList_load_mid rfl 34 (.tmp 3) rfl (w.heap.size + 1) 0 rfl [.int .i64 0, .int .u8 2, .int .i64 0, .int .i64 0, .int .u8 0, .string ⟨#[]⟩, .slice none 0 0, .int .i64 0, .slice none 0 0] _ hrg Tryz.underlying34 rfl info_ent9 ?_)
  refine (pmay_any 1 1 1 true H3.out (by obtain ⟨nx, hh⟩ := HS.out; rw [hh]; rfl) (by obtain ⟨nx, hh⟩ := HS.out; rw [hh]) (by omega) rfl (by simp [termS, bareE, En.plain]) (by simp)).mono ?_
  rintro e w4 ⟨rfl, hb4⟩
  have H4 := Lib.hid (H3.out.below hb4 (Nat.le_refl _))
  have HB4 := Lib.hid (HB3.out.trans (hb4.mono HB3.out.size))
  have HT4 := Lib.hid ((hb4.block _ (Array.getElem?_eq_some_iff.1 HT3.out).1).trans HT3.out)
  have HE4 := Lib.hid ((hb4.block _ (Array.getElem?_eq_some_iff.1 HE3.out).1).trans HE3.out)
  have HK4 := Lib.hid ((hb4.block _ (Array.getElem?_eq_some_iff.1 HK3.out).1).trans HK3.out)
  clear hb4 c0 c38 hrg H3 HB3 HT3 HE3 HK3 HSZ3
  have hb5 := (Below.refl w4.heap.size w4).alloc (Nat.le_refl _) (.cells #[.int .i64 0] 3)
  have k5 := heap_alloc_new w4 (.cells #[.int .i64 0] 3)
  obtain ⟨ab, hab⟩ : ∃ ab, w4.heap.size = ab := ⟨_, rfl⟩
  have s5 : (w4.alloc (.cells #[.int .i64 0] 3)).heap.size = ab + 1 := by simp [hab]
  have c5 := Go.Joins.cell_of_block k5 0
  have f5 := Go.Joins.unfrozen_of_block k5 0
  go_upto_region 7 with fail
  clear c5 f5
  rw [hab] at k5
  have hab2 : ab = w4.heap.size := hab.symm
  have hwa : w.heap.size + 1 + 1 < ab := by have := (Array.getElem?_eq_some_iff.1 HK4.out).1; omega
  clear hab hab2
  generalize w4.alloc (.cells #[.int .i64 0] 3) = w5 at hb5 k5 s5 ⊢
  have H5 := Lib.hid (H4.out.below hb5 (Nat.le_refl _))
  have HB5 := Lib.hid (HB4.out.trans (hb5.mono HB4.out.size))
  have HT5 := Lib.hid ((hb5.block _ (Array.getElem?_eq_some_iff.1 HT4.out).1).trans HT4.out)
  have HE5 := Lib.hid ((hb5.block _ (Array.getElem?_eq_some_iff.1 HE4.out).1).trans HE4.out)
  have HK5 := Lib.hid ((hb5.block _ (Array.getElem?_eq_some_iff.1 HK4.out).1).trans HK4.out)
  have HA5 := Lib.hid k5
  have HSZ5 := Lib.hid s5
  clear hb5 k5 s5 H4 HB4 HT4 HE4 HK4
  have c0 := Go.Joins.cell_of_block HT5.out 0
  go_wp2_with fail
  refine (pcall_led _ _ propose_enters H5.out hid true (by obtain ⟨nx, hh⟩ := HS.out; rw [hh]; rfl) [(bareE 1 1).plain, (bareE 1 2).plain] (LeadsAt first log 2 2) _ (firm2_num ab 2) (fun t h => leads_told h) (fun w6 hg6 h6 => ?_) (Nat.le_trans hB HB5.out.size)).mono ?_
  · have gp := ((PeerGap.of H.out (ab + 1)).below HB5.out).grownP hg6 h6 rfl
    have hpl := H.out.lt
    have hs6 := hg6.size
    have hsz := HSZ5.out
    have hT6 := (hg6.block _ (Array.getElem?_eq_some_iff.1 HT5.out).1 (fun e => by have := Option.some.inj e; omega)).trans HT5.out
    have hE6 := (hg6.block _ (Array.getElem?_eq_some_iff.1 HE5.out).1 (fun e => by have := Option.some.inj e; omega)).trans HE5.out
    have hA6 := (hg6.block _ (Array.getElem?_eq_some_iff.1 HA5.out).1 (fun e => by have := Option.some.inj e; omega)).trans HA5.out
    obtain ⟨nx, hh⟩ := HS.out
    have hv := HV.out
    clear HS HV
    subst hh
    refine (ppropose_clo 1 2 2 gp hT6 hE6 hA6 (by omega) (by omega) (by omega) (by omega) (by omega) rfl rfl rfl (by decide) (by simp) ⟨rfl, rfl, by decide, rfl, by simp [termS, bareE, En.plain], rfl, rfl, by simp, fun p hp => by simp at hp; rcases hp with rfl | rfl <;> exact ⟨by simp [bareE, En.plain], by simp [bareE, En.plain]⟩, by rw [hv]; rfl, by rw [hv]; decide⟩).mono ?_
    rintro e w7 ⟨rfl, hp7, hb7, hk7, ha7⟩
    exact ⟨rfl, _, hp7, ⟨nx, rfl⟩, ha7, hb7, hk7⟩
  rintro e w7 ⟨t, rfl, hp7, ⟨hr7, ha7⟩, hb7, hk7⟩
  have hone : t.out.toList.toArray.all (·.oneCell') = true := by simp [PP.out, Value.oneCell']; exact (leads_told hr7).2.2
  have hk9 := (hk7 _ _ _ _ HK5.out (by decide) (by decide) (by decide) (by decide) (by decide)).trans HK5.out
  have HKB7 := Lib.hid ((KB.of_below HB5.out).trans hk7)
  have HBL7 := Lib.hid ((HB5.out.mono hB).trans hb7)
  have HP7 := Lib.hid hp7
  have HR7 := Lib.hid hr7
  have hb8 := (Below.refl w7.heap.size w7).alloc (Nat.le_refl _) (.cells #[.int .i64 0, .int .i64 0, .int .i64 0, .slice none 0 0, .int .i64 0, .pointer none, .int .i64 0, .bool false] 45)
  have hk8 := heap_alloc_new w7 (.cells #[.int .i64 0, .int .i64 0, .int .i64 0, .slice none 0 0, .int .i64 0, .pointer none, .int .i64 0, .bool false] 45)
  clear hp7 hr7 hb7 hk7 c0
  go_upto_region 8 with (refine wpList_store_row rfl 45 (.tmp 9) (.tmp 23) rfl w7.heap.size t.out.toList.toArray rfl rfl 45 _ hk8 info_out rfl hone ?_)
  have hk10 := setRow_heap (w7.alloc (.cells #[.int .i64 0, .int .i64 0, .int .i64 0, .slice none 0 0, .int .i64 0, .pointer none, .int .i64 0, .bool false] 45)) w7.heap.size _ t.out.toList.toArray _ _ hk8
  have hb10 := hb8.grown (grown_rowR (w7.alloc (.cells #[.int .i64 0, .int .i64 0, .int .i64 0, .slice none 0 0, .int .i64 0, .pointer none, .int .i64 0, .bool false] 45)) w7.heap.size t.out.toList.toArray) hb8.size (fun q hq => by cases hq; exact Nat.le_refl _)
  generalize (w7.alloc (.cells #[.int .i64 0, .int .i64 0, .int .i64 0, .slice none 0 0, .int .i64 0, .pointer none, .int .i64 0, .bool false] 45)).setRow w7.heap.size t.out.toList.toArray = w8 at hk10 hb10 ⊢
  have hk10 : w8.heap[w7.heap.size]? = some (.cells #[.int .i64 t.term, .int .i64 t.voted, .int .i64 t.frm, t.letters, .int .i64 t.commit, t.snap, .int .i64 t.sure, .bool t.lost] 45 (0, 0)) := hk10
  obtain ⟨b9, hb9e⟩ : ∃ b9, b9 = w7.heap.size := ⟨_, rfl⟩
  have hbd := hb10.trans (Below.refl w7.heap.size w8).drew
  have ka := (hbd.block ab (Array.getElem?_eq_some_iff.1 ha7).1).trans ha7
  have ko := (hbd.block _ (Array.getElem?_eq_some_iff.1 hk9).1).trans hk9
  have kn := ((Below.refl w8.heap.size w8).drew.block w7.heap.size (Array.getElem?_eq_some_iff.1 hk10).1).trans hk10
  have hl9 := (Array.getElem?_eq_some_iff.1 hk9).1
  rw [← hb9e] at kn hl9 ⊢
  have HB9E := Lib.hid hb9e
  have HP9 := Lib.hid (HP7.out.below hbd (Nat.le_refl _))
  have HBD := Lib.hid hbd
  have hS8 : AtS ab b9 t w8.drew := ⟨ka, kn⟩
  clear hk8 hb8 hk9 hb10 hk10 hb9e hbd ha7 ka kn
  refine heldS_begin (fun wS => AtS ab b9 t wS) (by kernel_rfl) (hS8) ?_
  intro hS0
  (first | (refine takeS_no 0 rfl (by kernel_rfl) (by kernel_rfl) (by kernel_rfl) (fun _ _ _ h => h) (by rfl) (by assumption) ?_) | (refine takeS_yes (v := ?_) 0 rfl (by kernel_rfl) (by kernel_rfl) (by kernel_rfl) (fun _ _ _ h => h) (by rfl) (by assumption) ?_ ?_; rotate_left; focus (intro wS hSw; obtain ⟨q0, d0, d1, d2, d3, d4, d5, d6, d7⟩ := AtS.cells hSw; go_simp; first | done | with_reducible rfl)))
  (try simp only [Act.put, List.setIfInBounds_toArray, List.set_cons_zero, List.set_cons_succ])
  (first | (refine takeS_no 1 rfl (by kernel_rfl) (by kernel_rfl) (by kernel_rfl) (fun _ _ _ h => h) (by rfl) (by assumption) ?_) | (refine takeS_yes (v := ?_) 1 rfl (by kernel_rfl) (by kernel_rfl) (by kernel_rfl) (fun _ _ _ h => h) (by rfl) (by assumption) ?_ ?_; rotate_left; focus (intro wS hSw; obtain ⟨q0, d0, d1, d2, d3, d4, d5, d6, d7⟩ := AtS.cells hSw; go_simp; first | done | with_reducible rfl)))
  (try simp only [Act.put, List.setIfInBounds_toArray, List.set_cons_zero, List.set_cons_succ])
  (first | (refine takeS_no 2 rfl (by kernel_rfl) (by kernel_rfl) (by kernel_rfl) (fun _ _ _ h => h) (by rfl) (by assumption) ?_) | (refine takeS_yes (v := ?_) 2 rfl (by kernel_rfl) (by kernel_rfl) (by kernel_rfl) (fun _ _ _ h => h) (by rfl) (by assumption) ?_ ?_; rotate_left; focus (intro wS hSw; obtain ⟨q0, d0, d1, d2, d3, d4, d5, d6, d7⟩ := AtS.cells hSw; go_simp; first | done | with_reducible rfl)))
  (try simp only [Act.put, List.setIfInBounds_toArray, List.set_cons_zero, List.set_cons_succ])
  clear hS0
  generalize w8.drew = w9 at ko HP9 HBD hS8 ⊢
  refine takeS_alone 3 rfl (by kernel_rfl) (by rfl) (fun K hK => ?_)
  skip
  (refine wp_store_row 45 (.tmp 5) (.tmp 25) rfl (w.heap.size + 1 + 1) #[.int .i64 t.term, .int .i64 t.voted, .int .i64 t.frm, t.letters, .int .i64 t.commit, t.snap, .int .i64 t.sure, .bool t.lost] rfl rfl 45 _ ko info_out rfl hone ?_; have hS9 : AtS ab b9 t (w9.setRow (w.heap.size + 1 + 1) #[.int .i64 t.term, .int .i64 t.voted, .int .i64 t.frm, t.letters, .int .i64 t.commit, t.snap, .int .i64 t.sure, .bool t.lost]) := ⟨(setRow_other _ _ _ _ (by omega)).trans hS8.1, (setRow_other _ _ _ _ (by omega)).trans hS8.2⟩)
  refine hK.out _ _ (by assumption) ?_
  clear hK K
  (try simp only [Act.put, List.setIfInBounds_toArray, List.set_cons_zero, List.set_cons_succ])
  (first | (refine takeS_no 4 rfl (by kernel_rfl) (by kernel_rfl) (by kernel_rfl) (fun _ _ _ h => h) (by rfl) (by assumption) ?_) | (refine takeS_yes (v := ?_) 4 rfl (by kernel_rfl) (by kernel_rfl) (by kernel_rfl) (fun _ _ _ h => h) (by rfl) (by assumption) ?_ ?_; rotate_left; focus (intro wS hSw; obtain ⟨q0, d0, d1, d2, d3, d4, d5, d6, d7⟩ := AtS.cells hSw; go_simp; first | done | with_reducible rfl)))
  (try simp only [Act.put, List.setIfInBounds_toArray, List.set_cons_zero, List.set_cons_succ])
  refine wpAnyH_done (by kernel_rfl) ?_ _
  (try simp only [Exit.then])
  (try (rename (∀ (_ : Act) (_ : World), _ → _) => hK0; refine hK0 _ _ ?_; clear hK0))
  have hgr := grown_rowR w9 (w.heap.size + 1 + 1) #[.int .i64 t.term, .int .i64 t.voted, .int .i64 t.frm, t.letters, .int .i64 t.commit, t.snap, .int .i64 t.sure, .bool t.lost]
  have HZ := Lib.hid (setRow_heap w9 (w.heap.size + 1 + 1) _ #[.int .i64 t.term, .int .i64 t.voted, .int .i64 t.frm, t.letters, .int .i64 t.commit, t.snap, .int .i64 t.sure, .bool t.lost] _ _ ko)
  have HPZ := Lib.hid (HP9.out.keptT ko (by decide) (by decide) (by decide) (by decide) (by decide) hgr)
  have HKZ := Lib.hid ((HKB7.out.low HBD.out (by have := HBL7.out.size; exact this)).row hgr (by omega))
  have HBZ := Lib.hid ((HBL7.out.trans (HBD.out.mono (Nat.le_trans hB HBL7.out.size))).grown hgr (Nat.le_trans hB (HBL7.out.trans (HBD.out.mono (Nat.le_trans hB HBL7.out.size))).size) (fun q hq => by cases hq; omega))
  clear hS8 hS9 hgr
  generalize w9.setRow (w.heap.size + 1 + 1) #[.int .i64 t.term, .int .i64 t.voted, .int .i64 t.frm, t.letters, .int .i64 t.commit, t.snap, .int .i64 t.sure, .bool t.lost] = w10 at HZ HPZ HKZ HBZ ⊢
  go_wp2_with fail
  exact bodyPost_ret (results_tct rfl _ _ (w.heap.size + 1 + 1) 45 _ _ _ _ _ rfl rfl rfl HZ.out Tryz.underlying45 rfl info_out) rfl ⟨t, rfl, HPZ.out, HR7.out, HBZ.out, HKZ.out⟩
end Go.Proofs.YtbimjggkiiadmaaGreatDoor
