/- A peer of one voter stands, and leads. Conditions: it is new. -/
import Derived.Test.YtbimjggkiiadmaaGreatDoorGRaftNone9
set_option linter.unusedVariables false
set_option linter.unusedSimpArgs false
namespace Go.Proofs.YtbimjggkiiadmaaGreatDoor
open Go.RowKit
set_option maxRecDepth 20000
theorem PeerIs.sameCells {B pb lb : Nat} {s : PP} {vs : List Int} {ps : List EnP} : ∀ (us : List Value) (o : Nat) (w : World), PeerIs w B pb lb s vs ps → (∀ j u, us[j]? = some u → s.cells[o + j]? = some u) → PeerIs (w.setCells pb o us) B pb lb s vs ps
  | [], _, _, h, _ => h
  | u :: us, o, w, h, hs => by
    have h0 := hs 0 u rfl
    have h1 := h.set o u s (by
      apply Array.ext_getElem?
      intro i
      rw [Array.getElem?_setIfInBounds]
      split
      · rename_i e
        subst e
        rw [Nat.add_zero] at h0
        have := (Array.getElem?_eq_some_iff.1 h0).1
        rw [if_pos this, h0]
      · rfl) rfl rfl
    exact PeerIs.sameCells us (o + 1) _ h1 (fun j u' hj => by
      have := hs (j + 1) u' hj
      rwa [show o + (j + 1) = o + 1 + j by omega] at this)
theorem PeerIs.thereN {w : World} {B pb lb : Nat} {s : PP} {vs : List Int} {ps : List EnP} (h : PeerIs w B pb lb s vs ps) (o n : Nat) (hn : o + n ≤ 51) : w.there pb o n := fun j hj => ⟨by
  rw [h.cells, Array.getElem?_eq_getElem (by rw [PP.size]; omega)]; rfl, h.soft _⟩
/-- next, written at one place. -/
theorem PP.set_nx (s : PP) (x : Int) (k : Nat) (hk : k < 10) : ∃ nx, s.cells.setIfInBounds (8 + k) (.int .i64 x) = { s with nx := nx }.cells := by
  obtain rfl | rfl | rfl | rfl | rfl | rfl | rfl | rfl | rfl | rfl : k = 0 ∨ k = 1 ∨ k = 2 ∨ k = 3 ∨ k = 4 ∨ k = 5 ∨ k = 6 ∨ k = 7 ∨ k = 8 ∨ k = 9 := by omega
  · exact ⟨{ s.nx with a0 := x }, rfl⟩
  · exact ⟨{ s.nx with a1 := x }, rfl⟩
  · exact ⟨{ s.nx with a2 := x }, rfl⟩
  · exact ⟨{ s.nx with a3 := x }, rfl⟩
  · exact ⟨{ s.nx with a4 := x }, rfl⟩
  · exact ⟨{ s.nx with a5 := x }, rfl⟩
  · exact ⟨{ s.nx with a6 := x }, rfl⟩
  · exact ⟨{ s.nx with a7 := x }, rfl⟩
  · exact ⟨{ s.nx with a8 := x }, rfl⟩
  · exact ⟨{ s.nx with a9 := x }, rfl⟩
theorem PP.nx_some (s : PP) (k : Nat) (hk : k < 10) : ∃ x, s.cells[8 + k]? = some (.int .i64 x) := by
  obtain rfl | rfl | rfl | rfl | rfl | rfl | rfl | rfl | rfl | rfl : k = 0 ∨ k = 1 ∨ k = 2 ∨ k = 3 ∨ k = 4 ∨ k = 5 ∨ k = 6 ∨ k = 7 ∨ k = 8 ∨ k = 9 := by omega
  all_goals exact ⟨_, rfl⟩
def zeros30 : List Value := [.int .i64 0, .int .i64 0, .int .i64 0, .int .i64 0, .int .i64 0, .int .i64 0, .int .i64 0, .int .i64 0, .int .i64 0, .int .i64 0, .int .i64 0, .int .i64 0, .int .i64 0, .int .i64 0, .int .i64 0, .int .i64 0, .int .i64 0, .int .i64 0, .int .i64 0, .int .i64 0, .int .i64 0, .int .i64 0, .int .i64 0, .int .i64 0, .int .i64 0, .int .i64 0, .int .i64 0, .int .i64 0, .int .i64 0, .int .i64 0]
theorem zeros30_one : (zeros30.toArray.all fun x => x.oneCell') = true := by simp [zeros30, Value.oneCell']
theorem info_seen : (Tryz.prog.info? 48).map (·.size) = some 30 := by kernel_rfl
/-- The peer that leads. -/
def PP.led (first log vb : Value) (nx : Ten) : PP := { PP.fresh 1 first log 0 0 with term := 1, voted := 1, role := 3, leader := 1, votes := vb, nx := nx }
def LedS (B pb lb : Nat) (vs : List Int) (wS : World) : Prop := ∃ q qs, PeerIs wS B pb lb q vs qs ∧ q.term = 1
theorem LedS.cells {B pb lb : Nat} {vs : List Int} {wS : World} (h : LedS B pb lb vs wS) : wS.cell? ⟨pb, 40, none⟩ = some (.pointer (some ⟨lb, 0, none⟩)) ∧ wS.cell? ⟨pb, 0, none⟩ = some (.int .i64 1) := by
  obtain ⟨q, qs, h1, h2⟩ := h
  exact ⟨(h1.cells 40).trans (congrArg some h1.lg), (h1.cells 0).trans (congrArg (fun x => some (Value.int .i64 x)) h2)⟩
set_option maxHeartbeats 4000000 in
theorem plead_one {w : World} {B pb lb : Nat} {vs : List Int} {first log vb : Value} (h : PeerIs w B pb lb { PP.fresh 1 first log 0 0 with term := 1, voted := 1, role := 2, votes := vb } vs []) (hv : vs = [1]) :
    Calls Tryz.prog 66 #[.pointer (some ⟨pb, 0, none⟩)] w (EndIs fun w' => ∃ nx, PeerIs w' B pb lb { PP.led first log (.slice none 0 0) nx with frm := 1, commit := 1, mt := ⟨0, 1, 0, 0, 0, 0, 0, 0, 0, 0⟩ } vs [(bareE 1 1).plain] ∧ Stay B w w') := by
  have hB : B ≤ w.heap.size := Nat.le_trans h.low (Nat.le_of_lt h.lt)
  have c0 : w.cell? ⟨pb, 40, none⟩ = some (.pointer (some ⟨lb, 0, none⟩)) := (h.cells 40).trans (congrArg some h.lg)
  have H := Lib.hid h
  have HV := Lib.hid hv
  clear h hv
  go_enter Tryz.func66, Tryz.ntmps66
  go_wp2_with fail
  refine (last_is B lb 0 0 [] 0 0 w last_nil H.out.log (nums_nil 0 (by omega))).mono ?_
  rintro e w1 ⟨rfl, hb1⟩
  have h1 := H.out.below hb1 (Nat.le_refl _)
  have st1 := Stay.below hb1 hB
  clear hb1 c0 H
  go_upto_region 1 with fail
  have e0 : w1.cell? ⟨pb, 38, none⟩ = some (.int .i64 1) := h1.cells 38
  have e1 : w1.cell? ⟨pb, 41, none⟩ = some (.int .u8 2) := h1.cells 41
  have e2 : w1.cell? ⟨pb, 42, none⟩ = some (.int .i64 0) := h1.cells 42
  have e3 : w1.cell? ⟨pb, 45, none⟩ = some vb := h1.cells 45
  have e4 : w1.cell? ⟨pb, 46, none⟩ = some (.int .i64 0) := h1.cells 46
  have f1 := h1.soft 41
  have f2 := h1.soft 42
  have f3 := h1.soft 45
  have f4 := h1.soft 46
  have h2 := h1.set 41 (.int .u8 3) { PP.fresh 1 first log 0 0 with term := 1, voted := 1, role := 3, votes := vb } rfl rfl rfl
  have h3 := h2.set 42 (.int .i64 1) { PP.fresh 1 first log 0 0 with term := 1, voted := 1, role := 3, leader := 1, votes := vb } rfl rfl rfl
  have h4 := h3.set 45 (.slice none 0 0) (PP.led first log (.slice none 0 0) (.all 0)) rfl rfl rfl
  have h5 := h4.set 46 (.int .i64 0) (PP.led first log (.slice none 0 0) (.all 0)) rfl rfl rfl
  have st5 := ((((st1.trans (Stay.set h1 41 (.int .u8 3))).trans (Stay.set h2 42 (.int .i64 1))).trans (Stay.set h3 45 (.slice none 0 0)))).trans (Stay.set h4 46 (.int .i64 0))
  have h6 := PeerIs.sameCells zeros30 8 _ h5 (fun j u hj => by
    have hj' : j < 30 := by
      have := (List.getElem?_eq_some_iff.1 hj).1
      simpa [zeros30] using this
    have : u = .int .i64 0 := by
      have hm := List.mem_of_getElem? hj
      simp [zeros30] at hm
      exact hm
    subst this
    match j, hj' with
    | 0, _ | 1, _ | 2, _ | 3, _ | 4, _ | 5, _ | 6, _ | 7, _ | 8, _ | 9, _ | 10, _ | 11, _ | 12, _ | 13, _ | 14, _ | 15, _ | 16, _ | 17, _ | 18, _ | 19, _ | 20, _ | 21, _ | 22, _ | 23, _ | 24, _ | 25, _ | 26, _ | 27, _ | 28, _ | 29, _ => rfl)
  have st6 := st5.trans (Stay.grown h5 (grown_cells pb zeros30 _ 8))
  have hth : World.there _ pb 8 zeros30.toArray.size := h5.thereN 8 30 (by omega)
  have H6 := Lib.hid h6
  have ST6 := Lib.hid st6
  clear h1 h2 h3 h4 h5 h6 st1 st5 st6
  go_upto_region 2 with (refine wpList_store_mid rfl 48 (.tmp 32) (.tmp 22) rfl pb 8 zeros30.toArray ?_ ?_ ?_ info_seen zeros30_one ?_; (focus rfl); (focus rfl); (focus exact hth))
  clear e0 e1 e2 e3 e4 f1 f2 f3 f4 hth
  change Code.wp _ _ _ _ (World.setCells _ pb 8 zeros30)
  generalize World.setCells _ pb 8 zeros30 = w2 at H6 ST6 ⊢
  go_upto_region 3 with fail
  go_loopw [4, 33] (fun _ i wr => ∃ (k : Nat) (nx : Ten), k ≤ 10 ∧ i = .int .i64 k ∧ PeerIs wr B pb lb (PP.led first log (.slice none 0 0) nx) vs [] ∧ w2.grownBy wr (some pb)) (fun _ i _ => 10 - (intOf i).toNat)
  case atStart => exact ⟨0, .all 0, by omega, rfl, H6.out, World.grownBy.refl _ _⟩
  case round =>
    obtain ⟨k, nx, hk, rfl, hP, hgr⟩ := hrel
    by_cases hlt : k < 10
    · have dk : decide ((k : Int) < 10) = true := by simp; omega
      obtain ⟨x, hx⟩ := PP.nx_some (PP.led first log (.slice none 0 0) nx) k hlt
      have c0 : wr.cell? ⟨pb, 8 + k, none⟩ = some (.int .i64 x) := (hP.cells (8 + k)).trans hx
      have f0 := hP.soft (8 + k)
      obtain ⟨nx', hnx⟩ := PP.set_nx (PP.led first log (.slice none 0 0) nx) 1 k hlt
      have h2 := hP.set (8 + k) (.int .i64 1) (PP.led first log (.slice none 0 0) nx') hnx rfl rfl
      have hg2 := hgr.trans (grown_setL wr ⟨pb, 8 + k, none⟩ (.int .i64 1))
      clear hP hgr hx hnx
      have H2 := Lib.hid h2
      have HG2 := Lib.hid hg2
      clear h2 hg2
      go_wp2_with fail
      go_roundw
      case rel => exact ⟨k + 1, nx', by omega, by go_num, H2.out, HG2.out⟩
      case measure => simp [intOf]; omega
    · obtain rfl : k = 10 := by omega
      have HP := Lib.hid hP
      have ST := Lib.hid (ST6.out.trans (Stay.grown H6.out hgr))
      clear hP hgr H6 ST6
      go_upto_region 7 with fail
      have h7 := HP.out.below (Below.refl wr.heap.size wr).drew (Nat.le_refl _)
      have st7 := ST.out.trans (Stay.below (Below.refl wr.heap.size wr).drew (Nat.le_trans HP.out.low (Nat.le_of_lt HP.out.lt)))
      have hS7 : LedS B pb lb vs wr.drew := ⟨_, _, h7, rfl⟩
      refine heldS_begin (fun wS => LedS B pb lb vs wS) (by kernel_rfl) (hS7) ?_
      intro hS0
      (first | (refine takeS_no 0 rfl (by kernel_rfl) (by kernel_rfl) (by kernel_rfl) (fun _ _ _ h => h) (by rfl) (by assumption) ?_) | (refine takeS_yes (v := ?_) 0 rfl (by kernel_rfl) (by kernel_rfl) (by kernel_rfl) (fun _ _ _ h => h) (by rfl) (by assumption) ?_ ?_; rotate_left; focus (intro wS hSw; obtain ⟨q0, q1⟩ := LedS.cells hSw; go_simp; first | done | with_reducible rfl)))
      (try simp only [Act.put, List.setIfInBounds_toArray, List.set_cons_zero, List.set_cons_succ])
      (first | (refine takeS_no 1 rfl (by kernel_rfl) (by kernel_rfl) (by kernel_rfl) (fun _ _ _ h => h) (by rfl) (by assumption) ?_) | (refine takeS_yes (v := ?_) 1 rfl (by kernel_rfl) (by kernel_rfl) (by kernel_rfl) (fun _ _ _ h => h) (by rfl) (by assumption) ?_ ?_; rotate_left; focus (intro wS hSw; obtain ⟨q0, q1⟩ := LedS.cells hSw; go_simp; first | done | with_reducible rfl)))
      (try simp only [Act.put, List.setIfInBounds_toArray, List.set_cons_zero, List.set_cons_succ])
      (first | (refine takeS_no 2 rfl (by kernel_rfl) (by kernel_rfl) (by kernel_rfl) (fun _ _ _ h => h) (by rfl) (by assumption) ?_) | (refine takeS_yes (v := ?_) 2 rfl (by kernel_rfl) (by kernel_rfl) (by kernel_rfl) (fun _ _ _ h => h) (by rfl) (by assumption) ?_ ?_; rotate_left; focus (intro wS hSw; obtain ⟨q0, q1⟩ := LedS.cells hSw; go_simp; first | done | with_reducible rfl)))
      (try simp only [Act.put, List.setIfInBounds_toArray, List.set_cons_zero, List.set_cons_succ])
      (first | (refine takeS_no 3 rfl (by kernel_rfl) (by kernel_rfl) (by kernel_rfl) (fun _ _ _ h => h) (by rfl) (by assumption) ?_) | (refine takeS_yes (v := ?_) 3 rfl (by kernel_rfl) (by kernel_rfl) (by kernel_rfl) (fun _ _ _ h => h) (by rfl) (by assumption) ?_ ?_; rotate_left; focus (intro wS hSw; obtain ⟨q0, q1⟩ := LedS.cells hSw; go_simp; first | done | with_reducible rfl)))
      (try simp only [Act.put, List.setIfInBounds_toArray, List.set_cons_zero, List.set_cons_succ])
      (first | (refine takeS_no 4 rfl (by kernel_rfl) (by kernel_rfl) (by kernel_rfl) (fun _ _ _ h => h) (by rfl) (by assumption) ?_) | (refine takeS_yes (v := ?_) 4 rfl (by kernel_rfl) (by kernel_rfl) (by kernel_rfl) (fun _ _ _ h => h) (by rfl) (by assumption) ?_ ?_; rotate_left; focus (intro wS hSw; obtain ⟨q0, q1⟩ := LedS.cells hSw; go_simp; first | done | with_reducible rfl)))
      (try simp only [Act.put, List.setIfInBounds_toArray, List.set_cons_zero, List.set_cons_succ])
      (first | (refine takeS_no 5 rfl (by kernel_rfl) (by kernel_rfl) (by kernel_rfl) (fun _ _ _ h => h) (by rfl) (by assumption) ?_) | (refine takeS_yes (v := ?_) 5 rfl (by kernel_rfl) (by kernel_rfl) (by kernel_rfl) (fun _ _ _ h => h) (by rfl) (by assumption) ?_ ?_; rotate_left; focus (intro wS hSw; obtain ⟨q0, q1⟩ := LedS.cells hSw; go_simp; first | done | with_reducible rfl)))
      (try simp only [Act.put, List.setIfInBounds_toArray, List.set_cons_zero, List.set_cons_succ])
      (first | (refine takeS_no 6 rfl (by kernel_rfl) (by kernel_rfl) (by kernel_rfl) (fun _ _ _ h => h) (by rfl) (by assumption) ?_) | (refine takeS_yes (v := ?_) 6 rfl (by kernel_rfl) (by kernel_rfl) (by kernel_rfl) (fun _ _ _ h => h) (by rfl) (by assumption) ?_ ?_; rotate_left; focus (intro wS hSw; obtain ⟨q0, q1⟩ := LedS.cells hSw; go_simp; first | done | with_reducible rfl)))
      (try simp only [Act.put, List.setIfInBounds_toArray, List.set_cons_zero, List.set_cons_succ])
      (first | (refine takeS_no 7 rfl (by kernel_rfl) (by kernel_rfl) (by kernel_rfl) (fun _ _ _ h => h) (by rfl) (by assumption) ?_) | (refine takeS_yes (v := ?_) 7 rfl (by kernel_rfl) (by kernel_rfl) (by kernel_rfl) (fun _ _ _ h => h) (by rfl) (by assumption) ?_ ?_; rotate_left; focus (intro wS hSw; obtain ⟨q0, q1⟩ := LedS.cells hSw; go_simp; first | done | with_reducible rfl)))
      (try simp only [Act.put, List.setIfInBounds_toArray, List.set_cons_zero, List.set_cons_succ])
      (first | (refine takeS_no 8 rfl (by kernel_rfl) (by kernel_rfl) (by kernel_rfl) (fun _ _ _ h => h) (by rfl) (by assumption) ?_) | (refine takeS_yes (v := ?_) 8 rfl (by kernel_rfl) (by kernel_rfl) (by kernel_rfl) (fun _ _ _ h => h) (by rfl) (by assumption) ?_ ?_; rotate_left; focus (intro wS hSw; obtain ⟨q0, q1⟩ := LedS.cells hSw; go_simp; first | done | with_reducible rfl)))
      (try simp only [Act.put, List.setIfInBounds_toArray, List.set_cons_zero, List.set_cons_succ])
      (first | (refine takeS_no 9 rfl (by kernel_rfl) (by kernel_rfl) (by kernel_rfl) (fun _ _ _ h => h) (by rfl) (by assumption) ?_) | (refine takeS_yes (v := ?_) 9 rfl (by kernel_rfl) (by kernel_rfl) (by kernel_rfl) (fun _ _ _ h => h) (by rfl) (by assumption) ?_ ?_; rotate_left; focus (intro wS hSw; obtain ⟨q0, q1⟩ := LedS.cells hSw; go_simp; first | done | with_reducible rfl)))
      (try simp only [Act.put, List.setIfInBounds_toArray, List.set_cons_zero, List.set_cons_succ])
      (first | (refine takeS_no 10 rfl (by kernel_rfl) (by kernel_rfl) (by kernel_rfl) (fun _ _ _ h => h) (by rfl) (by assumption) ?_) | (refine takeS_yes (v := ?_) 10 rfl (by kernel_rfl) (by kernel_rfl) (by kernel_rfl) (fun _ _ _ h => h) (by rfl) (by assumption) ?_ ?_; rotate_left; focus (intro wS hSw; obtain ⟨q0, q1⟩ := LedS.cells hSw; go_simp; first | done | with_reducible rfl)))
      (try simp only [Act.put, List.setIfInBounds_toArray, List.set_cons_zero, List.set_cons_succ])
      (first | (refine takeS_no 11 rfl (by kernel_rfl) (by kernel_rfl) (by kernel_rfl) (fun _ _ _ h => h) (by rfl) (by assumption) ?_) | (refine takeS_yes (v := ?_) 11 rfl (by kernel_rfl) (by kernel_rfl) (by kernel_rfl) (fun _ _ _ h => h) (by rfl) (by assumption) ?_ ?_; rotate_left; focus (intro wS hSw; obtain ⟨q0, q1⟩ := LedS.cells hSw; go_simp; first | done | with_reducible rfl)))
      (try simp only [Act.put, List.setIfInBounds_toArray, List.set_cons_zero, List.set_cons_succ])
      (first | (refine takeS_no 12 rfl (by kernel_rfl) (by kernel_rfl) (by kernel_rfl) (fun _ _ _ h => h) (by rfl) (by assumption) ?_) | (refine takeS_yes (v := ?_) 12 rfl (by kernel_rfl) (by kernel_rfl) (by kernel_rfl) (fun _ _ _ h => h) (by rfl) (by assumption) ?_ ?_; rotate_left; focus (intro wS hSw; obtain ⟨q0, q1⟩ := LedS.cells hSw; go_simp; first | done | with_reducible rfl)))
      (try simp only [Act.put, List.setIfInBounds_toArray, List.set_cons_zero, List.set_cons_succ])
      clear hS0
      generalize wr.drew = w7 at h7 st7 hS7 ⊢
      clear HP ST
      refine takeS_alone 13 rfl (by kernel_rfl) (by rfl) (fun K hK => ?_)
      go_simp
      (have hb8 := (Below.refl w7.heap.size w7).alloc (Nat.le_refl _) (.cells #[.int .i64 1, .int .u8 1, .int .i64 0, .int .i64 0, .int .u8 0, .string ⟨#[]⟩, .slice none 0 0, .int .i64 0, .slice none 0 0] 34); have k8 := heap_alloc_new w7 (.cells #[.int .i64 1, .int .u8 1, .int .i64 0, .int .i64 0, .int .u8 0, .string ⟨#[]⟩, .slice none 0 0, .int .i64 0, .slice none 0 0] 34); have h8 := h7.below hb8 (Nat.le_refl _); have st8 := st7.trans (Stay.below hb8 (Nat.le_trans h7.low (Nat.le_of_lt h7.lt))); generalize w7.alloc (.cells #[.int .i64 1, .int .u8 1, .int .i64 0, .int .i64 0, .int .u8 0, .string ⟨#[]⟩, .slice none 0 0, .int .i64 0, .slice none 0 0] 34) = w8 at h8 st8 k8 ⊢; have hS8 : LedS B pb lb vs w8 := ⟨_, _, h8, rfl⟩; clear hb8 hS7 h7 st7)
      refine hK.out _ _ (by assumption) ?_
      clear hK K
      (try simp only [Act.put, List.setIfInBounds_toArray, List.set_cons_zero, List.set_cons_succ])
      refine takeS_alone 14 rfl (by kernel_rfl) (by rfl) (fun K hK => ?_)
      go_simp
      (refine (pappend_any 1 1 1 h8 rfl (by simp) k8).mono ?_; rintro e w9 ⟨rfl, h9, st9⟩; have st9 := st8.trans st9; have hS9 : LedS B pb lb vs w9 := ⟨_, _, h9, rfl⟩; clear h8 st8 hS8 k8)
      refine hK.out _ _ (by assumption) ?_
      clear hK K
      (try simp only [Act.put, List.setIfInBounds_toArray, List.set_cons_zero, List.set_cons_succ])
      refine takeS_alone 15 rfl (by kernel_rfl) (by rfl) (fun K hK => ?_)
      go_simp
      (refine (panew_any 1 h9 rfl (by decide)).mono ?_; rintro e w10 ⟨rfl, h10, st10⟩; have st10 := st9.trans st10; have hS10 : LedS B pb lb vs w10 := ⟨_, _, h10, rfl⟩; clear h9 st9 hS9)
      refine hK.out _ _ (by assumption) ?_
      clear hK K
      (try simp only [Act.put, List.setIfInBounds_toArray, List.set_cons_zero, List.set_cons_succ])
      refine wpAnyH_done (by kernel_rfl) ?_ _
      (try simp only [Exit.then])
      (try (rename (∀ (_ : Act) (_ : World), _ → _) => hK0; refine hK0 _ _ ?_; clear hK0))
      clear hS10
      have H10 := Lib.hid h10
      have ST10 := Lib.hid st10
      clear h10 st10
      go_wp2_with fail
      refine (psettle_any 0 1 1 H10.out ⟨rfl, rfl, by decide, rfl, by simp [termS, bareE, En.plain], rfl, rfl, by simp, fun p hp => by simp at hp; subst hp; exact ⟨by simp [bareE, En.plain], by simp [bareE, En.plain]⟩, by rw [HV.out]; rfl, by rw [HV.out]; decide⟩).mono ?_
      rintro e w11 ⟨rfl, h11, st11⟩
      have H11 := Lib.hid h11
      have ST11 := Lib.hid (ST10.out.trans st11)
      have c11 : w11.cell? ⟨pb, 41, none⟩ = some (.int .u8 3) := h11.cells 41
      clear h11 st11 H10 ST10
      go_wp2_with fail
      refine (pothers_any (us := [1]) H11.out (by show (0 : Int) < 1; decide) (by rw [HV.out]; rfl) (fun p hp => by simp at hp; subst hp; exact ⟨by simp [bareE, En.plain], by simp [bareE, En.plain]⟩) (by simp) (by rw [HV.out]; decide) (by decide) (by decide)).mono ?_
      rintro e w12 ⟨ao, cap, rfl, hi12, hlo12, hb12⟩
      have H12 := Lib.hid (H11.out.below hb12 (Nat.le_refl _))
      have ST12 := Lib.hid (ST11.out.trans (Stay.below hb12 (Nat.le_trans H11.out.low (Nat.le_of_lt H11.out.lt))))
      clear hi12 hlo12 hb12 H11 ST11 c11
      go_wp2_with fail
      refine (pon_nil H12.out).mono ?_
      rintro e w13 ⟨rfl, hb13⟩
      have H13 := Lib.hid (H12.out.below hb13 (Nat.le_refl _))
      have ST13 := Lib.hid (ST12.out.trans (Stay.below hb13 (Nat.le_trans H12.out.low (Nat.le_of_lt H12.out.lt))))
      clear hb13 H12 ST12
      go_wp2_with fail
      go_end0
      exact ⟨rfl, nx, H13.out, ST13.out⟩
end Go.Proofs.YtbimjggkiiadmaaGreatDoor
/- The tenth tick of a peer of one voter: it leads. Conditions: it is new. -/
namespace Go.Proofs.YtbimjggkiiadmaaGreatDoor
open Go.RowKit
set_option maxRecDepth 20000
set_option maxHeartbeats 8000000 in
theorem pstand_one {w : World} {B pb lb : Nat} {vs : List Int} {first log : Value} (wt lm : Int) (h : PeerIs w B pb lb (.fresh 1 first log wt lm) vs []) (hv1 : vs = [1]) :
    Calls Tryz.prog 33 #[.pointer (some ⟨pb, 0, none⟩)] w (EndIs fun w' => ∃ nx, PeerIs w' B pb lb { PP.led first log (.slice none 0 0) nx with frm := 1, commit := 1, mt := ⟨0, 1, 0, 0, 0, 0, 0, 0, 0, 0⟩ } vs [(bareE 1 1).plain] ∧ Stay B w w') := by
  have hv : vs.length ≤ 1000 := by rw [hv1]; decide
  have hvs : votS vs [] = vs := rfl
  have hen : enoughS vs [1] = true := by rw [hv1]; decide
  have HEN := Lib.hid hen
  have HV1 := Lib.hid hv1
  clear hen hv1
  have HV := Lib.hid hv
  have HVS := Lib.hid hvs
  have hB : B ≤ w.heap.size := Nat.le_trans h.low (Nat.le_of_lt h.lt)
  have c0 : w.cell? ⟨pb, 0, none⟩ = some (.int .i64 0) := h.cells 0
  have f0 := h.soft 0
  have h1 := h.set 0 (.int .i64 1) { PP.fresh 1 first log wt lm with term := 1 } rfl rfl rfl
  have st1 := Stay.set h 0 (.int .i64 1)
  clear h hv hvs
  go_enter Tryz.func33, Tryz.ntmps33
  go_upto_region 1 with fail
  generalize w.setCell ⟨pb, 0, none⟩ (.int .i64 1) = w1 at h1 st1 ⊢
  clear c0 f0
  have c1 : w1.cell? ⟨pb, 38, none⟩ = some (.int .i64 1) := h1.cells 38
  have c2 : w1.cell? ⟨pb, 1, none⟩ = some (.int .i64 0) := h1.cells 1
  have f1 := h1.soft 1
  have h2 := h1.set 1 (.int .i64 1) { PP.fresh 1 first log wt lm with term := 1, voted := 1 } rfl rfl rfl
  have st2 := st1.trans (Stay.set h1 1 (.int .i64 1))
  clear h1 st1
  go_upto_region 2 with fail
  generalize w1.setCell ⟨pb, 1, none⟩ (.int .i64 1) = w2 at h2 st2 ⊢
  clear c1 c2 f1
  go_wp2_with fail
  refine (pfollow_any h2 0).mono ?_
  rintro e w3 ⟨rfl, h3, hg3⟩
  have st3 := st2.trans (Stay.grown h2 hg3)
  have h3 : PeerIs w3 B pb lb { PP.fresh 1 first log wt lm with term := 1, voted := 1 } vs [] := h3
  clear h2 st2 hg3
  have c1 : w3.cell? ⟨pb, 38, none⟩ = some (.int .i64 1) := h3.cells 38
  have hpl3 := h3.lt
  have e1 : w3.cell? ⟨pb, 41, none⟩ = some (.int .u8 1) := h3.cells 41
  have e2 : w3.cell? ⟨pb, 45, none⟩ = some (.slice none 0 0) := h3.cells 45
  have g1 := h3.soft 41
  have g2 := h3.soft 45
  have H3 := Lib.hid h3
  have ST3 := Lib.hid st3
  clear h3 st3
  go_upto_region 4 with fail
  obtain ⟨gv, hgv⟩ : ∃ gv, w3.heap.size = gv := ⟨_, rfl⟩
  have h4 := H3.out.set 41 (.int .u8 2) { PP.fresh 1 first log wt lm with term := 1, voted := 1, role := 2 } rfl rfl rfl
  have h5 := h4.set 45 (.slice (some ⟨gv, 0, none⟩) 1 1) { PP.fresh 1 first log wt lm with term := 1, voted := 1, role := 2, votes := .slice (some ⟨gv, 0, none⟩) 1 1 } rfl rfl rfl
  have st5 := (ST3.out.trans (Stay.set H3.out 41 (.int .u8 2))).trans (Stay.set h4 45 (.slice (some ⟨gv, 0, none⟩) 1 1))
  have sz5 : ((w3.setCell ⟨pb, 41, none⟩ (.int .u8 2)).setCell ⟨pb, 45, none⟩ (.slice (some ⟨gv, 0, none⟩) 1 1)).heap.size = gv := by simp [hgv]
  rw [hgv] at hpl3 ⊢
  generalize (w3.setCell ⟨pb, 41, none⟩ (.int .u8 2)).setCell ⟨pb, 45, none⟩ (.slice (some ⟨gv, 0, none⟩) 1 1) = w4 at h5 st5 sz5 ⊢
  clear h4 H3 ST3 e1 e2 g1 g2 hgv c1
  have hb5 := (Below.refl w4.heap.size w4).alloc (Nat.le_refl _) (.cells #[.int .i64 1] 3)
  have k5 := heap_alloc_new w4 (.cells #[.int .i64 1] 3)
  rw [sz5] at k5
  have st5 := st5.trans (Stay.below hb5 (Nat.le_trans h5.low (Nat.le_of_lt h5.lt)))
  have h5 := h5.below hb5 (Nat.le_refl _)
  clear hb5 sz5
  generalize w4.alloc (.cells #[.int .i64 1] 3) = w5 at h5 st5 k5 ⊢
  go_wp2_with fail
  refine (preset_any h5).mono ?_
  rintro e w6 ⟨rfl, h6, hg6⟩
  have st6 := st5.trans (Stay.grown h5 hg6)
  have k6 := (hg6.block gv (Array.getElem?_eq_some_iff.1 k5).1 (fun e => by have := Option.some.inj e; omega)).trans k5
  have h6 : PeerIs w6 B pb lb { PP.fresh 1 first log 0 0 with term := 1, voted := 1, role := 2, votes := .slice (some ⟨gv, 0, none⟩) 1 1 } vs [] := h6
  clear h5 st5 k5 hg6
  go_upto_region 5 with fail
  have HC := Lib.hid (fun (wS : World) (hb : Below w6.heap.size w6 wS) => (show wS.cell? ⟨pb, 45, none⟩ = some (.slice (some ⟨gv, 0, none⟩) 1 1) from (h6.below hb (Nat.le_refl _)).cells 45))
  have HC7 := Lib.hid (h6.below (Below.refl w6.heap.size w6).drew (Nat.le_refl _))
  have H6 := Lib.hid h6
  have ST6 := Lib.hid st6
  have K6 := Lib.hid k6
  clear h6 st6 k6
  refine heldS_begin (fun w' => Below w6.heap.size w6 w') (by kernel_rfl) ((Below.refl _ _).drew) ?_
  intro hS0
  (first | (refine takeS_no 0 rfl (by kernel_rfl) (by kernel_rfl) (by kernel_rfl) (fun _ _ _ h => h) (by rfl) (by assumption) ?_) | (refine takeS_yes (v := ?_) 0 rfl (by kernel_rfl) (by kernel_rfl) (by kernel_rfl) (fun _ _ _ h => h) (by rfl) (by assumption) ?_ ?_; rotate_left; focus (intro wS hSw; have q0 := HC.out wS hSw; go_simp; first | done | with_reducible rfl)))
  (try simp only [Act.put, List.setIfInBounds_toArray, List.set_cons_zero, List.set_cons_succ])
  (first | (refine takeS_no 2 rfl (by kernel_rfl) (by kernel_rfl) (by kernel_rfl) (fun _ _ _ h => h) (by rfl) (by assumption) ?_) | (refine takeS_yes (v := ?_) 2 rfl (by kernel_rfl) (by kernel_rfl) (by kernel_rfl) (fun _ _ _ h => h) (by rfl) (by assumption) ?_ ?_; rotate_left; focus (intro wS hSw; have q0 := HC.out wS hSw; go_simp; first | done | with_reducible rfl)))
  (try simp only [Act.put, List.setIfInBounds_toArray, List.set_cons_zero, List.set_cons_succ])
  (first | (refine takeS_no 3 rfl (by kernel_rfl) (by kernel_rfl) (by kernel_rfl) (fun _ _ _ h => h) (by rfl) (by assumption) ?_) | (refine takeS_yes (v := ?_) 3 rfl (by kernel_rfl) (by kernel_rfl) (by kernel_rfl) (fun _ _ _ h => h) (by rfl) (by assumption) ?_ ?_; rotate_left; focus (intro wS hSw; have q0 := HC.out wS hSw; go_simp; first | done | with_reducible rfl)))
  (try simp only [Act.put, List.setIfInBounds_toArray, List.set_cons_zero, List.set_cons_succ])
  (first | (refine takeS_no 4 rfl (by kernel_rfl) (by kernel_rfl) (by kernel_rfl) (fun _ _ _ h => h) (by rfl) (by assumption) ?_) | (refine takeS_yes (v := ?_) 4 rfl (by kernel_rfl) (by kernel_rfl) (by kernel_rfl) (fun _ _ _ h => h) (by rfl) (by assumption) ?_ ?_; rotate_left; focus (intro wS hSw; have q0 := HC.out wS hSw; go_simp; first | done | with_reducible rfl)))
  (try simp only [Act.put, List.setIfInBounds_toArray, List.set_cons_zero, List.set_cons_succ])
  (first | (refine takeS_no 5 rfl (by kernel_rfl) (by kernel_rfl) (by kernel_rfl) (fun _ _ _ h => h) (by rfl) (by assumption) ?_) | (refine takeS_yes (v := ?_) 5 rfl (by kernel_rfl) (by kernel_rfl) (by kernel_rfl) (fun _ _ _ h => h) (by rfl) (by assumption) ?_ ?_; rotate_left; focus (intro wS hSw; have q0 := HC.out wS hSw; go_simp; first | done | with_reducible rfl)))
  (try simp only [Act.put, List.setIfInBounds_toArray, List.set_cons_zero, List.set_cons_succ])
  refine takeS_alone 1 rfl (by kernel_rfl) (by rfl) (fun K hK => ?_)
  go_simp
  (refine (pvoters_any HC7.out (by show (0 : Int) < 1; decide) HVS.out (fun p hp => by cases hp) (by simp) (by have := HV.out; omega)).mono ?_; rintro e w7 ⟨a7, n7, c7, rfl, rfl, ho7, hb7⟩; have hS1 := (Below.refl w6.heap.size w6).drew.trans hb7; have hn7 := ints_of_nums (own_rowsIn iCells_len (sub := noSub) rfl ho7 fun _ _ => trivial); clear ho7 hb7)
  refine hK.out _ _ (by assumption) ?_
  clear hK K
  (try simp only [Act.put, List.setIfInBounds_toArray, List.set_cons_zero, List.set_cons_succ])
  refine takeS_alone 6 rfl (by kernel_rfl) (by rfl) (fun K hK => ?_)
  go_simp
  (have hy := ints_of_nums (rows_block (sub := noSub) iCells_len [1] _ ((hS1.block gv (Array.getElem?_eq_some_iff.1 K6.out).1).trans K6.out) rfl (Nat.lt_of_lt_of_le (Array.getElem?_eq_some_iff.1 K6.out).1 hS1.size) (fun _ _ => trivial)); refine (enough_any a7 (some ⟨gv, 0, none⟩) c7 1 vs [1] w7 hn7 hy (by have := HV.out; omega) (by simp)).mono ?_; rw [HEN.out]; rintro e w8 ⟨rfl, hb8⟩; have hS2 := hS1.trans (hb8.mono hS1.size); clear hb8 hn7 hy)
  refine hK.out _ _ (by assumption) ?_
  clear hK K
  (try simp only [Act.put, List.setIfInBounds_toArray, List.set_cons_zero, List.set_cons_succ])
  refine wpAnyH_done (by kernel_rfl) ?_ _
  (try simp only [Exit.then])
  (try (rename (∀ (_ : Act) (_ : World), _ → _) => hK0; refine hK0 _ _ ?_; clear hK0))
  clear hS0 hS1 HC7 HC
  have H8 := Lib.hid (H6.out.below hS2 (Nat.le_refl _))
  have ST8 := Lib.hid (ST6.out.trans (Stay.below hS2 (Nat.le_trans H6.out.low (Nat.le_of_lt H6.out.lt))))
  clear H6 ST6 K6 hS2
  go_wp2_with fail
  refine (plead_one H8.out HV1.out).mono ?_
  rintro e w9 ⟨rfl, nx, h9, st9⟩
  have H9 := Lib.hid h9
  have ST9 := Lib.hid (ST8.out.trans st9)
  clear h9 st9 H8 ST8
  go_wp2_with fail
  go_end0
  exact ⟨rfl, nx, H9.out, ST9.out⟩
/-- A peer that leads, and has committed so much. -/
def LeadsAt (first log : Value) (fr cm : Int) (t : PP) : Prop := ∃ nx, t = { PP.led first log (.slice none 0 0) nx with frm := fr, commit := cm, mt := ⟨0, cm, 0, 0, 0, 0, 0, 0, 0, 0⟩ }
theorem leads_told {first log : Value} {fr cm : Int} {t : PP} (h : LeadsAt first log fr cm t) : (t.role = 3 ∧ t.rd = .all 0 ∧ t.own = 0 ∧ t.id = 1 ∧ t.sure = 0) ∧ t.lost = false ∧ t.letters.oneCell' = true ∧ t.snap.oneCell' = true := by
  obtain ⟨nx, rfl⟩ := h
  exact ⟨⟨rfl, rfl, rfl, rfl, rfl⟩, rfl, rfl, rfl⟩
theorem ptick_lead {w : World} {B pb lb : Nat} {vs : List Int} {first log : Value} (draw : Int) (h : PeerIs w B pb lb (.fresh 1 first log 9 10) vs []) (hv1 : vs = [1]) :
    Calls Tryz.prog 8 #[.pointer (some ⟨pb, 0, none⟩), .int .i64 draw] w (TickIs (fun t _ => LeadsAt first log 1 1 t ∧ True) B pb lb vs [(bareE 1 1).plain] w) := by
  have hB : B ≤ w.heap.size := Nat.le_trans h.low (Nat.le_of_lt h.lt)
  refine ptick_any draw _ (fun t => firm_const _) hB (fun t w h => (leads_told h.1).2.2) fun w1 tb ub hb1 hge ht hu => ?_
  have h1 := h.below hb1 (Nat.le_refl _)
  have hpt : pb < tb := Nat.lt_of_lt_of_le h.lt hge.1
  refine pcall_led _ _ tick_enters h1 (by show (0 : Int) < 1; decide) false (by show decide ((1 : Int) = 3) = false; decide) [(bareE 1 1).plain] (LeadsAt first log 1 1) _ firm2_true (fun t h => leads_told h) (fun w2 hg2 h2 => ?_) (Nat.le_trans hB hb1.size)
  have t1 : w2.cell? ⟨tb, 0, none⟩ = some (.pointer (some ⟨pb, 0, none⟩)) := hg2.cell ht (fun e => by have := Option.some.inj e; simp only at *; omega)
  refine (tenth_any (fun wa w' => ∃ nx, PeerIs w' B pb lb { PP.led first log (.slice none 0 0) nx with frm := 1, commit := 1, mt := ⟨0, 1, 0, 0, 0, 0, 0, 0, 0, 0⟩ } vs [(bareE 1 1).plain] ∧ Stay B wa w') h2 t1 (by omega) (by rw [hv1]; decide) rfl (by rw [hv1]; decide) (fun w3 h3 _ => pstand_one 10 10 h3 hv1)).mono ?_
  rintro e w4 ⟨rfl, w3, st3, nx, hp4, st4⟩
  exact ⟨rfl, _, hp4, ⟨nx, rfl⟩, trivial, st3.1.trans st4.1, (st3.2.trans st4.2).weak⟩
end Go.Proofs.YtbimjggkiiadmaaGreatDoor
/- A peer that lies apart from a stretch of memory; an entry is appended, and a box in the stretch is written. Conditions: the peer lies so. -/
namespace Go.Proofs.YtbimjggkiiadmaaGreatDoor
open Go.RowKit
set_option maxRecDepth 20000
/-- What a value owns lies apart from a stretch. -/
def Gap (C D : Nat) (v : Value) : Prop := ∀ g, v.ownBlock = some g → g < C ∨ D ≤ g
theorem own_lt {w : World} {B E k n g : Nat} {v : Value} {xs : List Value} (h : w.ownsRow B E k v n xs) (hg : v.ownBlock = some g) : g < w.heap.size := by
  rcases h.2 with ⟨e, _⟩ | ⟨g', cap, cur, e, _, hb, _⟩
  · rw [e] at hg; cases hg
  · rw [e] at hg
    cases hg
    exact (Array.getElem?_eq_some_iff.1 hb).1
structure PeerGap (w : World) (B pb lb : Nat) (s : PP) (vs : List Int) (ps : List EnP) (C D : Nat) : Prop where
  peer : PeerIs w B pb lb s vs ps
  at1 : pb < C
  at2 : lb < C
  first : Gap C D s.first
  ens : ∃ v es, LogAt w B lb 0 0 v es ∧ es.map En.plain = ps ∧ Gap C D v ∧ ∀ e ∈ es, Gap C D (argV e) ∧ Gap C D (votV e)
theorem PeerGap.of {w : World} {B pb lb : Nat} {s : PP} {vs : List Int} {ps : List EnP} (h : PeerIs w B pb lb s vs ps) (D : Nat) : PeerGap w B pb lb s vs ps w.heap.size D := by
  obtain ⟨v, es, h1, h2⟩ := h.log
  exact ⟨h, h.lt, h1.lt, fun g hg => Or.inl (own_lt h.row hg), v, es, h1, h2, fun g hg => Or.inl (own_lt h1.ens.row hg), fun e he => ⟨fun g hg => Or.inl (own_lt (h1.ens.own e he).1 hg), fun g hg => Or.inl (own_lt (h1.ens.own e he).2 hg)⟩⟩
theorem PeerGap.below {w w' : World} {B pb lb C D : Nat} {s : PP} {vs : List Int} {ps : List EnP} (h : PeerGap w B pb lb s vs ps C D) (hb : Below w.heap.size w w') : PeerGap w' B pb lb s vs ps C D := by
  obtain ⟨v, es, h1, h2⟩ := h.ens
  exact ⟨h.peer.below hb (Nat.le_refl _), h.at1, h.at2, h.first, v, es, h1.below hb (Nat.le_refl _), h2⟩
/-- The peer's block alone is written. -/
theorem PeerGap.grownP {w w' : World} {B pb lb C D : Nat} {s s' : PP} {vs : List Int} {ps : List EnP} (h : PeerGap w B pb lb s vs ps C D) (hg : w.grownBy w' (some pb)) (hp : PeerIs w' B pb lb s' vs ps) (hf : s'.first = s.first) : PeerGap w' B pb lb s' vs ps C D := by
  obtain ⟨v, es, h1, h2⟩ := h.ens
  have hne : lb ≠ pb := fun e => by
    have hq := h1.blk
    rw [e, h.peer.blk] at hq
    simp only [Option.some.injEq, Obj.cells.injEq] at hq
    exact absurd hq.2.1 (by decide)
  exact ⟨hp, h.at1, h.at2, by rw [hf]; exact h.first, v, es, ⟨(hg.block lb h1.lt (fun e => hne (Option.some.inj e))).trans h1.blk, h1.ens.keptT h.peer.blk (by decide) (by decide) (by decide) hg, h1.low⟩, h2⟩
/-- A block of the stretch is written. -/
theorem PeerGap.store {w : World} {B pb lb C D g : Nat} {s : PP} {vs : List Int} {ps : List EnP} (h : PeerGap w B pb lb s vs ps C D) (hg : C ≤ g ∧ g < D) (k : Nat) (u : Value) : PeerGap (w.setCell ⟨g, k, none⟩ u) B pb lb s vs ps C D := by
  obtain ⟨v, es, h1, h2, h3, h4⟩ := h.ens
  have h5 := h.at1
  have h6 := h.at2
  have no : ∀ x : Value, Gap C D x → x.ownBlock ≠ some g := fun x hx e => by
    rcases hx g e with q | q <;> omega
  have hens : EnsOwn (w.setCell ⟨g, k, none⟩ u) B v es := ⟨ownsRow_setCell_other h1.ens.row (no v h3) u, fun e he => ⟨ownsRow_setCell_other (h1.ens.own e he).1 (no _ (h4 e he).1) u, ownsRow_setCell_other (h1.ens.own e he).2 (no _ (h4 e he).2) u⟩, h1.ens.sep⟩
  have hlog : LogAt (w.setCell ⟨g, k, none⟩ u) B lb 0 0 v es := ⟨(heap_setCell_other _ _ _ _ (by show lb ≠ g; omega)).trans h1.blk, hens, h1.low⟩
  exact ⟨⟨(heap_setCell_other _ _ _ _ (by show pb ≠ g; omega)).trans h.peer.blk, h.peer.lg, ⟨v, es, hlog, h2⟩, ownsRow_setCell_other h.peer.row (no _ h.first) u, h.peer.low⟩, h.at1, h.at2, h.first, v, es, hlog, h2, h3, h4⟩
theorem pappend_gap {w : World} {B pb lb g C D : Nat} {s : PP} {vs : List Int} {ps : List EnP} (t k r : Int) (h : PeerGap w B pb lb s vs ps C D) (hD : D ≤ w.heap.size) (hr : r = ps.length + 1) (hl : ps.length ≤ 1000) (hg : w.heap[g]? = some (.cells (enCells (bareE t k)).toArray 34 (0, 0))) :
    Calls Tryz.prog 23 #[.pointer (some ⟨lb, 0, none⟩), .slice (some ⟨g, 0, none⟩) 1 1] w fun e w' => e = .returned (.int .i64 r) ∧ PeerGap w' B pb lb s vs (ps ++ [(bareE t k).plain]) C D ∧ Stay B w w' ∧ ∀ q, q < w.heap.size → C ≤ q → q < D → w'.heap[q]? = w.heap[q]? := by
  obtain ⟨v, es, h1, h2, h3, h4⟩ := h.ens
  have hlen : es.length = ps.length := len_map h2
  have ha1 := h.at1
  have ha2 := h.at2
  refine (append_any B lb 0 0 v es (some ⟨g, 0, none⟩) 1 1 [bareE t k] w w.heap.size h1 (nums_any _ _ (by omega) (by omega)) (Nat.le_trans h.peer.low (Nat.le_of_lt h.peer.lt)) rfl (by decide) (bareE_in hg) (Nat.le_refl _) (fun e => by cases e) (by decide) (by omega) ⟨fun x hx => by rw [List.mem_singleton] at hx; subst hx; exact ⟨by simp [bareE], by simp [bareE]⟩, fun x hx => by rw [List.mem_singleton] at hx; subst hx; exact ⟨fun _ => rfl, fun _ => rfl⟩⟩).mono ?_
  rintro e w' ⟨v', es2, rfl, g2, g3, g4, g5⟩
  have hT : ∀ (q : Nat) (cs : Array Value) (T : TypeId) (fr : Nat × Nat), w.heap[q]? = some (Obj.cells cs T fr) → T ≠ 92 → T ≠ 34 → w'.heap[q]? = w.heap[q]? := fun q cs T fr hq n1 n2 =>
    g5.apt q (Array.getElem?_eq_some_iff.1 hq).1 (fun e => by
      have hb := h1.blk
      rw [← e, hq] at hb
      simp only [Option.some.injEq, Obj.cells.injEq] at hb
      exact n1 hb.2.1) (row_ne_T hq h1.ens.row n2)
  have hmap : (es ++ es2).map En.plain = ps ++ [(bareE t k).plain] := by rw [List.map_append, h2, g3]; rfl
  have hpe : PeerIs w' B pb lb s vs (ps ++ [(bareE t k).plain]) := by
    refine ⟨(hT pb _ _ _ h.peer.blk (by decide) (by decide)).trans h.peer.blk, h.peer.lg, ⟨v', es ++ es2, g2, hmap⟩, ownsRow_same h.peer.row fun q hq _ => ?_, h.peer.low⟩
    rcases h.peer.row.2 with ⟨e, _⟩ | ⟨g', cap, cur, e, _, hb, _⟩
    · rw [e] at hq; cases hq
    · rw [e] at hq
      cases hq
      exact hT _ _ _ _ hb (by decide) (by decide)
  refine ⟨by rw [hr, hlen, Int.zero_add], ⟨hpe, h.at1, h.at2, h.first, v', es ++ es2, g2, hmap, fun q hq => ?_, fun e he => ?_⟩, ⟨g4, fun q cs T fr hq _ n2 n3 _ => hT q cs T fr hq n2 n3⟩, fun q hq hC hD' => g5.apt q hq (by omega) (fun e => by rcases h3 q e with z | z <;> omega)⟩
  · rcases g5.row with hh | hh
    · exact h3 q (by rw [← hh]; exact hq)
    · have := hh q hq
      omega
  · rcases g5.own e he with hh | hh
    · exact h4 e hh
    · exact ⟨fun q hq => by have := own_below' hh.1 q hq; omega, fun q hq => by have := own_below' hh.2 q hq; omega⟩
end Go.Proofs.YtbimjggkiiadmaaGreatDoor
