/- The law WireReads, walked: it returns true, and nothing that was there is changed. Conditions: the arguments are read as the row reads them. -/
import Derived.Test.YtpjaghaapmbanaaDoorRead
import Derived.Test.YtpjaghaapmbanaaDoorJoins2
import Derived.Test.YtpjaghaapmbanaaDoorHeldR
namespace Go.Proofs.YtpjaghaapmbanaaDoor
open Go.RowKit
set_option maxRecDepth 20000

/-- Two operations that may come up in either order. -/
theorem take_two {P : Program} {md : Region.Mode} {ops : Array Oper} {Q : Exit → Act → World → Prop} (i j : Nat) {oi oj : Oper} {fuel : Nat} {listed : Array Bool} {a : Act} {w : World} (hi : ops.toList[i]? = some oi) (hj : ops.toList[j]? = some oj) (hr : Region.ready md ops listed = [i, j]) (hwi : Region.wanted oi (yielded ops a.tmps) = true) (hwj : Region.wanted oj (yielded ops a.tmps) = true)
    (h1 : ∀ K' : Act → World → Prop, Shut (∀ a w, wpAnyH P md ops Q (fun _ => True) fuel (listed.setIfInBounds i true) a w → K' a w) → Oper.wp P oi a w K' Q)
    (h2 : ∀ K' : Act → World → Prop, Shut (∀ a w, wpAnyH P md ops Q (fun _ => True) fuel (listed.setIfInBounds j true) a w → K' a w) → Oper.wp P oj a w K' Q) : wpAnyH P md ops Q (fun _ => True) (fuel + 1) listed a w :=
  wpAnyH_ready (rs := [i, j]) hr (by simp) (AllReadyH.cons (by rw [← Array.getElem?_toList]; exact hi) (fun K hK => by rw [if_pos hwi]; exact h1 K (fun a w hW => hK.out a w trivial (fun _ => hW)))
    (AllReadyH.cons (by rw [← Array.getElem?_toList]; exact hj) (fun K hK => by rw [if_pos hwj]; exact h2 K (fun a w hW => hK.out a w trivial (fun _ => hW))) AllReadyH.nil))
theorem ref_new {w : World} {B : Nat} {ao : Option Addr} {n cap : Nat} {xs : List Int} (hn : xs.length = n) (hx : BytesIn w B ao xs) (hB : B ≤ w.heap.size) (hc : n ≤ cap) (hnil : ao = none → cap = 0) (hl : n ≤ 140737488351232) :
    Ref (w.alloc (.cells #[.slice ao n cap, .int .i64 0, .bool false] 35)) B w.heap.size false xs := by
  refine ⟨0, ao, n, cap, xs, ⟨heap_alloc_new w _, ?_, hn, hc, hnil, Nat.zero_le _, by simp; omega, hl⟩, rfl⟩
  rcases hx with h | ⟨b, off, h1, h2, h3⟩
  · exact Or.inl h
  · refine Or.inr ⟨b, off, h1, h2, by omega, fun i hi => ?_⟩
    rw [((Below.refl w.heap.size w).alloc (Nat.le_refl _) _).cell (p := ⟨b, _, none⟩) (by show b < _; omega)]
    exact h3 i hi
set_option maxHeartbeats 8000000 in
theorem walk_reads (W : World) (ao : Option Addr) (n cap : Nat) (xs : List Int) (hn : xs.length = n) (hx : BytesIn W W.heap.size ao xs) (hw : BytesWf xs) (hao : ao = none → cap = 0) (hc : n ≤ cap) (hl : n ≤ 140737488351232) (co : Option Addr) (m cap2 : Nat) (ys : List Int) (hm : ys.length = m) (hy : NumsIn W W.heap.size co ys) (hz : m ≤ 140737488351232) :
    Calls Tryd.prog 4 #[.slice ao n cap, .slice co m cap2] W fun e w' => e = .returned (.bool true) ∧ Below W.heap.size W w' := by
  have HN := Lib.hid hn
  have HX := Lib.hid hx
  have HW := Lib.hid hw
  have HA := Lib.hid hao
  have HM := Lib.hid hm
  have HY := Lib.hid hy
  clear hn hx hw hao hm hy
  by_cases hbig : 20000 < n
  · have d1 : (20000 : Int) < n := by omega
    go_enter Tryd.func4, Tryd.ntmps4
    go_wp2_with fail
    refine (awake02_any W).mono ?_
    rintro e w1 ⟨rfl, b1⟩
    go_wp2_with fail
    go_ret
    exact ⟨rfl, b1⟩
  have d1 : (n : Int) ≤ 20000 := by omega
  have d2 : decide ((20000 : Int) < (n : Int)) = false := by simpa using d1
  clear hbig
  go_enter Tryd.func4, Tryd.ntmps4
  go_wp2_with fail
  refine (lentB_at ao n cap xs W W.heap.size HN.out HX.out (Nat.le_refl _) HA.out (by omega)).mono ?_
  rintro e w1 ⟨g, rfl, hg0, hg1, hlb, hb1⟩
  have L1 := Lib.hid hlb
  have B1 := Lib.hid hb1
  have hz1 := hb1.size
  clear hlb hb1
  go_wp2_with fail
  refine (newReader_far (some ⟨g, 0, none⟩) n (n + 12) xs w1 (g + 1) HN.out L1.out.bytes hg1 (by simp) (by omega)).mono ?_
  rintro e w2 ⟨rb, ra, rc, rfl, hrb, hri, hfar, hb2⟩
  have B2 := Lib.hid (B1.out.trans (hb2.mono hz1))
  have L2 := Lib.hid (own_below L1.out hb2 (Nat.le_refl _))
  have RI2 := Lib.hid hri
  have FAR := Lib.hid hfar
  have hrb2 := hri.lt
  have hz2 := B2.out.size
  clear hri hfar hb2 B1 L1
  go_wp2_with fail
  have hA := (Below.refl w2.heap.size w2).alloc (Nat.le_refl _) (.cells #[.slice ao n cap, .int .i64 0, .bool false] 35)
  have B3 := Lib.hid (B2.out.trans (hA.mono hz2))
  have L3 := Lib.hid (own_below L2.out hA (Nat.le_refl _))
  have RI3 := Lib.hid (RI2.out.below hA)
  have D3 := Lib.hid (ref_new HN.out (HX.out.below B2.out (Nat.le_refl _)) hz2 hc HA.out hl)
  obtain ⟨db, hdb⟩ : ∃ db, w2.heap.size = db := ⟨_, rfl⟩
  have hrd : rb < db := by omega
  have D4 := Lib.hid (hdb ▸ D3.out)
  rw [hdb]
  clear hA B2 L2 RI2 D3
  generalize w2.alloc (.cells #[.slice ao n cap, .int .i64 0, .bool false] 35) = w3 at B3 L3 RI3 D4 ⊢
  refine (keptB_at ao n cap (n + 12) g W.heap.size xs w3 HN.out rfl ((HX.out.below B3.out (Nat.le_refl _)).mono B3.out.size) L3.out (by omega)).mono ?_
  rintro e w4 ⟨rfl, hb4⟩
  have B4 := Lib.hid (B3.out.trans (hb4.mono B3.out.size))
  have L4 := Lib.hid (own_below L3.out hb4 (Nat.le_refl _))
  have RI4 := Lib.hid (RI3.out.below hb4)
  have D5 := Lib.hid (D4.out.below hb4)
  clear hb4 B3 L3 RI3 D4
  go_wp2_with fail
  refine (overB_at W.heap.size g n (n + 12) xs w4 HN.out rfl L4.out (by omega)).mono ?_
  rintro e w5 ⟨rfl, hg5⟩
  have B5 := Lib.hid (B4.out.grown hg5 B4.out.size (fun b e => by cases e; exact hg0))
  have R5 := Lib.hid (show Rdr w5 rb rb false xs from ⟨ra, rc, RI4.out.grownFar hg5 FAR.out hg1 (by omega)⟩)
  have D6 := Lib.hid (D5.out.grown hg5 (fun b e => by cases e; exact ⟨hg0, by omega⟩))
  clear hg5 B4 L4 RI4 D5
  obtain ⟨P, hP⟩ : ∃ P : Bool × Bool, (!false && xs.isEmpty) = P.1 := ⟨(!false && xs.isEmpty, true), rfl⟩
  have HPP := Lib.hid hP
  clear hP
  have hneq : ∀ w, (binOp .neq 4 (.bool P.1) (.bool P.1)).run Tryd.prog w = .ok (.bool false) w := fun w => by cases P.1 <;> kernel_rfl
  go_wp2_with fail
  refine (bad_rd rb rb false xs w5 R5.out).mono ?_
  rintro e w' ⟨rfl, rfl⟩
  go_wp2_with fail
  refine (done_rd rb rb false xs w5 R5.out).mono ?_
  rintro e w' ⟨he, rfl⟩
  rw [HPP.out] at he
  subst he
  go_wp2_with fail
  refine (rdone_any W.heap.size db false xs w5 D6.out).mono ?_
  rintro e w6 ⟨he, hb6⟩
  rw [HPP.out] at he
  subst he
  have B6 := Lib.hid (B5.out.trans (hb6.mono B5.out.size))
  have R6 := Lib.hid (R5.out.below hb6)
  have D7 := Lib.hid (D6.out.below hb6)
  clear hb6 B5 R5 D6
  go_wp2_with fail
  clear hneq HPP
  go_loopw [8] (fun i wr => ∃ (k : Nat) (b : Bool) (l : List Int), k ≤ m ∧ i = .int .i64 k ∧ Rdr wr rb rb b l ∧ Ref wr W.heap.size db b l ∧ Below W.heap.size W wr ∧ BytesWf l ∧ l.length ≤ n) (fun i _ => m - (intOf i).toNat)
  case atStart => exact ⟨0, false, xs, by omega, rfl, R6.out, D7.out, B6.out, HW.out, by rw [HN.out]; exact Nat.le_refl _⟩
  case round =>
    clear R6 D7 B6
    obtain ⟨k, b, l, hk, rfl, hr_, hd_, hb_, hw_, hl_⟩ := hrel
    have R := Lib.hid hr_
    have D := Lib.hid hd_
    have B := Lib.hid hb_
    have BW := Lib.hid hw_
    clear hr_ hd_ hb_ hw_
    by_cases hlt : k < m
    · by_cases h3 : k < 300
      · obtain ⟨q, hq⟩ : ∃ q, ys[k]? = some q := ⟨_, List.getElem?_eq_getElem (by rw [HM.out]; exact hlt)⟩
        obtain ⟨bb, off, hco, hbb, hcell, _⟩ := HY.out.at hq
        have c0' : W.cell? ⟨bb, off + k, none⟩ = some (.int .i64 q) := by
          have := hcell 0 (by decide)
          rw [Nat.mul_one, Nat.add_zero] at this
          exact this
        have c0 : wr.cell? ⟨bb, off + k, none⟩ = some (.int .i64 q) := (B.out.cell (p := ⟨bb, off + k, none⟩) hbb).trans c0'
        subst hco
        obtain ⟨T, hT⟩ : ∃ T, behindS (q % 8) b l = T := ⟨_, rfl⟩
        have HRD := Lib.hid (fun w' (hr : Rdr w' rb rb b l) (hd : Ref w' W.heap.size db b l) (hs : W.heap.size ≤ w'.heap.size) => read_any rb W.heap.size rb db W.heap.size b l q w' hr hd hrd (by omega) (by omega) (by omega) hs BW.out (by omega))
        rw [hT] at HRD
        have RD := Lib.hid (R.out.below (Below.refl _ _).drew)
        have DD := Lib.hid (D.out.below (Below.refl _ _).drew)
        have hsz := B.out.size
        have hneq1 : ∀ w, (binOp .neq 4 (.bool T.1) (.bool T.1)).run Tryd.prog w = .ok (.bool false) w := fun w => by cases T.1 <;> kernel_rfl
        obtain ⟨P, hP⟩ : ∃ P : Bool × Bool, (!T.1 && T.2.isEmpty) = P.1 := ⟨(!T.1 && T.2.isEmpty, true), rfl⟩
        have HPP := Lib.hid hP
        clear hP
        have hneq2 : ∀ w, (binOp .neq 4 (.bool P.1) (.bool P.1)).run Tryd.prog w = .ok (.bool false) w := fun w => by cases P.1 <;> kernel_rfl
        have i1 : (k : Int) < m := by omega
        have i2 : (k : Int) < 300 := by omega
        clear hcell hq c0' hT
        go_wp2_with fail
        refine held_begin (by kernel_rfl) ?_
        (first | (refine take_no 0 rfl (by kernel_rfl) (by kernel_rfl) (by kernel_rfl) (fun _ _ _ h => h) (by rfl) ?_) | (refine take_yes (v := ?_) 0 rfl (by kernel_rfl) (by kernel_rfl) (by kernel_rfl) (fun _ _ _ h => h) (by rfl) ?_ ?_; rotate_left; focus (intro wS; go_simp; first | done | with_reducible rfl)))
        (try simp only [Act.put, List.setIfInBounds_toArray, List.set_cons_zero, List.set_cons_succ])
        (first | (refine take_no 1 rfl (by kernel_rfl) (by kernel_rfl) (by kernel_rfl) (fun _ _ _ h => h) (by rfl) ?_) | (refine take_yes (v := ?_) 1 rfl (by kernel_rfl) (by kernel_rfl) (by kernel_rfl) (fun _ _ _ h => h) (by rfl) ?_ ?_; rotate_left; focus (intro wS; go_simp; first | done | with_reducible rfl)))
        (try simp only [Act.put, List.setIfInBounds_toArray, List.set_cons_zero, List.set_cons_succ])
        (first | (refine take_no 2 rfl (by kernel_rfl) (by kernel_rfl) (by kernel_rfl) (fun _ _ _ h => h) (by rfl) ?_) | (refine take_yes (v := ?_) 2 rfl (by kernel_rfl) (by kernel_rfl) (by kernel_rfl) (fun _ _ _ h => h) (by rfl) ?_ ?_; rotate_left; focus (intro wS; go_simp; first | done | with_reducible rfl)))
        (try simp only [Act.put, List.setIfInBounds_toArray, List.set_cons_zero, List.set_cons_succ])
        (first | (refine take_no 3 rfl (by kernel_rfl) (by kernel_rfl) (by kernel_rfl) (fun _ _ _ h => h) (by rfl) ?_) | (refine take_yes (v := ?_) 3 rfl (by kernel_rfl) (by kernel_rfl) (by kernel_rfl) (fun _ _ _ h => h) (by rfl) ?_ ?_; rotate_left; focus (intro wS; go_simp; first | done | with_reducible rfl)))
        (try simp only [Act.put, List.setIfInBounds_toArray, List.set_cons_zero, List.set_cons_succ])
        (first | (refine take_no 4 rfl (by kernel_rfl) (by kernel_rfl) (by kernel_rfl) (fun _ _ _ h => h) (by rfl) ?_) | (refine take_yes (v := ?_) 4 rfl (by kernel_rfl) (by kernel_rfl) (by kernel_rfl) (fun _ _ _ h => h) (by rfl) ?_ ?_; rotate_left; focus (intro wS; go_simp; first | done | with_reducible rfl)))
        (try simp only [Act.put, List.setIfInBounds_toArray, List.set_cons_zero, List.set_cons_succ])
        refine take_alone 5 rfl (by kernel_rfl) (by rfl) (fun K hK => ?_)
        go_simp
        skip
        refine hK.out _ _ ?_
        clear hK K
        (try simp only [Act.put, List.setIfInBounds_toArray, List.set_cons_zero, List.set_cons_succ])
        refine take_alone 6 rfl (by kernel_rfl) (by rfl) (fun K hK => ?_)
        go_simp
        (refine (HRD.out _ RD.out DD.out hsz).mono ?_; rintro e w8 ⟨rfl, hr8, hd8, hb8, hw8, hl8⟩; have R8 := Lib.hid hr8; have D8 := Lib.hid hd8; have B8 := Lib.hid hb8; have W8 := Lib.hid hw8; have cb := hd8.badCell.1; clear hr8 hd8 hb8 hw8)
        refine hK.out _ _ ?_
        clear hK K
        (try simp only [Act.put, List.setIfInBounds_toArray, List.set_cons_zero, List.set_cons_succ])
        (first | (refine take_no 7 rfl (by kernel_rfl) (by kernel_rfl) (by kernel_rfl) (fun _ _ _ h => h) (by rfl) ?_) | (refine take_yes (v := ?_) 7 rfl (by kernel_rfl) (by kernel_rfl) (by kernel_rfl) (fun _ _ _ h => h) (by rfl) ?_ ?_; rotate_left; focus (intro wS; go_simp; first | done | with_reducible rfl)))
        (try simp only [Act.put, List.setIfInBounds_toArray, List.set_cons_zero, List.set_cons_succ])
        (first | (refine take_no 8 rfl (by kernel_rfl) (by kernel_rfl) (by kernel_rfl) (fun _ _ _ h => h) (by rfl) ?_) | (refine take_yes (v := ?_) 8 rfl (by kernel_rfl) (by kernel_rfl) (by kernel_rfl) (fun _ _ _ h => h) (by rfl) ?_ ?_; rotate_left; focus (intro wS; go_simp; first | done | with_reducible rfl)))
        (try simp only [Act.put, List.setIfInBounds_toArray, List.set_cons_zero, List.set_cons_succ])
        (first | (refine take_no 9 rfl (by kernel_rfl) (by kernel_rfl) (by kernel_rfl) (fun _ _ _ h => h) (by rfl) ?_) | (refine take_yes (v := ?_) 9 rfl (by kernel_rfl) (by kernel_rfl) (by kernel_rfl) (fun _ _ _ h => h) (by rfl) ?_ ?_; rotate_left; focus (intro wS; go_simp; first | done | with_reducible rfl)))
        (try simp only [Act.put, List.setIfInBounds_toArray, List.set_cons_zero, List.set_cons_succ])
        (first | (refine take_no 11 rfl (by kernel_rfl) (by kernel_rfl) (by kernel_rfl) (fun _ _ _ h => h) (by rfl) ?_) | (refine take_yes (v := ?_) 11 rfl (by kernel_rfl) (by kernel_rfl) (by kernel_rfl) (fun _ _ _ h => h) (by rfl) ?_ ?_; rotate_left; focus (intro wS; go_simp; first | done | with_reducible rfl)))
        (try simp only [Act.put, List.setIfInBounds_toArray, List.set_cons_zero, List.set_cons_succ])
        (first | (refine take_no 12 rfl (by kernel_rfl) (by kernel_rfl) (by kernel_rfl) (fun _ _ _ h => h) (by rfl) ?_) | (refine take_yes (v := ?_) 12 rfl (by kernel_rfl) (by kernel_rfl) (by kernel_rfl) (fun _ _ _ h => h) (by rfl) ?_ ?_; rotate_left; focus (intro wS; go_simp; first | done | with_reducible rfl)))
        (try simp only [Act.put, List.setIfInBounds_toArray, List.set_cons_zero, List.set_cons_succ])
        (first | (refine take_no 13 rfl (by kernel_rfl) (by kernel_rfl) (by kernel_rfl) (fun _ _ _ h => h) (by rfl) ?_) | (refine take_yes (v := ?_) 13 rfl (by kernel_rfl) (by kernel_rfl) (by kernel_rfl) (fun _ _ _ h => h) (by rfl) ?_ ?_; rotate_left; focus (intro wS; go_simp; first | done | with_reducible rfl)))
        (try simp only [Act.put, List.setIfInBounds_toArray, List.set_cons_zero, List.set_cons_succ])
        refine take_two 10 14 rfl rfl (by kernel_rfl) (by rfl) (by rfl) (fun K hK => ?_) (fun K hK => ?_)
        rotate_left
        focus
          go_simp
          skip
          refine hK.out _ _ ?_
          clear hK K
          (try simp only [Act.put, List.setIfInBounds_toArray, List.set_cons_zero, List.set_cons_succ])
          refine take_alone 10 rfl (by kernel_rfl) (by rfl) (fun K hK => ?_)
          go_simp
          (refine (bad_rd rb rb T.1 T.2 w8 R8.out).mono ?_; rintro e wx ⟨rfl, rfl⟩)
          refine hK.out _ _ ?_
          clear hK K
          (try simp only [Act.put, List.setIfInBounds_toArray, List.set_cons_zero, List.set_cons_succ])
        rotate_left
        focus
          go_simp
          (refine (bad_rd rb rb T.1 T.2 w8 R8.out).mono ?_; rintro e wx ⟨rfl, rfl⟩)
          refine hK.out _ _ ?_
          clear hK K
          (try simp only [Act.put, List.setIfInBounds_toArray, List.set_cons_zero, List.set_cons_succ])
          refine take_alone 14 rfl (by kernel_rfl) (by rfl) (fun K hK => ?_)
          go_simp
          skip
          refine hK.out _ _ ?_
          clear hK K
          (try simp only [Act.put, List.setIfInBounds_toArray, List.set_cons_zero, List.set_cons_succ])
        all_goals
          (first | (refine take_no 15 rfl (by kernel_rfl) (by kernel_rfl) (by kernel_rfl) (fun _ _ _ h => h) (by rfl) ?_) | (refine take_yes (v := ?_) 15 rfl (by kernel_rfl) (by kernel_rfl) (by kernel_rfl) (fun _ _ _ h => h) (by rfl) ?_ ?_; rotate_left; focus (intro wS; go_simp; first | done | with_reducible rfl)))
          (try simp only [Act.put, List.setIfInBounds_toArray, List.set_cons_zero, List.set_cons_succ])
          (first | (refine take_no 16 rfl (by kernel_rfl) (by kernel_rfl) (by kernel_rfl) (fun _ _ _ h => h) (by rfl) ?_) | (refine take_yes (v := ?_) 16 rfl (by kernel_rfl) (by kernel_rfl) (by kernel_rfl) (fun _ _ _ h => h) (by rfl) ?_ ?_; rotate_left; focus (intro wS; go_simp; first | done | with_reducible rfl)))
          (try simp only [Act.put, List.setIfInBounds_toArray, List.set_cons_zero, List.set_cons_succ])
          (first | (refine take_no 17 rfl (by kernel_rfl) (by kernel_rfl) (by kernel_rfl) (fun _ _ _ h => h) (by rfl) ?_) | (refine take_yes (v := ?_) 17 rfl (by kernel_rfl) (by kernel_rfl) (by kernel_rfl) (fun _ _ _ h => h) (by rfl) ?_ ?_; rotate_left; focus (intro wS; go_simp; first | done | with_reducible rfl)))
          (try simp only [Act.put, List.setIfInBounds_toArray, List.set_cons_zero, List.set_cons_succ])
          (first | (refine take_no 18 rfl (by kernel_rfl) (by kernel_rfl) (by kernel_rfl) (fun _ _ _ h => h) (by rfl) ?_) | (refine take_yes (v := ?_) 18 rfl (by kernel_rfl) (by kernel_rfl) (by kernel_rfl) (fun _ _ _ h => h) (by rfl) ?_ ?_; rotate_left; focus (intro wS; go_simp; first | done | with_reducible rfl)))
          (try simp only [Act.put, List.setIfInBounds_toArray, List.set_cons_zero, List.set_cons_succ])
          (first | (refine take_no 20 rfl (by kernel_rfl) (by kernel_rfl) (by kernel_rfl) (fun _ _ _ h => h) (by rfl) ?_) | (refine take_yes (v := ?_) 20 rfl (by kernel_rfl) (by kernel_rfl) (by kernel_rfl) (fun _ _ _ h => h) (by rfl) ?_ ?_; rotate_left; focus (intro wS; go_simp; first | done | with_reducible rfl)))
          (try simp only [Act.put, List.setIfInBounds_toArray, List.set_cons_zero, List.set_cons_succ])
          refine take_alone 19 rfl (by kernel_rfl) (by rfl) (fun K hK => ?_)
          go_simp
          (refine (done_rd rb rb T.1 T.2 w8 R8.out).mono ?_; rintro e wx ⟨he, rfl⟩; rw [HPP.out] at he; subst he)
          refine hK.out _ _ ?_
          clear hK K
          (try simp only [Act.put, List.setIfInBounds_toArray, List.set_cons_zero, List.set_cons_succ])
          refine take_alone 21 rfl (by kernel_rfl) (by rfl) (fun K hK => ?_)
          go_simp
          (refine (rdone_any W.heap.size db T.1 T.2 w8 D8.out).mono ?_; rintro e w9 ⟨he, hb9⟩; rw [HPP.out] at he; subst he; have B9 := Lib.hid hb9; clear hb9)
          refine hK.out _ _ ?_
          clear hK K
          (try simp only [Act.put, List.setIfInBounds_toArray, List.set_cons_zero, List.set_cons_succ])
          (first | (refine take_no 22 rfl (by kernel_rfl) (by kernel_rfl) (by kernel_rfl) (fun _ _ _ h => h) (by rfl) ?_) | (refine take_yes (v := ?_) 22 rfl (by kernel_rfl) (by kernel_rfl) (by kernel_rfl) (fun _ _ _ h => h) (by rfl) ?_ ?_; rotate_left; focus (intro wS; go_simp; first | done | with_reducible rfl)))
          (try simp only [Act.put, List.setIfInBounds_toArray, List.set_cons_zero, List.set_cons_succ])
          (first | (refine take_no 23 rfl (by kernel_rfl) (by kernel_rfl) (by kernel_rfl) (fun _ _ _ h => h) (by rfl) ?_) | (refine take_yes (v := ?_) 23 rfl (by kernel_rfl) (by kernel_rfl) (by kernel_rfl) (fun _ _ _ h => h) (by rfl) ?_ ?_; rotate_left; focus (intro wS; go_simp; first | done | with_reducible rfl)))
          (try simp only [Act.put, List.setIfInBounds_toArray, List.set_cons_zero, List.set_cons_succ])
          refine wpAnyH_done (by kernel_rfl) ?_ _
          have RR := Lib.hid (R8.out.below B9.out)
          have RF := Lib.hid (D8.out.below B9.out)
          have BB := Lib.hid ((B.out.trans (Below.trans (show Below W.heap.size wr wr.drew from (Below.refl _ _).drew) B8.out)).trans (B9.out.mono (Nat.le_trans hsz B8.out.size)))
          clear hneq1 hneq2 HPP cb R8 D8 B8 B9 RD DD
          go_wp2_with fail
          go_roundw
          case rel => exact ⟨k + 1, T.1, T.2, by omega, by go_num, RR.out, RF.out, BB.out, W8.out, Nat.le_trans hl8 hl_⟩
          case measure => simp [intOf]; omega
      · have i1 : (k : Int) < m := by omega
        have i2 : ¬ (k : Int) < 300 := by omega
        have i3 : (300 : Int) ≤ k := by omega
        have i4 : decide ((k : Int) < 300) = false := by simpa using i3
        have hsz := B.out.size
        go_wp2_with fail
        refine (awake02_any wr).mono ?_
        rintro e w9 ⟨rfl, b9⟩
        go_wp2_with fail
        go_ret
        exact ⟨rfl, B.out.trans (b9.mono hsz)⟩
    · obtain rfl : k = m := by omega
      have hsz := B.out.size
      go_wp2_with fail
      refine (awake02_any wr).mono ?_
      rintro e w9 ⟨rfl, b9⟩
      go_wp2_with fail
      go_ret
      exact ⟨rfl, B.out.trans (b9.mono hsz)⟩

/- The law WireReads: its arguments, read; the law, walked. Conditions: the arguments are read as the row reads them. -/
theorem int_el {H : Type} {enc : TypeId × Value → H} {W : World} {sp : Nat → Bool} {hd : Bool} (cs : List Value) (n : Nat) (y : DataW H) (pl : List MemPlace) (_ : cs.length = 1) (h : DataW.trod enc Tryd.prog W 0 sp hd n 3 cs = some (y, pl)) :
    ∃ x : Int, iCells x = cs ∧ noSub W W.heap.size x ∧ True := by
  obtain ⟨k0, e0, _, _⟩ := DataW.trod_int Tryd.underlying3 h
  exact ⟨k0, e0.symm, trivial, trivial⟩
theorem bytes_b1 : Tryd.prog.bytesOf 5 = 1 := by kernel_rfl
theorem bytes_i8 : Tryd.prog.bytesOf 3 = 8 := by kernel_rfl
theorem walk_WireReads {H : Type} {enc : TypeId × Value → H} {d : DataW H} {p : List MemPlace} (W : World) (a0 : Option Addr) (n0 c0 : Nat) (xs : List Int) (e0 : xs.length = n0) (x0 : BytesIn W W.heap.size a0 xs) (w0 : BytesWf xs) (nil0 : a0 = none → c0 = 0) (h0 : n0 ≤ c0) (_ : c0 ≤ maxLen) (z0 : n0 * Tryd.prog.bytesOf 5 ≤ 140737488351232)
    (a1 : Option Addr) (n1 c1 : Nat) (h : DataW.Trod enc Tryd.prog W 0 (fun _ => true) true 30 (.slice a1 n1 c1) d p) (z1 : n1 * Tryd.prog.bytesOf 3 ≤ 140737488351232) :
    Calls Tryd.prog 4 #[.slice a0 n0 c0, .slice a1 n1 c1] W fun e w' => e = .returned (.bool true) ∧ Below W.heap.size W w' := by
  obtain ⟨ys, hl, hx, _, _, _⟩ := open_rows (fun _ => True) Tryd.underlying30 (by kernel_rfl) (by decide) int_el h
  rw [bytes_b1] at z0
  rw [bytes_i8] at z1
  exact walk_reads W a0 n0 c0 xs e0 x0 w0 nil0 h0 (by omega) a1 n1 c1 ys hl.symm hx (by omega)
end Go.Proofs.YtpjaghaapmbanaaDoor
