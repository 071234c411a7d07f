/- A disk's methods Cut, Rename. Conditions: the disk lies as its files say. -/
import Derived.Test.YtejgebpdipnhmaaGreatDoorGSnapNumbers9
set_option linter.unusedVariables false
set_option linter.unusedSimpArgs false
namespace Go.Proofs.YtejgebpdipnhmaaGreatDoor
open Go.RowKit
set_option maxRecDepth 20000
theorem run_sub_hm2 {P : Program} {t : TypeId} {k : Nat} (ht : P.underlying t = some (.slice (P.elem t))) (hk : ∀ w, (sizeOf (P.elem t)).run P w = .ok k w) (ao : Option Addr) (n cap h : Nat) (hh : h ≤ cap) (kh km : IntKind) (hi : Int) (eh : hi = h) (w : World) :
    (Instr.sliceAt t (.slice ao n cap) none (some (.int kh hi)) (some (.int km hi))).run P w = .ok (.slice (subA ao h 0 k) h h) w := by
  subst eh
  rw [run_sliceAt_slice _ _ _ _ _ _ ht, run_slice_hm _ _ _ _ _ ht _ _ _ _ (by omega) (by omega) (by omega), hk]
  simp [Result.andThen, sliced, subA]
theorem own_zero {w : World} {base n c m : Nat} {a : Option Addr} {L : List Int} (h : BOwn w base a n c L) : subA a m 0 1 = a := subA_zero _ _ _ fun x hx => by
  rcases Go.Joins.ownsRow_forms h.row with ⟨h1, _⟩ | ⟨g, c', h1⟩
  · subst hx; cases h1
  · subst hx; cases h1; rfl
set_option maxHeartbeats 4000000 in
theorem cut1 (r : Rv) (f : Fi) (w : World) (q m : Nat) (h : RvIs w w.heap.size r f) (hl : f.all.length ≤ 1099511627776) (hk : w.heap[q]? = some (.cells #[.int .i64 m] 3 (0, 0))) (hm : m ≤ f.all.length) :
    Calls Tryz.prog 79 #[rvVal r, .pointer (some ⟨q, 0, none⟩)] w fun e w2 => ∃ r', e = .returned (.tuple #[rvVal r', .int .i64 0]) ∧ RvIs w2 w2.heap.size r' ⟨f.all.take m, []⟩ ∧ Below w.heap.size w w2 := by
  obtain ⟨a1, n1, c1, a2, n2, c2⟩ := r
  have hqlt := (Array.getElem?_eq_some_iff.1 hk).1
  have hb1 := (Below.refl w.heap.size w).alloc (Nat.le_refl _) (.cells #[.slice a1 n1 c1, .slice a2 n2 c2] 125)
  have hk1 := heap_alloc_new w (.cells #[.slice a1 n1 c1, .slice a2 n2 c2] 125)
  have hs1 : (w.alloc (.cells #[.slice a1 n1 c1, .slice a2 n2 c2] 125)).heap.size = w.heap.size + 1 := by simp
  have hb21 := (Below.refl _ (w.alloc (.cells #[.slice a1 n1 c1, .slice a2 n2 c2] 125))).alloc (Nat.le_refl _) (.cells #[.slice none 0 0, .slice none 0 0] 125)
  have hb2 := hb1.alloc hb1.size (.cells #[.slice none 0 0, .slice none 0 0] 125)
  have hk2 := heap_alloc_new (w.alloc (.cells #[.slice a1 n1 c1, .slice a2 n2 c2] 125)) (.cells #[.slice none 0 0, .slice none 0 0] 125)
  have hk12 := (hb21.block w.heap.size (by omega)).trans hk1
  rw [hs1] at hk2
  have hs2 : ((w.alloc (.cells #[.slice a1 n1 c1, .slice a2 n2 c2] 125)).alloc (.cells #[.slice none 0 0, .slice none 0 0] 125)).heap.size = w.heap.size + 2 := by simp
  have hkb := (hb2.block q hqlt).trans hk
  have HB2 := Lib.hid hb2
  have HK1 := Lib.hid hk12
  have HK2 := Lib.hid hk2
  have HS2 := Lib.hid hs2
  have HKB := Lib.hid hkb
  have H := Lib.hid h
  have HW := Lib.hid (show BytesWf f.all from BytesWf.app h.w1 h.w2)
  obtain ⟨tot, htot⟩ : ∃ t, f.all.length = t := ⟨_, rfl⟩
  have HTOT := Lib.hid htot
  rw [htot] at hl hm
  clear hb1 hb2 hk2 hs1 hs2 h hk1 hb21 hk12 hkb hk htot
  have i0 : ¬ ((m : Int) < 0) := by omega
  have i0d : decide ((m : Int) < 0) = false := by simp
  have i1 : ¬ ((tot : Int) < m) := by omega
  have i1d : decide ((tot : Int) < (m : Int)) = false := decide_eq_false i1
  have htl : tot ≤ 2199023255552 := by omega
  simp only [rvVal]
  go_enter Tryz.func79, Tryz.ntmps79
  go_wp2_with fail
  generalize (w.alloc (.cells #[.slice a1 n1 c1, .slice a2 n2 c2] 125)).alloc (.cells #[.slice none 0 0, .slice none 0 0] 125) = w2 at HB2 HK1 HK2 HS2 HKB ⊢
  have hsz2 := HS2.out
  have hC : ∀ w', Below w2.heap.size w2 w' → w'.cell? ⟨q, 0, none⟩ = some (.int .i64 m) ∧ w'.cell? ⟨w.heap.size, 0, none⟩ = some (.slice a1 n1 c1) ∧ w'.cell? ⟨w.heap.size, 1, none⟩ = some (.slice a2 n2 c2) := fun w' hb =>
    ⟨Go.Joins.cell_of_block ((hb.block q (by omega)).trans HKB.out) 0, Go.Joins.cell_of_block ((hb.block w.heap.size (by omega)).trans HK1.out) 0, Go.Joins.cell_of_block ((hb.block w.heap.size (by omega)).trans HK1.out) 1⟩
  have HC := Lib.hid hC
  clear hC
  refine heldS_begin (fun w' => Below w2.heap.size w2 w') (by kernel_rfl) ((Below.refl _ _).drew) ?_
  intro hS0
  (first | (refine takeS_no 0 rfl (by kernel_rfl) (by kernel_rfl) (by kernel_rfl) (fun _ _ _ h => h) (by rfl) (by assumption) ?_) | (refine takeS_yes (v := ?_) 0 rfl (by kernel_rfl) (by kernel_rfl) (by kernel_rfl) (fun _ _ _ h => h) (by rfl) (by assumption) ?_ ?_; rotate_left; focus (intro wS hSw; obtain ⟨q0, q1, q2⟩ := HC.out wS hSw; go_simp; first | done | with_reducible rfl)))
  (try simp only [Act.put, List.setIfInBounds_toArray, List.set_cons_zero, List.set_cons_succ])
  (first | (refine takeS_no 1 rfl (by kernel_rfl) (by kernel_rfl) (by kernel_rfl) (fun _ _ _ h => h) (by rfl) (by assumption) ?_) | (refine takeS_yes (v := ?_) 1 rfl (by kernel_rfl) (by kernel_rfl) (by kernel_rfl) (fun _ _ _ h => h) (by rfl) (by assumption) ?_ ?_; rotate_left; focus (intro wS hSw; obtain ⟨q0, q1, q2⟩ := HC.out wS hSw; go_simp; first | done | with_reducible rfl)))
  (try simp only [Act.put, List.setIfInBounds_toArray, List.set_cons_zero, List.set_cons_succ])
  (first | (refine takeS_no 2 rfl (by kernel_rfl) (by kernel_rfl) (by kernel_rfl) (fun _ _ _ h => h) (by rfl) (by assumption) ?_) | (refine takeS_yes (v := ?_) 2 rfl (by kernel_rfl) (by kernel_rfl) (by kernel_rfl) (fun _ _ _ h => h) (by rfl) (by assumption) ?_ ?_; rotate_left; focus (intro wS hSw; obtain ⟨q0, q1, q2⟩ := HC.out wS hSw; go_simp; first | done | with_reducible rfl)))
  (try simp only [Act.put, List.setIfInBounds_toArray, List.set_cons_zero, List.set_cons_succ])
  (first | (refine takeS_no 3 rfl (by kernel_rfl) (by kernel_rfl) (by kernel_rfl) (fun _ _ _ h => h) (by rfl) (by assumption) ?_) | (refine takeS_yes (v := ?_) 3 rfl (by kernel_rfl) (by kernel_rfl) (by kernel_rfl) (fun _ _ _ h => h) (by rfl) (by assumption) ?_ ?_; rotate_left; focus (intro wS hSw; obtain ⟨q0, q1, q2⟩ := HC.out wS hSw; go_simp; first | done | with_reducible rfl)))
  (try simp only [Act.put, List.setIfInBounds_toArray, List.set_cons_zero, List.set_cons_succ])
  (first | (refine takeS_no 4 rfl (by kernel_rfl) (by kernel_rfl) (by kernel_rfl) (fun _ _ _ h => h) (by rfl) (by assumption) ?_) | (refine takeS_yes (v := ?_) 4 rfl (by kernel_rfl) (by kernel_rfl) (by kernel_rfl) (fun _ _ _ h => h) (by rfl) (by assumption) ?_ ?_; rotate_left; focus (intro wS hSw; obtain ⟨q0, q1, q2⟩ := HC.out wS hSw; go_simp; first | done | with_reducible rfl)))
  (try simp only [Act.put, List.setIfInBounds_toArray, List.set_cons_zero, List.set_cons_succ])
  generalize w2.drew = wd at hS0 ⊢
  have hzd := hS0.size
  refine takeS_alone 5 rfl (by kernel_rfl) (by rfl) (fun K hK => ?_)
  go_simp
  (refine (size_file ⟨a1, n1, c1, a2, n2, c2⟩ f wd w.heap.size (H.out.below (HB2.out.trans (hS0.mono HB2.out.size)) (Nat.le_refl _)) tot HTOT.out htl).mono ?_; rintro e w3 ⟨rfl, hb⟩; have c3 := hS0.trans (hb.mono hzd); clear hb)
  refine hK.out _ _ (by assumption) ?_
  clear hK K
  (try simp only [Act.put, List.setIfInBounds_toArray, List.set_cons_zero, List.set_cons_succ])
  (first | (refine takeS_no 6 rfl (by kernel_rfl) (by kernel_rfl) (by kernel_rfl) (fun _ _ _ h => h) (by rfl) (by assumption) ?_) | (refine takeS_yes (v := ?_) 6 rfl (by kernel_rfl) (by kernel_rfl) (by kernel_rfl) (fun _ _ _ h => h) (by rfl) (by assumption) ?_ ?_; rotate_left; focus (intro wS hSw; obtain ⟨q0, q1, q2⟩ := HC.out wS hSw; go_simp; first | done | with_reducible rfl)))
  (try simp only [Act.put, List.setIfInBounds_toArray, List.set_cons_zero, List.set_cons_succ])
  (first | (refine takeS_no 7 rfl (by kernel_rfl) (by kernel_rfl) (by kernel_rfl) (fun _ _ _ h => h) (by rfl) (by assumption) ?_) | (refine takeS_yes (v := ?_) 7 rfl (by kernel_rfl) (by kernel_rfl) (by kernel_rfl) (fun _ _ _ h => h) (by rfl) (by assumption) ?_ ?_; rotate_left; focus (intro wS hSw; obtain ⟨q0, q1, q2⟩ := HC.out wS hSw; go_simp; first | done | with_reducible rfl)))
  (try simp only [Act.put, List.setIfInBounds_toArray, List.set_cons_zero, List.set_cons_succ])
  refine wpAnyH_done (by kernel_rfl) ?_ _
  have hz3 := c3.size
  have hb3 := HB2.out.trans (c3.mono HB2.out.size)
  have HKG := Lib.hid ((c3.block (w.heap.size + 1) (by omega)).trans HK2.out)
  have hC2 : ∀ w', Below (w.heap.size + 1) w3 w' → w'.cell? ⟨q, 0, none⟩ = some (.int .i64 m) ∧ w'.cell? ⟨w.heap.size, 0, none⟩ = some (.slice a1 n1 c1) ∧ w'.cell? ⟨w.heap.size, 1, none⟩ = some (.slice a2 n2 c2) := fun w' hb =>
    ⟨Go.Joins.cell_of_block ((hb.block q (by omega)).trans ((c3.block q (by omega)).trans HKB.out)) 0, Go.Joins.cell_of_block ((hb.block w.heap.size (by omega)).trans ((c3.block w.heap.size (by omega)).trans HK1.out)) 0, Go.Joins.cell_of_block ((hb.block w.heap.size (by omega)).trans ((c3.block w.heap.size (by omega)).trans HK1.out)) 1⟩
  have HC2 := Lib.hid hC2
  have HB3 := Lib.hid hb3
  clear hC2 hS0 hzd hb3 c3
  go_wp2_with fail
  refine heldS_begin (fun w' => Below (w.heap.size + 1) w3 w') (by kernel_rfl) ((Below.refl _ _).drew) ?_
  intro hS0
  (first | (refine takeS_no 0 rfl (by kernel_rfl) (by kernel_rfl) (by kernel_rfl) (fun _ _ _ h => h) (by rfl) (by assumption) ?_) | (refine takeS_yes (v := ?_) 0 rfl (by kernel_rfl) (by kernel_rfl) (by kernel_rfl) (fun _ _ _ h => h) (by rfl) (by assumption) ?_ ?_; rotate_left; focus (intro wS hSw; obtain ⟨q0, q1, q2⟩ := HC2.out wS hSw; go_simp; first | done | with_reducible rfl)))
  (try simp only [Act.put, List.setIfInBounds_toArray, List.set_cons_zero, List.set_cons_succ])
  (first | (refine takeS_no 2 rfl (by kernel_rfl) (by kernel_rfl) (by kernel_rfl) (fun _ _ _ h => h) (by rfl) (by assumption) ?_) | (refine takeS_yes (v := ?_) 2 rfl (by kernel_rfl) (by kernel_rfl) (by kernel_rfl) (fun _ _ _ h => h) (by rfl) (by assumption) ?_ ?_; rotate_left; focus (intro wS hSw; obtain ⟨q0, q1, q2⟩ := HC2.out wS hSw; go_simp; first | done | with_reducible rfl)))
  (try simp only [Act.put, List.setIfInBounds_toArray, List.set_cons_zero, List.set_cons_succ])
  (first | (refine takeS_no 3 rfl (by kernel_rfl) (by kernel_rfl) (by kernel_rfl) (fun _ _ _ h => h) (by rfl) (by assumption) ?_) | (refine takeS_yes (v := ?_) 3 rfl (by kernel_rfl) (by kernel_rfl) (by kernel_rfl) (fun _ _ _ h => h) (by rfl) (by assumption) ?_ ?_; rotate_left; focus (intro wS hSw; obtain ⟨q0, q1, q2⟩ := HC2.out wS hSw; go_simp; first | done | with_reducible rfl)))
  (try simp only [Act.put, List.setIfInBounds_toArray, List.set_cons_zero, List.set_cons_succ])
  have hbd : Below w3.heap.size w3 w3.drew := (Below.refl _ _).drew
  generalize w3.drew = wd2 at hS0 hbd ⊢
  have hzd := hbd.size
  refine takeS_alone 1 rfl (by kernel_rfl) (by rfl) (fun K hK => ?_)
  go_simp
  (refine (whole_file ⟨a1, n1, c1, a2, n2, c2⟩ f wd2 w.heap.size (H.out.below (HB3.out.trans (hbd.mono HB3.out.size)) (Nat.le_refl _)) (Nat.le_trans HB3.out.size hzd) (by rw [HTOT.out]; omega)).mono ?_; rintro e w4 ⟨a, n, c, rfl, ho, hb⟩; have c4 := hS0.trans (hb.mono (by omega)); have hcap := bown_cap ho; have hn : n = tot := ho.len.symm.trans HTOT.out; have hsl : ∀ w', (Instr.sliceAt 24 (.slice a n c) none (some (.int .i64 (m : Int))) (some (.int .i64 (m : Int)))).run Tryz.prog w' = .ok (.slice a m m) w' := fun w' => (by have := run_sub_hm2 sliceByte sizeByte a n c m (by omega) .i64 .i64 m rfl w'; rw [own_zero ho] at this; exact this); have hmc : m ≤ c := (by omega); have hgk := (hb.block (w.heap.size + 1) (by omega)).trans ((hbd.block (w.heap.size + 1) (by omega)).trans HKG.out); have HO := Lib.hid ho; have HBB := Lib.hid (HB3.out.trans ((hbd.trans (hb.mono hzd)).mono HB3.out.size)); have hz4 := hb.size; clear ho hb; have k1 := Go.Joins.cell_of_block hgk 0; have k2 := Go.Joins.cell_of_block hgk 1; have u1 := Go.Joins.unfrozen_of_block hgk 0; have u2 := Go.Joins.unfrozen_of_block hgk 1)
  refine hK.out _ _ (by assumption) ?_
  clear hK K
  (try simp only [Act.put, List.setIfInBounds_toArray, List.set_cons_zero, List.set_cons_succ])
  (first | (refine takeS_no 4 rfl (by kernel_rfl) (by kernel_rfl) (by kernel_rfl) (fun _ _ _ h => h) (by rfl) (by assumption) ?_) | (refine takeS_yes (v := ?_) 4 rfl (by kernel_rfl) (by kernel_rfl) (by kernel_rfl) (fun _ _ _ h => h) (by rfl) (by assumption) ?_ ?_; rotate_left; focus (intro wS hSw; obtain ⟨q0, q1, q2⟩ := HC2.out wS hSw; go_simp; first | done | with_reducible rfl)))
  (try simp only [Act.put, List.setIfInBounds_toArray, List.set_cons_zero, List.set_cons_succ])
  (first | (refine takeS_no 5 rfl (by kernel_rfl) (by kernel_rfl) (by kernel_rfl) (fun _ _ _ h => h) (by rfl) (by assumption) ?_) | (refine takeS_yes (v := ?_) 5 rfl (by kernel_rfl) (by kernel_rfl) (by kernel_rfl) (fun _ _ _ h => h) (by rfl) (by assumption) ?_ ?_; rotate_left; focus (intro wS hSw; obtain ⟨q0, q1, q2⟩ := HC2.out wS hSw; go_simp; first | done | with_reducible rfl)))
  (try simp only [Act.put, List.setIfInBounds_toArray, List.set_cons_zero, List.set_cons_succ])
  refine takeS_alone 6 rfl (by kernel_rfl) (by rfl) (fun K hK => ?_)
  go_simp
  (have hk5 := block_two (a := .slice a m m) (b := .slice none 0 0) hgk; have hg5 := grown_two (w := w4) (g := w.heap.size + 1) (a := .slice a m m) (b := .slice none 0 0); generalize (w4.setCell ⟨w.heap.size + 1, 0, none⟩ (.slice a m m)).setCell ⟨w.heap.size + 1, 1, none⟩ (.slice none 0 0) = w5 at hk5 hg5 ⊢; have c5 := c4.trans (below_at hg5 (by omega)); clear hsl k1 k2 u1 u2)
  refine hK.out _ _ (by assumption) ?_
  clear hK K
  (try simp only [Act.put, List.setIfInBounds_toArray, List.set_cons_zero, List.set_cons_succ])
  (first | (refine takeS_no 7 rfl (by kernel_rfl) (by kernel_rfl) (by kernel_rfl) (fun _ _ _ h => h) (by rfl) (by assumption) ?_) | (refine takeS_yes (v := ?_) 7 rfl (by kernel_rfl) (by kernel_rfl) (by kernel_rfl) (fun _ _ _ h => h) (by rfl) (by assumption) ?_ ?_; rotate_left; focus (intro wS hSw; obtain ⟨q0, q1, q2⟩ := HC2.out wS hSw; go_simp; first | done | with_reducible rfl)))
  (try simp only [Act.put, List.setIfInBounds_toArray, List.set_cons_zero, List.set_cons_succ])
  refine wpAnyH_done (by kernel_rfl) ?_ _
  go_wp2_with fail
  have ho5 := HO.out.kept hg5 (Or.inr (fun e => by have h1 := HO.out.lt _ e; (try dsimp only at h1); omega))
  have hz5 := hg5.size
  refine rows_end (r := ⟨a, m, m, none, 0, 0⟩) rfl hk5 rfl rfl ⟨⟨a, m, m, none, 0, 0⟩, rfl, ?_, HBB.out.grown hg5 HBB.out.size (fun k hk => by cases hk; exact Nat.le_succ _)⟩
  exact ⟨(show m = (f.all.take m).length by rw [List.length_take, HTOT.out]; omega), rfl, ho5.in.take m, Or.inl rfl, HW.out.take m, fun _ h => (by cases h), fun ha => (show m = 0 by have := ho5.nil ha; omega), fun _ => rfl, Nat.le_refl _, Nat.le_refl _⟩
theorem dCut_eq {L : Dk} {k : List UInt8} {f : Fi} {m : Nat} (hg : dGet L k = some f) (hm : m ≤ f.all.length) : dCut L k m = (dPut L k ⟨f.all.take m, []⟩, 0) := by
  unfold dCut dTurn
  rw [hg]
  dsimp only
  have h1 : ¬ ((m : Int) < 0 ∨ (f.all.length : Int) < m) := by omega
  simp only [if_neg h1, if_true, Int.toNat_natCast]
theorem cut_any {w : World} {B db mb room n : Nat} {L : Dk} (h : DiskIs w B db mb room n L) (hn : n ≤ 1000000) (s : ByteArray) (hs : s.size ≤ maxLen) (f : Fi) (hg : dGet L s.data.toList = some f) (m : Nat) (hm : m ≤ f.all.length) (r : Dk × Int) (hr : dCut L s.data.toList m = r) :
    Calls Tryz.prog 40 #[.pointer (some ⟨db, 0, none⟩), .string s, .int .i64 m] w (DkAt r db mb room (n + 1) w) := by
  subst hr
  rw [dCut_eq hg hm]
  have hbd := bec_bounds h hg
  have hfit : dUsed (dPut L s.data.toList ⟨f.all.take m, []⟩) ≤ room := Nat.le_trans (fits_same h.ok hg (by simp [Fi.all]; omega)) h.used
  have hb1 := (Below.refl w.heap.size w).alloc (Nat.le_refl _) (.cells #[.int .i64 m] 3)
  have hk1 := heap_alloc_new w (.cells #[.int .i64 m] 3)
  have HB1 := Lib.hid hb1
  have HK1 := Lib.hid hk1
  have H := Lib.hid h.top
  have hmf : ∀ (fn : Fn) (first cap : Array Value) (w : World), (Instr.makeFunc fn first cap).run Tryz.prog w = .ok (.func fn first cap) w := fun _ _ _ _ => rfl
  have HG := Lib.hid hg
  clear hb1 hk1 h hg
  go_enter Tryz.func40, Tryz.ntmps40
  go_wp2_with fail
  generalize w.alloc (.cells #[.int .i64 m] 3) = w1 at HB1 HK1 ⊢
  refine (turn_some (H.out.toDiskAt.below HB1.out (Nat.le_refl _)) s hs f HG.out 79 (fun _ _ => by kernel_rfl) #[.pointer (some ⟨w.heap.size, 0, none⟩)] (fun f2 z L2 n2 C w2 => f2 = ⟨f.all.take m, []⟩ ∧ z = 0 ∧ L2 = L ∧ n2 = n ∧ Below w.heap.size w w2) fun r w2 hb2 hrv => ?_).mono ?_
  · have hr2 := hrv.mono (Nat.le_trans HB1.out.size hb2.size)
    refine (cut1 r f w2 w.heap.size m hr2 hbd ((hb2.block _ (Array.getElem?_eq_some_iff.1 HK1.out).1).trans HK1.out) hm).mono ?_
    rintro e w3 ⟨r', rfl, hr3, hb3⟩
    have hb12 := HB1.out.trans (hb2.mono HB1.out.size)
    have hb13 := hb12.trans (hb3.mono hb12.size)
    exact ⟨r', ⟨f.all.take m, []⟩, 0, L, n, _, rfl, ⟨(H.out.toDiskAt.below hb13 (Nat.le_refl _)).top, hn, hr3⟩, rfl, rfl, rfl, rfl, hb13⟩
  · rintro e w3 ⟨f2, z, L2, n2, C, w2, ⟨rfl, rfl, rfl, rfl, hb2⟩, rfl, hg3, hd⟩
    simp only [if_pos] at hd
    go_wp2_with fail
    go_ret
    exact ⟨rfl, ⟨hd.top, hfit⟩, (below_grown hb2 (some mb)).trans hg3⟩
set_option maxHeartbeats 4000000 in
/-- What Rename's closure does: the file stands under the other name, too. -/
theorem rename1 {w : World} {B db mb room n : Nat} {L : Dk} (h : DiskAt w B db mb room n L) (hn : n ≤ 1000000) (r : Rv) (f : Fi) (hr : RvIs w B r f) (x y : Nat) (t : ByteArray) (ht : t.size ≤ maxLen) (hx : w.heap[x]? = some (.cells #[.pointer (some ⟨db, 0, none⟩)] 51 (0, 0))) (hy : w.heap[y]? = some (.cells #[.string t] 9 (0, 0))) :
    Calls Tryz.prog 127 #[rvVal r, .pointer (some ⟨x, 0, none⟩), .pointer (some ⟨y, 0, none⟩)] w fun e w2 => e = .returned (.tuple #[rvVal r, .int .i64 0]) ∧ RvIs w2 w2.heap.size r f ∧ w.grownBy w2 (some mb) ∧ DiskAt w2 w2.heap.size db mb room (n + 1) (dPut L t.data.toList f) := by
  obtain ⟨a1, n1, c1, a2, n2, c2⟩ := r
  have hxl := (Array.getElem?_eq_some_iff.1 hx).1
  have hyl := (Array.getElem?_eq_some_iff.1 hy).1
  have hb1 := (Below.refl w.heap.size w).alloc (Nat.le_refl _) (.cells #[.slice a1 n1 c1, .slice a2 n2 c2] 125)
  have hk1 := heap_alloc_new w (.cells #[.slice a1 n1 c1, .slice a2 n2 c2] 125)
  have hs1 : (w.alloc (.cells #[.slice a1 n1 c1, .slice a2 n2 c2] 125)).heap.size = w.heap.size + 1 := by simp
  have hb21 := (Below.refl _ (w.alloc (.cells #[.slice a1 n1 c1, .slice a2 n2 c2] 125))).alloc (Nat.le_refl _) (.cells #[.slice none 0 0, .slice none 0 0] 125)
  have hb2 := hb1.alloc hb1.size (.cells #[.slice none 0 0, .slice none 0 0] 125)
  have hk2 := heap_alloc_new (w.alloc (.cells #[.slice a1 n1 c1, .slice a2 n2 c2] 125)) (.cells #[.slice none 0 0, .slice none 0 0] 125)
  have hk12 := (hb21.block w.heap.size (by omega)).trans hk1
  rw [hs1] at hk2
  have hs2 : ((w.alloc (.cells #[.slice a1 n1 c1, .slice a2 n2 c2] 125)).alloc (.cells #[.slice none 0 0, .slice none 0 0] 125)).heap.size = w.heap.size + 2 := by simp
  have HB2 := Lib.hid hb2
  have HK1 := Lib.hid hk12
  have HK2 := Lib.hid hk2
  have HS2 := Lib.hid hs2
  have HX := Lib.hid ((hb2.block x hxl).trans hx)
  have HY := Lib.hid ((hb2.block y hyl).trans hy)
  have H := Lib.hid (h.below hb2 h.le)
  have HR := Lib.hid (hr.below hb2 h.le)
  have hB := h.le
  have hmlt := h.mlt
  clear hb1 hb2 hk2 hs1 hs2 h hk1 hb21 hk12 hx hy hr
  simp only [rvVal]
  go_enter Tryz.func127, Tryz.ntmps127
  go_wp2_with fail
  generalize (w.alloc (.cells #[.slice a1 n1 c1, .slice a2 n2 c2] 125)).alloc (.cells #[.slice none 0 0, .slice none 0 0] 125) = w2 at HB2 HK1 HK2 HS2 HX HY H HR ⊢
  have hsz2 := HS2.out
  have kx := Go.Joins.cell_of_block HX.out 0
  have ky := Go.Joins.cell_of_block HY.out 0
  have k1 := Go.Joins.cell_of_block HK1.out 0
  have k2 := Go.Joins.cell_of_block HK1.out 1
  obtain ⟨d0, d1⟩ := H.out.cells
  go_still_tail 6, (by kernel_rfl)
  change wpList _ _ _ _ _ w2.drew
  have hd9 : DiskAt w2.drew w2.heap.size db mb room n L := (H.out.below (B' := w2.heap.size) (Below.refl _ _).drew (by omega)).mono (by omega) (Nat.le_refl _)
  have hr9 : RvIs w2.drew w2.heap.size ⟨a1, n1, c1, a2, n2, c2⟩ f := (HR.out.below (B' := w2.heap.size) (Below.refl _ _).drew (by omega)).mono (by omega)
  have hbd : Below w2.heap.size w2 w2.drew := (Below.refl _ _).drew
  clear kx ky k1 k2 d0 d1
  generalize w2.drew = w3 at hd9 hr9 hbd ⊢
  have hz3 := hbd.size
  refine wpList_store_dk rfl _ _ _ rfl hd9.map hz3 hn rfl t rfl ht _ rfl _ hr9 ?_
  intro w4 hm4 hg4
  obtain ⟨es, ck, hbk⟩ := hd9.map.block
  have hd4 := hd9.stored hm4 hg4 (dPut_ok hd9.ok _ _)
  have hr4 : RvIs w4 w2.heap.size ⟨a1, n1, c1, a2, n2, c2⟩ f := hr9.map hz3 hg4 hbk
  have hp4 := (hg4.block w.heap.size (by omega) (by simp; omega)).trans ((hbd.block w.heap.size (by omega)).trans HK1.out)
  have ht4 := (hg4.block (w.heap.size + 1) (by omega) (by simp; omega)).trans ((hbd.block (w.heap.size + 1) (by omega)).trans HK2.out)
  have hz4 := hg4.size
  have HD4 := Lib.hid hd4
  have HR4 := Lib.hid hr4
  have HG4 := Lib.hid ((below_grown (HB2.out.trans (hbd.mono HB2.out.size)) (some mb)).trans hg4)
  have HT4 := Lib.hid ht4
  have p1 := Go.Joins.cell_of_block hp4 0
  have p2 := Go.Joins.cell_of_block hp4 1
  have u1 := Go.Joins.unfrozen_of_block ht4 0
  have u2 := Go.Joins.unfrozen_of_block ht4 1
  have t1 := Go.Joins.cell_of_block ht4 0
  have t2 := Go.Joins.cell_of_block ht4 1
  clear hm4 hg4 hd4 hr4 hp4 ht4 hd9 hr9 hbk
  go_wp2_with fail
  have hk5 := block_two (a := .slice a1 n1 c1) (b := .slice a2 n2 c2) HT4.out
  have hg5 := grown_two (w := w4) (g := w.heap.size + 1) (a := .slice a1 n1 c1) (b := .slice a2 n2 c2)
  generalize (w4.setCell ⟨w.heap.size + 1, 0, none⟩ (.slice a1 n1 c1)).setCell ⟨w.heap.size + 1, 1, none⟩ (.slice a2 n2 c2) = w5 at hk5 hg5 ⊢
  have hz5 := hg5.size
  have hnb := no_bytes_two HT4.out (fun _ h => by cases h) (fun _ h => by cases h)
  have hdlt := H.out.dlt
  refine rows_end (r := ⟨a1, n1, c1, a2, n2, c2⟩) rfl hk5 rfl rfl ⟨rfl, (HR4.out.other (by omega) hg5 hnb).mono (by omega), grownBy_mix HG4.out hg5 (Nat.le_succ _), HD4.out.other hg5 (by omega) (by omega) hnb⟩
end Go.Proofs.YtejgebpdipnhmaaGreatDoor
/- A disk's method Rename. Conditions: the disk lies as its files say. -/
namespace Go.Proofs.YtejgebpdipnhmaaGreatDoor
open Go.RowKit
set_option maxRecDepth 20000
theorem dRename_none {L : Dk} {s t : ByteArray} (hs : Named s) (ht : Named t) (hg : dGet L s.data.toList = none) : dRename L s.data.toList t.data.toList = (L, 6) := by
  unfold dRename
  rw [hs.good, ht.good, if_neg (by simp), hg]
theorem dRename_some {L : Dk} {s t : ByteArray} {f : Fi} (hs : Named s) (ht : Named t) (hne : s.data.toList ≠ t.data.toList) (hg : dGet L s.data.toList = some f) :
    dRename L s.data.toList t.data.toList = (dDel (dPut (dPut L t.data.toList f) s.data.toList f) s.data.toList, 0) := by
  unfold dRename
  rw [hs.good, ht.good, if_neg (by simp), hg]
  dsimp only
  rw [if_neg hne]
theorem rename_used {L : Dk} (hL : dOk L) {k t : List UInt8} {f : Fi} (hne : k ≠ t) (hg : dGet L k = some f) : dUsed (dDel (dPut (dPut L t f) k f) k) ≤ dUsed L := by
  have h1 := dUsed_del (dPut_ok (dPut_ok hL t f) k f) (k := k) (f := f) (by rw [dGet_put, if_pos rfl])
  have h2 := dUsed_put (dPut L t f) k f
  have h3 := dUsed_del (dPut_ok hL t f) (k := k) (f := f) (by rw [dGet_put, if_neg hne, hg])
  have h4 := dUsed_put L t f
  have h5 := dUsed_del_le hL t
  omega
set_option maxHeartbeats 4000000 in
theorem rename_any {w : World} {B db mb room n : Nat} {L : Dk} (h : DiskIs w B db mb room n L) (hn : n ≤ 999990) (s t : ByteArray) (hs : Named s) (ht : Named t) (hne : s.data.toList ≠ t.data.toList) (r : Dk × Int) (hr : dRename L s.data.toList t.data.toList = r) :
    Calls Tryz.prog 75 #[.pointer (some ⟨db, 0, none⟩), .string s, .string t] w (DkAt r db mb room (n + 2) w) := by
  subst hr
  have hsm : s.size ≤ maxLen := by have := hs.le; unfold maxLen; omega
  have htm : t.size ≤ maxLen := by have := ht.le; unfold maxLen; omega
  have hst : ¬ s = t := fun e => hne (by rw [e])
  have hcmp : (s.toList == t.toList) = false := by
    rw [ByteArray.toList_eq, ByteArray.toList_eq]
    exact beq_eq_false_iff_ne.2 hne
  have hb1 := (Below.refl w.heap.size w).alloc (Nat.le_refl _) (.cells #[.pointer (some ⟨db, 0, none⟩)] 51)
  have hk1 := heap_alloc_new w (.cells #[.pointer (some ⟨db, 0, none⟩)] 51)
  have hs1 : (w.alloc (.cells #[.pointer (some ⟨db, 0, none⟩)] 51)).heap.size = w.heap.size + 1 := by simp
  have hb21 := (Below.refl _ (w.alloc (.cells #[.pointer (some ⟨db, 0, none⟩)] 51))).alloc (Nat.le_refl _) (.cells #[.string t] 9)
  have hb2 := hb1.alloc hb1.size (.cells #[.string t] 9)
  have hk2 := heap_alloc_new (w.alloc (.cells #[.pointer (some ⟨db, 0, none⟩)] 51)) (.cells #[.string t] 9)
  have hk12 := (hb21.block w.heap.size (by omega)).trans hk1
  rw [hs1] at hk2
  have hs2 : ((w.alloc (.cells #[.pointer (some ⟨db, 0, none⟩)] 51)).alloc (.cells #[.string t] 9)).heap.size = w.heap.size + 2 := by simp
  have HB2 := Lib.hid hb2
  have HK1 := Lib.hid hk12
  have HK2 := Lib.hid hk2
  have HS2 := Lib.hid hs2
  have H := Lib.hid h.top
  have HS := Lib.hid hs
  have HT := Lib.hid ht
  have hmf : ∀ (fn : Fn) (first cap : Array Value) (w : World), (Instr.makeFunc fn first cap).run Tryz.prog w = .ok (.func fn first cap) w := fun _ _ _ _ => rfl
  clear hb1 hb2 hk2 hs1 hs2 h hk1 hb21 hk12 hs ht
  go_enter Tryz.func75, Tryz.ntmps75
  go_wp2_with fail
  generalize (w.alloc (.cells #[.pointer (some ⟨db, 0, none⟩)] 51)).alloc (.cells #[.string t] 9) = w2 at HB2 HK1 HK2 HS2 ⊢
  have hsz2 : w.heap.size + 2 ≤ w2.heap.size := Nat.le_of_eq HS2.out.symm
  have k1 := Go.Joins.cell_of_block HK1.out 0
  have k2 := Go.Joins.cell_of_block HK2.out 0
  have HD2 := Lib.hid (H.out.below HB2.out (Nat.le_refl _))
  refine (is_any HD2.out.toDiskAt).mono ?_
  rintro e w2' ⟨rfl, rfl⟩
  have hb3 := (Below.refl w2.heap.size w2).alloc (Nat.le_refl _) (.cells #[.string s, .string t] 9)
  have hk3 := heap_alloc_new w2 (.cells #[.string s, .string t] 9)
  have HB3 := Lib.hid hb3
  have HK3 := Lib.hid hk3
  clear hb3 hk3
  go_wp2_with fail
  generalize w2.alloc (.cells #[.string s, .string t] 9) = w3 at HB3 HK3 ⊢
  refine (fit_two w2.heap.size s t w3 (Go.Joins.cell_of_block HK3.out 0) (Go.Joins.cell_of_block HK3.out 1) (Array.getElem?_eq_some_iff.1 HK3.out).1 HS.out HT.out).mono ?_
  rintro e w4 ⟨rfl, hb4⟩
  have hz3 := HB3.out.size
  have hb24 := HB3.out.trans (hb4.mono hz3)
  have hx4 := (hb24.block w.heap.size (by omega)).trans HK1.out
  have hy4 := (hb24.block (w.heap.size + 1) (by omega)).trans HK2.out
  have c1 := Go.Joins.cell_of_block hx4 0
  have c2 := Go.Joins.cell_of_block hy4 0
  have HX4 := Lib.hid hx4
  have HY4 := Lib.hid hy4
  have hz24 := hb24.size
  have HB24 := Lib.hid (HB2.out.trans (hb24.mono (by omega)))
  have HD4 := Lib.hid (H.out.below HB24.out (Nat.le_refl _))
  clear hb4 hb24 hx4 hy4 k1 k2
  go_wp2_with fail
  cases hg : dGet L s.data.toList with
  | none =>
    refine (turn_none HD4.out.toDiskAt s hsm hg _).mono ?_
    rintro e w5 ⟨rfl, hb5⟩
    have hb := HB24.out.trans (hb5.mono HB24.out.size)
    have c2 := (hb5.cell (p := ⟨w.heap.size + 1, 0, none⟩) (show w.heap.size + 1 < w4.heap.size by omega)).trans c2
    have HF := Lib.hid (show DkAt (dRename L s.data.toList t.data.toList) db mb room (n + 2) w (.returned (.int .i64 6)) w5 by
      rw [dRename_none HS.out HT.out hg]
      exact ⟨rfl, (H.out.below hb (Nat.le_refl _)).top.more (by omega), below_grown hb _⟩)
    clear hb5 hb hg
    go_wp2_with fail
    go_ret
    exact HF.out
  | some f =>
    have HG := Lib.hid hg
    clear hg
    refine (turn_some HD4.out.toDiskAt s hsm f HG.out 127 (fun _ _ => by kernel_rfl) #[.pointer (some ⟨w.heap.size, 0, none⟩), .pointer (some ⟨w.heap.size + 1, 0, none⟩)] (fun f2 z L2 n2 C w2 => f2 = f ∧ z = 0 ∧ L2 = dPut L t.data.toList f ∧ n2 = n + 1 ∧ w4.grownBy w2 (some mb)) fun r w5 hb5 hrv => ?_).mono ?_
    · refine (rename1 (HD4.out.toDiskAt.below hb5 (by omega)) (by omega) r f hrv w.heap.size (w.heap.size + 1) t htm ((hb5.block _ (by omega)).trans HX4.out) ((hb5.block _ (by omega)).trans HY4.out)).mono ?_
      rintro e w6 ⟨rfl, hr6, hg6, hd6⟩
      exact ⟨r, f, 0, _, n + 1, _, rfl, ⟨hd6, by omega, hr6⟩, rfl, rfl, rfl, rfl, (below_grown hb5 (some mb)).trans hg6⟩
    · rintro e w7 ⟨f2, z, L2, n2, C, w6, ⟨rfl, rfl, rfl, rfl, hg6⟩, rfl, hg7, hd⟩
      simp only [if_pos] at hd
      replace hd := hd.top
      have hg47 := hg6.trans hg7
      have hmlt := H.out.mlt
      have c1 := Go.Joins.cell_of_block ((hg47.block w.heap.size (by omega) (by simp; omega)).trans HX4.out) 0
      have c2 := Go.Joins.cell_of_block ((hg47.block (w.heap.size + 1) (by omega) (by simp; omega)).trans HY4.out) 0
      obtain ⟨d0, d1⟩ := hd.cells
      obtain ⟨w8, hrun, hm8, hg8⟩ := hd.map.drop (Nat.le_refl _) s hsm 0
      have hd8 := hd.stored hm8 hg8 (dDel_ok hd.ok _)
      have HF := Lib.hid (show DkAt (dRename L s.data.toList t.data.toList) db mb room (n + 2) w (.returned (.int .i64 0)) w8 by
        rw [dRename_some HS.out HT.out hne HG.out]
        exact ⟨rfl, ⟨hd8, Nat.le_trans (rename_used H.out.ok hne HG.out) H.out.used⟩, (below_grown HB24.out (some mb)).trans (hg47.trans hg8)⟩)
      clear hm8 hd8 hd hg6 hg7 hg47 hg8
      go_wp2_with fail
      go_ret
      exact HF.out
end Go.Proofs.YtejgebpdipnhmaaGreatDoor
