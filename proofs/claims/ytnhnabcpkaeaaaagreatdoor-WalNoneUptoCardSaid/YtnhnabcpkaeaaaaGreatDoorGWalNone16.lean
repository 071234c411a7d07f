/- A disk's methods Cut, Rename. Conditions: the disk lies as its files say. -/
import Derived.Test.YtnhnabcpkaeaaaaGreatDoorGWalNone15
import Derived.Test.YtnhnabcpkaeaaaaGreatDoorGWalNone12
set_option linter.unusedVariables false
set_option linter.unusedSimpArgs false
namespace Go.Proofs.YtnhnabcpkaeaaaaGreatDoor
open Go.RowKit
set_option maxRecDepth 20000
theorem run_sub_hm2 {P : Program} {t : TypeId} {k : Nat} (ht : P.underlying t = some (.slice (P.elem t))) (hk : ∀ w, (sizeOf (P.elem t)).run P w = .ok k w) (ao : Option Addr) (n cap h : Nat) (hh : h ≤ cap) (kh km : IntKind) (hi : Int) (eh : hi = h) (w : World) :
    (Instr.sliceAt t (.slice ao n cap) none (some (.int kh hi)) (some (.int km hi))).run P w = .ok (.slice (subA ao h 0 k) h h) w := by
  subst eh
  rw [run_sliceAt_slice _ _ _ _ _ _ ht, run_slice_hm _ _ _ _ _ ht _ _ _ _ (by omega) (by omega) (by omega), hk]
  simp [Result.andThen, sliced, subA]
theorem own_zero {w : World} {base n c m : Nat} {a : Option Addr} {L : List Int} (h : BOwn w base a n c L) : subA a m 0 1 = a := subA_zero _ _ _ fun x hx => by
  rcases Go.Joins.ownsRow_forms h.row with ⟨h1, _⟩ | ⟨g, c', h1⟩
  · subst hx; cases h1
  · subst hx; cases h1; rfl
set_option maxHeartbeats 4000000 in
theorem cut1 (r : Rv) (f : Fi) (w : World) (q m : Nat) (h : RvIs w w.heap.size r f) (hl : f.all.length ≤ 1099511627776) (hk : w.heap[q]? = some (.cells #[.int .i64 m] 3 (0, 0))) (hm : m ≤ f.all.length) :
    Calls Tryz.prog 74 #[rvVal r, .pointer (some ⟨q, 0, none⟩)] w fun e w2 => ∃ r', e = .returned (.tuple #[rvVal r', .int .i64 0]) ∧ RvIs w2 w2.heap.size r' ⟨f.all.take m, []⟩ ∧ Below w.heap.size w w2 := by
  obtain ⟨a1, n1, c1, a2, n2, c2⟩ := r
  have hqlt := (Array.getElem?_eq_some_iff.1 hk).1
  have hb1 := (Below.refl w.heap.size w).alloc (Nat.le_refl _) (.cells #[.slice a1 n1 c1, .slice a2 n2 c2] 70)
  have hk1 := heap_alloc_new w (.cells #[.slice a1 n1 c1, .slice a2 n2 c2] 70)
  have hs1 : (w.alloc (.cells #[.slice a1 n1 c1, .slice a2 n2 c2] 70)).heap.size = w.heap.size + 1 := by simp
  have hb21 := (Below.refl _ (w.alloc (.cells #[.slice a1 n1 c1, .slice a2 n2 c2] 70))).alloc (Nat.le_refl _) (.cells #[.slice none 0 0, .slice none 0 0] 70)
  have hb2 := hb1.alloc hb1.size (.cells #[.slice none 0 0, .slice none 0 0] 70)
  have hk2 := heap_alloc_new (w.alloc (.cells #[.slice a1 n1 c1, .slice a2 n2 c2] 70)) (.cells #[.slice none 0 0, .slice none 0 0] 70)
  have hk12 := (hb21.block w.heap.size (by omega)).trans hk1
  rw [hs1] at hk2
  have hs2 : ((w.alloc (.cells #[.slice a1 n1 c1, .slice a2 n2 c2] 70)).alloc (.cells #[.slice none 0 0, .slice none 0 0] 70)).heap.size = w.heap.size + 2 := by simp
  have hkb := (hb2.block q hqlt).trans hk
  have HB2 := Lib.hid hb2
  have HK1 := Lib.hid hk12
  have HK2 := Lib.hid hk2
  have HS2 := Lib.hid hs2
  have HKB := Lib.hid hkb
  have H := Lib.hid h
  have HW := Lib.hid (show BytesWf f.all from BytesWf.app h.w1 h.w2)
  obtain ⟨tot, htot⟩ : ∃ t, f.all.length = t := ⟨_, rfl⟩
  have HTOT := Lib.hid htot
  rw [htot] at hl hm
  clear hb1 hb2 hk2 hs1 hs2 h hk1 hb21 hk12 hkb hk htot
  have i0 : ¬ ((m : Int) < 0) := by omega
  have i0d : decide ((m : Int) < 0) = false := by simp
  have i1 : ¬ ((tot : Int) < m) := by omega
  have i1d : decide ((tot : Int) < (m : Int)) = false := decide_eq_false i1
  have htl : tot ≤ 2199023255552 := by omega
  simp only [rvVal]
  go_enter Tryz.func74, Tryz.ntmps74
  go_wp2_with fail
  generalize (w.alloc (.cells #[.slice a1 n1 c1, .slice a2 n2 c2] 70)).alloc (.cells #[.slice none 0 0, .slice none 0 0] 70) = w2 at HB2 HK1 HK2 HS2 HKB ⊢
  have hsz2 := HS2.out
  have hC : ∀ w', Below w2.heap.size w2 w' → w'.cell? ⟨q, 0, none⟩ = some (.int .i64 m) ∧ w'.cell? ⟨w.heap.size, 0, none⟩ = some (.slice a1 n1 c1) ∧ w'.cell? ⟨w.heap.size, 1, none⟩ = some (.slice a2 n2 c2) := fun w' hb =>
    ⟨Go.Joins.cell_of_block ((hb.block q (by omega)).trans HKB.out) 0, Go.Joins.cell_of_block ((hb.block w.heap.size (by omega)).trans HK1.out) 0, Go.Joins.cell_of_block ((hb.block w.heap.size (by omega)).trans HK1.out) 1⟩
  have HC := Lib.hid hC
  clear hC
  refine heldS_begin (fun w' => Below w2.heap.size w2 w') (by kernel_rfl) ((Below.refl _ _).drew) ?_
  intro hS0
  (first | (refine takeS_no 0 rfl (by kernel_rfl) (by kernel_rfl) (by kernel_rfl) (fun _ _ _ h => h) (by rfl) (by assumption) ?_) | (refine takeS_yes (v := ?_) 0 rfl (by kernel_rfl) (by kernel_rfl) (by kernel_rfl) (fun _ _ _ h => h) (by rfl) (by assumption) ?_ ?_; rotate_left; focus (intro wS hSw; obtain ⟨q0, q1, q2⟩ := HC.out wS hSw; go_simp; first | done | with_reducible rfl)))
  (try simp only [Act.put, List.setIfInBounds_toArray, List.set_cons_zero, List.set_cons_succ])
  (first | (refine takeS_no 1 rfl (by kernel_rfl) (by kernel_rfl) (by kernel_rfl) (fun _ _ _ h => h) (by rfl) (by assumption) ?_) | (refine takeS_yes (v := ?_) 1 rfl (by kernel_rfl) (by kernel_rfl) (by kernel_rfl) (fun _ _ _ h => h) (by rfl) (by assumption) ?_ ?_; rotate_left; focus (intro wS hSw; obtain ⟨q0, q1, q2⟩ := HC.out wS hSw; go_simp; first | done | with_reducible rfl)))
  (try simp only [Act.put, List.setIfInBounds_toArray, List.set_cons_zero, List.set_cons_succ])
  (first | (refine takeS_no 2 rfl (by kernel_rfl) (by kernel_rfl) (by kernel_rfl) (fun _ _ _ h => h) (by rfl) (by assumption) ?_) | (refine takeS_yes (v := ?_) 2 rfl (by kernel_rfl) (by kernel_rfl) (by kernel_rfl) (fun _ _ _ h => h) (by rfl) (by assumption) ?_ ?_; rotate_left; focus (intro wS hSw; obtain ⟨q0, q1, q2⟩ := HC.out wS hSw; go_simp; first | done | with_reducible rfl)))
  (try simp only [Act.put, List.setIfInBounds_toArray, List.set_cons_zero, List.set_cons_succ])
  (first | (refine takeS_no 3 rfl (by kernel_rfl) (by kernel_rfl) (by kernel_rfl) (fun _ _ _ h => h) (by rfl) (by assumption) ?_) | (refine takeS_yes (v := ?_) 3 rfl (by kernel_rfl) (by kernel_rfl) (by kernel_rfl) (fun _ _ _ h => h) (by rfl) (by assumption) ?_ ?_; rotate_left; focus (intro wS hSw; obtain ⟨q0, q1, q2⟩ := HC.out wS hSw; go_simp; first | done | with_reducible rfl)))
  (try simp only [Act.put, List.setIfInBounds_toArray, List.set_cons_zero, List.set_cons_succ])
  (first | (refine takeS_no 4 rfl (by kernel_rfl) (by kernel_rfl) (by kernel_rfl) (fun _ _ _ h => h) (by rfl) (by assumption) ?_) | (refine takeS_yes (v := ?_) 4 rfl (by kernel_rfl) (by kernel_rfl) (by kernel_rfl) (fun _ _ _ h => h) (by rfl) (by assumption) ?_ ?_; rotate_left; focus (intro wS hSw; obtain ⟨q0, q1, q2⟩ := HC.out wS hSw; go_simp; first | done | with_reducible rfl)))
  (try simp only [Act.put, List.setIfInBounds_toArray, List.set_cons_zero, List.set_cons_succ])
  generalize w2.drew = wd at hS0 ⊢
  have hzd := hS0.size
  refine takeS_alone 5 rfl (by kernel_rfl) (by rfl) (fun K hK => ?_)
  go_simp
  (refine (size_file ⟨a1, n1, c1, a2, n2, c2⟩ f wd w.heap.size (H.out.below (HB2.out.trans (hS0.mono HB2.out.size)) (Nat.le_refl _)) tot HTOT.out htl).mono ?_; rintro e w3 ⟨rfl, hb⟩; have c3 := hS0.trans (hb.mono hzd); clear hb)
  refine hK.out _ _ (by assumption) ?_
  clear hK K
  (try simp only [Act.put, List.setIfInBounds_toArray, List.set_cons_zero, List.set_cons_succ])
  (first | (refine takeS_no 6 rfl (by kernel_rfl) (by kernel_rfl) (by kernel_rfl) (fun _ _ _ h => h) (by rfl) (by assumption) ?_) | (refine takeS_yes (v := ?_) 6 rfl (by kernel_rfl) (by kernel_rfl) (by kernel_rfl) (fun _ _ _ h => h) (by rfl) (by assumption) ?_ ?_; rotate_left; focus (intro wS hSw; obtain ⟨q0, q1, q2⟩ := HC.out wS hSw; go_simp; first | done | with_reducible rfl)))
  (try simp only [Act.put, List.setIfInBounds_toArray, List.set_cons_zero, List.set_cons_succ])
  (first | (refine takeS_no 7 rfl (by kernel_rfl) (by kernel_rfl) (by kernel_rfl) (fun _ _ _ h => h) (by rfl) (by assumption) ?_) | (refine takeS_yes (v := ?_) 7 rfl (by kernel_rfl) (by kernel_rfl) (by kernel_rfl) (fun _ _ _ h => h) (by rfl) (by assumption) ?_ ?_; rotate_left; focus (intro wS hSw; obtain ⟨q0, q1, q2⟩ := HC.out wS hSw; go_simp; first | done | with_reducible rfl)))
  (try simp only [Act.put, List.setIfInBounds_toArray, List.set_cons_zero, List.set_cons_succ])
  refine wpAnyH_done (by kernel_rfl) ?_ _
  have hz3 := c3.size
  have hb3 := HB2.out.trans (c3.mono HB2.out.size)
  have HKG := Lib.hid ((c3.block (w.heap.size + 1) (by omega)).trans HK2.out)
  have hC2 : ∀ w', Below (w.heap.size + 1) w3 w' → w'.cell? ⟨q, 0, none⟩ = some (.int .i64 m) ∧ w'.cell? ⟨w.heap.size, 0, none⟩ = some (.slice a1 n1 c1) ∧ w'.cell? ⟨w.heap.size, 1, none⟩ = some (.slice a2 n2 c2) := fun w' hb =>
    ⟨Go.Joins.cell_of_block ((hb.block q (by omega)).trans ((c3.block q (by omega)).trans HKB.out)) 0, Go.Joins.cell_of_block ((hb.block w.heap.size (by omega)).trans ((c3.block w.heap.size (by omega)).trans HK1.out)) 0, Go.Joins.cell_of_block ((hb.block w.heap.size (by omega)).trans ((c3.block w.heap.size (by omega)).trans HK1.out)) 1⟩
  have HC2 := Lib.hid hC2
  have HB3 := Lib.hid hb3
  clear hC2 hS0 hzd hb3 c3
  go_wp2_with fail
  refine heldS_begin (fun w' => Below (w.heap.size + 1) w3 w') (by kernel_rfl) ((Below.refl _ _).drew) ?_
  intro hS0
  (first | (refine takeS_no 0 rfl (by kernel_rfl) (by kernel_rfl) (by kernel_rfl) (fun _ _ _ h => h) (by rfl) (by assumption) ?_) | (refine takeS_yes (v := ?_) 0 rfl (by kernel_rfl) (by kernel_rfl) (by kernel_rfl) (fun _ _ _ h => h) (by rfl) (by assumption) ?_ ?_; rotate_left; focus (intro wS hSw; obtain ⟨q0, q1, q2⟩ := HC2.out wS hSw; go_simp; first | done | with_reducible rfl)))
  (try simp only [Act.put, List.setIfInBounds_toArray, List.set_cons_zero, List.set_cons_succ])
  (first | (refine takeS_no 2 rfl (by kernel_rfl) (by kernel_rfl) (by kernel_rfl) (fun _ _ _ h => h) (by rfl) (by assumption) ?_) | (refine takeS_yes (v := ?_) 2 rfl (by kernel_rfl) (by kernel_rfl) (by kernel_rfl) (fun _ _ _ h => h) (by rfl) (by assumption) ?_ ?_; rotate_left; focus (intro wS hSw; obtain ⟨q0, q1, q2⟩ := HC2.out wS hSw; go_simp; first | done | with_reducible rfl)))
  (try simp only [Act.put, List.setIfInBounds_toArray, List.set_cons_zero, List.set_cons_succ])
  (first | (refine takeS_no 3 rfl (by kernel_rfl) (by kernel_rfl) (by kernel_rfl) (fun _ _ _ h => h) (by rfl) (by assumption) ?_) | (refine takeS_yes (v := ?_) 3 rfl (by kernel_rfl) (by kernel_rfl) (by kernel_rfl) (fun _ _ _ h => h) (by rfl) (by assumption) ?_ ?_; rotate_left; focus (intro wS hSw; obtain ⟨q0, q1, q2⟩ := HC2.out wS hSw; go_simp; first | done | with_reducible rfl)))
  (try simp only [Act.put, List.setIfInBounds_toArray, List.set_cons_zero, List.set_cons_succ])
  have hbd : Below w3.heap.size w3 w3.drew := (Below.refl _ _).drew
  generalize w3.drew = wd2 at hS0 hbd ⊢
  have hzd := hbd.size
  refine takeS_alone 1 rfl (by kernel_rfl) (by rfl) (fun K hK => ?_)
  go_simp
  (refine (whole_file ⟨a1, n1, c1, a2, n2, c2⟩ f wd2 w.heap.size (H.out.below (HB3.out.trans (hbd.mono HB3.out.size)) (Nat.le_refl _)) (Nat.le_trans HB3.out.size hzd) (by rw [HTOT.out]; omega)).mono ?_; rintro e w4 ⟨a, n, c, rfl, ho, hb⟩; have c4 := hS0.trans (hb.mono (by omega)); have hcap := bown_cap ho; have hn : n = tot := ho.len.symm.trans HTOT.out; have hsl : ∀ w', (Instr.sliceAt 22 (.slice a n c) none (some (.int .i64 (m : Int))) (some (.int .i64 (m : Int)))).run Tryz.prog w' = .ok (.slice a m m) w' := fun w' => (by have := run_sub_hm2 sliceByte sizeByte a n c m (by omega) .i64 .i64 m rfl w'; rw [own_zero ho] at this; exact this); have hmc : m ≤ c := (by omega); have hgk := (hb.block (w.heap.size + 1) (by omega)).trans ((hbd.block (w.heap.size + 1) (by omega)).trans HKG.out); have HO := Lib.hid ho; have HBB := Lib.hid (HB3.out.trans ((hbd.trans (hb.mono hzd)).mono HB3.out.size)); have hz4 := hb.size; clear ho hb; have k1 := Go.Joins.cell_of_block hgk 0; have k2 := Go.Joins.cell_of_block hgk 1; have u1 := Go.Joins.unfrozen_of_block hgk 0; have u2 := Go.Joins.unfrozen_of_block hgk 1)
  refine hK.out _ _ (by assumption) ?_
  clear hK K
  (try simp only [Act.put, List.setIfInBounds_toArray, List.set_cons_zero, List.set_cons_succ])
  (first | (refine takeS_no 4 rfl (by kernel_rfl) (by kernel_rfl) (by kernel_rfl) (fun _ _ _ h => h) (by rfl) (by assumption) ?_) | (refine takeS_yes (v := ?_) 4 rfl (by kernel_rfl) (by kernel_rfl) (by kernel_rfl) (fun _ _ _ h => h) (by rfl) (by assumption) ?_ ?_; rotate_left; focus (intro wS hSw; obtain ⟨q0, q1, q2⟩ := HC2.out wS hSw; go_simp; first | done | with_reducible rfl)))
  (try simp only [Act.put, List.setIfInBounds_toArray, List.set_cons_zero, List.set_cons_succ])
  (first | (refine takeS_no 5 rfl (by kernel_rfl) (by kernel_rfl) (by kernel_rfl) (fun _ _ _ h => h) (by rfl) (by assumption) ?_) | (refine takeS_yes (v := ?_) 5 rfl (by kernel_rfl) (by kernel_rfl) (by kernel_rfl) (fun _ _ _ h => h) (by rfl) (by assumption) ?_ ?_; rotate_left; focus (intro wS hSw; obtain ⟨q0, q1, q2⟩ := HC2.out wS hSw; go_simp; first | done | with_reducible rfl)))
  (try simp only [Act.put, List.setIfInBounds_toArray, List.set_cons_zero, List.set_cons_succ])
  refine takeS_alone 6 rfl (by kernel_rfl) (by rfl) (fun K hK => ?_)
  go_simp
  (have hk5 := block_two (a := .slice a m m) (b := .slice none 0 0) hgk; have hg5 := grown_two (w := w4) (g := w.heap.size + 1) (a := .slice a m m) (b := .slice none 0 0); generalize (w4.setCell ⟨w.heap.size + 1, 0, none⟩ (.slice a m m)).setCell ⟨w.heap.size + 1, 1, none⟩ (.slice none 0 0) = w5 at hk5 hg5 ⊢; have c5 := c4.trans (below_at hg5 (by omega)); clear hsl k1 k2 u1 u2)
  refine hK.out _ _ (by assumption) ?_
  clear hK K
  (try simp only [Act.put, List.setIfInBounds_toArray, List.set_cons_zero, List.set_cons_succ])
  (first | (refine takeS_no 7 rfl (by kernel_rfl) (by kernel_rfl) (by kernel_rfl) (fun _ _ _ h => h) (by rfl) (by assumption) ?_) | (refine takeS_yes (v := ?_) 7 rfl (by kernel_rfl) (by kernel_rfl) (by kernel_rfl) (fun _ _ _ h => h) (by rfl) (by assumption) ?_ ?_; rotate_left; focus (intro wS hSw; obtain ⟨q0, q1, q2⟩ := HC2.out wS hSw; go_simp; first | done | with_reducible rfl)))
  (try simp only [Act.put, List.setIfInBounds_toArray, List.set_cons_zero, List.set_cons_succ])
  refine wpAnyH_done (by kernel_rfl) ?_ _
  go_wp2_with fail
  have ho5 := HO.out.kept hg5 (Or.inr (fun e => by have h1 := HO.out.lt _ e; (try dsimp only at h1); omega))
  have hz5 := hg5.size
  refine rows_end (r := ⟨a, m, m, none, 0, 0⟩) rfl hk5 rfl rfl ⟨⟨a, m, m, none, 0, 0⟩, rfl, ?_, HBB.out.grown hg5 HBB.out.size (fun k hk => by cases hk; exact Nat.le_succ _)⟩
  exact ⟨(show m = (f.all.take m).length by rw [List.length_take, HTOT.out]; omega), rfl, ho5.in.take m, Or.inl rfl, HW.out.take m, fun _ h => (by cases h), fun ha => (show m = 0 by have := ho5.nil ha; omega), fun _ => rfl, Nat.le_refl _, Nat.le_refl _⟩
theorem dCut_eq {L : Dk} {k : List UInt8} {f : Fi} {m : Nat} (hg : dGet L k = some f) (hm : m ≤ f.all.length) : dCut L k m = (dPut L k ⟨f.all.take m, []⟩, 0) := by
  unfold dCut dTurn
  rw [hg]
  dsimp only
  have h1 : ¬ ((m : Int) < 0 ∨ (f.all.length : Int) < m) := by omega
  simp only [if_neg h1, if_true, Int.toNat_natCast]
theorem cut_any {w : World} {B db mb room n : Nat} {L : Dk} (h : DiskIs w B db mb room n L) (hn : n ≤ 1000000) (s : ByteArray) (hs : s.size ≤ maxLen) (f : Fi) (hg : dGet L s.data.toList = some f) (m : Nat) (hm : m ≤ f.all.length) (r : Dk × Int) (hr : dCut L s.data.toList m = r) :
    Calls Tryz.prog 35 #[.pointer (some ⟨db, 0, none⟩), .string s, .int .i64 m] w (DkAt r db mb room (n + 1) w) := by
  subst hr
  rw [dCut_eq hg hm]
  have hbd := bec_bounds h hg
  have hfit : dUsed (dPut L s.data.toList ⟨f.all.take m, []⟩) ≤ room := Nat.le_trans (fits_same h.ok hg (by simp [Fi.all]; omega)) h.used
  have hb1 := (Below.refl w.heap.size w).alloc (Nat.le_refl _) (.cells #[.int .i64 m] 3)
  have hk1 := heap_alloc_new w (.cells #[.int .i64 m] 3)
  have HB1 := Lib.hid hb1
  have HK1 := Lib.hid hk1
  have H := Lib.hid h.top
  have hmf : ∀ (fn : Fn) (first cap : Array Value) (w : World), (Instr.makeFunc fn first cap).run Tryz.prog w = .ok (.func fn first cap) w := fun _ _ _ _ => rfl
  have HG := Lib.hid hg
  clear hb1 hk1 h hg
  go_enter Tryz.func35, Tryz.ntmps35
  go_wp2_with fail
  generalize w.alloc (.cells #[.int .i64 m] 3) = w1 at HB1 HK1 ⊢
  refine (turn_some (H.out.toDiskAt.below HB1.out (Nat.le_refl _)) s hs f HG.out 74 (fun _ _ => by kernel_rfl) #[.pointer (some ⟨w.heap.size, 0, none⟩)] (fun f2 z L2 n2 C w2 => f2 = ⟨f.all.take m, []⟩ ∧ z = 0 ∧ L2 = L ∧ n2 = n ∧ Below w.heap.size w w2) fun r w2 hb2 hrv => ?_).mono ?_
  · have hr2 := hrv.mono (Nat.le_trans HB1.out.size hb2.size)
    refine (cut1 r f w2 w.heap.size m hr2 hbd ((hb2.block _ (Array.getElem?_eq_some_iff.1 HK1.out).1).trans HK1.out) hm).mono ?_
    rintro e w3 ⟨r', rfl, hr3, hb3⟩
    have hb12 := HB1.out.trans (hb2.mono HB1.out.size)
    have hb13 := hb12.trans (hb3.mono hb12.size)
    exact ⟨r', ⟨f.all.take m, []⟩, 0, L, n, _, rfl, ⟨(H.out.toDiskAt.below hb13 (Nat.le_refl _)).top, hn, hr3⟩, rfl, rfl, rfl, rfl, hb13⟩
  · rintro e w3 ⟨f2, z, L2, n2, C, w2, ⟨rfl, rfl, rfl, rfl, hb2⟩, rfl, hg3, hd⟩
    simp only [if_pos] at hd
    go_wp2_with fail
    go_ret
    exact ⟨rfl, ⟨hd.top, hfit⟩, (below_grown hb2 (some mb)).trans hg3⟩
end Go.Proofs.YtnhnabcpkaeaaaaGreatDoor
/- A disk's method Rename. Conditions: the disk lies as its files say. -/
namespace Go.Proofs.YtnhnabcpkaeaaaaGreatDoor
open Go.RowKit
set_option maxRecDepth 20000
end Go.Proofs.YtnhnabcpkaeaaaaGreatDoor
/- A disk that crashes. Conditions: the disk lies as its files say. -/
namespace Go.Proofs.YtnhnabcpkaeaaaaGreatDoor
open Go.RowKit Go.ChangeMaps Go.MapKept Go.WideShapes
set_option maxRecDepth 20000
theorem DkHas.other {w w' : World} {B g : Nat} {D : DataW Rv} {L : Dk} (h : DkHas w B D L) (hB : B ≤ w.heap.size) (hg : w.grownBy w' (some g)) (hc : ∀ o x, w.cell? ⟨g, o, none⟩ ≠ some (bv x)) : DkHas w' B D L :=
  ⟨h.no, fun k f hk => let ⟨r, h1, h2⟩ := h.yes k f hk; ⟨r, h1, h2.other hB hg hc⟩⟩
theorem DkRange.it_none {w : World} {B mb it n : Nat} {L : Dk} {lf : List UInt8 → Bool} {cnt : Nat} (h : DkRange w B mb it n L lf cnt) : ∀ o x, w.cell? ⟨it, o, none⟩ ≠ some (bv x) := by
  obtain ⟨D, left, h1, _, _⟩ := h
  obtain ⟨es, clock, since, seen, c0, hb, F, hs, rfl, hr, _⟩ := h1
  intro o x hx
  simp [World.cell?, hr] at hx
theorem DkRange.mono {w : World} {B B' mb it n : Nat} {L : Dk} {lf : List UInt8 → Bool} {cnt : Nat} (h : DkRange w B mb it n L lf cnt) (hB : B ≤ B') : DkRange w B' mb it n L lf cnt := let ⟨D, left, h1, h2, h3⟩ := h; ⟨D, left, h1, h2.mono hB, h3⟩
theorem DkRange.congr {w : World} {B mb it n : Nat} {L L' : Dk} {lf : List UInt8 → Bool} {cnt : Nat} (h : DkRange w B mb it n L lf cnt) (he : ∀ k, dGet L' k = dGet L k) : DkRange w B mb it n L' lf cnt := let ⟨D, left, h1, h2, h3⟩ := h; ⟨D, left, h1, h2.congr he, h3⟩
theorem DkRange.put {w : World} {B mb it n : Nat} {L : Dk} {lf : List UInt8 → Bool} {cnt : Nat} (h : DkRange w B mb it n L lf cnt) (hB : B ≤ w.heap.size) (hn : n ≤ 1000000) (s : ByteArray) (hs : s.size ≤ maxLen) (hthere : (dGet L s.data.toList).isSome = true) (r : Rv) (f : Fi) (hr : RvIs w B r f) :
    ∃ w', (Instr.mapUpdate 66 (.map (some mb)) (.string s) (rvVal r)).run Tryz.prog w = .ok () w' ∧ DkRange w' B mb it n (dPut L s.data.toList f) lf cnt ∧ w.grownBy w' (some mb) := by
  obtain ⟨D, left, h1, h2, h3⟩ := h
  have hhas : Maps.has D (.string s.data.toList) = true := by
    obtain ⟨f0, hf0⟩ := Option.isSome_iff_exists.1 hthere
    obtain ⟨r0, hr0, _⟩ := h2.yes _ f0 hf0
    exact Maps.has_true_of_atKey hr0
  obtain ⟨w', hrun, hrg, ht⟩ := ranges_store h1 dk_law Tryz.underlying66 (by unfold maxLen; omega) (WideMaps.keyOf_string_mk Tryz.underlying9 hs) (rvElem_mk r) hhas
  have hmp : DkMap w B mb n L := ⟨D, h1.owns, h2⟩
  obtain ⟨es, ck, hbk⟩ := hmp.block
  exact ⟨w', hrun, ⟨_, left, hrg, (h2.put h1.owns.isMap _ hr).map hB ht.grown hbk, h3⟩, ht.grown⟩
section
variable {w : World} {ops : Array Oper} {rest : List Oper} {o : Oper} {a : Act} {Q : Exit → Act → World → Prop}
/-- The step, wherever the bytes lie. -/
theorem wpList_next_dk2 (hg : o.guard = none) (itv : Operand) (hop : o.op = Op.next itv false) {B mb it n : Nat} {L : Dk} {lf : List UInt8 → Bool} {cnt : Nat} (hit : a.eval itv = .pointer (some ⟨it, 0, none⟩)) (h : DkRange w B mb it n L lf cnt) (hB : B ≤ w.heap.size)
    (hDone : (∀ k, lf k = false) → wpList Tryz.prog ops Q rest (a.put o.dst (.tuple #[.bool false])) w)
    (hMore : ∀ (s : ByteArray) (r : Rv) (f : Fi) (w' : World) (cnt' : Nat), s.size ≤ maxLen → lf s.data.toList = true → dGet L s.data.toList = some f → RvIs w' B r f → DkRange w' B mb it n L (fun x => lf x && !decide (x = s.data.toList)) cnt' → cnt' < cnt →
      w.grownBy w' (some it) → w'.heap.size = w.heap.size → (Instr.entry (.pointer (some ⟨it, 0, none⟩))).run Tryz.prog w' = .ok (.tuple #[.string s, rvVal r]) w' → wpList Tryz.prog ops Q rest (a.put o.dst (.tuple #[.bool true, .string s, rvVal r])) w') :
    wpList Tryz.prog ops Q (o :: rest) a w := by
  have hnb := h.it_none
  obtain ⟨D, left, h1, h2, h3⟩ := h
  refine wpList_next_ranges w hg itv hop 9 dk_law rvElem Value.string rvVal (fun key kl hk => let ⟨s, hs, _⟩ := key_inv hk; ⟨s, hs⟩) (fun v y hv => let ⟨r, hr, _⟩ := rvElem_inv hv; ⟨r, hr⟩) mb it n D left cnt hit h1 (fun _ hl => hDone fun k => by rw [← h3]; exact hl _) ?_
  intro s r kl y w' cnt' hkey hlk hv hat hrg hlt hgr hsz hen
  obtain ⟨s', hs', rfl, hsl⟩ := key_inv hkey
  cases hs'
  obtain ⟨r', hr', rfl⟩ := rvElem_inv hv
  have hh' := h2.other hB hgr hnb
  have hre : r' = r := by
    unfold rvVal at hr'
    simp at hr'
    cases r
    cases r'
    simp_all
  subst hre
  cases hg : dGet L s.data.toList with
  | none =>
    have := h2.no _ hg
    rw [Maps.has_true_of_atKey hat] at this
    cases this
  | some f =>
    obtain ⟨r1, hr1, hr2⟩ := hh'.yes _ f hg
    have he := (hat (.held rvZero)).symm.trans (hr1 (.held rvZero))
    simp only [DataW.held.injEq] at he
    subst he
    refine hMore s _ f w' cnt' hsl (by rw [← h3]; exact hlk) hg hr2 ⟨D, _, hrg, hh', fun k => ?_⟩ hlt hgr hsz hen
    show (left (.string k) && !(Lit.string k).sameKey (.string s.data.toList)) = _
    rw [h3]
    congr 2
    by_cases hk : k = s.data.toList
    · subst hk; rw [WideAt.sameKey_self (str_key _)]; simp
    · rw [Maps.sameKey_ne (str_ne hk)]; simp [hk]
end
theorem crash_step (keep : Int) (L : Dk) (lf : List UInt8 → Bool) (k : List UInt8) (f : Fi) (hl : lf k = true) (hg : dGet (crashBut lf keep L) k = some f) (x : List UInt8) :
    dGet (crashBut (fun x => lf x && !decide (x = k)) keep L) x = dGet (dPut (crashBut lf keep L) k (f.crash keep)) x := by
  rw [dGet_crash, dGet_put, dGet_crash]
  rw [dGet_crash] at hg
  by_cases hx : x = k
  · subst hx
    rw [if_pos rfl]
    cases h : dGet L x with
    | none => rw [h] at hg; cases hg
    | some f0 =>
      rw [h] at hg
      simp [hl] at hg ⊢
      rw [hg]
  · rw [if_neg hx]
    simp [hx]
theorem crash_take (z : Int) (l : List Int) (kk : Nat) (h : min (max z 0) (l.length : Int) = kk) : l.take z.toNat = l.take kk := by
  by_cases h1 : z.toNat ≤ l.length
  · congr 1; omega
  · rw [List.take_of_length_le (by omega), List.take_of_length_le (by omega)]
set_option maxHeartbeats 4000000 in
theorem crash_any {w : World} {B db mb room n : Nat} {L : Dk} (h : DiskIs w B db mb room n L) (hn : n ≤ 1000000) (z : Int) (hz : -9223372036854775808 ≤ z ∧ z ≤ 9223372036854775807) :
    Calls Tryz.prog 22 #[.pointer (some ⟨db, 0, none⟩), .int .i64 z] w fun e w' => e = .returned (.tuple #[]) ∧ DiskIs w' w'.heap.size db mb room n (dCrash z L) ∧ w.grownBy w' (some mb) := by
  obtain ⟨c0, c1⟩ := h.cells
  have H := Lib.hid h
  have hB := h.le
  have hdlt := h.dlt
  have hmlt := h.mlt
  have hne := h.ne
  clear h
  go_enter Tryz.func22, Tryz.ntmps22
  go_wp2_with fail
  refine (is_any H.out.toDiskAt).mono ?_
  rintro e w1 ⟨rfl, rfl⟩
  go_wp2_with (first | (at_range; refine wpList_range_dk rfl _ rfl rfl H.out.map hB ?_; intro w0 cnt hrg0 hg0 hs0) | fail)
  go_frame
  go_loopw [] (fun wr => ∃ lf cnt, DkRange wr wr.heap.size mb w.heap.size n (crashBut lf z L) lf cnt ∧ w.grownBy wr (some mb)) (fun wr => wr.rangeLeft mb w.heap.size)
  case atStart =>
    refine ⟨_, _, (hrg0.congr fun k => ?_).mono (Nat.le_trans hB hg0.size), ⟨hg0.os, hg0.tape, hg0.output, hg0.size, fun i hi _ => hg0.block i hi (by simp)⟩⟩
    rw [dGet_crash]
    cases dGet L k <;> simp
  case round =>
    obtain ⟨lf, cnt, hrg, hgr⟩ := hrel
    have hszr := hgr.size
    go_wp2_with (first | (at_next; refine wpList_next_dk2 rfl _ rfl rfl hrg (Nat.le_refl _) ?_ ?_) | fail)
    · intro hl0
      go_wp2_with fail
      go_end0
      have he : ∀ k, dGet (dCrash z L) k = dGet (crashBut lf z L) k := fun k => by
        unfold dCrash
        rw [dGet_crash, dGet_crash, hl0]
      refine ⟨rfl, ⟨⟨(hgr.block db (by omega) (by simpa using hne)).trans H.out.blk, hrg.map.congr he, by omega, by omega, Nat.le_refl _, ?_, H.out.rle⟩, Nat.le_trans (dUsed_crash _ z L) H.out.used⟩, hgr⟩
      unfold dOk dCrash
      rw [crash_names]
      exact H.out.ok
    · intro s r f w2 cnt2 hs hlf hgt hrv hrg2 hlt hg2 hs2 hen
      obtain ⟨a1, n1, c1', a2, n2, c2⟩ := r
      simp only [rvVal] at hen ⊢
      have hsz2 : wr.heap.size ≤ w2.heap.size := Nat.le_of_eq hs2.symm
      have hmf : dGet L s.data.toList = some f := by
        rw [dGet_crash] at hgt
        cases hgl : dGet L s.data.toList with
        | none => rw [hgl] at hgt; cases hgt
        | some f0 => rw [hgl] at hgt; simpa [hlf] using hgt
      have hbd := bec_bounds H.out hmf
      obtain ⟨e1, e2, h1, h2, w1', w2', z1, z2, k1, k2⟩ := hrv
      dsimp only at e1 e2 h1 h2 z1 z2 k1 k2
      have hlen : n1 + n2 ≤ 1099511627776 := by rw [e1, e2]; unfold Fi.all at hbd; rw [List.length_append] at hbd; exact hbd
      obtain ⟨kk, hkk⟩ : ∃ kk : Nat, min (max z 0) (n2 : Int) = kk := ⟨(min (max z 0) (n2 : Int)).toNat, by omega⟩
      have hkl : kk ≤ n2 := by omega
      have hsl : ∀ w', (Instr.sliceAt 22 (.slice a2 n2 c2) none (some (.int .i64 (kk : Int))) none).run Tryz.prog w' = .ok (.slice (subA a2 c2 0 1) kk c2) w' := fun w' => run_sub_h sliceByte sizeByte a2 n2 c2 kk (by omega) .i64 kk rfl w'
      have h3 : BytesIn w2 wr.heap.size (subA a2 c2 0 1) (f.loose.take kk) := by
        have := BytesIn.sub (cap := c2) 0 kk h2 (by rw [← e2]; exact k2)
        simpa using this
      have z3 : subA a2 c2 0 1 = none → c2 = 0 := fun h => z2 (subA_eq_none h)
      have htk : f.loose.take z.toNat = f.loose.take kk := crash_take z f.loose kk (by rw [← e2]; exact hkk)
      generalize subA a2 c2 0 1 = a3 at hsl h3 z3
      have hcr : f.crash z = ⟨f.firm ++ f.loose.take kk, []⟩ := by unfold Fi.crash; rw [htk]
      have hl3 : (f.loose.take kk).length = kk := by rw [List.length_take]; omega
      have E1 := Lib.hid e1.symm
      have L3 := Lib.hid hl3
      have H1 := Lib.hid h1
      have H3 := Lib.hid h3
      have Z1 := Lib.hid z1
      have Z3 := Lib.hid z3
      have HW := Lib.hid (show BytesWf (f.firm ++ f.loose.take kk) from BytesWf.app w1' (w2'.take kk))
      have HCR := Lib.hid hcr
      have HGT := Lib.hid hgt
      have HLF := Lib.hid hlf
      have HRG := Lib.hid hrg2
      have HLE := Lib.hid (hrg.left_eq)
      have HG2 := Lib.hid (grownBy_mix hgr hg2 (Nat.le_refl _))
      have HLT := Lib.hid hlt
      have hcl := hbd
      clear e1 e2 h1 h2 w1' w2' z1 z2 k2 hl3 h3 z3 htk hcr hgt hlf hrg2 hrg hgr hg2 hlt hs2 hbd hmf
      have d1 := Go.Joins.cell_of_block ((HG2.out.block db (by omega) (by simpa using hne)).trans H.out.blk) 1
      go_wp2_with fail
      have hal := (Below.refl w2.heap.size w2).alloc (Nat.le_refl _) (.cells #[.slice a1 n1 c1', .slice a2 n2 c2] 70)
      have hk4 := heap_alloc_new w2 (.cells #[.slice a1 n1 c1', .slice a2 n2 c2] 70)
      have HAL := Lib.hid hal
      have HK4 := Lib.hid hk4
      clear hal hk4 hen
      generalize w2.alloc (.cells #[.slice a1 n1 c1', .slice a2 n2 c2] 70) = w4 at HAL HK4 ⊢
      refine heldS_begin (fun w' => w'.cell? ⟨db, 1, none⟩ = some (.map (some mb)) ∧ w'.cell? ⟨w2.heap.size, 0, none⟩ = some (.slice a1 n1 c1')) (by kernel_rfl) (⟨(((HAL.out.drew).cell (p := ⟨db, 1, none⟩) (show db < w2.heap.size by omega)).trans d1), Go.Joins.cell_of_block HK4.out 0⟩) ?_
      intro hS0
      (first | (refine takeS_no 0 rfl (by kernel_rfl) (by kernel_rfl) (by kernel_rfl) (fun _ _ _ h => h) (by rfl) (by assumption) ?_) | (refine takeS_yes (v := ?_) 0 rfl (by kernel_rfl) (by kernel_rfl) (by kernel_rfl) (fun _ _ _ h => h) (by rfl) (by assumption) ?_ ?_; rotate_left; focus (intro wS hSw; obtain ⟨q0, q1⟩ := hSw; go_simp; first | done | with_reducible rfl)))
      (try simp only [Act.put, List.setIfInBounds_toArray, List.set_cons_zero, List.set_cons_succ])
      (first | (refine takeS_no 1 rfl (by kernel_rfl) (by kernel_rfl) (by kernel_rfl) (fun _ _ _ h => h) (by rfl) (by assumption) ?_) | (refine takeS_yes (v := ?_) 1 rfl (by kernel_rfl) (by kernel_rfl) (by kernel_rfl) (fun _ _ _ h => h) (by rfl) (by assumption) ?_ ?_; rotate_left; focus (intro wS hSw; obtain ⟨q0, q1⟩ := hSw; go_simp; first | done | with_reducible rfl)))
      (try simp only [Act.put, List.setIfInBounds_toArray, List.set_cons_zero, List.set_cons_succ])
      (first | (refine takeS_no 2 rfl (by kernel_rfl) (by kernel_rfl) (by kernel_rfl) (fun _ _ _ h => h) (by rfl) (by assumption) ?_) | (refine takeS_yes (v := ?_) 2 rfl (by kernel_rfl) (by kernel_rfl) (by kernel_rfl) (fun _ _ _ h => h) (by rfl) (by assumption) ?_ ?_; rotate_left; focus (intro wS hSw; obtain ⟨q0, q1⟩ := hSw; go_simp; first | done | with_reducible rfl)))
      (try simp only [Act.put, List.setIfInBounds_toArray, List.set_cons_zero, List.set_cons_succ])
      (first | (refine takeS_no 3 rfl (by kernel_rfl) (by kernel_rfl) (by kernel_rfl) (fun _ _ _ h => h) (by rfl) (by assumption) ?_) | (refine takeS_yes (v := ?_) 3 rfl (by kernel_rfl) (by kernel_rfl) (by kernel_rfl) (fun _ _ _ h => h) (by rfl) (by assumption) ?_ ?_; rotate_left; focus (intro wS hSw; obtain ⟨q0, q1⟩ := hSw; go_simp; first | done | with_reducible rfl)))
      (try simp only [Act.put, List.setIfInBounds_toArray, List.set_cons_zero, List.set_cons_succ])
      (first | (refine takeS_no 4 rfl (by kernel_rfl) (by kernel_rfl) (by kernel_rfl) (fun _ _ _ h => h) (by rfl) (by assumption) ?_) | (refine takeS_yes (v := ?_) 4 rfl (by kernel_rfl) (by kernel_rfl) (by kernel_rfl) (fun _ _ _ h => h) (by rfl) (by assumption) ?_ ?_; rotate_left; focus (intro wS hSw; obtain ⟨q0, q1⟩ := hSw; go_simp; first | done | with_reducible rfl)))
      (try simp only [Act.put, List.setIfInBounds_toArray, List.set_cons_zero, List.set_cons_succ])
      (first | (refine takeS_no 5 rfl (by kernel_rfl) (by kernel_rfl) (by kernel_rfl) (fun _ _ _ h => h) (by rfl) (by assumption) ?_) | (refine takeS_yes (v := ?_) 5 rfl (by kernel_rfl) (by kernel_rfl) (by kernel_rfl) (fun _ _ _ h => h) (by rfl) (by assumption) ?_ ?_; rotate_left; focus (intro wS hSw; obtain ⟨q0, q1⟩ := hSw; go_simp; first | done | with_reducible rfl)))
      (try simp only [Act.put, List.setIfInBounds_toArray, List.set_cons_zero, List.set_cons_succ])
      (first | (refine takeS_no 6 rfl (by kernel_rfl) (by kernel_rfl) (by kernel_rfl) (fun _ _ _ h => h) (by rfl) (by assumption) ?_) | (refine takeS_yes (v := ?_) 6 rfl (by kernel_rfl) (by kernel_rfl) (by kernel_rfl) (fun _ _ _ h => h) (by rfl) (by assumption) ?_ ?_; rotate_left; focus (intro wS hSw; obtain ⟨q0, q1⟩ := hSw; go_simp; first | done | with_reducible rfl)))
      (try simp only [Act.put, List.setIfInBounds_toArray, List.set_cons_zero, List.set_cons_succ])
      (first | (refine takeS_no 7 rfl (by kernel_rfl) (by kernel_rfl) (by kernel_rfl) (fun _ _ _ h => h) (by rfl) (by assumption) ?_) | (refine takeS_yes (v := ?_) 7 rfl (by kernel_rfl) (by kernel_rfl) (by kernel_rfl) (fun _ _ _ h => h) (by rfl) (by assumption) ?_ ?_; rotate_left; focus (intro wS hSw; obtain ⟨q0, q1⟩ := hSw; go_simp; first | done | with_reducible rfl)))
      (try simp only [Act.put, List.setIfInBounds_toArray, List.set_cons_zero, List.set_cons_succ])
      have hsz4 := HAL.out.size
      have hlt4 := (Array.getElem?_eq_some_iff.1 HK4.out).1
      have hSS : ∀ w', Below w4.heap.size w4 w' → w'.cell? ⟨db, 1, none⟩ = some (.map (some mb)) ∧ w'.cell? ⟨w2.heap.size, 0, none⟩ = some (.slice a1 n1 c1') := fun w' hb =>
        ⟨(hb.cell (p := ⟨db, 1, none⟩) (show db < w4.heap.size by omega)).trans ((HAL.out.cell (p := ⟨db, 1, none⟩) (show db < w2.heap.size by omega)).trans d1), Go.Joins.cell_of_block ((hb.block _ hlt4).trans HK4.out) 0⟩
      have HSS := Lib.hid hSS
      have c4 : Below w4.heap.size w4 w4.drew := (Below.refl _ _).drew
      clear hSS
      generalize w4.drew = wd at hS0 c4 ⊢
      have hzd := c4.size
      refine takeS_alone 8 rfl (by kernel_rfl) (by rfl) (fun K hK => ?_)
      go_simp
      (have c5 := c4.alloc hzd (.cells #[.slice a1 n1 c1', .slice a3 kk c2] 22); have k5 := heap_alloc_new wd (.cells #[.slice a1 n1 c1', .slice a3 kk c2] 22); generalize wd.alloc (.cells #[.slice a1 n1 c1', .slice a3 kk c2] 22) = w5 at c5 k5 ⊢; have s5 := HSS.out w5 c5; have hb5 := HAL.out.trans (c5.mono hsz4))
      refine hK.out _ _ (by assumption) ?_
      clear hK K
      (try simp only [Act.put, List.setIfInBounds_toArray, List.set_cons_zero, List.set_cons_succ])
      refine takeS_alone 9 rfl (by kernel_rfl) (by rfl) (fun K hK => ?_)
      go_simp
      (refine (concat_any wd.heap.size a1 a3 n1 c1' kk c2 f.firm (f.loose.take kk) _ w5 (Go.Joins.cell_of_block k5 0) (Go.Joins.cell_of_block k5 1) (Array.getElem?_eq_some_iff.1 k5).1 ((H1.out.below hb5 hsz2).mono (Nat.le_trans hsz2 hb5.size)) ((H3.out.below hb5 hsz2).mono (Nat.le_trans hsz2 hb5.size)) Z1.out Z3.out E1.out L3.out rfl (by omega)).mono ?_; rintro e w6 ⟨a, m, c, rfl, ho, hb6⟩; have c6 := c5.trans (hb6.mono c5.size); have s6 := HSS.out w6 c6; have hb26 := HAL.out.trans (c6.mono hsz4); have hr6 : RvIs w6 w6.heap.size ⟨a, m, c, none, 0, 0⟩ (f.crash z) := (by rw [HCR.out]; exact ⟨ho.len.symm, rfl, ho.in, Or.inl rfl, HW.out, fun _ h => (by cases h), ho.nil, fun _ => rfl, bown_cap ho, Nat.le_refl _⟩); have hrg6 := (HRG.out.below hb26 hsz2).mono (Nat.le_trans hsz2 hb26.size); obtain ⟨w7, hrun7, hrg7, hg7⟩ := hrg6.put (Nat.le_refl _) hn s hs (by rw [HGT.out]; rfl) ⟨a, m, c, none, 0, 0⟩ (f.crash z) hr6; simp only [rvVal] at hrun7; have hlt6 := c6.size; have s7 : w7.cell? ⟨db, 1, none⟩ = some (.map (some mb)) ∧ w7.cell? ⟨w2.heap.size, 0, none⟩ = some (.slice a1 n1 c1') := ⟨by (have h := hg7.block db (by omega) (by simpa using hne); have h0 := s6.1; unfold World.cell? at h0 ⊢; rw [h]; exact h0), by (have h := hg7.block w2.heap.size (by omega) (by simp; omega); have h0 := s6.2; unfold World.cell? at h0 ⊢; rw [h]; exact h0)⟩)
      refine hK.out _ _ (by assumption) ?_
      clear hK K
      (try simp only [Act.put, List.setIfInBounds_toArray, List.set_cons_zero, List.set_cons_succ])
      (first | (refine takeS_no 10 rfl (by kernel_rfl) (by kernel_rfl) (by kernel_rfl) (fun _ _ _ h => h) (by rfl) (by assumption) ?_) | (refine takeS_yes (v := ?_) 10 rfl (by kernel_rfl) (by kernel_rfl) (by kernel_rfl) (fun _ _ _ h => h) (by rfl) (by assumption) ?_ ?_; rotate_left; focus (intro wS hSw; obtain ⟨q0, q1⟩ := hSw; go_simp; first | done | with_reducible rfl)))
      (try simp only [Act.put, List.setIfInBounds_toArray, List.set_cons_zero, List.set_cons_succ])
      refine takeS_alone 11 rfl (by kernel_rfl) (by rfl) (fun K hK => ?_)
      go_simp
      skip
      refine hK.out _ _ (by assumption) ?_
      clear hK K
      (try simp only [Act.put, List.setIfInBounds_toArray, List.set_cons_zero, List.set_cons_succ])
      refine wpAnyH_done (by kernel_rfl) ?_ _
      have hfin := (hrg7.congr (crash_step z L lf s.data.toList f HLF.out HGT.out)).mono hg7.size
      have hgf := HG2.out.trans ((below_grown hb26 (some mb)).trans hg7)
      have HFIN := Lib.hid hfin
      have HGF := Lib.hid hgf
      clear hfin hgf hrg7 hg7 hrun7 hrg6 s5 s6 s7 hS0
      go_wp2_with fail
      go_roundw
      case rel => exact ⟨_, _, HFIN.out, HGF.out⟩
      case measure => rw [HFIN.out.left_eq, HLE.out]; exact HLT.out
end Go.Proofs.YtnhnabcpkaeaaaaGreatDoor
/- A wal and its disk; Sync. Conditions: they lie so. -/
namespace Go.Proofs.YtnhnabcpkaeaaaaGreatDoor
open Go.RowKit
set_option maxRecDepth 20000
def walS : ByteArray := ⟨#[119, 97, 108]⟩
def nextS : ByteArray := ⟨#[119, 97, 108, 46, 110, 101, 119]⟩
theorem wal_named : Named walS := ⟨by show ∀ pos, pos < 3 → okR (Utf8.decode walS pos).1; decide, by decide, by decide, by decide, by rw [ByteArray.toList_eq]; decide⟩
theorem next_named : Named nextS := ⟨by show ∀ pos, pos < 7 → okR (Utf8.decode nextS pos).1; decide, by decide, by decide, by decide, by rw [ByteArray.toList_eq]; decide⟩
theorem names_ne : nextS.data.toList ≠ walS.data.toList := by decide
theorem wal_small : walS.size ≤ maxLen := by decide
theorem next_small : nextS.size ≤ maxLen := by decide
theorem no_bytes_five {w : World} {g : Nat} {x y z u : Int} {v : Value} {T : TypeId} {fr : Nat × Nat} (h : w.heap[g]? = some (.cells #[.int .i64 x, .int .i64 y, .int .i64 z, .int .i64 u, v] T fr)) (hv : ∀ x, v ≠ bv x) : ∀ o x, w.cell? ⟨g, o, none⟩ ≠ some (bv x) := by
  intro o x hx
  have hc := Go.Joins.cell_of_block h o
  rw [hc] at hx
  match o with
  | 0 => simp [bv] at hx
  | 1 => simp [bv] at hx
  | 2 => simp [bv] at hx
  | 3 => simp [bv] at hx
  | 4 => simp at hx; exact hv x hx
  | o + 5 => simp at hx
theorem EnsOwn.grown2 {w w' : World} {B g : Nat} {v : Value} {es : List En} (h : EnsOwn w B v es) (hg : w.grownBy w' (some g)) (hlt : g < B) : EnsOwn w' B v es := by
  have key : ∀ {v' : Value} {E k n : Nat} {xs : List Value}, w.ownsRow B E k v' n xs → v'.ownBlock = none ∨ v'.ownBlock ≠ some g := fun {v'} {E k n xs} ho => by
    cases hq : v'.ownBlock with
    | none => exact Or.inl rfl
    | some q => exact Or.inr fun e => by have := (World.ownsRow.lt ho q hq).1; injection e with e; omega
  exact ⟨h.row.kept hg (key h.row), fun e he => ⟨(h.own e he).1.kept hg (key (h.own e he).1), (h.own e he).2.kept hg (key (h.own e he).2)⟩, h.sep⟩
theorem SayAt.grown2 {w w' : World} {B sb g : Nat} {term vote base before : Int} {v : Value} {es : List En} (h : SayAt w B sb term vote base before v es) (hg : w.grownBy w' (some g)) (hlt : g < B) : SayAt w' B sb term vote base before v es :=
  ⟨(hg.block sb h.lt (by have := h.low; intro e; injection e; omega)).trans h.blk, h.ens.grown2 hg hlt, h.low⟩
/-- A wal of the disk of block db. -/
structure WalIs (w : World) (B wb sb db : Nat) (s : WP) : Prop where
  blk : w.heap[wb]? = some (.cells #[.pointer (some ⟨sb, 0, none⟩), .pointer (some ⟨db, 0, none⟩)] 45 (0, 0))
  say : SayIs w B sb s
  low : B ≤ wb
theorem SayIs.grown2 {w w' : World} {B sb g : Nat} {s : WP} (h : SayIs w B sb s) (hg : w.grownBy w' (some g)) (hlt : g < B) : SayIs w' B sb s := by
  obtain ⟨v, es, hs, hm⟩ := h
  exact ⟨v, es, hs.grown2 hg hlt, hm⟩
theorem SayIs.lt {w : World} {B sb : Nat} {s : WP} (h : SayIs w B sb s) : sb < w.heap.size := by obtain ⟨v, es, hs, _⟩ := h; exact hs.lt
theorem SayIs.lo {w : World} {B sb : Nat} {s : WP} (h : SayIs w B sb s) : B ≤ sb := by obtain ⟨v, es, hs, _⟩ := h; exact hs.low
theorem SayIs.nobytes {w : World} {B sb : Nat} {s : WP} (h : SayIs w B sb s) : ∀ o x, w.cell? ⟨sb, o, none⟩ ≠ some (bv x) := by
  obtain ⟨v, es, hs, _⟩ := h
  obtain ⟨a, c, hv, _⟩ := hs.ens.lie
  exact no_bytes_five hs.blk (fun x => by rw [hv]; simp [bv])
theorem WalIs.lt {w : World} {B wb sb db : Nat} {s : WP} (h : WalIs w B wb sb db s) : wb < w.heap.size := (Array.getElem?_eq_some_iff.1 h.blk).1
theorem WalIs.ne {w : World} {B wb sb db : Nat} {s : WP} (h : WalIs w B wb sb db s) : wb ≠ sb := by
  obtain ⟨v, es, hs, _⟩ := h.say
  rintro rfl
  have := h.blk.symm.trans hs.blk
  simp only [Option.some.injEq, Obj.cells.injEq] at this
  exact absurd this.2.1 (by decide)
/-- A wal and its disk, that is older. -/
structure WalDk (w : World) (B wb sb db mb room n : Nat) (s : WP) (L : Dk) : Prop where
  wal : WalIs w B wb sb db s
  dk : DiskIs w w.heap.size db mb room n L
  dlo : db < B
  mlo : mb < B
theorem DiskIs.said {w w' : World} {B sb db mb room n : Nat} {s : WP} {L : Dk} (h : DiskIs w w.heap.size db mb room n L) (hs : SayIs w B sb s) (h1 : db < B) (h2 : mb < B) (hg : w.grownBy w' (some sb)) : DiskIs w' w'.heap.size db mb room n L :=
  ⟨h.toDiskAt.other hg (by have := hs.lo; omega) (by have := hs.lo; omega) hs.nobytes, h.used⟩
theorem WalDk.said {w w' : World} {B wb sb db mb room n : Nat} {s t : WP} {L : Dk} (h : WalDk w B wb sb db mb room n s L) (hg : w.grownBy w' (some sb)) (hs : SayIs w' B sb t) : WalDk w' B wb sb db mb room n t L :=
  ⟨⟨(hg.block wb h.wal.lt (fun e => h.wal.ne (Option.some.inj e))).trans h.wal.blk, hs, h.wal.low⟩, h.dk.said h.wal.say h.dlo h.mlo hg, h.dlo, h.mlo⟩
theorem WalDk.below {w w' : World} {B wb sb db mb room n : Nat} {s : WP} {L : Dk} (h : WalDk w B wb sb db mb room n s L) (hb : Below w.heap.size w w') : WalDk w' B wb sb db mb room n s L :=
  h.said (grown_bel hb _) (h.wal.say.below hb (Nat.le_refl _))
theorem WalIs.grown2 {w w' : World} {B wb sb db g : Nat} {s : WP} (h : WalIs w B wb sb db s) (hg : w.grownBy w' (some g)) (hlt : g < B) : WalIs w' B wb sb db s :=
  ⟨(hg.block wb h.lt (by have := h.low; intro e; injection e; omega)).trans h.blk, h.say.grown2 hg hlt, h.low⟩
theorem WalDk.disked {w w' : World} {B wb sb db mb room n n' : Nat} {s : WP} {L L' : Dk} (h : WalDk w B wb sb db mb room n s L) (hg : w.grownBy w' (some mb)) (hd : DiskIs w' w'.heap.size db mb room n' L') : WalDk w' B wb sb db mb room n' s L' :=
  ⟨h.wal.grown2 hg h.mlo, hd, h.dlo, h.mlo⟩
theorem dSync_zero (L : Dk) (k : List UInt8) : (dSync L k).2 = 0 ∨ (dSync L k).2 = 6 := by
  unfold dSync dTurn
  cases dGet L k with
  | none => exact Or.inr rfl
  | some f => exact Or.inl rfl
theorem wsync_dk {w : World} {D wb db mb room n : Nat} {L : Dk} (c0 : ∃ sb, w.cell? ⟨wb, 0, none⟩ = some (.pointer (some ⟨sb, 0, none⟩))) (c1 : w.cell? ⟨wb, 1, none⟩ = some (.pointer (some ⟨db, 0, none⟩))) (h : DiskIs w D db mb room n L) (hn : n ≤ 1000000) :
    Calls Tryz.prog 19 #[.pointer (some ⟨wb, 0, none⟩)] w (DkAt ((dSync L walS.data.toList).1, 0) db mb room (n + 1) w) := by
  obtain ⟨sb, c0⟩ := c0
  have H := Lib.hid h
  clear h
  obtain ⟨⟨L2, z⟩, hr⟩ : ∃ r, dSync L walS.data.toList = r := ⟨_, rfl⟩
  have hz := dSync_zero L walS.data.toList
  rw [hr] at hz ⊢
  dsimp only at hz ⊢
  have HR := Lib.hid hr
  clear hr
  go_enter Tryz.func19, Tryz.ntmps19
  go_wp2_with fail
  refine (wthere_any wb sb w c0).mono ?_
  rintro e w' ⟨rfl, rfl⟩
  go_wp2_with fail
  refine (sync_any H.out hn walS wal_small _ HR.out).mono ?_
  rintro e w2 ⟨rfl, hd, hg⟩
  have HDG := Lib.hid (And.intro hd hg)
  clear hd hg
  rcases hz with rfl | rfl
  · go_wp2_with fail
    go_ret
    exact ⟨rfl, HDG.out⟩
  · go_wp2_with fail
    go_ret
    exact ⟨rfl, HDG.out⟩
end Go.Proofs.YtnhnabcpkaeaaaaGreatDoor
