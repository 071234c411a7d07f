/- The law LogFits: what is laid at an index and term that is there stands there. Conditions: the entries are read as the row reads them. -/
import Derived.Test.YtknnbnmogjkcnaaLogPlain2
import Derived.Test.YtknnbnmogjkcnaaLogCo
import Derived.Test.YtknnbnmogjkcnaaHeldR
namespace Go.Proofs.Ytknnbnmogjkcnaa
open Go.RowKit
set_option maxRecDepth 20000

theorem wrap_next (t : Int) : IntKind.i64.wrap (t + 1) ≠ t := by
  rw [IntKind.wrap_i64]
  omega
/-- The law's call, from behind what it refuses on. -/
theorem fits_out (W : World) (a : Option Addr) (n cap : Nat) (es : List En) (HN : Hid (es.length = n)) (HX : Hid (EnsIn W W.heap.size a es)) (HQ : Hid (∀ e ∈ es, EnWf e)) (b : Option Addr) (m cap2 : Nat) (fs : List En) (HN2 : Hid (fs.length = m)) (HX2 : Hid (EnsIn W W.heap.size b fs)) (HQ2 : Hid (∀ e ∈ fs, EnWf e)) (hz : n * 112 ≤ 140737488351232) (hz2 : m * 112 ≤ 140737488351232) (i : Int) (wrong : Bool) (h : 40 < n + m ∨ plainB es = false ∨ plainB fs = false) :
    Calls Try.prog 3 #[.slice a n cap, .slice b m cap2, .int .i64 i, .bool wrong] W fun e w' => e = .returned (.bool true) ∧ Below W.heap.size W w' := by
  by_cases hbig : 40 < n + m
  · have d1 : (40 : Int) < (n : Int) + m := by omega
    clear h
    go_enter Try.func3, Try.ntmps3
    go_wp2_with fail
    refine (awake_any W).mono ?_
    rintro e w1 ⟨rfl, b1⟩
    go_wp2_with fail
    go_ret
    exact ⟨rfl, b1⟩
  have d1 : ¬ (40 : Int) < (n : Int) + m := by omega
  have h2 : plainB es = false ∨ plainB fs = false := h.resolve_left hbig
  have hnm : n + m ≤ 40 := by omega
  have d2 : (n : Int) + m ≤ 40 := by omega
  have d3 : decide ((40 : Int) < (n : Int) + m) = false := by simpa using d2
  clear h hbig
  cases hpl : plainB es with
  | false =>
    have HPL := Lib.hid hpl
    clear hpl h2
    go_enter Try.func3, Try.ntmps3
    go_wp2_with fail
    refine (awake_any W).mono ?_
    rintro e w1 ⟨rfl, b1⟩
    go_wp2_with fail
    refine (plain_any a n cap es w1 HN.out ((HX.out.below enSub_kept b1 (Nat.le_refl _)).mono enSub_rising b1.size) HQ.out (by omega)).mono ?_
    rintro e w2 ⟨rfl, b2⟩
    have hpl := HPL.out
    have b3 := b1.trans (b2.mono b1.size)
    clear b1 b2
    go_wp2_with fail
    go_ret
    exact ⟨rfl, b3⟩
  | true =>
    have HPL := Lib.hid hpl
    have HPL2 := Lib.hid (h2.resolve_left (by rw [hpl]; simp))
    clear hpl h2
    go_enter Try.func3, Try.ntmps3
    go_wp2_with fail
    refine (awake_any W).mono ?_
    rintro e w1 ⟨rfl, b1⟩
    go_wp2_with fail
    refine (plain_any a n cap es w1 HN.out ((HX.out.below enSub_kept b1 (Nat.le_refl _)).mono enSub_rising b1.size) HQ.out (by omega)).mono ?_
    rintro e w2 ⟨rfl, b2⟩
    have hpl := HPL.out
    have b3 := b1.trans (b2.mono b1.size)
    clear b1 b2
    go_wp2_with fail
    refine (plain_any b m cap2 fs w2 HN2.out ((HX2.out.below enSub_kept b3 (Nat.le_refl _)).mono enSub_rising b3.size) HQ2.out (by omega)).mono ?_
    rintro e w4 ⟨rfl, b4⟩
    have hpl2 := HPL2.out
    have b5 := b3.trans (b4.mono b3.size)
    clear b3 b4
    go_wp2_with fail
    go_ret
    exact ⟨rfl, b5⟩
set_option maxHeartbeats 4000000 in
theorem fits_in (W : World) (a : Option Addr) (n cap : Nat) (es : List En) (HN : Hid (es.length = n)) (HX : Hid (EnsIn W W.heap.size a es)) (HQ : Hid (∀ e ∈ es, EnWf e)) (HNIL : Hid (a = none → cap = 0)) (hc : n ≤ cap) (b : Option Addr) (m cap2 : Nat) (fs : List En) (HN2 : Hid (fs.length = m)) (HX2 : Hid (EnsIn W W.heap.size b fs)) (HQ2 : Hid (∀ e ∈ fs, EnWf e)) (HNIL2 : Hid (b = none → cap2 = 0)) (hc2 : m ≤ cap2) (hz : n * 112 ≤ 140737488351232) (hz2 : m * 112 ≤ 140737488351232) (i : Int) (wrong : Bool) (hnm : n + m ≤ 40) (HPL : Hid (plainB es = true)) (HPL2 : Hid (plainB fs = true)) :
    Calls Try.prog 3 #[.slice a n cap, .slice b m cap2, .int .i64 i, .bool wrong] W fun e w' => e = .returned (.bool true) ∧ Below W.heap.size W w' := by
  have d1 : ¬ (40 : Int) < (n : Int) + m := by omega
  have HA := Lib.hid (EnWf.argOf HQ.out HPL.out)
  have HPS := Lib.hid (psmall_plain HPL.out)
  have HA2 := Lib.hid (EnWf.argOf HQ2.out HPL2.out)
  have HPS2 := Lib.hid (psmall_plain HPL2.out)
  have HLEN := Lib.hid (show (es.map En.plain).length = n by rw [List.length_map, HN.out])
  have HLEN2 := Lib.hid (show (fs.map En.plain).length = m by rw [List.length_map, HN2.out])
  obtain ⟨ps, hps⟩ : ∃ ps, es.map En.plain = ps := ⟨_, rfl⟩
  obtain ⟨ms, hms⟩ : ∃ ms, fs.map En.plain = ms := ⟨_, rfl⟩
  rw [hps] at HLEN HPS
  rw [hms] at HLEN2 HPS2
  have HE := Lib.hid hps
  have HE2 := Lib.hid hms
  obtain ⟨k, hk⟩ : ∃ k : Nat, i % ((n : Int) + 1) = k := ⟨(i % ((n : Int) + 1)).toNat, by have := Int.emod_nonneg i (show (n : Int) + 1 ≠ 0 by omega); omega⟩
  have hkn : k ≤ n := by have := Int.emod_lt_of_pos i (show (0 : Int) < (n : Int) + 1 by omega); omega
  obtain ⟨t, ht⟩ := termS_zero ps k (by rw [HLEN.out]; exact hkn)
  have HT := Lib.hid ht
  have HK := Lib.hid hk
  clear hps hms hk ht
  go_enter Try.func3, Try.ntmps3
  go_wp2_with fail
  refine (awake_any W).mono ?_
  rintro e w1 ⟨rfl, b1⟩
  go_wp2_with fail
  refine (plain_any a n cap es w1 HN.out ((HX.out.below enSub_kept b1 (Nat.le_refl _)).mono enSub_rising b1.size) HQ.out (by omega)).mono ?_
  rintro e w2 ⟨rfl, b2⟩
  have hpl := HPL.out
  have b3 := b1.trans (b2.mono b1.size)
  clear b1 b2
  go_wp2_with fail
  refine (plain_any b m cap2 fs w2 HN2.out ((HX2.out.below enSub_kept b3 (Nat.le_refl _)).mono enSub_rising b3.size) HQ2.out (by omega)).mono ?_
  rintro e w4 ⟨rfl, b4⟩
  have hpl2 := HPL2.out
  have b5 := b3.trans (b4.mono b3.size)
  clear b3 b4
  go_wp2_with fail
  refine (new_is 0 0 a n cap es w4 W.heap.size (by omega) (by omega) HN.out (HX.out.below enSub_kept b5 (Nat.le_refl _)) b5.size HNIL.out (by omega) HA.out).mono ?_
  rintro e w6 ⟨lb, rfl, h3, b6⟩
  rw [HE.out] at h3
  have H3 := Lib.hid (h3.le b5.size)
  have b7 := b5.trans (b6.mono b5.size)
  clear h3 b5 b6 hpl hpl2
  go_wp2_with (go_at_call 10; (refine (pick_any i ((n : Int) + 1) (by omega) (by omega) w6).mono ?_); rintro e w' ⟨rfl, rfl⟩; rw [HK.out])
  refine (term_is W.heap.size lb 0 0 ps k t true w6 HT.out H3.out (by unfold LogNums; rw [HLEN.out]; omega)).mono ?_
  rintro e w8 ⟨rfl, b8⟩
  have H8 := Lib.hid (H3.out.below b8 (Nat.le_refl _))
  have b9 := b7.trans (b8.mono b7.size)
  clear b7 b8 H3
  cases wrong with
  | true =>
    obtain ⟨u, hu⟩ : ∃ u, IntKind.i64.wrap (t + 1) = u := ⟨_, rfl⟩
    have HU := Lib.hid (show t ≠ u from fun h => wrap_next t (hu.trans h.symm))
    go_wp2_with fail
    clear hu
    refine (fit_no_is W.heap.size lb 0 0 ps k u t true _ w8 HT.out (fun _ => HU.out) H8.out (by unfold LogNums; rw [HLEN.out]; omega)).mono ?_
    rintro e w10 ⟨rfl, b10⟩
    have H10 := Lib.hid (H8.out.below b10 (Nat.le_refl _))
    have b11 := b9.trans (b10.mono b9.size)
    clear b9 b10 H8
    go_wp2_with fail
    refine (from_is W.heap.size lb 0 0 ps ps 1 99 w10 (fromS_all ps 99 (by rw [HLEN.out]; omega)) H10.out (by unfold LogNums; rw [HLEN.out]; omega) b11.size HPS.out (by omega)).mono ?_
    rintro e w12 ⟨a3, c3, es3, rfl, ho3, hm3, b12⟩
    rw [HLEN.out] at ho3 ⊢
    have HO3 := Lib.hid ho3
    have HM3 := Lib.hid hm3
    have b13 := b11.trans (b12.mono b11.size)
    clear ho3 hm3 b11 b12 H10
    go_wp2_with fail
    refine (sameEs_any a3 n c3 a n cap es3 es w12 w12.heap.size ((len_map HM3.out).trans HLEN.out) HN.out (HM3.out.trans HE.out.symm) (ens_in HO3.out) ((HX.out.below enSub_kept b13 (Nat.le_refl _)).mono enSub_rising b13.size) (Nat.le_refl _) (by omega) (small_of HM3.out HPS.out)).mono ?_
    rintro e w14 ⟨rfl, b14⟩
    have b15 := b13.trans (b14.mono b13.size)
    clear b13 b14
    go_wp2_with fail
    go_ret
    exact ⟨rfl, b15⟩
  | false =>
    obtain ⟨q, hq⟩ := fit_to 0 0 ps k ms
    have HQ0 := Lib.hid hq
    have hqm : q ≤ m := by have := hq.le; rwa [HLEN2.out] at this
    have HL := Lib.hid (fit_laid ps ms k q t (by rw [HLEN.out]; exact hkn) HT.out hq)
    clear hq
    go_wp2_with fail
    refine (fit_is W.heap.size lb 0 0 ps k t b m cap2 fs q w8 W.heap.size HT.out (by rw [HE2.out]; exact HQ0.out) H8.out (by unfold LogNums; rw [HLEN.out]; omega) (by omega) b9.size HN2.out (HX2.out.below enSub_kept b9 (Nat.le_refl _)) b9.size HNIL2.out hc2 (by omega) (by rw [HLEN.out]; omega) HA2.out).mono ?_
    rintro e w10 ⟨he, h10, b10⟩
    rw [HE2.out] at he h10
    obtain ⟨qs, hqs⟩ : ∃ qs, (if q = ms.length then ps else ps.take ((k : Int) - 0 + q).toNat ++ ms.drop q) = qs := ⟨_, rfl⟩
    have hl := HL.out
    rw [hqs] at hl h10
    rw [HLEN2.out] at he
    obtain ⟨fr, hfr⟩ : ∃ fr : Int, (if q = m then 0 else (k : Int) + 1 + q) = fr := ⟨_, rfl⟩
    rw [hfr] at he
    subst he
    have hf1 : fr = 0 ∧ q = m ∨ fr = (k : Int) + 1 + q ∧ q < m := by rw [← hfr]; split <;> omega
    have HF := Lib.hid hfr
    have HF1 := Lib.hid hf1
    have H10 := Lib.hid h10
    have HLA := Lib.hid hl
    have HQS := Lib.hid hqs
    have b11 := b9.trans b10
    have hqlen : qs.length ≤ 40 := by have := hl.lenle; rw [HLEN.out, HLEN2.out] at this; omega
    have hqsmall : PSmall qs := by rw [← hqs]; split; exact HPS.out; exact (HPS.out.take _).append (HPS2.out.drop _)
    have HQL := Lib.hid hqlen
    have HQSM := Lib.hid hqsmall
    clear hl hfr hf1 h10 b9 b10 H8 hqs hqlen hqsmall
    go_wp2_with fail
    have hsl : ∀ w', (Instr.sliceAt 22 (.slice a n cap) none (some (.int .i64 (k : Int))) none).run Try.prog w' = .ok (.slice (subA a cap 0 9) k cap) w' := fun w' => run_sub_h sliceEn sizeEn a n cap k (by omega) .i64 k rfl w'
    have hsubin : ∀ w', Below W.heap.size W w' → EnsIn w' w'.heap.size (subA a cap 0 9) (es.take k) := fun w' h => by
      have := EnsIn.sub (HX.out.below enSub_kept h (Nat.le_refl _)) 0 k (by rw [HN.out]; exact hc) (by rw [HN.out]; omega)
      rw [List.drop_zero] at this
      exact this.mono enSub_rising h.size
    have HSUB := Lib.hid hsubin
    have HTK := Lib.hid (show (ps.take k).length = k by rw [List.length_take, HLEN.out]; omega)
    have HTK2 := Lib.hid (show (es.take k).length = k by rw [List.length_take, HN.out]; omega)
    have HTM := Lib.hid (show (es.take k).map En.plain = ps.take k by rw [List.map_take, HE.out])
    have HPT := Lib.hid (HPS.out.take k)
    have w1' : IntKind.i64.wrap ((k : Int) + m) = (k : Int) + m := IntWalk.i64_in _ (by omega)
    clear hsubin
    rcases HF1.out with ⟨hf, hqm2⟩ | ⟨hf, hqlt⟩
    rotate_left
    focus
      have b1 : (fr != 0) = true := by simp; omega
      have b2 : decide (fr ≤ (k : Int)) = false := by simp; omega
      have b3 : decide ((k : Int) + m < fr) = false := by simp; omega
      have hcase : fr = 0 ∨ q < m ∧ fr = (k : Int) + 1 + q := Or.inr ⟨hqlt, hf⟩
      have HC := Lib.hid hcase
      clear hf hcase hqlt
    rotate_left
    focus
      have b1 : (fr != 0) = false := by simp; omega
      have b2 : True := trivial
      have b3 : True := trivial
      have hcase : fr = 0 ∨ q < m ∧ fr = (k : Int) + 1 + q := Or.inl hf
      have HC := Lib.hid hcase
      clear hf hcase hqm2
    all_goals
      refine held_begin (by kernel_rfl) ?_
      (first | (refine take_no 0 rfl (by kernel_rfl) (by kernel_rfl) (by kernel_rfl) (fun _ _ _ h => h) (by rfl) ?_) | (refine take_yes (v := ?_) 0 rfl (by kernel_rfl) (by kernel_rfl) (by kernel_rfl) (fun _ _ _ h => h) (by rfl) ?_ ?_; rotate_left; focus (intro wS; go_simp; first | done | with_reducible rfl)))
      (try simp only [Act.put, List.setIfInBounds_toArray, List.set_cons_zero, List.set_cons_succ])
      (first | (refine take_no 1 rfl (by kernel_rfl) (by kernel_rfl) (by kernel_rfl) (fun _ _ _ h => h) (by rfl) ?_) | (refine take_yes (v := ?_) 1 rfl (by kernel_rfl) (by kernel_rfl) (by kernel_rfl) (fun _ _ _ h => h) (by rfl) ?_ ?_; rotate_left; focus (intro wS; go_simp; first | done | with_reducible rfl)))
      (try simp only [Act.put, List.setIfInBounds_toArray, List.set_cons_zero, List.set_cons_succ])
      (first | (refine take_no 2 rfl (by kernel_rfl) (by kernel_rfl) (by kernel_rfl) (fun _ _ _ h => h) (by rfl) ?_) | (refine take_yes (v := ?_) 2 rfl (by kernel_rfl) (by kernel_rfl) (by kernel_rfl) (fun _ _ _ h => h) (by rfl) ?_ ?_; rotate_left; focus (intro wS; go_simp; first | done | with_reducible rfl)))
      (try simp only [Act.put, List.setIfInBounds_toArray, List.set_cons_zero, List.set_cons_succ])
      (first | (refine take_no 3 rfl (by kernel_rfl) (by kernel_rfl) (by kernel_rfl) (fun _ _ _ h => h) (by rfl) ?_) | (refine take_yes (v := ?_) 3 rfl (by kernel_rfl) (by kernel_rfl) (by kernel_rfl) (fun _ _ _ h => h) (by rfl) ?_ ?_; rotate_left; focus (intro wS; go_simp; first | done | with_reducible rfl)))
      (try simp only [Act.put, List.setIfInBounds_toArray, List.set_cons_zero, List.set_cons_succ])
      (first | (refine take_no 4 rfl (by kernel_rfl) (by kernel_rfl) (by kernel_rfl) (fun _ _ _ h => h) (by rfl) ?_) | (refine take_yes (v := ?_) 4 rfl (by kernel_rfl) (by kernel_rfl) (by kernel_rfl) (fun _ _ _ h => h) (by rfl) ?_ ?_; rotate_left; focus (intro wS; go_simp; first | done | with_reducible rfl)))
      (try simp only [Act.put, List.setIfInBounds_toArray, List.set_cons_zero, List.set_cons_succ])
      (first | (refine take_no 5 rfl (by kernel_rfl) (by kernel_rfl) (by kernel_rfl) (fun _ _ _ h => h) (by rfl) ?_) | (refine take_yes (v := ?_) 5 rfl (by kernel_rfl) (by kernel_rfl) (by kernel_rfl) (fun _ _ _ h => h) (by rfl) ?_ ?_; rotate_left; focus (intro wS; go_simp; first | done | with_reducible rfl)))
      (try simp only [Act.put, List.setIfInBounds_toArray, List.set_cons_zero, List.set_cons_succ])
      (first | (refine take_no 6 rfl (by kernel_rfl) (by kernel_rfl) (by kernel_rfl) (fun _ _ _ h => h) (by rfl) ?_) | (refine take_yes (v := ?_) 6 rfl (by kernel_rfl) (by kernel_rfl) (by kernel_rfl) (fun _ _ _ h => h) (by rfl) ?_ ?_; rotate_left; focus (intro wS; go_simp; first | done | with_reducible rfl)))
      (try simp only [Act.put, List.setIfInBounds_toArray, List.set_cons_zero, List.set_cons_succ])
      (first | (refine take_no 7 rfl (by kernel_rfl) (by kernel_rfl) (by kernel_rfl) (fun _ _ _ h => h) (by rfl) ?_) | (refine take_yes (v := ?_) 7 rfl (by kernel_rfl) (by kernel_rfl) (by kernel_rfl) (fun _ _ _ h => h) (by rfl) ?_ ?_; rotate_left; focus (intro wS; go_simp; first | done | with_reducible rfl)))
      (try simp only [Act.put, List.setIfInBounds_toArray, List.set_cons_zero, List.set_cons_succ])
      (first | (refine take_no 8 rfl (by kernel_rfl) (by kernel_rfl) (by kernel_rfl) (fun _ _ _ h => h) (by rfl) ?_) | (refine take_yes (v := ?_) 8 rfl (by kernel_rfl) (by kernel_rfl) (by kernel_rfl) (fun _ _ _ h => h) (by rfl) ?_ ?_; rotate_left; focus (intro wS; go_simp; first | done | with_reducible rfl)))
      (try simp only [Act.put, List.setIfInBounds_toArray, List.set_cons_zero, List.set_cons_succ])
      (first | (refine take_no 9 rfl (by kernel_rfl) (by kernel_rfl) (by kernel_rfl) (fun _ _ _ h => h) (by rfl) ?_) | (refine take_yes (v := ?_) 9 rfl (by kernel_rfl) (by kernel_rfl) (by kernel_rfl) (fun _ _ _ h => h) (by rfl) ?_ ?_; rotate_left; focus (intro wS; go_simp; first | done | with_reducible rfl)))
      (try simp only [Act.put, List.setIfInBounds_toArray, List.set_cons_zero, List.set_cons_succ])
      (first | (refine take_no 10 rfl (by kernel_rfl) (by kernel_rfl) (by kernel_rfl) (fun _ _ _ h => h) (by rfl) ?_) | (refine take_yes (v := ?_) 10 rfl (by kernel_rfl) (by kernel_rfl) (by kernel_rfl) (fun _ _ _ h => h) (by rfl) ?_ ?_; rotate_left; focus (intro wS; go_simp; first | done | with_reducible rfl)))
      (try simp only [Act.put, List.setIfInBounds_toArray, List.set_cons_zero, List.set_cons_succ])
      (first | (refine take_no 11 rfl (by kernel_rfl) (by kernel_rfl) (by kernel_rfl) (fun _ _ _ h => h) (by rfl) ?_) | (refine take_yes (v := ?_) 11 rfl (by kernel_rfl) (by kernel_rfl) (by kernel_rfl) (fun _ _ _ h => h) (by rfl) ?_ ?_; rotate_left; focus (intro wS; go_simp; first | done | with_reducible rfl)))
      (try simp only [Act.put, List.setIfInBounds_toArray, List.set_cons_zero, List.set_cons_succ])
      (first | (refine take_no 12 rfl (by kernel_rfl) (by kernel_rfl) (by kernel_rfl) (fun _ _ _ h => h) (by rfl) ?_) | (refine take_yes (v := ?_) 12 rfl (by kernel_rfl) (by kernel_rfl) (by kernel_rfl) (fun _ _ _ h => h) (by rfl) ?_ ?_; rotate_left; focus (intro wS; go_simp; first | done | with_reducible rfl)))
      (try simp only [Act.put, List.setIfInBounds_toArray, List.set_cons_zero, List.set_cons_succ])
      (first | (refine take_no 13 rfl (by kernel_rfl) (by kernel_rfl) (by kernel_rfl) (fun _ _ _ h => h) (by rfl) ?_) | (refine take_yes (v := ?_) 13 rfl (by kernel_rfl) (by kernel_rfl) (by kernel_rfl) (fun _ _ _ h => h) (by rfl) ?_ ?_; rotate_left; focus (intro wS; go_simp; first | done | with_reducible rfl)))
      (try simp only [Act.put, List.setIfInBounds_toArray, List.set_cons_zero, List.set_cons_succ])
      (first | (refine take_no 14 rfl (by kernel_rfl) (by kernel_rfl) (by kernel_rfl) (fun _ _ _ h => h) (by rfl) ?_) | (refine take_yes (v := ?_) 14 rfl (by kernel_rfl) (by kernel_rfl) (by kernel_rfl) (fun _ _ _ h => h) (by rfl) ?_ ?_; rotate_left; focus (intro wS; go_simp; first | done | with_reducible rfl)))
      (try simp only [Act.put, List.setIfInBounds_toArray, List.set_cons_zero, List.set_cons_succ])
      (first | (refine take_no 15 rfl (by kernel_rfl) (by kernel_rfl) (by kernel_rfl) (fun _ _ _ h => h) (by rfl) ?_) | (refine take_yes (v := ?_) 15 rfl (by kernel_rfl) (by kernel_rfl) (by kernel_rfl) (fun _ _ _ h => h) (by rfl) ?_ ?_; rotate_left; focus (intro wS; go_simp; first | done | with_reducible rfl)))
      (try simp only [Act.put, List.setIfInBounds_toArray, List.set_cons_zero, List.set_cons_succ])
      (first | (refine take_no 16 rfl (by kernel_rfl) (by kernel_rfl) (by kernel_rfl) (fun _ _ _ h => h) (by rfl) ?_) | (refine take_yes (v := ?_) 16 rfl (by kernel_rfl) (by kernel_rfl) (by kernel_rfl) (fun _ _ _ h => h) (by rfl) ?_ ?_; rotate_left; focus (intro wS; go_simp; first | done | with_reducible rfl)))
      (try simp only [Act.put, List.setIfInBounds_toArray, List.set_cons_zero, List.set_cons_succ])
      (first | (refine take_no 17 rfl (by kernel_rfl) (by kernel_rfl) (by kernel_rfl) (fun _ _ _ h => h) (by rfl) ?_) | (refine take_yes (v := ?_) 17 rfl (by kernel_rfl) (by kernel_rfl) (by kernel_rfl) (fun _ _ _ h => h) (by rfl) ?_ ?_; rotate_left; focus (intro wS; go_simp; first | done | with_reducible rfl)))
      (try simp only [Act.put, List.setIfInBounds_toArray, List.set_cons_zero, List.set_cons_succ])
      (first | (refine take_no 18 rfl (by kernel_rfl) (by kernel_rfl) (by kernel_rfl) (fun _ _ _ h => h) (by rfl) ?_) | (refine take_yes (v := ?_) 18 rfl (by kernel_rfl) (by kernel_rfl) (by kernel_rfl) (fun _ _ _ h => h) (by rfl) ?_ ?_; rotate_left; focus (intro wS; go_simp; first | done | with_reducible rfl)))
      (try simp only [Act.put, List.setIfInBounds_toArray, List.set_cons_zero, List.set_cons_succ])
      (first | (refine take_no 19 rfl (by kernel_rfl) (by kernel_rfl) (by kernel_rfl) (fun _ _ _ h => h) (by rfl) ?_) | (refine take_yes (v := ?_) 19 rfl (by kernel_rfl) (by kernel_rfl) (by kernel_rfl) (fun _ _ _ h => h) (by rfl) ?_ ?_; rotate_left; focus (intro wS; go_simp; first | done | with_reducible rfl)))
      (try simp only [Act.put, List.setIfInBounds_toArray, List.set_cons_zero, List.set_cons_succ])
      (first | (refine take_no 20 rfl (by kernel_rfl) (by kernel_rfl) (by kernel_rfl) (fun _ _ _ h => h) (by rfl) ?_) | (refine take_yes (v := ?_) 20 rfl (by kernel_rfl) (by kernel_rfl) (by kernel_rfl) (fun _ _ _ h => h) (by rfl) ?_ ?_; rotate_left; focus (intro wS; go_simp; first | done | with_reducible rfl)))
      (try simp only [Act.put, List.setIfInBounds_toArray, List.set_cons_zero, List.set_cons_succ])
      (first | (refine take_no 21 rfl (by kernel_rfl) (by kernel_rfl) (by kernel_rfl) (fun _ _ _ h => h) (by rfl) ?_) | (refine take_yes (v := ?_) 21 rfl (by kernel_rfl) (by kernel_rfl) (by kernel_rfl) (fun _ _ _ h => h) (by rfl) ?_ ?_; rotate_left; focus (intro wS; go_simp; first | done | with_reducible rfl)))
      (try simp only [Act.put, List.setIfInBounds_toArray, List.set_cons_zero, List.set_cons_succ])
      (first | (refine take_no 23 rfl (by kernel_rfl) (by kernel_rfl) (by kernel_rfl) (fun _ _ _ h => h) (by rfl) ?_) | (refine take_yes (v := ?_) 23 rfl (by kernel_rfl) (by kernel_rfl) (by kernel_rfl) (fun _ _ _ h => h) (by rfl) ?_ ?_; rotate_left; focus (intro wS; go_simp; first | done | with_reducible rfl)))
      (try simp only [Act.put, List.setIfInBounds_toArray, List.set_cons_zero, List.set_cons_succ])
      (first | (refine take_no 24 rfl (by kernel_rfl) (by kernel_rfl) (by kernel_rfl) (fun _ _ _ h => h) (by rfl) ?_) | (refine take_yes (v := ?_) 24 rfl (by kernel_rfl) (by kernel_rfl) (by kernel_rfl) (fun _ _ _ h => h) (by rfl) ?_ ?_; rotate_left; focus (intro wS; go_simp; first | done | with_reducible rfl)))
      (try simp only [Act.put, List.setIfInBounds_toArray, List.set_cons_zero, List.set_cons_succ])
      (first | (refine take_no 25 rfl (by kernel_rfl) (by kernel_rfl) (by kernel_rfl) (fun _ _ _ h => h) (by rfl) ?_) | (refine take_yes (v := ?_) 25 rfl (by kernel_rfl) (by kernel_rfl) (by kernel_rfl) (fun _ _ _ h => h) (by rfl) ?_ ?_; rotate_left; focus (intro wS; go_simp; first | done | with_reducible rfl)))
      (try simp only [Act.put, List.setIfInBounds_toArray, List.set_cons_zero, List.set_cons_succ])
      refine take_alone 22 rfl (by kernel_rfl) (by rfl) (fun K hK => ?_)
      go_simp
      (refine (from_is W.heap.size lb 0 0 qs (ps.take k) 1 k _ HLA.out.from0 (H10.out.below (Below.drew (Below.refl _ _)) (Nat.le_refl _)) (by unfold LogNums; have := HQL.out; omega) (by have := b11.size; simpa using this) HQSM.out (by omega)).mono ?_; rintro e x2 ⟨a3, c3, es3, he, ho3, hm3, hb3⟩; rw [HTK.out] at he ho3; subst he; have hx2 : Below w10.heap.size w10 x2 := Below.trans (Below.drew (Below.refl _ _)) hb3; have HO3 := Lib.hid ho3; have HM3 := Lib.hid hm3; have b12 := b11.trans (hx2.mono b11.size); clear ho3 hm3 hb3)
      refine hK.out _ _ ?_
      clear hK K
      (try simp only [Act.put, List.setIfInBounds_toArray, List.set_cons_zero, List.set_cons_succ])
      refine take_alone 26 rfl (by kernel_rfl) (by rfl) (fun K hK => ?_)
      go_simp
      (refine (sameEs_any a3 k c3 (subA a cap 0 9) k cap es3 (es.take k) x2 x2.heap.size ((len_map HM3.out).trans HTK.out) HTK2.out (HM3.out.trans HTM.out.symm) (ens_in HO3.out) (HSUB.out _ b12) (Nat.le_refl _) (by omega) (small_of HM3.out HPT.out)).mono ?_; rintro e x3 ⟨rfl, hb4⟩)
      refine hK.out _ _ ?_
      clear hK K
      (try simp only [Act.put, List.setIfInBounds_toArray, List.set_cons_zero, List.set_cons_succ])
      (first | (refine take_no 27 rfl (by kernel_rfl) (by kernel_rfl) (by kernel_rfl) (fun _ _ _ h => h) (by rfl) ?_) | (refine take_yes (v := ?_) 27 rfl (by kernel_rfl) (by kernel_rfl) (by kernel_rfl) (fun _ _ _ h => h) (by rfl) ?_ ?_; rotate_left; focus (intro wS; go_simp; first | done | with_reducible rfl)))
      (try simp only [Act.put, List.setIfInBounds_toArray, List.set_cons_zero, List.set_cons_succ])
      (first | (refine take_no 28 rfl (by kernel_rfl) (by kernel_rfl) (by kernel_rfl) (fun _ _ _ h => h) (by rfl) ?_) | (refine take_yes (v := ?_) 28 rfl (by kernel_rfl) (by kernel_rfl) (by kernel_rfl) (fun _ _ _ h => h) (by rfl) ?_ ?_; rotate_left; focus (intro wS; go_simp; first | done | with_reducible rfl)))
      (try simp only [Act.put, List.setIfInBounds_toArray, List.set_cons_zero, List.set_cons_succ])
      refine wpAnyH_done (by kernel_rfl) ?_ _
      have H11 := Lib.hid (H10.out.below (hx2.trans (hb4.mono hx2.size)) (Nat.le_refl _))
      have b13 := b12.trans (hb4.mono b12.size)
      clear b1 b2 b3 hsl w1' HO3 HM3 hx2 hb4 b12 b11 H10 hc HNIL HSUB HTK HTK2 HTM HPT
      go_wp2_with fail
      obtain ⟨gs, hg1, hg2, hg3, hg4⟩ := HLA.out.got
      rw [HLEN2.out] at hg1 hg2 hg4
      have HG2 := Lib.hid hg2
      have HG3 := Lib.hid hg3
      have HG4 := Lib.hid hg4
      refine (from_is W.heap.size lb 0 0 qs gs (k + 1) m x3 hg1 H11.out (by unfold LogNums; have := HQL.out; omega) b13.size HQSM.out (by omega)).mono ?_
      rintro e x5 ⟨a5, c5, es5, he, ho5, hm5, hb5⟩
      rw [HG2.out] at he ho5
      subst he
      have H12 := Lib.hid (H11.out.below hb5 (Nat.le_refl _))
      have b14 := b13.trans (hb5.mono b13.size)
      have HO5 := Lib.hid (ho5.le b13.size)
      have HM5 := Lib.hid hm5
      clear hg1 hg2 hg3 hg4 ho5 hm5 hb5 b13 H11
      go_wp2_with fail
      go_loopw [18] (fun i wr => ∃ j : Nat, j ≤ m ∧ i = .int .i64 j ∧ LogIs wr W.heap.size lb 0 0 qs ∧ EnsOwn wr W.heap.size (.slice a5 m c5) es5 ∧ Below W.heap.size W wr) (fun i _ => m - (intOf i).toNat)
      case atStart => exact ⟨0, by omega, rfl, H12.out, HO5.out, b14⟩
      case round =>
        clear H12 HO5 b14
        obtain ⟨j, hj, rfl, h6, ho, hbel⟩ := hrel
        have H6 := Lib.hid h6
        have HO := Lib.hid ho
        clear h6 ho
        by_cases hlt : j < m
        · have i1 : (j : Int) < m := by omega
          have hl5 : es5.length = m := (len_map HM5.out).trans HG2.out
          have hkx : es5[j]? = some (es5[j]'(by omega)) := List.getElem?_eq_getElem _
          have hky : fs[j]? = some (fs[j]'(by rw [HN2.out]; exact hlt)) := List.getElem?_eq_getElem _
          have hwf := plainB_mem HPL2.out (List.getElem_mem (l := fs) (n := j) (by rw [HN2.out]; exact hlt))
          have hms : ms[j]? = some (fs[j]'(by rw [HN2.out]; exact hlt)).plain := by rw [← HE2.out, List.getElem?_map, hky]; rfl
          have hgs : gs[j]? = some (es5[j]'(by omega)).plain := by rw [← HM5.out, List.getElem?_map, hkx]; rfl
          have hterm : (es5[j]'(by omega)).term = (fs[j]'(by rw [HN2.out]; exact hlt)).term := by
            obtain ⟨y, hy1, hy2⟩ := HG3.out _ _ hms
            rw [hgs] at hy1
            obtain rfl := Option.some.inj hy1
            exact hy2
          have hsame : q < m → q ≤ j → (es5[j]'(by omega)).plain = (fs[j]'(by rw [HN2.out]; exact hlt)).plain := fun h1 h2 => by
            have := HG4.out _ _ h1 h2 hms
            rw [hgs] at this
            exact Option.some.inj this
          obtain ⟨xb, xo, hao, hxb, hc, hcs⟩ := (ens_in HO.out).at hkx
          obtain ⟨yb, yo, hco, hyb, hc2, hcs2⟩ := ((HX2.out.below enSub_kept hbel (Nat.le_refl _)).mono enSub_rising hbel.size).at hky
          generalize es5[j]'(by omega) = x at hc hcs hterm hsame hgs hkx
          generalize fs[j]'(by rw [HN2.out]; exact hlt) = y at hc2 hcs2 hterm hsame hwf hms hky
          subst hao hco
          have w2 : IntKind.i64.wrap ((k : Int) + 1) = (k : Int) + 1 := IntWalk.i64_in _ (by omega)
          have w3 : IntKind.i64.wrap ((k : Int) + 1 + (j : Int)) = (k : Int) + 1 + j := IntWalk.i64_in _ (by omega)
          by_cases hcall : q < m ∧ fr = (k : Int) + 1 + q ∧ q ≤ j
          · have g1 : decide ((0 : Int) < fr) = true := by simp; omega
            have g2 : decide (fr ≤ (k : Int) + 1 + j) = true := by simp; omega
            have hp := hsame hcall.1 hcall.2.2
            have hcl : ∀ x' : Calm wr.heap.size wr, Calls Try.prog 15 #[enVal x, enVal y] x'.1 fun e w' => e = .returned (.bool true) ∧ Below x'.1.heap.size x'.1 w' := fun x' =>
              sameE_any x y x'.1 wr.heap.size hp (enSub_kept _ _ _ _ _ hcs x'.2 (Nat.le_refl _)) (enSub_kept _ _ _ _ _ hcs2 x'.2 (Nat.le_refl _)) x'.2.size (by have := congrArg (fun p => p.args.length) hp; simp [En.plain] at this; omega) (by have := congrArg (fun p => p.vs.length) hp; simp [En.plain] at this; omega)
            clear hcall hsame hms hgs hkx hky hwf hterm
            obtain ⟨t0, kd, s0, q0, ck, text, aao, args, acap, num, vao, vs, vcap⟩ := x
            obtain ⟨t2, kd2, s2, q2, ck2, text2, aao2, args2, acap2, num2, vao2, vs2, vcap2⟩ := y
            simp only [En.plain, EnP.mk.injEq] at hp
            obtain ⟨rfl, rfl, rfl, rfl, rfl, rfl, rfl, rfl, rfl⟩ := hp
            unfold enVal at hcl
            dsimp only at hcl
            obtain ⟨an, han⟩ : ∃ an, args.length = an := ⟨_, rfl⟩
            obtain ⟨vn, hvn⟩ : ∃ vn, vs.length = vn := ⟨_, rfl⟩
            rw [han, hvn] at hcl
            have HCL := Lib.hid hcl
            have c0 : ∀ x' : Calm wr.heap.size wr, x'.1.cell? ⟨xb, xo + j * 9, none⟩ = some (.int .i64 t0) := fun x' => x'.cell (hc 0 (by decide)) hxb
            have c1 : ∀ x' : Calm wr.heap.size wr, x'.1.cell? ⟨xb, xo + j * 9 + 1, none⟩ = some (.int .u8 kd) := fun x' => x'.cell (hc 1 (by decide)) hxb
            have c2 : ∀ x' : Calm wr.heap.size wr, x'.1.cell? ⟨xb, xo + j * 9 + 2, none⟩ = some (.int .i64 s0) := fun x' => x'.cell (hc 2 (by decide)) hxb
            have c3 : ∀ x' : Calm wr.heap.size wr, x'.1.cell? ⟨xb, xo + j * 9 + 3, none⟩ = some (.int .i64 q0) := fun x' => x'.cell (hc 3 (by decide)) hxb
            have c4 : ∀ x' : Calm wr.heap.size wr, x'.1.cell? ⟨xb, xo + j * 9 + 4, none⟩ = some (.int .u8 ck) := fun x' => x'.cell (hc 4 (by decide)) hxb
            have c5 : ∀ x' : Calm wr.heap.size wr, x'.1.cell? ⟨xb, xo + j * 9 + 5, none⟩ = some (.string text) := fun x' => x'.cell (hc 5 (by decide)) hxb
            have c6 : ∀ x' : Calm wr.heap.size wr, x'.1.cell? ⟨xb, xo + j * 9 + 6, none⟩ = some (.slice aao an acap) := fun x' => x'.cell (han ▸ hc 6 (by decide)) hxb
            have c7 : ∀ x' : Calm wr.heap.size wr, x'.1.cell? ⟨xb, xo + j * 9 + 7, none⟩ = some (.int .i64 num) := fun x' => x'.cell (hc 7 (by decide)) hxb
            have c8 : ∀ x' : Calm wr.heap.size wr, x'.1.cell? ⟨xb, xo + j * 9 + 8, none⟩ = some (.slice vao vn vcap) := fun x' => x'.cell (hvn ▸ hc 8 (by decide)) hxb
            have e0 : ∀ x' : Calm wr.heap.size wr, x'.1.cell? ⟨yb, yo + j * 9, none⟩ = some (.int .i64 t0) := fun x' => x'.cell (hc2 0 (by decide)) hyb
            have e1 : ∀ x' : Calm wr.heap.size wr, x'.1.cell? ⟨yb, yo + j * 9 + 1, none⟩ = some (.int .u8 kd) := fun x' => x'.cell (hc2 1 (by decide)) hyb
            have e2 : ∀ x' : Calm wr.heap.size wr, x'.1.cell? ⟨yb, yo + j * 9 + 2, none⟩ = some (.int .i64 s0) := fun x' => x'.cell (hc2 2 (by decide)) hyb
            have e3 : ∀ x' : Calm wr.heap.size wr, x'.1.cell? ⟨yb, yo + j * 9 + 3, none⟩ = some (.int .i64 q0) := fun x' => x'.cell (hc2 3 (by decide)) hyb
            have e4 : ∀ x' : Calm wr.heap.size wr, x'.1.cell? ⟨yb, yo + j * 9 + 4, none⟩ = some (.int .u8 ck) := fun x' => x'.cell (hc2 4 (by decide)) hyb
            have e5 : ∀ x' : Calm wr.heap.size wr, x'.1.cell? ⟨yb, yo + j * 9 + 5, none⟩ = some (.string text) := fun x' => x'.cell (hc2 5 (by decide)) hyb
            have e6 : ∀ x' : Calm wr.heap.size wr, x'.1.cell? ⟨yb, yo + j * 9 + 6, none⟩ = some (.slice aao2 an acap2) := fun x' => x'.cell (han ▸ hc2 6 (by decide)) hyb
            have e7 : ∀ x' : Calm wr.heap.size wr, x'.1.cell? ⟨yb, yo + j * 9 + 7, none⟩ = some (.int .i64 num) := fun x' => x'.cell (hc2 7 (by decide)) hyb
            have e8 : ∀ x' : Calm wr.heap.size wr, x'.1.cell? ⟨yb, yo + j * 9 + 8, none⟩ = some (.slice vao2 vn vcap2) := fun x' => x'.cell (hvn ▸ hc2 8 (by decide)) hyb
            clear hc hc2 hcs hcs2 hcl han hvn hl5
            go_wp2_with fail
            refine wp_region_calm (B := wr.heap.size) (W0 := wr) (Below.refl _ _) (by kernel_rfl) (by kernel_rfl) ?_
            repeat (go_big_quiet_step ((go_at_call 15; exact Calm.call (Nat.le_refl _) (HCL.out _))))
            refine wpQuiet_nil ?_
            intro w5 hb5
            have H7 := Lib.hid (H6.out.below hb5 (Nat.le_refl _))
            have HO7 := Lib.hid (HO.out.below hb5 (Nat.le_refl _))
            have b15 := hbel.trans (hb5.mono hbel.size)
            clear c0 c1 c2 c3 c4 c5 c6 c7 c8 e0 e1 e2 e3 e4 e5 e6 e7 e8 g1 g2 hb5 hbel H6 HO
            go_wp2_with fail
            go_roundw
            case rel => exact ⟨j + 1, by omega, by go_num, H7.out, HO7.out, b15⟩
            case measure => simp [intOf]; omega
          · obtain ⟨t0, ht0⟩ : ∃ t0, x.term = t0 := ⟨_, rfl⟩
            have hy0 : y.term = t0 := by rw [← hterm]; exact ht0
            have c0 : ∀ x' : Calm wr.heap.size wr, x'.1.cell? ⟨xb, xo + j * 9, none⟩ = some (.int .i64 t0) := fun x' => x'.cell (by have := hc 0 (by decide); rw [← ht0]; exact this) hxb
            have e0 : ∀ x' : Calm wr.heap.size wr, x'.1.cell? ⟨yb, yo + j * 9, none⟩ = some (.int .i64 t0) := fun x' => x'.cell (by have := hc2 0 (by decide); rw [← hy0]; exact this) hyb
            clear hterm ht0 hy0
            rcases (show fr = 0 ∨ 0 < fr ∧ (k : Int) + 1 + j < fr by have := HC.out; omega) with hf | ⟨hf, hf2⟩
            · have g1 : decide ((0 : Int) < fr) = false := by simp; omega
              clear hf
              clear hc hc2 hcs hcs2 hl5 hsame hms hgs hkx hky hwf hcall
              go_wp2_with fail
              refine wp_region_calm (B := wr.heap.size) (W0 := wr) (Below.refl _ _) (by kernel_rfl) (by kernel_rfl) ?_
              repeat (go_big_quiet_step (fail))
              refine wpQuiet_nil ?_
              intro w5 hb5
              have H7 := Lib.hid (H6.out.below hb5 (Nat.le_refl _))
              have HO7 := Lib.hid (HO.out.below hb5 (Nat.le_refl _))
              have b15 := hbel.trans (hb5.mono hbel.size)
              clear c0 e0 g1 hb5 hbel H6 HO
              go_wp2_with fail
              go_roundw
              case rel => exact ⟨j + 1, by omega, by go_num, H7.out, HO7.out, b15⟩
              case measure => simp [intOf]; omega
            · have g1 : decide ((0 : Int) < fr) = true := by simp; omega
              have g2 : decide (fr ≤ (k : Int) + 1 + j) = false := by simp; omega
              clear hf hf2
              clear hc hc2 hcs hcs2 hl5 hsame hms hgs hkx hky hwf hcall
              go_wp2_with fail
              refine wp_region_calm (B := wr.heap.size) (W0 := wr) (Below.refl _ _) (by kernel_rfl) (by kernel_rfl) ?_
              repeat (go_big_quiet_step (fail))
              refine wpQuiet_nil ?_
              intro w5 hb5
              have H7 := Lib.hid (H6.out.below hb5 (Nat.le_refl _))
              have HO7 := Lib.hid (HO.out.below hb5 (Nat.le_refl _))
              have b15 := hbel.trans (hb5.mono hbel.size)
              clear c0 e0 g1 hb5 hbel H6 HO
              go_wp2_with fail
              go_roundw
              case rel => exact ⟨j + 1, by omega, by go_num, H7.out, HO7.out, b15⟩
              case measure => simp [intOf]; omega
        · have i1 : ¬ (j : Int) < m := by omega
          go_wp2_with fail
          refine (fit_is W.heap.size lb 0 0 qs k t b m cap2 fs m wr W.heap.size HLA.out.here (by rw [HE2.out]; have := HLA.out.again; rwa [HLEN2.out] at this) H6.out (by unfold LogNums; have := HQL.out; omega) (by omega) hbel.size HN2.out (HX2.out.below enSub_kept hbel (Nat.le_refl _)) hbel.size HNIL2.out hc2 (by omega) (by have := HQL.out; omega) HA2.out).mono ?_
          rintro e w6 ⟨he, h7, hb6⟩
          rw [HE2.out, HLEN2.out, if_pos rfl] at he
          subst he
          have b15 := hbel.trans hb6
          clear h7 hb6 hbel
          go_wp2_with fail
          go_ret
          exact ⟨rfl, b15⟩
theorem walk_LogFits (W : World) (a : Option Addr) (n cap : Nat) (es : List En) (hn : es.length = n) (hx : EnsIn W W.heap.size a es) (hq : ∀ e ∈ es, EnWf e) (hnil : a = none → cap = 0) (hc : n ≤ cap) (hz : n * 112 ≤ 140737488351232)
    (b : Option Addr) (m cap2 : Nat) (fs : List En) (hn2 : fs.length = m) (hx2 : EnsIn W W.heap.size b fs) (hq2 : ∀ e ∈ fs, EnWf e) (hnil2 : b = none → cap2 = 0) (hc2 : m ≤ cap2) (hz2 : m * 112 ≤ 140737488351232) (i : Int) (hi : (Lit.int .i64 i).wf = true) (wrong : Bool) :
    Calls Try.prog 3 #[.slice a n cap, .slice b m cap2, .int .i64 i, .bool wrong] W fun e w' => e = .returned (.bool true) ∧ Below W.heap.size W w' := by
  by_cases h : 40 < n + m ∨ plainB es = false ∨ plainB fs = false
  · exact fits_out W a n cap es (Lib.hid hn) (Lib.hid hx) (Lib.hid hq) b m cap2 fs (Lib.hid hn2) (Lib.hid hx2) (Lib.hid hq2) hz hz2 i wrong h
  · exact fits_in W a n cap es (Lib.hid hn) (Lib.hid hx) (Lib.hid hq) (Lib.hid hnil) hc b m cap2 fs (Lib.hid hn2) (Lib.hid hx2) (Lib.hid hq2) (Lib.hid hnil2) hc2 hz hz2 i wrong (by omega) (Lib.hid (by cases h1 : plainB es with | true => rfl | false => exact absurd (Or.inr (Or.inl h1)) h)) (Lib.hid (by cases h1 : plainB fs with | true => rfl | false => exact absurd (Or.inr (Or.inr h1)) h))
end Go.Proofs.Ytknnbnmogjkcnaa
