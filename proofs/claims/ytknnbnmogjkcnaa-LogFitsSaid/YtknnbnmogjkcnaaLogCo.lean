/- The law LogCompacts: what is behind a compacted index tells as before. Conditions: the entries are read as the row reads them. -/
import Derived.Test.YtknnbnmogjkcnaaLogPlain
import Derived.Test.YtknnbnmogjkcnaaLogJ
import Derived.Test.YtknnbnmogjkcnaaPick
import Derived.Test.YtknnbnmogjkcnaaEnSame
namespace Go.Proofs.Ytknnbnmogjkcnaa
open Go.RowKit
set_option maxRecDepth 20000

theorem small_of {es : List En} {ps : List EnP} (h : es.map En.plain = ps) (hp : PSmall ps) : ∀ x ∈ es, EnSmall x := fun x hx => by
  have := hp x.plain (by rw [← h]; exact List.mem_map.2 ⟨x, hx, rfl⟩)
  exact this
theorem ens_in {w : World} {B n c : Nat} {a : Option Addr} {es : List En} (h : EnsOwn w B (.slice a n c) es) : EnsIn w w.heap.size a es := by
  obtain ⟨a', c', hv, _, _, hin⟩ := h.lie
  injection hv with h1 _ _
  rw [h1]; exact hin
set_option maxHeartbeats 4000000 in
theorem walk_LogCompacts (W : World) (a : Option Addr) (n cap : Nat) (es : List En) (hn : es.length = n) (hx : EnsIn W W.heap.size a es) (hq : ∀ e ∈ es, EnWf e) (hnil : a = none → cap = 0) (hc : n ≤ cap) (hz : n * 112 ≤ 140737488351232) (i : Int) (hi : (Lit.int .i64 i).wf = true) :
    Calls Try.prog 4 #[.slice a n cap, .int .i64 i] W fun e w' => e = .returned (.bool true) ∧ Below W.heap.size W w' := by
  have HN := Lib.hid hn
  have HX := Lib.hid hx
  have HQ := Lib.hid hq
  have HNIL := Lib.hid hnil
  clear hn hx hq hnil hi
  by_cases hbig : 40 < n
  · have d1 : (40 : Int) < n := by omega
    go_enter Try.func4, Try.ntmps4
    go_wp2_with fail
    refine (awake_any W).mono ?_
    rintro e w1 ⟨rfl, b1⟩
    go_wp2_with fail
    go_ret
    exact ⟨rfl, b1⟩
  have d1 : ¬ (40 : Int) < n := by omega
  cases hpl : plainB es with
  | false =>
    have HPL := Lib.hid hpl
    clear hpl
    go_enter Try.func4, Try.ntmps4
    go_wp2_with fail
    refine (awake_any W).mono ?_
    rintro e w1 ⟨rfl, b1⟩
    go_wp2_with fail
    refine (plain_any a n cap es w1 HN.out ((HX.out.below enSub_kept b1 (Nat.le_refl _)).mono enSub_rising b1.size) HQ.out (by omega)).mono ?_
    rintro e w2 ⟨rfl, b2⟩
    have hpl := HPL.out
    have b3 := b1.trans (b2.mono b1.size)
    clear b1 b2
    go_wp2_with fail
    go_ret
    exact ⟨rfl, b3⟩
  | true =>
  have HPL := Lib.hid hpl
  have HA := Lib.hid (EnWf.argOf HQ.out hpl)
  have HPS := Lib.hid (psmall_plain hpl)
  have hlen : (es.map En.plain).length = n := by rw [List.length_map, HN.out]
  have HLEN := Lib.hid hlen
  obtain ⟨ps, hps⟩ : ∃ ps, es.map En.plain = ps := ⟨_, rfl⟩
  rw [hps] at HLEN HPS
  have HE := Lib.hid hps
  obtain ⟨k, hk⟩ : ∃ k : Nat, i % ((n : Int) + 1) = k := ⟨(i % ((n : Int) + 1)).toNat, by have := Int.emod_nonneg i (show (n : Int) + 1 ≠ 0 by omega); omega⟩
  have hkn : k ≤ n := by have := Int.emod_lt_of_pos i (show (0 : Int) < (n : Int) + 1 by omega); omega
  obtain ⟨t, ht⟩ := termS_zero ps k (by rw [HLEN.out]; exact hkn)
  have HT := Lib.hid ht
  have HK := Lib.hid hk
  clear hpl hlen hps hk ht
  go_enter Try.func4, Try.ntmps4
  go_wp2_with fail
  refine (awake_any W).mono ?_
  rintro e w1 ⟨rfl, b1⟩
  go_wp2_with fail
  refine (plain_any a n cap es w1 HN.out ((HX.out.below enSub_kept b1 (Nat.le_refl _)).mono enSub_rising b1.size) HQ.out (by omega)).mono ?_
  rintro e w2 ⟨rfl, b2⟩
  have hpl := HPL.out
  have b3 := b1.trans (b2.mono b1.size)
  clear b1 b2
  go_wp2_with fail
  refine (new_is 0 0 a n cap es w2 W.heap.size (by omega) (by omega) HN.out (HX.out.below enSub_kept b3 (Nat.le_refl _)) b3.size HNIL.out (by omega) HA.out).mono ?_
  rintro e w3 ⟨lb, rfl, h3, b4⟩
  rw [HE.out] at h3
  have H3 := Lib.hid (h3.le b3.size)
  have b5 := b3.trans (b4.mono b3.size)
  clear h3 b3 b4 hpl
  go_wp2_with fail
  refine (new_is 0 0 a n cap es w3 W.heap.size (by omega) (by omega) HN.out (HX.out.below enSub_kept b5 (Nat.le_refl _)) b5.size HNIL.out (by omega) HA.out).mono ?_
  rintro e w4 ⟨mb, rfl, h4, b6⟩
  rw [HE.out] at h4
  have H4 := Lib.hid h4
  have s3 := b5.size
  have b7 := b5.trans (b6.mono b5.size)
  have s4 := b6.size
  have H3' := Lib.hid (H3.out.below b6 (Nat.le_refl _))
  clear h4 b5
  go_wp2_with (go_at_call 10; (refine (pick_any i ((n : Int) + 1) (by omega) (by omega) w4).mono ?_); rintro e w' ⟨rfl, rfl⟩; rw [HK.out])
  refine (compact_is w3.heap.size mb 0 0 t ps k k _ (by omega) (by rw [HLEN.out]; exact hkn) HT.out H4.out (by unfold LogNums; rw [HLEN.out]; omega) s4).mono ?_
  rintro e w5 ⟨rfl, h5, b8⟩
  have H5 := Lib.hid h5
  have H6 := Lib.hid (H3.out.below (b6.trans b8) (Nat.le_refl _))
  have b9 := b7.trans (b8.mono s3)
  have s5 := b8.size
  clear h5 b6 b7 b8 H3 H3' H4
  go_wp2_with fail
  go_loopw [8] (fun i wr => ∃ j : Nat, j ≤ n + 2 ∧ i = .int .i64 j ∧ LogIs wr w3.heap.size mb k t (ps.drop k) ∧ LogIs wr W.heap.size lb 0 0 ps ∧ Below W.heap.size W wr ∧ w3.heap.size ≤ wr.heap.size) (fun i _ => n + 2 - (intOf i).toNat)
  case atStart => exact ⟨0, by omega, rfl, H5.out, H6.out, b9, by omega⟩
  case round =>
    clear H5 H6 b9 s5
    obtain ⟨j, hj, rfl, h5, h6, hbel, hs⟩ := hrel
    have H5 := Lib.hid h5
    have H6 := Lib.hid h6
    clear h5 h6
    by_cases hlt : j ≤ n + 1
    · have i1 : (j : Int) ≤ (n : Int) + 1 := by omega
      obtain ⟨r, ok, hro⟩ : ∃ r ok, termS 0 0 ps j = (r, ok) := ⟨_, _, rfl⟩
      have HRO := Lib.hid hro
      clear hro
      go_wp2_with fail
      refine (term_is W.heap.size lb 0 0 ps j r ok wr HRO.out H6.out (by unfold LogNums; rw [HLEN.out]; omega)).mono ?_
      rintro e w6 ⟨rfl, b1⟩
      have H7 := Lib.hid (H5.out.below b1 (Nat.le_refl _))
      have H8 := Lib.hid (H6.out.below b1 (Nat.le_refl _))
      have b2 := hbel.trans (b1.mono hbel.size)
      have s6 := b1.size
      clear b1 hbel H5 H6
      go_wp2_with fail
      obtain ⟨r2, is, hrs, hge, hlo⟩ : ∃ r2 is, termS k t (ps.drop k) j = (r2, is) ∧ (k ≤ j → r2 = r ∧ is = ok) ∧ (j < k → is = false) := by
        by_cases hh : k ≤ j
        · exact ⟨r, ok, by rw [termS_drop ps k t (by rw [HLEN.out]; exact hkn) HT.out j (by omega)]; exact HRO.out, fun _ => ⟨rfl, rfl⟩, fun h => absurd h (by omega)⟩
        · exact ⟨0, false, termS_low _ k t j (by omega), fun h => absurd h hh, fun _ => rfl⟩
      have HRS := Lib.hid hrs
      have HGE := Lib.hid hge
      have HLO := Lib.hid hlo
      clear hrs hge hlo
      refine (term_is w3.heap.size mb k t (ps.drop k) j r2 is w6 HRS.out H7.out (by unfold LogNums; rw [List.length_drop, HLEN.out]; omega)).mono ?_
      rintro e w7 ⟨rfl, b3⟩
      have H9 := Lib.hid (H7.out.below b3 (Nat.le_refl _))
      have H10 := Lib.hid (H8.out.below b3 (Nat.le_refl _))
      have b4 := b2.trans (b3.mono b2.size)
      have s7 := b3.size
      clear b3 b2 H7 H8
      rcases Nat.lt_trichotomy j k with hjk | hjk | hjk
      rotate_left
      focus
        obtain ⟨rfl, rfl⟩ := HGE.out (by omega)
        subst hjk
        have d2 : ¬ (j : Int) < (j : Int) := by omega
        have d3 : (j : Int) < (j : Int) + 1 := by omega
        have hjk : True := trivial
        go_wp2_with fail
      rotate_left
      focus
        obtain ⟨rfl, rfl⟩ := HGE.out (by omega)
        have d2 : ¬ (j : Int) < k := by omega
        have d3 : (k : Int) ≤ j := by omega
        have d4 : (k : Int) + 1 ≤ j := by omega
        have d5 : ¬ (j : Int) < (k : Int) + 1 := by omega
        have d6 : (k : Int) < j := by omega
        go_wp2_with fail
      rotate_left
      focus
        have d2 : ¬ (k : Int) ≤ j := by omega
        have d3 : (j : Int) < k := by omega
        obtain rfl := HLO.out hjk
        go_wp2_with fail
      all_goals (clear HRO HRS HGE HLO hjk d2 d3)
      all_goals (refine (from_is w3.heap.size mb _ t _ _ _ 99 _ rfl H9.out (by unfold LogNums; rw [List.length_drop, HLEN.out]; omega) (by omega) (HPS.out.drop _) (by omega)).mono ?_; rintro e w8 ⟨a8, c8, es8, rfl, ho8, hm8, b8⟩)
      all_goals (have H11 := Lib.hid (H9.out.below b8 (Nat.le_refl _)); have H12 := Lib.hid (H10.out.below b8 (Nat.le_refl _)); have b9 := b4.trans (b8.mono b4.size); have s8 := b8.size; have HO8 := Lib.hid ho8; have HM8 := Lib.hid hm8; clear ho8 hm8 b8 b4 H9 H10)
      all_goals (go_wp2_with fail)
      all_goals (refine (from_is W.heap.size lb 0 0 ps _ _ 99 _ rfl H12.out (by unfold LogNums; rw [HLEN.out]; omega) b9.size HPS.out (by omega)).mono ?_; rintro e w10 ⟨a10, c10, es10, rfl, ho10, hm10, b10⟩)
      all_goals (have H13 := Lib.hid (H11.out.below b10 (Nat.le_refl _)); have H14 := Lib.hid (H12.out.below b10 (Nat.le_refl _)); have b11 := b9.trans (b10.mono b9.size); have s10 := b10.size; have HO10 := Lib.hid ho10; have HM10 := Lib.hid hm10; have HO9 := Lib.hid (HO8.out.below b10 (Nat.le_refl _)); clear ho10 hm10 b10 b9 H11 H12 HO8)
      all_goals (go_wp2_with fail)
      all_goals (refine (sameEs_any a8 _ c8 a10 _ c10 es8 es10 w10 w10.heap.size (len_map HM8.out) (len_map HM10.out) (HM8.out.trans ((fromS_drop ps _ (by rw [HLEN.out]; exact hkn) _ _ (by omega)).trans HM10.out.symm)) (ens_in HO9.out) (ens_in HO10.out) (Nat.le_refl _) (by rw [fromS_drop ps _ (by rw [HLEN.out]; exact hkn) _ _ (by omega)]; have := fromS_len ps; have := HLEN.out; exact Nat.le_trans (fromS_len ps _ _) (by omega)) (small_of HM8.out (fromS_small (HPS.out.drop _) _ _ _))).mono ?_; rintro e w12 ⟨rfl, b12⟩)
      all_goals (have H15 := Lib.hid (H13.out.below b12 (Nat.le_refl _)); have H16 := Lib.hid (H14.out.below b12 (Nat.le_refl _)); have b13 := b11.trans (b12.mono b11.size); have s12 := b12.size; clear b12 b11 H13 H14 HO9 HO10 HM8 HM10)
      all_goals (go_wp2_with fail)
      all_goals go_roundw
      all_goals (first | (case rel => exact ⟨j + 1, by omega, by go_num, H15.out, H16.out, b13, by omega⟩) | skip)
      all_goals (first | (case measure => simp [intOf]; omega) | skip)
    · have i1 : ¬ (j : Int) ≤ (n : Int) + 1 := by omega
      go_wp2_with fail
      obtain ⟨r, q, hrq⟩ : ∃ r q, lastS 0 0 ps = (r, q) := ⟨_, _, rfl⟩
      have HRQ := Lib.hid hrq
      clear hrq
      refine (last_is W.heap.size lb 0 0 ps r q wr HRQ.out H6.out (by unfold LogNums; rw [HLEN.out]; omega)).mono ?_
      rintro e w6 ⟨rfl, b1⟩
      have H7 := Lib.hid (H5.out.below b1 (Nat.le_refl _))
      have b2 := hbel.trans (b1.mono hbel.size)
      have s6 := b1.size
      clear b1 hbel H5 H6
      go_wp2_with fail
      refine (last_is w3.heap.size mb k t (ps.drop k) r q w6 ((lastS_drop ps k t (by rw [HLEN.out]; exact hkn) HT.out).trans HRQ.out) H7.out (by unfold LogNums; rw [List.length_drop, HLEN.out]; omega)).mono ?_
      rintro e w7 ⟨rfl, b3⟩
      have b4 := b2.trans (b3.mono b2.size)
      clear b3 b2 H7
      go_wp2_with fail
      go_ret
      exact ⟨rfl, b4⟩
end Go.Proofs.Ytknnbnmogjkcnaa
