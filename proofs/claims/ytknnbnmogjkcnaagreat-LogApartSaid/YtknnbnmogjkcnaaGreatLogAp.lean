/- The law LogApart: entries that are told are new memory. Conditions: the entries are read as the row reads them. -/
import Derived.Test.YtknnbnmogjkcnaaGreatLogPlain
import Derived.Test.YtknnbnmogjkcnaaGreatLogJ
import Derived.Test.YtknnbnmogjkcnaaGreatApartEs
namespace Go.Proofs.YtknnbnmogjkcnaaGreat
open Go.RowKit
set_option maxRecDepth 20000

set_option maxHeartbeats 2000000 in
theorem walk_LogApart (W : World) (a : Option Addr) (n cap : Nat) (es : List En) (hn : es.length = n) (hx : EnsIn W W.heap.size a es) (hq : ∀ e ∈ es, EnWf e) (hnil : a = none → cap = 0) (hc : n ≤ cap) (hz : n * 112 ≤ 140737488351232) :
    Calls Tryz.prog 3 #[.slice a n cap] W fun e w' => e = .returned (.bool true) ∧ Below W.heap.size W w' := by
  have HN := Lib.hid hn
  have HX := Lib.hid hx
  have HQ := Lib.hid hq
  have HNIL := Lib.hid hnil
  clear hn hx hq hnil
  by_cases hbig : 40 < n
  · have d1 : (40 : Int) < n := by omega
    go_enter Tryz.func3, Tryz.ntmps3
    go_wp2_with fail
    refine (awake_any W).mono ?_
    rintro e w1 ⟨rfl, b1⟩
    go_wp2_with fail
    go_ret
    exact ⟨rfl, b1⟩
  have d1 : ¬ (40 : Int) < n := by omega
  have d2 : (n : Int) ≤ 40 := by omega
  have d3 : decide ((40 : Int) < (n : Int)) = false := by simpa using d2
  clear hbig
  cases hpl : plainB es with
  | false =>
    have HPL := Lib.hid hpl
    clear hpl
    go_enter Tryz.func3, Tryz.ntmps3
    go_wp2_with fail
    refine (awake_any W).mono ?_
    rintro e w1 ⟨rfl, b1⟩
    go_wp2_with fail
    refine (plain_any a n cap es w1 HN.out ((HX.out.below enSub_kept b1 (Nat.le_refl _)).mono enSub_rising b1.size) HQ.out (by omega)).mono ?_
    rintro e w2 ⟨rfl, b2⟩
    have hpl := HPL.out
    have b3 := b1.trans (b2.mono b1.size)
    clear b1 b2
    go_wp2_with fail
    go_ret
    exact ⟨rfl, b3⟩
  | true =>
  have HPL := Lib.hid hpl
  have HA := Lib.hid (EnWf.argOf HQ.out hpl)
  have HPS := Lib.hid (psmall_plain hpl)
  have hlen : (es.map En.plain).length = n := by rw [List.length_map, HN.out]
  have HLEN := Lib.hid hlen
  obtain ⟨ps, hps⟩ : ∃ ps, es.map En.plain = ps := ⟨_, rfl⟩
  rw [hps] at HLEN HPS
  have HE := Lib.hid hps
  clear hpl hlen hps
  go_enter Tryz.func3, Tryz.ntmps3
  go_wp2_with fail
  refine (awake_any W).mono ?_
  rintro e w1 ⟨rfl, b1⟩
  go_wp2_with fail
  refine (plain_any a n cap es w1 HN.out ((HX.out.below enSub_kept b1 (Nat.le_refl _)).mono enSub_rising b1.size) HQ.out (by omega)).mono ?_
  rintro e w2 ⟨rfl, b2⟩
  have hpl := HPL.out
  have b3 := b1.trans (b2.mono b1.size)
  clear b1 b2
  go_wp2_with fail
  refine (new_is 0 0 a n cap es w2 W.heap.size (by omega) (by omega) HN.out (HX.out.below enSub_kept b3 (Nat.le_refl _)) b3.size HNIL.out (by omega) HA.out).mono ?_
  rintro e w3 ⟨lb, rfl, h3, b4⟩
  rw [HE.out] at h3
  have H3 := Lib.hid (h3.le b3.size)
  have b5 := b3.trans (b4.mono b3.size)
  clear h3 b3 b4 hpl
  go_wp2_with fail
  refine (from_is W.heap.size lb 0 0 ps ps 1 99 w3 (fromS_all ps 99 (by rw [HLEN.out]; omega)) H3.out (by unfold LogNums; rw [HLEN.out]; omega) b5.size HPS.out (by omega)).mono ?_
  rintro e w6 ⟨a6, c6, es6, rfl, ho6, hm6, b6⟩
  rw [HLEN.out] at ho6 ⊢
  have HO6 := Lib.hid ho6
  have HM6 := Lib.hid hm6
  have H6 := Lib.hid (H3.out.below b6 (Nat.le_refl _))
  have b7 := b5.trans (b6.mono b5.size)
  have s6 := b6.size
  have s3 := b5.size
  clear ho6 hm6 b6 H3
  go_wp2_with fail
  refine (from_is W.heap.size lb 0 0 ps ps 1 99 w6 (fromS_all ps 99 (by rw [HLEN.out]; omega)) H6.out (by unfold LogNums; rw [HLEN.out]; omega) b7.size HPS.out (by omega)).mono ?_
  rintro e w8 ⟨a8, c8, es8, rfl, ho8, hm8, b8⟩
  rw [HLEN.out] at ho8 ⊢
  have HO8 := Lib.hid ho8
  have HM8 := Lib.hid hm8
  have HO7 := Lib.hid (HO6.out.below b8 (Nat.le_refl _))
  have b9 := b7.trans (b8.mono b7.size)
  have s8 := b8.size
  clear ho8 hm8 b8 b7
  go_wp2_with fail
  have hsm : ∀ x ∈ es6 ++ es8, x.args.length ≤ 1099511627776 ∧ x.vs.length ≤ 1099511627776 := fun x hx => by
    rcases List.mem_append.1 hx with h | h
    · exact HPS.out x.plain (by rw [← HM6.out]; exact List.mem_map.2 ⟨x, h, rfl⟩)
    · exact HPS.out x.plain (by rw [← HM8.out]; exact List.mem_map.2 ⟨x, h, rfl⟩)
  have hl6 : es6.length ≤ 40000 := by have := len_map HM6.out; rw [HLEN.out] at this; omega
  have hl8 : es8.length ≤ 40000 := by have := len_map HM8.out; rw [HLEN.out] at this; omega
  have hba := (Below.refl w8.heap.size w8).alloc (Nat.le_refl _) (.cells #[.slice a6 n c6, .slice a8 n c8] 22)
  refine (apartEs_any w3.heap.size w6.heap.size w8.heap.size 2 (.slice a6 n c6) (.slice a8 n c8) es6 es8 _ (Go.Joins.cell_of_block (heap_alloc_new w8 _) 0) (Go.Joins.cell_of_block (heap_alloc_new w8 _) 1) (by simp) (HO7.out.below hba (Nat.le_refl _)) (HO8.out.below hba (Nat.le_refl _))
    (fun b hb => (HO6.out.row.lt b hb).2) (fun x hx => ⟨fun b hb => ((HO6.out.own x hx).1.lt b hb).2, fun b hb => ((HO6.out.own x hx).2.lt b hb).2⟩) s6 (by simp; omega) hl6 hl8 hsm).mono ?_
  rintro e w10 ⟨rfl, b10⟩
  have b11 := (b9.alloc b9.size (.cells #[.slice a6 n c6, .slice a8 n c8] 22)).trans (b10.mono s3)
  clear b9 b10 hba
  go_wp2_with fail
  go_ret
  exact ⟨rfl, b11⟩
end Go.Proofs.YtknnbnmogjkcnaaGreat
