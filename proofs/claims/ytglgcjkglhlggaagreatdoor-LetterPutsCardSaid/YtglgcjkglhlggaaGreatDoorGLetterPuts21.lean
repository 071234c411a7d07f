/- The document's answer for letters: Put. Conditions: the letter lies as its reading says, and is not too great. -/
import Derived.Test.YtglgcjkglhlggaaGreatDoorGLetterPuts20
import Derived.Test.YtglgcjkglhlggaaGreatDoorGLetterPuts9
set_option linter.unusedVariables false
set_option linter.unusedSimpArgs false
namespace Go.Proofs.YtglgcjkglhlggaaGreatDoor
open Go.RowKit
set_option maxRecDepth 20000
/-- Bytes of a call's own, so far. -/
def OutAt (base : Nat) (w1 : World) (L : List Int) (N : Nat) (v : Value) (w : World) : Prop := ∃ a n c, v = .slice a n c ∧ n ≤ N ∧ BOwn w base a n c L ∧ Below base w1 w
set_option maxHeartbeats 16000000 in
theorem rput21_at (kd fr tt tm ix ws : Int) (ob : Bool) (cm rn : Int) (ea : Option Addr) (n ec : Nat) (va : Option Addr) (m vc : Nat) (ia : Option Addr) (q ic : Nat) (es : List En) (vs im : List Int) (w : World)
    (hn : es.length = n) (hm : vs.length = m) (hq : im.length = q) (hx : EnsIn w w.heap.size ea es) (hx2 : NumsIn w w.heap.size va vs) (hx3 : BytesIn w w.heap.size ia im) (hf : LtFine ⟨kd, fr, tt, tm, ix, ws, ob, cm, rn, ea, es, ec, va, vs, vc, ia, im, ic⟩) (l1 : n ≤ 4000000) (l2 : m ≤ 4000000) (l3 : q ≤ 4000000) (bs : List Int) (er : Int) (hp : putL2 ⟨kd, fr, tt, tm, ix, ws, ob, cm, rn, es.map En.plain, vs, im⟩ = (bs, er)) :
    Calls Tryz.prog 14 #[.agg #[.int .u8 kd, .int .i64 fr, .int .i64 tt, .int .i64 tm, .int .i64 ix, .int .i64 ws, .bool ob, .int .i64 cm, .int .i64 rn, .slice ea n ec, .slice va m vc, .slice ia q ic]] w (PutAt bs er w) := by
  have hb1 := (Below.refl w.heap.size w).alloc (Nat.le_refl _) (.cells #[.int .u8 kd, .int .i64 fr, .int .i64 tt, .int .i64 tm, .int .i64 ix, .int .i64 ws, .bool ob, .int .i64 cm, .int .i64 rn, .slice ea n ec, .slice va m vc, .slice ia q ic] 27)
  have h1 := heap_alloc_new w (.cells #[.int .u8 kd, .int .i64 fr, .int .i64 tt, .int .i64 tm, .int .i64 ix, .int .i64 ws, .bool ob, .int .i64 cm, .int .i64 rn, .slice ea n ec, .slice va m vc, .slice ia q ic] 27)
  have hz1 : w.heap.size + 1 ≤ (w.alloc (.cells #[.int .u8 kd, .int .i64 fr, .int .i64 tt, .int .i64 tm, .int .i64 ix, .int .i64 ws, .bool ob, .int .i64 cm, .int .i64 rn, .slice ea n ec, .slice va m vc, .slice ia q ic] 27)).heap.size := by simp
  have HB1 := Lib.hid hb1
  have H1 := Lib.hid h1
  have HZ := Lib.hid hz1
  have HN := Lib.hid hn
  have HM := Lib.hid hm
  have HQ := Lib.hid hq
  have HX := Lib.hid hx
  have HX2 := Lib.hid hx2
  have HX3 := Lib.hid hx3
  have HF := Lib.hid hf
  have HP := Lib.hid hp
  have hkd := hf.kind
  have hwfB := fun h => hf.bytes h
  have HWB := Lib.hid hwfB
  clear hb1 h1 hz1 hn hm hq hx hx2 hx3 hf hp hwfB
  go_enter Tryz.func14, Tryz.ntmps14
  go_upto_region 1 with fail
  have hb1 := HB1.out
  have h1 := H1.out
  have hz1 := HZ.out
  clear HB1 H1 HZ
  generalize w.alloc (.cells #[.int .u8 kd, .int .i64 fr, .int .i64 tt, .int .i64 tm, .int .i64 ix, .int .i64 ws, .bool ob, .int .i64 cm, .int .i64 rn, .slice ea n ec, .slice va m vc, .slice ia q ic] 27) = w1 at hb1 h1 hz1 ⊢
  have HCL := Lib.hid (show ∀ w', Below (w.heap.size + 1) w1 w' → w'.cell? ⟨w.heap.size, 0, none⟩ = some (.int .u8 kd) ∧ w'.cell? ⟨w.heap.size, 1, none⟩ = some (.int .i64 fr) ∧ w'.cell? ⟨w.heap.size, 2, none⟩ = some (.int .i64 tt) ∧ w'.cell? ⟨w.heap.size, 3, none⟩ = some (.int .i64 tm) ∧ w'.cell? ⟨w.heap.size, 4, none⟩ = some (.int .i64 ix) ∧ w'.cell? ⟨w.heap.size, 5, none⟩ = some (.int .i64 ws) ∧ w'.cell? ⟨w.heap.size, 6, none⟩ = some (.bool ob) ∧ w'.cell? ⟨w.heap.size, 7, none⟩ = some (.int .i64 cm) ∧ w'.cell? ⟨w.heap.size, 8, none⟩ = some (.int .i64 rn) ∧ w'.cell? ⟨w.heap.size, 9, none⟩ = some (.slice ea n ec) ∧ w'.cell? ⟨w.heap.size, 10, none⟩ = some (.slice va m vc) ∧ w'.cell? ⟨w.heap.size, 11, none⟩ = some (.slice ia q ic) from fun w' h => have hk := (h.block w.heap.size (Nat.lt_succ_self _)).trans h1; ⟨Go.Joins.cell_of_block hk 0, Go.Joins.cell_of_block hk 1, Go.Joins.cell_of_block hk 2, Go.Joins.cell_of_block hk 3, Go.Joins.cell_of_block hk 4, Go.Joins.cell_of_block hk 5, Go.Joins.cell_of_block hk 6, Go.Joins.cell_of_block hk 7, Go.Joins.cell_of_block hk 8, Go.Joins.cell_of_block hk 9, Go.Joins.cell_of_block hk 10, Go.Joins.cell_of_block hk 11⟩)
  have HSZ := Lib.hid (show ∀ w', Below (w.heap.size + 1) w1 w' → w.heap.size + 1 ≤ w'.heap.size from fun w' h => Nat.le_trans hz1 h.size)
  have HWD := Lib.hid (show ∀ w', Below (w.heap.size + 1) w1 w' → Below w.heap.size w w' from fun w' h => hb1.trans (h.mono (Nat.le_succ _)))
  have hrl := rng_block h1
  have HB1 := Lib.hid hb1
  obtain ⟨gr, hgr⟩ : ∃ gg, rightL ⟨kd, fr, tt, tm, ix, ws, ob, cm, rn, es.map En.plain, vs, im⟩ = gg := ⟨_, rfl⟩
  have HGR := Lib.hid hgr
  clear hb1 h1 hgr
  go_wp2_with (refine wpList_load_mid rfl 27 (.tmp 1) rfl w.heap.size 0 rfl _ _ hrl Tryz.underlying27 rfl info_lt ?_)
  refine (rright21_at kd fr tt tm ix ws ob cm rn ea n ec va m vc ia q ic es vs im w1 HN.out HM.out HQ.out ((HX.out.below enSub_kept HB1.out (Nat.le_refl _)).mono enSub_rising HB1.out.size) ((HX2.out.below noSub_kept HB1.out (Nat.le_refl _)).mono noSub_rising HB1.out.size) ((HX3.out.below HB1.out (Nat.le_refl _)).mono HB1.out.size) HF.out.es l1 l2 l3 hkd gr HGR.out).mono ?_
  rintro e w2 ⟨rfl, b2⟩
  have hb2 : Below (w.heap.size + 1) w1 w2 := b2.mono hz1
  clear hrl b2
  cases gr with
  | false =>
    have hpp := HP.out
    unfold putL2 at hpp
    rw [if_pos HGR.out] at hpp
    simp only [Prod.mk.injEq] at hpp
    obtain ⟨rfl, rfl⟩ := hpp
    go_wp2_with fail
    go_ret2
    exact ⟨none, 0, rfl, Or.inl rfl, fun _ => rfl, Nat.le_refl _, (fun ad h => by cases h), HWD.out _ hb2⟩
  | true =>
  have hrn := right_nums HGR.out
  have hfr : IntKind.u8.wrap fr = fr := by have := hrn.1; exact IntWalk.u8_in _ (by dsimp only at this; omega)
  have htt : IntKind.u8.wrap tt = tt := by have := hrn.2.1; exact IntWalk.u8_in _ (by dsimp only at this; omega)
  have HRN := Lib.hid hrn
  clear hrn
  go_upto_region 3 with fail
  go_cut [4] (fun v wq => OutAt (w.heap.size + 1) w1 ([kd, fr, tt] ++ [tm, ix, ws].flatMap (numB 8)) 27 v wq)
  case first =>
   refine heldS_begin (fun w' => Below (w.heap.size + 1) w1 w') (by kernel_rfl) (hb2.drew) ?_
   intro hS0
   (first | (refine takeS_no 0 rfl (by kernel_rfl) (by kernel_rfl) (by kernel_rfl) (fun _ _ _ h => h) (by rfl) (by assumption) ?_) | (refine takeS_yes (v := ?_) 0 rfl (by kernel_rfl) (by kernel_rfl) (by kernel_rfl) (fun _ _ _ h => h) (by rfl) (by assumption) ?_ ?_; rotate_left; focus (intro wS hSw; obtain ⟨d0, d1, d2, d3, d4, d5, d6, d7, d8, d9, d10, d11⟩ := HCL.out wS hSw; go_simp; first | done | with_reducible rfl)))
   (try simp only [Act.put, List.setIfInBounds_toArray, List.set_cons_zero, List.set_cons_succ])
   (first | (refine takeS_no 1 rfl (by kernel_rfl) (by kernel_rfl) (by kernel_rfl) (fun _ _ _ h => h) (by rfl) (by assumption) ?_) | (refine takeS_yes (v := ?_) 1 rfl (by kernel_rfl) (by kernel_rfl) (by kernel_rfl) (fun _ _ _ h => h) (by rfl) (by assumption) ?_ ?_; rotate_left; focus (intro wS hSw; obtain ⟨d0, d1, d2, d3, d4, d5, d6, d7, d8, d9, d10, d11⟩ := HCL.out wS hSw; go_simp; first | done | with_reducible rfl)))
   (try simp only [Act.put, List.setIfInBounds_toArray, List.set_cons_zero, List.set_cons_succ])
   (first | (refine takeS_no 2 rfl (by kernel_rfl) (by kernel_rfl) (by kernel_rfl) (fun _ _ _ h => h) (by rfl) (by assumption) ?_) | (refine takeS_yes (v := ?_) 2 rfl (by kernel_rfl) (by kernel_rfl) (by kernel_rfl) (fun _ _ _ h => h) (by rfl) (by assumption) ?_ ?_; rotate_left; focus (intro wS hSw; obtain ⟨d0, d1, d2, d3, d4, d5, d6, d7, d8, d9, d10, d11⟩ := HCL.out wS hSw; go_simp; first | done | with_reducible rfl)))
   (try simp only [Act.put, List.setIfInBounds_toArray, List.set_cons_zero, List.set_cons_succ])
   (first | (refine takeS_no 3 rfl (by kernel_rfl) (by kernel_rfl) (by kernel_rfl) (fun _ _ _ h => h) (by rfl) (by assumption) ?_) | (refine takeS_yes (v := ?_) 3 rfl (by kernel_rfl) (by kernel_rfl) (by kernel_rfl) (fun _ _ _ h => h) (by rfl) (by assumption) ?_ ?_; rotate_left; focus (intro wS hSw; obtain ⟨d0, d1, d2, d3, d4, d5, d6, d7, d8, d9, d10, d11⟩ := HCL.out wS hSw; go_simp; first | done | with_reducible rfl)))
   (try simp only [Act.put, List.setIfInBounds_toArray, List.set_cons_zero, List.set_cons_succ])
   (first | (refine takeS_no 4 rfl (by kernel_rfl) (by kernel_rfl) (by kernel_rfl) (fun _ _ _ h => h) (by rfl) (by assumption) ?_) | (refine takeS_yes (v := ?_) 4 rfl (by kernel_rfl) (by kernel_rfl) (by kernel_rfl) (fun _ _ _ h => h) (by rfl) (by assumption) ?_ ?_; rotate_left; focus (intro wS hSw; obtain ⟨d0, d1, d2, d3, d4, d5, d6, d7, d8, d9, d10, d11⟩ := HCL.out wS hSw; go_simp; first | done | with_reducible rfl)))
   (try simp only [Act.put, List.setIfInBounds_toArray, List.set_cons_zero, List.set_cons_succ])
   (first | (refine takeS_no 5 rfl (by kernel_rfl) (by kernel_rfl) (by kernel_rfl) (fun _ _ _ h => h) (by rfl) (by assumption) ?_) | (refine takeS_yes (v := ?_) 5 rfl (by kernel_rfl) (by kernel_rfl) (by kernel_rfl) (fun _ _ _ h => h) (by rfl) (by assumption) ?_ ?_; rotate_left; focus (intro wS hSw; obtain ⟨d0, d1, d2, d3, d4, d5, d6, d7, d8, d9, d10, d11⟩ := HCL.out wS hSw; go_simp; first | done | with_reducible rfl)))
   (try simp only [Act.put, List.setIfInBounds_toArray, List.set_cons_zero, List.set_cons_succ])
   (first | (refine takeS_no 6 rfl (by kernel_rfl) (by kernel_rfl) (by kernel_rfl) (fun _ _ _ h => h) (by rfl) (by assumption) ?_) | (refine takeS_yes (v := ?_) 6 rfl (by kernel_rfl) (by kernel_rfl) (by kernel_rfl) (fun _ _ _ h => h) (by rfl) (by assumption) ?_ ?_; rotate_left; focus (intro wS hSw; obtain ⟨d0, d1, d2, d3, d4, d5, d6, d7, d8, d9, d10, d11⟩ := HCL.out wS hSw; go_simp; first | done | with_reducible rfl)))
   (try simp only [Act.put, List.setIfInBounds_toArray, List.set_cons_zero, List.set_cons_succ])
   (first | (refine takeS_no 7 rfl (by kernel_rfl) (by kernel_rfl) (by kernel_rfl) (fun _ _ _ h => h) (by rfl) (by assumption) ?_) | (refine takeS_yes (v := ?_) 7 rfl (by kernel_rfl) (by kernel_rfl) (by kernel_rfl) (fun _ _ _ h => h) (by rfl) (by assumption) ?_ ?_; rotate_left; focus (intro wS hSw; obtain ⟨d0, d1, d2, d3, d4, d5, d6, d7, d8, d9, d10, d11⟩ := HCL.out wS hSw; go_simp; first | done | with_reducible rfl)))
   (try simp only [Act.put, List.setIfInBounds_toArray, List.set_cons_zero, List.set_cons_succ])
   (first | (refine takeS_no 9 rfl (by kernel_rfl) (by kernel_rfl) (by kernel_rfl) (fun _ _ _ h => h) (by rfl) (by assumption) ?_) | (refine takeS_yes (v := ?_) 9 rfl (by kernel_rfl) (by kernel_rfl) (by kernel_rfl) (fun _ _ _ h => h) (by rfl) (by assumption) ?_ ?_; rotate_left; focus (intro wS hSw; obtain ⟨d0, d1, d2, d3, d4, d5, d6, d7, d8, d9, d10, d11⟩ := HCL.out wS hSw; go_simp; first | done | with_reducible rfl)))
   (try simp only [Act.put, List.setIfInBounds_toArray, List.set_cons_zero, List.set_cons_succ])
   (first | (refine takeS_no 10 rfl (by kernel_rfl) (by kernel_rfl) (by kernel_rfl) (fun _ _ _ h => h) (by rfl) (by assumption) ?_) | (refine takeS_yes (v := ?_) 10 rfl (by kernel_rfl) (by kernel_rfl) (by kernel_rfl) (fun _ _ _ h => h) (by rfl) (by assumption) ?_ ?_; rotate_left; focus (intro wS hSw; obtain ⟨d0, d1, d2, d3, d4, d5, d6, d7, d8, d9, d10, d11⟩ := HCL.out wS hSw; go_simp; first | done | with_reducible rfl)))
   (try simp only [Act.put, List.setIfInBounds_toArray, List.set_cons_zero, List.set_cons_succ])
   (first | (refine takeS_no 11 rfl (by kernel_rfl) (by kernel_rfl) (by kernel_rfl) (fun _ _ _ h => h) (by rfl) (by assumption) ?_) | (refine takeS_yes (v := ?_) 11 rfl (by kernel_rfl) (by kernel_rfl) (by kernel_rfl) (fun _ _ _ h => h) (by rfl) (by assumption) ?_ ?_; rotate_left; focus (intro wS hSw; obtain ⟨d0, d1, d2, d3, d4, d5, d6, d7, d8, d9, d10, d11⟩ := HCL.out wS hSw; go_simp; first | done | with_reducible rfl)))
   (try simp only [Act.put, List.setIfInBounds_toArray, List.set_cons_zero, List.set_cons_succ])
   (first | (refine takeS_no 12 rfl (by kernel_rfl) (by kernel_rfl) (by kernel_rfl) (fun _ _ _ h => h) (by rfl) (by assumption) ?_) | (refine takeS_yes (v := ?_) 12 rfl (by kernel_rfl) (by kernel_rfl) (by kernel_rfl) (fun _ _ _ h => h) (by rfl) (by assumption) ?_ ?_; rotate_left; focus (intro wS hSw; obtain ⟨d0, d1, d2, d3, d4, d5, d6, d7, d8, d9, d10, d11⟩ := HCL.out wS hSw; go_simp; first | done | with_reducible rfl)))
   (try simp only [Act.put, List.setIfInBounds_toArray, List.set_cons_zero, List.set_cons_succ])
   (first | (refine takeS_no 13 rfl (by kernel_rfl) (by kernel_rfl) (by kernel_rfl) (fun _ _ _ h => h) (by rfl) (by assumption) ?_) | (refine takeS_yes (v := ?_) 13 rfl (by kernel_rfl) (by kernel_rfl) (by kernel_rfl) (fun _ _ _ h => h) (by rfl) (by assumption) ?_ ?_; rotate_left; focus (intro wS hSw; obtain ⟨d0, d1, d2, d3, d4, d5, d6, d7, d8, d9, d10, d11⟩ := HCL.out wS hSw; go_simp; first | done | with_reducible rfl)))
   (try simp only [Act.put, List.setIfInBounds_toArray, List.set_cons_zero, List.set_cons_succ])
   (first | (refine takeS_no 14 rfl (by kernel_rfl) (by kernel_rfl) (by kernel_rfl) (fun _ _ _ h => h) (by rfl) (by assumption) ?_) | (refine takeS_yes (v := ?_) 14 rfl (by kernel_rfl) (by kernel_rfl) (by kernel_rfl) (fun _ _ _ h => h) (by rfl) (by assumption) ?_ ?_; rotate_left; focus (intro wS hSw; obtain ⟨d0, d1, d2, d3, d4, d5, d6, d7, d8, d9, d10, d11⟩ := HCL.out wS hSw; go_simp; first | done | with_reducible rfl)))
   (try simp only [Act.put, List.setIfInBounds_toArray, List.set_cons_zero, List.set_cons_succ])
   clear hb2
   generalize w2.drew = x0 at hS0 ⊢
   refine takeS_two 8 15 rfl rfl (by kernel_rfl) (by rfl) (by rfl) (fun K hK => ?_) (fun K hK => ?_)
   rotate_left
   focus
     go_simp
     have hz := HSZ.out _ hS0
     have hA := (Below.refl x0.heap.size x0).alloc (Nat.le_refl _) (.cells #[.int .i64 tm, .int .i64 ix, .int .i64 ws] 3)
     have b1 := Below.alloc hS0 hz (.cells #[.int .i64 tm, .int .i64 ix, .int .i64 ws] 3)
     obtain ⟨ib, hib⟩ : ∃ ib, x0.heap.size = ib := ⟨_, rfl⟩
     have HI : Hid (NumsIn (x0.alloc (.cells #[.int .i64 tm, .int .i64 ix, .int .i64 ws] 3)) (x0.alloc (.cells #[.int .i64 tm, .int .i64 ix, .int .i64 ws] 3)).heap.size (some ⟨x0.heap.size, 0, none⟩) [tm, ix, ws]) := Lib.hid ((nums_new x0 [tm, ix, ws] _ rfl).mono noSub_rising (by simp))
     skip
     clear hA
     rw [hib] at HI ⊢
     generalize hx2 : World.alloc x0 (.cells #[.int .i64 tm, .int .i64 ix, .int .i64 ws] 3) = x1 at b1 HI ⊢
     clear hx2 hz hib
     refine hK.out _ _ (by assumption) ?_
     clear hK K
     (try simp only [Act.put, List.setIfInBounds_toArray, List.set_cons_zero, List.set_cons_succ])
     refine takeS_two 8 16 rfl rfl (by kernel_rfl) (by rfl) (by rfl) (fun K hK => ?_) (fun K hK => ?_)
     rotate_left
     focus
       go_simp
       refine (r21numbers_any _ 3 3 [tm, ix, ws] _ x1 x1.heap.size rfl rfl HI.out (Nat.le_refl _) (by decide)).mono ?_
       rintro e x2 ⟨aB, nB, qB, rfl, ho, hb⟩
       obtain rfl : nB = 24 := (by rw [← ho.len]; simp [numB_len])
       have HB := Lib.hid (ho.le (HSZ.out _ b1))
       skip
       have b2 := b1.trans (hb.mono (HSZ.out _ b1))
       clear ho hb HI
       refine hK.out _ _ (by assumption) ?_
       clear hK K
       (try simp only [Act.put, List.setIfInBounds_toArray, List.set_cons_zero, List.set_cons_succ])
       refine takeS_alone 8 rfl (by kernel_rfl) (by rfl) (fun K hK => ?_)
       go_simp
       have hlit := BOwn.lit x2 [kd, fr, tt] (by simp)
       have hz := HSZ.out _ b2
       have hA := (Below.refl x2.heap.size x2).alloc (Nat.le_refl _) (.cells #[.int .u8 kd, .int .u8 fr, .int .u8 tt] 5)
       have b3 := Below.alloc b2 hz (.cells #[.int .u8 kd, .int .u8 fr, .int .u8 tt] 5)
       have HA : Hid (BOwn (x2.alloc (.cells #[.int .u8 kd, .int .u8 fr, .int .u8 tt] 5)) (w.heap.size + 1) (some ⟨x2.heap.size, 0, none⟩) 3 3 [kd, fr, tt]) := Lib.hid (BOwn.le hlit hz)
       have HB := Lib.hid (HB.out.below hA (Nat.le_refl _))
       clear hlit hA
       generalize hx2 : World.alloc x2 (.cells #[.int .u8 kd, .int .u8 fr, .int .u8 tt] 5) = x3 at b3 HA HB ⊢
       clear hx2 hz
       refine hK.out _ _ (by assumption) ?_
       clear hK K
       (try simp only [Act.put, List.setIfInBounds_toArray, List.set_cons_zero, List.set_cons_succ])
     rotate_left
     focus
       go_simp
       have hlit := BOwn.lit x1 [kd, fr, tt] (by simp)
       have hz := HSZ.out _ b1
       have hA := (Below.refl x1.heap.size x1).alloc (Nat.le_refl _) (.cells #[.int .u8 kd, .int .u8 fr, .int .u8 tt] 5)
       have b2 := Below.alloc b1 hz (.cells #[.int .u8 kd, .int .u8 fr, .int .u8 tt] 5)
       have HA : Hid (BOwn (x1.alloc (.cells #[.int .u8 kd, .int .u8 fr, .int .u8 tt] 5)) (w.heap.size + 1) (some ⟨x1.heap.size, 0, none⟩) 3 3 [kd, fr, tt]) := Lib.hid (BOwn.le hlit hz)
       have HI := Lib.hid (RowsIn.mono noSub_rising (RowsIn.below noSub_kept HI.out hA (Nat.le_refl _)) hA.size)
       clear hlit hA
       generalize hx2 : World.alloc x1 (.cells #[.int .u8 kd, .int .u8 fr, .int .u8 tt] 5) = x2 at b2 HA HI ⊢
       clear hx2 hz
       refine hK.out _ _ (by assumption) ?_
       clear hK K
       (try simp only [Act.put, List.setIfInBounds_toArray, List.set_cons_zero, List.set_cons_succ])
       refine takeS_alone 16 rfl (by kernel_rfl) (by rfl) (fun K hK => ?_)
       go_simp
       refine (r21numbers_any _ 3 3 [tm, ix, ws] _ x2 x2.heap.size rfl rfl HI.out (Nat.le_refl _) (by decide)).mono ?_
       rintro e x3 ⟨aB, nB, qB, rfl, ho, hb⟩
       obtain rfl : nB = 24 := (by rw [← ho.len]; simp [numB_len])
       have HB := Lib.hid (ho.le (HSZ.out _ b2))
       have HA := Lib.hid (HA.out.below hb (Nat.le_refl _))
       have b3 := b2.trans (hb.mono (HSZ.out _ b2))
       clear ho hb HI
       refine hK.out _ _ (by assumption) ?_
       clear hK K
       (try simp only [Act.put, List.setIfInBounds_toArray, List.set_cons_zero, List.set_cons_succ])
   rotate_left
   rotate_left
   focus
     go_simp
     have hlit := BOwn.lit x0 [kd, fr, tt] (by simp)
     have hz := HSZ.out _ hS0
     have hA := (Below.refl x0.heap.size x0).alloc (Nat.le_refl _) (.cells #[.int .u8 kd, .int .u8 fr, .int .u8 tt] 5)
     have b1 := Below.alloc hS0 hz (.cells #[.int .u8 kd, .int .u8 fr, .int .u8 tt] 5)
     have HA : Hid (BOwn (x0.alloc (.cells #[.int .u8 kd, .int .u8 fr, .int .u8 tt] 5)) (w.heap.size + 1) (some ⟨x0.heap.size, 0, none⟩) 3 3 [kd, fr, tt]) := Lib.hid (BOwn.le hlit hz)
     skip
     clear hlit hA
     generalize hx2 : World.alloc x0 (.cells #[.int .u8 kd, .int .u8 fr, .int .u8 tt] 5) = x1 at b1 HA ⊢
     clear hx2 hz
     refine hK.out _ _ (by assumption) ?_
     clear hK K
     (try simp only [Act.put, List.setIfInBounds_toArray, List.set_cons_zero, List.set_cons_succ])
     refine takeS_alone 15 rfl (by kernel_rfl) (by rfl) (fun K hK => ?_)
     go_simp
     have hz := HSZ.out _ b1
     have hA := (Below.refl x1.heap.size x1).alloc (Nat.le_refl _) (.cells #[.int .i64 tm, .int .i64 ix, .int .i64 ws] 3)
     have b2 := Below.alloc b1 hz (.cells #[.int .i64 tm, .int .i64 ix, .int .i64 ws] 3)
     obtain ⟨ib, hib⟩ : ∃ ib, x1.heap.size = ib := ⟨_, rfl⟩
     have HI : Hid (NumsIn (x1.alloc (.cells #[.int .i64 tm, .int .i64 ix, .int .i64 ws] 3)) (x1.alloc (.cells #[.int .i64 tm, .int .i64 ix, .int .i64 ws] 3)).heap.size (some ⟨x1.heap.size, 0, none⟩) [tm, ix, ws]) := Lib.hid ((nums_new x1 [tm, ix, ws] _ rfl).mono noSub_rising (by simp))
     have HA := Lib.hid (HA.out.below hA (Nat.le_refl _))
     clear hA
     rw [hib] at HI ⊢
     generalize hx2 : World.alloc x1 (.cells #[.int .i64 tm, .int .i64 ix, .int .i64 ws] 3) = x2 at b2 HI HA ⊢
     clear hx2 hz hib
     refine hK.out _ _ (by assumption) ?_
     clear hK K
     (try simp only [Act.put, List.setIfInBounds_toArray, List.set_cons_zero, List.set_cons_succ])
     refine takeS_alone 16 rfl (by kernel_rfl) (by rfl) (fun K hK => ?_)
     go_simp
     refine (r21numbers_any _ 3 3 [tm, ix, ws] _ x2 x2.heap.size rfl rfl HI.out (Nat.le_refl _) (by decide)).mono ?_
     rintro e x3 ⟨aB, nB, qB, rfl, ho, hb⟩
     obtain rfl : nB = 24 := (by rw [← ho.len]; simp [numB_len])
     have HB := Lib.hid (ho.le (HSZ.out _ b2))
     have HA := Lib.hid (HA.out.below hb (Nat.le_refl _))
     have b3 := b2.trans (hb.mono (HSZ.out _ b2))
     clear ho hb HI
     refine hK.out _ _ (by assumption) ?_
     clear hK K
     (try simp only [Act.put, List.setIfInBounds_toArray, List.set_cons_zero, List.set_cons_succ])
   all_goals
     refine takeS_alone 17 rfl (by kernel_rfl) (by rfl) (fun K hK => ?_)
     skip
     (refine oper_append_bo (.tmp 18) (.tmp 26) rfl (w.heap.size + 1) rfl HA.out rfl HB.out.len _ HB.out.in HB.out.nil (by omega) (HSZ.out _ b3) ?_; intro aD nD qD x4 ho hg hn; have LD := Lib.hid hn; clear hn; have b4 := b3.grown hg (HSZ.out _ b3) (fun k hk => (HA.out.lt k hk).1); have HD := Lib.hid ho; clear ho hg)
     refine hK.out _ _ (by assumption) ?_
     clear hK K
     (try simp only [Act.put, List.setIfInBounds_toArray, List.set_cons_zero, List.set_cons_succ])
     (first | (refine takeS_no 18 rfl (by kernel_rfl) (by kernel_rfl) (by kernel_rfl) (fun _ _ _ h => h) (by rfl) (by assumption) ?_) | (refine takeS_yes (v := ?_) 18 rfl (by kernel_rfl) (by kernel_rfl) (by kernel_rfl) (fun _ _ _ h => h) (by rfl) (by assumption) ?_ ?_; rotate_left; focus (intro wS hSw; obtain ⟨d0, d1, d2, d3, d4, d5, d6, d7, d8, d9, d10, d11⟩ := HCL.out wS hSw; go_simp; first | done | with_reducible rfl)))
     (try simp only [Act.put, List.setIfInBounds_toArray, List.set_cons_zero, List.set_cons_succ])
     refine wpAnyH_done (by kernel_rfl) ?_ _
   all_goals
     have hnD : nD = 27 := by have := LD.out; omega
     go_wp2_with fail
     go_meet
     exact ⟨aD, nD, qD, rfl, by omega, HD.out, b4⟩
  case rest =>
  clear hb2 hfr htt
  obtain ⟨a0, n0, c0, rfl, hn0, hD, hB⟩ := hcut
  have HD := Lib.hid hD
  have HB := Lib.hid hB
  have hz0 := HSZ.out _ hB
  obtain ⟨d0, d1, d2, d3, d4, d5, d6, d7, d8, d9, d10, d11⟩ := HCL.out _ hB
  clear hD hB
  obtain ⟨obv, hobv⟩ : ∃ v : Int, (if ob = true then 1 else 0) = v := ⟨_, rfl⟩
  have HOB := Lib.hid hobv
  clear hobv
  go_upto_if 29 with fail
  go_cut [4] (fun v wq => OutAt (w.heap.size + 1) w1 (([kd, fr, tt] ++ [tm, ix, ws].flatMap (numB 8)) ++ [obv]) 28 v wq)
  case first =>
    cases ob with
    | true =>
      obtain rfl : 1 = obv := HOB.out
      have hlit := BOwn.lit wc [1] (by simp)
      have hA := (Below.refl wc.heap.size wc).alloc (Nat.le_refl _) (.cells #[.int .u8 1] 5)
      have HA := Lib.hid (show BOwn (wc.alloc (.cells #[.int .u8 1] 5)) (w.heap.size + 1) (some ⟨wc.heap.size, 0, none⟩) 1 1 [1] from BOwn.le hlit hz0)
      have HD2 := Lib.hid (HD.out.below hA (Nat.le_refl _))
      have HB2 := Lib.hid (HB.out.trans (hA.mono hz0))
      have hzb := HSZ.out _ HB2.out
      clear hlit hA
      clear d0 d1 d2 d3 d4 d5 d6 d7 d8 d9 d10 d11
      go_wp2_with (at_builtin; refine wpList_append_bo rfl (.tmp 30) (.tmp 31) rfl (w.heap.size + 1) rfl HD2.out rfl HA.out.len _ HA.out.in HA.out.nil (by omega) hzb ?_)
      intro a2 n2 c2 wd hown hg hn2
      go_wp2_with fail
      go_meet
      exact ⟨a2, n2, c2, rfl, by omega, hown, HB2.out.grown hg hzb (fun k hk => (HD2.out.lt k hk).1)⟩
    | false =>
      obtain rfl : 0 = obv := HOB.out
      have hlit := BOwn.lit wc [0] (by simp)
      have hA := (Below.refl wc.heap.size wc).alloc (Nat.le_refl _) (.cells #[.int .u8 0] 5)
      have HA := Lib.hid (show BOwn (wc.alloc (.cells #[.int .u8 0] 5)) (w.heap.size + 1) (some ⟨wc.heap.size, 0, none⟩) 1 1 [0] from BOwn.le hlit hz0)
      have HD2 := Lib.hid (HD.out.below hA (Nat.le_refl _))
      have HB2 := Lib.hid (HB.out.trans (hA.mono hz0))
      have hzb := HSZ.out _ HB2.out
      clear hlit hA
      clear d0 d1 d2 d3 d4 d5 d6 d7 d8 d9 d10 d11
      go_wp2_with (at_builtin; refine wpList_append_bo rfl (.tmp 33) (.tmp 34) rfl (w.heap.size + 1) rfl HD2.out rfl HA.out.len _ HA.out.in HA.out.nil (by omega) hzb ?_)
      intro a2 n2 c2 wd hown hg hn2
      go_wp2_with fail
      go_meet
      exact ⟨a2, n2, c2, rfl, by omega, hown, HB2.out.grown hg hzb (fun k hk => (HD2.out.lt k hk).1)⟩
  case rest =>
  clear hz0 HD HB hn0
  clear d0 d1 d2 d3 d4 d5 d6 d7 d8 d9 d10 d11
  obtain ⟨a0, n0, c0, rfl, hn0, hD, hB⟩ := hcut
  have HD := Lib.hid hD
  have HB := Lib.hid hB
  have hz0 := HSZ.out _ hB
  obtain ⟨d0, d1, d2, d3, d4, d5, d6, d7, d8, d9, d10, d11⟩ := HCL.out _ hB
  clear hD hB
  have hA := (Below.refl wc.heap.size wc).alloc (Nat.le_refl _) (.cells #[.int .i64 cm, .int .i64 rn] 3)
  have HI : Hid (NumsIn (wc.alloc (.cells #[.int .i64 cm, .int .i64 rn] 3)) (wc.alloc (.cells #[.int .i64 cm, .int .i64 rn] 3)).heap.size (some ⟨wc.heap.size, 0, none⟩) [cm, rn]) := Lib.hid ((nums_new wc [cm, rn] _ rfl).mono noSub_rising (by simp))
  have HD := Lib.hid (HD.out.below hA (Nat.le_refl _))
  have HB := Lib.hid (HB.out.trans (hA.mono hz0))
  have hz1 := HSZ.out _ HB.out
  clear hA hz0
  go_wp2_with fail
  generalize wc.alloc (.cells #[.int .i64 cm, .int .i64 rn] 3) = we at HI HD HB hz1 ⊢
  refine (r21numbers_any _ 2 2 [cm, rn] _ we we.heap.size rfl rfl HI.out (Nat.le_refl _) (by decide)).mono ?_
  rintro e wb ⟨a1, n1, c1, rfl, hbo, hb⟩
  have hl1 := hbo.len
  rw [show ([cm, rn].flatMap (numB 8)).length = 16 by simp [numB_len]] at hl1
  subst hl1
  have HO1 := Lib.hid (hbo.le hz1)
  have HD := Lib.hid (HD.out.below hb (Nat.le_refl _))
  have HB := Lib.hid (HB.out.trans (hb.mono hz1))
  have hzb := HSZ.out _ HB.out
  clear hbo hb HI hz1
  clear d0 d1 d2 d3 d4 d5 d6 d7 d8 d9 d10 d11
  go_wp2_with (at_builtin; refine wpList_append_bo rfl (.tmp 36) (.tmp 42) rfl (w.heap.size + 1) rfl HD.out rfl HO1.out.len _ HO1.out.in HO1.out.nil (by omega) hzb ?_)
  intro a2 n2 c2 wd hown hg hn2
  have hst : OutAt (w.heap.size + 1) w1 ((([kd, fr, tt] ++ [tm, ix, ws].flatMap (numB 8)) ++ [obv]) ++ [cm, rn].flatMap (numB 8)) 44 (.slice a2 n2 c2) wd := ⟨a2, n2, c2, rfl, by omega, hown, HB.out.grown hg hzb (fun k hk => (HD.out.lt k hk).1)⟩
  clear hown hg HD HB HO1 hzb hn2 hn0
  have hn16 : n ≤ 16 := by have := HRN.out.2.2.2.2.2.2.2.2.1; simpa [HN.out] using this
  have hm7 : m ≤ 7 := by have := HRN.out.2.2.2.2.2.2.2.2.2.2; simpa [HM.out] using this
  obtain ⟨a0, n0, c0, hsl, hn0, hD, hB⟩ := hst
  cases hsl
  have HD := Lib.hid hD
  have HB := Lib.hid hB
  have hz0 := HSZ.out _ hB
  obtain ⟨d0, d1, d2, d3, d4, d5, d6, d7, d8, d9, d10, d11⟩ := HCL.out _ hB
  clear hD hB
  go_wp2_with fail
  refine (r21count_any n _ _ rfl (by omega)).mono ?_
  rintro e wb ⟨a1, n1, c1, rfl, hbo, hb⟩
  have hl1 := hbo.len
  rw [numB_len] at hl1
  subst hl1
  have HO1 := Lib.hid (hbo.le hz0)
  have HD := Lib.hid (HD.out.below hb (Nat.le_refl _))
  have HB := Lib.hid (HB.out.trans (hb.mono hz0))
  have hzb := HSZ.out _ HB.out
  clear hbo hb hz0
  clear d0 d1 d2 d3 d4 d5 d6 d7 d8 d9 d10 d11
  go_wp2_with (at_builtin; refine wpList_append_bo rfl (.tmp 44) (.tmp 48) rfl (w.heap.size + 1) rfl HD.out rfl HO1.out.len _ HO1.out.in HO1.out.nil (by omega) hzb ?_)
  intro a2 n2 c2 wd hown hg hn2
  have hst : OutAt (w.heap.size + 1) w1 (((([kd, fr, tt] ++ [tm, ix, ws].flatMap (numB 8)) ++ [obv]) ++ [cm, rn].flatMap (numB 8)) ++ numB 4 (n : Int)) 48 (.slice a2 n2 c2) wd := ⟨a2, n2, c2, rfl, by omega, hown, HB.out.grown hg hzb (fun k hk => (HD.out.lt k hk).1)⟩
  clear hown hg HD HB HO1 hzb hn2 hn0
  have HST := Lib.hid hst
  clear hst
  go_wp2_with fail
  go_loopw [4, 5] (fun v i wr => ∃ k : Nat, k ≤ n ∧ i = .int .i64 k ∧ OutAt (w.heap.size + 1) w1 ((((([kd, fr, tt] ++ [tm, ix, ws].flatMap (numB 8)) ++ [obv]) ++ [cm, rn].flatMap (numB 8)) ++ numB 4 (n : Int)) ++ (es.take k).flatMap (fun e => entryB e.plain)) (48 + k * 500000000) v wr) (fun _ i _ => n - (intOf i).toNat)
  case atStart => exact ⟨0, by omega, rfl, by rw [List.take_zero, List.flatMap_nil, List.append_nil]; exact HST.out⟩
  case round =>
    clear HST
    obtain ⟨k, hk, rfl, hst⟩ := hrel
    by_cases hlt : k < n
    · have i1 : (k : Int) < n := by omega
      obtain ⟨a0, n0, c0, hsl, hn0, hD, hB⟩ := hst
      subst hsl
      have HD := Lib.hid hD
      have HB := Lib.hid hB
      have hz0 := HSZ.out _ hB
      have d9 := (HCL.out _ hB).2.2.2.2.2.2.2.2.2.1
      have hkx : es[k]? = some (es[k]'(by rw [HN.out]; exact hlt)) := List.getElem?_eq_getElem _
      have htk : es.take (k + 1) = es.take k ++ [es[k]'(by rw [HN.out]; exact hlt)] := List.take_succ_eq_append_getElem _
      have hfx := HF.out.es _ (List.getElem_mem (l := es) (n := k) (by rw [HN.out]; exact hlt))
      have hBW := HWD.out _ hB
      obtain ⟨b, off, hao, hb, hc, hsub⟩ := (HX.out.below enSub_kept hBW (Nat.le_refl _)).at hkx
      generalize es[k]'(by rw [HN.out]; exact hlt) = x at hc hkx hfx hsub htk
      have hsub2 := enSub_rising _ _ _ _ hsub hBW.size
      obtain ⟨x0, x1, x2, x3, ck, text, ao, xs, ac, num, vo, us, vc2⟩ := x
      obtain ⟨L, hL⟩ : ∃ L, entryB ⟨x0, x1, x2, x3, ck, text, xs, num, us⟩ = L := ⟨_, rfl⟩
      have hLl : L.length ≤ 500000000 := by
        rw [← hL, entryB_len]
        have h1 := hfx.text
        have h2 := hfx.size
        have h3 := hfx.vn
        dsimp only at h1 h2 h3 ⊢
        omega
      have htk2 : (es.take (k + 1)).flatMap (fun e => entryB e.plain) = (es.take k).flatMap (fun e => entryB e.plain) ++ L := by
        rw [htk, List.flatMap_append, List.flatMap_singleton, ← hL]; rfl
      have hrg : wr.rangeAt b (off + k * 9) (enCells ⟨x0, x1, x2, x3, ck, text, ao, xs, ac, num, vo, us, vc2⟩) := fun j v hv => by
        have hj : j < 9 := by have := (List.getElem?_eq_some_iff.1 hv).1; rw [enCells_len] at this; exact this
        rw [← hv]
        exact hc j hj
      have HL := Lib.hid hL
      have HTK := Lib.hid htk2
      have HS2 := Lib.hid hsub2
      have hf1 := hfx.argt
      have hf2 := hfx.text
      have hf3 := hfx.args
      have hf4 := hfx.vn
      have HF1 := Lib.hid hf1
      dsimp only at hf2 hf3 hf4
      rw [hao] at d9
      clear hc hkx htk hfx hsub hsub2 hao hL htk2 hf1 hD hB hBW
      go_wp2_with (refine wpList_load_mid rfl 55 (.tmp 61) rfl b (off + k * 9) rfl (enCells ⟨x0, x1, x2, x3, ck, text, ao, xs, ac, num, vo, us, vc2⟩) _ hrg Tryz.underlying55 rfl (by rw [enCells_len]; exact info_en) ?_)
      refine (rEntry_any x0 x1 x2 x3 ck text ao xs.length ac num xs vo us.length vc2 us L wr HL.out rfl rfl HS2.out.1 HS2.out.2 (fun v hv => Nat.le_trans (HF1.out v hv) (by decide)) (by omega) (by omega) (by omega) (by omega)).mono ?_
      rintro e wb ⟨a1, n1, c1, rfl, hbo, hb⟩
      have hl1 := hbo.len
      have HO1 := Lib.hid (hbo.le hz0)
      have HD := Lib.hid (HD.out.below hb (Nat.le_refl _))
      have HB := Lib.hid (HB.out.trans (hb.mono hz0))
      have hzb := HSZ.out _ HB.out
      have hn1 : n1 ≤ 500000000 := by omega
      clear hbo hb hz0 hl1 d9 hrg
      go_wp2_with (at_builtin; refine wpList_append_bo rfl (.tmp 57) (.tmp 63) rfl (w.heap.size + 1) rfl HD.out rfl HO1.out.len _ HO1.out.in HO1.out.nil (by omega) hzb ?_)
      intro a2 n2 c2 wd hown hg hn2
      have hst : OutAt (w.heap.size + 1) w1 ((((([kd, fr, tt] ++ [tm, ix, ws].flatMap (numB 8)) ++ [obv]) ++ [cm, rn].flatMap (numB 8)) ++ numB 4 (n : Int)) ++ (es.take (k + 1)).flatMap (fun e => entryB e.plain)) (48 + (k + 1) * 500000000) (.slice a2 n2 c2) wd := ⟨a2, n2, c2, rfl, by omega, by rw [HTK.out]; simpa [List.append_assoc] using hown, HB.out.grown hg hzb (fun k hk => (HD.out.lt k hk).1)⟩
      have HST := Lib.hid hst
      clear hown hg hn2 hst HD HB HO1 hzb
      go_wp2_with fail
      go_roundw
      case rel => exact ⟨k + 1, by omega, by go_num, HST.out⟩
      case measure => simp [intOf] <;> omega
    · obtain rfl : k = n := by omega
      have i1 : ¬ (k : Int) < k := by omega
      rw [List.take_of_length_le (by rw [HN.out]; exact Nat.le_refl _)] at hst
      have i2 : ¬ (k : Int) < k := by omega
      obtain ⟨a0, n0, c0, hsl, hn0, hD, hB⟩ := hst
      subst hsl
      have HD := Lib.hid hD
      have HB := Lib.hid hB
      have hz0 := HSZ.out _ hB
      obtain ⟨d0, d1, d2, d3, d4, d5, d6, d7, d8, d9, d10, d11⟩ := HCL.out _ hB
      clear hD hB
      go_wp2_with fail
      refine (r21count_any m _ _ rfl (by omega)).mono ?_
      rintro e wb ⟨a1, n1, c1, rfl, hbo, hb⟩
      have hl1 := hbo.len
      rw [numB_len] at hl1
      subst hl1
      have HO1 := Lib.hid (hbo.le hz0)
      have HD := Lib.hid (HD.out.below hb (Nat.le_refl _))
      have HB := Lib.hid (HB.out.trans (hb.mono hz0))
      have hzb := HSZ.out _ HB.out
      clear hbo hb hz0
      clear d0 d1 d2 d3 d4 d5 d6 d7 d8 d9 d10 d11
      go_wp2_with (at_builtin; refine wpList_append_bo rfl (.tmp 65) (.tmp 69) rfl (w.heap.size + 1) rfl HD.out rfl HO1.out.len _ HO1.out.in HO1.out.nil (by omega) hzb ?_)
      intro a2 n2 c2 wd hown hg hn2
      have hst : OutAt (w.heap.size + 1) w1 (((((([kd, fr, tt] ++ [tm, ix, ws].flatMap (numB 8)) ++ [obv]) ++ [cm, rn].flatMap (numB 8)) ++ numB 4 (k : Int)) ++ es.flatMap (fun e => entryB e.plain)) ++ numB 4 (m : Int)) 8000000052 (.slice a2 n2 c2) wd := ⟨a2, n2, c2, rfl, by omega, hown, HB.out.grown hg hzb (fun k hk => (HD.out.lt k hk).1)⟩
      have HST := Lib.hid hst
      clear hown hg HD HB HO1 hzb hn2 hn0 hst
      go_wp2_with fail
      go_loopw [4, 6] (fun v i wr => ∃ j : Nat, j ≤ m ∧ i = .int .i64 j ∧ OutAt (w.heap.size + 1) w1 ((((((([kd, fr, tt] ++ [tm, ix, ws].flatMap (numB 8)) ++ [obv]) ++ [cm, rn].flatMap (numB 8)) ++ numB 4 (k : Int)) ++ es.flatMap (fun e => entryB e.plain)) ++ numB 4 (m : Int)) ++ vs.take j) (8000000052 + j) v wr) (fun _ i _ => m - (intOf i).toNat)
      case atStart => exact ⟨0, by omega, rfl, by rw [List.take_zero, List.append_nil]; exact HST.out⟩
      case round =>
        clear HST
        obtain ⟨j, hj, rfl, hst⟩ := hrel
        by_cases hlt : j < m
        · have i1 : (j : Int) < m := by omega
          obtain ⟨a0, n0, c0, hsl, hn0, hD, hB⟩ := hst
          subst hsl
          have hz0 := HSZ.out _ hB
          have d10 := (HCL.out _ hB).2.2.2.2.2.2.2.2.2.2.1
          have hkx : vs[j]? = some (vs[j]'(by rw [HM.out]; exact hlt)) := List.getElem?_eq_getElem _
          have htk : vs.take (j + 1) = vs.take j ++ [vs[j]'(by rw [HM.out]; exact hlt)] := List.take_succ_eq_append_getElem _
          have hv9 := HRN.out.2.2.2.2.2.2.2.2.2.1 _ (List.getElem_mem (l := vs) (n := j) (by rw [HM.out]; exact hlt))
          have hBW := HWD.out _ hB
          obtain ⟨b, off, hao, hb, hc, _⟩ := (HX2.out.below noSub_kept hBW (Nat.le_refl _)).at hkx
          generalize vs[j]'(by rw [HM.out]; exact hlt) = x at hc hkx hv9 htk
          have cx : wr.cell? ⟨b, off + j, none⟩ = some (.int .i64 x) := by
            have := hc 0 (by decide)
            rw [Nat.mul_one, Nat.add_zero] at this
            exact this
          have hxw : IntKind.u8.wrap x = x := IntWalk.u8_in _ (by omega)
          have hA := (Below.refl wr.heap.size wr).alloc (Nat.le_refl _) (.cells #[.int .u8 x] 5)
          have HA := Lib.hid (show BOwn (wr.alloc (.cells #[.int .u8 x] 5)) (w.heap.size + 1) (some ⟨wr.heap.size, 0, none⟩) 1 1 [x] from BOwn.le (BOwn.lit wr [x] (by simp)) hz0)
          have HD := Lib.hid (hD.below hA (Nat.le_refl _))
          have HB := Lib.hid (hB.trans (hA.mono hz0))
          have hzb := HSZ.out _ HB.out
          have HTK := Lib.hid htk
          rw [hao] at d10
          clear hc hkx htk hao hA hBW hD hB
          go_wp2_with (at_builtin; refine wpList_append_bo rfl (.tmp 78) (.tmp 85) rfl (w.heap.size + 1) rfl HD.out rfl HA.out.len _ HA.out.in HA.out.nil (by omega) hzb ?_)
          intro a2 n2 c2 wd hown hg hn2
          have hst : OutAt (w.heap.size + 1) w1 ((((((([kd, fr, tt] ++ [tm, ix, ws].flatMap (numB 8)) ++ [obv]) ++ [cm, rn].flatMap (numB 8)) ++ numB 4 (k : Int)) ++ es.flatMap (fun e => entryB e.plain)) ++ numB 4 (m : Int)) ++ vs.take (j + 1)) (8000000052 + (j + 1)) (.slice a2 n2 c2) wd := ⟨a2, n2, c2, rfl, by omega, by rw [HTK.out]; simpa [List.append_assoc] using hown, HB.out.grown hg hzb (fun k hk => (HD.out.lt k hk).1)⟩
          have HST := Lib.hid hst
          clear hown hg hn2 hst HD HB HA hzb d10 cx hxw
          go_wp2_with fail
          go_roundw
          case rel => exact ⟨j + 1, by omega, by go_num, HST.out⟩
          case measure => simp [intOf] <;> omega
        · obtain rfl : j = m := by omega
          have i3 : ¬ (j : Int) < j := by omega
          rw [List.take_of_length_le (by rw [HM.out]; exact Nat.le_refl _)] at hst
          obtain ⟨a0, n0, c0, hsl, hn0, hD, hB⟩ := hst
          subst hsl
          have HD := Lib.hid hD
          have HB := Lib.hid hB
          have hz0 := HSZ.out _ hB
          obtain ⟨d0, d1, d2, d3, d4, d5, d6, d7, d8, d9, d10, d11⟩ := HCL.out _ hB
          clear hD hB
          go_wp2_with fail
          refine (r21count_any q _ _ rfl (by omega)).mono ?_
          rintro e wb ⟨a1, n1, c1, rfl, hbo, hb⟩
          have hl1 := hbo.len
          rw [numB_len] at hl1
          subst hl1
          have HO1 := Lib.hid (hbo.le hz0)
          have HD := Lib.hid (HD.out.below hb (Nat.le_refl _))
          have HB := Lib.hid (HB.out.trans (hb.mono hz0))
          have hzb := HSZ.out _ HB.out
          clear hbo hb hz0
          clear d0 d1 d2 d3 d4 d5 d6 d7 d8 d9 d10 d11
          go_wp2_with (at_builtin; refine wpList_append_bo rfl (.tmp 87) (.tmp 91) rfl (w.heap.size + 1) rfl HD.out rfl HO1.out.len _ HO1.out.in HO1.out.nil (by omega) hzb ?_)
          intro a2 n2 c2 wd hown hg hn2
          have hn2b : n2 ≤ 9000000000 := by omega
          have hB2 := HB.out.grown hg hzb (fun k hk => (HD.out.lt k hk).1)
          have d11 := (HCL.out _ hB2).2.2.2.2.2.2.2.2.2.2.2
          have hfull : bytesL ⟨kd, fr, tt, tm, ix, ws, ob, cm, rn, es.map En.plain, vs, im⟩ = (((((((([kd, fr, tt] ++ [tm, ix, ws].flatMap (numB 8)) ++ [obv]) ++ [cm, rn].flatMap (numB 8)) ++ numB 4 (k : Int)) ++ es.flatMap (fun e => entryB e.plain)) ++ numB 4 (j : Int)) ++ vs) ++ numB 4 (q : Int)) ++ im := by
            have h1 := HOB.out
            unfold bytesL
            dsimp only
            rw [h1, List.length_map, HN.out, HM.out, HQ.out, List.flatMap_map]
            simp [List.append_assoc]
          have hlen : (bytesL ⟨kd, fr, tt, tm, ix, ws, ob, cm, rn, es.map En.plain, vs, im⟩).length = n2 + q := by
            have h1 := congrArg List.length hfull
            have h2 := hown.len
            have h3 := HQ.out
            generalize (bytesL ⟨kd, fr, tt, tm, ix, ws, ob, cm, rn, es.map En.plain, vs, im⟩).length = z at h1 ⊢
            simp at h1 h2
            omega
          have HLN := Lib.hid hlen
          have HFU := Lib.hid hfull
          have HOW := Lib.hid hown
          have HB3 := Lib.hid hB2
          have hzd := HSZ.out _ hB2
          clear hown hg HD HB HO1 hzb hn0 hn2 hlen hfull hB2
          by_cases hbig : 1048576 < n2 + q
          · have j1 : decide ((1048576 : Int) < (n2 : Int) + q) = true := decide_eq_true (by omega)
            have j2 : (1048576 : Int) < (n2 : Int) + q := by omega
            have hpp := HP.out
            unfold putL2 at hpp
            rw [if_neg (by rw [HGR.out]; decide), if_pos (by rw [HLN.out]; exact hbig)] at hpp
            simp only [Prod.mk.injEq] at hpp
            obtain ⟨rfl, rfl⟩ := hpp
            go_wp2_with fail
            go_ret2
            exact ⟨none, 0, rfl, Or.inl rfl, fun _ => rfl, Nat.le_refl _, (fun ad h => by cases h), HWD.out _ HB3.out⟩
          · have j1 : decide ((1048576 : Int) < (n2 : Int) + q) = false := decide_eq_false (by omega)
            have j2 : ¬ (1048576 : Int) < (n2 : Int) + q := by omega
            have hpp := HP.out
            unfold putL2 at hpp
            rw [if_neg (by rw [HGR.out]; decide), if_neg (by rw [HLN.out]; exact hbig)] at hpp
            simp only [Prod.mk.injEq] at hpp
            obtain ⟨hbs, rfl⟩ := hpp
            have HBS := Lib.hid hbs
            clear hbs
            go_wp2_with (at_builtin; refine wpList_append_bo rfl (.tmp 100) (.tmp 102) rfl (w.heap.size + 1) rfl HOW.out rfl HQ.out _ (HX3.out.below (HWD.out _ HB3.out) (Nat.le_refl _)) HF.out.inil (by omega) hzd ?_)
            intro a5 n5 c5 we hown hg hn5
            have hB5 := HB3.out.grown hg hzd (fun k hk => (HOW.out.lt k hk).1)
            have hn5b : bs.length = n5 := by rw [← HBS.out, HLN.out]; omega
            have howb : BOwn we (w.heap.size + 1) a5 n5 c5 bs := by rw [← HBS.out, HFU.out]; simpa [List.append_assoc] using hown
            have HOB2 := Lib.hid howb
            have HNB := Lib.hid hn5b
            have HB6 := Lib.hid hB5
            clear hown hg hn5 hB5 hn5b howb d11
            go_wp2_with fail
            have hh := HNB.out
            subst hh
            go_ret2
            exact ⟨a5, c5, rfl, HOB2.out.in, HOB2.out.nil, own_capG HOB2.out.row, (fun ad h => by subst h; have := (HOB2.out.lt ad.block rfl).1; omega), HWD.out _ HB6.out⟩
theorem rput21_any (l : Lt) (w : World) (hx : ltSub w w.heap.size l) (hf : LtFine l) (bs : List Int) (er : Int) (hp : putL2 l.plain = (bs, er)) :
    Calls Tryz.prog 14 #[ltVal l] w (PutAt bs er w) :=
  rput21_at l.kind l.fr l.tov l.term l.index l.was l.ok l.commit l.round l.eo l.es.length l.ecap l.vo l.vs.length l.vcap l.io l.im.length l.icap l.es l.vs l.im w rfl rfl rfl hx.1 hx.2.1 hx.2.2 hf hf.en hf.vn hf.ln bs er hp
end Go.Proofs.YtglgcjkglhlggaaGreatDoor
