/- Put of letter. Conditions: the letter's parts are not too great. -/
import Derived.Test.YthdpfchbomaigaaDoorGLetterOne10
import Derived.Deep.DeepCutAuto
set_option linter.unusedVariables false
set_option linter.unusedSimpArgs false
namespace Go.Proofs.YthdpfchbomaigaaDoor
open Go.RowKit
set_option maxRecDepth 20000
/-- What Put tells: bytes of its own, and the error. -/
def PutAt (bs : List Int) (er : Int) (w : World) (e : Ending) (w' : World) : Prop :=
  ∃ a c, e = .returned (.tuple #[.slice a bs.length c, .int .i64 er]) ∧ BytesIn w' w'.heap.size a bs ∧ (a = none → c = 0) ∧ bs.length ≤ c ∧ (∀ ad, a = some ad → w.heap.size ≤ ad.block) ∧ Below w.heap.size w w'
def PutAtX (bs : List Int) (er : Int) (w : World) (e : Ending) (w' : World) : Prop :=
  ∃ a c, e = .returned (.tuple #[.slice a bs.length c, .int .i64 er]) ∧ BytesIn w' w'.heap.size a bs ∧ (a = none → c = 0) ∧ bs.length ≤ c ∧ (∀ ad, a = some ad → w.heap.size ≤ ad.block) ∧ FreeRow w' w.heap.size a bs.length c bs ∧ (a = none ∨ 0 < bs.length) ∧ Below w.heap.size w w'
theorem FreeRow.le {w : World} {B B2 n c : Nat} {a : Option Addr} {xs : List Int} (h : FreeRow w B a n c xs) (hB : B2 ≤ B) : FreeRow w B2 a n c xs := by
  rcases h with h | ⟨g, h1, h2, h3⟩
  · exact Or.inl h
  · exact Or.inr ⟨g, h1, Nat.le_trans hB h2, h3⟩
theorem bytesL_pos (l : LtP) : 0 < (bytesL l).length := by
  rw [bytesL_head]
  simp only [List.length_append, headL_len]
  omega
set_option maxHeartbeats 8000000 in
theorem lput_x (l : Lt) (w : World) (hx : ltSub w w.heap.size l) (hf : LtFine l) (bs : List Int) (er : Int) (hp : putL2 l.plain = (bs, er)) :
    Calls Tryd.prog 7 #[ltVal l] w (PutAtX bs er w) := by
  have HLB := Lib.hid (fun h => hf.bytes h)
  have HP := Lib.hid hp
  have HX := Lib.hid hx
  have HFN := Lib.hid hf
  clear hx hf hp
  obtain ⟨PR, hPR⟩ := pair_of (rightL l.plain)
  have HPR := Lib.hid hPR
  clear hPR
  have HRT := Lib.hid (fun w' (h : ltSub w' w'.heap.size l) => lright_any l w' h HFN.out PR.1 HPR.out)
  obtain ⟨kd, f, t, tm, ix, ws, ok, cm, rd, eo, es, ec, vo, vs, vc, io, ib, ic⟩ := l
  obtain ⟨OK, hOK⟩ := pair_of ok
  subst hOK
  obtain ⟨en, hen⟩ : ∃ en, es.length = en := ⟨_, rfl⟩
  obtain ⟨vn, hvn⟩ : ∃ vn, vs.length = vn := ⟨_, rfl⟩
  obtain ⟨im, him⟩ : ∃ im, ib.length = im := ⟨_, rfl⟩
  have hval : ltVal ⟨kd, f, t, tm, ix, ws, OK.1, cm, rd, eo, es, ec, vo, vs, vc, io, ib, ic⟩ = .agg #[.int .u8 kd, .int .i64 f, .int .i64 t, .int .i64 tm, .int .i64 ix, .int .i64 ws, .bool OK.1, .int .i64 cm, .int .i64 rd, .slice eo en ec, .slice vo vn vc, .slice io im ic] := by rw [← hen, ← hvn, ← him]; rfl
  rw [hval]
  have hrt := HRT.out
  rw [hval] at hrt
  have HRT2 := Lib.hid hrt
  have HEN := Lib.hid hen
  have HVN := Lib.hid hvn
  have HIM := Lib.hid him
  have hbx := (Below.refl w.heap.size w).alloc (Nat.le_refl _) (.cells #[.int .u8 kd, .int .i64 f, .int .i64 t, .int .i64 tm, .int .i64 ix, .int .i64 ws, .bool OK.1, .int .i64 cm, .int .i64 rd, .slice eo en ec, .slice vo vn vc, .slice io im ic] 27)
  have hkx := heap_alloc_new w (.cells #[.int .u8 kd, .int .i64 f, .int .i64 t, .int .i64 tm, .int .i64 ix, .int .i64 ws, .bool OK.1, .int .i64 cm, .int .i64 rd, .slice eo en ec, .slice vo vn vc, .slice io im ic] 27)
  have hs0 : (w.alloc (.cells #[.int .u8 kd, .int .i64 f, .int .i64 t, .int .i64 tm, .int .i64 ix, .int .i64 ws, .bool OK.1, .int .i64 cm, .int .i64 rd, .slice eo en ec, .slice vo vn vc, .slice io im ic] 27)).heap.size = w.heap.size + 1 := by simp
  have HBX := Lib.hid hbx
  have HKX := Lib.hid hkx
  have HS0 := Lib.hid hs0
  clear hen hvn him hbx hkx hs0 hval hrt HRT
  go_enter Tryd.func7, Tryd.ntmps7
  go_wp2_with fail
  have hbx := HBX.out
  have hkx := HKX.out
  have hz0 : w.heap.size + 1 ≤ (w.alloc (.cells #[.int .u8 kd, .int .i64 f, .int .i64 t, .int .i64 tm, .int .i64 ix, .int .i64 ws, .bool OK.1, .int .i64 cm, .int .i64 rd, .slice eo en ec, .slice vo vn vc, .slice io im ic] 27)).heap.size := Nat.le_of_eq HS0.out.symm
  clear HBX HKX HS0
  generalize w.alloc (.cells #[.int .u8 kd, .int .i64 f, .int .i64 t, .int .i64 tm, .int .i64 ix, .int .i64 ws, .bool OK.1, .int .i64 cm, .int .i64 rd, .slice eo en ec, .slice vo vn vc, .slice io im ic] 27) = w0 at hbx hkx hz0 ⊢
  have HCC := Lib.hid (fun w' (h : Below (w.heap.size + 1) w0 w') (i : Nat) => (h.cell (p := ⟨w.heap.size, i, none⟩) (Nat.lt_succ_self _)).trans (Go.Joins.cell_of_block hkx i))
  refine (HRT2.out w0 (ltSub_mono (ltSub_below HX.out hbx (Nat.le_refl _)) (by omega))).mono ?_
  rintro e w1 ⟨rfl, hb1⟩
  have hbq := (Below.refl (w.heap.size + 1) w0).trans (hb1.mono hz0)
  have hsq := Nat.le_trans hz0 hb1.size
  clear hb1 hkx HRT2
  cases hpr : PR.1 with
  | false =>
    have hres := Lib.hid (show bs = [] ∧ er = 4 by
      have h1 := HP.out
      have h2 := HPR.out
      rw [hpr] at h2
      unfold putL2 at h1
      rw [if_pos h2] at h1
      simp only [Prod.mk.injEq] at h1
      exact ⟨h1.1.symm, h1.2.symm⟩)
    clear hpr
    go_wp2_with fail
    go_ret2
    obtain ⟨rfl, rfl⟩ := hres.out
    exact ⟨none, 0, rfl, Or.inl rfl, fun _ => rfl, Nat.le_refl _, (fun _ h => by cases h), FreeRow.nil, Or.inl rfl, hbx.trans (hbq.mono (Nat.le_succ _))⟩
  | true =>
  have HR := Lib.hid (show rightL (Lt.plain ⟨kd, f, t, tm, ix, ws, OK.1, cm, rd, eo, es, ec, vo, vs, vc, io, ib, ic⟩) = true by rw [HPR.out, hpr])
  clear hpr HPR
  have c6 : w1.cell? ⟨w.heap.size, 6, none⟩ = some (.bool OK.1) := HCC.out _ hbq 6
  go_upto_if 15 with fail
  obtain ⟨kb, hkb⟩ : ∃ kb : Int, (if OK.1 = true then 1 else 0) = kb := ⟨_, rfl⟩
  have HKB := Lib.hid hkb
  clear hkb
  go_cut [0, 4, 15] (fun _ v _ wq => v = .int .u8 kb ∧ w1 = wq)
  case first =>
    cases hok : OK.1 with
    | true =>
      rw [hok] at HKB
      clear hok
      go_wp2_with fail
      go_meet
      exact ⟨by rw [← HKB.out]; rfl, rfl⟩
    | false =>
      rw [hok] at HKB
      clear hok
      go_wp2_with fail
      go_meet
      exact ⟨by rw [← HKB.out]; rfl, rfl⟩
  case rest =>
  obtain ⟨rfl, rfl⟩ := hcut
  have HD := Lib.hid (show ∀ w', Below (w.heap.size + 1) w0 w' → w'.cell? ⟨w.heap.size, 0, none⟩ = some (.int .u8 kd) ∧ w'.cell? ⟨w.heap.size, 1, none⟩ = some (.int .i64 f) ∧ w'.cell? ⟨w.heap.size, 2, none⟩ = some (.int .i64 t) ∧ w'.cell? ⟨w.heap.size, 3, none⟩ = some (.int .i64 tm) ∧ w'.cell? ⟨w.heap.size, 4, none⟩ = some (.int .i64 ix) ∧ w'.cell? ⟨w.heap.size, 5, none⟩ = some (.int .i64 ws) ∧ w'.cell? ⟨w.heap.size, 6, none⟩ = some (.bool OK.1) ∧ w'.cell? ⟨w.heap.size, 7, none⟩ = some (.int .i64 cm) ∧ w'.cell? ⟨w.heap.size, 8, none⟩ = some (.int .i64 rd) ∧ w'.cell? ⟨w.heap.size, 9, none⟩ = some (.slice eo en ec) ∧ w'.cell? ⟨w.heap.size, 10, none⟩ = some (.slice vo vn vc) ∧ w'.cell? ⟨w.heap.size, 11, none⟩ = some (.slice io im ic) from fun w' h => ⟨HCC.out w' h 0, HCC.out w' h 1, HCC.out w' h 2, HCC.out w' h 3, HCC.out w' h 4, HCC.out w' h 5, HCC.out w' h 6, HCC.out w' h 7, HCC.out w' h 8, HCC.out w' h 9, HCC.out w' h 10, HCC.out w' h 11⟩)
  have HBQ := Lib.hid hbq
  clear c6 HCC hbq
  go_wp2_with fail
  refine heldS_begin (fun w' => Below (w.heap.size + 1) w0 w') (by kernel_rfl) (Below.drew HBQ.out) ?_
  intro hS0
  (first | (refine takeS_no 0 rfl (by kernel_rfl) (by kernel_rfl) (by kernel_rfl) (fun _ _ _ h => h) (by rfl) (by assumption) ?_) | (refine takeS_yes (v := ?_) 0 rfl (by kernel_rfl) (by kernel_rfl) (by kernel_rfl) (fun _ _ _ h => h) (by rfl) (by assumption) ?_ ?_; rotate_left; focus (intro wS hSw; obtain ⟨d0, d1, d2, d3, d4, d5, d6, d7, d8, d9, d10, d11⟩ := HD.out wS hSw; go_simp; first | done | with_reducible rfl)))
  (try simp only [Act.put, List.setIfInBounds_toArray, List.set_cons_zero, List.set_cons_succ])
  (first | (refine takeS_no 1 rfl (by kernel_rfl) (by kernel_rfl) (by kernel_rfl) (fun _ _ _ h => h) (by rfl) (by assumption) ?_) | (refine takeS_yes (v := ?_) 1 rfl (by kernel_rfl) (by kernel_rfl) (by kernel_rfl) (fun _ _ _ h => h) (by rfl) (by assumption) ?_ ?_; rotate_left; focus (intro wS hSw; obtain ⟨d0, d1, d2, d3, d4, d5, d6, d7, d8, d9, d10, d11⟩ := HD.out wS hSw; go_simp; first | done | with_reducible rfl)))
  (try simp only [Act.put, List.setIfInBounds_toArray, List.set_cons_zero, List.set_cons_succ])
  (first | (refine takeS_no 2 rfl (by kernel_rfl) (by kernel_rfl) (by kernel_rfl) (fun _ _ _ h => h) (by rfl) (by assumption) ?_) | (refine takeS_yes (v := ?_) 2 rfl (by kernel_rfl) (by kernel_rfl) (by kernel_rfl) (fun _ _ _ h => h) (by rfl) (by assumption) ?_ ?_; rotate_left; focus (intro wS hSw; obtain ⟨d0, d1, d2, d3, d4, d5, d6, d7, d8, d9, d10, d11⟩ := HD.out wS hSw; go_simp; first | done | with_reducible rfl)))
  (try simp only [Act.put, List.setIfInBounds_toArray, List.set_cons_zero, List.set_cons_succ])
  (first | (refine takeS_no 3 rfl (by kernel_rfl) (by kernel_rfl) (by kernel_rfl) (fun _ _ _ h => h) (by rfl) (by assumption) ?_) | (refine takeS_yes (v := ?_) 3 rfl (by kernel_rfl) (by kernel_rfl) (by kernel_rfl) (fun _ _ _ h => h) (by rfl) (by assumption) ?_ ?_; rotate_left; focus (intro wS hSw; obtain ⟨d0, d1, d2, d3, d4, d5, d6, d7, d8, d9, d10, d11⟩ := HD.out wS hSw; go_simp; first | done | with_reducible rfl)))
  (try simp only [Act.put, List.setIfInBounds_toArray, List.set_cons_zero, List.set_cons_succ])
  (first | (refine takeS_no 4 rfl (by kernel_rfl) (by kernel_rfl) (by kernel_rfl) (fun _ _ _ h => h) (by rfl) (by assumption) ?_) | (refine takeS_yes (v := ?_) 4 rfl (by kernel_rfl) (by kernel_rfl) (by kernel_rfl) (fun _ _ _ h => h) (by rfl) (by assumption) ?_ ?_; rotate_left; focus (intro wS hSw; obtain ⟨d0, d1, d2, d3, d4, d5, d6, d7, d8, d9, d10, d11⟩ := HD.out wS hSw; go_simp; first | done | with_reducible rfl)))
  (try simp only [Act.put, List.setIfInBounds_toArray, List.set_cons_zero, List.set_cons_succ])
  (first | (refine takeS_no 5 rfl (by kernel_rfl) (by kernel_rfl) (by kernel_rfl) (fun _ _ _ h => h) (by rfl) (by assumption) ?_) | (refine takeS_yes (v := ?_) 5 rfl (by kernel_rfl) (by kernel_rfl) (by kernel_rfl) (fun _ _ _ h => h) (by rfl) (by assumption) ?_ ?_; rotate_left; focus (intro wS hSw; obtain ⟨d0, d1, d2, d3, d4, d5, d6, d7, d8, d9, d10, d11⟩ := HD.out wS hSw; go_simp; first | done | with_reducible rfl)))
  (try simp only [Act.put, List.setIfInBounds_toArray, List.set_cons_zero, List.set_cons_succ])
  (first | (refine takeS_no 6 rfl (by kernel_rfl) (by kernel_rfl) (by kernel_rfl) (fun _ _ _ h => h) (by rfl) (by assumption) ?_) | (refine takeS_yes (v := ?_) 6 rfl (by kernel_rfl) (by kernel_rfl) (by kernel_rfl) (fun _ _ _ h => h) (by rfl) (by assumption) ?_ ?_; rotate_left; focus (intro wS hSw; obtain ⟨d0, d1, d2, d3, d4, d5, d6, d7, d8, d9, d10, d11⟩ := HD.out wS hSw; go_simp; first | done | with_reducible rfl)))
  (try simp only [Act.put, List.setIfInBounds_toArray, List.set_cons_zero, List.set_cons_succ])
  (first | (refine takeS_no 7 rfl (by kernel_rfl) (by kernel_rfl) (by kernel_rfl) (fun _ _ _ h => h) (by rfl) (by assumption) ?_) | (refine takeS_yes (v := ?_) 7 rfl (by kernel_rfl) (by kernel_rfl) (by kernel_rfl) (fun _ _ _ h => h) (by rfl) (by assumption) ?_ ?_; rotate_left; focus (intro wS hSw; obtain ⟨d0, d1, d2, d3, d4, d5, d6, d7, d8, d9, d10, d11⟩ := HD.out wS hSw; go_simp; first | done | with_reducible rfl)))
  (try simp only [Act.put, List.setIfInBounds_toArray, List.set_cons_zero, List.set_cons_succ])
  (first | (refine takeS_no 9 rfl (by kernel_rfl) (by kernel_rfl) (by kernel_rfl) (fun _ _ _ h => h) (by rfl) (by assumption) ?_) | (refine takeS_yes (v := ?_) 9 rfl (by kernel_rfl) (by kernel_rfl) (by kernel_rfl) (fun _ _ _ h => h) (by rfl) (by assumption) ?_ ?_; rotate_left; focus (intro wS hSw; obtain ⟨d0, d1, d2, d3, d4, d5, d6, d7, d8, d9, d10, d11⟩ := HD.out wS hSw; go_simp; first | done | with_reducible rfl)))
  (try simp only [Act.put, List.setIfInBounds_toArray, List.set_cons_zero, List.set_cons_succ])
  (first | (refine takeS_no 10 rfl (by kernel_rfl) (by kernel_rfl) (by kernel_rfl) (fun _ _ _ h => h) (by rfl) (by assumption) ?_) | (refine takeS_yes (v := ?_) 10 rfl (by kernel_rfl) (by kernel_rfl) (by kernel_rfl) (fun _ _ _ h => h) (by rfl) (by assumption) ?_ ?_; rotate_left; focus (intro wS hSw; obtain ⟨d0, d1, d2, d3, d4, d5, d6, d7, d8, d9, d10, d11⟩ := HD.out wS hSw; go_simp; first | done | with_reducible rfl)))
  (try simp only [Act.put, List.setIfInBounds_toArray, List.set_cons_zero, List.set_cons_succ])
  (first | (refine takeS_no 11 rfl (by kernel_rfl) (by kernel_rfl) (by kernel_rfl) (fun _ _ _ h => h) (by rfl) (by assumption) ?_) | (refine takeS_yes (v := ?_) 11 rfl (by kernel_rfl) (by kernel_rfl) (by kernel_rfl) (fun _ _ _ h => h) (by rfl) (by assumption) ?_ ?_; rotate_left; focus (intro wS hSw; obtain ⟨d0, d1, d2, d3, d4, d5, d6, d7, d8, d9, d10, d11⟩ := HD.out wS hSw; go_simp; first | done | with_reducible rfl)))
  (try simp only [Act.put, List.setIfInBounds_toArray, List.set_cons_zero, List.set_cons_succ])
  (first | (refine takeS_no 12 rfl (by kernel_rfl) (by kernel_rfl) (by kernel_rfl) (fun _ _ _ h => h) (by rfl) (by assumption) ?_) | (refine takeS_yes (v := ?_) 12 rfl (by kernel_rfl) (by kernel_rfl) (by kernel_rfl) (fun _ _ _ h => h) (by rfl) (by assumption) ?_ ?_; rotate_left; focus (intro wS hSw; obtain ⟨d0, d1, d2, d3, d4, d5, d6, d7, d8, d9, d10, d11⟩ := HD.out wS hSw; go_simp; first | done | with_reducible rfl)))
  (try simp only [Act.put, List.setIfInBounds_toArray, List.set_cons_zero, List.set_cons_succ])
  (first | (refine takeS_no 13 rfl (by kernel_rfl) (by kernel_rfl) (by kernel_rfl) (fun _ _ _ h => h) (by rfl) (by assumption) ?_) | (refine takeS_yes (v := ?_) 13 rfl (by kernel_rfl) (by kernel_rfl) (by kernel_rfl) (fun _ _ _ h => h) (by rfl) (by assumption) ?_ ?_; rotate_left; focus (intro wS hSw; obtain ⟨d0, d1, d2, d3, d4, d5, d6, d7, d8, d9, d10, d11⟩ := HD.out wS hSw; go_simp; first | done | with_reducible rfl)))
  (try simp only [Act.put, List.setIfInBounds_toArray, List.set_cons_zero, List.set_cons_succ])
  (first | (refine takeS_no 14 rfl (by kernel_rfl) (by kernel_rfl) (by kernel_rfl) (fun _ _ _ h => h) (by rfl) (by assumption) ?_) | (refine takeS_yes (v := ?_) 14 rfl (by kernel_rfl) (by kernel_rfl) (by kernel_rfl) (fun _ _ _ h => h) (by rfl) (by assumption) ?_ ?_; rotate_left; focus (intro wS hSw; obtain ⟨d0, d1, d2, d3, d4, d5, d6, d7, d8, d9, d10, d11⟩ := HD.out wS hSw; go_simp; first | done | with_reducible rfl)))
  (try simp only [Act.put, List.setIfInBounds_toArray, List.set_cons_zero, List.set_cons_succ])
  (first | (refine takeS_no 17 rfl (by kernel_rfl) (by kernel_rfl) (by kernel_rfl) (fun _ _ _ h => h) (by rfl) (by assumption) ?_) | (refine takeS_yes (v := ?_) 17 rfl (by kernel_rfl) (by kernel_rfl) (by kernel_rfl) (fun _ _ _ h => h) (by rfl) (by assumption) ?_ ?_; rotate_left; focus (intro wS hSw; obtain ⟨d0, d1, d2, d3, d4, d5, d6, d7, d8, d9, d10, d11⟩ := HD.out wS hSw; go_simp; first | done | with_reducible rfl)))
  (try simp only [Act.put, List.setIfInBounds_toArray, List.set_cons_zero, List.set_cons_succ])
  (first | (refine takeS_no 19 rfl (by kernel_rfl) (by kernel_rfl) (by kernel_rfl) (fun _ _ _ h => h) (by rfl) (by assumption) ?_) | (refine takeS_yes (v := ?_) 19 rfl (by kernel_rfl) (by kernel_rfl) (by kernel_rfl) (fun _ _ _ h => h) (by rfl) (by assumption) ?_ ?_; rotate_left; focus (intro wS hSw; obtain ⟨d0, d1, d2, d3, d4, d5, d6, d7, d8, d9, d10, d11⟩ := HD.out wS hSw; go_simp; first | done | with_reducible rfl)))
  (try simp only [Act.put, List.setIfInBounds_toArray, List.set_cons_zero, List.set_cons_succ])
  (first | (refine takeS_no 20 rfl (by kernel_rfl) (by kernel_rfl) (by kernel_rfl) (fun _ _ _ h => h) (by rfl) (by assumption) ?_) | (refine takeS_yes (v := ?_) 20 rfl (by kernel_rfl) (by kernel_rfl) (by kernel_rfl) (fun _ _ _ h => h) (by rfl) (by assumption) ?_ ?_; rotate_left; focus (intro wS hSw; obtain ⟨d0, d1, d2, d3, d4, d5, d6, d7, d8, d9, d10, d11⟩ := HD.out wS hSw; go_simp; first | done | with_reducible rfl)))
  (try simp only [Act.put, List.setIfInBounds_toArray, List.set_cons_zero, List.set_cons_succ])
  (first | (refine takeS_no 21 rfl (by kernel_rfl) (by kernel_rfl) (by kernel_rfl) (fun _ _ _ h => h) (by rfl) (by assumption) ?_) | (refine takeS_yes (v := ?_) 21 rfl (by kernel_rfl) (by kernel_rfl) (by kernel_rfl) (fun _ _ _ h => h) (by rfl) (by assumption) ?_ ?_; rotate_left; focus (intro wS hSw; obtain ⟨d0, d1, d2, d3, d4, d5, d6, d7, d8, d9, d10, d11⟩ := HD.out wS hSw; go_simp; first | done | with_reducible rfl)))
  (try simp only [Act.put, List.setIfInBounds_toArray, List.set_cons_zero, List.set_cons_succ])
  (first | (refine takeS_no 22 rfl (by kernel_rfl) (by kernel_rfl) (by kernel_rfl) (fun _ _ _ h => h) (by rfl) (by assumption) ?_) | (refine takeS_yes (v := ?_) 22 rfl (by kernel_rfl) (by kernel_rfl) (by kernel_rfl) (fun _ _ _ h => h) (by rfl) (by assumption) ?_ ?_; rotate_left; focus (intro wS hSw; obtain ⟨d0, d1, d2, d3, d4, d5, d6, d7, d8, d9, d10, d11⟩ := HD.out wS hSw; go_simp; first | done | with_reducible rfl)))
  (try simp only [Act.put, List.setIfInBounds_toArray, List.set_cons_zero, List.set_cons_succ])
  (first | (refine takeS_no 25 rfl (by kernel_rfl) (by kernel_rfl) (by kernel_rfl) (fun _ _ _ h => h) (by rfl) (by assumption) ?_) | (refine takeS_yes (v := ?_) 25 rfl (by kernel_rfl) (by kernel_rfl) (by kernel_rfl) (fun _ _ _ h => h) (by rfl) (by assumption) ?_ ?_; rotate_left; focus (intro wS hSw; obtain ⟨d0, d1, d2, d3, d4, d5, d6, d7, d8, d9, d10, d11⟩ := HD.out wS hSw; go_simp; first | done | with_reducible rfl)))
  (try simp only [Act.put, List.setIfInBounds_toArray, List.set_cons_zero, List.set_cons_succ])
  (first | (refine takeS_no 26 rfl (by kernel_rfl) (by kernel_rfl) (by kernel_rfl) (fun _ _ _ h => h) (by rfl) (by assumption) ?_) | (refine takeS_yes (v := ?_) 26 rfl (by kernel_rfl) (by kernel_rfl) (by kernel_rfl) (fun _ _ _ h => h) (by rfl) (by assumption) ?_ ?_; rotate_left; focus (intro wS hSw; obtain ⟨d0, d1, d2, d3, d4, d5, d6, d7, d8, d9, d10, d11⟩ := HD.out wS hSw; go_simp; first | done | with_reducible rfl)))
  (try simp only [Act.put, List.setIfInBounds_toArray, List.set_cons_zero, List.set_cons_succ])
  (first | (refine takeS_no 27 rfl (by kernel_rfl) (by kernel_rfl) (by kernel_rfl) (fun _ _ _ h => h) (by rfl) (by assumption) ?_) | (refine takeS_yes (v := ?_) 27 rfl (by kernel_rfl) (by kernel_rfl) (by kernel_rfl) (fun _ _ _ h => h) (by rfl) (by assumption) ?_ ?_; rotate_left; focus (intro wS hSw; obtain ⟨d0, d1, d2, d3, d4, d5, d6, d7, d8, d9, d10, d11⟩ := HD.out wS hSw; go_simp; first | done | with_reducible rfl)))
  (try simp only [Act.put, List.setIfInBounds_toArray, List.set_cons_zero, List.set_cons_succ])
  obtain ⟨pp, hpp⟩ : ∃ pp : Pf, pp = ⟨w.heap.size, u0, u11, u12, u13, u14, u15, u45, u46, kb, kd, f, t, tm, ix, ws, cm, rd, eo, en, ec, [undef, undef, undef, u50, u51, u52, u53, u54, u55, u56, u57, u58, u59, u60, u61, u62, u63, u64, u65, u66, undef, undef, undef, u70, u71, u72, u73, u74, u75, u76, u77, u78, u79, u80, u81, u82, u83, u84, u85, u86, u87, u88, u89, u90, u91, u92, u93, u94]⟩ := ⟨_, rfl⟩
  have hst : StP pp w0 7 (lstP 0 false false false false) (frP pp u24 u31 u32 u34 u39 u40 u44) w1.drew :=
    ⟨0, false, false, false, false, u24, u31, u32, u34, u39, u40, u44, rfl, rfl, by omega, rfl, ⟨by rw [hpp]; exact hS0, by rw [hpp]; simpa using hsq, fun h => absurd h (by omega), fun h => absurd h (by omega), fun h => (by cases h), fun h => (by cases h), fun h => (by cases h), fun h => (by cases h), fun h => absurd h (by omega), fun h => absurd h (by omega), fun h => absurd h (by omega)⟩⟩
  have hen2 : pp.en ≤ 2000000000 := by have h := HFN.out.en; rw [hpp]; dsimp only at h ⊢; rw [← HEN.out]; omega
  refine weave_at (StP pp w0) 2 7 (lstP 0 false false false false) (frP pp u24 u31 u32 u34 u39 u40 u44) (by kernel_rfl) (by rw [hpp]; rfl) hst ?_ ?_ ?_
  · rintro n listed a w' ⟨c, y8, y15, y18, y23, v24, v31, v32, v34, v39, v40, v44, rfl, rfl, hc, hn, h⟩
    clear hst hS0
    obtain rfl | rfl | rfl | rfl : c = 0 ∨ c = 1 ∨ c = 2 ∨ c = 3 := by omega
    · cases y8 <;> cases y15 <;> cases y18 <;> cases y23
      · refine ⟨[8, 15, 18, 23], by kernel_rfl, by simp, fun i hi => ?_⟩
        simp only [List.mem_cons, List.not_mem_nil, or_false] at hi
        rcases hi with rfl | rfl | rfl | rfl
        · exact ⟨_, rfl, rfl, fun K' hK => pw_op8 h (fun x w' h' => hK _ _ ⟨0, true, false, false, false, x, v31, v32, v34, v39, v40, v44, by kernel_rfl, rfl, by omega, Nat.add_right_cancel (m := 1) hn, h'⟩)⟩
        · exact ⟨_, rfl, rfl, fun K' hK => pw_op15 h (fun x w' h' => hK _ _ ⟨0, false, true, false, false, v24, x, v32, v34, v39, v40, v44, by kernel_rfl, rfl, by omega, Nat.add_right_cancel (m := 1) hn, h'⟩)⟩
        · exact ⟨_, rfl, rfl, fun K' hK => pw_op18 h (fun x w' h' => hK _ _ ⟨0, false, false, true, false, v24, v31, v32, x, v39, v40, v44, by kernel_rfl, rfl, by omega, Nat.add_right_cancel (m := 1) hn, h'⟩)⟩
        · exact ⟨_, rfl, rfl, fun K' hK => pw_op23 h (fun x w' h' => hK _ _ ⟨0, false, false, false, true, v24, v31, v32, v34, x, v40, v44, by kernel_rfl, rfl, by omega, Nat.add_right_cancel (m := 1) hn, h'⟩)⟩
      · refine ⟨[8, 15, 18], by kernel_rfl, by simp, fun i hi => ?_⟩
        simp only [List.mem_cons, List.not_mem_nil, or_false] at hi
        rcases hi with rfl | rfl | rfl
        · exact ⟨_, rfl, rfl, fun K' hK => pw_op8 h (fun x w' h' => hK _ _ ⟨0, true, false, false, true, x, v31, v32, v34, v39, v40, v44, by kernel_rfl, rfl, by omega, Nat.add_right_cancel (m := 1) hn, h'⟩)⟩
        · exact ⟨_, rfl, rfl, fun K' hK => pw_op15 h (fun x w' h' => hK _ _ ⟨0, false, true, false, true, v24, x, v32, v34, v39, v40, v44, by kernel_rfl, rfl, by omega, Nat.add_right_cancel (m := 1) hn, h'⟩)⟩
        · exact ⟨_, rfl, rfl, fun K' hK => pw_op18 h (fun x w' h' => hK _ _ ⟨0, false, false, true, true, v24, v31, v32, x, v39, v40, v44, by kernel_rfl, rfl, by omega, Nat.add_right_cancel (m := 1) hn, h'⟩)⟩
      · refine ⟨[8, 15, 23], by kernel_rfl, by simp, fun i hi => ?_⟩
        simp only [List.mem_cons, List.not_mem_nil, or_false] at hi
        rcases hi with rfl | rfl | rfl
        · exact ⟨_, rfl, rfl, fun K' hK => pw_op8 h (fun x w' h' => hK _ _ ⟨0, true, false, true, false, x, v31, v32, v34, v39, v40, v44, by kernel_rfl, rfl, by omega, Nat.add_right_cancel (m := 1) hn, h'⟩)⟩
        · exact ⟨_, rfl, rfl, fun K' hK => pw_op15 h (fun x w' h' => hK _ _ ⟨0, false, true, true, false, v24, x, v32, v34, v39, v40, v44, by kernel_rfl, rfl, by omega, Nat.add_right_cancel (m := 1) hn, h'⟩)⟩
        · exact ⟨_, rfl, rfl, fun K' hK => pw_op23 h (fun x w' h' => hK _ _ ⟨0, false, false, true, true, v24, v31, v32, v34, x, v40, v44, by kernel_rfl, rfl, by omega, Nat.add_right_cancel (m := 1) hn, h'⟩)⟩
      · refine ⟨[8, 15], by kernel_rfl, by simp, fun i hi => ?_⟩
        simp only [List.mem_cons, List.not_mem_nil, or_false] at hi
        rcases hi with rfl | rfl
        · exact ⟨_, rfl, rfl, fun K' hK => pw_op8 h (fun x w' h' => hK _ _ ⟨0, true, false, true, true, x, v31, v32, v34, v39, v40, v44, by kernel_rfl, rfl, by omega, Nat.add_right_cancel (m := 1) hn, h'⟩)⟩
        · exact ⟨_, rfl, rfl, fun K' hK => pw_op15 h (fun x w' h' => hK _ _ ⟨0, false, true, true, true, v24, x, v32, v34, v39, v40, v44, by kernel_rfl, rfl, by omega, Nat.add_right_cancel (m := 1) hn, h'⟩)⟩
      · refine ⟨[8, 16, 18, 23], by kernel_rfl, by simp, fun i hi => ?_⟩
        simp only [List.mem_cons, List.not_mem_nil, or_false] at hi
        rcases hi with rfl | rfl | rfl | rfl
        · exact ⟨_, rfl, rfl, fun K' hK => pw_op8 h (fun x w' h' => hK _ _ ⟨0, true, true, false, false, x, v31, v32, v34, v39, v40, v44, by kernel_rfl, rfl, by omega, Nat.add_right_cancel (m := 1) hn, h'⟩)⟩
        · exact ⟨_, rfl, rfl, fun K' hK => pw_op16 h (fun x w' h' => hK _ _ ⟨1, false, true, false, false, v24, v31, x, v34, v39, v40, v44, by kernel_rfl, rfl, by omega, Nat.add_right_cancel (m := 1) hn, h'⟩)⟩
        · exact ⟨_, rfl, rfl, fun K' hK => pw_op18 h (fun x w' h' => hK _ _ ⟨0, false, true, true, false, v24, v31, v32, x, v39, v40, v44, by kernel_rfl, rfl, by omega, Nat.add_right_cancel (m := 1) hn, h'⟩)⟩
        · exact ⟨_, rfl, rfl, fun K' hK => pw_op23 h (fun x w' h' => hK _ _ ⟨0, false, true, false, true, v24, v31, v32, v34, x, v40, v44, by kernel_rfl, rfl, by omega, Nat.add_right_cancel (m := 1) hn, h'⟩)⟩
      · refine ⟨[8, 16, 18], by kernel_rfl, by simp, fun i hi => ?_⟩
        simp only [List.mem_cons, List.not_mem_nil, or_false] at hi
        rcases hi with rfl | rfl | rfl
        · exact ⟨_, rfl, rfl, fun K' hK => pw_op8 h (fun x w' h' => hK _ _ ⟨0, true, true, false, true, x, v31, v32, v34, v39, v40, v44, by kernel_rfl, rfl, by omega, Nat.add_right_cancel (m := 1) hn, h'⟩)⟩
        · exact ⟨_, rfl, rfl, fun K' hK => pw_op16 h (fun x w' h' => hK _ _ ⟨1, false, true, false, true, v24, v31, x, v34, v39, v40, v44, by kernel_rfl, rfl, by omega, Nat.add_right_cancel (m := 1) hn, h'⟩)⟩
        · exact ⟨_, rfl, rfl, fun K' hK => pw_op18 h (fun x w' h' => hK _ _ ⟨0, false, true, true, true, v24, v31, v32, x, v39, v40, v44, by kernel_rfl, rfl, by omega, Nat.add_right_cancel (m := 1) hn, h'⟩)⟩
      · refine ⟨[8, 16, 23], by kernel_rfl, by simp, fun i hi => ?_⟩
        simp only [List.mem_cons, List.not_mem_nil, or_false] at hi
        rcases hi with rfl | rfl | rfl
        · exact ⟨_, rfl, rfl, fun K' hK => pw_op8 h (fun x w' h' => hK _ _ ⟨0, true, true, true, false, x, v31, v32, v34, v39, v40, v44, by kernel_rfl, rfl, by omega, Nat.add_right_cancel (m := 1) hn, h'⟩)⟩
        · exact ⟨_, rfl, rfl, fun K' hK => pw_op16 h (fun x w' h' => hK _ _ ⟨1, false, true, true, false, v24, v31, x, v34, v39, v40, v44, by kernel_rfl, rfl, by omega, Nat.add_right_cancel (m := 1) hn, h'⟩)⟩
        · exact ⟨_, rfl, rfl, fun K' hK => pw_op23 h (fun x w' h' => hK _ _ ⟨0, false, true, true, true, v24, v31, v32, v34, x, v40, v44, by kernel_rfl, rfl, by omega, Nat.add_right_cancel (m := 1) hn, h'⟩)⟩
      · refine ⟨[8, 16], by kernel_rfl, by simp, fun i hi => ?_⟩
        simp only [List.mem_cons, List.not_mem_nil, or_false] at hi
        rcases hi with rfl | rfl
        · exact ⟨_, rfl, rfl, fun K' hK => pw_op8 h (fun x w' h' => hK _ _ ⟨0, true, true, true, true, x, v31, v32, v34, v39, v40, v44, by kernel_rfl, rfl, by omega, Nat.add_right_cancel (m := 1) hn, h'⟩)⟩
        · exact ⟨_, rfl, rfl, fun K' hK => pw_op16 h (fun x w' h' => hK _ _ ⟨1, false, true, true, true, v24, v31, x, v34, v39, v40, v44, by kernel_rfl, rfl, by omega, Nat.add_right_cancel (m := 1) hn, h'⟩)⟩
      · refine ⟨[15, 18, 23], by kernel_rfl, by simp, fun i hi => ?_⟩
        simp only [List.mem_cons, List.not_mem_nil, or_false] at hi
        rcases hi with rfl | rfl | rfl
        · exact ⟨_, rfl, rfl, fun K' hK => pw_op15 h (fun x w' h' => hK _ _ ⟨0, true, true, false, false, v24, x, v32, v34, v39, v40, v44, by kernel_rfl, rfl, by omega, Nat.add_right_cancel (m := 1) hn, h'⟩)⟩
        · exact ⟨_, rfl, rfl, fun K' hK => pw_op18 h (fun x w' h' => hK _ _ ⟨0, true, false, true, false, v24, v31, v32, x, v39, v40, v44, by kernel_rfl, rfl, by omega, Nat.add_right_cancel (m := 1) hn, h'⟩)⟩
        · exact ⟨_, rfl, rfl, fun K' hK => pw_op23 h (fun x w' h' => hK _ _ ⟨0, true, false, false, true, v24, v31, v32, v34, x, v40, v44, by kernel_rfl, rfl, by omega, Nat.add_right_cancel (m := 1) hn, h'⟩)⟩
      · refine ⟨[15, 18], by kernel_rfl, by simp, fun i hi => ?_⟩
        simp only [List.mem_cons, List.not_mem_nil, or_false] at hi
        rcases hi with rfl | rfl
        · exact ⟨_, rfl, rfl, fun K' hK => pw_op15 h (fun x w' h' => hK _ _ ⟨0, true, true, false, true, v24, x, v32, v34, v39, v40, v44, by kernel_rfl, rfl, by omega, Nat.add_right_cancel (m := 1) hn, h'⟩)⟩
        · exact ⟨_, rfl, rfl, fun K' hK => pw_op18 h (fun x w' h' => hK _ _ ⟨0, true, false, true, true, v24, v31, v32, x, v39, v40, v44, by kernel_rfl, rfl, by omega, Nat.add_right_cancel (m := 1) hn, h'⟩)⟩
      · refine ⟨[15, 23], by kernel_rfl, by simp, fun i hi => ?_⟩
        simp only [List.mem_cons, List.not_mem_nil, or_false] at hi
        rcases hi with rfl | rfl
        · exact ⟨_, rfl, rfl, fun K' hK => pw_op15 h (fun x w' h' => hK _ _ ⟨0, true, true, true, false, v24, x, v32, v34, v39, v40, v44, by kernel_rfl, rfl, by omega, Nat.add_right_cancel (m := 1) hn, h'⟩)⟩
        · exact ⟨_, rfl, rfl, fun K' hK => pw_op23 h (fun x w' h' => hK _ _ ⟨0, true, false, true, true, v24, v31, v32, v34, x, v40, v44, by kernel_rfl, rfl, by omega, Nat.add_right_cancel (m := 1) hn, h'⟩)⟩
      · refine ⟨[15], by kernel_rfl, by simp, fun i hi => ?_⟩
        simp only [List.mem_cons, List.not_mem_nil, or_false] at hi
        subst hi
        · exact ⟨_, rfl, rfl, fun K' hK => pw_op15 h (fun x w' h' => hK _ _ ⟨0, true, true, true, true, v24, x, v32, v34, v39, v40, v44, by kernel_rfl, rfl, by omega, Nat.add_right_cancel (m := 1) hn, h'⟩)⟩
      · refine ⟨[16, 18, 23], by kernel_rfl, by simp, fun i hi => ?_⟩
        simp only [List.mem_cons, List.not_mem_nil, or_false] at hi
        rcases hi with rfl | rfl | rfl
        · exact ⟨_, rfl, rfl, fun K' hK => pw_op16 h (fun x w' h' => hK _ _ ⟨1, true, true, false, false, v24, v31, x, v34, v39, v40, v44, by kernel_rfl, rfl, by omega, Nat.add_right_cancel (m := 1) hn, h'⟩)⟩
        · exact ⟨_, rfl, rfl, fun K' hK => pw_op18 h (fun x w' h' => hK _ _ ⟨0, true, true, true, false, v24, v31, v32, x, v39, v40, v44, by kernel_rfl, rfl, by omega, Nat.add_right_cancel (m := 1) hn, h'⟩)⟩
        · exact ⟨_, rfl, rfl, fun K' hK => pw_op23 h (fun x w' h' => hK _ _ ⟨0, true, true, false, true, v24, v31, v32, v34, x, v40, v44, by kernel_rfl, rfl, by omega, Nat.add_right_cancel (m := 1) hn, h'⟩)⟩
      · refine ⟨[16, 18], by kernel_rfl, by simp, fun i hi => ?_⟩
        simp only [List.mem_cons, List.not_mem_nil, or_false] at hi
        rcases hi with rfl | rfl
        · exact ⟨_, rfl, rfl, fun K' hK => pw_op16 h (fun x w' h' => hK _ _ ⟨1, true, true, false, true, v24, v31, x, v34, v39, v40, v44, by kernel_rfl, rfl, by omega, Nat.add_right_cancel (m := 1) hn, h'⟩)⟩
        · exact ⟨_, rfl, rfl, fun K' hK => pw_op18 h (fun x w' h' => hK _ _ ⟨0, true, true, true, true, v24, v31, v32, x, v39, v40, v44, by kernel_rfl, rfl, by omega, Nat.add_right_cancel (m := 1) hn, h'⟩)⟩
      · refine ⟨[16, 23], by kernel_rfl, by simp, fun i hi => ?_⟩
        simp only [List.mem_cons, List.not_mem_nil, or_false] at hi
        rcases hi with rfl | rfl
        · exact ⟨_, rfl, rfl, fun K' hK => pw_op16 h (fun x w' h' => hK _ _ ⟨1, true, true, true, false, v24, v31, x, v34, v39, v40, v44, by kernel_rfl, rfl, by omega, Nat.add_right_cancel (m := 1) hn, h'⟩)⟩
        · exact ⟨_, rfl, rfl, fun K' hK => pw_op23 h (fun x w' h' => hK _ _ ⟨0, true, true, true, true, v24, v31, v32, v34, x, v40, v44, by kernel_rfl, rfl, by omega, Nat.add_right_cancel (m := 1) hn, h'⟩)⟩
      · refine ⟨[16], by kernel_rfl, by simp, fun i hi => ?_⟩
        simp only [List.mem_cons, List.not_mem_nil, or_false] at hi
        subst hi
        · exact ⟨_, rfl, rfl, fun K' hK => pw_op16 h (fun x w' h' => hK _ _ ⟨1, true, true, true, true, v24, v31, x, v34, v39, v40, v44, by kernel_rfl, rfl, by omega, Nat.add_right_cancel (m := 1) hn, h'⟩)⟩
    · cases y8 <;> cases y15 <;> cases y18 <;> cases y23
      · exact absurd (h.h15 (by omega)) (by simp)
      · exact absurd (h.h15 (by omega)) (by simp)
      · exact absurd (h.h15 (by omega)) (by simp)
      · exact absurd (h.h15 (by omega)) (by simp)
      · refine ⟨[8, 18, 23], by kernel_rfl, by simp, fun i hi => ?_⟩
        simp only [List.mem_cons, List.not_mem_nil, or_false] at hi
        rcases hi with rfl | rfl | rfl
        · exact ⟨_, rfl, rfl, fun K' hK => pw_op8 h (fun x w' h' => hK _ _ ⟨1, true, true, false, false, x, v31, v32, v34, v39, v40, v44, by kernel_rfl, rfl, by omega, Nat.add_right_cancel (m := 1) hn, h'⟩)⟩
        · exact ⟨_, rfl, rfl, fun K' hK => pw_op18 h (fun x w' h' => hK _ _ ⟨1, false, true, true, false, v24, v31, v32, x, v39, v40, v44, by kernel_rfl, rfl, by omega, Nat.add_right_cancel (m := 1) hn, h'⟩)⟩
        · exact ⟨_, rfl, rfl, fun K' hK => pw_op23 h (fun x w' h' => hK _ _ ⟨1, false, true, false, true, v24, v31, v32, v34, x, v40, v44, by kernel_rfl, rfl, by omega, Nat.add_right_cancel (m := 1) hn, h'⟩)⟩
      · refine ⟨[8, 18, 24], by kernel_rfl, by simp, fun i hi => ?_⟩
        simp only [List.mem_cons, List.not_mem_nil, or_false] at hi
        rcases hi with rfl | rfl | rfl
        · exact ⟨_, rfl, rfl, fun K' hK => pw_op8 h (fun x w' h' => hK _ _ ⟨1, true, true, false, true, x, v31, v32, v34, v39, v40, v44, by kernel_rfl, rfl, by omega, Nat.add_right_cancel (m := 1) hn, h'⟩)⟩
        · exact ⟨_, rfl, rfl, fun K' hK => pw_op18 h (fun x w' h' => hK _ _ ⟨1, false, true, true, true, v24, v31, v32, x, v39, v40, v44, by kernel_rfl, rfl, by omega, Nat.add_right_cancel (m := 1) hn, h'⟩)⟩
        · exact ⟨_, rfl, rfl, fun K' hK => pw_op24 h (fun x w' h' => hK _ _ ⟨2, false, true, false, true, v24, v31, v32, v34, v39, x, v44, by kernel_rfl, rfl, by omega, Nat.add_right_cancel (m := 1) hn, h'⟩)⟩
      · refine ⟨[8, 23], by kernel_rfl, by simp, fun i hi => ?_⟩
        simp only [List.mem_cons, List.not_mem_nil, or_false] at hi
        rcases hi with rfl | rfl
        · exact ⟨_, rfl, rfl, fun K' hK => pw_op8 h (fun x w' h' => hK _ _ ⟨1, true, true, true, false, x, v31, v32, v34, v39, v40, v44, by kernel_rfl, rfl, by omega, Nat.add_right_cancel (m := 1) hn, h'⟩)⟩
        · exact ⟨_, rfl, rfl, fun K' hK => pw_op23 h (fun x w' h' => hK _ _ ⟨1, false, true, true, true, v24, v31, v32, v34, x, v40, v44, by kernel_rfl, rfl, by omega, Nat.add_right_cancel (m := 1) hn, h'⟩)⟩
      · refine ⟨[8, 24], by kernel_rfl, by simp, fun i hi => ?_⟩
        simp only [List.mem_cons, List.not_mem_nil, or_false] at hi
        rcases hi with rfl | rfl
        · exact ⟨_, rfl, rfl, fun K' hK => pw_op8 h (fun x w' h' => hK _ _ ⟨1, true, true, true, true, x, v31, v32, v34, v39, v40, v44, by kernel_rfl, rfl, by omega, Nat.add_right_cancel (m := 1) hn, h'⟩)⟩
        · exact ⟨_, rfl, rfl, fun K' hK => pw_op24 h (fun x w' h' => hK _ _ ⟨2, false, true, true, true, v24, v31, v32, v34, v39, x, v44, by kernel_rfl, rfl, by omega, Nat.add_right_cancel (m := 1) hn, h'⟩)⟩
      · exact absurd (h.h15 (by omega)) (by simp)
      · exact absurd (h.h15 (by omega)) (by simp)
      · exact absurd (h.h15 (by omega)) (by simp)
      · exact absurd (h.h15 (by omega)) (by simp)
      · refine ⟨[18, 23], by kernel_rfl, by simp, fun i hi => ?_⟩
        simp only [List.mem_cons, List.not_mem_nil, or_false] at hi
        rcases hi with rfl | rfl
        · exact ⟨_, rfl, rfl, fun K' hK => pw_op18 h (fun x w' h' => hK _ _ ⟨1, true, true, true, false, v24, v31, v32, x, v39, v40, v44, by kernel_rfl, rfl, by omega, Nat.add_right_cancel (m := 1) hn, h'⟩)⟩
        · exact ⟨_, rfl, rfl, fun K' hK => pw_op23 h (fun x w' h' => hK _ _ ⟨1, true, true, false, true, v24, v31, v32, v34, x, v40, v44, by kernel_rfl, rfl, by omega, Nat.add_right_cancel (m := 1) hn, h'⟩)⟩
      · refine ⟨[18, 24], by kernel_rfl, by simp, fun i hi => ?_⟩
        simp only [List.mem_cons, List.not_mem_nil, or_false] at hi
        rcases hi with rfl | rfl
        · exact ⟨_, rfl, rfl, fun K' hK => pw_op18 h (fun x w' h' => hK _ _ ⟨1, true, true, true, true, v24, v31, v32, x, v39, v40, v44, by kernel_rfl, rfl, by omega, Nat.add_right_cancel (m := 1) hn, h'⟩)⟩
        · exact ⟨_, rfl, rfl, fun K' hK => pw_op24 h (fun x w' h' => hK _ _ ⟨2, true, true, false, true, v24, v31, v32, v34, v39, x, v44, by kernel_rfl, rfl, by omega, Nat.add_right_cancel (m := 1) hn, h'⟩)⟩
      · refine ⟨[23], by kernel_rfl, by simp, fun i hi => ?_⟩
        simp only [List.mem_cons, List.not_mem_nil, or_false] at hi
        subst hi
        · exact ⟨_, rfl, rfl, fun K' hK => pw_op23 h (fun x w' h' => hK _ _ ⟨1, true, true, true, true, v24, v31, v32, v34, x, v40, v44, by kernel_rfl, rfl, by omega, Nat.add_right_cancel (m := 1) hn, h'⟩)⟩
      · refine ⟨[24], by kernel_rfl, by simp, fun i hi => ?_⟩
        simp only [List.mem_cons, List.not_mem_nil, or_false] at hi
        subst hi
        · exact ⟨_, rfl, rfl, fun K' hK => pw_op24 h (fun x w' h' => hK _ _ ⟨2, true, true, true, true, v24, v31, v32, v34, v39, x, v44, by kernel_rfl, rfl, by omega, Nat.add_right_cancel (m := 1) hn, h'⟩)⟩
    · cases y8 <;> cases y15 <;> cases y18 <;> cases y23
      · exact absurd (h.h15 (by omega)) (by simp)
      · exact absurd (h.h15 (by omega)) (by simp)
      · exact absurd (h.h15 (by omega)) (by simp)
      · exact absurd (h.h15 (by omega)) (by simp)
      · exact absurd (h.h23 (by omega)) (by simp)
      · refine ⟨[8, 18, 28], by kernel_rfl, by simp, fun i hi => ?_⟩
        simp only [List.mem_cons, List.not_mem_nil, or_false] at hi
        rcases hi with rfl | rfl | rfl
        · exact ⟨_, rfl, rfl, fun K' hK => pw_op8 h (fun x w' h' => hK _ _ ⟨2, true, true, false, true, x, v31, v32, v34, v39, v40, v44, by kernel_rfl, rfl, by omega, Nat.add_right_cancel (m := 1) hn, h'⟩)⟩
        · exact ⟨_, rfl, rfl, fun K' hK => pw_op18 h (fun x w' h' => hK _ _ ⟨2, false, true, true, true, v24, v31, v32, x, v39, v40, v44, by kernel_rfl, rfl, by omega, Nat.add_right_cancel (m := 1) hn, h'⟩)⟩
        · exact ⟨_, rfl, rfl, fun K' hK => pw_op28 hen2 h (fun x w' h' => hK _ _ ⟨3, false, true, false, true, v24, v31, v32, v34, v39, v40, x, by kernel_rfl, rfl, by omega, Nat.add_right_cancel (m := 1) hn, h'⟩)⟩
      · exact absurd (h.h23 (by omega)) (by simp)
      · refine ⟨[8, 28], by kernel_rfl, by simp, fun i hi => ?_⟩
        simp only [List.mem_cons, List.not_mem_nil, or_false] at hi
        rcases hi with rfl | rfl
        · exact ⟨_, rfl, rfl, fun K' hK => pw_op8 h (fun x w' h' => hK _ _ ⟨2, true, true, true, true, x, v31, v32, v34, v39, v40, v44, by kernel_rfl, rfl, by omega, Nat.add_right_cancel (m := 1) hn, h'⟩)⟩
        · exact ⟨_, rfl, rfl, fun K' hK => pw_op28 hen2 h (fun x w' h' => hK _ _ ⟨3, false, true, true, true, v24, v31, v32, v34, v39, v40, x, by kernel_rfl, rfl, by omega, Nat.add_right_cancel (m := 1) hn, h'⟩)⟩
      · exact absurd (h.h15 (by omega)) (by simp)
      · exact absurd (h.h15 (by omega)) (by simp)
      · exact absurd (h.h15 (by omega)) (by simp)
      · exact absurd (h.h15 (by omega)) (by simp)
      · exact absurd (h.h23 (by omega)) (by simp)
      · refine ⟨[18, 28], by kernel_rfl, by simp, fun i hi => ?_⟩
        simp only [List.mem_cons, List.not_mem_nil, or_false] at hi
        rcases hi with rfl | rfl
        · exact ⟨_, rfl, rfl, fun K' hK => pw_op18 h (fun x w' h' => hK _ _ ⟨2, true, true, true, true, v24, v31, v32, x, v39, v40, v44, by kernel_rfl, rfl, by omega, Nat.add_right_cancel (m := 1) hn, h'⟩)⟩
        · exact ⟨_, rfl, rfl, fun K' hK => pw_op28 hen2 h (fun x w' h' => hK _ _ ⟨3, true, true, false, true, v24, v31, v32, v34, v39, v40, x, by kernel_rfl, rfl, by omega, Nat.add_right_cancel (m := 1) hn, h'⟩)⟩
      · exact absurd (h.h23 (by omega)) (by simp)
      · refine ⟨[28], by kernel_rfl, by simp, fun i hi => ?_⟩
        simp only [List.mem_cons, List.not_mem_nil, or_false] at hi
        subst hi
        · exact ⟨_, rfl, rfl, fun K' hK => pw_op28 hen2 h (fun x w' h' => hK _ _ ⟨3, true, true, true, true, v24, v31, v32, v34, v39, v40, x, by kernel_rfl, rfl, by omega, Nat.add_right_cancel (m := 1) hn, h'⟩)⟩
    · cases y8 <;> cases y15 <;> cases y18 <;> cases y23
      · exact absurd (h.h15 (by omega)) (by simp)
      · exact absurd (h.h15 (by omega)) (by simp)
      · exact absurd (h.h15 (by omega)) (by simp)
      · exact absurd (h.h15 (by omega)) (by simp)
      · exact absurd (h.h23 (by omega)) (by simp)
      · refine ⟨[8, 18], by kernel_rfl, by simp, fun i hi => ?_⟩
        simp only [List.mem_cons, List.not_mem_nil, or_false] at hi
        rcases hi with rfl | rfl
        · exact ⟨_, rfl, rfl, fun K' hK => pw_op8 h (fun x w' h' => hK _ _ ⟨3, true, true, false, true, x, v31, v32, v34, v39, v40, v44, by kernel_rfl, rfl, by omega, Nat.add_right_cancel (m := 1) hn, h'⟩)⟩
        · exact ⟨_, rfl, rfl, fun K' hK => pw_op18 h (fun x w' h' => hK _ _ ⟨3, false, true, true, true, v24, v31, v32, x, v39, v40, v44, by kernel_rfl, rfl, by omega, Nat.add_right_cancel (m := 1) hn, h'⟩)⟩
      · exact absurd (h.h23 (by omega)) (by simp)
      · refine ⟨[8], by kernel_rfl, by simp, fun i hi => ?_⟩
        simp only [List.mem_cons, List.not_mem_nil, or_false] at hi
        subst hi
        · exact ⟨_, rfl, rfl, fun K' hK => pw_op8 h (fun x w' h' => hK _ _ ⟨3, true, true, true, true, x, v31, v32, v34, v39, v40, v44, by kernel_rfl, rfl, by omega, Nat.add_right_cancel (m := 1) hn, h'⟩)⟩
      · exact absurd (h.h15 (by omega)) (by simp)
      · exact absurd (h.h15 (by omega)) (by simp)
      · exact absurd (h.h15 (by omega)) (by simp)
      · exact absurd (h.h15 (by omega)) (by simp)
      · exact absurd (h.h23 (by omega)) (by simp)
      · refine ⟨[18], by kernel_rfl, by simp, fun i hi => ?_⟩
        simp only [List.mem_cons, List.not_mem_nil, or_false] at hi
        subst hi
        · exact ⟨_, rfl, rfl, fun K' hK => pw_op18 h (fun x w' h' => hK _ _ ⟨3, true, true, true, true, v24, v31, v32, x, v39, v40, v44, by kernel_rfl, rfl, by omega, Nat.add_right_cancel (m := 1) hn, h'⟩)⟩
      · exact absurd (h.h23 (by omega)) (by simp)
      · exact absurd hn (by show ¬ (n + 1 = 0); omega)
  · rintro n listed a w' ⟨c, y8, y15, y18, y23, v24, v31, v32, v34, v39, v40, v44, _, _, _, _, h⟩
    have hb := h.below
    rw [hpp] at hb
    exact hb
  rintro listed a w2 ⟨c, y8, y15, y18, y23, v24, v31, v32, v34, v39, v40, v44, rfl, rfl, hc, hn, h⟩
  clear hst hS0 hen2
  obtain ⟨rfl, rfl, rfl, rfl, rfl⟩ := noP_zero hc hn
  subst hpp
  have hp1 := h.a8 rfl
  have hp3 := h.a18 rfl
  have hp2 := h.c1 (by omega)
  have hp4 := h.c2 (by omega)
  have hp5 := h.c3 (by omega)
  have hSw2 : Below (w.heap.size + 1) w0 w2 := h.below
  have hs2 : w.heap.size + 1 ≤ w2.heap.size := h.size
  dsimp only at hp1 hp2 hp3 hp4 hp5
  clear h hc hn
  unfold lstP frP
  obtain ⟨n1, n2, n3, n4, n5, n6, n7, n8, n9, n10, n11⟩ := right_nums HR.out
  dsimp only [Lt.plain] at n1 n2 n3 n4 n5 n6 n7 n8 n9 n10 n11
  rw [u8_same (show 0 ≤ f ∧ f < 256 by omega), u8_same (show 0 ≤ t ∧ t < 256 by omega)] at hp1
  obtain ⟨a1, k1, rfl, hi1, ho1⟩ := pt_of 3 hp1 (by have hk := HFN.out.kind; dsimp only at hk; intro x hx; simp only [List.mem_cons, List.not_mem_nil, or_false] at hx; rcases hx with rfl | rfl | rfl <;> omega) rfl
  obtain ⟨a2, k2, rfl, hi2, ho2⟩ := pt_of 24 hp2 (BytesWf.flat fun _ _ => numB_wf 8 _) rfl
  obtain ⟨a3, k3, rfl, hi3, ho3⟩ := pt_of 1 hp3 (by intro x hx; simp only [List.mem_cons, List.not_mem_nil, or_false] at hx; subst hx; rw [← HKB.out]; split <;> omega) rfl
  obtain ⟨a4, k4, rfl, hi4, ho4⟩ := pt_of 16 hp4 (BytesWf.flat fun _ _ => numB_wf 8 _) rfl
  obtain ⟨a5, k5, rfl, hi5, ho5⟩ := pt_of 4 hp5 (numB_wf 4 _) rfl
  have hlit := parts_lit (w := w2) (cs := #[.slice a1 3 k1, .slice a2 24 k2, .slice a3 1 k3, .slice a4 16 k4, .slice a5 4 k5]) (ps := [⟨a1, k1, [kd, f, t]⟩, ⟨a2, k2, [tm, ix, ws].flatMap (numB 8)⟩, ⟨a3, k3, [kb]⟩, ⟨a4, k4, [cm, rd].flatMap (numB 8)⟩, ⟨a5, k5, numB 4 (en : Int)⟩]) rfl (by
    intro q hq
    simp only [List.mem_cons, List.not_mem_nil, or_false] at hq
    rcases hq with rfl | rfl | rfl | rfl | rfl
    · exact ⟨hi1, ho1⟩
    · exact ⟨hi2, ho2⟩
    · exact ⟨hi3, ho3⟩
    · exact ⟨hi4, ho4⟩
    · exact ⟨hi5, ho5⟩) (by simp)
  have hhead : ([⟨a1, k1, [kd, f, t]⟩, ⟨a2, k2, [tm, ix, ws].flatMap (numB 8)⟩, ⟨a3, k3, [kb]⟩, ⟨a4, k4, [cm, rd].flatMap (numB 8)⟩, ⟨a5, k5, numB 4 (en : Int)⟩] : List Pt).flatMap Pt.data = headL (Lt.plain ⟨kd, f, t, tm, ix, ws, OK.1, cm, rd, eo, es, ec, vo, vs, vc, io, ib, ic⟩) ++ numB 4 (en : Int) := by
    rw [headL_kb _ kb HKB.out]
    simp [Lt.plain]
  obtain ⟨ps, hps⟩ : ∃ ps : List Pt, [⟨a1, k1, [kd, f, t]⟩, ⟨a2, k2, [tm, ix, ws].flatMap (numB 8)⟩, ⟨a3, k3, [kb]⟩, ⟨a4, k4, [cm, rd].flatMap (numB 8)⟩, ⟨a5, k5, numB 4 (en : Int)⟩] = ps := ⟨_, rfl⟩
  have hlit : Parts (w2.alloc (.cells #[.slice a1 3 k1, .slice a2 24 k2, .slice a3 1 k3, .slice a4 16 k4, .slice a5 4 k5] 25)) w2.heap.size (some ⟨w2.heap.size, 0, none⟩) 5 5 ps := hps ▸ hlit
  rw [hps] at hhead
  have HLIT := Lib.hid hlit
  have HHEAD := Lib.hid hhead
  have hSw3 : Below (w.heap.size + 1) w0 (w2.alloc (.cells #[.slice a1 3 k1, .slice a2 24 k2, .slice a3 1 k3, .slice a4 16 k4, .slice a5 4 k5] 25)) := hSw2.alloc hs2 _
  have hs3 : w2.heap.size ≤ (w2.alloc (.cells #[.slice a1 3 k1, .slice a2 24 k2, .slice a3 1 k3, .slice a4 16 k4, .slice a5 4 k5] 25)).heap.size := by simp
  clear hp1 hp2 hp3 hp4 hp5 hi1 hi2 hi3 hi4 hi5 ho1 ho2 ho3 ho4 ho5 hlit hhead hps
  refine takeS_alone 29 rfl (by kernel_rfl) (by rfl) (fun K hK => ?_)
  go_simp
  (have hP := HLIT.out; obtain ⟨pb, hpb⟩ : ∃ pb, w2.heap.size = pb := ⟨_, rfl⟩; rw [hpb] at hP hs3 ⊢; have hs2b : w.heap.size + 1 ≤ pb := hpb ▸ hs2; clear HLIT; generalize w2.alloc (.cells #[.slice a1 3 k1, .slice a2 24 k2, .slice a3 1 k3, .slice a4 16 k4, .slice a5 4 k5] 25) = w3 at hP hSw3 hs3 ⊢; have HP3 := Lib.hid hP; clear hP)
  refine hK.out _ _ (by assumption) ?_
  clear hK K
  (try simp only [Act.put, List.setIfInBounds_toArray, List.set_cons_zero, List.set_cons_succ])
  (first | (refine takeS_no 30 rfl (by kernel_rfl) (by kernel_rfl) (by kernel_rfl) (fun _ _ _ h => h) (by rfl) (by assumption) ?_) | (refine takeS_yes (v := ?_) 30 rfl (by kernel_rfl) (by kernel_rfl) (by kernel_rfl) (fun _ _ _ h => h) (by rfl) (by assumption) ?_ ?_; rotate_left; focus (intro wS hSw; obtain ⟨d0, d1, d2, d3, d4, d5, d6, d7, d8, d9, d10, d11⟩ := HD.out wS hSw; go_simp; first | done | with_reducible rfl)))
  (try simp only [Act.put, List.setIfInBounds_toArray, List.set_cons_zero, List.set_cons_succ])
  refine wpAnyH_done (by kernel_rfl) ?_ _
  have hen16 : en ≤ 16 := by rw [← HEN.out]; simpa using n9
  have hvn7 : vn ≤ 7 := by rw [← HVN.out]; exact n11
  obtain ⟨lp, hlp⟩ : ∃ lp, Lt.plain ⟨kd, f, t, tm, ix, ws, OK.1, cm, rd, eo, es, ec, vo, vs, vc, io, ib, ic⟩ = lp := ⟨_, rfl⟩
  rw [hlp] at HHEAD
  have HLN := Lib.hid hlp
  clear hlp
  have hd9 := (HD.out w3 hSw3)
  obtain ⟨_, _, _, _, _, _, _, _, _, d9, _, _⟩ := hd9
  go_wp2_with fail
  clear d9
  go_loopw [5, 49] (fun v i wr => ∃ (k n : Nat) (a : Option Addr) (c : Nat) (qs : List Pt), k ≤ en ∧ 5 + k = n ∧ i = .int .i64 k ∧ v = .slice a n c ∧ Parts wr pb a n c qs ∧ qs.flatMap Pt.data = headL lp ++ (numB 4 (en : Int) ++ ((es.take k).map En.plain).flatMap entryB) ∧ Below (w.heap.size + 1) w0 wr ∧ pb ≤ wr.heap.size) (fun _ i _ => en - (intOf i).toNat)
  case atStart => exact ⟨0, 5, some ⟨pb, 0, none⟩, 5, ps, by omega, rfl, rfl, rfl, HP3.out, by rw [HHEAD.out]; simp, hSw3, hs3⟩
  case round =>
    clear HP3 HHEAD hSw3 hs3
    obtain ⟨k, n, a, c, qs, hk, hnk, rfl, rfl, hpa, hda, hbel, hpz⟩ := hrel
    have HPA := Lib.hid hpa
    have HDA := Lib.hid hda
    have HNK := Lib.hid hnk
    clear hpa hda hnk
    by_cases hlt : k < en
    · have i1 : (k : Int) < en := by omega
      have hkx : es[k]? = some (es[k]'(by rw [HEN.out]; exact hlt)) := List.getElem?_eq_getElem _
      have htk : es.take (k + 1) = es.take k ++ [es[k]'(by rw [HEN.out]; exact hlt)] := List.take_succ_eq_append_getElem _
      have hmem : (es[k]'(by rw [HEN.out]; exact hlt)) ∈ es := List.getElem_mem _
      obtain ⟨b, off, hao, hb, hc, hsub⟩ := HX.out.1.at hkx
      generalize es[k]'(by rw [HEN.out]; exact hlt) = x at hc hkx htk hmem hsub
      have hfx := HFN.out.es x hmem
      have hbw : Below w.heap.size w wr := hbx.trans (hbel.mono (Nat.le_succ _))
      obtain ⟨etm, ekd, ess, esq, eck, etext, eaao, eargs, eacap, enum, evao, evs, evcap⟩ := x
      have cc := fun (i : Nat) (h : i < 9) => (hbw.cell (p := ⟨b, off + k * 9 + i, none⟩) hb).trans (hc i h)
      have c0 : wr.cell? ⟨b, off + k * 9, none⟩ = some (.int .i64 etm) := cc 0 (by decide)
      have c1 : wr.cell? ⟨b, off + k * 9 + 1, none⟩ = some (.int .u8 ekd) := cc 1 (by decide)
      have c2 : wr.cell? ⟨b, off + k * 9 + 2, none⟩ = some (.int .i64 ess) := cc 2 (by decide)
      have c3 : wr.cell? ⟨b, off + k * 9 + 3, none⟩ = some (.int .i64 esq) := cc 3 (by decide)
      have c4 : wr.cell? ⟨b, off + k * 9 + 4, none⟩ = some (.int .u8 eck) := cc 4 (by decide)
      have c5 : wr.cell? ⟨b, off + k * 9 + 5, none⟩ = some (.string etext) := cc 5 (by decide)
      have c6 : wr.cell? ⟨b, off + k * 9 + 6, none⟩ = some (.slice eaao eargs.length eacap) := cc 6 (by decide)
      have c7 : wr.cell? ⟨b, off + k * 9 + 7, none⟩ = some (.int .i64 enum) := cc 7 (by decide)
      have c8 : wr.cell? ⟨b, off + k * 9 + 8, none⟩ = some (.slice evao evs.length evcap) := cc 8 (by decide)
      dsimp only at hao
      subst hao
      obtain ⟨nn, hnn⟩ : ∃ nn, eargs.length = nn := ⟨_, rfl⟩
      obtain ⟨mm, hmm⟩ : ∃ mm, evs.length = mm := ⟨_, rfl⟩
      rw [hnn] at c6
      rw [hmm] at c8
      have hba := (Below.refl wr.heap.size wr).alloc (Nat.le_refl _) (.cells #[.int .i64 etm, .int .u8 ekd, .int .i64 ess, .int .i64 esq, .int .u8 eck, .string etext, .slice eaao nn eacap, .int .i64 enum, .slice evao mm evcap] 47)
      have HBA := Lib.hid hba
      have HNN := Lib.hid hnn
      have HMM := Lib.hid hmm
      have HFX := Lib.hid hfx
      have HSUB := Lib.hid hsub
      have HTK := Lib.hid htk
      have HBW := Lib.hid hbw
      clear cc hc hkx hmem hsub hfx htk hnn hmm hba hbw
      go_wp2_with fail
      clear c0 c1 c2 c3 c4 c5 c6 c7 c8
      have hba := HBA.out
      have hpa := HPA.out.below hba
      have hb2 := hbel.trans (hba.mono (Nat.le_trans hs2b hpz))
      have hz2 := Nat.le_trans hpz hba.size
      clear HBA HPA
      generalize wr.alloc (.cells #[.int .i64 etm, .int .u8 ekd, .int .i64 ess, .int .i64 esq, .int .u8 eck, .string etext, .slice eaao nn eacap, .int .i64 enum, .slice evao mm evcap] 47) = w4 at hba hpa hb2 hz2 ⊢
      have HPA := Lib.hid hpa
      clear hpa
      obtain ⟨EB, hEB⟩ : ∃ EB, entryB ⟨etm, ekd, ess, esq, eck, etext, eargs, enum, evs⟩ = EB := ⟨_, rfl⟩
      have HEB := Lib.hid hEB
      have hca := hEB ▸ wentry_any etm ekd ess esq eck etext eaao nn eacap eargs enum evao mm evcap evs w4 HNN.out HMM.out (((HSUB.out.1.below noSub_kept HBW.out (Nat.le_refl _)).below noSub_kept hba HBW.out.size).mono noSub_rising (Nat.le_trans HBW.out.size hba.size)) (((HSUB.out.2.below noSub_kept HBW.out (Nat.le_refl _)).below noSub_kept hba HBW.out.size).mono noSub_rising (Nat.le_trans HBW.out.size hba.size)) (fun v hv => by have := HFX.out.argt v hv; omega) (by have h := HFX.out.args; rw [← HNN.out]; dsimp only at h; omega) (by have h := HFX.out.vn; rw [← HMM.out]; dsimp only at h; omega) (by have h := HFX.out.size; have h2 := HFX.out.text; dsimp only at h h2; omega)
      refine hca.mono ?_
      clear hca hEB
      rintro e w5 ⟨a1, k1, rfl, ho1, hb5⟩
      have hwfe : BytesWf EB := HEB.out ▸ entryB_wf _ HFX.out.wf.kind HFX.out.wf.ck HFX.out.wf.args
      obtain ⟨ho2, ho3⟩ := pt_own ho1 hwfe
      have hfar := far_own HPA.out ho1 (Nat.le_refl _)
      have hp5 := HPA.out.below hb5
      have hb6 := hb2.trans (hb5.mono (Nat.le_trans hs2b hz2))
      have hz6 := Nat.le_trans hz2 hb5.size
      obtain ⟨lb, hlb⟩ : ∃ lb, EB.length = lb := ⟨_, rfl⟩
      rw [hlb]
      have hal := (Below.refl w5.heap.size w5).alloc (Nat.le_refl _) (.cells #[.slice a1 lb k1] 25)
      have hlit := heap_alloc_new w5 (.cells #[.slice a1 lb k1] 25)
      have hp6 := hp5.below hal
      have ho4 := (ho3.below hal (Nat.le_refl _)).mono hal.size
      have hb7 := hb6.trans (hal.mono (Nat.le_trans hs2b hz6))
      have hz7 := Nat.le_trans hz6 hal.size
      have HARG := Lib.hid (show ∀ q ∈ [(⟨a1, k1, EB⟩ : Pt)], BytesIn (w5.alloc (.cells #[.slice a1 lb k1] 25)) (w5.alloc (.cells #[.slice a1 lb k1] 25)).heap.size q.ao q.data ∧ (q.data ≠ [] → ∀ ad, q.ao = some ad → (Value.slice a n c).ownBlock ≠ some ad.block) ∧ PtOk q by
        intro q hq
        rw [List.mem_singleton.1 hq]
        exact ⟨ho4, fun _ => hfar, ho2⟩)
      have HP6 := Lib.hid hp6
      have HLIT := Lib.hid hlit
      have HLB := Lib.hid hlb
      clear hlit hp6 ho4 ho2 ho3 hfar hp5 HPA ho1 hb5 hal hwfe hlb
      have hn40 : n + 1 ≤ 100000000 := by have := HNK.out; omega
      go_wp2_with (at_builtin; refine wpList_append_parts rfl (.tmp 53) (.tmp 56) rfl pb rfl HP6.out w5.heap.size 1 #[.slice a1 lb k1] [⟨a1, k1, EB⟩] rfl HLIT.out (by rw [← HLB.out]; rfl) rfl HARG.out hn40 hz7 ?_)
      intro a2 c2 w7 hp7 hg7
      have hb8 := hb7.grown hg7 (Nat.le_trans hs2b hz7) (fun k hk => Nat.le_trans hs2b (HP6.out.lt k hk).1)
      have hz8 := Nat.le_trans hz7 hg7.size
      have HP7 := Lib.hid hp7
      have HD7 := Lib.hid (show (qs ++ [(⟨a1, k1, EB⟩ : Pt)]).flatMap Pt.data = headL lp ++ (numB 4 (en : Int) ++ ((es.take (k + 1)).map En.plain).flatMap entryB) by
        rw [List.flatMap_append, HDA.out, HTK.out, List.map_append, List.flatMap_append]
        simp [← HEB.out, En.plain])
      clear hp7 hg7
      go_wp2_with fail
      go_roundw
      case rel => exact ⟨k + 1, n + 1, a2, c2, qs ++ [⟨a1, k1, EB⟩], by omega, by have := HNK.out; omega, by go_num, rfl, HP7.out, HD7.out, hb8, hz8⟩
      case measure => simp [intOf] <;> omega
    · have i1 : ¬ (k : Int) < en := by omega
      obtain rfl : k = en := by omega
      have HDB := Lib.hid (show qs.flatMap Pt.data = headL lp ++ (numB 4 (k : Int) ++ (es.map En.plain).flatMap entryB) by
        rw [HDA.out, List.take_of_length_le (by rw [HEN.out]; exact Nat.le_refl _)])
      have hd9 := (HD.out wr hbel)
      obtain ⟨_, _, _, _, _, _, _, _, _, _, d10, _⟩ := hd9
      go_wp2_with fail
      refine (lcount_any vn _ wr rfl (by omega)).mono ?_
      rintro e w5 ⟨a1, n1, k1, rfl, hB1, hb5⟩
      obtain rfl : n1 = 4 := by rw [← hB1.len, numB_len]
      have ho1 := hB1.row
      have hl4 : (numB 4 (vn : Int)).length = 4 := numB_len 4 _
      obtain ⟨ho2, ho3⟩ := pt_own (L := numB 4 (vn : Int)) (by rw [hl4]; exact ho1) (numB_wf 4 _)
      have hfar := far_own HPA.out ho1 (Nat.le_refl _)
      have hp5 := HPA.out.below hb5
      have hb6 := hbel.trans (hb5.mono (Nat.le_trans hs2b hpz))
      have hz6 := Nat.le_trans hpz hb5.size
      have hal := (Below.refl w5.heap.size w5).alloc (Nat.le_refl _) (.cells #[.slice a1 4 k1] 25)
      have hlit := heap_alloc_new w5 (.cells #[.slice a1 4 k1] 25)
      have hp6 := hp5.below hal
      have ho4 := (ho3.below hal (Nat.le_refl _)).mono hal.size
      have hb7 := hb6.trans (hal.mono (Nat.le_trans hs2b hz6))
      have hz7 := Nat.le_trans hz6 hal.size
      have HARG := Lib.hid (show ∀ q ∈ [(⟨a1, k1, numB 4 (vn : Int)⟩ : Pt)], BytesIn (w5.alloc (.cells #[.slice a1 4 k1] 25)) (w5.alloc (.cells #[.slice a1 4 k1] 25)).heap.size q.ao q.data ∧ (q.data ≠ [] → ∀ ad, q.ao = some ad → (Value.slice a n c).ownBlock ≠ some ad.block) ∧ PtOk q by
        intro q hq
        rw [List.mem_singleton.1 hq]
        exact ⟨ho4, fun _ => hfar, ho2⟩)
      have HP6 := Lib.hid hp6
      have HLIT := Lib.hid hlit
      clear hlit hp6 ho4 ho2 ho3 hfar hp5 HPA ho1 hb5 hal hB1 hl4 d10
      have hn40 : n + 1 ≤ 100000000 := by have := HNK.out; omega
      go_wp2_with (at_builtin; refine wpList_append_parts rfl (.tmp 59) (.tmp 64) rfl pb rfl HP6.out w5.heap.size 1 #[.slice a1 4 k1] [⟨a1, k1, numB 4 (vn : Int)⟩] rfl HLIT.out rfl rfl HARG.out hn40 hz7 ?_)
      intro a2 c2 w7 hp7 hg7
      have hb8 := hb7.grown hg7 (Nat.le_trans hs2b hz7) (fun k hk => Nat.le_trans hs2b (HP6.out.lt k hk).1)
      have hz8 := Nat.le_trans hz7 hg7.size
      obtain ⟨n0, hn0⟩ : ∃ n0, n + 1 = n0 := ⟨_, rfl⟩
      have HP7 := Lib.hid hp7
      have HD7 := Lib.hid (show (qs ++ [(⟨a1, k1, numB 4 (vn : Int)⟩ : Pt)]).flatMap Pt.data = headL lp ++ (numB 4 (k : Int) ++ ((es.map En.plain).flatMap entryB ++ numB 4 (vn : Int))) by
        rw [List.flatMap_append, HDB.out]
        simp)
      have HN0 := Lib.hid (show n0 ≤ 30 by have := HNK.out; omega)
      rw [hn0] at HP7 ⊢
      obtain ⟨rs, hrs⟩ : ∃ rs, qs ++ [(⟨a1, k1, numB 4 (vn : Int)⟩ : Pt)] = rs := ⟨_, rfl⟩
      rw [hrs] at HP7 HD7
      have hd9 := (HD.out w7 hb8)
      obtain ⟨_, _, _, _, _, _, _, _, _, _, d10, _⟩ := hd9
      clear hp7 hg7 hn0 hrs HP6 HARG HLIT HDB HDA HNK hb7 hz7 hb6 hz6 hn40
      go_wp2_with fail
      clear d10
      go_loopw [5, 69] (fun v i wr => ∃ (j n : Nat) (a : Option Addr) (c : Nat) (qs : List Pt), j ≤ vn ∧ n0 + j = n ∧ i = .int .i64 j ∧ v = .slice a n c ∧ Parts wr pb a n c qs ∧ qs.flatMap Pt.data = headL lp ++ (numB 4 (k : Int) ++ ((es.map En.plain).flatMap entryB ++ (numB 4 (vn : Int) ++ vs.take j))) ∧ Below (w.heap.size + 1) w0 wr ∧ pb ≤ wr.heap.size) (fun _ i _ => vn - (intOf i).toNat)
      case atStart => exact ⟨0, n0, a2, c2, rs, by omega, by omega, rfl, rfl, HP7.out, by rw [HD7.out]; simp, hb8, hz8⟩
      case round =>
        clear HP7 HD7 hb8 hz8 hbel hpz
        obtain ⟨j, n, a, c, qs, hj, hnk, rfl, rfl, hpa, hda, hbel, hpz⟩ := hrel
        have HPA := Lib.hid hpa
        have HDA := Lib.hid hda
        have HNK := Lib.hid hnk
        clear hpa hda hnk
        by_cases hlt2 : j < vn
        · have i2 : (j : Int) < vn := by omega
          have hkx : vs[j]? = some (vs[j]'(by rw [HVN.out]; exact hlt2)) := List.getElem?_eq_getElem _
          have htk : vs.take (j + 1) = vs.take j ++ [vs[j]'(by rw [HVN.out]; exact hlt2)] := List.take_succ_eq_append_getElem _
          have hmem : (vs[j]'(by rw [HVN.out]; exact hlt2)) ∈ vs := List.getElem_mem _
          obtain ⟨b, off, hao, hb, hc, _⟩ := HX.out.2.1.at hkx
          generalize vs[j]'(by rw [HVN.out]; exact hlt2) = x at hc hkx htk hmem
          have hx9 := n10 x hmem
          have hbw : Below w.heap.size w wr := hbx.trans (hbel.mono (Nat.le_succ _))
          have c0 : wr.cell? ⟨b, off + j, none⟩ = some (.int .i64 x) := by
            have := hc 0 (by decide)
            rw [Nat.mul_one, Nat.add_zero] at this
            exact (hbw.cell (p := ⟨b, _, none⟩) hb).trans this
          dsimp only at hao
          subst hao
          have hxw := u8_same (x := x) (by omega)
          have hba := (Below.refl wr.heap.size wr).alloc (Nat.le_refl _) (.cells #[.int .u8 x] 5)
          have hnw := (bytes_new wr 5 [x] #[.int .u8 x] (0, 0) wr.heap.size (wr.heap.size + 1) rfl rfl (by omega))
          have hal := (Below.refl (wr.alloc (.cells #[.int .u8 x] 5)).heap.size (wr.alloc (.cells #[.int .u8 x] 5))).alloc (Nat.le_refl _) (.cells #[.slice (some ⟨wr.heap.size, 0, none⟩) 1 1] 25)
          have hlit := heap_alloc_new (wr.alloc (.cells #[.int .u8 x] 5)) (.cells #[.slice (some ⟨wr.heap.size, 0, none⟩) 1 1] 25)
          have hsz1 : (wr.alloc (.cells #[.int .u8 x] 5)).heap.size = wr.heap.size + 1 := by simp
          have ho4 := (hnw.below hal (by rw [hsz1]; exact Nat.le_refl _)).mono (show wr.heap.size + 1 ≤ ((wr.alloc (.cells #[.int .u8 x] 5)).alloc (.cells #[.slice (some ⟨wr.heap.size, 0, none⟩) 1 1] 25)).heap.size by simp)
          have hp6 := (HPA.out.below hba).below hal
          have hb7 := (hbel.trans (hba.mono (Nat.le_trans hs2b hpz))).trans (hal.mono (by rw [hsz1]; omega))
          have hz7 : pb ≤ ((wr.alloc (.cells #[.int .u8 x] 5)).alloc (.cells #[.slice (some ⟨wr.heap.size, 0, none⟩) 1 1] 25)).heap.size := by simp; omega
          rw [hsz1] at hlit
          have HARG := Lib.hid (show ∀ q ∈ [(⟨some ⟨wr.heap.size, 0, none⟩, 1, [x]⟩ : Pt)], BytesIn ((wr.alloc (.cells #[.int .u8 x] 5)).alloc (.cells #[.slice (some ⟨wr.heap.size, 0, none⟩) 1 1] 25)) ((wr.alloc (.cells #[.int .u8 x] 5)).alloc (.cells #[.slice (some ⟨wr.heap.size, 0, none⟩) 1 1] 25)).heap.size q.ao q.data ∧ (q.data ≠ [] → ∀ ad, q.ao = some ad → (Value.slice a n c).ownBlock ≠ some ad.block) ∧ PtOk q by
            intro q hq
            rw [List.mem_singleton.1 hq]
            refine ⟨ho4, fun _ ad had e => ?_, ⟨by intro y hy; rw [List.mem_singleton.1 hy]; omega, fun h => (by cases h), Nat.le_refl _⟩⟩
            have h1 := (HPA.out.lt _ e).2
            cases had
            exact absurd h1 (by simp))
          have HP6 := Lib.hid hp6
          have HLIT := Lib.hid hlit
          have HTK := Lib.hid htk
          clear hlit hp6 ho4 hnw HPA hal hba hc hkx hmem htk hsz1 hbw
          have hn40 : n + 1 ≤ 100000000 := by have := HNK.out; have := HN0.out; omega
          go_wp2_with (at_builtin; refine wpList_append_parts rfl (.tmp 73) (.tmp 77) rfl pb rfl HP6.out (wr.heap.size + 1) 1 #[.slice (some ⟨wr.heap.size, 0, none⟩) 1 1] [⟨some ⟨wr.heap.size, 0, none⟩, 1, [x]⟩] rfl HLIT.out rfl rfl HARG.out hn40 hz7 ?_)
          intro a2 c2 w7 hp7 hg7
          have hb8 := hb7.grown hg7 (Nat.le_trans hs2b hz7) (fun k hk => Nat.le_trans hs2b (HP6.out.lt k hk).1)
          have hz8 := Nat.le_trans hz7 hg7.size
          have HP7 := Lib.hid hp7
          have HD7 := Lib.hid (show (qs ++ [(⟨some ⟨wr.heap.size, 0, none⟩, 1, [x]⟩ : Pt)]).flatMap Pt.data = headL lp ++ (numB 4 (k : Int) ++ ((es.map En.plain).flatMap entryB ++ (numB 4 (vn : Int) ++ vs.take (j + 1)))) by
            rw [List.flatMap_append, HDA.out, HTK.out]
            simp)
          clear hp7 hg7
          go_wp2_with fail
          go_roundw
          case rel => exact ⟨j + 1, n + 1, a2, c2, qs ++ [⟨some ⟨wr.heap.size, 0, none⟩, 1, [x]⟩], by omega, by have := HNK.out; omega, by go_num, rfl, HP7.out, HD7.out, hb8, hz8⟩
          case measure => simp [intOf] <;> omega
        · have i2 : ¬ (j : Int) < vn := by omega
          obtain rfl : j = vn := by omega
          have HDB := Lib.hid (show qs.flatMap Pt.data = headL lp ++ (numB 4 (k : Int) ++ ((es.map En.plain).flatMap entryB ++ (numB 4 (j : Int) ++ vs))) by
            rw [HDA.out, List.take_of_length_le (by rw [HVN.out]; exact Nat.le_refl _)])
          go_wp2_with fail
          have hpz2 := hpz
          have hn40 : n + 2 ≤ 100000000 := by have := HNK.out; have := HN0.out; omega
          refine heldS_begin (fun w' => Below (w.heap.size + 1) w0 w') (by kernel_rfl) (Below.drew hbel) ?_
          intro hS0
          (first | (refine takeS_no 0 rfl (by kernel_rfl) (by kernel_rfl) (by kernel_rfl) (fun _ _ _ h => h) (by rfl) (by assumption) ?_) | (refine takeS_yes (v := ?_) 0 rfl (by kernel_rfl) (by kernel_rfl) (by kernel_rfl) (fun _ _ _ h => h) (by rfl) (by assumption) ?_ ?_; rotate_left; focus (intro wS hSw; obtain ⟨d0, d1, d2, d3, d4, d5, d6, d7, d8, d9, d10, d11⟩ := HD.out wS hSw; go_simp; first | done | with_reducible rfl)))
          (try simp only [Act.put, List.setIfInBounds_toArray, List.set_cons_zero, List.set_cons_succ])
          (first | (refine takeS_no 1 rfl (by kernel_rfl) (by kernel_rfl) (by kernel_rfl) (fun _ _ _ h => h) (by rfl) (by assumption) ?_) | (refine takeS_yes (v := ?_) 1 rfl (by kernel_rfl) (by kernel_rfl) (by kernel_rfl) (fun _ _ _ h => h) (by rfl) (by assumption) ?_ ?_; rotate_left; focus (intro wS hSw; obtain ⟨d0, d1, d2, d3, d4, d5, d6, d7, d8, d9, d10, d11⟩ := HD.out wS hSw; go_simp; first | done | with_reducible rfl)))
          (try simp only [Act.put, List.setIfInBounds_toArray, List.set_cons_zero, List.set_cons_succ])
          (first | (refine takeS_no 2 rfl (by kernel_rfl) (by kernel_rfl) (by kernel_rfl) (fun _ _ _ h => h) (by rfl) (by assumption) ?_) | (refine takeS_yes (v := ?_) 2 rfl (by kernel_rfl) (by kernel_rfl) (by kernel_rfl) (fun _ _ _ h => h) (by rfl) (by assumption) ?_ ?_; rotate_left; focus (intro wS hSw; obtain ⟨d0, d1, d2, d3, d4, d5, d6, d7, d8, d9, d10, d11⟩ := HD.out wS hSw; go_simp; first | done | with_reducible rfl)))
          (try simp only [Act.put, List.setIfInBounds_toArray, List.set_cons_zero, List.set_cons_succ])
          (first | (refine takeS_no 3 rfl (by kernel_rfl) (by kernel_rfl) (by kernel_rfl) (fun _ _ _ h => h) (by rfl) (by assumption) ?_) | (refine takeS_yes (v := ?_) 3 rfl (by kernel_rfl) (by kernel_rfl) (by kernel_rfl) (fun _ _ _ h => h) (by rfl) (by assumption) ?_ ?_; rotate_left; focus (intro wS hSw; obtain ⟨d0, d1, d2, d3, d4, d5, d6, d7, d8, d9, d10, d11⟩ := HD.out wS hSw; go_simp; first | done | with_reducible rfl)))
          (try simp only [Act.put, List.setIfInBounds_toArray, List.set_cons_zero, List.set_cons_succ])
          (first | (refine takeS_no 5 rfl (by kernel_rfl) (by kernel_rfl) (by kernel_rfl) (fun _ _ _ h => h) (by rfl) (by assumption) ?_) | (refine takeS_yes (v := ?_) 5 rfl (by kernel_rfl) (by kernel_rfl) (by kernel_rfl) (fun _ _ _ h => h) (by rfl) (by assumption) ?_ ?_; rotate_left; focus (intro wS hSw; obtain ⟨d0, d1, d2, d3, d4, d5, d6, d7, d8, d9, d10, d11⟩ := HD.out wS hSw; go_simp; first | done | with_reducible rfl)))
          (try simp only [Act.put, List.setIfInBounds_toArray, List.set_cons_zero, List.set_cons_succ])
          (first | (refine takeS_no 6 rfl (by kernel_rfl) (by kernel_rfl) (by kernel_rfl) (fun _ _ _ h => h) (by rfl) (by assumption) ?_) | (refine takeS_yes (v := ?_) 6 rfl (by kernel_rfl) (by kernel_rfl) (by kernel_rfl) (fun _ _ _ h => h) (by rfl) (by assumption) ?_ ?_; rotate_left; focus (intro wS hSw; obtain ⟨d0, d1, d2, d3, d4, d5, d6, d7, d8, d9, d10, d11⟩ := HD.out wS hSw; go_simp; first | done | with_reducible rfl)))
          (try simp only [Act.put, List.setIfInBounds_toArray, List.set_cons_zero, List.set_cons_succ])
          have hdr := (Below.refl wr.heap.size wr).drew
          have hzd : pb ≤ wr.drew.heap.size := Nat.le_trans hpz hdr.size
          have HPD := Lib.hid (HPA.out.below hdr)
          clear HPA hdr
          generalize wr.drew = wd at hS0 hzd HPD ⊢
          refine takeS_alone 4 rfl (by kernel_rfl) (by rfl) (fun K hK => ?_)
          go_simp
          (refine (lcount_any im _ wd rfl (by have h := HFN.out.ln; rw [← HIM.out]; dsimp only at h; omega)).mono ?_; rintro e x1 ⟨a1, n1, k1, rfl, hB1, hb5⟩; obtain rfl : n1 = 4 := (by rw [← hB1.len, numB_len]); have hS1 := hS0.trans (hb5.mono (Nat.le_trans hs2b hzd)); have hz1 := Nat.le_trans hzd hb5.size; have HP1 := Lib.hid (HPD.out.below hb5); have hfar := far_own HPD.out hB1.row (Nat.le_refl _); have hown := pt_own (L := numB 4 (im : Int)) hB1.row (numB_wf 4 _); clear hB1 hb5)
          refine hK.out _ _ (by assumption) ?_
          clear hK K
          (try simp only [Act.put, List.setIfInBounds_toArray, List.set_cons_zero, List.set_cons_succ])
          refine takeS_alone 7 rfl (by kernel_rfl) (by rfl) (fun K hK => ?_)
          go_simp
          (have hal := (Below.refl x1.heap.size x1).alloc (Nat.le_refl _) (.cells #[.slice a1 4 k1, .slice io im ic] 25); have hlit := heap_alloc_new x1 (.cells #[.slice a1 4 k1, .slice io im ic] 25); have hS2 := hS1.trans (hal.mono (Nat.le_trans hs2b hz1)); have hz2 := Nat.le_trans hz1 hal.size; have HP2 := Lib.hid (HP1.out.below hal); have ho4 := (hown.2.below hal (Nat.le_refl _)).mono hal.size; have hok := hown.1; have him4 := (HX.out.2.2.below (hbx.trans (hS2.mono (Nat.le_succ _))) (Nat.le_refl _)).mono (show w.heap.size ≤ (x1.alloc (.cells #[.slice a1 4 k1, .slice io im ic] 25)).heap.size by omega); obtain ⟨xb, hxb⟩ : ∃ xb, x1.heap.size = xb := ⟨_, rfl⟩; rw [hxb] at hlit ⊢; clear hal hown HP1; generalize x1.alloc (.cells #[.slice a1 4 k1, .slice io im ic] 25) = x2 at hlit hS2 hz2 HP2 ho4 him4 ⊢; have HL2 := Lib.hid hlit; have HARG := Lib.hid (show ∀ q ∈ [(⟨a1, k1, numB 4 (im : Int)⟩ : Pt), ⟨io, ic, ib⟩], BytesIn x2 x2.heap.size q.ao q.data ∧ (q.data ≠ [] → ∀ ad, q.ao = some ad → (Value.slice a n c).ownBlock ≠ some ad.block) ∧ PtOk q from arg_two (h1 := ho4) (h2 := him4) (hf1 := hfar) (hf2 := fun hne ad had e => by have h1 := (HP2.out.lt _ e).1; have h2 := bytes_block HX.out.2.2 hne had; omega) (ho1 := hok) (ho2 := ⟨HFN.out.im, HFN.out.inil, HFN.out.icap⟩)); clear hlit ho4 him4 hfar hok)
          refine hK.out _ _ (by assumption) ?_
          clear hK K
          (try simp only [Act.put, List.setIfInBounds_toArray, List.set_cons_zero, List.set_cons_succ])
          refine takeS_alone 8 rfl (by kernel_rfl) (by rfl) (fun K hK => ?_)
          skip
          (refine oper_append_parts (.tmp 80) (.tmp 87) rfl pb rfl HP2.out xb 2 #[.slice a1 4 k1, .slice io im ic] [(⟨a1, k1, numB 4 (im : Int)⟩ : Pt), ⟨io, ic, ib⟩] rfl HL2.out (by rw [← HIM.out]; rfl) rfl HARG.out hn40 hz2 ?_; intro a2 c2 x3 hp3 hg3; have hS3 := hS2.grown hg3 (Nat.le_trans hs2b hz2) (fun k hk => Nat.le_trans hs2b (HP2.out.lt k hk).1); have hz3 := Nat.le_trans hz2 hg3.size; have HP3 := Lib.hid hp3; clear hp3 hg3)
          refine hK.out _ _ (by assumption) ?_
          clear hK K
          (try simp only [Act.put, List.setIfInBounds_toArray, List.set_cons_zero, List.set_cons_succ])
          (first | (refine takeS_no 9 rfl (by kernel_rfl) (by kernel_rfl) (by kernel_rfl) (fun _ _ _ h => h) (by rfl) (by assumption) ?_) | (refine takeS_yes (v := ?_) 9 rfl (by kernel_rfl) (by kernel_rfl) (by kernel_rfl) (fun _ _ _ h => h) (by rfl) (by assumption) ?_ ?_; rotate_left; focus (intro wS hSw; obtain ⟨d0, d1, d2, d3, d4, d5, d6, d7, d8, d9, d10, d11⟩ := HD.out wS hSw; go_simp; first | done | with_reducible rfl)))
          (try simp only [Act.put, List.setIfInBounds_toArray, List.set_cons_zero, List.set_cons_succ])
          refine wpAnyH_done (by kernel_rfl) ?_ _
          have HALL := Lib.hid (show (qs ++ [(⟨a1, k1, numB 4 (im : Int)⟩ : Pt), ⟨io, ic, ib⟩]).flatMap Pt.data = bytesL lp by
            rw [List.flatMap_append, HDB.out, bytesL_head, ← HLN.out]
            have e1 := HEN.out
            have e2 := HVN.out
            have e3 := HIM.out
            simp only [Lt.plain, List.length_map, e1, e2, e3]
            simp)
          clear HDB HDA HNK HN0 hz1 hz2 hS1 hS2 HL2 HARG HP2 HPD
          obtain ⟨n9', hn9'⟩ : ∃ m, n + 2 = m := ⟨_, rfl⟩
          rw [hn9'] at HP3 ⊢
          obtain ⟨zs, hzs⟩ : ∃ zs, qs ++ [(⟨a1, k1, numB 4 (im : Int)⟩ : Pt), ⟨io, ic, ib⟩] = zs := ⟨_, rfl⟩
          rw [hzs] at HP3 HALL
          have hblen : (bytesL lp).length ≤ 10000000000 := by
            rw [bytesL_head, ← HLN.out]
            have h1 := flat_bound (es := es) (M := 500000000) (fun e he => by
              have h := HFN.out.es e he
              have h1 := h.text
              have h2 := h.size
              have h3 := h.vn
              rw [entryB_len]
              show 42 + e.text.size + (valuesB e.args).length + 8 * e.vs.length ≤ _
              omega)
            have h2 := HFN.out.ln
            have h3 : es.length ≤ 16 := by rw [HEN.out]; exact hen16
            have h4 := Nat.mul_le_mul_right 500000000 h3
            simp only [Lt.plain, List.length_append, headL_len, numB_len]
            rw [HVN.out]
            dsimp only at h2
            omega
          have HBL := Lib.hid hblen
          have hn41 : n9' ≤ 100000000 := by omega
          clear hn9' hzs hblen
          go_wp2_with fail
          refine (wjoin_x a2 n9' c2 zs (bytesL lp) x3 x3.heap.size HP3.out.len HALL.out HP3.out.in (Nat.le_refl _) (fun q hq => (HP3.out.ok q hq).1) HP3.out.cap (by have := HBL.out; omega) (by omega)).mono ?_
          rintro e x4 ⟨a4, c4, rfl, hj1, hj2, hj3, hj4, hj6, hj5⟩
          have HJ := Lib.hid (And.intro hj1 (And.intro hj2 (And.intro hj3 (And.intro hj4 hj6))))
          have hfin := hbx.trans ((hS3.trans (hj5.mono (Nat.le_trans hs2b hz3))).mono (Nat.le_succ _))
          have hpl : putL2 lp = if 1048576 < (bytesL lp).length then ([], 3) else (bytesL lp, 0) := by
            unfold putL2
            rw [if_neg (by rw [← HLN.out, HR.out]; simp)]
          have hpp := HP.out
          rw [HLN.out, hpl] at hpp
          have HPP := Lib.hid hpp
          have hx3 : w.heap.size ≤ x3.heap.size := by omega
          obtain ⟨bl, hbl⟩ : ∃ bl, (bytesL lp).length = bl := ⟨_, rfl⟩
          rw [hbl] at HPP ⊢
          have HBLN := Lib.hid hbl
          clear hj1 hj2 hj3 hj4 hj5 hj6 hpl hpp hbl HP
          by_cases hlong : 1048576 < bl
          · have j1 : (1048576 : Int) < bl := by omega
            have j2 : decide ((1048576 : Int) < bl) = true := decide_eq_true j1
            have hres := HPP.out
            rw [if_pos hlong] at hres
            simp only [Prod.mk.injEq] at hres
            have HRES := Lib.hid hres
            clear hres
            go_wp2_with fail
            go_ret2
            obtain ⟨rfl, rfl⟩ := HRES.out
            exact ⟨none, 0, rfl, Or.inl rfl, fun _ => rfl, Nat.le_refl _, (fun _ h => by cases h), FreeRow.nil, Or.inl rfl, hfin⟩
          · have j1 : ¬ (1048576 : Int) < bl := by omega
            have j2 : decide ((1048576 : Int) < bl) = false := decide_eq_false j1
            have hres := HPP.out
            rw [if_neg hlong] at hres
            simp only [Prod.mk.injEq] at hres
            have HRES := Lib.hid hres
            clear hres
            go_wp2_with fail
            go_ret2
            obtain ⟨rfl, rfl⟩ := HRES.out
            obtain ⟨k1, k2, k3, k4, k6⟩ := HJ.out
            exact ⟨a4, c4, by rw [HBLN.out]; rfl, k1, k2, k3, fun ad had => Nat.le_trans hx3 (k4 ad had), FreeRow.le k6 hx3, Or.inr (bytesL_pos lp), hfin⟩
theorem lput_any (l : Lt) (w : World) (hx : ltSub w w.heap.size l) (hf : LtFine l) (bs : List Int) (er : Int) (hp : putL2 l.plain = (bs, er)) :
    Calls Tryd.prog 7 #[ltVal l] w (PutAt bs er w) :=
  (lput_x l w hx hf bs er hp).mono fun _ _ ⟨a, c, h1, h2, h3, h4, h5, _, _, h8⟩ => ⟨a, c, h1, h2, h3, h4, h5, h8⟩
end Go.Proofs.YthdpfchbomaigaaDoor
