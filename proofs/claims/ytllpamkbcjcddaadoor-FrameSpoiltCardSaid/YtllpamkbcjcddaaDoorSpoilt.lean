/- The law FrameSpoilt, walked: it returns true, and nothing that was there is changed. Conditions: the arguments are read as the row reads them. -/
import Derived.Test.YtllpamkbcjcddaaDoorTorn
import Derived.Test.YtllpamkbcjcddaaDoorSpoilPlain
namespace Go.Proofs.YtllpamkbcjcddaaDoor
open Go.RowKit

/-- The law's frame, and what stands ahead of it and behind it. -/
theorem putB_split {fs : List Fr} {k : Nat} (h : k < fs.length) : putB fs = putB (fs.take k) ++ (frameB (fs.getD k Fr.zero).kind (fs.getD k Fr.zero).data ++ putB (fs.drop (k + 1))) := by
  conv => lhs; rw [← List.take_append_drop k fs, List.drop_eq_getElem_cons h]
  unfold putB
  rw [List.flatMap_append, List.flatMap_cons]
  simp [List.getD, List.getElem?_eq_getElem h]
theorem bit_val {T q : Nat} (hT : T < 4294967296) : bits .and .u32 ((T : Int) / 2 ^ q) 1 = ((T / 2 ^ q % 2 : Nat) : Int) := by
  have h := and_one (T / 2 ^ q) (Nat.lt_of_le_of_lt (Nat.div_le_self _ _) hT)
  rw [← h]
  congr 1
theorem set_mid (A d P : List Int) (i : Nat) (u : Int) (h : i < d.length) : (A ++ (d ++ P)).set (A.length + i) u = A ++ (d.set i u ++ P) := by
  rw [List.set_append_right _ _ (by omega), Nat.add_sub_cancel_left, List.set_append_left _ _ h]
theorem get_mid (A d P : List Int) (i : Nat) (h : i < d.length) : (A ++ (d ++ P))[A.length + i]? = some (d.getD i 0) := by
  rw [List.getElem?_append_right (by omega), Nat.add_sub_cancel_left, List.getElem?_append_left h, List.getElem?_eq_getElem h]
  simp [List.getD, List.getElem?_eq_getElem h]
theorem own_in {w : World} {base n g cap : Nat} {l : List Int} (h : w.ownsRow base 5 1 (.slice (some ⟨g, 0, none⟩) n cap) n (l.map bv)) (hl : l.length = n) : BytesIn w w.heap.size (some ⟨g, 0, none⟩) l := by
  refine Or.inr ⟨g, 0, rfl, (h.lt g rfl).2, fun i hi => ?_⟩
  rw [Nat.zero_add, World.ownsRow.cellAt h i (by omega)]
  simp [bv, List.getD, List.getElem?_eq_getElem hi]
theorem xor_val {x : Int} {z : Nat} (hx : 0 ≤ x ∧ x < 256) (hz : z < 8) : bits .xor .u8 x ((2 : Int) ^ z % 256) = ((x.toNat ^^^ 2 ^ z : Nat) : Int) := by
  have h2 : 2 ^ z < 2 ^ 8 := Nat.pow_lt_pow_right (by decide) hz
  have e : (2 : Int) ^ z % 256 = ((2 ^ z : Nat) : Int) := by
    have e0 : (2 : Int) ^ z = ((2 ^ z : Nat) : Int) := by simp
    rw [e0]
    generalize 2 ^ z = p at h2
    omega
  have := u8_xor_nat x.toNat (2 ^ z) (by omega) (by omega)
  rw [Int.toNat_of_nonneg hx.1] at this
  rw [e]; exact this
/-- What the loop holds: so many of the bits are turned. -/
def TurnAt (kd : Int) (dt d : List Int) (at' t k : Nat) : Prop := d.length = dt.length ∧ BytesWf d ∧ numN (kd :: d) = numN (kd :: dt) ^^^ (2 ^ (at' + 8) * (t % 2 ^ k))
theorem turn_zero {kd : Int} {dt : List Int} (hw : BytesWf dt) (at' t : Nat) : TurnAt kd dt dt at' t 0 := by
  refine ⟨rfl, hw, ?_⟩
  rw [Nat.pow_zero, Nat.mod_one, Nat.mul_zero, Nat.xor_zero]
theorem turn_no {kd : Int} {dt d : List Int} {at' t k : Nat} (h : TurnAt kd dt d at' t k) (hb : t / 2 ^ k % 2 ≠ 1) : TurnAt kd dt d at' t (k + 1) := by
  refine ⟨h.1, h.2.1, ?_⟩
  rw [turned_at, if_neg hb, Nat.xor_zero]
  exact h.2.2
theorem turn_yes {kd : Int} {dt d : List Int} {at' t k : Nat} (h : TurnAt kd dt d at' t k) (hb : t / 2 ^ k % 2 = 1) (hl : (at' + k) / 8 < d.length) : TurnAt kd dt (d.set ((at' + k) / 8) (((d.getD ((at' + k) / 8) 0).toNat ^^^ 2 ^ ((at' + k) % 8) : Nat) : Int)) at' t (k + 1) := by
  refine ⟨by rw [List.length_set]; exact h.1, fun x hx => ?_, ?_⟩
  · rcases List.mem_or_eq_of_mem_set hx with hx | hx
    · exact h.2.1 x hx
    · rw [hx]
      have h1 := h.2.1 _ (bytes_mem hl)
      have h2 : 2 ^ ((at' + k) % 8) < 2 ^ 8 := Nat.pow_lt_pow_right (by decide) (by omega)
      have := Nat.xor_lt_two_pow (n := 8) (x := (d.getD ((at' + k) / 8) 0).toNat) (y := 2 ^ ((at' + k) % 8)) (by omega) h2
      omega
  · have hs := num_set (kd :: d) ((at' + k) / 8 + 1) ((at' + k) % 8) (by simpa using hl)
    have e1 : (kd :: d).getD ((at' + k) / 8 + 1) 0 = d.getD ((at' + k) / 8) 0 := rfl
    have e2 : ∀ u, (kd :: d).set ((at' + k) / 8 + 1) u = kd :: d.set ((at' + k) / 8) u := fun _ => rfl
    rw [e1, e2] at hs
    rw [hs, h.2.2, turned_at, if_pos hb, Nat.xor_assoc]
    congr 3
    omega
theorem turn_end {kd : Int} {dt d : List Int} {at' t : Nat} (h : TurnAt kd dt d at' t 32) (ht : t < 4294967296) (ht0 : t ≠ 0) (hat : at' ≤ 8 * dt.length) : sumS (kd :: dt) ≠ sumS (kd :: d) := by
  have h1 := h.2.2
  rw [Nat.mod_eq_of_lt ht] at h1
  refine sum_differs (at' := at' + 8) (by simp [h.1]) ht ht0 (by simp; omega) h1
/-- Frames of which one was turned are scanned up to that one. -/
theorem scan_spoilt {pre : List (Int × List Int)} {kd : Int} {dt d P : List Int} (hp : ∀ p ∈ pre, okP p) (hl : dt.length ≤ 1048576) (hd : d.length = dt.length) (hs : sumS (kd :: dt) ≠ sumS (kd :: d)) :
    scanS (putP pre ++ ((fourB dt.length ++ [kd] ++ fourB (sumS (kd :: dt)) ++ d) ++ P)) = (pre, (putP pre).length, true) := by
  rw [scan_put pre hp, scanS_stop (step_bad hl hd hs)]
  simp [joinS]

set_option maxHeartbeats 4000000 in
theorem spoilt_any (W : World) (ao : Option Addr) (n cap : Nat) (fs : List Fr) (hn : fs.length = n) (hx : FramesIn W W.heap.size ao fs) (hq : ∀ f ∈ fs, FrArg f) (hnc : n ≤ cap) (hcm : cap ≤ maxLen) (hz : n ≤ 1099511627776000)
    (c0 : Int) (a0 : Int) (T : Nat) (hT : T < 4294967296) :
    Calls Tryd.prog 5 #[.slice ao n cap, .int .i64 c0, .int .i64 a0, .int .u32 (T : Int)] W fun e w' => e = .returned (.bool true) ∧ Below W.heap.size W w' := by
  unfold maxLen at hcm
  have HX := Lib.hid hx
  have HQ := Lib.hid hq
  have HN := Lib.hid hn
  clear hx hq hn
  go_enter Tryd.func5, Tryd.ntmps5
  go_wp2_with fail
  refine (awake03_any _).mono ?_
  rintro e w1 ⟨rfl, hb1⟩
  have hs1 := hb1.size
  go_wp2_with fail
  by_cases hg : 20000 < (putB fs).length
  · refine (great_at ao n cap fs true w1 _ HN.out (by simpa using hg) (HX.out.below hb1 (Nat.le_refl _)) hs1 HQ.out hz).mono ?_
    rintro e w' ⟨rfl, rfl⟩
    go_wp2_with fail
    go_ret
    exact ⟨rfl, hb1⟩
  refine (great_at ao n cap fs false w1 _ HN.out (by simpa using hg) (HX.out.below hb1 (Nat.le_refl _)) hs1 HQ.out hz).mono ?_
  rintro e w' ⟨rfl, rfl⟩
  by_cases hn0 : n = 0
  · subst hn0
    go_wp2_with fail
    go_ret
    exact ⟨rfl, hb1⟩
  have i1 : ((n : Int) == 0) = false := by simp; omega
  by_cases hT0 : T = 0
  · subst hT0
    go_wp2_with fail
    go_ret
    exact ⟨rfl, hb1⟩
  have i2 : ((T : Int) == 0) = false := by simp; omega
  have hcount := putB_count fs
  have hn9 : n ≤ 20000 := by have := HN.out; omega
  have HL20 := Lib.hid (show ∀ f ∈ fs, f.data.length ≤ 20000 from fun f hf => by have := putB_mem hf; omega)
  have HF := Lib.hid (show ∀ f ∈ fs, FrWf f from fun f hf => (HQ.out f hf).wf (by have := HL20.out f hf; omega))
  clear hcount
  have h0 := Int.emod_nonneg c0 (show (n : Int) ≠ 0 by omega)
  have h1 := Int.emod_lt_of_pos c0 (show (0 : Int) < (n : Int) by omega)
  obtain ⟨k, hk⟩ : ∃ k : Nat, c0 % (n : Int) = k := ⟨_, (Int.toNat_of_nonneg h0).symm⟩
  rw [hk] at h1
  have HK := Lib.hid hk
  clear hk h0
  have hkn : k < n := by omega
  go_wp2_with fail
  refine (pick_at c0 _ k (by omega) (by omega) HK.out w1).mono ?_
  rintro e w' ⟨rfl, rfl⟩
  have HXw := Lib.hid (HX.out.below hb1 (Nat.le_refl _))
  have hkl : k < fs.length := by have := HN.out; omega
  rcases HX.out with h0 | ⟨b, off, rfl, hb, hc⟩
  · rw [h0] at hkl; simp at hkl
  obtain ⟨_, c1, _⟩ := hc k hkl
  rw [← hb1.cell (p := ⟨b, _, none⟩) hb] at c1
  have hmem : fs.getD k Fr.zero ∈ fs := by simp [List.getD, List.getElem?_eq_getElem hkl]
  have hfl := HL20.out _ hmem
  have hfq := HQ.out _ hmem
  have HSP := Lib.hid (putB_split hkl)
  obtain ⟨f, hf⟩ : ∃ f, f = fs.getD k Fr.zero := ⟨_, rfl⟩
  rw [← hf] at c1 hfl hfq hmem
  have HFE := Lib.hid hf
  clear hf hc
  obtain ⟨kd, fa, fc, dt⟩ := f
  dsimp only at c1 hfl
  have HFQ := Lib.hid hfq
  have HME := Lib.hid hmem
  clear hfq hmem
  go_wp2_with fail
  by_cases hE : putE fs = 0
  rotate_left
  · obtain ⟨E, hEE⟩ : ∃ E, putE fs = E := ⟨_, rfl⟩
    have HE := Lib.hid hEE
    have hE0 : ¬ E = 0 := hEE ▸ hE
    clear hE hEE
    refine (put_bad _ n cap fs E w1 _ HN.out HE.out HXw.out hs1 HF.out hE0 (by omega) (by omega)).mono ?_
    rintro e wq ⟨rfl, hb2⟩
    have hq := hb1.trans (hb2.mono hs1)
    go_wp2_with fail
    go_ret
    exact ⟨rfl, hq⟩
  have HO := Lib.hid (putE_zero hE)
  clear hE
  obtain ⟨bs, hbs⟩ : ∃ bs, putB fs = bs := ⟨_, rfl⟩
  have HBS := Lib.hid hbs
  have hbl : bs.length ≤ 20000 := by rw [← hbs]; omega
  have hwb : BytesWf bs := by rw [← hbs]; exact putB_wf HO.out (fun f hf => (HQ.out f hf).2.2.1)
  clear hg hbs
  refine (put_ok _ n cap fs bs w1 HN.out (HXw.out.mono hs1) HF.out HO.out HBS.out (by omega) (by omega)).mono ?_
  rintro e w2 ⟨v, rfl, hown, hb2⟩
  have hbel2 := hb1.trans (hb2.mono hs1)
  have hs2 := hbel2.size
  have hsplit := HSP.out
  rw [HBS.out, ← HFE.out] at hsplit
  dsimp only at hsplit
  have hlen := congrArg List.length hsplit
  rw [List.length_append, List.length_append, frameB_len] at hlen
  obtain ⟨g, cap3, rfl⟩ := Go.Joins.ownsRow_form hown (by omega)
  have hcap3 := own_cap hown
  have HO2 := Lib.hid hown
  have HSPL := Lib.hid hsplit
  have HLEN := Lib.hid hlen
  clear hown hsplit hlen
  by_cases h4 : dt.length < 4
  · have i4 : (dt.length : Int) < 4 := by omega
    go_wp2_with fail
    go_ret
    exact ⟨rfl, hbel2⟩
  have i4 : ¬ (dt.length : Int) < 4 := by omega
  go_wp2_with fail
  go_loopw [12, 13] (fun v i wr => wr = w2 ∧ ∃ j m : Nat, j ≤ k ∧ i = .int .i64 j ∧ v = .int .i64 m ∧ m = (putB (fs.take j)).length ∧ m ≤ 20000) (fun _ i _ => k - (intOf i).toNat)
  case atStart => exact ⟨rfl, 0, 0, by omega, rfl, rfl, by simp [putB], by decide⟩
  case round =>
    obtain ⟨rfl, j, m, hj, rfl, rfl, hm, hm2⟩ := hrel
    have HM := Lib.hid hm
    clear hm
    by_cases hlt : j < k
    · have hjl : j < fs.length := by omega
      rcases HX.out with h0 | ⟨b', off', hbe, _, hc⟩
      · rw [h0] at hjl; simp at hjl
      cases hbe
      obtain ⟨_, d1, _⟩ := hc j hjl
      rw [← hbel2.cell (p := ⟨b, _, none⟩) hb] at d1
      have htk : fs.take (j + 1) = fs.take j ++ [fs.getD j Fr.zero] := by rw [List.take_succ_eq_append_getElem hjl]; simp [List.getD, List.getElem?_eq_getElem hjl]
      have hput : (putB (fs.take (j + 1))).length = (putB (fs.take j)).length + (9 + (fs.getD j Fr.zero).data.length) := by
        rw [htk, putB_snoc, List.length_append, frameB_len]
      have hbig : (putB (fs.take (j + 1))).length ≤ (putB fs).length := putB_take fs (j + 1)
      rw [HBS.out] at hbig
      generalize fs.getD j Fr.zero = f' at d1 hput
      obtain ⟨fk', fa', fc', fd'⟩ := f'
      dsimp only at d1 hput
      rw [← HM.out] at hput
      have hmm : m + (9 + fd'.length) ≤ 20000 := by omega
      have HP := Lib.hid hput
      have i5 : (j : Int) < k := by omega
      clear hc htk hput hbig
      go_wp2_with fail
      go_roundw
      case rel => exact ⟨trivial, j + 1, m + (9 + fd'.length), by omega, by go_num, by go_num, HP.out.symm, hmm⟩
      case measure => simp [intOf]; omega
    · obtain rfl : j = k := by omega
      have hml := HM.out
      have hlen := HLEN.out
      have i6 : ¬ (bs.length : Int) < (m : Int) + 9 + dt.length := by omega
      clear hlen
      have g0 := Int.emod_nonneg a0 (show (8 * (dt.length : Int) - 31) ≠ 0 by omega)
      have g1 := Int.emod_lt_of_pos a0 (show (0 : Int) < 8 * (dt.length : Int) - 31 by omega)
      obtain ⟨t, ht⟩ : ∃ t : Nat, a0 % (8 * (dt.length : Int) - 31) = t := ⟨_, (Int.toNat_of_nonneg g0).symm⟩
      rw [ht] at g1
      have HTT := Lib.hid ht
      clear ht g0 hml
      go_wp2_with fail
      refine (pick_at a0 _ t (by omega) (by omega) HTT.out wr).mono ?_
      rintro e w' ⟨rfl, rfl⟩
      go_wp2_with fail
      obtain ⟨A, hA⟩ : ∃ A, A = putB (fs.take j) ++ (fourB dt.length ++ [kd] ++ fourB (sumS (kd :: dt))) := ⟨_, rfl⟩
      obtain ⟨P, hP⟩ : ∃ P, P = putB (fs.drop (j + 1)) := ⟨_, rfl⟩
      have hsp := HSPL.out
      unfold frameB at hsp
      rw [← hP] at hsp
      have hsA : bs = A ++ (dt ++ P) := by rw [hsp, hA]; simp only [List.append_assoc]
      have hAl : A.length = m + 9 := by rw [hA, List.length_append, ← HM.out]; simp [fourB]
      have HAE := Lib.hid hA
      have HSA := Lib.hid hsA
      clear hA hP hsp hsA
      have HNL := Lib.hid (show bs.length = A.length + (dt.length + P.length) by rw [HSA.out]; simp)
      have hown0 : wr.ownsRow w1.heap.size 5 1 (.slice (some ⟨g, 0, none⟩) bs.length cap3) bs.length ((A ++ (dt ++ P)).map bv) := by rw [← HSA.out]; exact HO2.out
      have HAL := Lib.hid hAl
      clear hAl
      have hwdt : BytesWf dt := HFQ.out.2.2.1
      obtain ⟨hg1, hg2⟩ := HO2.out.lt g rfl
      obtain ⟨wo, rfl⟩ : ∃ wo : World, wo = wr := ⟨_, rfl⟩
      go_loopw [14, 15] (fun i _ wx => ∃ (q : Nat) (d : List Int), q ≤ 32 ∧ i = .int .i64 q ∧ TurnAt kd dt d t T q ∧ wx.ownsRow w1.heap.size 5 1 (.slice (some ⟨g, 0, none⟩) bs.length cap3) bs.length ((A ++ (d ++ P)).map bv) ∧ Below W.heap.size W wx) (fun i _ _ => 32 - (intOf i).toNat)
      case atStart => exact ⟨0, dt, by omega, rfl, turn_zero hwdt _ _, hown0, hbel2⟩
      case round =>
        clear hown0
        obtain ⟨q, d, hq32, rfl, hturn, hown, hbel⟩ := hrel
        have HTN := Lib.hid hturn
        have HOW := Lib.hid hown
        clear hturn hown
        by_cases hlt : q < 32
        · have i7 : (q : Int) < 32 := by omega
          by_cases hbit : T / 2 ^ q % 2 = 1
          · have hb7 : (bits .and .u32 ((T : Int) / 2 ^ q) 1 == 1) = true := by rw [bit_val hT, hbit]; rfl
            have hdl : d.length = dt.length := HTN.out.1
            have hib : (t + q) / 8 < d.length := by omega
            have hyes := turn_yes HTN.out hbit hib
            obtain ⟨i, hi⟩ : ∃ i, i = (t + q) / 8 := ⟨_, rfl⟩
            obtain ⟨z, hz8⟩ : ∃ z, z = (t + q) % 8 := ⟨_, rfl⟩
            rw [← hi, ← hz8] at hyes
            rw [← hi] at hib
            have hz7 : z < 8 := by omega
            have d1 : ((t : Int) + (q : Int)) / 8 = (i : Int) := by omega
            have d2 : ((t : Int) + (q : Int)) % 8 = (z : Int) := by omega
            have hAl := HAL.out
            have hbn : (m : Int) + 9 + (i : Int) < bs.length := by have := HNL.out; omega
            have n1 : ((m : Int) + 9 + (i : Int)).toNat = m + 9 + i := by omega
            have ce : wr.cell? ⟨g, m + 9 + i, none⟩ = some (.int .u8 (d.getD i 0)) := by
              rw [World.ownsRow.cellAt HOW.out _ (by omega), List.getElem?_map, ← hAl, get_mid A d P i hib]
              rfl
            have fe : wr.frozen? ⟨g, m + 9 + i, none⟩ = false := World.ownsRow.frozenAt HOW.out _
            have hx8 := HTN.out.2.1 _ (bytes_mem hib)
            have hset := World.ownsRow.stored HOW.out (m + 9 + i) (.int .u8 (((d.getD i 0).toNat ^^^ 2 ^ z : Nat) : Int))
            obtain ⟨x, hx⟩ : ∃ x, x = d.getD i 0 := ⟨_, rfl⟩
            rw [← hx] at ce hx8 hyes hset
            have HY := Lib.hid hyes
            have HST := Lib.hid hset
            have HDL := Lib.hid hdl
            have HI := Lib.hid hi
            have HZ := Lib.hid hz8
            have HAL2 := Lib.hid hAl
            have hbit' := hbit
            have HV := Lib.hid (xor_val hx8 hz7)
            have HSM := Lib.hid (set_mid A d P i (((x.toNat ^^^ 2 ^ z : Nat) : Int)) hib)
            clear hyes hx hset hdl hi hz8 hAl hbit hbit'
            go_wp2_with fail
            go_roundw
            case rel => exact ⟨q + 1, d.set i (((x.toNat ^^^ 2 ^ z : Nat) : Int)), by omega, by go_num, HY.out, by rw [HV.out, ← HSM.out, List.map_set, HAL2.out]; exact HST.out.1, hbel.setCell (p := ⟨g, m + 9 + i, none⟩) (Nat.le_trans hs1 hg1) _⟩
            case measure => simp [intOf]; omega
          · have hb7 : (bits .and .u32 ((T : Int) / 2 ^ q) 1 == 1) = false := by rw [bit_val hT, show T / 2 ^ q % 2 = 0 by omega]; rfl
            have hno := Lib.hid (turn_no HTN.out hbit)
            clear hbit
            go_wp2_with fail
            go_roundw
            case rel => exact ⟨q + 1, d, by omega, by go_num, hno.out, HOW.out, hbel⟩
            case measure => simp [intOf]; omega
        · obtain rfl : q = 32 := by omega
          have hsx := hbel.size
          have hdl := HTN.out.1
          have hll : (A ++ (d ++ P)).length = bs.length := by rw [List.length_append, List.length_append, hdl, HNL.out]
          have hin := own_in HOW.out hll
          have hwA : ∀ x ∈ A, 0 ≤ x ∧ x < 256 := fun x hx => hwb x (by rw [HSA.out]; exact List.mem_append_left _ hx)
          have hwP : ∀ x ∈ P, 0 ≤ x ∧ x < 256 := fun x hx => hwb x (by rw [HSA.out]; exact List.mem_append_right _ (List.mem_append_right _ hx))
          have hwl : BytesWf (A ++ (d ++ P)) := fun x hx => by
            rcases List.mem_append.1 hx with hx | hx
            · exact hwA x hx
            · rcases List.mem_append.1 hx with hx | hx
              · exact HTN.out.2.1 x hx
              · exact hwP x hx
          have hpk : ∀ p ∈ (fs.take j).map Fr.pair, okP p := fun p hp => by
            obtain ⟨f, hf, rfl⟩ := List.mem_map.1 hp
            have hf' := List.mem_of_mem_take hf
            exact okP_of (HO.out f hf') (HQ.out f hf').2.2.1
          have hsum := turn_end HTN.out hT hT0 (by omega)
          have hscan : scanS (A ++ (d ++ P)) = ((fs.take j).map Fr.pair, m, true) := by
            have h1 := scan_spoilt (P := P) hpk (by omega) hdl hsum
            rw [putB_pairs, ← HM.out] at h1
            rw [← h1, HAE.out]
            simp only [List.append_assoc]
          have HLL := Lib.hid hll
          have HSCN := Lib.hid hscan
          clear hll hscan hdl hsum
          have hsll : ∀ w, (Instr.sliceAt 29 (.slice (some ⟨b, off, none⟩) n cap) none (some (.int .i64 (j : Int))) none).run Tryd.prog w = .ok (.slice (subA (some ⟨b, off, none⟩) cap 0 2) j cap) w := fun w => run_sub_h sliceFrame sizeFrame (some ⟨b, off, none⟩) n cap j (by omega) .i64 j rfl w
          obtain ⟨al, hal⟩ : ∃ al, al = subA (some ⟨b, off, none⟩) cap 0 2 := ⟨_, rfl⟩
          simp only [← hal] at hsll
          have HAL := Lib.hid hal
          clear hal
          go_wp2_with fail
          refine (scan_at _ _ cap3 (A ++ (d ++ P)) _ _ _ wr _ HLL.out HSCN.out hin (Nat.le_refl _) hwl (by simp) hcap3 (by omega)).mono ?_
          rintro e w6 ⟨v6, frs6, rfl, hmap6, hfo6, hb6⟩
          obtain ⟨a6, cap6, rfl, _, _, hin6⟩ := hfo6.lie
          have hbel6 := hbel.trans (hb6.mono hsx)
          have hs6 := hbel6.size
          have HM6 := Lib.hid hmap6
          have hd6 : ∀ f ∈ frs6, f.data.length ≤ 4611686018427387904 := by
            intro f hf
            have h1 : f.pair ∈ (fs.take j).map Fr.pair := by rw [← hmap6]; exact List.mem_map_of_mem hf
            have h3 := (hpk _ h1).2.2.1
            have e : f.pair.2 = f.data := rfl
            rw [e] at h3
            omega
          have HD6 := Lib.hid hd6
          have hl6 : frs6.length ≤ 20000 := by have h1 := congrArg List.length hmap6; simp at h1; omega
          clear hmap6 hfo6 hd6 hin hpk
          go_wp2_with fail
          refine (sameFs_any a6 _ cap6 al j cap frs6 (fs.take j) w6 rfl (by rw [List.length_take, HN.out]; omega) HM6.out hin6 (by rw [HAL.out]; exact ((HX.out.below hbel6 (Nat.le_refl _)).mono hs6).take cap j) (by omega) HD6.out).mono ?_
          rintro e wq ⟨rfl, hb7⟩
          have hq := hbel6.trans (hb7.mono hs6)
          clear hin6
          go_wp2_with fail
          go_ret
          exact ⟨rfl, hq⟩
end Go.Proofs.YtllpamkbcjcddaaDoor
