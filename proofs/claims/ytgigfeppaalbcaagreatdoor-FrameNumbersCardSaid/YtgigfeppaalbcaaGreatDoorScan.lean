/- frame.Scan: the frames that bytes begin with. Conditions: the bytes' cells lie as their reading says. -/
import Derived.Test.YtgigfeppaalbcaaGreatDoorFrames
import Derived.Test.YtgigfeppaalbcaaGreatDoorSaid
namespace Go.Proofs.YtgigfeppaalbcaaGreatDoor
open Go.RowKit
set_option maxRecDepth 20000

theorem step_a {b : List Int} (h : b.length < 4) : stepS b = .stop false := by unfold stepS; rw [if_pos h]
theorem step_b {b : List Int} (h : 4 ≤ b.length) (h2 : 1048576 < saidS b) : stepS b = .stop true := by unfold stepS; rw [if_neg (by omega), if_pos h2]
theorem step_c {b : List Int} (h : 4 ≤ b.length) (h2 : saidS b ≤ 1048576) (h3 : b.length < 9 + saidS b) : stepS b = .stop false := by unfold stepS; rw [if_neg (by omega), if_neg (by omega), if_pos h3]
theorem step_d {b : List Int} (h : 4 ≤ b.length) (h2 : saidS b ≤ 1048576) (h3 : 9 + saidS b ≤ b.length) (h4 : saidS (b.drop 5) ≠ sumS (kindS b :: dataS b)) : stepS b = .stop true := by
  unfold stepS; rw [if_neg (by omega), if_neg (by omega), if_neg (by omega), if_pos h4]
theorem step_e {b : List Int} (h : 4 ≤ b.length) (h2 : saidS b ≤ 1048576) (h3 : 9 + saidS b ≤ b.length) (h4 : saidS (b.drop 5) = sumS (kindS b :: dataS b)) : stepS b = .one (kindS b) (dataS b) := by
  unfold stepS; rw [if_neg (by omega), if_neg (by omega), if_neg (by omega), if_neg (by omega)]
theorem said_at (ao : Option Addr) (n cap : Nat) (xs : List Int) (z : Nat) (w : World) (B : Nat) (hn : xs.length = n) (hz : saidS xs = z) (hx : BytesIn w B ao xs) (hw : BytesWf xs) (hl : 4 ≤ n) (hm : n ≤ 1099511627776) :
    Calls Tryz.prog 37 #[.slice ao n cap] w fun e w' => e = .returned (.int .u32 z) ∧ Below w.heap.size w w' := by
  subst hz
  refine (said_any ao n cap xs w B hn hx hw (by omega) (by unfold maxLen; omega)).mono ?_
  rintro e w' ⟨h, k, rfl⟩
  exact ⟨h, below_drewN (Below.refl _ _) _⟩
theorem sum_at (ao : Option Addr) (n cap : Nat) (xs : List Int) (z : Nat) (w : World) (B : Nat) (hn : xs.length = n) (hz : sumS xs = z) (hx : BytesIn w B ao xs) (hw : BytesWf xs) (hl : n ≤ 4611686018427387904) :
    Calls Tryz.prog 23 #[.slice ao n cap] w fun e w' => e = .returned (.int .u32 z) ∧ w = w' := by
  subst hn hz
  exact sum_any ao cap xs w B hx hw hl
theorem clone_at (ao : Option Addr) (n cap : Nat) (xs : List Int) (w : World) (B : Nat) (hn : xs.length = n) (hx : BytesIn w B ao xs) (hB : B ≤ w.heap.size) (hao : ao = none → cap = 0) (hl : n ≤ 140737488351232) :
    Calls Tryz.prog 27 #[.slice ao n cap] w (ClonePost xs w) := by
  subst hn; exact clone_any ao cap xs w B hx hB hao hl
theorem said_lt {b : List Int} (hb : BytesWf b) : saidS b < 4294967296 := by
  have h : ∀ i, 0 ≤ b.getD i 0 ∧ b.getD i 0 < 256 := by
    intro i
    rcases Nat.lt_or_ge i b.length with h | h
    · exact hb _ (bytes_mem h)
    · rw [List.getD_eq_getElem?_getD, List.getElem?_eq_none h]; decide
  have h0 := h 0
  have h1 := h 1
  have h2 := h 2
  have h3 := h 3
  unfold saidS
  omega
theorem infoFrame : (Tryz.prog.info? 44).map (fun i => (i.zero, i.size, i.bytes)) = some (some (.agg #[.int .i64 0, .slice none 0 0]), 2, 32) := by kernel_rfl
theorem frame_cells_new (w : World) (T : TypeId) (x y : Value) : ∀ j u, [x, y][j]? = some u → (w.alloc (.cells #[x, y] T)).cell? ((⟨w.heap.size, 0, none⟩ : Addr).add j) = some u := by
  intro j u hu
  have hadd : (⟨w.heap.size, 0, none⟩ : Addr).add j = ⟨w.heap.size, j, none⟩ := by unfold Addr.add; split <;> simp_all
  rw [hadd, World.cell?_alloc_at _ _ _ _ rfl]
  simpa using hu
def ScanPost (xs : List Int) (w : World) (e : Ending) (w' : World) : Prop :=
  ∃ v frs, e = .returned (.tuple #[v, .int .i64 (scanS xs).2.1, .bool (scanS xs).2.2]) ∧ frs.map Fr.pair = (scanS xs).1 ∧ FramesOwn w' w.heap.size v frs ∧ Below w.heap.size w w'
theorem scan_post {xs : List Int} {w w' : World} {v : Value} {frs : List Fr} {used : Nat} {s : Bool} (h : scanS xs = (frs.map Fr.pair, used, s)) (ho : FramesOwn w' w.heap.size v frs) (hb : Below w.heap.size w w') : ScanPost xs w (.returned (.tuple #[v, .int .i64 used, .bool s])) w' :=
  ⟨v, frs, by rw [h], by rw [h], ho, hb⟩

set_option maxHeartbeats 2000000 in
theorem scan_any (ao : Option Addr) (cap : Nat) (xs : List Int) (w : World) (hx : BytesIn w w.heap.size ao xs) (hw : BytesWf xs) (hao : ao = none → cap = 0) (hcap : xs.length ≤ cap) (hl : xs.length ≤ 1099511627776) :
    Calls Tryz.prog 16 #[.slice ao xs.length cap] w (ScanPost xs w) := by
  obtain ⟨i0, hi, hz0, hz1, hz2⟩ := info_parts infoFrame
  have HX := Lib.hid hx
  have HA := Lib.hid hao
  have HC := Lib.hid hcap
  clear hx hao
  go_enter Tryz.func16, Tryz.ntmps16
  go_wp2_with fail
  go_loopw [2, 3, 5, 6, 7, 8] (fun v u l _ _ _ wr => ∃ (frs : List Fr) (used m c : Nat) (lo : Option Addr), u = .int .i64 used ∧ frs.length ≤ used ∧ m + used = xs.length ∧ m ≤ c ∧ l = .slice lo m c ∧ (lo = none → c = 0) ∧ BytesIn wr w.heap.size lo (xs.drop used) ∧ FramesOwn wr w.heap.size v frs ∧ scanS xs = joinS (frs.map Fr.pair) used (scanS (xs.drop used)) ∧ Below w.heap.size w wr) (fun _ u _ _ _ _ _ => xs.length - (intOf u).toNat)
  case atStart => exact ⟨[], 0, xs.length, cap, ao, rfl, by simp, by omega, hcap, rfl, HA.out, by simpa using HX.out, FramesOwn.nil _ _, by simp [joinS], Below.refl _ _⟩
  case round =>
    obtain ⟨frs, used, m, c, lo, rfl, hfl, hm, hmc, rfl, hlo, hbi, hfo, hsc, hbel⟩ := hrel
    have HL := Lib.hid hlo
    have HF := Lib.hid hfo
    have HS := Lib.hid hsc
    clear hlo hfo hsc hcap
    have hs := hbel.size
    obtain ⟨left, hleft⟩ : ∃ left, left = xs.drop used := ⟨_, rfl⟩
    have hwl : BytesWf left := by rw [hleft]; exact hw.drop used
    have HM := Lib.hid (show left.length = m by rw [hleft, List.length_drop]; omega)
    rw [← hleft] at hbi
    have HD := Lib.hid hleft
    clear hleft
    by_cases h4 : m < 4
    · have i1 : ¬ (4 : Int) ≤ m := by omega
      have hj := join_stop (s := false) (by rw [← HD.out]; exact step_a (by rw [HM.out]; exact h4)) HS.out
      have HJ := Lib.hid hj
      clear hj
      go_wp2_with fail
      go_ret3
      exact scan_post HJ.out HF.out hbel
    · have i1 : (4 : Int) ≤ m := by omega
      obtain ⟨n, hn⟩ : ∃ n, saidS left = n := ⟨_, rfl⟩
      have hn32 : n < 4294967296 := hn ▸ said_lt hwl
      have HN := Lib.hid hn
      clear hn
      go_wp2_with fail
      refine (said_at lo m c left n wr _ HM.out HN.out hbi hwl (by omega) (by omega)).mono ?_
      rintro e w1 ⟨rfl, hb1⟩
      have hbi1 := hbi.below hb1 hs
      have hfo1 := HF.out.below hb1 (Nat.le_refl _)
      have hbel1 := hbel.trans (hb1.mono hs)
      have HF1 := Lib.hid hfo1
      clear hfo1 HF hbi
      have hs1 := hbel1.size
      by_cases h5 : 1048576 < n
      · have i2 : (1048576 : Int) < n := by omega
        have hj := join_stop (s := true) (by rw [← HD.out]; exact step_b (by rw [HM.out]; omega) (by rw [HN.out]; exact h5)) HS.out
        have HJ := Lib.hid hj
        clear hj
        go_wp2_with fail
        go_ret3
        exact scan_post HJ.out HF1.out hbel1
      · have i2 : ¬ (1048576 : Int) < n := by omega
        by_cases h6 : m < 9 + n
        · have i3 : (m : Int) < 9 + (n : Int) := by omega
          have hj := join_stop (s := false) (by rw [← HD.out]; exact step_c (by rw [HM.out]; omega) (by rw [HN.out]; omega) (by rw [HM.out, HN.out]; exact h6)) HS.out
          have HJ := Lib.hid hj
          clear hj
          go_wp2_with fail
          go_ret3
          exact scan_post HJ.out HF1.out hbel1
        · have i3 : ¬ (m : Int) < 9 + (n : Int) := by omega
          have hHM := HM.out
          rcases hbi1 with h0 | ⟨b, off, hlo1, hbB, hc⟩
          · rw [h0] at hHM; simp at hHM; omega
          have hc4 := hc 4 (by omega)
          have hk4 := hwl _ (bytes_mem (k := 4) (xs := left) (by omega))
          have hbi1 : BytesIn w1 w.heap.size lo left := Or.inr ⟨b, off, hlo1, hbB, hc⟩
          have hd9 := hbi1.sub (cap := c) 9 n (by omega)
          have hd5 := hbi1.drop (cap := c) 5 (by omega)
          have ha9 : subA lo c 9 1 = none → c - 9 = 0 := fun h => by have := HL.out (subA_eq_none h); omega
          have hsl9 : ∀ w, (Instr.sliceAt 26 (.slice lo m c) (some (.int .i64 9)) (some (.int .i64 (9 + (n : Int)))) none).run Tryz.prog w = .ok (.slice (subA lo c 9 1) n (c - 9)) w := fun w => by
            have := run_sub_lh sliceByte sizeByte lo m c 9 (9 + n) (by omega) (by omega) .i64 .i64 9 (9 + (n : Int)) rfl (by omega) w
            rwa [Nat.add_sub_cancel_left] at this
          have hsl5 : ∀ w, (Instr.sliceAt 26 (.slice lo m c) (some (.int .i64 5)) none none).run Tryz.prog w = .ok (.slice (subA lo c 5 1) (m - 5) (c - 5)) w := fun w => run_sub_l sliceByte sizeByte lo m c 5 (by omega) .i64 5 rfl w
          have hks : kindS left = left.getD 4 0 := rfl
          have hds : dataS left = (left.drop 9).take n := by unfold dataS; rw [HN.out]
          have hdl : ((left.drop 9).take n).length = n := by rw [List.length_take, List.length_drop]; omega
          have hdw : BytesWf ((left.drop 9).take n) := (hwl.drop 9).take n
          subst hlo1
          clear hc hbi1 hHM
          obtain ⟨kd, hkd⟩ : ∃ kd, kd = left.getD 4 0 := ⟨_, rfl⟩
          rw [← hkd] at hc4 hk4 hks
          obtain ⟨dt, hdt⟩ : ∃ dt, dt = (left.drop 9).take n := ⟨_, rfl⟩
          rw [← hdt] at hd9 hds hdl hdw
          obtain ⟨a9, ha9e⟩ : ∃ a9, a9 = subA (some ⟨b, off, none⟩) c 9 1 := ⟨_, rfl⟩
          obtain ⟨a5, ha5e⟩ : ∃ a5, a5 = subA (some ⟨b, off, none⟩) c 5 1 := ⟨_, rfl⟩
          rw [← ha9e] at hd9 ha9
          simp only [← ha9e] at hsl9
          simp only [← ha5e] at hsl5
          rw [← ha5e] at hd5
          have HK := Lib.hid hks
          have HT := Lib.hid hds
          have H9 := Lib.hid ha9
          clear hkd hdt ha9e ha5e hks hds ha9
          subst hdl
          have n1 : IntKind.i64.wrap (9 + (dt.length : Int)) = 9 + (dt.length : Int) := IntWalk.i64_in _ (by omega)
          have l4 : (4 : Int) < m := by omega
          go_wp2_with fail
          go_quiet (fail)
          have hb2 : Below w1.heap.size w1 (w1.drewN nq) := below_drewN (Below.refl _ _) _
          generalize w1.drewN nq = w2 at hb2 ⊢
          have hfo2 := HF1.out.below hb2 (Nat.le_refl _)
          have hbel2 := hbel1.trans (hb2.mono hs1)
          have hd9' := hd9.below hb2 hs1
          have hd5' := hd5.below hb2 hs1
          have hs2 := hbel2.size
          have HF2 := Lib.hid hfo2
          clear hfo2 HF1 hd9 hd5 hc4 n1 hsl9
          obtain ⟨z, hz⟩ : ∃ z, saidS (left.drop 5) = z := ⟨_, rfl⟩
          have HZ := Lib.hid hz
          have H5L := Lib.hid (show (left.drop 5).length = m - 5 by rw [List.length_drop, HM.out])
          have hz32 : z < 4294967296 := hz ▸ said_lt (hwl.drop 5)
          clear hz
          go_wp2_with fail
          refine (said_at a5 (m - 5) (c - 5) (left.drop 5) z w2 _ H5L.out HZ.out hd5' (hwl.drop 5) (by omega) (by omega)).mono ?_
          rintro e w3 ⟨rfl, hb3⟩
          have hfo3 := HF2.out.below hb3 (Nat.le_refl _)
          have hbel3 := hbel2.trans (hb3.mono hs2)
          have hd3 := hd9'.below hb3 hs2
          have hs3 := hbel3.size
          have HF3 := Lib.hid hfo3
          clear hfo3 HF2 hd9' hd5' hsl5
          have hao3 := H9.out
          go_wp2_with (at_builtin; refine wpList_append_bytes rfl (.tmp 41) (.tmp 42) rfl w3.heap.size _ [kd] rfl (World.ownsRow_lit w3 #[.int .u8 kd] 1 (Nat.le_refl _) (by unfold maxLen; omega) rfl) a9 (c - 9) dt rfl w.heap.size (hd3.below ((Below.refl w.heap.size w3).alloc (by omega) _) (Nat.le_refl _)) hao3 (by simp; omega) (by simp) ?_)
          intro v4 w4 hown4 hg4
          have hb4 : Below w3.heap.size w3 w4 := ((Below.refl w3.heap.size w3).alloc (Nat.le_refl _) _).grown hg4 (by simp) (fun k hk => by cases hk; exact Nat.le_refl _)
          obtain ⟨a4, cap4, hv4, hD4⟩ := own_bytes (l := kd :: dt) hown4
          subst hv4
          have hw4 : BytesWf (kd :: dt) := by
            intro x hx
            rcases List.mem_cons.1 hx with hx | hx
            · rw [hx]; exact hk4
            · exact hdw x hx
          have hfo4 := HF3.out.below hb4 (Nat.le_refl _)
          have hbel4 := hbel3.trans (hb4.mono hs3)
          have hd4 := hd3.below hb4 hs3
          have hs4 := hbel4.size
          have HF4 := Lib.hid hfo4
          clear hown4 hg4 hfo4 HF3 hd3 hao3
          obtain ⟨sm, hsm⟩ : ∃ sm, sumS (kd :: dt) = sm := ⟨_, rfl⟩
          have HSM := Lib.hid hsm
          clear hsm
          go_wp2_with fail
          refine (sum_at a4 _ cap4 (kd :: dt) sm w4 _ (by simp) HSM.out hD4 hw4 (by simp; omega)).mono ?_
          rintro e w5 ⟨rfl, rfl⟩
          by_cases hzs : z = sm
          · subst hzs
            have hst : stepS (xs.drop used) = .one kd dt := by
              rw [← HD.out, HK.out.symm, HT.out.symm]
              exact step_e (by rw [HM.out]; omega) (by rw [HN.out]; omega) (by rw [HM.out, HN.out]; omega) (by rw [HZ.out, HK.out, HT.out, HSM.out])
            have hj := join_one hst HS.out
            have HJ := Lib.hid hj
            clear hj hst
            have hao5 := H9.out
            go_wp2_with fail
            refine (clone_at a9 _ (c - 9) dt w4 _ rfl hd4 hs4 hao5 (by omega)).mono ?_
            rintro e w6 ⟨v6, rfl, hown6, hb6⟩
            have hown6' := hown6
            obtain ⟨a6, cap6, hv6, _⟩ := own_bytes hown6'
            subst hv6
            have hfo6 := HF4.out.below hb6 (Nat.le_refl _)
            have HFR := Lib.hid hfo6
            have HO6 := Lib.hid hown6
            have hbel6 := hbel4.trans (hb6.mono hs4)
            have hs6 := hbel6.size
            have hu1 : used + 9 + dt.length ≤ xs.length := by omega
            have hslu : ∀ w, (Instr.sliceAt 26 (.slice ao xs.length cap) (some (.int .i64 ((used : Int) + (9 + (dt.length : Int))))) none none).run Tryz.prog w = .ok (.slice (subA ao cap (used + 9 + dt.length) 1) (xs.length - (used + 9 + dt.length)) (cap - (used + 9 + dt.length))) w := fun w => run_sub_l sliceByte sizeByte ao xs.length cap (used + 9 + dt.length) hu1 .i64 _ (by omega) w
            obtain ⟨au, hau⟩ : ∃ au, au = subA ao cap (used + 9 + dt.length) 1 := ⟨_, rfl⟩
            simp only [← hau] at hslu
            have HAU := Lib.hid hau
            clear hfo6 hown6 hown6' hao5 hau hd4
            go_wp2_with (at_builtin; refine wpList_append_own _ rfl (.tmp 48) (.tmp 54) 22 rfl w.heap.size 44 i0 (.agg #[.int .i64 0, .slice none 0 0]) 2 32 Tryz.underlying22 hi hz0 hz1 hz2 rfl (by decide) _ frs.length (frs.flatMap frCells) rfl (World.ownsRow.alloc HFR.out.1 _) ⟨w6.heap.size, 0, none⟩ 1 1 [.int .i64 kd, .slice a6 dt.length cap6] rfl rfl (frame_cells_new _ _ _ _) (by simp [Value.oneCell']) (by unfold maxLen; omega) (by omega) (by simp; omega) ?_)
            intro v7 w7 hown7 hg7 _
            have hfo7 := HF4.out.snoc (f := ⟨kd, a6, cap6, dt⟩) hs4 hb6 HO6.out ((Below.refl w6.heap.size w6).alloc (Nat.le_refl _) _) hown7 hg7
            have hbel7 : Below w.heap.size w w7 := (hbel6.alloc hs6 _).grown hg7 (by simp; omega) (fun k hk => (HFR.out.1.lt k hk).1)
            have HF7 := Lib.hid hfo7
            clear hown7 hg7 hfo7
            go_wp2_with fail
            go_roundw
            case rel => exact ⟨frs ++ [⟨kd, a6, cap6, dt⟩], used + 9 + dt.length, _, _, au, by go_num, by simp; omega, by omega, by have := HC.out; omega, rfl, fun h => by rw [HAU.out] at h; rw [HA.out (subA_eq_none h)]; omega, by rw [HAU.out]; exact (HX.out.below hbel7 (Nat.le_refl _)).drop _ HC.out, HF7.out, by rw [List.map_append]; exact HJ.out, hbel7⟩
            case measure => simp [intOf]; omega
          · have i5 : ¬ ((z : Int) = (sm : Int)) := by omega
            have hj := join_stop (s := true) (by rw [← HD.out]; exact step_d (by rw [HM.out]; omega) (by rw [HN.out]; omega) (by rw [HM.out, HN.out]; omega) (by rw [HZ.out, HK.out, HT.out, HSM.out]; exact hzs)) HS.out
            have HJ := Lib.hid hj
            clear hj
            go_wp2_with fail
            go_ret3
            exact scan_post HJ.out HF4.out hbel4
end Go.Proofs.YtgigfeppaalbcaaGreatDoor
