/- frame.Scan: the frames that bytes begin with. Conditions: the bytes' cells lie as their reading says. -/
import Derived.Test.YtnkjoihnniiidaaGreatDoorGSnapGets4
import Derived.Test.YtnkjoihnniiidaaGreatDoorGSnapGets5
import Derived.Lib.SlBytesConst
import Derived.Test.YtnkjoihnniiidaaGreatDoorGSnapGets0
import Derived.Maps.Ext
import Derived.Maps.RangeWalk
set_option linter.unusedVariables false
set_option linter.unusedSimpArgs false
namespace Go.Proofs.YtnkjoihnniiidaaGreatDoor
open Go.RowKit
set_option maxRecDepth 20000
theorem step_a {b : List Int} (h : b.length < 4) : stepS b = .stop false := by unfold stepS; rw [if_pos h]
theorem step_b {b : List Int} (h : 4 ≤ b.length) (h2 : 1048576 < saidS b) : stepS b = .stop true := by unfold stepS; rw [if_neg (by omega), if_pos h2]
theorem step_c {b : List Int} (h : 4 ≤ b.length) (h2 : saidS b ≤ 1048576) (h3 : b.length < 9 + saidS b) : stepS b = .stop false := by unfold stepS; rw [if_neg (by omega), if_neg (by omega), if_pos h3]
theorem step_d {b : List Int} (h : 4 ≤ b.length) (h2 : saidS b ≤ 1048576) (h3 : 9 + saidS b ≤ b.length) (h4 : saidS (b.drop 5) ≠ sumS (kindF b :: dataS b)) : stepS b = .stop true := by
  unfold stepS; rw [if_neg (by omega), if_neg (by omega), if_neg (by omega), if_pos h4]
theorem step_e {b : List Int} (h : 4 ≤ b.length) (h2 : saidS b ≤ 1048576) (h3 : 9 + saidS b ≤ b.length) (h4 : saidS (b.drop 5) = sumS (kindF b :: dataS b)) : stepS b = .one (kindF b) (dataS b) := by
  unfold stepS; rw [if_neg (by omega), if_neg (by omega), if_neg (by omega), if_neg (by omega)]
theorem said_at (ao : Option Addr) (n cap : Nat) (xs : List Int) (z : Nat) (w : World) (B : Nat) (hn : xs.length = n) (hz : saidS xs = z) (hx : BytesIn w B ao xs) (hw : BytesWf xs) (hl : 4 ≤ n) (hm : n ≤ 1099511627776) :
    Calls Tryz.prog 107 #[.slice ao n cap] w fun e w' => e = .returned (.int .u32 z) ∧ Below w.heap.size w w' := by
  subst hz
  refine (saidF_any ao n cap xs w B hn hx hw (by omega) (by unfold maxLen; omega)).mono ?_
  rintro e w' ⟨h, k, rfl⟩
  exact ⟨h, below_drewN (Below.refl _ _) _⟩
theorem sum_at (ao : Option Addr) (n cap : Nat) (xs : List Int) (z : Nat) (w : World) (B : Nat) (hn : xs.length = n) (hz : sumS xs = z) (hx : BytesIn w B ao xs) (hw : BytesWf xs) (hl : n ≤ 4611686018427387904) :
    Calls Tryz.prog 108 #[.slice ao n cap] w fun e w' => e = .returned (.int .u32 z) ∧ w = w' := by
  subst hn hz
  exact sum_any ao cap xs w B hx hw hl
theorem clone_at (ao : Option Addr) (n cap : Nat) (xs : List Int) (w : World) (B : Nat) (hn : xs.length = n) (hx : BytesIn w B ao xs) (hB : B ≤ w.heap.size) (hao : ao = none → cap = 0) (hl : n ≤ 140737488351232) :
    Calls Tryz.prog 46 #[.slice ao n cap] w (ClonePostF xs w) := by
  subst hn; exact clone_anyF ao cap xs w B hx hB hao hl
theorem said_lt {b : List Int} (hb : BytesWf b) : saidS b < 4294967296 := by
  have h : ∀ i, 0 ≤ b.getD i 0 ∧ b.getD i 0 < 256 := by
    intro i
    rcases Nat.lt_or_ge i b.length with h | h
    · exact hb _ (bytes_mem h)
    · rw [List.getD_eq_getElem?_getD, List.getElem?_eq_none h]; decide
  have h0 := h 0
  have h1 := h 1
  have h2 := h 2
  have h3 := h 3
  unfold saidS
  omega
theorem infoFrame : (Tryz.prog.info? 61).map (fun i => (i.zero, i.size, i.bytes)) = some (some (.agg #[.int .i64 0, .slice none 0 0]), 2, 32) := by kernel_rfl
theorem frame_cells_new (w : World) (T : TypeId) (x y : Value) : ∀ j u, [x, y][j]? = some u → (w.alloc (.cells #[x, y] T)).cell? ((⟨w.heap.size, 0, none⟩ : Addr).add j) = some u := by
  intro j u hu
  have hadd : (⟨w.heap.size, 0, none⟩ : Addr).add j = ⟨w.heap.size, j, none⟩ := by unfold Addr.add; split <;> simp_all
  rw [hadd, World.cell?_alloc_at _ _ _ _ rfl]
  simpa using hu
def ScanPost (xs : List Int) (w : World) (e : Ending) (w' : World) : Prop :=
  ∃ v frs, e = .returned (.tuple #[v, .int .i64 (scanS xs).2.1, .bool (scanS xs).2.2]) ∧ frs.map Fr.pair = (scanS xs).1 ∧ FramesOwn w' w.heap.size v frs ∧ Below w.heap.size w w'
theorem scan_post {xs : List Int} {w w' : World} {v : Value} {frs : List Fr} {used : Nat} {s : Bool} (h : scanS xs = (frs.map Fr.pair, used, s)) (ho : FramesOwn w' w.heap.size v frs) (hb : Below w.heap.size w w') : ScanPost xs w (.returned (.tuple #[v, .int .i64 used, .bool s])) w' :=
  ⟨v, frs, by rw [h], by rw [h], ho, hb⟩
set_option maxHeartbeats 2000000 in
theorem scan_any (ao : Option Addr) (cap : Nat) (xs : List Int) (w : World) (hx : BytesIn w w.heap.size ao xs) (hw : BytesWf xs) (hao : ao = none → cap = 0) (hcap : xs.length ≤ cap) (hl : xs.length ≤ 1099511627776) :
    Calls Tryz.prog 42 #[.slice ao xs.length cap] w (ScanPost xs w) := by
  obtain ⟨i0, hi, hz0, hz1, hz2⟩ := info_parts infoFrame
  have HX := Lib.hid hx
  have HA := Lib.hid hao
  have HC := Lib.hid hcap
  clear hx hao
  go_enter Tryz.func42, Tryz.ntmps42
  go_wp2_with fail
  go_loopw [2, 3, 5, 6, 7, 8] (fun v u l _ _ _ wr => ∃ (frs : List Fr) (used m c : Nat) (lo : Option Addr), u = .int .i64 used ∧ frs.length ≤ used ∧ m + used = xs.length ∧ m ≤ c ∧ l = .slice lo m c ∧ (lo = none → c = 0) ∧ BytesIn wr w.heap.size lo (xs.drop used) ∧ FramesOwn wr w.heap.size v frs ∧ scanS xs = joinS (frs.map Fr.pair) used (scanS (xs.drop used)) ∧ Below w.heap.size w wr) (fun _ u _ _ _ _ _ => xs.length - (intOf u).toNat)
  case atStart => exact ⟨[], 0, xs.length, cap, ao, rfl, by simp, by omega, hcap, rfl, HA.out, by simpa using HX.out, FramesOwn.nil _ _, by simp [joinS], Below.refl _ _⟩
  case round =>
    obtain ⟨frs, used, m, c, lo, rfl, hfl, hm, hmc, rfl, hlo, hbi, hfo, hsc, hbel⟩ := hrel
    have HL := Lib.hid hlo
    have HF := Lib.hid hfo
    have HS := Lib.hid hsc
    clear hlo hfo hsc hcap
    have hs := hbel.size
    obtain ⟨left, hleft⟩ : ∃ left, left = xs.drop used := ⟨_, rfl⟩
    have hwl : BytesWf left := by rw [hleft]; exact hw.drop used
    have HM := Lib.hid (show left.length = m by rw [hleft, List.length_drop]; omega)
    rw [← hleft] at hbi
    have HD := Lib.hid hleft
    clear hleft
    by_cases h4 : m < 4
    · have i1 : ¬ (4 : Int) ≤ m := by omega
      have hj := join_stop (s := false) (by rw [← HD.out]; exact step_a (by rw [HM.out]; exact h4)) HS.out
      have HJ := Lib.hid hj
      clear hj
      go_wp2_with fail
      go_ret3
      exact scan_post HJ.out HF.out hbel
    · have i1 : (4 : Int) ≤ m := by omega
      obtain ⟨n, hn⟩ : ∃ n, saidS left = n := ⟨_, rfl⟩
      have hn32 : n < 4294967296 := hn ▸ said_lt hwl
      have HN := Lib.hid hn
      clear hn
      go_wp2_with fail
      refine (said_at lo m c left n wr _ HM.out HN.out hbi hwl (by omega) (by omega)).mono ?_
      rintro e w1 ⟨rfl, hb1⟩
      have hbi1 := hbi.below hb1 hs
      have hfo1 := HF.out.below hb1 (Nat.le_refl _)
      have hbel1 := hbel.trans (hb1.mono hs)
      have HF1 := Lib.hid hfo1
      clear hfo1 HF hbi
      have hs1 := hbel1.size
      by_cases h5 : 1048576 < n
      · have i2 : (1048576 : Int) < n := by omega
        have hj := join_stop (s := true) (by rw [← HD.out]; exact step_b (by rw [HM.out]; omega) (by rw [HN.out]; exact h5)) HS.out
        have HJ := Lib.hid hj
        clear hj
        go_wp2_with fail
        go_ret3
        exact scan_post HJ.out HF1.out hbel1
      · have i2 : ¬ (1048576 : Int) < n := by omega
        by_cases h6 : m < 9 + n
        · have i3 : (m : Int) < 9 + (n : Int) := by omega
          have hj := join_stop (s := false) (by rw [← HD.out]; exact step_c (by rw [HM.out]; omega) (by rw [HN.out]; omega) (by rw [HM.out, HN.out]; exact h6)) HS.out
          have HJ := Lib.hid hj
          clear hj
          go_wp2_with fail
          go_ret3
          exact scan_post HJ.out HF1.out hbel1
        · have i3 : ¬ (m : Int) < 9 + (n : Int) := by omega
          have hHM := HM.out
          rcases hbi1 with h0 | ⟨b, off, hlo1, hbB, hc⟩
          · rw [h0] at hHM; simp at hHM; omega
          have hc4 := hc 4 (by omega)
          have hk4 := hwl _ (bytes_mem (k := 4) (xs := left) (by omega))
          have hbi1 : BytesIn w1 w.heap.size lo left := Or.inr ⟨b, off, hlo1, hbB, hc⟩
          have hd9 := hbi1.sub (cap := c) 9 n (by omega)
          have hd5 := hbi1.drop (cap := c) 5 (by omega)
          have ha9 : subA lo c 9 1 = none → c - 9 = 0 := fun h => by have := HL.out (subA_eq_none h); omega
          have hsl9 : ∀ w, (Instr.sliceAt 23 (.slice lo m c) (some (.int .i64 9)) (some (.int .i64 (9 + (n : Int)))) none).run Tryz.prog w = .ok (.slice (subA lo c 9 1) n (c - 9)) w := fun w => by
            have := run_sub_lh sliceByte sizeByte lo m c 9 (9 + n) (by omega) (by omega) .i64 .i64 9 (9 + (n : Int)) rfl (by omega) w
            rwa [Nat.add_sub_cancel_left] at this
          have hsl5 : ∀ w, (Instr.sliceAt 23 (.slice lo m c) (some (.int .i64 5)) none none).run Tryz.prog w = .ok (.slice (subA lo c 5 1) (m - 5) (c - 5)) w := fun w => run_sub_l sliceByte sizeByte lo m c 5 (by omega) .i64 5 rfl w
          have hks : kindF left = left.getD 4 0 := rfl
          have hds : dataS left = (left.drop 9).take n := by unfold dataS; rw [HN.out]
          have hdl : ((left.drop 9).take n).length = n := by rw [List.length_take, List.length_drop]; omega
          have hdw : BytesWf ((left.drop 9).take n) := (hwl.drop 9).take n
          subst hlo1
          clear hc hbi1 hHM
          obtain ⟨kd, hkd⟩ : ∃ kd, kd = left.getD 4 0 := ⟨_, rfl⟩
          rw [← hkd] at hc4 hk4 hks
          obtain ⟨dt, hdt⟩ : ∃ dt, dt = (left.drop 9).take n := ⟨_, rfl⟩
          rw [← hdt] at hd9 hds hdl hdw
          obtain ⟨a9, ha9e⟩ : ∃ a9, a9 = subA (some ⟨b, off, none⟩) c 9 1 := ⟨_, rfl⟩
          obtain ⟨a5, ha5e⟩ : ∃ a5, a5 = subA (some ⟨b, off, none⟩) c 5 1 := ⟨_, rfl⟩
          rw [← ha9e] at hd9 ha9
          simp only [← ha9e] at hsl9
          simp only [← ha5e] at hsl5
          rw [← ha5e] at hd5
          have HK := Lib.hid hks
          have HT := Lib.hid hds
          have H9 := Lib.hid ha9
          clear hkd hdt ha9e ha5e hks hds ha9
          subst hdl
          have n1 : IntKind.i64.wrap (9 + (dt.length : Int)) = 9 + (dt.length : Int) := IntWalk.i64_in _ (by omega)
          have l4 : (4 : Int) < m := by omega
          go_wp2_with fail
          go_quiet (fail)
          have hb2 : Below w1.heap.size w1 (w1.drewN nq) := below_drewN (Below.refl _ _) _
          generalize w1.drewN nq = w2 at hb2 ⊢
          have hfo2 := HF1.out.below hb2 (Nat.le_refl _)
          have hbel2 := hbel1.trans (hb2.mono hs1)
          have hd9' := hd9.below hb2 hs1
          have hd5' := hd5.below hb2 hs1
          have hs2 := hbel2.size
          have HF2 := Lib.hid hfo2
          clear hfo2 HF1 hd9 hd5 hc4 n1 hsl9
          obtain ⟨z, hz⟩ : ∃ z, saidS (left.drop 5) = z := ⟨_, rfl⟩
          have HZ := Lib.hid hz
          have H5L := Lib.hid (show (left.drop 5).length = m - 5 by rw [List.length_drop, HM.out])
          have hz32 : z < 4294967296 := hz ▸ said_lt (hwl.drop 5)
          clear hz
          go_wp2_with fail
          refine (said_at a5 (m - 5) (c - 5) (left.drop 5) z w2 _ H5L.out HZ.out hd5' (hwl.drop 5) (by omega) (by omega)).mono ?_
          rintro e w3 ⟨rfl, hb3⟩
          have hfo3 := HF2.out.below hb3 (Nat.le_refl _)
          have hbel3 := hbel2.trans (hb3.mono hs2)
          have hd3 := hd9'.below hb3 hs2
          have hs3 := hbel3.size
          have HF3 := Lib.hid hfo3
          clear hfo3 HF2 hd9' hd5' hsl5
          have hao3 := H9.out
          go_wp2_with (at_builtin; refine wpList_append_bytes rfl (.tmp 41) (.tmp 42) rfl w3.heap.size _ [kd] rfl (World.ownsRow_lit w3 #[.int .u8 kd] 1 (Nat.le_refl _) (by unfold maxLen; omega) rfl) a9 (c - 9) dt rfl w.heap.size (hd3.below ((Below.refl w.heap.size w3).alloc (by omega) _) (Nat.le_refl _)) hao3 (by simp; omega) (by simp) ?_)
          intro v4 w4 hown4 hg4
          have hb4 : Below w3.heap.size w3 w4 := ((Below.refl w3.heap.size w3).alloc (Nat.le_refl _) _).grown hg4 (by simp) (fun k hk => by cases hk; exact Nat.le_refl _)
          obtain ⟨a4, cap4, hv4, hD4⟩ := own_bytes (l := kd :: dt) hown4
          subst hv4
          have hw4 : BytesWf (kd :: dt) := by
            intro x hx
            rcases List.mem_cons.1 hx with hx | hx
            · rw [hx]; exact hk4
            · exact hdw x hx
          have hfo4 := HF3.out.below hb4 (Nat.le_refl _)
          have hbel4 := hbel3.trans (hb4.mono hs3)
          have hd4 := hd3.below hb4 hs3
          have hs4 := hbel4.size
          have HF4 := Lib.hid hfo4
          clear hown4 hg4 hfo4 HF3 hd3 hao3
          obtain ⟨sm, hsm⟩ : ∃ sm, sumS (kd :: dt) = sm := ⟨_, rfl⟩
          have HSM := Lib.hid hsm
          clear hsm
          go_wp2_with fail
          refine (sum_at a4 _ cap4 (kd :: dt) sm w4 _ (by simp) HSM.out hD4 hw4 (by simp; omega)).mono ?_
          rintro e w5 ⟨rfl, rfl⟩
          by_cases hzs : z = sm
          · subst hzs
            have hst : stepS (xs.drop used) = .one kd dt := by
              rw [← HD.out, HK.out.symm, HT.out.symm]
              exact step_e (by rw [HM.out]; omega) (by rw [HN.out]; omega) (by rw [HM.out, HN.out]; omega) (by rw [HZ.out, HK.out, HT.out, HSM.out])
            have hj := join_one hst HS.out
            have HJ := Lib.hid hj
            clear hj hst
            have hao5 := H9.out
            go_wp2_with fail
            refine (clone_at a9 _ (c - 9) dt w4 _ rfl hd4 hs4 hao5 (by omega)).mono ?_
            rintro e w6 ⟨v6, rfl, hown6, hb6⟩
            have hown6' := hown6
            obtain ⟨a6, cap6, hv6, _⟩ := own_bytes hown6'
            subst hv6
            have hfo6 := HF4.out.below hb6 (Nat.le_refl _)
            have HFR := Lib.hid hfo6
            have HO6 := Lib.hid hown6
            have hbel6 := hbel4.trans (hb6.mono hs4)
            have hs6 := hbel6.size
            have hu1 : used + 9 + dt.length ≤ xs.length := by omega
            have hslu : ∀ w, (Instr.sliceAt 23 (.slice ao xs.length cap) (some (.int .i64 ((used : Int) + (9 + (dt.length : Int))))) none none).run Tryz.prog w = .ok (.slice (subA ao cap (used + 9 + dt.length) 1) (xs.length - (used + 9 + dt.length)) (cap - (used + 9 + dt.length))) w := fun w => run_sub_l sliceByte sizeByte ao xs.length cap (used + 9 + dt.length) hu1 .i64 _ (by omega) w
            obtain ⟨au, hau⟩ : ∃ au, au = subA ao cap (used + 9 + dt.length) 1 := ⟨_, rfl⟩
            simp only [← hau] at hslu
            have HAU := Lib.hid hau
            clear hfo6 hown6 hown6' hao5 hau hd4
            go_wp2_with (at_builtin; refine wpList_append_own _ rfl (.tmp 48) (.tmp 54) 66 rfl w.heap.size 61 i0 (.agg #[.int .i64 0, .slice none 0 0]) 2 32 Tryz.underlying66 hi hz0 hz1 hz2 rfl (by decide) _ frs.length (frs.flatMap frCells) rfl (World.ownsRow.alloc HFR.out.1 _) ⟨w6.heap.size, 0, none⟩ 1 1 [.int .i64 kd, .slice a6 dt.length cap6] rfl rfl (frame_cells_new _ _ _ _) (by simp [Value.oneCell']) (by unfold maxLen; omega) (by omega) (by simp; omega) ?_)
            intro v7 w7 hown7 hg7 _
            have hfo7 := HF4.out.snoc (f := ⟨kd, a6, cap6, dt⟩) hs4 hb6 HO6.out ((Below.refl w6.heap.size w6).alloc (Nat.le_refl _) _) hown7 hg7
            have hbel7 : Below w.heap.size w w7 := (hbel6.alloc hs6 _).grown hg7 (by simp; omega) (fun k hk => (HFR.out.1.lt k hk).1)
            have HF7 := Lib.hid hfo7
            clear hown7 hg7 hfo7
            go_wp2_with fail
            go_roundw
            case rel => exact ⟨frs ++ [⟨kd, a6, cap6, dt⟩], used + 9 + dt.length, _, _, au, by go_num, by simp; omega, by omega, by have := HC.out; omega, rfl, fun h => by rw [HAU.out] at h; rw [HA.out (subA_eq_none h)]; omega, by rw [HAU.out]; exact (HX.out.below hbel7 (Nat.le_refl _)).drop _ HC.out, HF7.out, by rw [List.map_append]; exact HJ.out, hbel7⟩
            case measure => simp [intOf]; omega
          · have i5 : ¬ ((z : Int) = (sm : Int)) := by omega
            have hj := join_stop (s := true) (by rw [← HD.out]; exact step_d (by rw [HM.out]; omega) (by rw [HN.out]; omega) (by rw [HM.out, HN.out]; omega) (by rw [HZ.out, HK.out, HT.out, HSM.out]; exact hzs)) HS.out
            have HJ := Lib.hid hj
            clear hj
            go_wp2_with fail
            go_ret3
            exact scan_post HJ.out HF4.out hbel4
end Go.Proofs.YtnkjoihnniiidaaGreatDoor
/- The example of the laws of layer 3: it is as it must be, and nothing that was there is changed. No condition. -/
namespace Go.Proofs.YtnkjoihnniiidaaGreatDoor
open Go.RowKit
set_option maxRecDepth 20000
theorem bytes_newF (w : World) (T : TypeId) (xs : List Int) (cs : Array Value) (fr : Nat × Nat) (g B : Nat) (hcs : cs = (xs.map bv).toArray) (hg : g = w.heap.size) (hB : g < B) : BytesIn (w.alloc (.cells cs T fr)) B (some ⟨g, 0, none⟩) xs := by
  subst hcs hg
  refine Or.inr ⟨w.heap.size, 0, rfl, hB, fun i hi => ?_⟩
  rw [Go.Joins.cell_alloc_mark_at _ _ _ _ _ _ rfl]
  simp [bv, List.getD, List.getElem?_eq_getElem hi]
theorem own_cap {w : World} {base e size n m cap : Nat} {ao : Option Addr} {xs : List Value} (h : w.ownsRow base e size (.slice ao m cap) n xs) : m ≤ cap := by
  rcases h.2 with ⟨h', _⟩ | ⟨g, cap', cur, h', _, _, h3, _⟩
  · cases h'; omega
  · cases h'; exact h3
theorem scan_at (ao : Option Addr) (n cap : Nat) (xs : List Int) (r : List (Int × List Int)) (used : Nat) (s : Bool) (w : World) (B : Nat) (hn : xs.length = n) (hr : scanS xs = (r, used, s)) (hx : BytesIn w B ao xs) (hB : B ≤ w.heap.size) (hw : BytesWf xs) (hao : ao = none → cap = 0) (hcap : n ≤ cap) (hl : n ≤ 1099511627776) :
    Calls Tryz.prog 42 #[.slice ao n cap] w fun e w' => ∃ v frs, e = .returned (.tuple #[v, .int .i64 used, .bool s]) ∧ frs.map Fr.pair = r ∧ FramesOwn w' w.heap.size v frs ∧ Below w.heap.size w w' := by
  subst hn
  refine (scan_any ao cap xs w (hx.mono hB) hw hao hcap hl).mono ?_
  rintro e w' ⟨v, frs, he, h1, h2, h3⟩
  rw [hr] at he h1
  exact ⟨v, frs, he, h1, h2, h3⟩
theorem pair_one {frs : List Fr} {k : Int} {d : List Int} (h : frs.map Fr.pair = [(k, d)]) : ∃ a c, frs = [⟨k, a, c, d⟩] := by
  match frs, h with
  | [⟨fk, fa, fc, fd⟩], h =>
    simp only [Fr.pair, List.map_cons, List.map_nil, List.cons.injEq, Prod.mk.injEq, and_true] at h
    obtain ⟨rfl, rfl⟩ := h
    exact ⟨_, _, rfl⟩
end Go.Proofs.YtnkjoihnniiidaaGreatDoor
/- bytes.Equal of bytes that lie in blocks. Conditions: bytes are bytes. -/
namespace Go.Proofs.YtnkjoihnniiidaaGreatDoor
open Go.RowKit
set_option maxRecDepth 20000
theorem bytesOf_inj : ∀ {xs ys : List Int}, BytesWf xs → BytesWf ys → Lib.bytesOf xs = Lib.bytesOf ys → xs = ys := by
  intro xs
  induction xs with
  | nil =>
    intro ys _ _ h
    cases ys with
    | nil => rfl
    | cons y t => cases h
  | cons x xs ih =>
    intro ys hx hy h
    cases ys with
    | nil => cases h
    | cons y ys =>
      have h2 : UInt8.ofNat x.toNat :: Lib.bytesOf xs = UInt8.ofNat y.toNat :: Lib.bytesOf ys := h
      obtain ⟨e1, e2⟩ := List.cons.inj h2
      have bx := hx x List.mem_cons_self
      have by' := hy y List.mem_cons_self
      have h3 := congrArg UInt8.toNat e1
      rw [UInt8.toNat_ofNat', UInt8.toNat_ofNat', Nat.mod_eq_of_lt (by omega), Nat.mod_eq_of_lt (by omega)] at h3
      have h4 : x = y := by omega
      subst h4
      rw [ih (fun z hz => hx z (List.mem_cons_of_mem _ hz)) (fun z hz => hy z (List.mem_cons_of_mem _ hz)) e2]
theorem conv_nums {w : World} {B n c : Nat} {a : Option Addr} {l : List Int} (hn : l.length = n) (h : BytesIn w B a l) (hnil : a = none → c = 0) : (convert 23 9 (.slice a n c)).run Tryz.prog w = .ok (.string (strOfNums l)) w := by
  subst hn
  rcases h with rfl | ⟨b, off, rfl, _, h3⟩
  · cases a with
    | none =>
      rw [run_convert_bytes_string w _ _ 5 none _ c Tryz.underlying23 Tryz.underlying5 Tryz.underlying9]
      simp [Conv.bytesToString]
      rfl
    | some ad =>
      rw [run_convert_bytes_string w _ _ 5 (some ad) _ c Tryz.underlying23 Tryz.underlying5 Tryz.underlying9]
      simp [Conv.bytesToString]
      rfl
  · exact run_convert_bytes_arg w _ 5 Tryz.underlying23 Tryz.underlying5 b off l.length c l rfl h3 _ Tryz.underlying9
theorem lequal_any (a1 a2 : Option Addr) (n c m d : Nat) (xs ys : List Int) (w : World) (B1 B2 : Nat) (hn : xs.length = n) (hm : ys.length = m) (h1 : BytesIn w B1 a1 xs) (h2 : BytesIn w B2 a2 ys) (n1 : a1 = none → c = 0) (n2 : a2 = none → d = 0) (w1 : BytesWf xs) (w2 : BytesWf ys) :
    Calls Tryz.prog 47 #[.slice a1 n c, .slice a2 m d] w fun e w' => e = .returned (.bool (decide (xs = ys))) ∧ w' = w := by
  refine (Tryz.bytes_Equal _ _ xs ys w (conv_nums hn h1 n1) (conv_nums hm h2 n2)).mono ?_
  rintro e w' ⟨rfl, rfl⟩
  refine ⟨?_, rfl⟩
  have : (Lib.bytesOf xs == Lib.bytesOf ys) = decide (xs = ys) := by
    by_cases he : xs = ys
    · rw [he]; simp
    · rw [decide_eq_false he]
      have : Lib.bytesOf xs ≠ Lib.bytesOf ys := fun h => he (bytesOf_inj w1 w2 h)
      simpa using this
  rw [this]
end Go.Proofs.YtnkjoihnniiidaaGreatDoor
/- A disk's files, in plain Lean. No program. Conditions: as each says. -/
namespace Go.Proofs.YtnkjoihnniiidaaGreatDoor
open Go
/-- A file: what is synced of it, and what is not. -/
structure Fi where
  firm : List Int
  loose : List Int
def Fi.all (f : Fi) : List Int := f.firm ++ f.loose
def Fi.none : Fi := ⟨[], []⟩
/-- Files by their names. -/
abbrev Dk := List (List UInt8 × Fi)
def dGet : Dk → List UInt8 → Option Fi
  | [], _ => Option.none
  | p :: r, k => if p.1 = k then some p.2 else dGet r k
def dDel (L : Dk) (k : List UInt8) : Dk := L.filter fun p => !decide (p.1 = k)
def dPut (L : Dk) (k : List UInt8) (f : Fi) : Dk := (k, f) :: dDel L k
def dNames (L : Dk) : List (List UInt8) := L.map (·.1)
/-- No name twice. -/
def dOk (L : Dk) : Prop := (dNames L).Nodup
def dUsed (L : Dk) : Nat := (L.map fun p => p.2.all.length).sum
theorem dGet_del (L : Dk) (k k' : List UInt8) : dGet (dDel L k) k' = if k' = k then Option.none else dGet L k' := by
  induction L with
  | nil => simp [dDel, dGet]
  | cons p r ih =>
    unfold dDel at ih ⊢
    by_cases h : p.1 = k
    · rw [List.filter_cons_of_neg (by simp [h]), ih]
      split
      · rfl
      · rename_i h2
        rw [dGet, if_neg (fun e => h2 (by rw [← e, h]))]
    · rw [List.filter_cons_of_pos (by simp [h])]
      unfold dGet
      rw [ih]
      by_cases h3 : p.1 = k'
      · rw [if_pos h3, if_pos h3, if_neg (fun e => h (h3.trans e))]
      · rw [if_neg h3, if_neg h3]
theorem dGet_cons (p : List UInt8 × Fi) (r : Dk) (k : List UInt8) : dGet (p :: r) k = if p.1 = k then some p.2 else dGet r k := rfl
theorem dGet_put (L : Dk) (k k' : List UInt8) (f : Fi) : dGet (dPut L k f) k' = if k' = k then some f else dGet L k' := by
  unfold dPut
  rw [dGet_cons]
  dsimp only
  by_cases h : k' = k
  · rw [if_pos h.symm, if_pos h]
  · rw [if_neg (fun e => h e.symm), if_neg h, dGet_del, if_neg h]
theorem dDel_ok {L : Dk} (h : dOk L) (k : List UInt8) : dOk (dDel L k) := h.sublist (List.filter_sublist.map _)
theorem dDel_names (L : Dk) (k : List UInt8) : k ∉ dNames (dDel L k) := by
  intro h
  obtain ⟨p, hp, rfl⟩ := List.mem_map.1 h
  have := (List.mem_filter.1 hp).2
  simp at this
theorem dPut_ok {L : Dk} (h : dOk L) (k : List UInt8) (f : Fi) : dOk (dPut L k f) := List.nodup_cons.2 ⟨dDel_names L k, dDel_ok h k⟩
theorem dGet_none {L : Dk} {k : List UInt8} : dGet L k = Option.none ↔ k ∉ dNames L := by
  induction L with
  | nil => simp [dGet, dNames]
  | cons p r ih =>
    unfold dNames at *
    rw [dGet_cons]
    by_cases h : p.1 = k
    · rw [if_pos h]; simp [h]
    · rw [if_neg h, ih, List.map_cons, List.mem_cons, not_or]
      exact ⟨fun h2 => ⟨fun e => h e.symm, h2⟩, fun h2 => h2.2⟩
theorem dGet_mem {L : Dk} {k : List UInt8} {f : Fi} (h : dGet L k = some f) : (k, f) ∈ L := by
  induction L with
  | nil => cases h
  | cons p r ih =>
    unfold dGet at h
    by_cases h2 : p.1 = k
    · rw [if_pos h2] at h
      cases h
      rw [← h2]
      exact List.mem_cons_self
    · rw [if_neg h2] at h
      exact List.mem_cons_of_mem _ (ih h)
theorem dUsed_le {L : Dk} {k : List UInt8} {f : Fi} (h : dGet L k = some f) : f.all.length ≤ dUsed L := by
  have hm := dGet_mem h
  induction L with
  | nil => cases hm
  | cons p r ih =>
    unfold dUsed at ih ⊢
    rw [List.map_cons, List.sum_cons]
    rw [dGet_cons] at h
    by_cases h2 : p.1 = k
    · rw [if_pos h2] at h
      cases h
      omega
    · rw [if_neg h2] at h
      have := ih h (dGet_mem h)
      omega
theorem dDel_of_none {L : Dk} {k : List UInt8} (h : dGet L k = Option.none) : dDel L k = L := by
  unfold dDel
  rw [List.filter_eq_self]
  intro p hp
  have := dGet_none.1 h
  simp only [Bool.not_eq_true', decide_eq_false_iff_not]
  rintro rfl
  exact this (List.mem_map.2 ⟨_, hp, rfl⟩)
theorem dUsed_del {L : Dk} (hL : dOk L) {k : List UInt8} {f : Fi} (h : dGet L k = some f) : dUsed (dDel L k) + f.all.length = dUsed L := by
  induction L with
  | nil => cases h
  | cons p r ih =>
    have hL2 := hL
    unfold dOk dNames at hL
    rw [List.map_cons, List.nodup_cons] at hL
    unfold dGet at h
    by_cases h2 : p.1 = k
    · rw [if_pos h2] at h
      cases h
      have hr : dGet r k = Option.none := dGet_none.2 (h2 ▸ hL.1)
      have e := dDel_of_none hr
      unfold dDel at e ⊢
      rw [List.filter_cons_of_neg (by simp [h2]), e]
      unfold dUsed
      rw [List.map_cons, List.sum_cons]
      omega
    · rw [if_neg h2] at h
      have e := ih hL.2 h
      unfold dDel at e ⊢
      rw [List.filter_cons_of_pos (by simp [h2])]
      unfold dUsed at e ⊢
      rw [List.map_cons, List.sum_cons, List.map_cons, List.sum_cons]
      omega
theorem dUsed_put (L : Dk) (k : List UInt8) (f : Fi) : dUsed (dPut L k f) = f.all.length + dUsed (dDel L k) := by
  unfold dUsed dPut
  rw [List.map_cons, List.sum_cons]
theorem dUsed_del_le {L : Dk} (hL : dOk L) (k : List UInt8) : dUsed (dDel L k) ≤ dUsed L := by
  cases h : dGet L k with
  | none => rw [dDel_of_none h]; exact Nat.le_refl _
  | some f => have := dUsed_del hL h; omega
/-- How many bytes have been counted. -/
def usedBut (left : List UInt8 → Bool) (L : Dk) : Nat := (L.map fun p => if left p.1 = true then 0 else p.2.all.length).sum
theorem usedBut_cons (left : List UInt8 → Bool) (p : List UInt8 × Fi) (r : Dk) : usedBut left (p :: r) = (if left p.1 = true then 0 else p.2.all.length) + usedBut left r := by
  unfold usedBut; rw [List.map_cons, List.sum_cons]
theorem usedBut_congr {left left' : List UInt8 → Bool} {L : Dk} (h : ∀ k ∈ dNames L, left k = left' k) : usedBut left L = usedBut left' L := by
  induction L with
  | nil => rfl
  | cons p r ih =>
    rw [usedBut_cons, usedBut_cons, ih (fun k hk => h k (List.mem_cons_of_mem _ hk)), h p.1 List.mem_cons_self]
theorem usedBut_all {left : List UInt8 → Bool} {L : Dk} (h : ∀ k ∈ dNames L, left k = true) : usedBut left L = 0 := by
  induction L with
  | nil => rfl
  | cons p r ih =>
    rw [usedBut_cons, ih (fun k hk => h k (List.mem_cons_of_mem _ hk)), if_pos (h p.1 List.mem_cons_self)]
theorem usedBut_none {left : List UInt8 → Bool} {L : Dk} (h : ∀ k, left k = false) : usedBut left L = dUsed L := by
  unfold usedBut dUsed
  congr 1
  refine List.map_congr_left fun p _ => ?_
  rw [h p.1, if_neg (by simp)]
theorem usedBut_le (left : List UInt8 → Bool) (L : Dk) : usedBut left L ≤ dUsed L := by
  induction L with
  | nil => exact Nat.le_refl _
  | cons p r ih =>
    rw [usedBut_cons]
    unfold dUsed at ih ⊢
    rw [List.map_cons, List.sum_cons]
    split <;> omega
theorem usedBut_step {left : List UInt8 → Bool} {L : Dk} (hL : dOk L) {k : List UInt8} {f : Fi} (h : dGet L k = some f) (hl : left k = true) : usedBut (fun x => left x && !decide (x = k)) L = usedBut left L + f.all.length := by
  induction L with
  | nil => cases h
  | cons p r ih =>
    unfold dOk dNames at hL ih
    rw [List.map_cons, List.nodup_cons] at hL
    rw [usedBut_cons, usedBut_cons]
    unfold dGet at h
    by_cases h2 : p.1 = k
    · rw [if_pos h2] at h
      cases h
      have e : usedBut (fun x => left x && !decide (x = k)) r = usedBut left r := usedBut_congr fun x hx => by
        have : x ≠ k := fun e => hL.1 (by rw [h2, ← e]; exact hx)
        simp [this]
      rw [e, h2, if_neg (by simp), if_pos hl]
      omega
    · rw [if_neg h2] at h
      rw [ih hL.2 h]
      have e : (left p.1 && !decide (p.1 = k)) = left p.1 := by simp [h2]
      rw [e]
      omega
/-- What a crash leaves of a file. -/
def Fi.crash (keep : Int) (f : Fi) : Fi := ⟨f.firm ++ f.loose.take keep.toNat, []⟩
def crashBut (left : List UInt8 → Bool) (keep : Int) (L : Dk) : Dk := L.map fun p => if left p.1 = true then p else (p.1, p.2.crash keep)
def dCrash (keep : Int) (L : Dk) : Dk := crashBut (fun _ => false) keep L
theorem crash_names (left : List UInt8 → Bool) (keep : Int) (L : Dk) : dNames (crashBut left keep L) = dNames L := by
  unfold dNames crashBut
  rw [List.map_map]
  refine List.map_congr_left fun p _ => ?_
  dsimp only [Function.comp]
  split <;> rfl
theorem dGet_crash (left : List UInt8 → Bool) (keep : Int) (L : Dk) (k : List UInt8) : dGet (crashBut left keep L) k = (dGet L k).map fun f => if left k = true then f else f.crash keep := by
  induction L with
  | nil => rfl
  | cons p r ih =>
    unfold crashBut at ih ⊢
    rw [List.map_cons]
    by_cases h2 : p.1 = k
    · rw [dGet, dGet, if_pos h2, h2]
      by_cases hk : left k = true
      · rw [if_pos hk, if_pos h2]; simp [hk]
      · rw [if_neg hk, if_pos rfl]; simp [hk]
    · rw [dGet, dGet, if_neg h2, ← ih, if_neg]
      split
      · exact h2
      · exact h2
theorem crash_all (keep : Int) (f : Fi) : (f.crash keep).all.length ≤ f.all.length := by
  unfold Fi.crash Fi.all
  simp
  omega
theorem dUsed_crash (left : List UInt8 → Bool) (keep : Int) (L : Dk) : dUsed (crashBut left keep L) ≤ dUsed L := by
  induction L with
  | nil => exact Nat.le_refl _
  | cons p r ih =>
    unfold crashBut dUsed at ih ⊢
    rw [List.map_cons, List.map_cons, List.sum_cons, List.map_cons, List.sum_cons]
    have := crash_all keep p.2
    split
    · omega
    · dsimp only; omega
/-- May it be a name? -/
def okC (c : UInt8) : Bool := (decide (97 ≤ c.toNat) && decide (c.toNat ≤ 122)) || ((decide (48 ≤ c.toNat) && decide (c.toNat ≤ 57)) || (decide (c.toNat = 46) || decide (c.toNat = 45)))
def goodName (k : List UInt8) : Bool := (!k.isEmpty && decide (k.length ≤ 30)) && k.all okC
def dAppend (room : Nat) (L : Dk) (k : List UInt8) (b : List Int) : Dk × Int :=
  let f := (dGet L k).getD Fi.none
  if goodName k = false then (L, 2) else if 4194304 < f.all.length + b.length then (L, 3) else if room < dUsed L + b.length then (L, 5) else (dPut L k ⟨f.firm, f.loose ++ b⟩, 0)
def dTurn (L : Dk) (k : List UInt8) (g : Fi → Fi × Int) : Dk × Int :=
  match dGet L k with
  | Option.none => (L, 6)
  | some f => if (g f).2 = 0 then (dPut L k (g f).1, 0) else (L, (g f).2)
def dSync (L : Dk) (k : List UInt8) : Dk × Int := dTurn L k fun f => (⟨f.all, []⟩, 0)
def dRead (L : Dk) (k : List UInt8) : List Int × Int := match dGet L k with
  | Option.none => ([], 6)
  | some f => (f.all, 0)
def dCut (L : Dk) (k : List UInt8) (n : Int) : Dk × Int := dTurn L k fun f => if n < 0 ∨ (f.all.length : Int) < n then (f, 2) else (⟨f.all.take n.toNat, []⟩, 0)
def dRename (L : Dk) (a b : List UInt8) : Dk × Int :=
  if goodName a = false ∨ goodName b = false then (L, 2) else
  match dGet L a with
  | Option.none => (L, 6)
  | some f => (if a = b then dPut L b f else dDel (dPut (dPut L b f) a f) a, 0)
def dRemove (L : Dk) (k : List UInt8) : Dk × Int := match dGet L k with
  | Option.none => (L, 6)
  | some _ => (dDel L k, 0)
end Go.Proofs.YtnkjoihnniiidaaGreatDoor
/- A disk's files as they lie in a map: look-ups, stores, deletions. Conditions: the map's block reads as the files. -/
namespace Go.Proofs.YtnkjoihnniiidaaGreatDoor
open Go.RowKit Go.ChangeMaps
set_option maxRecDepth 20000
/-- The two slices of a file. -/
structure Rv where
  a1 : Option Addr
  n1 : Nat
  c1 : Nat
  a2 : Option Addr
  n2 : Nat
  c2 : Nat
def rvVal (r : Rv) : Value := .agg #[.slice r.a1 r.n1 r.c1, .slice r.a2 r.n2 r.c2]
def rvZero : Rv := ⟨none, 0, 0, none, 0, 0⟩
def rvElem (v : Value) : Option (DataW Rv × List MemPlace) := match v with
  | .agg cs => match cs.toList with
    | [.slice a n c, .slice a' n' c'] => some (.held ⟨a, n, c, a', n', c'⟩, [])
    | _ => none
  | _ => none
theorem rvElem_mk (r : Rv) : rvElem (rvVal r) = some (.held r, []) := rfl
theorem rvElem_inv {v : Value} {y : DataW Rv × List MemPlace} (h : rvElem v = some y) : ∃ r, v = rvVal r ∧ y = (.held r, []) := by
  unfold rvElem at h
  split at h
  · rename_i cs
    split at h
    · rename_i a n c a' n' c' he
      cases h
      refine ⟨⟨a, n, c, a', n', c'⟩, ?_, rfl⟩
      unfold rvVal
      congr 1
      exact Array.toList_inj.1 he
    · cases h
  · cases h
structure RvIs (w : World) (B : Nat) (r : Rv) (f : Fi) : Prop where
  n1 : r.n1 = f.firm.length
  n2 : r.n2 = f.loose.length
  in1 : BytesIn w B r.a1 f.firm
  in2 : BytesIn w B r.a2 f.loose
  w1 : BytesWf f.firm
  w2 : BytesWf f.loose
  z1 : r.a1 = none → r.c1 = 0
  z2 : r.a2 = none → r.c2 = 0
  k1 : r.n1 ≤ r.c1
  k2 : r.n2 ≤ r.c2
theorem RvIs.zero (w : World) (B : Nat) : RvIs w B rvZero Fi.none :=
  ⟨rfl, rfl, Or.inl rfl, Or.inl rfl, fun _ h => (by cases h), fun _ h => (by cases h), fun _ => rfl, fun _ => rfl, Nat.le_refl _, Nat.le_refl _⟩
theorem RvIs.below {w w' : World} {B B' : Nat} {r : Rv} {f : Fi} (h : RvIs w B r f) (hb : Below B' w w') (hB : B ≤ B') : RvIs w' B r f :=
  ⟨h.n1, h.n2, h.in1.below hb hB, h.in2.below hb hB, h.w1, h.w2, h.z1, h.z2, h.k1, h.k2⟩
theorem RvIs.mono {w : World} {B B' : Nat} {r : Rv} {f : Fi} (h : RvIs w B r f) (hB : B ≤ B') : RvIs w B' r f :=
  ⟨h.n1, h.n2, h.in1.mono hB, h.in2.mono hB, h.w1, h.w2, h.z1, h.z2, h.k1, h.k2⟩
/-- Bytes stay where a map alone is written. -/
theorem bytes_map {w w' : World} {B mb : Nat} {a : Option Addr} {xs : List Int} {es : Array MapEntry} {ck : Nat} (h : BytesIn w B a xs) (hB : B ≤ w.heap.size) (hg : w.grownBy w' (some mb)) (hm : w.heap[mb]? = some (.map es ck)) : BytesIn w' B a xs := by
  rcases h with h | ⟨b, off, h1, h2, h3⟩
  · exact Or.inl h
  · refine Or.inr ⟨b, off, h1, h2, fun i hi => ?_⟩
    have hc := h3 i hi
    have hne : b ≠ mb := by
      rintro rfl
      simp [World.cell?, hm] at hc
    have hbk := hg.block b (by omega) (by simpa using hne)
    unfold World.cell? at hc ⊢
    rw [hbk]
    exact hc
theorem RvIs.map {w w' : World} {B mb : Nat} {r : Rv} {f : Fi} {es : Array MapEntry} {ck : Nat} (h : RvIs w B r f) (hB : B ≤ w.heap.size) (hg : w.grownBy w' (some mb)) (hm : w.heap[mb]? = some (.map es ck)) : RvIs w' B r f :=
  ⟨h.n1, h.n2, bytes_map h.in1 hB hg hm, bytes_map h.in2 hB hg hm, h.w1, h.w2, h.z1, h.z2, h.k1, h.k2⟩
/-- The datum D holds the files L. -/
structure DkHas (w : World) (B : Nat) (D : DataW Rv) (L : Dk) : Prop where
  no : ∀ k, dGet L k = none → Maps.has D (.string k) = false
  yes : ∀ k f, dGet L k = some f → ∃ r, (∀ zd, D.atKey (.string k) zd = .held r) ∧ RvIs w B r f
theorem DkHas.congr {w : World} {B : Nat} {D : DataW Rv} {L L' : Dk} (h : DkHas w B D L) (he : ∀ k, dGet L' k = dGet L k) : DkHas w B D L' :=
  ⟨fun k hk => h.no k (by rw [← he]; exact hk), fun k f hk => h.yes k f (by rw [← he]; exact hk)⟩
theorem DkHas.nil (w : World) (B : Nat) : DkHas w B (.map []) [] := ⟨fun _ _ => rfl, fun _ _ h => (by cases h)⟩
theorem DkHas.below {w w' : World} {B B' : Nat} {D : DataW Rv} {L : Dk} (h : DkHas w B D L) (hb : Below B' w w') (hB : B ≤ B') : DkHas w' B D L :=
  ⟨h.no, fun k f hk => let ⟨r, h1, h2⟩ := h.yes k f hk; ⟨r, h1, h2.below hb hB⟩⟩
theorem DkHas.mono {w : World} {B B' : Nat} {D : DataW Rv} {L : Dk} (h : DkHas w B D L) (hB : B ≤ B') : DkHas w B' D L :=
  ⟨h.no, fun k f hk => let ⟨r, h1, h2⟩ := h.yes k f hk; ⟨r, h1, h2.mono hB⟩⟩
theorem DkHas.map {w w' : World} {B mb : Nat} {D : DataW Rv} {L : Dk} {es : Array MapEntry} {ck : Nat} (h : DkHas w B D L) (hB : B ≤ w.heap.size) (hg : w.grownBy w' (some mb)) (hm : w.heap[mb]? = some (.map es ck)) : DkHas w' B D L :=
  ⟨h.no, fun k f hk => let ⟨r, h1, h2⟩ := h.yes k f hk; ⟨r, h1, h2.map hB hg hm⟩⟩
theorem str_ne {k k' : List UInt8} (h : k' ≠ k) : Lit.string k' ≠ Lit.string k := fun e => h (by injection e)
theorem str_key (k : List UInt8) : WideAt.IsKeyLit (.string k) := by simp [WideAt.IsKeyLit]
theorem DkHas.put {w : World} {B : Nat} {D : DataW Rv} {L : Dk} (h : DkHas w B D L) (hD : Maps.IsMap D) (k : List UInt8) {r : Rv} {f : Fi} (hr : RvIs w B r f) : DkHas w B (D.put (.string k) (.held r)) (dPut L k f) := by
  constructor
  · intro k' hk'
    rw [dGet_put] at hk'
    split at hk'
    · cases hk'
    · rename_i hne
      rw [Maps.has_put_other (str_ne hne)]
      exact h.no k' hk'
  · intro k' f' hk'
    rw [dGet_put] at hk'
    split at hk'
    · rename_i he
      cases hk'
      subst he
      exact ⟨r, fun zd => Maps.atKey_put_same hD (str_key _) _ zd, hr⟩
    · rename_i hne
      obtain ⟨r', h1, h2⟩ := h.yes k' f' hk'
      exact ⟨r', fun zd => by rw [Maps.atKey_put_other (str_ne hne)]; exact h1 zd, h2⟩
theorem DkHas.del {w : World} {B : Nat} {D : DataW Rv} {L : Dk} (h : DkHas w B D L) (k : List UInt8) : DkHas w B (D.del (.string k)) (dDel L k) := by
  constructor
  · intro k' hk'
    rw [dGet_del] at hk'
    by_cases he : k' = k
    · subst he
      exact Maps.has_del_same
    · rw [if_neg he] at hk'
      rw [Maps.has_del_other (str_ne he)]
      exact h.no k' hk'
  · intro k' f' hk'
    rw [dGet_del] at hk'
    by_cases he : k' = k
    · rw [if_pos he] at hk'; cases hk'
    · rw [if_neg he] at hk'
      obtain ⟨r', h1, h2⟩ := h.yes k' f' hk'
      exact ⟨r', fun zd => by rw [Maps.atKey_del_other (str_ne he)]; exact h1 zd, h2⟩
/-- Block mb is a map that holds the files L, their bytes below B. -/
def DkMap (w : World) (B mb n : Nat) (L : Dk) : Prop := ∃ D, w.ownsMap Tryz.prog 9 rvElem mb n D ∧ DkHas w B D L
theorem dk_law : Maps.Keyed Tryz.prog 9 := Maps.string_keyed Tryz.underlying9
theorem rv_zero (w : World) : (zeroValue 116).run Tryz.prog w = .ok (rvVal rvZero) w := by kernel_rfl
theorem DkMap.made (w : World) (B : Nat) : DkMap (w.alloc (.map #[] 0)) B w.heap.size 0 [] := ⟨_, World.ownsMap_made _ _ _ _, DkHas.nil _ _⟩
theorem DkMap.block {w : World} {B mb n : Nat} {L : Dk} (h : DkMap w B mb n L) : ∃ es ck, w.heap[mb]? = some (.map es ck) := by
  obtain ⟨D, ⟨es, ck, hb, _⟩, _⟩ := h
  exact ⟨es, ck, hb⟩
theorem DkMap.lt {w : World} {B mb n : Nat} {L : Dk} (h : DkMap w B mb n L) : mb < w.heap.size := let ⟨_, h1, _⟩ := h; h1.lt
theorem DkMap.congr {w : World} {B mb n : Nat} {L L' : Dk} (h : DkMap w B mb n L) (he : ∀ k, dGet L' k = dGet L k) : DkMap w B mb n L' := let ⟨D, h1, h2⟩ := h; ⟨D, h1, h2.congr he⟩
theorem DkMap.mono {w : World} {B B' mb n n' : Nat} {L : Dk} (h : DkMap w B mb n L) (hB : B ≤ B') (hn : n ≤ n') : DkMap w B' mb n' L := let ⟨D, h1, h2⟩ := h; ⟨D, h1.mono hn, h2.mono hB⟩
theorem DkMap.below {w w' : World} {B B' mb n : Nat} {L : Dk} (h : DkMap w B mb n L) (hb : Below B' w w') (hB : B ≤ B') (hm : mb < B') : DkMap w' B mb n L := by
  obtain ⟨D, ⟨es, ck, hbk, h3⟩, h4⟩ := h
  exact ⟨D, ⟨es, ck, (hb.block mb hm).trans hbk, h3⟩, h4.below hb hB⟩
/-- 'm[name]', 'm[name]' with ok. -/
theorem DkMap.look {w : World} {B mb n : Nat} {L : Dk} (h : DkMap w B mb n L) (s : ByteArray) (hs : s.size ≤ maxLen) :
    (dGet L s.data.toList = none → (Instr.lookup 111 (.map (some mb)) (.string s) true).run Tryz.prog w = .ok (.tuple #[rvVal rvZero, .bool false]) w ∧ (Instr.lookup 111 (.map (some mb)) (.string s) false).run Tryz.prog w = .ok (rvVal rvZero) w) ∧
    (∀ f, dGet L s.data.toList = some f → ∃ r, (Instr.lookup 111 (.map (some mb)) (.string s) true).run Tryz.prog w = .ok (.tuple #[rvVal r, .bool true]) w ∧ (Instr.lookup 111 (.map (some mb)) (.string s) false).run Tryz.prog w = .ok (rvVal r) w ∧ RvIs w B r f) := by
  obtain ⟨D, hown, hh⟩ := h
  have hkey := WideMaps.keyOf_string_mk Tryz.underlying9 hs
  obtain ⟨v, ps, h1, h2⟩ := hown.look_ok (t := 111) dk_law Tryz.underlying111 (rv_zero w) (rvElem_mk rvZero) hkey
  obtain ⟨v', ps', h3, h4⟩ := hown.lookup (t := 111) dk_law Tryz.underlying111 (rv_zero w) (rvElem_mk rvZero) hkey
  constructor
  · intro hg
    have hn := hh.no _ hg
    have ha := Maps.atKey_of_not_has hn (DataW.held rvZero)
    rw [ha] at h2 h4
    obtain ⟨r, rfl, hr⟩ := rvElem_inv h2
    obtain ⟨r', rfl, hr'⟩ := rvElem_inv h4
    simp only [Prod.mk.injEq, DataW.held.injEq] at hr hr'
    rw [hn, ← hr.1] at h1
    rw [← hr'.1] at h3
    exact ⟨h1, h3⟩
  · intro f hg
    obtain ⟨r0, ha, hrv⟩ := hh.yes _ f hg
    rw [ha] at h2 h4
    obtain ⟨r, rfl, hr⟩ := rvElem_inv h2
    obtain ⟨r', rfl, hr'⟩ := rvElem_inv h4
    simp only [Prod.mk.injEq, DataW.held.injEq] at hr hr'
    rw [Maps.has_true_of_atKey ha, ← hr.1] at h1
    rw [← hr'.1] at h3
    exact ⟨r0, h1, h3, hrv⟩
theorem DkMap.look1 {w : World} {B mb n : Nat} {L : Dk} (h : DkMap w B mb n L) (s : ByteArray) (hs : s.size ≤ maxLen) :
    ∃ r, (Instr.lookup 111 (.map (some mb)) (.string s) false).run Tryz.prog w = .ok (rvVal r) w ∧ RvIs w B r ((dGet L s.data.toList).getD Fi.none) := by
  cases hg : dGet L s.data.toList with
  | none => exact ⟨rvZero, ((h.look s hs).1 hg).2, RvIs.zero _ _⟩
  | some f =>
    obtain ⟨r, _, h2, h3⟩ := (h.look s hs).2 f hg
    exact ⟨r, h2, h3⟩
section
variable {w : World} {ops : Array Oper} {rest : List Oper} {o : Oper} {a : Act} {Q : Exit → Act → World → Prop}
/-- 'm[name] = row'. -/
theorem wpList_store_dk (hg : o.guard = none) (m x v : Operand) (hop : o.op = Op.mapUpdate 111 m x v) {B mb n : Nat} {L : Dk} (h : DkMap w B mb n L) (hB : B ≤ w.heap.size) (hn : n ≤ 1000000)
    (hm : a.eval m = .map (some mb)) (s : ByteArray) (hx : a.eval x = .string s) (hs : s.size ≤ maxLen) (r : Rv) (hv : a.eval v = rvVal r) (f : Fi) (hr : RvIs w B r f)
    (hK : ∀ w', DkMap w' B mb (n + 1) (dPut L s.data.toList f) → w.grownBy w' (some mb) → wpList Tryz.prog ops Q rest (a.put o.dst undef) w') : wpList Tryz.prog ops Q (o :: rest) a w := by
  obtain ⟨es, ck, hbk⟩ := h.block
  obtain ⟨D, hown, hh⟩ := h
  refine wpList_mapUpdate_own w hg m x v _ hop 9 116 dk_law Tryz.underlying111 rvElem mb n D hm hown (by unfold maxLen; omega) _ _ _ hx hv (WideMaps.keyOf_string_mk Tryz.underlying9 hs) (.held r) [] (rvElem_mk r) fun w' h1 h2 => ?_
  exact hK w' ⟨_, h1, (hh.put hown.isMap _ hr).map hB h2 hbk⟩ h2
end
end Go.Proofs.YtnkjoihnniiidaaGreatDoor
