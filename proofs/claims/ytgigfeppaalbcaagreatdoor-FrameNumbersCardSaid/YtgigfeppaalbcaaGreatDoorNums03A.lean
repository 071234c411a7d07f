/- The law FrameNumbers, walked: it returns true. No condition. -/
import Derived.Test.YtgigfeppaalbcaaGreatDoorNums03B
namespace Go.Proofs.YtgigfeppaalbcaaGreatDoor
open Go.RowKit
set_option maxRecDepth 1000000

set_option maxHeartbeats 8000000 in
theorem walk_FrameNumbers (W : World) :
    Calls Tryz.prog 5 #[] W fun e w' => e = .returned (.bool true) ∧ Below W.heap.size W w' := by
  have hm40 : ∀ w, (Instr.makeSlice 26 (.int .i64 40) (.int .i64 40)).run Tryz.prog w = .ok (.slice (some ⟨w.heap.size, 0, none⟩) 40 40) (w.alloc (.cells (madeCells #[.int .u8 0] 40) 5)) := fun w => run_make_row' (P := Tryz.prog) 26 5 (.int .u8 0) 1 Tryz.underlying26 infoByte rfl .i64 .i64 40 (by omega) (by omega) w
  go_enter Tryz.func5, Tryz.ntmps5
  go_wp2_with fail
  clear hm40
  have hFI := fs3_in W
  have hbW0 : Below W.heap.size W (((W.alloc (.cells #[.int .u8 1, .int .u8 2, .int .u8 3] 5)).alloc (.cells (madeCells #[.int .u8 0] 40) 5)).alloc (.cells #[.int .i64 0, .slice none 0 0, .int .i64 255, .slice (some ⟨W.heap.size, 0, none⟩) 3 3, .int .i64 9, .slice (some ⟨W.heap.size + 1, 0, none⟩) 40 40] 44)) := (((Below.refl W.heap.size W).alloc (Nat.le_refl _) (.cells #[.int .u8 1, .int .u8 2, .int .u8 3] 5)).alloc (by simp) (.cells (madeCells #[.int .u8 0] 40) 5)).alloc (by simp; omega) (.cells #[.int .i64 0, .slice none 0 0, .int .i64 255, .slice (some ⟨W.heap.size, 0, none⟩) 3 3, .int .i64 9, .slice (some ⟨W.heap.size + 1, 0, none⟩) 40 40] 44)
  have hz0 : (((W.alloc (.cells #[.int .u8 1, .int .u8 2, .int .u8 3] 5)).alloc (.cells (madeCells #[.int .u8 0] 40) 5)).alloc (.cells #[.int .i64 0, .slice none 0 0, .int .i64 255, .slice (some ⟨W.heap.size, 0, none⟩) 3 3, .int .i64 9, .slice (some ⟨W.heap.size + 1, 0, none⟩) 40 40] 44)).heap.size = W.heap.size + 3 := by simp
  generalize (((W.alloc (.cells #[.int .u8 1, .int .u8 2, .int .u8 3] 5)).alloc (.cells (madeCells #[.int .u8 0] 40) 5)).alloc (.cells #[.int .i64 0, .slice none 0 0, .int .i64 255, .slice (some ⟨W.heap.size, 0, none⟩) 3 3, .int .i64 9, .slice (some ⟨W.heap.size + 1, 0, none⟩) 40 40] 44)) = w0 at hFI hbW0 hz0 ⊢
  rw [← hz0] at hFI
  obtain ⟨L, hL⟩ : ∃ L, putL (fs3 W.heap.size) = L := ⟨_, rfl⟩
  have hL2 := hL
  rw [putL_ok (fs3_ok _)] at hL2
  have hlen : L.length = 70 := by rw [← hL2]; exact fs3_len _
  have hwf : BytesWf L := by
    rw [← hL2]
    exact putB_wf (fs3_ok _) (fun f hf => (fs3_wf _ f hf).2.2.1)
  have HL := Lib.hid hL
  have HLEN := Lib.hid hlen
  have HFI := Lib.hid hFI
  clear hL hL2 hlen hFI
  refine (put_n _ 3 3 (fs3 W.heap.size) L 70 0 w0 _ rfl HL.out HLEN.out (putE_ok (fs3_ok _)) HFI.out (Nat.le_refl _) (fs3_wf _) (by rw [fs3_len]; omega) (by omega)).mono ?_
  rintro e w1 ⟨a1, c1, rfl, hown1, hb1⟩
  obtain ⟨g, c1', hg⟩ := own_pos hown1 (by omega)
  cases hg
  have HO := Lib.hid hown1
  have hs1 := hb1.size
  have hbW1 : Below W.heap.size W w1 := hbW0.trans (hb1.mono (by omega))
  clear hown1 HFI
  go_wp2_with fail
  go_loopw [4, 5, 6] (fun i _ _ wr => ∃ k : Nat, k ≤ 71 ∧ i = .int .i64 k ∧ Below w1.heap.size w1 wr) (fun i _ _ _ => 71 - (intOf i).toNat)
  case atStart => exact ⟨0, by omega, rfl, Below.refl _ _⟩
  case round =>
    obtain ⟨k, hk, rfl, hbel⟩ := hrel
    have hs := hbel.size
    by_cases hlt : k ≤ 70
    · have hrow := own_below HO.out hbel (Nat.le_refl _)
      have hlk : (L.take k).length = k := by rw [List.length_take, HLEN.out]; omega
      have hpre : wr.ownsRow w0.heap.size 5 1 (.slice (some ⟨g, 0, none⟩) k c1) k ((L.take k).map bv) := by
        have := own_prefix hrow hlt
        rwa [Nat.mul_one, ← List.map_take] at this
      have hsl : ∀ w', (Instr.sliceAt 26 (.slice (some ⟨g, 0, none⟩) 70 c1) none (some (.int .i64 k)) none).run Tryz.prog w' = .ok (.slice (some ⟨g, 0, none⟩) k c1) w' := fun w' => by
        have h1 := run_sub_h sliceByte sizeByte (some ⟨g, 0, none⟩) 70 c1 k (by have := own_cap hrow; omega) .i64 k rfl w'
        rwa [subA_zero _ _ _ (by intro a ha; cases ha; rfl)] at h1
      have HROW := Lib.hid hrow
      have HLK := Lib.hid hlk
      have HPRE := Lib.hid hpre
      have i1 : (k : Int) ≤ 70 := by omega
      have hwk : BytesWf (L.take k) := hwf.take k
      clear hrow hlk hpre
      go_wp2_with fail
      refine (scan_own wr HPRE.out HLK.out hwk).mono ?_
      rintro e w2 ⟨rfl, hb2⟩
      have hs2 := hb2.size
      have HP2 := Lib.hid (own_below HPRE.out hb2 (Nat.le_refl _))
      have HR2 := Lib.hid (own_below HROW.out hb2 (Nat.le_refl _))
      clear HPRE HROW
      go_wp2_with fail
      refine (copyB_any (some ⟨g, 0, none⟩) k c1 (L.take k) w2 _ HLK.out (own_at HLK.out HP2.out) (Nat.le_refl _) (by simp) (by omega)).mono ?_
      rintro e w3 ⟨a3, c3, rfl, hown3, hb3⟩
      have hs3 := hb3.size
      have HO3 := Lib.hid (show w3.ownsRow w2.heap.size 5 1 (.slice a3 k c3) (L.take k).length ((L.take k).map bv) by rw [HLK.out]; exact hown3)
      clear hown3
      go_wp2_with (refine wpList_append_bytes_g (by rfl) (.tmp 53) (.tmp 54) rfl w2.heap.size (.slice a3 k c3) (L.take k) rfl (HO3.out.alloc _) ⟨w3.heap.size, 0, none⟩ 4 [0, 16, 0, 1] rfl (w3.heap.size + 1) (bytes_new w3 _ [0, 16, 0, 1] _ _ _ _ rfl rfl (by omega)) (by rw [HLK.out]; simp; omega) (by simp; omega) ?_)
      intro v4 w4 L4 HL4 hown4 hg4
      have hwf4 : BytesWf L4 := by rw [HL4.out]; exact wf_append hwk (by intro x hx; simp at hx; omega)
      have hb4 : Below w2.heap.size w2 w4 := (hb3.alloc hs3 _).grown hg4 (by simp; omega) (fun b hb => (HO3.out.lt b hb).1)
      obtain ⟨a4, c4, hv4, _⟩ := own_bytes hown4
      subst hv4
      have HO4 := Lib.hid hown4
      have hs4 := hb4.size
      have HP4 := Lib.hid (own_below HP2.out hb4 (Nat.le_refl _))
      have HR4 := Lib.hid (own_below HR2.out hb4 (Nat.le_refl _))
      clear hown4 hg4 HO3 HP2 HR2
      go_wp2_with fail
      refine (scan_own w4 HO4.out rfl hwf4).mono ?_
      rintro e w5 ⟨rfl, hb5⟩
      have hs5 := hb5.size
      have HP5 := Lib.hid (own_below HP4.out hb5 (Nat.le_refl _))
      have HR5 := Lib.hid (own_below HR4.out hb5 (Nat.le_refl _))
      clear HO4 HP4 HR4
      go_wp2_with fail
      refine (copyB_any (some ⟨g, 0, none⟩) k c1 (L.take k) w5 _ HLK.out (own_at HLK.out HP5.out) (Nat.le_refl _) (by simp) (by omega)).mono ?_
      rintro e w6 ⟨a6, c6, rfl, hown6, hb6⟩
      have hs6 := hb6.size
      have HO6 := Lib.hid (show w6.ownsRow w5.heap.size 5 1 (.slice a6 k c6) (L.take k).length ((L.take k).map bv) by rw [HLK.out]; exact hown6)
      clear hown6
      go_wp2_with (refine wpList_append_bytes_g (by rfl) (.tmp 63) (.tmp 64) rfl w5.heap.size (.slice a6 k c6) (L.take k) rfl (HO6.out.alloc _) ⟨w6.heap.size, 0, none⟩ 5 [0, 16, 0, 0, 1] rfl (w6.heap.size + 1) (bytes_new w6 _ [0, 16, 0, 0, 1] _ _ _ _ rfl rfl (by omega)) (by rw [HLK.out]; simp; omega) (by simp; omega) ?_)
      intro v7 w7 L7 HL7 hown7 hg7
      have hwf7 : BytesWf L7 := by rw [HL7.out]; exact wf_append hwk (by intro x hx; simp at hx; omega)
      have hb7 : Below w5.heap.size w5 w7 := (hb6.alloc hs6 _).grown hg7 (by simp; omega) (fun b hb => (HO6.out.lt b hb).1)
      obtain ⟨a7, c7, hv7, _⟩ := own_bytes hown7
      subst hv7
      have HO7 := Lib.hid hown7
      have hs7 := hb7.size
      have HR7 := Lib.hid (own_below HR5.out hb7 (Nat.le_refl _))
      clear hown7 hg7 HO6 HP5 HR5
      go_wp2_with fail
      refine (scan_own w7 HO7.out rfl hwf7).mono ?_
      rintro e w8 ⟨rfl, hb8⟩
      have hs8 := hb8.size
      have HR8 := Lib.hid (own_below HR7.out hb8 (Nat.le_refl _))
      have hbel8 : Below w1.heap.size w1 w8 := (((hbel.trans (hb2.mono hs)).trans (hb4.mono (by omega))).trans (hb5.mono (by omega))).trans ((hb7.mono (by omega)).trans (hb8.mono (by omega)))
      clear HO7 HR7 hsl
      by_cases hk7 : k < 70
      · have i7 : (k : Int) < 70 := by omega
        have hx0 : L[k]? = some (L[k]'(by rw [HLEN.out]; exact hk7)) := List.getElem?_eq_getElem _
        have hxb := hwf _ (List.getElem_mem (l := L) (n := k) (by rw [HLEN.out]; exact hk7))
        generalize L[k]'(by rw [HLEN.out]; exact hk7) = x at hx0 hxb
        have HX0 := Lib.hid hx0
        have hx1 := u8_xor hxb
        have HX1 := Lib.hid hx1
        clear hx0 hx1
        go_wp2_with fail
        refine (copyB_any (some ⟨g, 0, none⟩) 70 c1 L w8 _ HLEN.out (own_at HLEN.out HR8.out) (Nat.le_refl _) (by simp) (by omega)).mono ?_
        rintro e w9 ⟨a9, c9, rfl, hown9, hb9⟩
        have hs9 := hb9.size
        obtain ⟨g9, c9', hv9⟩ := own_pos hown9 (by omega)
        cases hv9
        have hcell9 : w9.cell? ⟨g9, k, none⟩ = some (.int .u8 x) := by
          rw [World.ownsRow.cellAt hown9 k (by omega), List.getElem?_map, HX0.out]; rfl
        have hfr9 : w9.frozen? ⟨g9, k, none⟩ = false := World.ownsRow.frozenAt hown9 _
        have HO9 := Lib.hid hown9
        clear hown9
        go_wp2_with fail
        have hy1 : 0 ≤ (x + 1) % 256 ∧ (x + 1) % 256 < 256 := by omega
        have st9 := World.ownsRow.stored HO9.out k (.int .u8 ((x + 1) % 256))
        rw [show (.int .u8 ((x + 1) % 256) : Value) = bv ((x + 1) % 256) from rfl, ← List.map_set] at st9
        have hb10 : Below w8.heap.size w8 (w9.setCell ⟨g9, k, none⟩ (.int .u8 ((x + 1) % 256))) := hb9.setCell (p := ⟨g9, k, none⟩) (HO9.out.lt g9 rfl).1 _
        have HO10 := Lib.hid st9.1
        clear st9 hcell9 hfr9 HO9
        rw [show (bv ((x + 1) % 256)) = .int .u8 ((x + 1) % 256) from rfl] at HO10
        generalize (x + 1) % 256 = y at hy1 hb10 HO10 ⊢
        generalize w9.setCell ⟨g9, k, none⟩ (.int .u8 y) = w10 at hb10 HO10 ⊢
        have hs10 := hb10.size
        have HR10 := Lib.hid (own_below HR8.out hb10 (Nat.le_refl _))
        refine (copyB_any (some ⟨g, 0, none⟩) 70 c1 L w10 _ HLEN.out (own_at HLEN.out HR10.out) (Nat.le_refl _) (by simp) (by omega)).mono ?_
        rintro e w11 ⟨a11, c11, rfl, hown11, hb11⟩
        have hs11 := hb11.size
        obtain ⟨g11, c11', hv11⟩ := own_pos hown11 (by omega)
        cases hv11
        have hcell11 : w11.cell? ⟨g11, k, none⟩ = some (.int .u8 x) := by
          rw [World.ownsRow.cellAt hown11 k (by omega), List.getElem?_map, HX0.out]; rfl
        have hfr11 : w11.frozen? ⟨g11, k, none⟩ = false := World.ownsRow.frozenAt hown11 _
        have HO11 := Lib.hid hown11
        have HC11 := Lib.hid (own_below HO10.out hb11 (Nat.le_refl _))
        clear hown11
        go_wp2_with fail
        have st11 := World.ownsRow.stored HO11.out k (.int .u8 (bits .xor .u8 x 128))
        rw [show (.int .u8 (bits .xor .u8 x 128) : Value) = bv (bits .xor .u8 x 128) from rfl, ← List.map_set] at st11
        have hb12 : Below w10.heap.size w10 (w11.setCell ⟨g11, k, none⟩ (.int .u8 (bits .xor .u8 x 128))) := hb11.setCell (p := ⟨g11, k, none⟩) (HO11.out.lt g11 rfl).1 _
        have HO12 := Lib.hid st11.1
        clear st11 hcell11 hfr11 HO11 HC11
        rw [show bv (bits .xor .u8 x 128) = .int .u8 (bits .xor .u8 x 128) from rfl] at HO12
        have hy2 := HX1.out
        generalize bits .xor .u8 x 128 = y2 at hy2 hb12 HO12 ⊢
        generalize w11.setCell ⟨g11, k, none⟩ (.int .u8 y2) = w12 at hb12 HO12 ⊢
        have hs12 := hb12.size
        have HC12 := Lib.hid (own_below HO10.out hb12 (Nat.le_refl _))
        refine (scan_own w12 HC12.out (by rw [List.length_set, HLEN.out]) (wf_set hwf hy1)).mono ?_
        rintro e w13 ⟨rfl, hb13⟩
        have hs13 := hb13.size
        have HD13 := Lib.hid (own_below HO12.out hb13 (Nat.le_refl _))
        go_wp2_with fail
        refine (scan_own w13 HD13.out (by rw [List.length_set, HLEN.out]) (wf_set hwf hy2)).mono ?_
        rintro e w14 ⟨rfl, hb14⟩
        have hbel14 : Below w1.heap.size w1 w14 := hbel8.trans ((hb10.mono (by omega)).trans ((hb12.mono (by omega)).trans ((hb13.mono (by omega)).trans (hb14.mono (by omega)))))
        go_wp2_with fail
        go_roundw
        case rel => exact ⟨k + 1, by omega, by go_num, hbel14⟩
        case measure => simp [intOf]; omega
      · obtain rfl : k = 70 := by omega
        go_wp2_with fail
        go_roundw
        case rel => exact ⟨71, by omega, rfl, hbel8⟩
        case measure => simp [intOf]
    · have i1 : ¬ (k : Int) ≤ 70 := by omega
      have hbW2 : Below W.heap.size W wr := hbW1.trans (hbel.mono (by omega))
      clear HO HL HLEN hwf hbel hs hb1 hs1 hbW0 hbW1
      go_upto_region 17 with (fail)
      exact frNums17 hbW2 (by assumption) _ _ _ _ _ _ _ _ _ _ _ _ _ _ _ _ _ _ _ _ _ _ _ _ _ _ _ _ _ _ _ _ _ _ _ _ _ _ _ _ _ _ _ _ _ _ _ _ _ _ _ _ _ _ _ _ _ _ _ _ _ _ _ _ _ _ _ _ _ _ _ _ _ _ _ _ _ _ _ _ _ _ _ _ _ _ _ _ _ _ _ _ _ _ _ _ _ _ _ _ _ _ _ _ _ _ _ _ _ _ _ _ _ _ _ _ _ _ _ _ _ _ _ _ _ _ _ _ _ _ _ _ _ _ _ _ _ _ _ _ _ _ _ _ _ _ _ _ _ _ _ _ _ _ _ _ _ _ _ _ _ _ _ _ _ _ _ _ _ _ _ _ _ _ _ _ _ _ _ _ _ _ _ _ _ _ _ _ _ _ _ _ _ _ _ _ _
end Go.Proofs.YtgigfeppaalbcaaGreatDoor
