/- ApartReplies: two lists of one reply each that calls have made, all their facts and values in blocks of their own, are found to lie apart. Conditions: the lists are the caller's own. -/
import Derived.Test.YtnfldkebjeigiaaGreatDoorGWireOne21
import Derived.Test.YtnfldkebjeigiaaGreatDoorGWireOne5
import Derived.Test.YtnfldkebjeigiaaGreatDoorGWireOne3
namespace Go.Proofs.YtnfldkebjeigiaaGreatDoor
open Go.RowKit
set_option maxRecDepth 20000
def faV (f : Fa) : Value := .slice f.ao f.args.length f.cap
theorem upd_upd {α : Type} (r : Nat → α) (i : Nat) (x y : α) : upd (upd r i x) i y = upd r i y := by
  funext k; unfold upd; split <;> rfl
theorem oneF_bag (B bb : Nat) (f : Nat → Value) (rows : Nat → List Value) (id ty : Int) (a : Option Addr) (n c : Nat) (w : World) (hb : Bag w B bb f rows) (hB : B ≤ w.heap.size) (hm : (rows 6).length ≤ 1000000) :
    Calls Tryz.prog 213 #[.pointer (some ⟨bb, 0, none⟩), .agg #[.int .i64 id, .int .i64 ty, .slice a n c]] w fun e w' => e = .returned (.tuple #[]) ∧ (∃ f', Bag w' B bb f' (upd rows 6 (rows 6 ++ [.slice a n c]))) ∧ Below B w w' ∧ BagKeeps w w' := by
  have HB := Lib.hid hb
  have HM := Lib.hid hm
  clear hb hm
  go_enter Tryz.func213, Tryz.ntmps213
  go_wp2_with fail
  have hbA := HB.out.below ((Below.refl w.heap.size w).alloc (Nat.le_refl _) (.cells #[.int .i64 id, .int .i64 ty, .slice a n c] 27)) (Nat.le_refl _)
  refine (putValues_bag B bb f rows a n c _ hbA (by simp; omega) HM.out).mono ?_
  rintro e w2 ⟨rfl, hf, hb2, hk2⟩
  have HF := Lib.hid hf
  have hb3 := ((Below.refl B w).alloc hB (.cells #[.int .i64 id, .int .i64 ty, .slice a n c] 27)).trans hb2
  have HK := Lib.hid ((BagKeeps.alloc w _).trans hk2)
  clear hf hbA hk2
  go_wp2_with fail
  go_end0
  exact ⟨rfl, HF.out, hb3, HK.out⟩
set_option maxHeartbeats 2000000 in
theorem putFs_bag (B bb : Nat) (f : Nat → Value) (rows : Nat → List Value) (ao : Option Addr) (n c : Nat) (fs : List Fa) (w : World) (hn : fs.length = n) (hx : FasIn w B ao fs) (hb : Bag w B bb f rows) (hB : B ≤ w.heap.size) (hm : (rows 6).length + n ≤ 1000000) (hm2 : (rows 7).length ≤ 1000000) :
    Calls Tryz.prog 197 #[.pointer (some ⟨bb, 0, none⟩), .slice ao n c] w fun e w' => e = .returned (.tuple #[]) ∧ (∃ f', Bag w' B bb f' (upd (upd rows 7 (rows 7 ++ [.slice ao n c])) 6 (rows 6 ++ fs.map faV))) ∧ Below B w w' ∧ BagKeeps w w' := by
  obtain ⟨i0, hi, hz0, hz1, hz2⟩ := info24 (show (Tryz.prog.info? 32).map (fun i => (i.zero, i.size, i.bytes)) = some (some (.slice none 0 0), 1, 24) by kernel_rfl)
  have c5 : w.cell? ⟨bb, 7, none⟩ = some (f 7) := hb.cell 7 (by decide)
  have HB := Lib.hid hb
  have HX := Lib.hid hx
  have HN := Lib.hid hn
  have HM := Lib.hid hm
  have hbl := hb.lt
  have hn6 : n ≤ 1000000 := by omega
  clear hb hx hn hm
  obtain ⟨v, hv⟩ : ∃ v, v = f 7 := ⟨_, rfl⟩
  obtain ⟨R, hR⟩ : ∃ R, R = rows 7 := ⟨_, rfl⟩
  rw [← hv] at c5
  rw [← hR] at hm2
  have HO := Lib.hid (show w.ownsRow B 32 1 v R.length R by rw [hv, hR]; exact HB.out.own 7)
  have HV := Lib.hid hv
  have HR := Lib.hid hR
  clear hv hR
  go_enter Tryz.func197, Tryz.ntmps197
  go_wp2_with (at_builtin; refine wpList_append_own _ rfl (.tmp 9) (.tmp 11) 121 rfl B 32 i0 (.slice none 0 0) 1 24 Tryz.underlying121 hi hz0 hz1 hz2 rfl (by decide) v R.length R rfl (HO.out.alloc _) ⟨w.heap.size, 0, none⟩ 1 1 [.slice ao n c] rfl rfl (cell_one_new _ _ _) (by simp [Value.oneCell']) (by unfold maxLen; omega) (by omega) (by simp; omega) ?_)
  intro v' w3 hown3 hg3 _
  obtain ⟨a3, c3, hv3, _, _, _⟩ := row_form hown3
  subst hv3
  have hga : w.grownBy w3 (f 7).ownBlock := by
    rw [← HV.out]
    exact (World.grownBy_alloc w _ _).trans hg3
  have hB2 := HB.out.put 7 (by decide) (by decide) (v := .slice a3 (R.length + 1) c3) (x := .slice ao n c) (by rw [← HR.out]; exact hown3) hga
  have hb3 : w3.heap[bb]? = some (.cells ((List.range 29).map f).toArray 142 (0, 0)) := (hga.block bb hbl (fun e => HB.out.apart 7 e.symm)).trans HB.out.is
  have d5 : w3.cell? ⟨bb, 7, none⟩ = some v := by
    rw [Go.Joins.cell_of_block hb3 7, List.getElem?_toArray, List.getElem?_map, List.getElem?_range (by decide), HV.out]; rfl
  have f5 : w3.frozen? ⟨bb, 7, none⟩ = false := Go.Joins.unfrozen_of_block hb3 7
  have hbw : Below B w (w3.setCell ⟨bb, 7, none⟩ (.slice a3 (R.length + 1) c3)) := (((Below.refl B w).grown hga hB (fun k hk => ((HB.out.own 7).lt k hk).1)).setCell (p := ⟨bb, 7, none⟩) HB.out.base _)
  have H1 := Lib.hid hB2
  have H3 := Lib.hid hbw
  have H4 := Lib.hid (HB.out.keeps 7 hga (.slice a3 (R.length + 1) c3))
  clear hB2 hbw hown3 hg3 hb3 hga
  go_wp2_with fail
  have h1 := H1.out
  have h3 := H3.out
  have h4 := H4.out
  clear d5 f5 H1 H3 H4
  generalize w3.setCell ⟨bb, 7, none⟩ (.slice a3 (R.length + 1) c3) = w4 at h1 h3 h4 ⊢
  obtain ⟨r2, hr2⟩ : ∃ r2, r2 = upd rows 7 (rows 7 ++ [.slice ao n c]) := ⟨_, rfl⟩
  have h26 : r2 6 = rows 6 := by rw [hr2]; exact upd_ne rows _ (by decide)
  rw [← hr2] at h1
  have HR2 := Lib.hid hr2
  have H26 := Lib.hid h26
  have HB4 := Lib.hid h1
  have HK4 := Lib.hid h4
  clear hr2 h26 h1 h4 HB
  go_loopw [4] (fun i wr => ∃ (k : Nat), k ≤ n ∧ i = .int .i64 k ∧ (∃ f', Bag wr B bb f' (upd r2 6 (rows 6 ++ (fs.take k).map faV))) ∧ Below B w wr ∧ BagKeeps w wr) (fun i _ => n - (intOf i).toNat)
  case atStart => exact ⟨0, by omega, rfl, ⟨_, by rw [← H26.out]; simp only [List.take_zero, List.map_nil, List.append_nil]; rw [upd_self]; exact HB4.out⟩, h3, HK4.out⟩
  case round =>
    clear HB4 h3 HK4
    obtain ⟨k, hk, rfl, hbag, hbel, hkeep⟩ := hrel
    have HBG := Lib.hid hbag
    have HKP := Lib.hid hkeep
    clear hbag hkeep
    have hs := hbel.size
    by_cases hlt : k < n
    · have hkx : fs[k]? = some (fs[k]'(by rw [HN.out]; exact hlt)) := List.getElem?_eq_getElem _
      obtain ⟨b, off, hao, hb, hc, _⟩ := HX.out.at hkx
      have hT1 : (fs.take (k + 1)).map faV = (fs.take k).map faV ++ [faV (fs[k]'(by rw [HN.out]; exact hlt))] := by
        rw [List.take_succ_eq_append_getElem (by rw [HN.out]; exact hlt), List.map_append]; rfl
      generalize fs[k]'(by rw [HN.out]; exact hlt) = x at hc hT1
      obtain ⟨id, ty, aao, args, acap⟩ := x
      obtain ⟨an, han⟩ : ∃ an, args.length = an := ⟨_, rfl⟩
      have hT1' : (fs.take (k + 1)).map faV = (fs.take k).map faV ++ [.slice aao an acap] := by rw [← han]; exact hT1
      have HT1 := Lib.hid hT1'
      subst hao
      have c0 : wr.cell? ⟨b, off + k * 3, none⟩ = some (.int .i64 id) := (hbel.cell (p := ⟨b, _, none⟩) hb).trans (hc 0 (by decide))
      have c1 : wr.cell? ⟨b, off + k * 3 + 1, none⟩ = some (.int .i64 ty) := (hbel.cell (p := ⟨b, _, none⟩) hb).trans (hc 1 (by decide))
      have c2 : wr.cell? ⟨b, off + k * 3 + 2, none⟩ = some (.slice aao an acap) := (hbel.cell (p := ⟨b, _, none⟩) hb).trans (han ▸ hc 2 (by decide))
      have i1 : (k : Int) < n := by omega
      clear hc hkx hT1 hT1' han
      go_wp2_with fail
      obtain ⟨f', hf'⟩ := HBG.out
      refine (oneF_bag B bb f' _ id ty aao an acap wr hf' (by omega) ?_).mono ?_
      · rw [upd_at, List.length_append, List.length_map, List.length_take]; have := HM.out; omega
      rintro e w5 ⟨rfl, hf5, hb5, hk5⟩
      rw [upd_at, upd_upd] at hf5
      have H5 := Lib.hid hf5
      have HK5 := Lib.hid (HKP.out.trans hk5)
      clear hf5 hf' hk5 c0 c1 c2
      go_wp2_with fail
      go_roundw
      case rel => exact ⟨k + 1, by omega, by go_num, by rw [HT1.out, ← List.append_assoc]; exact H5.out, hbel.trans hb5, HK5.out⟩
      case measure => simp [intOf]; omega
    · obtain rfl : k = n := by omega
      have htk : fs.take k = fs := List.take_of_length_le (by rw [HN.out]; exact Nat.le_refl _)
      have hbag := HBG.out
      rw [htk, HR2.out] at hbag
      have HBG2 := Lib.hid hbag
      clear htk hbag
      go_wp2_with fail
      go_end0
      exact ⟨rfl, HBG2.out, hbel, HKP.out⟩
/-- The lists of values within a reply. -/
def valsOf (p : Rp) : List Fa := p.facts ++ [⟨0, 0, p.so, p.said, p.scap⟩]
theorem oneRp_bag (B bb : Nat) (f : Nat → Value) (rows : Nat → List Value) (er num : Int) (fo : Option Addr) (fn fc : Nat) (fs : List Fa) (so : Option Addr) (sn sc : Nat) (w : World) (hn : fs.length = fn) (hx : FasIn w B fo fs) (hb : Bag w B bb f rows) (hB : B ≤ w.heap.size) (hm : (rows 6).length + fn ≤ 900000) (hm2 : (rows 7).length ≤ 1000000) :
    Calls Tryz.prog 142 #[.pointer (some ⟨bb, 0, none⟩), .agg #[.int .i64 er, .int .i64 num, .slice fo fn fc, .slice so sn sc]] w fun e w' => e = .returned (.tuple #[]) ∧ (∃ f', Bag w' B bb f' (upd (upd rows 7 (rows 7 ++ [.slice fo fn fc])) 6 (rows 6 ++ (fs.map faV ++ [.slice so sn sc])))) ∧ Below B w w' ∧ BagKeeps w w' := by
  have HB := Lib.hid hb
  have HM := Lib.hid hm
  have HM2 := Lib.hid hm2
  have HX := Lib.hid hx
  have HN := Lib.hid hn
  clear hb hm hm2 hx hn
  go_enter Tryz.func142, Tryz.ntmps142
  go_wp2_with fail
  have hal := ((Below.refl w.heap.size w).alloc (Nat.le_refl _) (.cells #[.int .i64 er, .int .i64 num, .slice fo fn fc, .slice so sn sc] 34))
  have hbA := HB.out.below hal (Nat.le_refl _)
  refine (putFs_bag B bb f rows fo fn fc fs _ HN.out (HX.out.below faSub_kept hal hB) hbA (by simp; omega) (by have := HM.out; omega) HM2.out).mono ?_
  rintro e w2 ⟨rfl, ⟨f2, hf⟩, hb2, hk2⟩
  have HF := Lib.hid hf
  have hb3 := ((Below.refl B w).alloc hB (.cells #[.int .i64 er, .int .i64 num, .slice fo fn fc, .slice so sn sc] 34)).trans hb2
  have hblk := hk2 w.heap.size _ 34 _ (heap_alloc_new w (.cells #[.int .i64 er, .int .i64 num, .slice fo fn fc, .slice so sn sc] 34)) (by decide) bagE_rp
  have d3 : w2.cell? ⟨w.heap.size, 3, none⟩ = some (.slice so sn sc) := Go.Joins.cell_of_block hblk 3
  have HK := Lib.hid ((BagKeeps.alloc w _).trans hk2)
  clear hf hbA hk2 hblk hal
  go_wp2_with fail
  refine (putValues_bag B bb f2 _ so sn sc w2 HF.out (by have := hb3.size; omega) (by rw [upd_at, List.length_append, List.length_map, HN.out]; have := HM.out; omega)).mono ?_
  rintro e w4 ⟨rfl, hf4, hb4, hk4⟩
  rw [upd_at, upd_upd, List.append_assoc] at hf4
  have HF4 := Lib.hid hf4
  have hb5 := hb3.trans hb4
  have HK4 := Lib.hid (HK.out.trans hk4)
  clear hf4 hk4 d3
  go_wp2_with fail
  go_end0
  exact ⟨rfl, HF4.out, hb5, HK4.out⟩
set_option maxHeartbeats 2000000 in
theorem putRp_bag (B bb : Nat) (f : Nat → Value) (rows : Nat → List Value) (b1 c : Nat) (er num : Int) (fo : Option Addr) (fn fc : Nat) (fs : List Fa) (so : Option Addr) (sn sc : Nat) (w : World) (hn : fs.length = fn) (hx : FasIn w B fo fs) (hb1 : b1 < B) (k0 : w.cell? ⟨b1, 0, none⟩ = some (.int .i64 er)) (k1 : w.cell? ⟨b1, 1, none⟩ = some (.int .i64 num)) (k2 : w.cell? ⟨b1, 2, none⟩ = some (.slice fo fn fc)) (k3 : w.cell? ⟨b1, 3, none⟩ = some (.slice so sn sc)) (hb : Bag w B bb f rows) (hB : B ≤ w.heap.size) (hm : (rows 6).length + fn ≤ 900000) (hm7 : (rows 7).length ≤ 1000000) (hm2 : (rows 19).length ≤ 1000000) :
    Calls Tryz.prog 91 #[.pointer (some ⟨bb, 0, none⟩), .slice (some ⟨b1, 0, none⟩) 1 c] w fun e w' => e = .returned (.tuple #[]) ∧ (∃ f', Bag w' B bb f' (upd (upd (upd rows 19 (rows 19 ++ [.slice (some ⟨b1, 0, none⟩) 1 c])) 7 (rows 7 ++ [.slice fo fn fc])) 6 (rows 6 ++ (fs.map faV ++ [.slice so sn sc])))) ∧ Below B w w' := by
  obtain ⟨i0, hi, hz0, hz1, hz2⟩ := info24 (show (Tryz.prog.info? 75).map (fun i => (i.zero, i.size, i.bytes)) = some (some (.slice none 0 0), 1, 24) by kernel_rfl)
  have c5 : w.cell? ⟨bb, 19, none⟩ = some (f 19) := hb.cell 19 (by decide)
  have HB := Lib.hid hb
  have HX := Lib.hid hx
  have HN := Lib.hid hn
  have HM := Lib.hid hm
  have HM7 := Lib.hid hm7
  have K0 := Lib.hid k0
  have K1 := Lib.hid k1
  have K2 := Lib.hid k2
  have K3 := Lib.hid k3
  have hbl := hb.lt
  clear hb hx hn hm hm7 k0 k1 k2 k3
  obtain ⟨v, hv⟩ : ∃ v, v = f 19 := ⟨_, rfl⟩
  obtain ⟨R, hR⟩ : ∃ R, R = rows 19 := ⟨_, rfl⟩
  rw [← hv] at c5
  rw [← hR] at hm2
  have HO := Lib.hid (show w.ownsRow B 75 1 v R.length R by rw [hv, hR]; exact HB.out.own 19)
  have HV := Lib.hid hv
  have HR := Lib.hid hR
  clear hv hR
  go_enter Tryz.func91, Tryz.ntmps91
  go_wp2_with (at_builtin; refine wpList_append_own _ rfl (.tmp 9) (.tmp 11) 76 rfl B 75 i0 (.slice none 0 0) 1 24 Tryz.underlying76 hi hz0 hz1 hz2 rfl (by decide) v R.length R rfl (HO.out.alloc _) ⟨w.heap.size, 0, none⟩ 1 1 [.slice (some ⟨b1, 0, none⟩) 1 c] rfl rfl (cell_one_new _ _ _) (by simp [Value.oneCell']) (by unfold maxLen; omega) (by omega) (by simp; omega) ?_)
  intro v' w3 hown3 hg3 _
  obtain ⟨a3, c3, hv3, _, _, _⟩ := row_form hown3
  subst hv3
  have hga : w.grownBy w3 (f 19).ownBlock := by
    rw [← HV.out]
    exact (World.grownBy_alloc w _ _).trans hg3
  have hB2 := HB.out.put 19 (by decide) (by decide) (v := .slice a3 (R.length + 1) c3) (x := .slice (some ⟨b1, 0, none⟩) 1 c) (by rw [← HR.out]; exact hown3) hga
  have hb3 : w3.heap[bb]? = some (.cells ((List.range 29).map f).toArray 142 (0, 0)) := (hga.block bb hbl (fun e => HB.out.apart 19 e.symm)).trans HB.out.is
  have d5 : w3.cell? ⟨bb, 19, none⟩ = some v := by
    rw [Go.Joins.cell_of_block hb3 19, List.getElem?_toArray, List.getElem?_map, List.getElem?_range (by decide), HV.out]; rfl
  have f5 : w3.frozen? ⟨bb, 19, none⟩ = false := Go.Joins.unfrozen_of_block hb3 19
  have hbw : Below B w (w3.setCell ⟨bb, 19, none⟩ (.slice a3 (R.length + 1) c3)) := (((Below.refl B w).grown hga hB (fun k hk => ((HB.out.own 19).lt k hk).1)).setCell (p := ⟨bb, 19, none⟩) HB.out.base _)
  have H1 := Lib.hid hB2
  have H3 := Lib.hid hbw
  clear hB2 hbw hown3 hg3 hb3 hga
  go_wp2_with fail
  have h1 := H1.out
  have h3 := H3.out
  clear d5 f5 H1 H3
  generalize w3.setCell ⟨bb, 19, none⟩ (.slice a3 (R.length + 1) c3) = w4 at h1 h3 ⊢
  obtain ⟨r2, hr2⟩ : ∃ r2, r2 = upd rows 19 (rows 19 ++ [.slice (some ⟨b1, 0, none⟩) 1 c]) := ⟨_, rfl⟩
  have h26 : r2 6 = rows 6 := by rw [hr2]; exact upd_ne rows _ (by decide)
  have h27 : r2 7 = rows 7 := by rw [hr2]; exact upd_ne rows _ (by decide)
  rw [← hr2] at h1
  have HR2 := Lib.hid hr2
  have H26 := Lib.hid h26
  have H27 := Lib.hid h27
  have HB4 := Lib.hid h1
  clear hr2 h26 h27 h1 HB
  go_loopw [4] (fun i wr => ((i = .int .i64 0 ∧ ∃ f', Bag wr B bb f' r2) ∨ (i = .int .i64 1 ∧ ∃ f', Bag wr B bb f' (upd (upd r2 7 (rows 7 ++ [.slice fo fn fc])) 6 (rows 6 ++ (fs.map faV ++ [.slice so sn sc]))))) ∧ Below B w wr) (fun i _ => 1 - (intOf i).toNat)
  case atStart => exact ⟨Or.inl ⟨rfl, _, HB4.out⟩, h3⟩
  case round =>
    clear HB4 h3
    obtain ⟨hrel, hbel⟩ := hrel
    have hs := hbel.size
    rcases hrel with ⟨rfl, hbag⟩ | ⟨rfl, hbag⟩
    · have HBG := Lib.hid hbag
      clear hbag
      have c0 : wr.cell? ⟨b1, 0, none⟩ = some (.int .i64 er) := (hbel.cell (p := ⟨b1, _, none⟩) hb1).trans K0.out
      have c1 : wr.cell? ⟨b1, 1, none⟩ = some (.int .i64 num) := (hbel.cell (p := ⟨b1, _, none⟩) hb1).trans K1.out
      have c2 : wr.cell? ⟨b1, 2, none⟩ = some (.slice fo fn fc) := (hbel.cell (p := ⟨b1, _, none⟩) hb1).trans K2.out
      have c3 : wr.cell? ⟨b1, 3, none⟩ = some (.slice so sn sc) := (hbel.cell (p := ⟨b1, _, none⟩) hb1).trans K3.out
      go_wp2_with fail
      obtain ⟨f', hf'⟩ := HBG.out
      refine (oneRp_bag B bb f' r2 er num fo fn fc fs so sn sc wr HN.out (HX.out.below faSub_kept hbel (Nat.le_refl _)) hf' (by omega) (by rw [H26.out]; exact HM.out) (by rw [H27.out]; exact HM7.out)).mono ?_
      rintro e w5 ⟨rfl, hf5, hb5, _⟩
      rw [H26.out, H27.out] at hf5
      have H5 := Lib.hid hf5
      clear hf5 hf' c0 c1 c2 c3
      go_wp2_with fail
      go_roundw
      case rel => exact ⟨Or.inr ⟨rfl, H5.out⟩, hbel.trans hb5⟩
      case measure => simp [intOf]
    · rw [HR2.out] at hbag
      have HBG2 := Lib.hid hbag
      clear hbag
      go_wp2_with fail
      go_end0
      exact ⟨rfl, HBG2.out, hbel⟩
theorem sep_list {α : Type} (V : α → Value) (d : α) {D : List α} (h : D.Pairwise fun x y => (V x).ownBlock = none ∨ (V x).ownBlock ≠ (V y).ownBlock) : SepAll D.length fun j => V (D.getD j d) := by
  have key : ∀ i j, i < j → j < D.length → Sep (V (D.getD i d)) (V (D.getD j d)) := by
    intro i j hij hj b h1 h2
    have := List.pairwise_iff_getElem.1 h i j (by omega) hj hij
    have e1 : D.getD i d = D[i]'(by omega) := by simp [List.getD, List.getElem?_eq_getElem (show i < D.length by omega)]
    have e2 : D.getD j d = D[j] := by simp [List.getD, List.getElem?_eq_getElem hj]
    rw [e1] at h1
    rw [e2] at h2
    rcases this with h3 | h3
    · rw [h3] at h1; cases h1
    · exact h3 (h1.trans h2.symm)
  intro i j hi hj hne
  rcases Nat.lt_or_gt_of_ne hne with h1 | h1
  · exact key i j h1 hj
  · exact (key j i h1 hi).symm
/-- A reply of a call's own. -/
structure RpOwn (w : World) (B : Nat) (p : Rp) : Prop where
  facts : FasOwn w B p.fo p.facts.length p.fcap p.facts
  said : VasOwn w B p.so p.said.length p.scap p.said
  sep : ∀ g ∈ p.facts, (Value.slice g.ao g.args.length g.cap).ownBlock = none ∨ (Value.slice g.ao g.args.length g.cap).ownBlock ≠ (Value.slice p.so p.said.length p.scap).ownBlock
theorem RpOwn.below {w w' : World} {B C : Nat} {p : Rp} (h : RpOwn w B p) (hb : Below C w w') (hC : w.heap.size ≤ C) : RpOwn w' B p := ⟨h.facts.below hb hC, h.said.below hb hC, h.sep⟩
theorem RpOwn.le {w : World} {B C : Nat} {p : Rp} (h : RpOwn w B p) (hC : C ≤ B) : RpOwn w C p := ⟨h.facts.le hC, h.said.le hC, h.sep⟩
theorem RpOwn.own {w : World} {B : Nat} {p : Rp} (h : RpOwn w B p) : ∀ x ∈ valsOf p, faOwn w B x := by
  intro x hx
  rcases List.mem_append.1 hx with hx | hx
  · exact h.facts.own x hx
  · rw [List.mem_singleton.1 hx]; exact h.said
theorem RpOwn.pair {w : World} {B : Nat} {p : Rp} (h : RpOwn w B p) : (valsOf p).Pairwise fun x y => (faV x).ownBlock = none ∨ (faV x).ownBlock ≠ (faV y).ownBlock :=
  List.pairwise_append.2 ⟨h.facts.sep, List.pairwise_singleton _ _, fun x hx y hy => by rw [List.mem_singleton.1 hy]; exact h.sep x hx⟩
theorem RpOwn.lt {w : World} {B : Nat} {p : Rp} (h : RpOwn w B p) : ∀ x ∈ valsOf p, ∀ b, (faV x).ownBlock = some b → B ≤ b ∧ b < w.heap.size := fun x hx b hb => World.ownsRow.lt (show World.ownsRow _ _ _ _ _ _ _ from h.own x hx) b hb
/-- Lists of replies, of facts, of values. -/
def rwsR (A B C : List Value) : Nat → List Value := upd (upd (upd (fun _ => []) 19 A) 7 B) 6 C
theorem rwsR_nil : rwsR [] [] [] = fun _ => [] := by funext j; simp [rwsR, upd]
theorem rwsR_put (A B C A' B' C' : List Value) : upd (upd (upd (rwsR A B C) 19 A') 7 B') 6 C' = rwsR A' B' C' := by
  funext j; unfold rwsR upd
  by_cases h1 : j = 6
  · subst h1; simp
  · by_cases h2 : j = 7
    · subst h2; simp
    · by_cases h3 : j = 19
      · subst h3; simp
      · simp [h1, h2, h3]
theorem rwsR_6 (A B C : List Value) : rwsR A B C 6 = C := rfl
theorem rwsR_7 (A B C : List Value) : rwsR A B C 7 = B := rfl
theorem rwsR_19 (A B C : List Value) : rwsR A B C 19 = A := rfl
/-- How far the replies have been put in. -/
def RpsK (v1 v2 u1 u2 : Value) (l1 l2 : List Value) (B bb : Nat) (i : Value) (w : World) : Prop :=
  (i = .int .i64 0 ∧ ∃ f', Bag w B bb f' (rwsR [] [] [])) ∨ (i = .int .i64 1 ∧ ∃ f', Bag w B bb f' (rwsR [v1] [u1] l1)) ∨ (i = .int .i64 2 ∧ ∃ f', Bag w B bb f' (rwsR [v1, v2] [u1, u2] (l1 ++ l2)))
def rpCs (p : Rp) : List Value := [.int .i64 p.err, .int .i64 p.num, .slice p.fo p.facts.length p.fcap, .slice p.so p.said.length p.scap]
theorem valsOf_map (p : Rp) : (valsOf p).map faV = p.facts.map faV ++ [.slice p.so p.said.length p.scap] := by unfold valsOf; rw [List.map_append]; rfl
theorem valsOf_len (p : Rp) : (valsOf p).length = p.facts.length + 1 := by unfold valsOf; rw [List.length_append]; rfl
set_option maxHeartbeats 4000000 in
theorem apartRps_any (B B2 lb lc b1 b2 q1 q2 : Nat) (p q : Rp) (w : World) (hc0 : w.cell? ⟨lb, 0, none⟩ = some (.slice (some ⟨b1, 0, none⟩) 1 q1)) (hc1 : w.cell? ⟨lb, 1, none⟩ = some (.slice (some ⟨b2, 0, none⟩) 1 q2)) (hlb : lb < w.heap.size)
    (hk1 : ∀ j, j < 4 → w.cell? ⟨b1, j, none⟩ = (rpCs p)[j]?) (hk2 : ∀ j, j < 4 → w.cell? ⟨b2, j, none⟩ = (rpCs q)[j]?)
    (ho1 : w.ownsRow B 34 4 (.slice (some ⟨b1, 0, none⟩) 1 q1) 1 (rpCs p)) (ho2 : w.ownsRow B 34 4 (.slice (some ⟨b2, 0, none⟩) 1 q2) 1 (rpCs q)) (hbb : b1 ≠ b2)
    (h1 : RpOwn w B p) (h2 : RpOwn w B2 q) (hf1 : FasIn w w.heap.size p.fo p.facts) (hf2 : FasIn w w.heap.size q.fo q.facts) (hlo : ∀ x ∈ valsOf p, ∀ b, (faV x).ownBlock = some b → b < B2) (hlo2 : ∀ b, (Value.slice p.fo p.facts.length p.fcap).ownBlock = some b → b < B2)
    (hBB : B ≤ B2) (hB : B2 ≤ w.heap.size) (hl1 : p.facts.length ≤ 40000) (hl2 : q.facts.length ≤ 40000) (hd : ∀ x ∈ valsOf p ++ valsOf q, x.args.length ≤ 1099511627776) :
    Calls Tryz.prog 45 #[.slice (some ⟨lb, 0, none⟩) 2 lc] w fun e w' => e = .returned (.bool true) ∧ Below B w w' := by
  have hx1 : b1 < w.heap.size := (World.ownsRow.lt ho1 b1 rfl).2
  have hx2 : b2 < w.heap.size := (World.ownsRow.lt ho2 b2 rfl).2
  have H1 := Lib.hid h1
  have H2 := Lib.hid h2
  have HO1 := Lib.hid ho1
  have HO2 := Lib.hid ho2
  have HK1 := Lib.hid hk1
  have HK2 := Lib.hid hk2
  have HI1 := Lib.hid hf1
  have HI2 := Lib.hid hf2
  have HLO := Lib.hid hlo
  have HLO2 := Lib.hid hlo2
  have HD := Lib.hid hd
  have HC0 := Lib.hid hc0
  have HC1 := Lib.hid hc1
  clear h1 h2 hf1 hf2 hlo hlo2 hd hc0 hc1 ho1 ho2 hk1 hk2
  go_enter Tryz.func45, Tryz.ntmps45
  go_wp2_with fail
  have hb0 : Bag (w.alloc _) w.heap.size w.heap.size (fun _ => .slice none 0 0) (fun _ => []) := Bag.made w
  have hbe : Below w.heap.size w (w.alloc (.cells ((List.range 29).map fun _ => Value.slice none 0 0).toArray 142)) := (Below.refl _ _).alloc (Nat.le_refl _) _
  have hlit : ((List.range 29).map fun _ => Value.slice none 0 0).toArray = #[.slice none 0 0, .slice none 0 0, .slice none 0 0, .slice none 0 0, .slice none 0 0, .slice none 0 0, .slice none 0 0, .slice none 0 0, .slice none 0 0, .slice none 0 0, .slice none 0 0, .slice none 0 0, .slice none 0 0, .slice none 0 0, .slice none 0 0, .slice none 0 0, .slice none 0 0, .slice none 0 0, .slice none 0 0, .slice none 0 0, .slice none 0 0, .slice none 0 0, .slice none 0 0, .slice none 0 0, .slice none 0 0, .slice none 0 0, .slice none 0 0, .slice none 0 0, .slice none 0 0] := rfl
  rw [hlit] at hb0 hbe
  have HBE := Lib.hid hbe
  clear hbe hlit
  generalize w.alloc _ = w1 at hb0 HBE ⊢
  have hbe := HBE.out
  have HB0 := Lib.hid hb0
  clear HBE hb0
  go_loopw [4] (fun i wr => RpsK (.slice (some ⟨b1, 0, none⟩) 1 q1) (.slice (some ⟨b2, 0, none⟩) 1 q2) (.slice p.fo p.facts.length p.fcap) (.slice q.fo q.facts.length q.fcap) ((valsOf p).map faV) ((valsOf q).map faV) w.heap.size w.heap.size i wr ∧ Below w.heap.size w wr) (fun i _ => 2 - (intOf i).toNat)
  case atStart => exact ⟨Or.inl ⟨rfl, _, by rw [rwsR_nil]; exact HB0.out⟩, hbe⟩
  case round =>
    clear hbe HB0
    obtain ⟨hrel, hbel⟩ := hrel
    have hs := hbel.size
    have c0 : wr.cell? ⟨lb, 0, none⟩ = some (.slice (some ⟨b1, 0, none⟩) 1 q1) := (hbel.cell (p := ⟨lb, 0, none⟩) hlb).trans HC0.out
    have c1' : wr.cell? ⟨lb, 1, none⟩ = some (.slice (some ⟨b2, 0, none⟩) 1 q2) := (hbel.cell (p := ⟨lb, 1, none⟩) hlb).trans HC1.out
    rcases hrel with ⟨rfl, hbag⟩ | ⟨rfl, hbag⟩ | ⟨rfl, hbag⟩
    · have HBG := Lib.hid hbag
      clear hbag
      go_wp2_with fail
      obtain ⟨f', hf'⟩ := HBG.out
      refine (putRp_bag w.heap.size w.heap.size f' (rwsR [] [] []) b1 q1 p.err p.num p.fo p.facts.length p.fcap p.facts p.so p.said.length p.scap wr rfl (HI1.out.below faSub_kept hbel (Nat.le_refl _)) hx1 ((hbel.cell (p := ⟨b1, 0, none⟩) hx1).trans (HK1.out 0 (by decide))) ((hbel.cell (p := ⟨b1, 1, none⟩) hx1).trans (HK1.out 1 (by decide))) ((hbel.cell (p := ⟨b1, 2, none⟩) hx1).trans (HK1.out 2 (by decide))) ((hbel.cell (p := ⟨b1, 3, none⟩) hx1).trans (HK1.out 3 (by decide))) hf' hs (by rw [rwsR_6]; simp; omega) (by rw [rwsR_7]; simp) (by rw [rwsR_19]; simp)).mono ?_
      rintro e w5 ⟨rfl, hf5, hb5⟩
      rw [rwsR_put, rwsR_6, rwsR_7, rwsR_19, ← valsOf_map] at hf5
      have H5 := Lib.hid hf5
      clear hf5 hf' c0 c1'
      go_wp2_with fail
      go_roundw
      case rel => exact ⟨Or.inr (Or.inl ⟨rfl, H5.out⟩), hbel.trans hb5⟩
      case measure => simp [intOf]
    · have HBG := Lib.hid hbag
      clear hbag
      go_wp2_with fail
      obtain ⟨f', hf'⟩ := HBG.out
      refine (putRp_bag w.heap.size w.heap.size f' (rwsR [.slice (some ⟨b1, 0, none⟩) 1 q1] [.slice p.fo p.facts.length p.fcap] ((valsOf p).map faV)) b2 q2 q.err q.num q.fo q.facts.length q.fcap q.facts q.so q.said.length q.scap wr rfl (HI2.out.below faSub_kept hbel (Nat.le_refl _)) hx2 ((hbel.cell (p := ⟨b2, 0, none⟩) hx2).trans (HK2.out 0 (by decide))) ((hbel.cell (p := ⟨b2, 1, none⟩) hx2).trans (HK2.out 1 (by decide))) ((hbel.cell (p := ⟨b2, 2, none⟩) hx2).trans (HK2.out 2 (by decide))) ((hbel.cell (p := ⟨b2, 3, none⟩) hx2).trans (HK2.out 3 (by decide))) hf' hs (by rw [rwsR_6, List.length_map, valsOf_len]; omega) (by rw [rwsR_7]; simp) (by rw [rwsR_19]; simp)).mono ?_
      rintro e w5 ⟨rfl, hf5, hb5⟩
      rw [rwsR_put, rwsR_6, rwsR_7, rwsR_19, ← valsOf_map] at hf5
      have H5 := Lib.hid hf5
      clear hf5 hf' c0 c1'
      go_wp2_with fail
      go_roundw
      case rel => exact ⟨Or.inr (Or.inr ⟨rfl, H5.out⟩), hbel.trans hb5⟩
      case measure => simp [intOf]
    · have HBG := Lib.hid hbag
      clear hbag c0 c1'
      go_wp2_with fail
      obtain ⟨f', hf'⟩ := HBG.out
      have hpw : (valsOf p ++ valsOf q).Pairwise fun x y => (faV x).ownBlock = none ∨ (faV x).ownBlock ≠ (faV y).ownBlock := List.pairwise_append.2 ⟨H1.out.pair, H2.out.pair, fun x hx y hy => by
        cases hfb : (faV x).ownBlock with
        | none => exact Or.inl rfl
        | some b => exact Or.inr fun he => by have := HLO.out x hx b hfb; have := (H2.out.lt y hy b he.symm).1; omega⟩
      have hg : ∀ j, j < (valsOf p ++ valsOf q).length → ∃ x ∈ valsOf p ++ valsOf q, (valsOf p ++ valsOf q).getD j ⟨0, 0, none, [], 0⟩ = x := fun j hj =>
        ⟨_, List.getElem_mem hj, by simp [List.getD, List.getElem?_eq_getElem hj]⟩
      have ho : ∀ x ∈ valsOf p ++ valsOf q, faOwn wr B x := fun x hx => by
        rcases List.mem_append.1 hx with hm | hm
        · exact VasOwn.below (H1.out.own x hm) hbel (Nat.le_refl _)
        · exact VasOwn.le (VasOwn.below (H2.out.own x hm) hbel (Nat.le_refl _)) hBB
      refine (apartR_bag B w.heap.size w.heap.size f' _ wr hf' (by omega) (by omega)
        0 (fun _ => .slice none 0 0) (fun _ => 0) (fun _ => []) rfl (fun j hj => absurd hj (Nat.not_lt_zero j)) (fun i j hi => absurd hi (Nat.not_lt_zero i)) (by decide) (fun j hj => absurd hj (Nat.not_lt_zero j))
        (valsOf p ++ valsOf q).length (fun j => faV ((valsOf p ++ valsOf q).getD j ⟨0, 0, none, [], 0⟩)) (fun j => ((valsOf p ++ valsOf q).getD j ⟨0, 0, none, [], 0⟩).args.length) (fun j => ((valsOf p ++ valsOf q).getD j ⟨0, 0, none, [], 0⟩).args.flatMap vaCells) (by rw [rwsR_6, ← List.map_append]; exact map_getD faV _ _) (fun j hj => ?_) (sep_list faV _ hpw) (by rw [List.length_append, valsOf_len, valsOf_len]; omega) (fun j hj => ?_)
        2 (duo (.slice p.fo p.facts.length p.fcap) (.slice q.fo q.facts.length q.fcap)) (fun j => if j = 0 then p.facts.length else q.facts.length) (fun j => if j = 0 then p.facts.flatMap faCells else q.facts.flatMap faCells) rfl (fun j hj => ?_) (duo_sep fun b h3 h4 => ?_) (by decide) (fun j hj => ?_)
        2 (duo (.slice (some ⟨b1, 0, none⟩) 1 q1) (.slice (some ⟨b2, 0, none⟩) 1 q2)) (fun _ => 1) (fun j => if j = 0 then rpCs p else rpCs q) rfl (fun j hj => ?_) (duo_sep fun b h3 h4 => ?_) (by decide) (fun j hj => by decide)
        0 (fun _ => .slice none 0 0) (fun _ => 0) (fun _ => []) rfl (fun j hj => absurd hj (Nat.not_lt_zero j)) (fun i j hi => absurd hi (Nat.not_lt_zero i)) (by decide) (fun j hj => absurd hj (Nat.not_lt_zero j))).mono ?_
      · obtain ⟨x, hx, e⟩ := hg j hj
        try dsimp only
        rw [e]
        exact ho x hx
      · obtain ⟨x, hx, e⟩ := hg j hj
        try dsimp only
        rw [e]
        exact HD.out x hx
      · have hj' : j = 0 ∨ j = 1 := by omega
        rcases hj' with rfl | rfl
        · exact own_below H1.out.facts.row hbel (Nat.le_refl _)
        · exact Go.Joins.ownsRow_le (own_below H2.out.facts.row hbel (Nat.le_refl _)) hBB
      · have h5 := HLO2.out b h3
        have h6 := (World.ownsRow.lt H2.out.facts.row b h4).1
        omega
      · show (if j = 0 then p.facts.length else q.facts.length) ≤ _
        split <;> omega
      · have hj' : j = 0 ∨ j = 1 := by omega
        rcases hj' with rfl | rfl
        · exact own_below HO1.out hbel (Nat.le_refl _)
        · exact own_below HO2.out hbel (Nat.le_refl _)
      · have e3 : b1 = b := Option.some.inj h3
        have e4 : b2 = b := Option.some.inj h4
        exact hbb (e3.trans e4.symm)
      rintro e w6 ⟨rfl, hb6, _⟩
      go_wp2_with fail
      go_ret
      exact ⟨rfl, (hbel.mono (by omega)).trans hb6⟩
end Go.Proofs.YtnfldkebjeigiaaGreatDoor
/- The example of the laws of layer 2: it is as it must be, and nothing that was there is changed. No condition. -/
namespace Go.Proofs.YtnfldkebjeigiaaGreatDoor
open Go.RowKit
set_option maxRecDepth 20000
set_option maxHeartbeats 4000000 in
theorem awake02_any (w : World) : Calls Tryz.prog 7 #[] w fun e w' => e = .returned (.bool true) ∧ Below w.heap.size w w' := by
  have hN := Lib.hid (show numB 8 (-2) = [255, 255, 255, 255, 255, 255, 255, 254] by decide +kernel)
  have hV := Lib.hid (show valueB ⟨2, 0, ⟨#[97, 98]⟩⟩ = [2, 0, 0, 0, 2, 97, 98] by decide +kernel)
  have hV0 := Lib.hid (show valuesB [] = [0, 0, 0, 0] by decide +kernel)
  have s1 := Lib.hid (show (IntKind.i64.wrap (getN (takeS 8 false [0, 0, 0]).1), (takeS 8 false [0, 0, 0]).2) = (0, true, [0, 0, 0]) by decide +kernel)
  have s2 := Lib.hid (show (IntKind.i64.wrap (getN (takeS 8 false [255, 255, 255, 255, 255, 255, 255, 254, 2, 0, 0, 0, 2, 97, 98]).1), (takeS 8 false [255, 255, 255, 255, 255, 255, 255, 254, 2, 0, 0, 0, 2, 97, 98]).2) = (-2, false, [2, 0, 0, 0, 2, 97, 98]) by decide +kernel)
  have s3 := Lib.hid (show valueS false [2, 0, 0, 0, 2, 97, 98] = (⟨2, 0, ⟨#[97, 98]⟩⟩, false, []) by kernel_rfl)
  go_enter Tryz.func7, Tryz.ntmps7
  go_wp2_with fail
  refine (newReader_any (some ⟨w.heap.size, 0, none⟩) 3 3 [0, 0, 0] _ (w.heap.size + 1) rfl (bytes_new w _ _ _ (0, 0) _ _ rfl rfl (by omega)) (by simp) (by simp) (by decide)).mono ?_
  rintro e w1 ⟨rb, rfl, hrb, hR, hb⟩
  have b1 : Below w.heap.size w w1 := ((Below.refl _ _).alloc (Nat.le_refl _) _).trans (hb.mono (by simp))
  have hrb1 : w.heap.size ≤ rb := by simp at hrb; omega
  have R1 := Lib.hid hR
  clear hb hR hrb
  go_wp2_with fail
  refine (number_at rb rb _ _ _ _ _ w1 s1.out R1.out (by simp [BytesWf]) (by decide)).mono ?_
  rintro e w2 ⟨rfl, hR2, hO⟩
  have b2 := b1.trans (hO.toBelow b1.size hrb1)
  have R2 := Lib.hid hR2
  clear hR2 hO R1 b1
  go_wp2_with fail
  refine (number_w _ _ w2 hN.out).mono ?_
  rintro e w3 ⟨a3, c3, rfl, ho3, hb3⟩
  have b3 := b2.trans (hb3.mono b2.size)
  have R3 := Lib.hid (R2.out.below hb3)
  have hn3 := own_none ho3
  have O3 := Lib.hid ho3
  clear ho3 hb3 R2 b2
  go_wp2_with fail
  refine (value_w _ _ _ _ w3 hV.out (by decide)).mono ?_
  rintro e w4 ⟨a4, c4, rfl, ho4, hb4⟩
  have b4 := b3.trans (hb4.mono b3.size)
  have R4 := Lib.hid (R3.out.below hb4)
  have hp3 := (own_in rfl O3.out).below hb4 (Nat.le_refl _)
  have hp4 := own_in rfl ho4
  have hs4 := hb4.size
  have P3 := Lib.hid (hp3.mono hs4)
  have P4 := Lib.hid hp4
  clear ho4 hb4 R3 b3 hp3 hp4 O3
  go_wp2_with fail
  have hA := (Below.refl w4.heap.size w4).alloc (Nat.le_refl _) (.cells #[.slice a3 8 c3, .slice a4 7 c4] 48)
  refine (wjoin_any (some ⟨w4.heap.size, 0, none⟩) 2 2 [⟨a3, c3, [255, 255, 255, 255, 255, 255, 255, 254]⟩, ⟨a4, c4, [2, 0, 0, 0, 2, 97, 98]⟩] [255, 255, 255, 255, 255, 255, 255, 254, 2, 0, 0, 0, 2, 97, 98] _ (w4.heap.size + 1) rfl (by kernel_rfl) (rowsIn_block ptCells_len _ _ (heap_alloc_new w4 _) rfl (by omega) (by
    intro x hx
    simp only [List.mem_cons, List.not_mem_nil, or_false] at hx
    rcases hx with rfl | rfl
    · exact (P3.out.below hA (Nat.le_refl _)).mono (by omega)
    · exact (P4.out.below hA (Nat.le_refl _)).mono (by omega))) (by simp) (by simp [BytesWf]) (by decide) (by decide) (by decide)).mono ?_
  rintro e w5 ⟨a5, c5, rfl, hin5, hn5, hc5, hbl5, hb5⟩
  have b5 := (b4.alloc b4.size _).trans (hb5.mono (Nat.le_trans b4.size hA.size))
  have R5 := Lib.hid ((R4.out.below hA).below hb5)
  have I5 := Lib.hid hin5
  clear hin5 hc5 hbl5 hb5 R4 b4 hA P3 P4
  go_wp2_with fail
  refine (newReader_any a5 15 c5 [255, 255, 255, 255, 255, 255, 255, 254, 2, 0, 0, 0, 2, 97, 98] _ w5.heap.size rfl I5.out (Nat.le_refl _) hn5 (by decide)).mono ?_
  rintro e w6 ⟨rc, rfl, hrc, hR, hb⟩
  have b6 := b5.trans (hb.mono b5.size)
  have R6 := Lib.hid (R5.out.below hb)
  have hrr : rb < rc := Nat.lt_of_lt_of_le R5.out.lt hrc
  have X6 := Lib.hid hR
  clear hb hR hrc R5 b5 I5 hn5
  go_wp2_with fail
  refine (number_at rc rc _ _ _ _ _ w6 s2.out X6.out (by simp [BytesWf]) (by decide)).mono ?_
  rintro e w7 ⟨rfl, hR, hO⟩
  have b7 := b6.trans (hO.toBelow b6.size (by omega))
  have R7 := Lib.hid (R6.out.only2 hO (by omega) (by omega))
  have X7 := Lib.hid hR
  clear hO hR R6 X6 b6
  go_wp2_with fail
  refine (value_at rc rc _ _ _ _ _ w7 s3.out X7.out (by simp [BytesWf]) (by decide)).mono ?_
  rintro e w8 ⟨he, hR, hO⟩
  unfold Va.val at he
  subst he
  have b8 := b7.trans (hO.toBelow b7.size (by omega))
  have R8 := Lib.hid (R7.out.only2 hO (by omega) (by omega))
  have X8 := Lib.hid hR
  clear hO hR R7 X7 b7
  have hA := (Below.refl w8.heap.size w8).alloc (Nat.le_refl _) (.cells #[.int .u8 2, .int .i64 0, .string ⟨#[97, 98]⟩] 24)
  have b9 := b8.trans (hA.mono b8.size)
  have R9 := Lib.hid (R8.out.below hA)
  have X9 := Lib.hid (X8.out.below hA)
  have t9 : (w8.alloc (.cells #[.int .u8 2, .int .i64 0, .string ⟨#[97, 98]⟩] 24)).cell? ⟨w8.heap.size, 2, none⟩ = some (.string ⟨#[97, 98]⟩) := Go.Joins.cell_of_block (heap_alloc_new w8 _) 2
  have T9 := Lib.hid t9
  have S9 := Lib.hid hA.size
  have HG := Lib.hid (show w8.heap.size < (w8.alloc (.cells #[.int .u8 2, .int .i64 0, .string ⟨#[97, 98]⟩] 24)).heap.size by simp)
  clear hA t9 b8 R8 X8
  go_wp2_with fail
  generalize w8.alloc (.cells #[.int .u8 2, .int .i64 0, .string ⟨#[97, 98]⟩] 24) = w9 at b9 R9 X9 T9 S9 HG ⊢
  generalize w8.heap.size = g at T9 S9 HG ⊢
  obtain ⟨m9, hm9⟩ : ∃ m, w9.heap.size = m := ⟨_, rfl⟩
  have HG2 := Lib.hid (show g < m9 from hm9 ▸ HG.out)
  have S9b := Lib.hid (show m9 ≤ w9.heap.size from Nat.le_of_eq hm9.symm)
  clear HG S9 hm9
  have HG := Lib.hid HG2.out
  have S9 := Lib.hid S9b.out
  clear HG2 S9b
  refine (bad_rd rb rb _ _ w9 R9.out).mono ?_
  rintro e w9' ⟨rfl, rfl⟩
  go_wp2_with fail
  refine (done_rd rb rb _ _ w9 R9.out).mono ?_
  rintro e w9' ⟨rfl, rfl⟩
  go_wp2_with fail
  refine (number_w _ _ w9 hN.out).mono ?_
  rintro e w10 ⟨a10, c10, rfl, ho, hb⟩
  have b10 := b9.trans (hb.mono b9.size)
  have R10 := Lib.hid (R9.out.below hb)
  have X10 := Lib.hid (X9.out.below hb)
  have T10 := Lib.hid ((hb.cell (p := ⟨g, 2, none⟩) (Nat.lt_of_lt_of_le HG.out S9.out)).trans T9.out)
  have S10 := Lib.hid (Nat.le_trans S9.out hb.size)
  have hA := (Below.refl w10.heap.size w10).alloc (Nat.le_refl _) (.cells #[.int .u8 255, .int .u8 255, .int .u8 255, .int .u8 255, .int .u8 255, .int .u8 255, .int .u8 255, .int .u8 254] 5)
  have P := Lib.hid (((own_in rfl ho).below hA (Nat.le_refl _)).mono hA.size)
  have Q := Lib.hid (bytes_new w10 5 [255, 255, 255, 255, 255, 255, 255, 254] #[.int .u8 255, .int .u8 255, .int .u8 255, .int .u8 255, .int .u8 255, .int .u8 255, .int .u8 255, .int .u8 254] (0, 0) w10.heap.size (w10.heap.size + 1) rfl rfl (by omega))
  have hbA := b10.trans (hA.mono b10.size)
  have RA := Lib.hid (R10.out.below hA)
  have XA := Lib.hid (X10.out.below hA)
  have TA := Lib.hid ((hA.cell (p := ⟨g, 2, none⟩) (Nat.lt_of_lt_of_le HG.out S10.out)).trans T10.out)
  have SA := Lib.hid (Nat.le_trans S10.out hA.size)
  clear ho hb hA R9 X9 T9 S9 b9 R10 X10 T10
  go_wp2_with fail
  have hz : (w10.alloc (.cells #[.int .u8 255, .int .u8 255, .int .u8 255, .int .u8 255, .int .u8 255, .int .u8 255, .int .u8 255, .int .u8 254] 5)).heap.size = w10.heap.size + 1 := by simp
  refine (sameB_any a10 8 c10 (some ⟨w10.heap.size, 0, none⟩) 8 8 [255, 255, 255, 255, 255, 255, 255, 254] _ rfl rfl P.out (by rw [hz]; exact Q.out) (by decide)).mono ?_
  rintro e w11 ⟨rfl, hb⟩
  have b11 := hbA.trans (hb.mono hbA.size)
  have R11 := Lib.hid (RA.out.below hb)
  have X11 := Lib.hid (XA.out.below hb)
  have T11 := Lib.hid ((hb.cell (p := ⟨g, 2, none⟩) (Nat.lt_of_lt_of_le HG.out SA.out)).trans TA.out)
  have S11 := Lib.hid (Nat.le_trans SA.out hb.size)
  clear hb RA XA TA SA P Q hz hbA b10 S10
  go_wp2_with fail
  refine (value_w _ _ _ _ w11 hV.out (by decide)).mono ?_
  rintro e w12 ⟨a12, c12, rfl, ho, hb⟩
  have b12 := b11.trans (hb.mono b11.size)
  have R12 := Lib.hid (R11.out.below hb)
  have X12 := Lib.hid (X11.out.below hb)
  have T12 := Lib.hid ((hb.cell (p := ⟨g, 2, none⟩) (Nat.lt_of_lt_of_le HG.out S11.out)).trans T11.out)
  have S12 := Lib.hid (Nat.le_trans S11.out hb.size)
  have hA := (Below.refl w12.heap.size w12).alloc (Nat.le_refl _) (.cells #[.int .u8 2, .int .u8 0, .int .u8 0, .int .u8 0, .int .u8 2, .int .u8 97, .int .u8 98] 5)
  have P := Lib.hid (((own_in rfl ho).below hA (Nat.le_refl _)).mono hA.size)
  have Q := Lib.hid (bytes_new w12 5 [2, 0, 0, 0, 2, 97, 98] #[.int .u8 2, .int .u8 0, .int .u8 0, .int .u8 0, .int .u8 2, .int .u8 97, .int .u8 98] (0, 0) w12.heap.size (w12.heap.size + 1) rfl rfl (by omega))
  have hbA := b12.trans (hA.mono b12.size)
  have RA := Lib.hid (R12.out.below hA)
  have XA := Lib.hid (X12.out.below hA)
  have TA := Lib.hid ((hA.cell (p := ⟨g, 2, none⟩) (Nat.lt_of_lt_of_le HG.out S12.out)).trans T12.out)
  have SA := Lib.hid (Nat.le_trans S12.out hA.size)
  clear ho hb hA R11 X11 T11 S11 b11 R12 X12 T12
  go_wp2_with fail
  have hz : (w12.alloc (.cells #[.int .u8 2, .int .u8 0, .int .u8 0, .int .u8 0, .int .u8 2, .int .u8 97, .int .u8 98] 5)).heap.size = w12.heap.size + 1 := by simp
  refine (sameB_any a12 7 c12 (some ⟨w12.heap.size, 0, none⟩) 7 7 [2, 0, 0, 0, 2, 97, 98] _ rfl rfl P.out (by rw [hz]; exact Q.out) (by decide)).mono ?_
  rintro e w13 ⟨rfl, hb⟩
  have b13 := hbA.trans (hb.mono hbA.size)
  have R13 := Lib.hid (RA.out.below hb)
  have X13 := Lib.hid (XA.out.below hb)
  have T13 := Lib.hid ((hb.cell (p := ⟨g, 2, none⟩) (Nat.lt_of_lt_of_le HG.out SA.out)).trans TA.out)
  have S13 := Lib.hid (Nat.le_trans SA.out hb.size)
  clear hb RA XA TA SA P Q hz hbA b12 S12
  go_wp2_with fail
  refine (values_w _ w13 hV0.out).mono ?_
  rintro e w14 ⟨a14, c14, rfl, ho, hb⟩
  have b14 := b13.trans (hb.mono b13.size)
  have R14 := Lib.hid (R13.out.below hb)
  have X14 := Lib.hid (X13.out.below hb)
  have T14 := Lib.hid ((hb.cell (p := ⟨g, 2, none⟩) (Nat.lt_of_lt_of_le HG.out S13.out)).trans T13.out)
  have S14 := Lib.hid (Nat.le_trans S13.out hb.size)
  have hA := (Below.refl w14.heap.size w14).alloc (Nat.le_refl _) (.cells #[.int .u8 0, .int .u8 0, .int .u8 0, .int .u8 0] 5)
  have P := Lib.hid (((own_in rfl ho).below hA (Nat.le_refl _)).mono hA.size)
  have Q := Lib.hid (bytes_new w14 5 [0, 0, 0, 0] #[.int .u8 0, .int .u8 0, .int .u8 0, .int .u8 0] (0, 0) w14.heap.size (w14.heap.size + 1) rfl rfl (by omega))
  have hbA := b14.trans (hA.mono b14.size)
  have RA := Lib.hid (R14.out.below hA)
  have XA := Lib.hid (X14.out.below hA)
  have TA := Lib.hid ((hA.cell (p := ⟨g, 2, none⟩) (Nat.lt_of_lt_of_le HG.out S14.out)).trans T14.out)
  have SA := Lib.hid (Nat.le_trans S14.out hA.size)
  clear ho hb hA R13 X13 T13 S13 b13 R14 X14 T14
  go_wp2_with fail
  have hz : (w14.alloc (.cells #[.int .u8 0, .int .u8 0, .int .u8 0, .int .u8 0] 5)).heap.size = w14.heap.size + 1 := by simp
  refine (sameB_any a14 4 c14 (some ⟨w14.heap.size, 0, none⟩) 4 4 [0, 0, 0, 0] _ rfl rfl P.out (by rw [hz]; exact Q.out) (by decide)).mono ?_
  rintro e w15 ⟨rfl, hb⟩
  have b15 := hbA.trans (hb.mono hbA.size)
  have R15 := Lib.hid (RA.out.below hb)
  have X15 := Lib.hid (XA.out.below hb)
  have T15 := Lib.hid ((hb.cell (p := ⟨g, 2, none⟩) (Nat.lt_of_lt_of_le HG.out SA.out)).trans TA.out)
  have S15 := Lib.hid (Nat.le_trans SA.out hb.size)
  clear hb RA XA TA SA P Q hz hbA b14 S14
  have t15 := T15.out
  go_wp2_with fail
  refine (done_rd rc rc _ _ w15 X15.out).mono ?_
  rintro e w15' ⟨rfl, rfl⟩
  go_wp2_with fail
  refine (bad_rd rc rc _ _ w15 X15.out).mono ?_
  rintro e w15' ⟨rfl, rfl⟩
  go_wp2_with fail
  go_ret
  exact ⟨rfl, b15⟩
end Go.Proofs.YtnfldkebjeigiaaGreatDoor
