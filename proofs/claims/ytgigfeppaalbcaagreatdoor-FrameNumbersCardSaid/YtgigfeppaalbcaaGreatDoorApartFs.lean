/- ApartFrames: two lists of frames that calls have made, all their bytes in blocks of their own, are found to lie apart. Conditions: the lists are the caller's own. -/
import Derived.Test.YtgigfeppaalbcaaGreatDoorApartBF
import Derived.Test.YtgigfeppaalbcaaGreatDoorLentFs
namespace Go.Proofs.YtgigfeppaalbcaaGreatDoor
open Go.RowKit
set_option maxRecDepth 20000

theorem upd_self {α : Type} (r : Nat → α) (i : Nat) : upd r i (r i) = r := by
  funext j; unfold upd; split
  · rename_i h; rw [h]
  · rfl
theorem upd_upd {α : Type} (r : Nat → α) (i : Nat) (x y : α) : upd (upd r i x) i y = upd r i y := by
  funext j; unfold upd; split <;> rfl
theorem upd_comm {α : Type} (r : Nat → α) {i j : Nat} (h : i ≠ j) (x y : α) : upd (upd r i x) j y = upd (upd r j y) i x := by
  funext k; unfold upd
  by_cases h1 : k = j
  · subst h1; simp [h, Ne.symm h]
  · by_cases h2 : k = i
    · subst h2; simp [h1]
    · simp [h1, h2]
def frSlice (f : Fr) : Value := .slice f.ao f.data.length f.cap
theorem oneFr_bag (B bb : Nat) (f : Nat → Value) (rows : Nat → List Value) (kd : Int) (a : Option Addr) (n c : Nat) (w : World) (hb : Bag w B bb f rows) (hB : B ≤ w.heap.size) (hm : (rows 5).length ≤ 1000000) :
    Calls Tryz.prog 72 #[.pointer (some ⟨bb, 0, none⟩), .agg #[.int .i64 kd, .slice a n c]] w fun e w' => e = .returned (.tuple #[]) ∧ (∃ f', Bag w' B bb f' (upd rows 5 (rows 5 ++ [.slice a n c]))) ∧ Below B w w' := by
  have HB := Lib.hid hb
  have HM := Lib.hid hm
  clear hb hm
  go_enter Tryz.func72, Tryz.ntmps72
  go_wp2_with fail
  have hbA := HB.out.below ((Below.refl w.heap.size w).alloc (Nat.le_refl _) (.cells #[.int .i64 kd, .slice a n c] 44)) (Nat.le_refl _)
  refine (putBytes_bag B bb f rows a n c _ hbA (by simp; omega) HM.out).mono ?_
  rintro e w2 ⟨rfl, hf, hb2⟩
  have HF := Lib.hid hf
  have hb3 := ((Below.refl B w).alloc hB (.cells #[.int .i64 kd, .slice a n c] 44)).trans hb2
  clear hf hbA
  go_wp2_with fail
  go_end0
  exact ⟨rfl, HF.out, hb3⟩
set_option maxHeartbeats 2000000 in
theorem putFs_bag (B bb : Nat) (f : Nat → Value) (rows : Nat → List Value) (ao : Option Addr) (n c : Nat) (frs : List Fr) (w : World) (hn : frs.length = n) (hx : FramesIn w B ao frs) (hb : Bag w B bb f rows) (hB : B ≤ w.heap.size) (hm : (rows 5).length + n ≤ 1000000) (hm2 : (rows 28).length ≤ 1000000) :
    Calls Tryz.prog 38 #[.pointer (some ⟨bb, 0, none⟩), .slice ao n c] w fun e w' => e = .returned (.tuple #[]) ∧ (∃ f', Bag w' B bb f' (upd (upd rows 28 (rows 28 ++ [.slice ao n c])) 5 (rows 5 ++ frs.map frSlice))) ∧ Below B w w' := by
  obtain ⟨i0, hi, hz0, hz1, hz2⟩ := info24 (show (Tryz.prog.info? 22).map (fun i => (i.zero, i.size, i.bytes)) = some (some (.slice none 0 0), 1, 24) by kernel_rfl)
  have c5 : w.cell? ⟨bb, 28, none⟩ = some (f 28) := hb.cell 28 (by decide)
  have HB := Lib.hid hb
  have HX := Lib.hid hx
  have HN := Lib.hid hn
  have HM := Lib.hid hm
  have hbl := hb.lt
  have hn6 : n ≤ 1000000 := by omega
  clear hb hx hn hm
  obtain ⟨v, hv⟩ : ∃ v, v = f 28 := ⟨_, rfl⟩
  obtain ⟨R, hR⟩ : ∃ R, R = rows 28 := ⟨_, rfl⟩
  rw [← hv] at c5
  rw [← hR] at hm2
  have HO := Lib.hid (show w.ownsRow B 22 1 v R.length R by rw [hv, hR]; exact HB.out.own 28)
  have HV := Lib.hid hv
  have HR := Lib.hid hR
  clear hv hR
  go_enter Tryz.func38, Tryz.ntmps38
  go_wp2_with (at_builtin; refine wpList_append_own _ rfl (.tmp 9) (.tmp 11) 41 rfl B 22 i0 (.slice none 0 0) 1 24 Tryz.underlying41 hi hz0 hz1 hz2 rfl (by decide) v R.length R rfl (HO.out.alloc _) ⟨w.heap.size, 0, none⟩ 1 1 [.slice ao n c] rfl rfl (cell_one_new _ _ _) (by simp [Value.oneCell']) (by unfold maxLen; omega) (by omega) (by simp; omega) ?_)
  intro v' w3 hown3 hg3 _
  obtain ⟨a3, c3, hv3, _, _, _⟩ := row_form hown3
  subst hv3
  have hga : w.grownBy w3 (f 28).ownBlock := by
    rw [← HV.out]
    exact (World.grownBy_alloc w _ _).trans hg3
  have hB2 := HB.out.put 28 (by decide) (by decide) (v := .slice a3 (R.length + 1) c3) (x := .slice ao n c) (by rw [← HR.out]; exact hown3) hga
  have hb3 : w3.heap[bb]? = some (.cells ((List.range 29).map f).toArray 89 (0, 0)) := (hga.block bb hbl (fun e => HB.out.apart 28 e.symm)).trans HB.out.is
  have d5 : w3.cell? ⟨bb, 28, none⟩ = some v := by
    rw [Go.Joins.cell_of_block hb3 28, List.getElem?_toArray, List.getElem?_map, List.getElem?_range (by decide), HV.out]; rfl
  have f5 : w3.frozen? ⟨bb, 28, none⟩ = false := Go.Joins.unfrozen_of_block hb3 28
  have hbw : Below B w (w3.setCell ⟨bb, 28, none⟩ (.slice a3 (R.length + 1) c3)) := (((Below.refl B w).grown hga hB (fun k hk => ((HB.out.own 28).lt k hk).1)).setCell (p := ⟨bb, 28, none⟩) HB.out.base _)
  have H1 := Lib.hid hB2
  have H3 := Lib.hid hbw
  clear hB2 hbw hown3 hg3 hb3 hga
  go_wp2_with fail
  have h1 := H1.out
  have h3 := H3.out
  clear d5 f5 H1 H3
  generalize w3.setCell ⟨bb, 28, none⟩ (.slice a3 (R.length + 1) c3) = w4 at h1 h3 ⊢
  obtain ⟨r2, hr2⟩ : ∃ r2, r2 = upd rows 28 (rows 28 ++ [.slice ao n c]) := ⟨_, rfl⟩
  have h25 : r2 5 = rows 5 := by rw [hr2]; exact upd_ne rows _ (by decide)
  rw [← hr2] at h1
  have HR2 := Lib.hid hr2
  have H25 := Lib.hid h25
  have HB4 := Lib.hid h1
  clear hr2 h25 h1 HB
  go_loopw [4] (fun i wr => ∃ (k : Nat), k ≤ n ∧ i = .int .i64 k ∧ (∃ f', Bag wr B bb f' (upd r2 5 (rows 5 ++ (frs.take k).map frSlice))) ∧ Below B w wr) (fun i _ => n - (intOf i).toNat)
  case atStart => exact ⟨0, by omega, rfl, ⟨_, by rw [← H25.out]; simp only [List.take_zero, List.map_nil, List.append_nil]; rw [upd_self]; exact HB4.out⟩, h3⟩
  case round =>
    clear HB4 h3
    obtain ⟨k, hk, rfl, hbag, hbel⟩ := hrel
    have HBG := Lib.hid hbag
    clear hbag
    have hs := hbel.size
    by_cases hlt : k < n
    · have hN := HN.out
      rcases HX.out with h0 | ⟨b, off, rfl, hb, hc⟩
      · rw [h0] at hN; simp at hN; omega
      obtain ⟨c0, c1, _⟩ := hc k (by omega)
      rw [← hbel.cell (p := ⟨b, _, none⟩) hb] at c0 c1
      have htk : (frs.take (k + 1)).map frSlice = (frs.take k).map frSlice ++ [frSlice (frs.getD k Fr.zero)] := by
        have e : frs.getD k Fr.zero = frs[k]'(by omega) := by simp [List.getD, List.getElem?_eq_getElem (show k < frs.length by omega)]
        rw [List.take_succ_eq_append_getElem (by omega), List.map_append, e]; rfl
      have HT := Lib.hid htk
      obtain ⟨x, hxe⟩ : ∃ x, x = frs.getD k Fr.zero := ⟨_, rfl⟩
      rw [← hxe] at c0 c1 HT
      obtain ⟨xk, xa, xc, xd⟩ := x
      dsimp only at c0 c1
      have i1 : (k : Int) < n := by omega
      clear hc hN htk hxe
      go_wp2_with fail
      obtain ⟨f', hf'⟩ := HBG.out
      refine (oneFr_bag B bb f' _ xk xa xd.length xc wr hf' (by omega) ?_).mono ?_
      · rw [upd_at, List.length_append, List.length_map, List.length_take]; have := HM.out; omega
      rintro e w5 ⟨rfl, hf5, hb5⟩
      rw [upd_at, upd_upd] at hf5
      have H5 := Lib.hid hf5
      clear hf5 hf' c0 c1
      go_wp2_with fail
      go_roundw
      case rel => exact ⟨k + 1, by omega, by go_num, by rw [HT.out, ← List.append_assoc]; exact H5.out, hbel.trans hb5⟩
      case measure => simp [intOf]; omega
    · obtain rfl : k = n := by omega
      have htk : frs.take k = frs := List.take_of_length_le (by rw [HN.out]; exact Nat.le_refl _)
      have hbag := HBG.out
      rw [htk, HR2.out] at hbag
      have HBG2 := Lib.hid hbag
      clear htk hbag
      go_wp2_with fail
      go_end0
      exact ⟨rfl, HBG2.out, hbel⟩
def sepF (f g : Fr) : Prop := f.blk = none ∨ f.blk ≠ g.blk
theorem sep_frs {D : List Fr} (h : D.Pairwise sepF) : SepAll D.length fun j => frSlice (D.getD j Fr.zero) := by
  have key : ∀ i j, i < j → j < D.length → Sep (frSlice (D.getD i Fr.zero)) (frSlice (D.getD j Fr.zero)) := by
    intro i j hij hj b h1 h2
    have := List.pairwise_iff_getElem.1 h i j (by omega) hj hij
    have e1 : D.getD i Fr.zero = D[i]'(by omega) := by simp [List.getD, List.getElem?_eq_getElem (show i < D.length by omega)]
    have e2 : D.getD j Fr.zero = D[j] := by simp [List.getD, List.getElem?_eq_getElem hj]
    rw [e1] at h1
    rw [e2] at h2
    have g1 : (D[i]'(by omega)).blk = some b := h1
    have g2 : D[j].blk = some b := h2
    rcases this with h3 | h3
    · rw [h3] at g1; cases g1
    · exact h3 (g1.trans g2.symm)
  intro i j hi hj hne
  rcases Nat.lt_or_gt_of_ne hne with h1 | h1
  · exact key i j h1 hj
  · exact (key j i h1 hi).symm

def duo (u v : Value) (j : Nat) : Value := if j = 0 then u else v
theorem duo_sep {u v : Value} (h : Sep u v) : SepAll 2 (duo u v) := by
  intro i j hi hj hne
  have hi' : i = 0 ∨ i = 1 := by omega
  have hj' : j = 0 ∨ j = 1 := by omega
  rcases hi' with rfl | rfl <;> rcases hj' with rfl | rfl
  · exact absurd rfl hne
  · exact h
  · exact Sep.symm h
  · exact absurd rfl hne
theorem map_getD {α β : Type} (g : α → β) (d : α) (l : List α) : l.map g = (List.range l.length).map fun j => g (l.getD j d) := by
  apply List.ext_getElem?
  intro i
  rw [List.getElem?_map, List.getElem?_map]
  by_cases hi : i < l.length
  · rw [List.getElem?_range hi, List.getElem?_eq_getElem hi]
    simp [List.getD, List.getElem?_eq_getElem hi]
  · rw [List.getElem?_eq_none (by omega), List.getElem?_eq_none (by simpa using hi)]; rfl
def rws (A B : List Value) : Nat → List Value := upd (upd (fun _ => []) 28 A) 5 B
theorem rws_nil : rws [] [] = fun _ => [] := by funext j; simp [rws, upd]
theorem rws_put (A B A' B' : List Value) : upd (upd (rws A B) 28 A') 5 B' = rws A' B' := by
  funext j; unfold rws upd
  by_cases h1 : j = 5
  · subst h1; simp
  · by_cases h2 : j = 28
    · subst h2; simp
    · simp [h1, h2]
theorem rws_5 (A B : List Value) : rws A B 5 = B := rfl
theorem rws_28 (A B : List Value) : rws A B 28 = A := rfl
/-- How far the lists have been put in. -/
def FsK (v1 v2 : Value) (frs1 frs2 : List Fr) (B bb : Nat) (i : Value) (w : World) : Prop :=
  (i = .int .i64 0 ∧ ∃ f', Bag w B bb f' (rws [] [])) ∨ (i = .int .i64 1 ∧ ∃ f', Bag w B bb f' (rws [v1] (frs1.map frSlice))) ∨ (i = .int .i64 2 ∧ ∃ f', Bag w B bb f' (rws [v1, v2] ((frs1 ++ frs2).map frSlice)))
theorem FramesIn.le {w : World} {B B' : Nat} {ao : Option Addr} {fs : List Fr} (h : FramesIn w B ao fs) (hB : B ≤ B') : FramesIn w B' ao fs := by
  rcases h with h | ⟨b, off, h1, h2, h3⟩
  · exact Or.inl h
  · exact Or.inr ⟨b, off, h1, by omega, fun i hi => ⟨(h3 i hi).1, (h3 i hi).2.1, (h3 i hi).2.2.mono hB⟩⟩
set_option maxHeartbeats 2000000 in
theorem apartFs_any (B B2 lb lc : Nat) (v1 v2 : Value) (frs1 frs2 : List Fr) (w : World) (hc0 : w.cell? ⟨lb, 0, none⟩ = some v1) (hc1 : w.cell? ⟨lb, 1, none⟩ = some v2) (hlb : lb < w.heap.size) (h1 : FramesOwn w B v1 frs1) (h2 : FramesOwn w B2 v2 frs2)
    (hlo : ∀ b, v1.ownBlock = some b → b < B2) (hlo2 : ∀ f ∈ frs1, ∀ b, f.blk = some b → b < B2) (hBB : B ≤ B2) (hB : B2 ≤ w.heap.size) (hl1 : frs1.length ≤ 40000) (hl2 : frs2.length ≤ 40000) (hd : ∀ f ∈ frs1 ++ frs2, f.data.length ≤ 1099511627776) :
    Calls Tryz.prog 21 #[.slice (some ⟨lb, 0, none⟩) 2 lc] w fun e w' => e = .returned (.bool true) ∧ Below B w w' := by
  obtain ⟨a1, c1, hv1, hcap1, hn1, hin1⟩ := h1.lie
  obtain ⟨a2, c2, hv2, hcap2, hn2, hin2⟩ := h2.lie
  subst hv1 hv2
  have H1 := Lib.hid h1
  have H2 := Lib.hid h2
  have HI1 := Lib.hid hin1
  have HI2 := Lib.hid hin2
  have HLO := Lib.hid hlo
  have HLO2 := Lib.hid hlo2
  have HD := Lib.hid hd
  have HC0 := Lib.hid hc0
  have HC1 := Lib.hid hc1
  clear h1 h2 hin1 hin2 hlo hlo2 hd hn1 hn2 hc0 hc1
  go_enter Tryz.func21, Tryz.ntmps21
  go_wp2_with fail
  have hb0 : Bag (w.alloc _) w.heap.size w.heap.size (fun _ => .slice none 0 0) (fun _ => []) := Bag.made w
  have hbe : Below w.heap.size w (w.alloc (.cells ((List.range 29).map fun _ => Value.slice none 0 0).toArray 89)) := (Below.refl _ _).alloc (Nat.le_refl _) _
  have hlit : ((List.range 29).map fun _ => Value.slice none 0 0).toArray = #[.slice none 0 0, .slice none 0 0, .slice none 0 0, .slice none 0 0, .slice none 0 0, .slice none 0 0, .slice none 0 0, .slice none 0 0, .slice none 0 0, .slice none 0 0, .slice none 0 0, .slice none 0 0, .slice none 0 0, .slice none 0 0, .slice none 0 0, .slice none 0 0, .slice none 0 0, .slice none 0 0, .slice none 0 0, .slice none 0 0, .slice none 0 0, .slice none 0 0, .slice none 0 0, .slice none 0 0, .slice none 0 0, .slice none 0 0, .slice none 0 0, .slice none 0 0, .slice none 0 0] := rfl
  rw [hlit] at hb0 hbe
  have HBE := Lib.hid hbe
  clear hbe hlit
  generalize w.alloc _ = w1 at hb0 HBE ⊢
  have hbe := HBE.out
  have HB0 := Lib.hid hb0
  clear HBE hb0
  go_loopw [4] (fun i wr => FsK (.slice a1 frs1.length c1) (.slice a2 frs2.length c2) frs1 frs2 w.heap.size w.heap.size i wr ∧ Below w.heap.size w wr) (fun i _ => 2 - (intOf i).toNat)
  case atStart => exact ⟨Or.inl ⟨rfl, _, by rw [rws_nil]; exact HB0.out⟩, hbe⟩
  case round =>
    clear hbe HB0
    obtain ⟨hrel, hbel⟩ := hrel
    have hs := hbel.size
    have c0 : wr.cell? ⟨lb, 0, none⟩ = some (.slice a1 frs1.length c1) := (hbel.cell (p := ⟨lb, 0, none⟩) hlb).trans HC0.out
    have c1' : wr.cell? ⟨lb, 1, none⟩ = some (.slice a2 frs2.length c2) := (hbel.cell (p := ⟨lb, 1, none⟩) hlb).trans HC1.out
    rcases hrel with ⟨rfl, hbag⟩ | ⟨rfl, hbag⟩ | ⟨rfl, hbag⟩
    · have HBG := Lib.hid hbag
      clear hbag
      go_wp2_with fail
      obtain ⟨f', hf'⟩ := HBG.out
      refine (putFs_bag w.heap.size w.heap.size f' (rws [] []) a1 frs1.length c1 frs1 wr rfl (HI1.out.below hbel (Nat.le_refl _)) hf' hs (by rw [rws_5]; simp; omega) (by rw [rws_28]; simp)).mono ?_
      rintro e w5 ⟨rfl, hf5, hb5⟩
      rw [rws_put, rws_5, rws_28] at hf5
      have H5 := Lib.hid hf5
      clear hf5 hf' c0 c1'
      go_wp2_with fail
      go_roundw
      case rel => exact ⟨Or.inr (Or.inl ⟨rfl, H5.out⟩), hbel.trans hb5⟩
      case measure => simp [intOf]
    · have HBG := Lib.hid hbag
      clear hbag
      go_wp2_with fail
      obtain ⟨f', hf'⟩ := HBG.out
      refine (putFs_bag w.heap.size w.heap.size f' (rws [.slice a1 frs1.length c1] (frs1.map frSlice)) a2 frs2.length c2 frs2 wr rfl (HI2.out.below hbel (Nat.le_refl _)) hf' hs (by rw [rws_5]; simp; omega) (by rw [rws_28]; simp)).mono ?_
      rintro e w5 ⟨rfl, hf5, hb5⟩
      rw [rws_put, rws_5, rws_28, ← List.map_append] at hf5
      have H5 := Lib.hid hf5
      clear hf5 hf' c0 c1'
      go_wp2_with fail
      go_roundw
      case rel => exact ⟨Or.inr (Or.inr ⟨rfl, H5.out⟩), hbel.trans hb5⟩
      case measure => simp [intOf]
    · have HBG := Lib.hid hbag
      clear hbag c0 c1'
      go_wp2_with fail
      obtain ⟨f', hf'⟩ := HBG.out
      have hpw : (frs1 ++ frs2).Pairwise sepF := List.pairwise_append.2 ⟨H1.out.2.2, H2.out.2.2, fun f hf g hg => by
        rcases hfb : f.blk with _ | b
        · exact Or.inl hfb
        · refine Or.inr fun he => ?_
          rw [hfb] at he
          have h3 := HLO2.out f hf b hfb
          have h4 := (H2.out.2.1 g hg).lt b he.symm
          omega⟩
      refine (apartBF_bag B w.heap.size w.heap.size f' _ wr hf' (by omega) (by omega)
        (frs1 ++ frs2).length (fun j => frSlice ((frs1 ++ frs2).getD j Fr.zero)) (fun j => ((frs1 ++ frs2).getD j Fr.zero).data.length) (fun j => ((frs1 ++ frs2).getD j Fr.zero).data.map bv) (map_getD frSlice Fr.zero _) (fun j hj => ?_) (sep_frs hpw) (by rw [List.length_append]; omega) (fun j hj => ?_)
        2 (duo (.slice a1 frs1.length c1) (.slice a2 frs2.length c2)) (fun j => if j = 0 then frs1.length else frs2.length) (fun j => if j = 0 then frs1.flatMap frCells else frs2.flatMap frCells) rfl (fun j hj => ?_) (duo_sep fun b h3 h4 => ?_) (by decide) (fun j hj => ?_)).mono ?_
      · have e : (frs1 ++ frs2).getD j Fr.zero = (frs1 ++ frs2)[j] := by simp [List.getD, List.getElem?_eq_getElem hj]
        show wr.ownsRow B 5 1 (frSlice ((frs1 ++ frs2).getD j Fr.zero)) ((frs1 ++ frs2).getD j Fr.zero).data.length (((frs1 ++ frs2).getD j Fr.zero).data.map bv)
        rw [e]
        rcases List.mem_append.1 (List.getElem_mem hj) with hm | hm
        · exact own_below (H1.out.2.1 _ hm) hbel (Nat.le_refl _)
        · exact Go.Joins.ownsRow_le (own_below (H2.out.2.1 _ hm) hbel (Nat.le_refl _)) hBB
      · have e : (frs1 ++ frs2).getD j Fr.zero = (frs1 ++ frs2)[j] := by simp [List.getD, List.getElem?_eq_getElem hj]
        show ((frs1 ++ frs2).getD j Fr.zero).data.length ≤ _
        rw [e]
        exact HD.out _ (List.getElem_mem hj)
      · have hj' : j = 0 ∨ j = 1 := by omega
        rcases hj' with rfl | rfl
        · exact own_below H1.out.1 hbel (Nat.le_refl _)
        · exact Go.Joins.ownsRow_le (own_below H2.out.1 hbel (Nat.le_refl _)) hBB
      · have h5 := HLO.out b h3
        have h6 := (H2.out.1.lt b h4).1
        omega
      · show (if j = 0 then frs1.length else frs2.length) ≤ _
        split <;> omega
      rintro e w6 ⟨rfl, hb6⟩
      go_wp2_with fail
      go_ret
      exact ⟨rfl, (hbel.mono (by omega)).trans hb6⟩
end Go.Proofs.YtgigfeppaalbcaaGreatDoor
