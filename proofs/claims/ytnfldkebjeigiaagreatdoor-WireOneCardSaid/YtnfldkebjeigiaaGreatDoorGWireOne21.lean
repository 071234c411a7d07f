/- ApartEntries: two lists of entries that calls have made, all their arguments and voters in blocks of their own, are found to lie apart. Conditions: the lists are the caller's own. -/
import Derived.Test.YtnfldkebjeigiaaGreatDoorGWireOne20
import Derived.Test.YtnfldkebjeigiaaGreatDoorGWireOne13
import Derived.Test.YtnfldkebjeigiaaGreatDoorGWireOne9
namespace Go.Proofs.YtnfldkebjeigiaaGreatDoor
open Go.RowKit
set_option maxRecDepth 20000
theorem bagE_not (T : TypeId) (h2 : T ≠ 36) (h6 : T ≠ 25) (h7 : T ≠ 32) (h19 : T ≠ 75) (h20 : T ≠ 72) (h0 : T ≠ 0) (i : Nat) : T ≠ bagE i := by
  unfold bagE
  split
  · exact h2
  · split
    · exact h6
    · split
      · exact h7
      · split
        · exact h19
        · split
          · exact h20
          · exact h0
theorem bagE_en (i : Nat) : 38 ≠ bagE i := bagE_not _ (by decide) (by decide) (by decide) (by decide) (by decide) (by decide) i
theorem bagE_rp (i : Nat) : 34 ≠ bagE i := bagE_not _ (by decide) (by decide) (by decide) (by decide) (by decide) (by decide) i
theorem bagE_fa (i : Nat) : 27 ≠ bagE i := bagE_not _ (by decide) (by decide) (by decide) (by decide) (by decide) (by decide) i
theorem upd_self {α : Type} (r : Nat → α) (i : Nat) : upd r i (r i) = r := by
  funext j; unfold upd; split
  · rename_i h; rw [h]
  · rfl
theorem upd_twice {α : Type} (r : Nat → α) {i j : Nat} (h : i ≠ j) (x y x' y' : α) : upd (upd (upd (upd r i x) j y) i x') j y' = upd (upd r i x') j y' := by
  funext k; unfold upd
  by_cases h1 : k = j
  · simp [h1]
  · by_cases h2 : k = i
    · simp [h2, h]
    · simp [h1, h2]
theorem oneC_bag (B bb : Nat) (f : Nat → Value) (rows : Nat → List Value) (ck : Int) (text : ByteArray) (a : Option Addr) (n c : Nat) (num : Int) (w : World) (hb : Bag w B bb f rows) (hB : B ≤ w.heap.size) (hm : (rows 6).length ≤ 1000000) :
    Calls Tryz.prog 195 #[.pointer (some ⟨bb, 0, none⟩), .agg #[.int .u8 ck, .string text, .slice a n c, .int .i64 num]] w fun e w' => e = .returned (.tuple #[]) ∧ (∃ f', Bag w' B bb f' (upd rows 6 (rows 6 ++ [.slice a n c]))) ∧ Below B w w' ∧ BagKeeps w w' := by
  have HB := Lib.hid hb
  have HM := Lib.hid hm
  clear hb hm
  go_enter Tryz.func195, Tryz.ntmps195
  go_wp2_with fail
  have hbA := HB.out.below ((Below.refl w.heap.size w).alloc (Nat.le_refl _) (.cells #[.int .u8 ck, .string text, .slice a n c, .int .i64 num] 30)) (Nat.le_refl _)
  refine (putValues_bag B bb f rows a n c _ hbA (by simp; omega) HM.out).mono ?_
  rintro e w2 ⟨rfl, hf, hb2, hk2⟩
  have HF := Lib.hid hf
  have hb3 := ((Below.refl B w).alloc hB (.cells #[.int .u8 ck, .string text, .slice a n c, .int .i64 num] 30)).trans hb2
  have HK := Lib.hid ((BagKeeps.alloc w _).trans hk2)
  clear hf hbA hk2
  go_wp2_with fail
  go_end0
  exact ⟨rfl, HF.out, hb3, HK.out⟩
theorem oneE_bag (B bb : Nat) (f : Nat → Value) (rows : Nat → List Value) (t kd s q ck : Int) (text : ByteArray) (a : Option Addr) (n c : Nat) (num : Int) (va : Option Addr) (vn vc : Nat) (w : World) (hb : Bag w B bb f rows) (hB : B ≤ w.heap.size) (hm : (rows 6).length ≤ 1000000) (hm2 : (rows 2).length ≤ 1000000) :
    Calls Tryz.prog 141 #[.pointer (some ⟨bb, 0, none⟩), .agg #[.int .i64 t, .int .u8 kd, .int .i64 s, .int .i64 q, .int .u8 ck, .string text, .slice a n c, .int .i64 num, .slice va vn vc]] w fun e w' => e = .returned (.tuple #[]) ∧ (∃ f', Bag w' B bb f' (upd (upd rows 6 (rows 6 ++ [.slice a n c])) 2 (rows 2 ++ [.slice va vn vc]))) ∧ Below B w w' ∧ BagKeeps w w' := by
  have HB := Lib.hid hb
  have HM := Lib.hid hm
  have HM2 := Lib.hid hm2
  clear hb hm hm2
  go_enter Tryz.func141, Tryz.ntmps141
  go_wp2_with fail
  have hbA := HB.out.below ((Below.refl w.heap.size w).alloc (Nat.le_refl _) (.cells #[.int .i64 t, .int .u8 kd, .int .i64 s, .int .i64 q, .int .u8 ck, .string text, .slice a n c, .int .i64 num, .slice va vn vc] 38)) (Nat.le_refl _)
  refine (oneC_bag B bb f rows ck text a n c num _ hbA (by simp; omega) HM.out).mono ?_
  rintro e w2 ⟨rfl, ⟨f2, hf⟩, hb2, hk2⟩
  have HF := Lib.hid hf
  have hb3 := ((Below.refl B w).alloc hB (.cells #[.int .i64 t, .int .u8 kd, .int .i64 s, .int .i64 q, .int .u8 ck, .string text, .slice a n c, .int .i64 num, .slice va vn vc] 38)).trans hb2
  have hblk := hk2 w.heap.size _ 38 _ (heap_alloc_new w (.cells #[.int .i64 t, .int .u8 kd, .int .i64 s, .int .i64 q, .int .u8 ck, .string text, .slice a n c, .int .i64 num, .slice va vn vc] 38)) (by decide) bagE_en
  have d8 : w2.cell? ⟨w.heap.size, 8, none⟩ = some (.slice va vn vc) := Go.Joins.cell_of_block hblk 8
  have HK := Lib.hid ((BagKeeps.alloc w _).trans hk2)
  clear hf hbA hk2 hblk
  go_wp2_with fail
  refine (putInts_bag B bb f2 _ va vn vc w2 HF.out (by have := hb3.size; omega) (by rw [upd_ne _ _ (by decide)]; exact HM2.out)).mono ?_
  rintro e w4 ⟨rfl, hf4, hb4, hk4⟩
  rw [upd_ne _ _ (show (2 : Nat) ≠ 6 by decide)] at hf4
  have HF4 := Lib.hid hf4
  have hb5 := hb3.trans hb4
  have HK4 := Lib.hid (HK.out.trans hk4)
  clear hf4 hk4 d8
  go_wp2_with fail
  go_end0
  exact ⟨rfl, HF4.out, hb5, HK4.out⟩
set_option maxHeartbeats 2000000 in
theorem putEs_bag (B bb : Nat) (f : Nat → Value) (rows : Nat → List Value) (ao : Option Addr) (n c : Nat) (es : List En) (w : World) (hn : es.length = n) (hx : EnsIn w B ao es) (hb : Bag w B bb f rows) (hB : B ≤ w.heap.size) (hm : (rows 6).length + n ≤ 1000000) (hmI : (rows 2).length + n ≤ 1000000) (hm2 : (rows 20).length ≤ 1000000) :
    Calls Tryz.prog 90 #[.pointer (some ⟨bb, 0, none⟩), .slice ao n c] w fun e w' => e = .returned (.tuple #[]) ∧ (∃ f', Bag w' B bb f' (upd (upd (upd rows 20 (rows 20 ++ [.slice ao n c])) 6 (rows 6 ++ es.map argV)) 2 (rows 2 ++ es.map votV))) ∧ Below B w w' := by
  obtain ⟨i0, hi, hz0, hz1, hz2⟩ := info24 (show (Tryz.prog.info? 72).map (fun i => (i.zero, i.size, i.bytes)) = some (some (.slice none 0 0), 1, 24) by kernel_rfl)
  have c5 : w.cell? ⟨bb, 20, none⟩ = some (f 20) := hb.cell 20 (by decide)
  have HB := Lib.hid hb
  have HX := Lib.hid hx
  have HN := Lib.hid hn
  have HM := Lib.hid hm
  have HMI := Lib.hid hmI
  have hbl := hb.lt
  have hn6 : n ≤ 1000000 := by omega
  clear hb hx hn hm hmI
  obtain ⟨v, hv⟩ : ∃ v, v = f 20 := ⟨_, rfl⟩
  obtain ⟨R, hR⟩ : ∃ R, R = rows 20 := ⟨_, rfl⟩
  rw [← hv] at c5
  rw [← hR] at hm2
  have HO := Lib.hid (show w.ownsRow B 72 1 v R.length R by rw [hv, hR]; exact HB.out.own 20)
  have HV := Lib.hid hv
  have HR := Lib.hid hR
  clear hv hR
  go_enter Tryz.func90, Tryz.ntmps90
  go_wp2_with (at_builtin; refine wpList_append_own _ rfl (.tmp 9) (.tmp 11) 73 rfl B 72 i0 (.slice none 0 0) 1 24 Tryz.underlying73 hi hz0 hz1 hz2 rfl (by decide) v R.length R rfl (HO.out.alloc _) ⟨w.heap.size, 0, none⟩ 1 1 [.slice ao n c] rfl rfl (cell_one_new _ _ _) (by simp [Value.oneCell']) (by unfold maxLen; omega) (by omega) (by simp; omega) ?_)
  intro v' w3 hown3 hg3 _
  obtain ⟨a3, c3, hv3, _, _, _⟩ := row_form hown3
  subst hv3
  have hga : w.grownBy w3 (f 20).ownBlock := by
    rw [← HV.out]
    exact (World.grownBy_alloc w _ _).trans hg3
  have hB2 := HB.out.put 20 (by decide) (by decide) (v := .slice a3 (R.length + 1) c3) (x := .slice ao n c) (by rw [← HR.out]; exact hown3) hga
  have hb3 : w3.heap[bb]? = some (.cells ((List.range 29).map f).toArray 142 (0, 0)) := (hga.block bb hbl (fun e => HB.out.apart 20 e.symm)).trans HB.out.is
  have d5 : w3.cell? ⟨bb, 20, none⟩ = some v := by
    rw [Go.Joins.cell_of_block hb3 20, List.getElem?_toArray, List.getElem?_map, List.getElem?_range (by decide), HV.out]; rfl
  have f5 : w3.frozen? ⟨bb, 20, none⟩ = false := Go.Joins.unfrozen_of_block hb3 20
  have hbw : Below B w (w3.setCell ⟨bb, 20, none⟩ (.slice a3 (R.length + 1) c3)) := (((Below.refl B w).grown hga hB (fun k hk => ((HB.out.own 20).lt k hk).1)).setCell (p := ⟨bb, 20, none⟩) HB.out.base _)
  have H1 := Lib.hid hB2
  have H3 := Lib.hid hbw
  clear hB2 hbw hown3 hg3 hb3 hga
  go_wp2_with fail
  have h1 := H1.out
  have h3 := H3.out
  clear d5 f5 H1 H3
  generalize w3.setCell ⟨bb, 20, none⟩ (.slice a3 (R.length + 1) c3) = w4 at h1 h3 ⊢
  obtain ⟨r2, hr2⟩ : ∃ r2, r2 = upd rows 20 (rows 20 ++ [.slice ao n c]) := ⟨_, rfl⟩
  have h26 : r2 6 = rows 6 := by rw [hr2]; exact upd_ne rows _ (by decide)
  have h22 : r2 2 = rows 2 := by rw [hr2]; exact upd_ne rows _ (by decide)
  rw [← hr2] at h1
  have HR2 := Lib.hid hr2
  have H26 := Lib.hid h26
  have H22 := Lib.hid h22
  have HB4 := Lib.hid h1
  clear hr2 h26 h22 h1 HB
  go_loopw [4] (fun i wr => ∃ (k : Nat), k ≤ n ∧ i = .int .i64 k ∧ (∃ f', Bag wr B bb f' (upd (upd r2 6 (rows 6 ++ (es.take k).map argV)) 2 (rows 2 ++ (es.take k).map votV))) ∧ Below B w wr) (fun i _ => n - (intOf i).toNat)
  case atStart => exact ⟨0, by omega, rfl, ⟨_, by rw [← H26.out, ← H22.out]; simp only [List.take_zero, List.map_nil, List.append_nil]; rw [upd_self, upd_self]; exact HB4.out⟩, h3⟩
  case round =>
    clear HB4 h3
    obtain ⟨k, hk, rfl, hbag, hbel⟩ := hrel
    have HBG := Lib.hid hbag
    clear hbag
    have hs := hbel.size
    by_cases hlt : k < n
    · have hkx : es[k]? = some (es[k]'(by rw [HN.out]; exact hlt)) := List.getElem?_eq_getElem _
      obtain ⟨b, off, hao, hb, hc, _⟩ := HX.out.at hkx
      have htk : ∀ V : En → Value, (es.take (k + 1)).map V = (es.take k).map V ++ [V (es[k]'(by rw [HN.out]; exact hlt))] := fun V => by
        rw [List.take_succ_eq_append_getElem (by rw [HN.out]; exact hlt), List.map_append]; rfl
      have hT1 := htk argV
      have hT2 := htk votV
      generalize es[k]'(by rw [HN.out]; exact hlt) = x at hc hT1 hT2
      obtain ⟨t, kd, s, q, ck, text, aao, args, acap, num, vao, vs, vcap⟩ := x
      obtain ⟨an, han⟩ : ∃ an, args.length = an := ⟨_, rfl⟩
      obtain ⟨vn, hvn⟩ : ∃ vn, vs.length = vn := ⟨_, rfl⟩
      have hT1' : (es.take (k + 1)).map argV = (es.take k).map argV ++ [.slice aao an acap] := by rw [← han]; exact hT1
      have hT2' : (es.take (k + 1)).map votV = (es.take k).map votV ++ [.slice vao vn vcap] := by rw [← hvn]; exact hT2
      have HT1 := Lib.hid hT1'
      have HT2 := Lib.hid hT2'
      subst hao
      have c0 : wr.cell? ⟨b, off + k * 9, none⟩ = some (.int .i64 t) := (hbel.cell (p := ⟨b, _, none⟩) hb).trans (hc 0 (by decide))
      have c1 : wr.cell? ⟨b, off + k * 9 + 1, none⟩ = some (.int .u8 kd) := (hbel.cell (p := ⟨b, _, none⟩) hb).trans (hc 1 (by decide))
      have c2 : wr.cell? ⟨b, off + k * 9 + 2, none⟩ = some (.int .i64 s) := (hbel.cell (p := ⟨b, _, none⟩) hb).trans (hc 2 (by decide))
      have c3 : wr.cell? ⟨b, off + k * 9 + 3, none⟩ = some (.int .i64 q) := (hbel.cell (p := ⟨b, _, none⟩) hb).trans (hc 3 (by decide))
      have c4 : wr.cell? ⟨b, off + k * 9 + 4, none⟩ = some (.int .u8 ck) := (hbel.cell (p := ⟨b, _, none⟩) hb).trans (hc 4 (by decide))
      have c5 : wr.cell? ⟨b, off + k * 9 + 5, none⟩ = some (.string text) := (hbel.cell (p := ⟨b, _, none⟩) hb).trans (hc 5 (by decide))
      have c6 : wr.cell? ⟨b, off + k * 9 + 6, none⟩ = some (.slice aao an acap) := (hbel.cell (p := ⟨b, _, none⟩) hb).trans (han ▸ hc 6 (by decide))
      have c7 : wr.cell? ⟨b, off + k * 9 + 7, none⟩ = some (.int .i64 num) := (hbel.cell (p := ⟨b, _, none⟩) hb).trans (hc 7 (by decide))
      have c8 : wr.cell? ⟨b, off + k * 9 + 8, none⟩ = some (.slice vao vn vcap) := (hbel.cell (p := ⟨b, _, none⟩) hb).trans (hvn ▸ hc 8 (by decide))
      have i1 : (k : Int) < n := by omega
      clear hc hkx htk hT1 hT2 hT1' hT2' han hvn
      go_wp2_with fail
      obtain ⟨f', hf'⟩ := HBG.out
      refine (oneE_bag B bb f' _ t kd s q ck text aao an acap num vao vn vcap wr hf' (by omega) ?_ ?_).mono ?_
      · rw [upd_ne _ _ (show (6 : Nat) ≠ 2 by decide), upd_at, List.length_append, List.length_map, List.length_take]; have := HM.out; omega
      · rw [upd_at, List.length_append, List.length_map, List.length_take]; have := HMI.out; omega
      rintro e w5 ⟨rfl, hf5, hb5, _⟩
      rw [upd_at, upd_ne _ _ (show (6 : Nat) ≠ 2 by decide), upd_at, upd_twice _ (by decide)] at hf5
      have H5 := Lib.hid hf5
      clear hf5 hf' c0 c1 c2 c3 c4 c5 c6 c7 c8
      go_wp2_with fail
      go_roundw
      case rel => exact ⟨k + 1, by omega, by go_num, by rw [HT1.out, HT2.out, ← List.append_assoc, ← List.append_assoc]; exact H5.out, hbel.trans hb5⟩
      case measure => simp [intOf]; omega
    · obtain rfl : k = n := by omega
      have htk : es.take k = es := List.take_of_length_le (by rw [HN.out]; exact Nat.le_refl _)
      have hbag := HBG.out
      rw [htk, HR2.out] at hbag
      have HBG2 := Lib.hid hbag
      clear htk hbag
      go_wp2_with fail
      go_end0
      exact ⟨rfl, HBG2.out, hbel⟩
theorem sep_vals (V : En → Value) {D : List En} (h : D.Pairwise fun x y => (V x).ownBlock = none ∨ (V x).ownBlock ≠ (V y).ownBlock) : SepAll D.length fun j => V (D.getD j ⟨0, 0, 0, 0, 0, ByteArray.empty, none, [], 0, 0, none, [], 0⟩) := by
  have key : ∀ i j, i < j → j < D.length → Sep (V (D.getD i ⟨0, 0, 0, 0, 0, ByteArray.empty, none, [], 0, 0, none, [], 0⟩)) (V (D.getD j ⟨0, 0, 0, 0, 0, ByteArray.empty, none, [], 0, 0, none, [], 0⟩)) := by
    intro i j hij hj b h1 h2
    have := List.pairwise_iff_getElem.1 h i j (by omega) hj hij
    have e1 : D.getD i ⟨0, 0, 0, 0, 0, ByteArray.empty, none, [], 0, 0, none, [], 0⟩ = D[i]'(by omega) := by simp [List.getD, List.getElem?_eq_getElem (show i < D.length by omega)]
    have e2 : D.getD j ⟨0, 0, 0, 0, 0, ByteArray.empty, none, [], 0, 0, none, [], 0⟩ = D[j] := by simp [List.getD, List.getElem?_eq_getElem hj]
    rw [e1] at h1
    rw [e2] at h2
    rcases this with h3 | h3
    · rw [h3] at h1; cases h1
    · exact h3 (h1.trans h2.symm)
  intro i j hi hj hne
  rcases Nat.lt_or_gt_of_ne hne with h1 | h1
  · exact key i j h1 hj
  · exact (key j i h1 hi).symm
def duo (u v : Value) (j : Nat) : Value := if j = 0 then u else v
theorem duo_sep {u v : Value} (h : Sep u v) : SepAll 2 (duo u v) := by
  intro i j hi hj hne
  have hi' : i = 0 ∨ i = 1 := by omega
  have hj' : j = 0 ∨ j = 1 := by omega
  rcases hi' with rfl | rfl <;> rcases hj' with rfl | rfl
  · exact absurd rfl hne
  · exact h
  · exact Sep.symm h
  · exact absurd rfl hne
theorem map_getD {α β : Type} (g : α → β) (d : α) (l : List α) : l.map g = (List.range l.length).map fun j => g (l.getD j d) := by
  apply List.ext_getElem?
  intro i
  rw [List.getElem?_map, List.getElem?_map]
  by_cases hi : i < l.length
  · rw [List.getElem?_range hi, List.getElem?_eq_getElem hi]
    simp [List.getD, List.getElem?_eq_getElem hi]
  · rw [List.getElem?_eq_none (by omega), List.getElem?_eq_none (by simpa using hi)]; rfl
/-- Lists of entries, of values, of numbers. -/
def rws3 (A B C : List Value) : Nat → List Value := upd (upd (upd (fun _ => []) 20 A) 6 B) 2 C
theorem rws3_nil : rws3 [] [] [] = fun _ => [] := by funext j; simp [rws3, upd]
theorem rws3_put (A B C A' B' C' : List Value) : upd (upd (upd (rws3 A B C) 20 A') 6 B') 2 C' = rws3 A' B' C' := by
  funext j; unfold rws3 upd
  by_cases h1 : j = 2
  · subst h1; simp
  · by_cases h2 : j = 6
    · subst h2; simp
    · by_cases h3 : j = 20
      · subst h3; simp
      · simp [h1, h2, h3]
theorem rws3_2 (A B C : List Value) : rws3 A B C 2 = C := rfl
theorem rws3_6 (A B C : List Value) : rws3 A B C 6 = B := rfl
theorem rws3_20 (A B C : List Value) : rws3 A B C 20 = A := rfl
/-- How far the lists have been put in. -/
def EsK (v1 v2 : Value) (es1 es2 : List En) (B bb : Nat) (i : Value) (w : World) : Prop :=
  (i = .int .i64 0 ∧ ∃ f', Bag w B bb f' (rws3 [] [] [])) ∨ (i = .int .i64 1 ∧ ∃ f', Bag w B bb f' (rws3 [v1] (es1.map argV) (es1.map votV))) ∨ (i = .int .i64 2 ∧ ∃ f', Bag w B bb f' (rws3 [v1, v2] ((es1 ++ es2).map argV) ((es1 ++ es2).map votV)))
set_option maxHeartbeats 2000000 in
theorem apartEs_any (B lb lc : Nat) (v1 v2 : Value) (es1 es2 : List En) (w : World) (hc0 : w.cell? ⟨lb, 0, none⟩ = some v1) (hc1 : w.cell? ⟨lb, 1, none⟩ = some v2) (hlb : lb < w.heap.size) (h1 : EnsOwn w B v1 es1) (h2 : EnsOwn w B v2 es2)
    (hlo : ∀ b, v1.ownBlock = some b → v2.ownBlock = some b → False) (hlo2 : ∀ x ∈ es1, ∀ y ∈ es2, sepE x y) (hB : B ≤ w.heap.size) (hl1 : es1.length ≤ 40000) (hl2 : es2.length ≤ 40000) (hd : ∀ x ∈ es1 ++ es2, x.args.length ≤ 1099511627776 ∧ x.vs.length ≤ 1099511627776) :
    Calls Tryz.prog 44 #[.slice (some ⟨lb, 0, none⟩) 2 lc] w fun e w' => e = .returned (.bool true) ∧ Below B w w' ∧ ∀ b, b < w.heap.size → v1.ownBlock ≠ some b → v2.ownBlock ≠ some b → (∀ x ∈ es1 ++ es2, (argV x).ownBlock ≠ some b ∧ (votV x).ownBlock ≠ some b) → w'.heap[b]? = w.heap[b]? := by
  obtain ⟨a1, c1, hv1, hcap1, hn1, hin1⟩ := h1.lie
  obtain ⟨a2, c2, hv2, hcap2, hn2, hin2⟩ := h2.lie
  subst hv1 hv2
  have H1 := Lib.hid h1
  have H2 := Lib.hid h2
  have HI1 := Lib.hid hin1
  have HI2 := Lib.hid hin2
  have HLO := Lib.hid hlo
  have HLO2 := Lib.hid hlo2
  have HD := Lib.hid hd
  have HC0 := Lib.hid hc0
  have HC1 := Lib.hid hc1
  clear h1 h2 hin1 hin2 hlo hlo2 hd hn1 hn2 hc0 hc1
  go_enter Tryz.func44, Tryz.ntmps44
  go_wp2_with fail
  have hb0 : Bag (w.alloc _) w.heap.size w.heap.size (fun _ => .slice none 0 0) (fun _ => []) := Bag.made w
  have hbe : Below w.heap.size w (w.alloc (.cells ((List.range 29).map fun _ => Value.slice none 0 0).toArray 142)) := (Below.refl _ _).alloc (Nat.le_refl _) _
  have hlit : ((List.range 29).map fun _ => Value.slice none 0 0).toArray = #[.slice none 0 0, .slice none 0 0, .slice none 0 0, .slice none 0 0, .slice none 0 0, .slice none 0 0, .slice none 0 0, .slice none 0 0, .slice none 0 0, .slice none 0 0, .slice none 0 0, .slice none 0 0, .slice none 0 0, .slice none 0 0, .slice none 0 0, .slice none 0 0, .slice none 0 0, .slice none 0 0, .slice none 0 0, .slice none 0 0, .slice none 0 0, .slice none 0 0, .slice none 0 0, .slice none 0 0, .slice none 0 0, .slice none 0 0, .slice none 0 0, .slice none 0 0, .slice none 0 0] := rfl
  rw [hlit] at hb0 hbe
  have HBE := Lib.hid hbe
  clear hbe hlit
  generalize w.alloc _ = w1 at hb0 HBE ⊢
  have hbe := HBE.out
  have HB0 := Lib.hid hb0
  clear HBE hb0
  go_loopw [4] (fun i wr => EsK (.slice a1 es1.length c1) (.slice a2 es2.length c2) es1 es2 w.heap.size w.heap.size i wr ∧ Below w.heap.size w wr) (fun i _ => 2 - (intOf i).toNat)
  case atStart => exact ⟨Or.inl ⟨rfl, _, by rw [rws3_nil]; exact HB0.out⟩, hbe⟩
  case round =>
    clear hbe HB0
    obtain ⟨hrel, hbel⟩ := hrel
    have hs := hbel.size
    have c0 : wr.cell? ⟨lb, 0, none⟩ = some (.slice a1 es1.length c1) := (hbel.cell (p := ⟨lb, 0, none⟩) hlb).trans HC0.out
    have c1' : wr.cell? ⟨lb, 1, none⟩ = some (.slice a2 es2.length c2) := (hbel.cell (p := ⟨lb, 1, none⟩) hlb).trans HC1.out
    rcases hrel with ⟨rfl, hbag⟩ | ⟨rfl, hbag⟩ | ⟨rfl, hbag⟩
    · have HBG := Lib.hid hbag
      clear hbag
      go_wp2_with fail
      obtain ⟨f', hf'⟩ := HBG.out
      refine (putEs_bag w.heap.size w.heap.size f' (rws3 [] [] []) a1 es1.length c1 es1 wr rfl (HI1.out.below enSub_kept hbel (Nat.le_refl _)) hf' hs (by rw [rws3_6]; simp; omega) (by rw [rws3_2]; simp; omega) (by rw [rws3_20]; simp)).mono ?_
      rintro e w5 ⟨rfl, hf5, hb5⟩
      rw [rws3_put, rws3_2, rws3_6, rws3_20] at hf5
      have H5 := Lib.hid hf5
      clear hf5 hf' c0 c1'
      go_wp2_with fail
      go_roundw
      case rel => exact ⟨Or.inr (Or.inl ⟨rfl, H5.out⟩), hbel.trans hb5⟩
      case measure => simp [intOf]
    · have HBG := Lib.hid hbag
      clear hbag
      go_wp2_with fail
      obtain ⟨f', hf'⟩ := HBG.out
      refine (putEs_bag w.heap.size w.heap.size f' (rws3 [.slice a1 es1.length c1] (es1.map argV) (es1.map votV)) a2 es2.length c2 es2 wr rfl (HI2.out.below enSub_kept hbel (Nat.le_refl _)) hf' hs (by rw [rws3_6]; simp; omega) (by rw [rws3_2]; simp; omega) (by rw [rws3_20]; simp)).mono ?_
      rintro e w5 ⟨rfl, hf5, hb5⟩
      rw [rws3_put, rws3_2, rws3_6, rws3_20, ← List.map_append, ← List.map_append] at hf5
      have H5 := Lib.hid hf5
      clear hf5 hf' c0 c1'
      go_wp2_with fail
      go_roundw
      case rel => exact ⟨Or.inr (Or.inr ⟨rfl, H5.out⟩), hbel.trans hb5⟩
      case measure => simp [intOf]
    · have HBG := Lib.hid hbag
      clear hbag c0 c1'
      go_wp2_with fail
      obtain ⟨f', hf'⟩ := HBG.out
      have hpw : (es1 ++ es2).Pairwise sepE := List.pairwise_append.2 ⟨H1.out.sep, H2.out.sep, HLO2.out⟩
      have hg : ∀ j, j < (es1 ++ es2).length → ∃ x ∈ es1 ++ es2, (es1 ++ es2).getD j ⟨0, 0, 0, 0, 0, ByteArray.empty, none, [], 0, 0, none, [], 0⟩ = x := fun j hj =>
        ⟨_, List.getElem_mem hj, by simp [List.getD, List.getElem?_eq_getElem hj]⟩
      have ho : ∀ x ∈ es1 ++ es2, enOwn wr B x := fun x hx => by
        rcases List.mem_append.1 hx with hm | hm
        · exact (H1.out.own x hm).below hbel (Nat.le_refl _)
        · exact (H2.out.own x hm).below hbel (Nat.le_refl _)
      refine (apartR_bag B w.heap.size w.heap.size f' _ wr hf' (by omega) (by omega)
        (es1 ++ es2).length (fun j => votV ((es1 ++ es2).getD j ⟨0, 0, 0, 0, 0, ByteArray.empty, none, [], 0, 0, none, [], 0⟩)) (fun j => ((es1 ++ es2).getD j ⟨0, 0, 0, 0, 0, ByteArray.empty, none, [], 0, 0, none, [], 0⟩).vs.length) (fun j => ((es1 ++ es2).getD j ⟨0, 0, 0, 0, 0, ByteArray.empty, none, [], 0, 0, none, [], 0⟩).vs.flatMap iCells) (map_getD votV _ _) (fun j hj => ?_) (sep_vals votV (hpw.imp fun h => h.2)) (by rw [List.length_append]; omega) (fun j hj => ?_)
        (es1 ++ es2).length (fun j => argV ((es1 ++ es2).getD j ⟨0, 0, 0, 0, 0, ByteArray.empty, none, [], 0, 0, none, [], 0⟩)) (fun j => ((es1 ++ es2).getD j ⟨0, 0, 0, 0, 0, ByteArray.empty, none, [], 0, 0, none, [], 0⟩).args.length) (fun j => ((es1 ++ es2).getD j ⟨0, 0, 0, 0, 0, ByteArray.empty, none, [], 0, 0, none, [], 0⟩).args.flatMap vaCells) (map_getD argV _ _) (fun j hj => ?_) (sep_vals argV (hpw.imp fun h => h.1)) (by rw [List.length_append]; omega) (fun j hj => ?_)
        0 (fun _ => .slice none 0 0) (fun _ => 0) (fun _ => []) rfl (fun j hj => absurd hj (Nat.not_lt_zero j)) (fun i j hi => absurd hi (Nat.not_lt_zero i)) (by decide) (fun j hj => absurd hj (Nat.not_lt_zero j))
        0 (fun _ => .slice none 0 0) (fun _ => 0) (fun _ => []) rfl (fun j hj => absurd hj (Nat.not_lt_zero j)) (fun i j hi => absurd hi (Nat.not_lt_zero i)) (by decide) (fun j hj => absurd hj (Nat.not_lt_zero j))
        2 (duo (.slice a1 es1.length c1) (.slice a2 es2.length c2)) (fun j => if j = 0 then es1.length else es2.length) (fun j => if j = 0 then es1.flatMap enCells else es2.flatMap enCells) rfl (fun j hj => ?_) (duo_sep fun b h3 h4 => ?_) (by decide) (fun j hj => ?_)).mono ?_
      · obtain ⟨x, hx, e⟩ := hg j hj
        try dsimp only
        rw [e]
        exact (ho x hx).2
      · obtain ⟨x, hx, e⟩ := hg j hj
        try dsimp only
        rw [e]
        exact (HD.out x hx).2
      · obtain ⟨x, hx, e⟩ := hg j hj
        try dsimp only
        rw [e]
        exact (ho x hx).1
      · obtain ⟨x, hx, e⟩ := hg j hj
        try dsimp only
        rw [e]
        exact (HD.out x hx).1
      · have hj' : j = 0 ∨ j = 1 := by omega
        rcases hj' with rfl | rfl
        · exact own_below H1.out.row hbel (Nat.le_refl _)
        · exact own_below H2.out.row hbel (Nat.le_refl _)
      · exact HLO.out b h3 h4
      · show (if j = 0 then es1.length else es2.length) ≤ _
        split <;> omega
      rintro e w6 ⟨rfl, hb6, hap⟩
      have HAP := Lib.hid hap
      clear hap
      go_wp2_with fail
      go_ret
      refine ⟨rfl, (hbel.mono (by omega)).trans hb6, fun b hb g1 g2 g3 => (HAP.out b (by omega) ?_ ?_ ?_ ?_ ?_).trans (hbel.block b hb)⟩
      · rintro ⟨j, hj, e⟩
        obtain ⟨x, hx, ex⟩ := hg j hj
        dsimp only at e
        rw [ex] at e
        exact (g3 x hx).2 e
      · rintro ⟨j, hj, e⟩
        obtain ⟨x, hx, ex⟩ := hg j hj
        dsimp only at e
        rw [ex] at e
        exact (g3 x hx).1 e
      · rintro ⟨j, hj, _⟩; exact absurd hj (Nat.not_lt_zero j)
      · rintro ⟨j, hj, _⟩; exact absurd hj (Nat.not_lt_zero j)
      · rintro ⟨j, hj, e⟩
        have hj' : j = 0 ∨ j = 1 := by omega
        rcases hj' with rfl | rfl
        · exact g1 e
        · exact g2 e
end Go.Proofs.YtnfldkebjeigiaaGreatDoor
