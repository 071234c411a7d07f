/- Append of commands. Conditions: the wal lies so; the commands lie as they read. -/
import Derived.Test.YtnhnabcpkaeaaaaGreatDoorGWalNone18
import Derived.Maps.AppendAt
set_option linter.unusedVariables false
set_option linter.unusedSimpArgs false
namespace Go.Proofs.YtnhnabcpkaeaaaaGreatDoor
open Go.RowKit
set_option maxRecDepth 20000
/-- What Put tells of frames, by what they say. -/
def putEP : List (Int × List Int) → Int
  | [] => 0
  | p :: r => if p.1 < 0 ∨ 255 < p.1 then 2 else if 1048576 < p.2.length then 3 else putEP r
theorem putE_pairs (fs : List Fr) : putE fs = putEP (fs.map Fr.pair) := by
  induction fs with
  | nil => rfl
  | cons f r ih =>
    unfold putE
    rw [ih]
    rfl
theorem putB_pairs (fs : List Fr) : putB fs = putP (fs.map Fr.pair) := by
  unfold putB putP
  rw [List.flatMap_map]
  rfl
def putWP (room : Nat) (s : WP) (L : Dk) (l : List (Int × List Int)) : WP × Dk × Int :=
  if putEP l ≠ 0 then (s, L, putEP l) else
  if (dAppend room L walS.data.toList (putP l)).2 ≠ 0 then (s, (dAppend room L walS.data.toList (putP l)).1, (dAppend room L walS.data.toList (putP l)).2) else (doAny s l, (dAppend room L walS.data.toList (putP l)).1, 0)
theorem putW_pairs (room : Nat) (s : WP) (L : Dk) (fs : List Fr) : putW room s L fs = putWP room s L (fs.map Fr.pair) := by
  unfold putW putWP
  rw [putE_pairs, putB_pairs]
/-- Frames of a call's own, in a row that grows. -/
structure FrsB (w : World) (lo : Nat) (v : Value) (frs : List Fr) : Prop where
  row : w.ownsRow lo 83 2 v frs.length (frs.flatMap frCells)
  dat : ∀ f ∈ frs, BytesIn w w.heap.size f.ao f.data ∧ ∀ ad, f.ao = some ad → lo ≤ ad.block ∧ ad.block < w.heap.size ∧ v.ownBlock ≠ some ad.block
theorem FrsB.nil (w : World) (lo : Nat) : FrsB w lo (.slice none 0 0) [] := ⟨World.ownsRow_nil _ _ _ _, fun f hf => by cases hf⟩
theorem FrsB.below {w w' : World} {lo : Nat} {v : Value} {frs : List Fr} (h : FrsB w lo v frs) (hb : Below w.heap.size w w') : FrsB w' lo v frs :=
  ⟨own_below h.row hb (Nat.le_refl _), fun f hf => ⟨((h.dat f hf).1.below hb (Nat.le_refl _)).mono hb.size, fun ad had => let q := (h.dat f hf).2 ad had; ⟨q.1, Nat.lt_of_lt_of_le q.2.1 hb.size, q.2.2⟩⟩⟩
theorem FrsB.hi {w : World} {lo n cap : Nat} {ao : Option Addr} {frs : List Fr} (h : FrsB w lo (.slice ao n cap) frs) (hn : frs.length = n) : FramesHi w lo ao frs := by
  subst hn
  have h0 := h.row
  rcases Go.Joins.ownsRow_forms h.row with ⟨_, hz⟩ | ⟨g, c', hv⟩
  · exact Or.inl (List.eq_nil_of_length_eq_zero hz)
  · injection hv with h1 h2 h3
    subst h1
    have hg := World.ownsRow.lt h0 g rfl
    refine Or.inr ⟨g, 0, rfl, hg.1, hg.2, fun i hi => ?_⟩
    have hfi : frs[i]? = some (frs.getD i Fr.zero) := by simp [List.getD, List.getElem?_eq_getElem hi]
    have hm := List.mem_of_getElem? hfi
    have hc : ∀ j, j < 2 → w.cell? ⟨g, i * 2 + j, none⟩ = (frCells (frs.getD i Fr.zero))[j]? := fun j hj => by
      rw [World.ownsRow.cellAt h0 _ (by omega)]
      exact flat_get frCells_len _ i _ hfi j hj
    exact ⟨by rw [Nat.zero_add]; exact hc 0 (by decide), by rw [Nat.zero_add]; exact hc 1 (by decide), (h.dat _ hm).1, fun ad had => ((h.dat _ hm).2 ad had).1⟩
theorem bytes_row {w w' : World} {row : Option Nat} {ao : Option Addr} {xs : List Int} (h : BytesIn w w.heap.size ao xs) (hg : w.grownBy w' row) (hn : ∀ ad, ao = some ad → row ≠ some ad.block) : BytesIn w' w'.heap.size ao xs := by
  rcases h with h | ⟨b, off, h1, h2, h3⟩
  · exact Or.inl h
  · refine Or.inr ⟨b, off, h1, Nat.lt_of_lt_of_le h2 hg.size, fun i hi => ?_⟩
    rw [cell_block (hg.block b h2 (fun e => hn _ h1 e.symm))]
    exact h3 i hi
theorem FrsB.snoc {w w2 w3 : World} {lo : Nat} {v v' : Value} {frs : List Fr} {f : Fr} (h : FrsB w lo v frs) (hlo : lo ≤ w.heap.size) (hb : Below w.heap.size w w2) (hd : BytesIn w2 w2.heap.size f.ao f.data) (hdl : ∀ ad, f.ao = some ad → w.heap.size ≤ ad.block ∧ ad.block < w2.heap.size)
    (hown : w3.ownsRow lo 83 2 v' (frs.length + 1) (frs.flatMap frCells ++ frCells f)) (hg : w2.grownBy w3 v.ownBlock) (hv : v'.ownBlock = v.ownBlock ∨ v'.ownBlock = some w2.heap.size) : FrsB w3 lo v' (frs ++ [f]) := by
  have h2 := h.below hb
  have key : ∀ g ∈ frs ++ [f], BytesIn w2 w2.heap.size g.ao g.data ∧ ∀ ad, g.ao = some ad → lo ≤ ad.block ∧ ad.block < w2.heap.size ∧ v.ownBlock ≠ some ad.block := fun g hg2 => by
    rcases List.mem_append.1 hg2 with hq | hq
    · exact h2.dat g hq
    · rw [List.mem_singleton.1 hq]
      refine ⟨hd, fun ad had => ⟨Nat.le_trans hlo (hdl ad had).1, (hdl ad had).2, fun e => ?_⟩⟩
      have := (World.ownsRow.lt h.row _ e).2
      have := (hdl ad had).1
      omega
  refine ⟨by rw [List.length_append, List.flatMap_append]; simpa using hown, fun g hg2 => ?_⟩
  obtain ⟨k1, k2⟩ := key g hg2
  refine ⟨bytes_row k1 hg (fun ad had => (k2 ad had).2.2), fun ad had => ⟨(k2 ad had).1, Nat.lt_of_lt_of_le (k2 ad had).2.1 hg.size, ?_⟩⟩
  rcases hv with hv | hv
  · rw [hv]; exact (k2 ad had).2.2
  · rw [hv]
    intro e
    injection e with e
    have := (k2 ad had).2.1
    omega
def cmdPs (i : Int) : List Int → List (Int × List Int)
  | [] => []
  | k :: r => (2, cmdD i k) :: cmdPs (i + 1) r
theorem cmdPs_take (i : Int) (ks : List Int) (k : Nat) (hk : k < ks.length) : (cmdPs i ks).take (k + 1) = (cmdPs i ks).take k ++ [(2, cmdD (i + k) ks[k])] := by
  induction ks generalizing i k with
  | nil => simp at hk
  | cons x r ih =>
    cases k with
    | zero => simp [cmdPs]
    | succ k =>
      have hk' : k < r.length := by simpa using hk
      have := ih (i + 1) k hk'
      rw [cmdPs, List.take_succ_cons, this, List.take_succ_cons, List.cons_append]
      simp only [List.getElem_cons_succ]
      rw [show i + 1 + (k : Int) = i + ((k + 1 : Nat) : Int) by omega]
theorem cmdPs_len (i : Int) (ks : List Int) : (cmdPs i ks).length = ks.length := by
  induction ks generalizing i with
  | nil => rfl
  | cons x r ih => rw [cmdPs, List.length_cons, List.length_cons, ih]
theorem cmdPs_bytes (i : Int) (ks : List Int) : (putP (cmdPs i ks)).length = 63 * ks.length := by
  induction ks generalizing i with
  | nil => rfl
  | cons x r ih => rw [cmdPs, putP_cons, List.length_append, frameB_len, cmdD_len, ih, List.length_cons]; omega
theorem cmdPs_mem (i : Int) (ks : List Int) (p : Int × List Int) (hp : p ∈ cmdPs i ks) : ∃ j k, p = (2, cmdD j k) := by
  induction ks generalizing i with
  | nil => cases hp
  | cons x r ih =>
    rcases List.mem_cons.1 hp with rfl | hp
    · exact ⟨_, _, rfl⟩
    · exact ih _ hp
set_option maxHeartbeats 4000000 in
theorem wappend_any {w : World} {B wb sb db mb room n q m : Nat} {s : WP} {L : Dk} (h : WalDk w B wb sb db mb room n s L) (hn : n ≤ 999990) (hok : s.Ok q) (i : Int) (ao : Option Addr) (cap : Nat) (ks : List Int) (hm : ks.length = m) (hpos : 0 < m) (hx : EnsIn w w.heap.size ao (ks.map cmdEn)) (hk : ∀ k ∈ ks, N64 k) (hmb : mb < sb) (hq : q + m ≤ 1000000) (hi : s.base < i ∧ i ≤ s.base + s.L.length + 1) (r : WP × Dk × Int) (hr : putWP room s L (cmdPs i ks) = r) :
    Calls Tryz.prog 18 #[.pointer (some ⟨wb, 0, none⟩), .int .i64 i, .slice ao m cap] w (WalTold r B wb sb db mb room (n + 1) w) := by
  obtain ⟨bq, hbq⟩ : ∃ bq, s.base = bq := ⟨_, rfl⟩
  obtain ⟨ll, hll⟩ : ∃ ll, s.L.length = ll := ⟨_, rfl⟩
  have hb1 := hok.base
  have hb2 := hok.len
  rw [hbq, hll] at hi
  rw [hbq] at hb1
  rw [hll] at hb2
  obtain ⟨v, es, hs, hmap⟩ := h.wal.say
  have c0 := Go.Joins.cell_of_block h.wal.blk 0
  have s2 := Go.Joins.cell_of_block hs.blk 2
  rw [hbq] at s2
  have hend : Calls Tryz.prog 48 #[.pointer (some ⟨sb, 0, none⟩)] w fun e w' => e = .returned (.int .i64 (bq + ll + 1)) ∧ Below w.heap.size w w' := by
    have := wend_any B sb _ _ _ _ _ _ ll w hs (by rw [← hll, ← hmap, List.length_map]) (by omega) (by rw [hbq]; omega)
    rw [hbq] at this
    exact this
  have e1 : decide (i ≤ bq) = false := by simp; omega
  have e2 : decide (bq + ll + 1 < i) = false := by simp; omega
  have e3 : ¬ i ≤ bq := by omega
  have e4 : ¬ bq + (ll : Int) + 1 < i := by omega
  have i1 : (0 : Int) < m := by omega
  have i2 : decide ((m : Int) = 0) = false := by simp; omega
  have i3 : ((m : Int) == 0) = false := by simp; omega
  have HEND := Lib.hid hend
  have H := Lib.hid h
  have HX := Lib.hid hx
  have HM := Lib.hid hm
  have HK := Lib.hid hk
  have HOK := Lib.hid hok
  have HR := Lib.hid hr
  clear h hx hm hk hok hr hs hmap hend hbq hll
  go_enter Tryz.func18, Tryz.ntmps18
  go_wp2_with fail
  refine (wthere_any wb sb w c0).mono ?_
  rintro e w' ⟨rfl, rfl⟩
  go_wp2_with fail
  refine HEND.out.mono ?_
  rintro e w1 ⟨rfl, hb1'⟩
  have HB1 := Lib.hid hb1'
  clear hb1' s2 c0
  go_wp2_with fail
  refine (containsE_any ao m cap ks w1 HM.out ((HX.out.below enSub_kept HB1.out (Nat.le_refl _)).mono enSub_rising HB1.out.size) HK.out (by omega)).mono ?_
  rintro e w2 ⟨rfl, hb2'⟩
  have HB2 := Lib.hid (HB1.out.trans (hb2'.mono HB1.out.size))
  clear hb2'
  go_wp2_with fail
  have HX2 := Lib.hid ((HX.out.below enSub_kept HB2.out (Nat.le_refl _)).mono enSub_rising HB2.out.size)
  have H2 := Lib.hid (H.out.below HB2.out)
  have hz2 : w.heap.size ≤ w2.heap.size := HB2.out.size
  clear HX HEND e1 e2 e3 e4 i2 i3
  obtain ⟨i0, hi0, hz0, hz1, hz2'⟩ := info_parts infoFrame
  go_loopw [7, 8, 9, 43] (fun u _ _ j wr => ∃ (k : Nat) (frs : List Fr), k ≤ m ∧ j = .int .i64 k ∧ frs.map Fr.pair = (cmdPs i ks).take k ∧ frs.length = k ∧ FrsB wr w2.heap.size u frs ∧ Below w2.heap.size w2 wr) (fun _ _ _ j _ => m - (intOf j).toNat)
  case atStart => exact ⟨0, [], by omega, rfl, rfl, rfl, FrsB.nil _ _, Below.refl _ _⟩
  case round =>
    obtain ⟨k, frs, hkm, rfl, hpr, hfl, hfb, hbel⟩ := hrel
    obtain ⟨fa, fc, hv⟩ := row_slice hfb.row
    rw [hfl] at hv
    subst hv
    have HPR := Lib.hid hpr
    have HFL := Lib.hid hfl
    have HFB := Lib.hid hfb
    have HB := Lib.hid hbel
    have hzr := hbel.size
    clear hpr hfl hfb hbel
    by_cases hlt : k < m
    · have hkn : k < ks.length := by rw [HM.out]; exact hlt
      have hxk : (ks.map cmdEn)[k]? = some (cmdEn ks[k]) := by rw [List.getElem?_map, List.getElem?_eq_getElem hkn]; rfl
      obtain ⟨b, off, rfl, hb, hc, _⟩ := HX2.out.at hxk
      have htk := cmdPs_take i ks k hkn
      generalize ks[k] = x at hc htk
      have HTK := Lib.hid htk
      have c0 := (HB.out.cell (p := ⟨b, off + k * 9 + 0, none⟩) hb).trans (hc 0 (by decide))
      have c1 := (HB.out.cell (p := ⟨b, off + k * 9 + 1, none⟩) hb).trans (hc 1 (by decide))
      have c2 := (HB.out.cell (p := ⟨b, off + k * 9 + 2, none⟩) hb).trans (hc 2 (by decide))
      have c3 := (HB.out.cell (p := ⟨b, off + k * 9 + 3, none⟩) hb).trans (hc 3 (by decide))
      have c4 := (HB.out.cell (p := ⟨b, off + k * 9 + 4, none⟩) hb).trans (hc 4 (by decide))
      have c5 := (HB.out.cell (p := ⟨b, off + k * 9 + 5, none⟩) hb).trans (hc 5 (by decide))
      have c6 := (HB.out.cell (p := ⟨b, off + k * 9 + 6, none⟩) hb).trans (hc 6 (by decide))
      have c7 := (HB.out.cell (p := ⟨b, off + k * 9 + 7, none⟩) hb).trans (hc 7 (by decide))
      have c8 := (HB.out.cell (p := ⟨b, off + k * 9 + 8, none⟩) hb).trans (hc 8 (by decide))
      simp only [cmdEn, enCells, List.getElem?_cons_zero, List.getElem?_cons_succ, List.length_nil, Nat.add_zero] at c0 c1 c2 c3 c4 c5 c6 c7 c8
      have j1 : (k : Int) < m := by omega
      have j2 : IntKind.i64.wrap (i + (k : Int)) = i + k := IntWalk.i64_in _ (by omega)
      have hb4 := (Below.refl wr.heap.size wr).alloc (Nat.le_refl _) (.cells #[.int .i64 2, .int .u8 2, .int .i64 1, .int .i64 x, .int .u8 0, .string ⟨#[]⟩, .slice none 0 0, .int .i64 0, .slice none 0 0] 60)
      have hk4 := heap_alloc_new wr (.cells #[.int .i64 2, .int .u8 2, .int .i64 1, .int .i64 x, .int .u8 0, .string ⟨#[]⟩, .slice none 0 0, .int .i64 0, .slice none 0 0] 60)
      clear hc hxk htk
      go_upto_region 11 with fail
      generalize wr.alloc (.cells #[.int .i64 2, .int .u8 2, .int .i64 1, .int .i64 x, .int .u8 0, .string ⟨#[]⟩, .slice none 0 0, .int .i64 0, .slice none 0 0] 60) = w4 at hb4 hk4 ⊢
      clear c0 c1 c2 c3 c4 c5 c6 c7 c8
      obtain ⟨q0, q1, q2, q3, q4, q5, q6, q7, q8⟩ := cells9 hk4
      have HB4 := Lib.hid hb4
      have hz4 := hb4.size
      clear hk4 hb4
      go_wp2_with fail
      refine (wentryf_any (i + k) x w4).mono ?_
      rintro e w5 ⟨a5, c5, rfl, hx5, hn5, hq5, hb5⟩
      have HX5 := Lib.hid hx5
      have HQ5 := Lib.hid hq5
      have HB5 := Lib.hid hb5
      have hz5 := hb5.size
      clear hx5 hn5 hq5 hb5 q0 q1 q2 q3 q4 q5 q6 q7 q8 j2
      have hba := (Below.refl w5.heap.size w5).alloc (Nat.le_refl _) (.cells #[.int .i64 2, .slice a5 54 c5] 83)
      have HBA := Lib.hid ((HB4.out.trans (HB5.out.mono hz4)).trans (hba.mono (Nat.le_trans hz4 hz5)))
      have HROW := Lib.hid (HFB.out.below HBA.out).row
      rw [HFL.out] at HROW
      have hzw : w2.heap.size ≤ (w5.alloc (.cells #[.int .i64 2, .slice a5 54 c5] 83)).heap.size := by simp; omega
      clear hba
      go_wp2_with (at_builtin; refine wpList_append_own_at _ rfl (.tmp 48) (.tmp 54) 76 rfl w2.heap.size 83 i0 (.agg #[.int .i64 0, .slice none 0 0]) 2 32 Tryz.underlying76 hi0 hz0 hz1 hz2' rfl (by decide) (.slice fa k fc) k (frs.flatMap frCells) rfl HROW.out ⟨w5.heap.size, 0, none⟩ 1 1 [.int .i64 2, .slice a5 54 c5] rfl rfl (frame_cells_new _ _ _ _) (by simp [Value.oneCell']) (by unfold maxLen; omega) (by omega) hzw ?_)
      intro v7 w7 hown7 hg7 _ hov7
      have hdl : ∀ ad, a5 = some ad → wr.heap.size ≤ ad.block ∧ ad.block < (w5.alloc (.cells #[.int .i64 2, .slice a5 54 c5] 83)).heap.size := fun ad had => by
        refine ⟨Nat.le_trans hz4 (HQ5.out ad had), ?_⟩
        rcases HX5.out with h0 | ⟨b', off', h1, hlt', _⟩
        · have := congrArg List.length h0
          rw [cmdD_len] at this
          simp at this
        · rw [had] at h1
          injection h1 with h1
          subst h1
          simp
          omega
      have hF7 := HFB.out.snoc (f := ⟨2, a5, c5, cmdD (i + k) x⟩) hzr HBA.out (by have h1 := (HX5.out.below ((Below.refl w5.heap.size w5).alloc (Nat.le_refl _) (.cells #[.int .i64 2, .slice a5 54 c5] 83)) (Nat.le_refl _)).mono (show w5.heap.size ≤ (w5.alloc (.cells #[.int .i64 2, .slice a5 54 c5] 83)).heap.size by simp); exact h1) hdl (by rw [HFL.out]; show World.ownsRow _ _ _ _ _ _ (frs.flatMap frCells ++ [.int .i64 2, .slice a5 (cmdD (i + k) x).length c5]); rw [cmdD_len]; exact hown7) hg7 (by simpa using hov7)
      have hb7 : Below w2.heap.size w2 w7 := (HB.out.trans (HBA.out.mono hzr)).grown hg7 (by simp; omega) (fun g hgg => (World.ownsRow.lt HFB.out.row g hgg).1)
      have HF7 := Lib.hid hF7
      have HB7 := Lib.hid hb7
      clear hown7 hg7 hov7 hdl hF7 hb7
      go_wp2_with fail
      go_roundw
      case rel => exact ⟨k + 1, frs ++ [⟨2, a5, c5, cmdD (i + k) x⟩], by omega, by go_num, by rw [HTK.out, List.map_append, HPR.out]; rfl, by rw [List.length_append, HFL.out]; rfl, HF7.out, HB7.out⟩
      case measure => simp [intOf]; omega
    · obtain rfl : k = m := by omega
      have hpr := HPR.out
      rw [List.take_of_length_le (by rw [cmdPs_len, HM.out]; exact Nat.le_refl _)] at hpr
      have hrr : putW room s L frs = r := by rw [putW_pairs, hpr]; exact HR.out
      have hpl : (putB frs).length ≤ 1000000000 := by rw [putB_pairs, hpr, cmdPs_bytes, HM.out]; omega
      have hfw : ∀ f ∈ frs, FrWf f := fun f hf => by
        obtain ⟨j, k, hp⟩ := cmdPs_mem i ks f.pair (by rw [← hpr]; exact List.mem_map.2 ⟨f, hf, rfl⟩)
        obtain ⟨hp1, hp2⟩ := Prod.mk.inj hp
        refine ⟨by rw [hp1]; rfl, fun hao => ?_, by rw [hp2]; exact cmdD_wf j k, by rw [hp2, cmdD_len]; omega⟩
        rcases (HFB.out.dat f hf).1 with h0 | ⟨b', off', h1, _⟩
        · have := congrArg List.length h0
          rw [hp2, cmdD_len] at this
          simp at this
        · rw [hao] at h1; cases h1
      have HPP := Lib.hid (And.intro hrr (And.intro hpl hfw))
      clear hpr hrr hpl hfw
      go_wp2_with fail
      refine (wput_any (H2.out.below HB.out) hn HOK.out fa fc k frs HFL.out (HFB.out.hi HFL.out) ⟨Nat.lt_of_lt_of_le H.out.wal.say.lt hz2, hmb⟩ HPP.out.2.2 (by omega) HPP.out.2.1 r HPP.out.1).mono ?_
      rintro e w9 ⟨rfl, hwd, hbl⟩
      have HE := Lib.hid (And.intro hwd hbl)
      clear hwd hbl
      go_wp2_with fail
      go_ret
      have hmz : mb ≤ w.heap.size := Nat.le_of_lt (Nat.lt_of_lt_of_le H.out.dk.mlt H.out.dk.le)
      exact ⟨rfl, HE.out.1, (HB2.out.mono hmz).trans ((HB.out.mono (Nat.le_trans hmz hz2)).trans HE.out.2)⟩
end Go.Proofs.YtnhnabcpkaeaaaaGreatDoor
/- Vote of a wal. Conditions: the wal lies so; the numbers are as they may be. -/
namespace Go.Proofs.YtnhnabcpkaeaaaaGreatDoor
open Go.RowKit
set_option maxRecDepth 20000
def pairD (a b : Int) : List Int := numB 8 a ++ numB 8 b
theorem pairD_len (a b : Int) : (pairD a b).length = 16 := by unfold pairD; rw [List.length_append, numB_len, numB_len]
theorem pairD_wf (a b : Int) : BytesWf (pairD a b) := fun x hx => (List.mem_append.1 hx).elim (numB_wf 8 a x) (numB_wf 8 b x)
theorem one_hi {w : World} {g lo : Nat} {kind : Int} {a : Option Addr} {c : Nat} {D : List Int} {T : TypeId} (hk : w.heap[g]? = some (.cells #[.int .i64 kind, .slice a D.length c] T (0, 0))) (hlo : lo ≤ g) (hx : BytesIn w w.heap.size a D) (hq : ∀ ad, a = some ad → lo ≤ ad.block) : FramesHi w lo (some ⟨g, 0, none⟩) [⟨kind, a, c, D⟩] := by
  refine Or.inr ⟨g, 0, rfl, hlo, (Array.getElem?_eq_some_iff.1 hk).1, fun i hi => ?_⟩
  obtain rfl : i = 0 := by simp at hi; exact hi
  exact ⟨Go.Joins.cell_of_block hk 0, Go.Joins.cell_of_block hk 1, hx, hq⟩
theorem one_wf {kind : Int} {a : Option Addr} {c : Nat} {D : List Int} (hk : (Lit.int .i64 kind).wf = true) (hn : a = none → c = 0) (hw : BytesWf D) (hl : D.length ≤ 140737488351232) : ∀ f ∈ [(⟨kind, a, c, D⟩ : Fr)], FrWf f := fun f hf => by
  rw [List.mem_singleton.1 hf]
  exact ⟨hk, hn, hw, hl⟩
set_option maxHeartbeats 2000000 in
theorem wvote_any {w : World} {B wb sb db mb room n q : Nat} {s : WP} {L : Dk} (h : WalDk w B wb sb db mb room n s L) (hn : n ≤ 999990) (hok : s.Ok q) (hmb : mb < sb) (hq : q + 1 ≤ 1000000) (t v : Int) (ht : 0 ≤ t ∧ t ≤ 1099511627776) (hv : 0 ≤ v ∧ v ≤ 9) (r : WP × Dk × Int) (hr : putWP room s L [(1, pairD t v)] = r) :
    Calls Tryz.prog 17 #[.pointer (some ⟨wb, 0, none⟩), .int .i64 t, .int .i64 v] w (WalTold r B wb sb db mb room (n + 1) w) := by
  have c0 := Go.Joins.cell_of_block h.wal.blk 0
  have e1 : decide (t < 0) = false := by simp; omega
  have e2 : decide (1099511627776 < t) = false := by simp; omega
  have e3 : decide (v < 0) = false := by simp; omega
  have e4 : decide (9 < v) = false := by simp; omega
  have H := Lib.hid h
  have HOK := Lib.hid hok
  have HR := Lib.hid hr
  clear h hok hr
  go_enter Tryz.func17, Tryz.ntmps17
  go_wp2_with fail
  refine (wthere_any wb sb w c0).mono ?_
  rintro e w' ⟨rfl, rfl⟩
  go_wp2_with fail
  refine (pair_any 1 t v _ _ (pairD t v) w rfl rfl rfl).mono ?_
  rintro e w1 ⟨a, c, rfl, hx1, hn1, hc1, hq1, hb1⟩
  have hba := (Below.refl w1.heap.size w1).alloc (Nat.le_refl _) (.cells #[.int .i64 1, .slice a 16 c] 83)
  have hka := heap_alloc_new w1 (.cells #[.int .i64 1, .slice a 16 c] 83)
  have HX1 := Lib.hid (And.intro hx1 (And.intro hn1 hq1))
  have HB1 := Lib.hid hb1
  clear hx1 hn1 hq1 hb1 e1 e2 e3 e4 c0
  go_wp2_with fail
  generalize w1.alloc (.cells #[.int .i64 1, .slice a 16 c] 83) = w2 at hba hka ⊢
  have hb2 := HB1.out.trans (hba.mono HB1.out.size)
  have hhi : FramesHi w2 w.heap.size (some ⟨w1.heap.size, 0, none⟩) [⟨1, a, c, pairD t v⟩] := one_hi (T := 83) (by rw [pairD_len]; exact hka) HB1.out.size ((HX1.out.1.below hba (Nat.le_refl _)).mono hba.size) HX1.out.2.2
  refine (wput_any (H.out.below hb2) hn HOK.out (some ⟨w1.heap.size, 0, none⟩) 1 1 [⟨1, a, c, pairD t v⟩] rfl hhi ⟨H.out.wal.say.lt, hmb⟩ (one_wf rfl HX1.out.2.1 (pairD_wf t v) (by rw [pairD_len]; omega)) (by omega) (by rw [putB_pairs]; show (putP [(1, pairD t v)]).length ≤ _; rw [putP_cons, List.length_append, frameB_len, pairD_len]; simp [putP]) r (by rw [putW_pairs]; exact HR.out)).mono ?_
  rintro e w9 ⟨rfl, hwd, hbl⟩
  have HE := Lib.hid (And.intro hwd hbl)
  have HB2 := Lib.hid hb2
  clear hwd hbl hba hka hb2 hhi
  go_wp2_with fail
  go_ret
  have hmz : mb ≤ w.heap.size := Nat.le_of_lt (Nat.lt_of_lt_of_le H.out.dk.mlt H.out.dk.le)
  exact ⟨rfl, HE.out.1, (HB2.out.mono hmz).trans HE.out.2⟩
end Go.Proofs.YtnhnabcpkaeaaaaGreatDoor
/- What the example of chapter 18 makes, in plain Lean. No program. Conditions: none. -/
namespace Go.Proofs.YtnhnabcpkaeaaaaGreatDoor
open Go.RowKit
set_option maxRecDepth 20000
theorem doW_vote (s : WP) (a b : Int) (ha : 0 ≤ a ∧ a ≤ 1099511627776) (hb : 0 ≤ b ∧ b ≤ 9) : doW s 1 (pairD a b) = some { s with term := a, vote := b } := by
  have h1 : numS false (pairD a b) = (a, false, numB 8 b) := numS_back a (numB 8 b) (by unfold N64; omega)
  have h2 : numS false (numB 8 b) = (b, false, []) := by have := numS_back b [] (by unfold N64; omega); rwa [List.append_nil] at this
  rw [doW_one]
  unfold voteW
  rw [h1]
  dsimp only
  rw [h2]
  exact if_pos ⟨rfl, ha, hb⟩
theorem doW_cmd (s : WP) (i k : Int) (hi : N64 i) (hk : N64 k) (h : s.base < i ∧ i ≤ s.base + s.L.length + 1) : doW s 2 (cmdD i k) = some { s with L := s.L.take (i - s.base - 1).toNat ++ [cmdP k] } := by
  have h1 : numS false (cmdD i k) = (i, false, entryB (cmdP k)) := numS_back i _ hi
  have h2 := cmdB_back k hk
  rw [doW_two]
  unfold entryW
  rw [h1]
  dsimp only
  rw [h2]
  exact if_pos ⟨rfl, h.1, h.2⟩
def fsA : List (Int × List Int) := [(1, pairD 3 2)]
def fsB : List (Int × List Int) := cmdPs 1 [1, 2]
def fsC : List (Int × List Int) := cmdPs 2 [3]
def s1 : WP := ⟨3, 2, 0, 0, []⟩
def s2 : WP := ⟨3, 2, 0, 0, [cmdP 1, cmdP 2]⟩
def s3 : WP := ⟨3, 2, 0, 0, [cmdP 1, cmdP 3]⟩
theorem do_a : doW WP.zero 1 (pairD 3 2) = some s1 := doW_vote WP.zero 3 2 (by decide) (by decide)
theorem do_b1 : doW s1 2 (cmdD 1 1) = some ⟨3, 2, 0, 0, [cmdP 1]⟩ := doW_cmd s1 1 1 ⟨by decide, by decide⟩ ⟨by decide, by decide⟩ (by decide)
theorem do_b2 : doW ⟨3, 2, 0, 0, [cmdP 1]⟩ 2 (cmdD 2 2) = some s2 := doW_cmd ⟨3, 2, 0, 0, [cmdP 1]⟩ 2 2 ⟨by decide, by decide⟩ ⟨by decide, by decide⟩ (by decide)
theorem do_c : doW s2 2 (cmdD 2 3) = some s3 := doW_cmd s2 2 3 ⟨by decide, by decide⟩ ⟨by decide, by decide⟩ (by decide)
theorem any_a : doAny WP.zero fsA = s1 := by
  show (doW WP.zero 1 (pairD 3 2)).getD WP.zero = s1
  rw [do_a]; rfl
theorem any_b : doAny s1 fsB = s2 := by
  show (doW ((doW s1 2 (cmdD 1 1)).getD s1) 2 (cmdD (1 + 1) 2)).getD ((doW s1 2 (cmdD 1 1)).getD s1) = s2
  rw [do_b1]
  show (doW ⟨3, 2, 0, 0, [cmdP 1]⟩ 2 (cmdD 2 2)).getD _ = s2
  rw [do_b2]; rfl
theorem any_c : doAny s2 fsC = s3 := by
  show (doW s2 2 (cmdD 2 3)).getD s2 = s3
  rw [do_c]; rfl
theorem all_ab : doAll WP.zero (fsA ++ fsB) = some s2 := by
  show doAll WP.zero [(1, pairD 3 2), (2, cmdD 1 1), (2, cmdD (1 + 1) 2)] = some s2
  unfold doAll
  dsimp only
  rw [do_a]
  dsimp only
  unfold doAll
  dsimp only
  rw [do_b1]
  dsimp only
  unfold doAll
  dsimp only
  rw [show ((1 : Int) + 1) = 2 from rfl, do_b2]
  dsimp only
  unfold doAll
  rfl
theorem bytesA_len : (putP fsA).length = 25 := by unfold fsA; rw [putP_cons, List.length_append, frameB_len, pairD_len]; rfl
theorem bytesB_len : (putP fsB).length = 126 := cmdPs_bytes 1 [1, 2]
theorem bytesC_len : (putP fsC).length = 63 := cmdPs_bytes 2 [3]
def lA : Dk := [(walS.data.toList, ⟨[], putP fsA⟩)]
def lB : Dk := [(walS.data.toList, ⟨[], putP fsA ++ putP fsB⟩)]
def lS : Dk := [(walS.data.toList, ⟨putP fsA ++ putP fsB, []⟩)]
def lC : Dk := [(walS.data.toList, ⟨putP fsA ++ putP fsB, putP fsC⟩)]
theorem dAppend_one (room : Nat) (f : Fi) (b : List Int) (h1 : f.all.length + b.length ≤ 4194304) (h2 : f.all.length + b.length ≤ room) : dAppend room [(walS.data.toList, f)] walS.data.toList b = ([(walS.data.toList, ⟨f.firm, f.loose ++ b⟩)], 0) := by
  have hg : dGet [(walS.data.toList, f)] walS.data.toList = some f := by unfold dGet; rw [if_pos rfl]
  have hu : dUsed [(walS.data.toList, f)] = f.all.length := by simp [dUsed]
  unfold dAppend
  rw [hg, hu]
  dsimp only [Option.getD]
  rw [if_neg (by rw [wal_named.good]; simp), if_neg (by omega), if_neg (by omega)]
  have hd : dDel [(walS.data.toList, f)] walS.data.toList = [] := by unfold dDel; rw [List.filter_cons_of_neg (by simp)]; rfl
  unfold dPut
  rw [hd]
theorem dAppend_nil (room : Nat) (b : List Int) (h1 : b.length ≤ 4194304) (h2 : b.length ≤ room) : dAppend room [] walS.data.toList b = ([(walS.data.toList, ⟨[], b⟩)], 0) := by
  show (if goodName walS.data.toList = false then ([], 2) else if 4194304 < (Fi.none).all.length + b.length then ([], 3) else if room < dUsed [] + b.length then ([], 5) else (dPut [] walS.data.toList ⟨Fi.none.firm, Fi.none.loose ++ b⟩, 0)) = _
  have h3 : (Fi.none).all.length = 0 := rfl
  have h4 : dUsed [] = 0 := rfl
  rw [h3, h4, if_neg (by rw [wal_named.good]; simp), if_neg (by omega), if_neg (by omega)]
  rfl
theorem putEP_a : putEP fsA = 0 := by unfold fsA putEP putEP; dsimp only; rw [if_neg (by decide), if_neg (by rw [pairD_len]; omega)]
theorem putEP_cmd (i : Int) (ks : List Int) : putEP (cmdPs i ks) = 0 := by
  induction ks generalizing i with
  | nil => rfl
  | cons k r ih =>
    rw [cmdPs, putEP]
    dsimp only
    rw [if_neg (by decide), if_neg (by rw [cmdD_len]; omega), ih]
theorem put_a : putWP 1048576 WP.zero [] fsA = (s1, lA, 0) := by
  unfold putWP
  rw [if_neg (by rw [putEP_a]; simp), dAppend_nil _ _ (by rw [bytesA_len]; omega) (by rw [bytesA_len]; omega), if_neg (by simp), any_a]
  rfl
theorem put_b : putWP 1048576 s1 lA (cmdPs 1 [1, 2]) = (s2, lB, 0) := by
  unfold putWP lA
  rw [if_neg (by rw [putEP_cmd]; simp), dAppend_one _ _ _ (by show ([] ++ putP fsA).length + (putP fsB).length ≤ _; rw [List.nil_append, bytesA_len, bytesB_len]; omega) (by show ([] ++ putP fsA).length + (putP fsB).length ≤ _; rw [List.nil_append, bytesA_len, bytesB_len]; omega), if_neg (by simp)]
  show (doAny s1 fsB, _, _) = _
  rw [any_b]
  rfl
theorem sync_b : (dSync lB walS.data.toList).1 = lS := by
  have hg : dGet lB walS.data.toList = some ⟨[], putP fsA ++ putP fsB⟩ := by unfold lB dGet; rw [if_pos rfl]
  have hd : dDel lB walS.data.toList = [] := by unfold dDel lB; rw [List.filter_cons_of_neg (by simp)]; rfl
  rw [dSync_eq hg]
  unfold dPut
  dsimp only
  rw [hd]
  rfl
theorem put_c : putWP 1048576 s2 lS (cmdPs 2 [3]) = (s3, lC, 0) := by
  unfold putWP lS
  rw [if_neg (by rw [putEP_cmd]; simp), dAppend_one _ _ _ (by show (putP fsA ++ putP fsB ++ []).length + (putP fsC).length ≤ _; rw [List.append_nil, List.length_append, bytesA_len, bytesB_len, bytesC_len]; omega) (by show (putP fsA ++ putP fsB ++ []).length + (putP fsC).length ≤ _; rw [List.append_nil, List.length_append, bytesA_len, bytesB_len, bytesC_len]; omega), if_neg (by simp)]
  show (doAny s2 fsC, _, _) = _
  rw [any_c]
  rfl
theorem crash_one (k : List UInt8) (f l : List Int) : dCrash 0 [(k, ⟨f, l⟩)] = [(k, ⟨f, []⟩)] := by simp [dCrash, crashBut, Fi.crash]
theorem crash_c : dCrash 0 lC = lS := crash_one _ _ _
theorem okA : ∀ p ∈ fsA ++ fsB, okP p := by
  intro p hp
  rcases List.mem_append.1 hp with hp | hp
  · rw [List.mem_singleton.1 hp]
    exact ⟨by show (0 : Int) ≤ 1; omega, by show (1 : Int) ≤ 255; omega, by show (pairD 3 2).length ≤ _; rw [pairD_len]; omega, pairD_wf 3 2⟩
  · obtain ⟨j, k, rfl⟩ := cmdPs_mem 1 [1, 2] p hp
    exact ⟨by show (0 : Int) ≤ 2; omega, by show (2 : Int) ≤ 255; omega, by show (cmdD j k).length ≤ _; rw [cmdD_len]; omega, cmdD_wf j k⟩
theorem putP_app (a b : List (Int × List Int)) : putP a ++ putP b = putP (a ++ b) := by unfold putP; rw [List.flatMap_append]
theorem open_ab : openS (putP fsA ++ putP fsB) = some s2 := by
  unfold openS
  rw [putP_app, scan_all _ okA, if_neg (by simp)]
  exact all_ab
theorem open_nil : openS [] = some WP.zero := by
  unfold openS
  rw [show ([] : List Int) = putP [] from rfl, scan_all [] (fun p hp => by cases hp), if_neg (by simp)]
  rfl
end Go.Proofs.YtnhnabcpkaeaaaaGreatDoor
/- The example of chapter 18, walked. Conditions: none. -/
namespace Go.Proofs.YtnhnabcpkaeaaaaGreatDoor
open Go.RowKit
set_option maxRecDepth 20000
theorem info_en9W : (Tryz.prog.info? 60).map (·.size) = some 9 := by kernel_rfl
theorem cmdE_one (k : Int) : (#[.int .i64 2, .int .u8 2, .int .i64 1, .int .i64 k, .int .u8 0, .string ⟨#[]⟩, .slice none 0 0, .int .i64 0, .slice none 0 0] : Array Value).all (·.oneCell') = true := by simp [Value.oneCell']
theorem cmd18_any (k : Int) (w : World) : Calls Tryz.prog 21 #[.int .i64 k] w fun e w' => e = .returned (.agg #[.int .i64 2, .int .u8 2, .int .i64 1, .int .i64 k, .int .u8 0, .string ⟨#[]⟩, .slice none 0 0, .int .i64 0, .slice none 0 0]) ∧ Below w.heap.size w w' := by
  have hb0 := (Below.refl w.heap.size w).alloc (Nat.le_refl _) (.cells #[.int .i64 0, .int .u8 0, .int .i64 0, .int .i64 0, .int .u8 0, .string ⟨#[]⟩, .slice none 0 0, .int .i64 0, .slice none 0 0] 60)
  have hk0 := heap_alloc_new w (.cells #[.int .i64 0, .int .u8 0, .int .i64 0, .int .i64 0, .int .u8 0, .string ⟨#[]⟩, .slice none 0 0, .int .i64 0, .slice none 0 0] 60)
  go_enter Tryz.func21, Tryz.ntmps21
  go_upto_region 1 with fail
  generalize w.alloc (.cells #[.int .i64 0, .int .u8 0, .int .i64 0, .int .i64 0, .int .u8 0, .string ⟨#[]⟩, .slice none 0 0, .int .i64 0, .slice none 0 0] 60) = w0 at hb0 hk0 ⊢
  go_wp2_with (refine wpList_store_row rfl 60 (.tmp 2) (.tmp 4) rfl w.heap.size #[.int .i64 2, .int .u8 2, .int .i64 1, .int .i64 k, .int .u8 0, .string ⟨#[]⟩, .slice none 0 0, .int .i64 0, .slice none 0 0] rfl rfl 60 _ hk0 info_en9W rfl (cmdE_one k) ?_)
  have hk1 := setRow_heap w0 w.heap.size _ #[.int .i64 2, .int .u8 2, .int .i64 1, .int .i64 k, .int .u8 0, .string ⟨#[]⟩, .slice none 0 0, .int .i64 0, .slice none 0 0] _ _ hk0
  exact bodyPost_ret (results_cell_row rfl _ _ w.heap.size 60 _ _ _ rfl hk1 Tryz.underlying60 rfl info_en9W) rfl ⟨rfl, hb0.grown (grown_rowW w0 w.heap.size _) hb0.size (fun q hq => by cases hq; exact Nat.le_refl _)⟩
theorem own_seq2 {w : World} {base c : Nat} {a : Option Addr} {es : List En} {p q : EnP} (h : EnsOwn w base (.slice a 2 c) es) (hp : es.map En.plain = [p, q]) : ∃ g, a = some ⟨g, 0, none⟩ ∧ base ≤ g ∧ g < w.heap.size ∧ w.cell? ⟨g, 12, none⟩ = some (.int .i64 q.seq) := by
  have hl : es.length = 2 := by have := congrArg List.length hp; simpa using this
  have h0 := h.row
  rw [hl] at h0
  rcases Go.Joins.ownsRow_forms h0 with ⟨h1, hz⟩ | ⟨g, c', hv⟩
  · omega
  · injection hv with h1 h2 h3
    subst h1
    have hg := World.ownsRow.lt h0 g rfl
    obtain ⟨x, y, rfl⟩ : ∃ x y, es = [x, y] := by
      match es, hl with
      | [x, y], _ => exact ⟨x, y, rfl⟩
    simp only [List.map_cons, List.map_nil, List.cons.injEq, and_true] at hp
    refine ⟨g, rfl, hg.1, hg.2, ?_⟩
    rw [World.ownsRow.cellAt h0 _ (by omega)]
    have := flat_get enCells_len [x, y] 1 y rfl 3 (by decide)
    rw [show 1 * 9 + 3 = 12 from rfl] at this
    rw [this, ← hp.2]
    rfl
theorem cmds_in {w : World} {g : Nat} {T : TypeId} {fz : Nat × Nat} (ks : List Int) (cs : Array Value) (hk : w.heap[g]? = some (.cells cs T fz)) (hcs : cs.toList = (ks.map cmdEn).flatMap enCells) : EnsIn w w.heap.size (some ⟨g, 0, none⟩) (ks.map cmdEn) :=
  rowsIn_block enCells_len _ cs hk hcs (Array.getElem?_eq_some_iff.1 hk).1 fun x hx => by
    obtain ⟨k, _, rfl⟩ := List.mem_map.1 hx
    exact ⟨Or.inl rfl, Or.inl rfl⟩
def EntsAt (l : List EnP) (n : Nat) (w : World) (e : Ending) (w' : World) : Prop :=
  ∃ a c es, e = .returned (.slice a n c) ∧ EnsOwn w' w.heap.size (.slice a n c) es ∧ es.map En.plain = l ∧ Below w.heap.size w w'
theorem wents_any {w : World} {B wb sb db n : Nat} {s : WP} (h : WalIs w B wb sb db s) (hn : s.L.length = n) (hl : n ≤ 1099511627776) (hsm : ∀ e ∈ s.L, SmallP e) :
    Calls Tryz.prog 16 #[.pointer (some ⟨wb, 0, none⟩)] w (EntsAt s.L n w) := by
  obtain ⟨v, es, hs, hm⟩ := h.say
  refine (wentries_any B wb sb db _ _ _ _ v es n w ⟨h.blk, hs⟩ (by rw [← hn, ← hm, List.length_map]) hl (fun x hx => hsm x.plain (by rw [← hm]; exact List.mem_map.2 ⟨x, hx, rfl⟩))).mono ?_
  rintro e w' ⟨a, c, es', rfl, h1, h2, h3⟩
  exact ⟨a, c, es', rfl, h1, h2.trans hm, h3⟩
theorem wvoted_any {w : World} {B wb sb db : Nat} {s : WP} (h : WalIs w B wb sb db s) :
    Calls Tryz.prog 14 #[.pointer (some ⟨wb, 0, none⟩)] w fun e w' => e = .returned (.tuple #[.int .i64 s.term, .int .i64 s.vote]) ∧ Below w.heap.size w w' := by
  obtain ⟨v, es, hs, hm⟩ := h.say
  exact voted_any B wb sb db _ _ _ _ v es w ⟨h.blk, hs⟩
theorem wbased_any {w : World} {B wb sb db : Nat} {s : WP} (h : WalIs w B wb sb db s) :
    Calls Tryz.prog 15 #[.pointer (some ⟨wb, 0, none⟩)] w fun e w' => e = .returned (.tuple #[.int .i64 s.base, .int .i64 s.before]) ∧ Below w.heap.size w w' := by
  obtain ⟨v, es, hs, hm⟩ := h.say
  exact wbase_any B wb sb db _ _ _ _ v es w ⟨h.blk, hs⟩
theorem cmd_small (k : Int) : SmallP (cmdP k) := ⟨by show (0 : Nat) ≤ _; omega, by show (0 : Nat) ≤ _; omega⟩
theorem s2_ok : s2.Ok 10 := ⟨by decide, by decide, fun e he => by
  simp only [s2, List.mem_cons, List.not_mem_nil, or_false] at he
  rcases he with rfl | rfl <;> exact cmd_small _⟩
theorem s3_ok : s3.Ok 10 := ⟨by decide, by decide, fun e he => by
  simp only [s3, List.mem_cons, List.not_mem_nil, or_false] at he
  rcases he with rfl | rfl <;> exact cmd_small _⟩
theorem s1_ok : s1.Ok 10 := ⟨by decide, by decide, fun e he => by cases he⟩
theorem n64_1 (k : Int) (h : 0 ≤ k ∧ k ≤ 10) : N64 k := by unfold N64; omega
theorem dread_nil : dRead [] walS.data.toList = ([], 6) := rfl
theorem dread_s : dRead lS walS.data.toList = (putP fsA ++ putP fsB, 0) := by
  have hg : dGet lS walS.data.toList = some ⟨putP fsA ++ putP fsB, []⟩ := by unfold lS dGet; rw [if_pos rfl]
  unfold dRead
  rw [hg]
  show ((putP fsA ++ putP fsB) ++ [], _) = _
  rw [List.append_nil]
theorem openL_nil : openL [] [] 6 = [] := by
  unfold openL openL1
  rw [if_neg (by omega)]
  rfl
theorem bytesAB : (putP fsA ++ putP fsB).length = 151 := by rw [List.length_append, bytesA_len, bytesB_len]
theorem wfAB : BytesWf (putP fsA ++ putP fsB) := by
  rw [putP_app]
  intro x hx
  unfold putP at hx
  obtain ⟨p, hp, hx⟩ := List.mem_flatMap.1 hx
  have h := okA p hp
  exact frameB_wf ⟨h.1, h.2.1⟩ h.2.2.2 (by have := h.2.2.1; omega) x hx
set_option maxHeartbeats 8000000 in
theorem awake18_any (w : World) : Calls Tryz.prog 5 #[] w fun e w' => e = .returned (.bool true) ∧ Below w.heap.size w w' := by
  go_enter Tryz.func5, Tryz.ntmps5
  go_wp2_with fail
  refine (dnew_any 1048576 w 1048576 (by decide) (by decide)).mono ?_
  rintro e w1 ⟨rfl, hd1, hb1⟩
  have hz1 := hb1.size
  generalize hdb : w.heap.size + 1 = db at hd1 ⊢
  generalize hmb : w.heap.size = mb at hd1
  have hmbl : mb < w1.heap.size := Nat.lt_of_lt_of_le hd1.mlt hd1.le
  have HD1 := Lib.hid hd1
  have HB1 := Lib.hid (show Below mb w w1 from hmb ▸ hb1)
  clear hd1 hb1
  go_wp2_with fail
  refine (wopen_any HD1.out (by omega) [] 6 dread_nil (fun x hx => by cases hx) (by simp)).mono ?_
  intro e w2 ho
  unfold OpenAt at ho
  rw [open_nil, openL_nil] at ho
  obtain ⟨wb, sb, rfl, hw2, hg2⟩ := ho
  have hmbs : mb < sb := Nat.lt_of_lt_of_le hmbl hw2.wal.say.lo
  have HW2 := Lib.hid hw2
  have HB2 := Lib.hid (HB1.out.trans (grown_atW hg2 (Nat.le_of_lt hmbl)))
  clear hw2 hg2
  go_wp2_with fail
  refine (wvote_any HW2.out (by omega) (WP.Ok.zero 10) hmbs (by omega) 3 2 (by omega) (by omega) _ put_a).mono ?_
  rintro e w3 ⟨rfl, hw3, hb3⟩
  have HW3 := Lib.hid hw3
  have HB3 := Lib.hid (HB2.out.trans hb3)
  clear hw3 hb3
  dsimp only at HW3 ⊢
  go_wp2_with fail
  refine (cmd18_any 1 w3).mono ?_
  rintro e w4 ⟨rfl, hb4⟩
  have HW4 := Lib.hid (HW3.out.below hb4)
  have HB4 := Lib.hid (HB3.out.trans (hb4.mono (Nat.le_trans (Nat.le_of_lt (Nat.lt_of_lt_of_le HW3.out.dk.mlt HW3.out.dk.le)) (Nat.le_refl _))))
  clear hb4
  go_wp2_with fail
  refine (cmd18_any 2 w4).mono ?_
  rintro e w5 ⟨rfl, hb5⟩
  have hba := (Below.refl w5.heap.size w5).alloc (Nat.le_refl _) (.cells #[.int .i64 2, .int .u8 2, .int .i64 1, .int .i64 1, .int .u8 0, .string ⟨#[]⟩, .slice none 0 0, .int .i64 0, .slice none 0 0, .int .i64 2, .int .u8 2, .int .i64 1, .int .i64 2, .int .u8 0, .string ⟨#[]⟩, .slice none 0 0, .int .i64 0, .slice none 0 0] 60)
  have hka := heap_alloc_new w5 (.cells #[.int .i64 2, .int .u8 2, .int .i64 1, .int .i64 1, .int .u8 0, .string ⟨#[]⟩, .slice none 0 0, .int .i64 0, .slice none 0 0, .int .i64 2, .int .u8 2, .int .i64 1, .int .i64 2, .int .u8 0, .string ⟨#[]⟩, .slice none 0 0, .int .i64 0, .slice none 0 0] 60)
  have hb56 := hb5.trans (hba.mono hb5.size)
  go_wp2_with fail
  generalize w5.alloc (.cells #[.int .i64 2, .int .u8 2, .int .i64 1, .int .i64 1, .int .u8 0, .string ⟨#[]⟩, .slice none 0 0, .int .i64 0, .slice none 0 0, .int .i64 2, .int .u8 2, .int .i64 1, .int .i64 2, .int .u8 0, .string ⟨#[]⟩, .slice none 0 0, .int .i64 0, .slice none 0 0] 60) = w6 at hba hka hb56 ⊢
  have hw6 := HW4.out.below hb56
  have HB6 := Lib.hid (HB4.out.trans (hb56.mono (Nat.le_of_lt (Nat.lt_of_lt_of_le HW4.out.dk.mlt HW4.out.dk.le))))
  refine (wappend_any (m := 2) hw6 (by omega) s1_ok 1 (some ⟨w5.heap.size, 0, none⟩) 2 [1, 2] rfl (by omega) (cmds_in [1, 2] _ hka rfl) (fun k hk => n64_1 k (by simp at hk; omega)) hmbs (by omega) (by decide) _ put_b).mono ?_
  rintro e w7 ⟨rfl, hw7, hb7⟩
  dsimp only at hw7 ⊢
  have HW7 := Lib.hid hw7
  have HB7 := Lib.hid (HB6.out.trans hb7)
  clear hw6 hw7 hb7 hba hka hb5 hb56
  have c0 := Go.Joins.cell_of_block HW7.out.wal.blk 0
  have c1 := Go.Joins.cell_of_block HW7.out.wal.blk 1
  go_wp2_with fail
  refine (wsync_dk ⟨sb, c0⟩ c1 HW7.out.dk (by omega)).mono ?_
  rintro e w8 ⟨rfl, hd8, hg8⟩
  dsimp only at hd8 ⊢
  rw [sync_b] at hd8
  have HW8 := Lib.hid (HW7.out.disked hg8 hd8)
  have HB8 := Lib.hid (HB7.out.trans (grown_atW hg8 (Nat.le_of_lt (Nat.lt_of_lt_of_le HW7.out.dk.mlt HW7.out.dk.le))))
  clear hd8 hg8 c0 c1
  go_wp2_with fail
  refine (cmd18_any 3 w8).mono ?_
  rintro e w9 ⟨rfl, hb9⟩
  have hba := (Below.refl w9.heap.size w9).alloc (Nat.le_refl _) (.cells #[.int .i64 2, .int .u8 2, .int .i64 1, .int .i64 3, .int .u8 0, .string ⟨#[]⟩, .slice none 0 0, .int .i64 0, .slice none 0 0] 60)
  have hka := heap_alloc_new w9 (.cells #[.int .i64 2, .int .u8 2, .int .i64 1, .int .i64 3, .int .u8 0, .string ⟨#[]⟩, .slice none 0 0, .int .i64 0, .slice none 0 0] 60)
  have hb9a := hb9.trans (hba.mono hb9.size)
  go_wp2_with fail
  generalize w9.alloc (.cells #[.int .i64 2, .int .u8 2, .int .i64 1, .int .i64 3, .int .u8 0, .string ⟨#[]⟩, .slice none 0 0, .int .i64 0, .slice none 0 0] 60) = w10 at hba hka hb9a ⊢
  have hw10 := HW8.out.below hb9a
  have HB10 := Lib.hid (HB8.out.trans (hb9a.mono (Nat.le_of_lt (Nat.lt_of_lt_of_le HW8.out.dk.mlt HW8.out.dk.le))))
  refine (wappend_any (m := 1) hw10 (by omega) s2_ok 2 (some ⟨w9.heap.size, 0, none⟩) 1 [3] rfl (by omega) (cmds_in [3] _ hka rfl) (fun k hk => n64_1 k (by simp at hk; omega)) hmbs (by omega) (by decide) _ put_c).mono ?_
  rintro e w11 ⟨rfl, hw11, hb11⟩
  dsimp only at hw11 ⊢
  have HW11 := Lib.hid hw11
  have HB11 := Lib.hid (HB10.out.trans hb11)
  clear hw10 hw11 hb11 hba hka hb9 hb9a
  go_wp2_with fail
  refine (wents_any HW11.out.wal (n := 2) rfl (by omega) s3_ok.small).mono ?_
  rintro e w12 ⟨a12, c12, es12, rfl, ho12, hm12, hb12⟩
  obtain ⟨g12, rfl, hg12a, hg12b, hs12⟩ := own_seq2 (p := cmdP 1) (q := cmdP 3) ho12 hm12
  have hmg : mb < g12 := Nat.lt_of_lt_of_le (Nat.lt_of_lt_of_le HW11.out.dk.mlt HW11.out.dk.le) hg12a
  have HW12 := Lib.hid (HW11.out.below hb12)
  have HB12 := Lib.hid (HB11.out.trans (hb12.mono (Nat.le_of_lt (Nat.lt_of_lt_of_le HW11.out.dk.mlt HW11.out.dk.le))))
  have HS12 := Lib.hid (And.intro hg12b hs12)
  clear ho12 hm12 hb12 hg12a hg12b hs12
  go_wp2_with fail
  refine (crash_any HW12.out.dk (by omega) 0 (by omega)).mono ?_
  rintro e w13 ⟨rfl, hd13, hg13⟩
  rw [crash_c] at hd13
  have HD13 := Lib.hid hd13
  have HS13 := Lib.hid (And.intro (Nat.lt_of_lt_of_le HS12.out.1 hg13.size) ((cell_block (hg13.block g12 HS12.out.1 (fun e => by injection e; omega))).trans HS12.out.2))
  have HB13 := Lib.hid (HB12.out.trans (grown_atW hg13 (Nat.le_of_lt (Nat.lt_of_lt_of_le HW12.out.dk.mlt HW12.out.dk.le))))
  clear hd13 hg13
  go_wp2_with fail
  refine (wopen_any HD13.out (by omega) _ 0 dread_s wfAB (by rw [bytesAB]; omega)).mono ?_
  intro e w14 ho
  unfold OpenAt at ho
  rw [open_ab] at ho
  obtain ⟨xb, tb, rfl, hw14, hg14⟩ := ho
  have HW14 := Lib.hid hw14
  have hs14 := (cell_block (hg14.block g12 HS13.out.1 (fun e => by injection e; omega))).trans HS13.out.2
  have HS14 := Lib.hid (And.intro (Nat.lt_of_lt_of_le HS13.out.1 hg14.size) hs14)
  have HB14 := Lib.hid (HB13.out.trans (grown_atW hg14 (Nat.le_of_lt (Nat.lt_of_lt_of_le HD13.out.mlt HD13.out.le))))
  clear hw14 hg14 hs14
  go_wp2_with fail
  refine (wents_any HW14.out.wal (n := 2) rfl (by omega) s2_ok.small).mono ?_
  rintro e w15 ⟨a15, c15, es15, rfl, ho15, hm15, hb15⟩
  obtain ⟨g15, rfl, hg15a, hg15b, hs15⟩ := own_seq2 (p := cmdP 1) (q := cmdP 2) ho15 hm15
  have HW15 := Lib.hid (HW14.out.below hb15)
  have HS15 := Lib.hid (And.intro (Nat.lt_of_lt_of_le HS14.out.1 hb15.size) ((hb15.cell (p := ⟨g12, 12, none⟩) HS14.out.1).trans HS14.out.2))
  have HT15 := Lib.hid (And.intro hg15b hs15)
  have HB15 := Lib.hid (HB14.out.trans (hb15.mono (Nat.le_of_lt (Nat.lt_of_lt_of_le HW14.out.dk.mlt HW14.out.dk.le))))
  clear ho15 hm15 hb15 hg15a hg15b hs15
  go_wp2_with fail
  refine (wvoted_any HW15.out.wal).mono ?_
  rintro e w16 ⟨rfl, hb16⟩
  have u12 : w16.cell? ⟨g12, 12, none⟩ = some (.int .i64 3) := (hb16.cell (p := ⟨g12, 12, none⟩) HS15.out.1).trans HS15.out.2
  have u15 : w16.cell? ⟨g15, 12, none⟩ = some (.int .i64 2) := (hb16.cell (p := ⟨g15, 12, none⟩) HT15.out.1).trans HT15.out.2
  have HB16 := Lib.hid (HB15.out.trans (hb16.mono (Nat.le_of_lt (Nat.lt_of_lt_of_le HW15.out.dk.mlt HW15.out.dk.le))))
  clear hb16
  unfold s2
  dsimp only
  go_wp2_with fail
  go_ret
  exact ⟨rfl, hmb ▸ HB16.out⟩
end Go.Proofs.YtnhnabcpkaeaaaaGreatDoor
