/- Frames are put behind the file's, and done. Conditions: they lie so, in memory that is newer than the wal. -/
import Derived.Test.YtnhnabcpkaeaaaaGreatDoorGWalReads22
import Derived.Test.YtnhnabcpkaeaaaaGreatDoorGWalReads9
import Derived.Test.YtnhnabcpkaeaaaaGreatDoorGWalReads10
set_option linter.unusedVariables false
set_option linter.unusedSimpArgs false
namespace Go.Proofs.YtnhnabcpkaeaaaaGreatDoor
open Go.RowKit
set_option maxRecDepth 20000
/-- Frames in memory that is not older than lo. -/
def FramesHi (w : World) (lo : Nat) (ao : Option Addr) (fs : List Fr) : Prop :=
  fs = [] ∨ ∃ b off, ao = some ⟨b, off, none⟩ ∧ lo ≤ b ∧ b < w.heap.size ∧ ∀ i, i < fs.length →
    w.cell? ⟨b, off + i * 2, none⟩ = some (.int .i64 (fs.getD i Fr.zero).kind) ∧
    w.cell? ⟨b, off + i * 2 + 1, none⟩ = some (.slice (fs.getD i Fr.zero).ao (fs.getD i Fr.zero).data.length (fs.getD i Fr.zero).cap) ∧
    BytesIn w w.heap.size (fs.getD i Fr.zero).ao (fs.getD i Fr.zero).data ∧ ∀ ad, (fs.getD i Fr.zero).ao = some ad → lo ≤ ad.block
theorem FramesHi.toIn {w : World} {lo : Nat} {ao : Option Addr} {fs : List Fr} (h : FramesHi w lo ao fs) : FramesIn w w.heap.size ao fs := by
  rcases h with h | ⟨b, off, h1, _, h2, h3⟩
  · exact Or.inl h
  · exact Or.inr ⟨b, off, h1, h2, fun i hi => ⟨(h3 i hi).1, (h3 i hi).2.1, (h3 i hi).2.2.1⟩⟩
theorem bytes_grown {w w' : World} {g lo : Nat} {ao : Option Addr} {xs : List Int} (h : BytesIn w w.heap.size ao xs) (hlo : ∀ ad, ao = some ad → lo ≤ ad.block) (hg : w.grownBy w' (some g)) (hlt : g < lo) : BytesIn w' w'.heap.size ao xs := by
  rcases h with h | ⟨b, off, h1, h2, h3⟩
  · exact Or.inl h
  · have hb := hlo _ h1
    refine Or.inr ⟨b, off, h1, Nat.lt_of_lt_of_le h2 hg.size, fun i hi => ?_⟩
    rw [cell_block (hg.block b h2 (by intro e; injection e with e; dsimp only at hb; omega))]
    exact h3 i hi
theorem FramesHi.grown {w w' : World} {lo g : Nat} {ao : Option Addr} {fs : List Fr} (h : FramesHi w lo ao fs) (hg : w.grownBy w' (some g)) (hlt : g < lo) : FramesHi w' lo ao fs := by
  rcases h with h | ⟨b, off, h1, hlo, h2, h3⟩
  · exact Or.inl h
  · have hk := hg.block b h2 (by intro e; injection e; omega)
    exact Or.inr ⟨b, off, h1, hlo, Nat.lt_of_lt_of_le h2 hg.size, fun i hi => ⟨(cell_block hk).trans (h3 i hi).1, (cell_block hk).trans (h3 i hi).2.1, bytes_grown (h3 i hi).2.2.1 (h3 i hi).2.2.2 hg hlt, (h3 i hi).2.2.2⟩⟩
/-- Frames are done, those that can be. -/
def doAny (s : WP) (l : List (Int × List Int)) : WP := l.foldl (fun s p => (doW s p.1 p.2).getD s) s
theorem doAny_snoc (s : WP) (l : List (Int × List Int)) (p : Int × List Int) : doAny s (l ++ [p]) = (doW (doAny s l) p.1 p.2).getD (doAny s l) := by
  unfold doAny
  rw [List.foldl_append]
  rfl
/-- What put tells. -/
def putW (room : Nat) (s : WP) (L : Dk) (fs : List Fr) : WP × Dk × Int :=
  if putE fs ≠ 0 then (s, L, putE fs) else
  let r := dAppend room L walS.data.toList (putB fs)
  if r.2 ≠ 0 then (s, r.1, r.2) else (doAny s (fs.map Fr.pair), r.1, 0)
def WalTold (r : WP × Dk × Int) (B wb sb db mb room n : Nat) (w : World) (e : Ending) (w' : World) : Prop :=
  e = .returned (.int .i64 r.2.2) ∧ WalDk w' B wb sb db mb room n r.1 r.2.1 ∧ Below mb w w'
theorem four_wf {n : Nat} (h : n < 4294967296) : BytesWf (fourB n) := by
  intro x hx
  simp only [fourB, List.mem_cons, List.not_mem_nil, or_false] at hx
  omega
theorem frameB_wf {k : Int} {d : List Int} (hk : 0 ≤ k ∧ k ≤ 255) (hd : BytesWf d) (hl : d.length < 4294967296) : BytesWf (frameB k d) := by
  intro x hx
  unfold frameB at hx
  rcases List.mem_append.1 hx with hx | hx
  · rcases List.mem_append.1 hx with hx | hx
    · rcases List.mem_append.1 hx with hx | hx
      · exact four_wf hl x hx
      · rw [List.mem_singleton.1 hx]; omega
    · refine four_wf (sumS_lt ?_) x hx
      intro y hy
      rcases List.mem_cons.1 hy with rfl | hy
      · omega
      · exact hd y hy
  · exact hd x hx
theorem putB_wf {fs : List Fr} (hok : ∀ f ∈ fs, okF f) (hw : ∀ f ∈ fs, BytesWf f.data) : BytesWf (putB fs) := by
  intro x hx
  unfold putB at hx
  obtain ⟨f, hf, hx⟩ := List.mem_flatMap.1 hx
  have h := hok f hf
  unfold okF at h
  exact frameB_wf ⟨h.1, h.2.1⟩ (hw f hf) (by omega) x hx
theorem putE_zero {fs : List Fr} (h : putE fs = 0) : ∀ f ∈ fs, okF f := by
  induction fs with
  | nil => intro f hf; cases hf
  | cons g r ih =>
    unfold putE at h
    split at h
    · omega
    · split at h
      · omega
      · intro f hf
        rcases List.mem_cons.1 hf with rfl | hf
        · unfold okF; omega
        · exact ih h f hf
theorem bytesWf_put {fs : List Fr} (hw : ∀ f ∈ fs, FrWf f) (hok : putE fs = 0) : BytesWf (putB fs) := putB_wf (putE_zero hok) fun f hf => (hw f hf).2.2.1
set_option maxHeartbeats 2000000 in
theorem wput_any {w : World} {B wb sb db mb room n q lo : Nat} {s : WP} {L : Dk} (h : WalDk w B wb sb db mb room n s L) (hn : n ≤ 999990) (hok : s.Ok q) (ao : Option Addr) (cap m : Nat) (fs : List Fr) (hm : fs.length = m) (hx : FramesHi w lo ao fs) (hlo : sb < lo ∧ mb < sb) (hw : ∀ f ∈ fs, FrWf f) (hq : q + m ≤ 1048576) (hl : (putB fs).length ≤ 1000000000) (r : WP × Dk × Int) (hr : putW room s L fs = r) :
    Calls Tryz.prog 46 #[.pointer (some ⟨wb, 0, none⟩), .slice ao m cap] w (WalTold r B wb sb db mb room (n + 1) w) := by
  subst hm
  obtain ⟨hl1, hl2⟩ := hlo
  have c0 := Go.Joins.cell_of_block h.wal.blk 0
  have c1 := Go.Joins.cell_of_block h.wal.blk 1
  have hmz : mb ≤ w.heap.size := Nat.le_of_lt (Nat.lt_of_lt_of_le h.dk.mlt h.dk.le)
  have H := Lib.hid h
  have HX := Lib.hid hx
  have HW := Lib.hid hw
  have HOK := Lib.hid hok
  have HR := Lib.hid hr
  clear h hx hw hok hr
  go_enter Tryz.func46, Tryz.ntmps46
  go_wp2_with fail
  refine (putF_any ao cap fs w HX.out.toIn HW.out (by omega) (by omega)).mono ?_
  rintro e w1 ⟨v, rfl, hv0, hv1, hb1⟩
  have h1 := H.out.below hb1
  have H1 := Lib.hid h1
  have c1' := Go.Joins.cell_of_block h1.wal.blk 1
  have HB1 := Lib.hid hb1
  clear h1 hb1 c1
  by_cases hpe : putE fs = 0
  · have ho := hv0 hpe
    obtain ⟨a, c, hv⟩ := row_slice ho
    subst hv
    have HO := Lib.hid ho
    have HPE := Lib.hid hpe
    rw [hpe]
    clear hv0 hv1 ho hpe
    obtain ⟨⟨L2, ea⟩, hap⟩ : ∃ q, dAppend room L walS.data.toList (putB fs) = q := ⟨_, rfl⟩
    have HAP := Lib.hid hap
    clear hap
    go_wp2_with fail
    refine (append_any H1.out.dk (by omega) walS wal_named a _ c (putB fs) rfl (own_bytes' HO.out) (bytesWf_put HW.out HPE.out) (own_none HO.out) hl _ HAP.out).mono ?_
    rintro e w2 ⟨rfl, hd2, hg2⟩
    dsimp only at hd2 ⊢
    have h2 := H1.out.disked hg2 hd2
    have H2 := Lib.hid h2
    have HX2 := Lib.hid ((HX.out.grown (grown_bel HB1.out (some sb)) hl1).grown hg2 (by omega))
    have hbm : Below mb w w2 := (HB1.out.mono hmz).trans (grown_atW hg2 (Nat.le_trans hmz HB1.out.size))
    have HBM := Lib.hid hbm
    clear h2 hd2 hg2 hbm c1'
    by_cases hea : ea = 0
    · have hrr : r = (doAny s (fs.map Fr.pair), L2, 0) := by rw [← HR.out]; unfold putW; rw [if_neg (by rw [HPE.out]; simp), HAP.out]; dsimp only; rw [if_neg (by rw [hea]; simp)]
      subst hea
      have HRR := Lib.hid hrr
      clear hrr
      go_wp2_with fail
      clear c0
      go_loopw [9, 29] (fun _ i wr => ∃ k : Nat, k ≤ fs.length ∧ i = .int .i64 k ∧ WalDk wr B wb sb db mb room (n + 1) (doAny s ((fs.map Fr.pair).take k)) L2 ∧ (doAny s ((fs.map Fr.pair).take k)).Ok (q + k) ∧ FramesHi wr lo ao fs ∧ Below mb w wr) (fun _ i _ => fs.length - (intOf i).toNat)
      case atStart => exact ⟨0, by omega, rfl, H2.out, HOK.out, HX2.out, HBM.out⟩
      case round =>
        clear HBM HX2 H2
        obtain ⟨k, hk, rfl, hwd, hok, hfh, hbel⟩ := hrel
        have HWD := Lib.hid hwd
        have HOKK := Lib.hid hok
        have HFH := Lib.hid hfh
        have HBEL := Lib.hid hbel
        clear hwd hok hfh hbel
        by_cases hlt : k < fs.length
        · rcases HFH.out with h0 | ⟨bb, off, rfl, hlob, hb, hc⟩
          · rw [h0] at hlt; simp at hlt
          obtain ⟨c0, c1, hD, hDlo⟩ := hc k hlt
          have hfk : fs[k]? = some (fs.getD k Fr.zero) := by simp [List.getD, List.getElem?_eq_getElem hlt]
          have hfw := HW.out (fs.getD k Fr.zero) (List.mem_of_getElem? hfk)
          obtain ⟨f, hfe⟩ : ∃ f, f = fs.getD k Fr.zero := ⟨_, rfl⟩
          rw [← hfe] at c0 c1 hD hfw hfk hDlo
          clear hfe hc
          have hpk : (fs.map Fr.pair)[k]? = some f.pair := by rw [List.getElem?_map, hfk]; rfl
          obtain ⟨sk, hsk⟩ : ∃ sk, doAny s ((fs.map Fr.pair).take k) = sk := ⟨_, rfl⟩
          have hnext : doAny s ((fs.map Fr.pair).take (k + 1)) = (doW sk f.kind f.data).getD sk := by
            obtain ⟨hkl, hkg⟩ := List.getElem?_eq_some_iff.1 hpk
            rw [List.take_succ_eq_append_getElem hkl, doAny_snoc, hsk, hkg]
            rfl
          have hwd := HWD.out
          have hok := HOKK.out
          rw [hsk] at hwd hok
          have HWD := Lib.hid hwd
          have HOKK := Lib.hid hok
          have hokn : ((doW sk f.kind f.data).getD sk).Ok (q + (k + 1)) := by
            cases hq : doW sk f.kind f.data with
            | none => exact hok.mono (by omega)
            | some t => exact doW_ok hok hfw.2.2.1 (by have := (putE_zero HPE.out f (List.mem_of_getElem? hfk)).2.2; omega) hq
          have HNEXT := Lib.hid hnext
          have HOKN := Lib.hid hokn
          have HD := Lib.hid hD
          have HDL := Lib.hid hDlo
          have HFW := Lib.hid hfw
          clear hfk hpk hnext hokn hD hfw hwd hok hsk hDlo
          obtain ⟨fk, fa, fc, fd⟩ := f
          dsimp only at c0 c1 HNEXT HOKN HD HDL
          have i1 : (k : Int) < fs.length := by omega
          have hb4 := (Below.refl wr.heap.size wr).alloc (Nat.le_refl _) (.cells #[.int .i64 fk, .slice fa fd.length fc] 83)
          have hk4 := heap_alloc_new wr (.cells #[.int .i64 fk, .slice fa fd.length fc] 83)
          go_upto_region 10 with fail
          generalize wr.alloc (.cells #[.int .i64 fk, .slice fa fd.length fc] 83) = w4 at hb4 hk4 ⊢
          have h4 := HWD.out.below hb4
          have hS : w4.cell? ⟨wb, 0, none⟩ = some (.pointer (some ⟨sb, 0, none⟩)) ∧ w4.cell? ⟨wr.heap.size, 0, none⟩ = some (.int .i64 fk) ∧ w4.cell? ⟨wr.heap.size, 1, none⟩ = some (.slice fa fd.length fc) :=
            ⟨Go.Joins.cell_of_block h4.wal.blk 0, Go.Joins.cell_of_block hk4 0, Go.Joins.cell_of_block hk4 1⟩
          have h5 := h4.below (Below.refl w4.heap.size w4).drew
          have hb5 : Below wr.heap.size wr w4.drew := hb4.drew
          have hk9 : w4.drew.heap[wr.heap.size]? = some (.cells #[.int .i64 fk, .slice fa fd.length fc] 83 (0, 0)) := hk4
          have hwne := h5.wal.ne
          have hwlt := h5.wal.lt
          have hzne : wr.heap.size ≠ sb := fun e => by have := HWD.out.wal.say.lt; omega
          have H5 := Lib.hid h5
          have HB5 := Lib.hid hb5
          have HK9 := Lib.hid hk9
          clear h4 h5 hb4 hb5 hk4 hk9 c0 c1
          refine heldS_begin (fun w' => w'.cell? ⟨wb, 0, none⟩ = some (.pointer (some ⟨sb, 0, none⟩)) ∧ w'.cell? ⟨wr.heap.size, 0, none⟩ = some (.int .i64 fk) ∧ w'.cell? ⟨wr.heap.size, 1, none⟩ = some (.slice fa fd.length fc)) (by kernel_rfl) (hS) ?_
          intro hS0
          (first | (refine takeS_no 0 rfl (by kernel_rfl) (by kernel_rfl) (by kernel_rfl) (fun _ _ _ h => h) (by rfl) (by assumption) ?_) | (refine takeS_yes (v := ?_) 0 rfl (by kernel_rfl) (by kernel_rfl) (by kernel_rfl) (fun _ _ _ h => h) (by rfl) (by assumption) ?_ ?_; rotate_left; focus (intro wS hSw; obtain ⟨q0, q1, q2⟩ := hSw; go_simp; first | done | with_reducible rfl)))
          (try simp only [Act.put, List.setIfInBounds_toArray, List.set_cons_zero, List.set_cons_succ])
          (first | (refine takeS_no 1 rfl (by kernel_rfl) (by kernel_rfl) (by kernel_rfl) (fun _ _ _ h => h) (by rfl) (by assumption) ?_) | (refine takeS_yes (v := ?_) 1 rfl (by kernel_rfl) (by kernel_rfl) (by kernel_rfl) (fun _ _ _ h => h) (by rfl) (by assumption) ?_ ?_; rotate_left; focus (intro wS hSw; obtain ⟨q0, q1, q2⟩ := hSw; go_simp; first | done | with_reducible rfl)))
          (try simp only [Act.put, List.setIfInBounds_toArray, List.set_cons_zero, List.set_cons_succ])
          (first | (refine takeS_no 2 rfl (by kernel_rfl) (by kernel_rfl) (by kernel_rfl) (fun _ _ _ h => h) (by rfl) (by assumption) ?_) | (refine takeS_yes (v := ?_) 2 rfl (by kernel_rfl) (by kernel_rfl) (by kernel_rfl) (fun _ _ _ h => h) (by rfl) (by assumption) ?_ ?_; rotate_left; focus (intro wS hSw; obtain ⟨q0, q1, q2⟩ := hSw; go_simp; first | done | with_reducible rfl)))
          (try simp only [Act.put, List.setIfInBounds_toArray, List.set_cons_zero, List.set_cons_succ])
          (first | (refine takeS_no 3 rfl (by kernel_rfl) (by kernel_rfl) (by kernel_rfl) (fun _ _ _ h => h) (by rfl) (by assumption) ?_) | (refine takeS_yes (v := ?_) 3 rfl (by kernel_rfl) (by kernel_rfl) (by kernel_rfl) (fun _ _ _ h => h) (by rfl) (by assumption) ?_ ?_; rotate_left; focus (intro wS hSw; obtain ⟨q0, q1, q2⟩ := hSw; go_simp; first | done | with_reducible rfl)))
          (try simp only [Act.put, List.setIfInBounds_toArray, List.set_cons_zero, List.set_cons_succ])
          (first | (refine takeS_no 4 rfl (by kernel_rfl) (by kernel_rfl) (by kernel_rfl) (fun _ _ _ h => h) (by rfl) (by assumption) ?_) | (refine takeS_yes (v := ?_) 4 rfl (by kernel_rfl) (by kernel_rfl) (by kernel_rfl) (fun _ _ _ h => h) (by rfl) (by assumption) ?_ ?_; rotate_left; focus (intro wS hSw; obtain ⟨q0, q1, q2⟩ := hSw; go_simp; first | done | with_reducible rfl)))
          (try simp only [Act.put, List.setIfInBounds_toArray, List.set_cons_zero, List.set_cons_succ])
          refine takeS_alone 5 rfl (by kernel_rfl) (by rfl) (fun K hK => ?_)
          go_simp
          (refine (wdo_any B sb (q + k) fd.length fc sk fk fa fd w4.drew H5.out.wal.say HOKK.out (by omega) rfl ((HD.out.below HB5.out (Nat.le_refl _)).mono HB5.out.size) HFW.out.2.2.1 HFW.out.2.1 HFW.out.2.2.2 HFW.out.1).mono ?_; intro e w5 hda; have hg5 : w4.drew.grownBy w5 (some sb) := (by { cases hq : doW sk fk fd with | none => rw [hq] at hda; exact grown_bel hda.2 _ | some t => rw [hq] at hda; exact hda.2.2 }); have h6 : WalDk w5 B wb sb db mb room (n + 1) ((doW sk fk fd).getD sk) L2 := (by { cases hq : doW sk fk fd with | none => rw [hq] at hda; exact H5.out.below hda.2 | some t => rw [hq] at hda; exact H5.out.said hda.2.2 hda.2.1 }); have hbq : ∃ bq, e = .returned (.bool bq) := (by { cases hq : doW sk fk fd with | none => rw [hq] at hda; exact ⟨_, hda.1⟩ | some t => rw [hq] at hda; exact ⟨_, hda.1⟩ }); obtain ⟨bq, rfl⟩ := hbq; have hS5 := And.intro ((cell_block (hg5.block wb hwlt (fun e => hwne (Option.some.inj e)))).trans hS0.1) (And.intro ((cell_block (hg5.block wr.heap.size (Array.getElem?_eq_some_iff.1 HK9.out).1 (fun e => hzne (Option.some.inj e)))).trans hS0.2.1) ((cell_block (hg5.block wr.heap.size (Array.getElem?_eq_some_iff.1 HK9.out).1 (fun e => hzne (Option.some.inj e)))).trans hS0.2.2)); have H6 := Lib.hid h6; have HG5 := Lib.hid hg5; clear hda h6 hg5)
          refine hK.out _ _ (by assumption) ?_
          clear hK K
          (try simp only [Act.put, List.setIfInBounds_toArray, List.set_cons_zero, List.set_cons_succ])
          refine wpAnyH_done (by kernel_rfl) ?_ _
          go_wp2_with fail
          go_roundw
          case rel => exact ⟨k + 1, by omega, by go_num, by rw [HNEXT.out]; exact H6.out, by rw [HNEXT.out]; exact HOKN.out, (HFH.out.grown (grown_bel HB5.out (some sb)) hl1).grown HG5.out hl1, HBEL.out.trans ((HB5.out.mono (Nat.le_trans hmz HBEL.out.size)).trans ((grown_atW HG5.out (Nat.le_trans (Nat.le_of_lt HWD.out.wal.say.lt) HB5.out.size)).mono (by omega)))⟩
          case measure => simp [intOf]; omega
        · obtain rfl : k = fs.length := by omega
          have hwd := HWD.out
          rw [List.take_of_length_le (by simp)] at hwd
          have HWD := Lib.hid hwd
          clear hwd
          go_wp2_with fail
          go_ret
          rw [HRR.out]
          exact ⟨rfl, HWD.out, HBEL.out⟩
    · have hrr : r = (s, L2, ea) := by rw [← HR.out]; unfold putW; rw [if_neg (by rw [HPE.out]; simp), HAP.out]; dsimp only; rw [if_pos hea]
      have e1 : decide (ea = 0) = false := by simpa using hea
      have e2 : (ea == 0) = false := by simpa using hea
      have e3 : (ea != 0) = true := by simpa using hea
      have HRR := Lib.hid hrr
      clear hrr
      go_wp2_with fail
      go_ret
      rw [HRR.out]
      exact ⟨rfl, H2.out, HBM.out⟩
  · have hrr : r = (s, L, putE fs) := by rw [← HR.out]; unfold putW; rw [if_pos hpe]
    have e1 : decide (putE fs = 0) = false := by simpa using hpe
    have e2 : (putE fs == 0) = false := by simpa using hpe
    have e3 : (putE fs != 0) = true := by simpa using hpe
    have HRR := Lib.hid hrr
    have hvv := hv1 hpe
    subst hvv
    clear hrr hv0 hv1
    go_wp2_with fail
    go_ret
    rw [HRR.out]
    exact ⟨rfl, H1.out.mono_n (by omega), HB1.out.mono hmz⟩
end Go.Proofs.YtnhnabcpkaeaaaaGreatDoor
/- Commands of a wal: their frames; that they are carried. Conditions: as each says. -/
namespace Go.Proofs.YtnhnabcpkaeaaaaGreatDoor
open Go.RowKit
set_option maxRecDepth 20000
def cmdP (k : Int) : EnP := ⟨2, 2, 1, k, 0, ⟨#[]⟩, [], 0, []⟩
theorem eqI_zero (a : Option Addr) (c : Nat) (w : World) : Calls Tryz.prog 90 #[.slice none 0 0, .slice a 0 c] w fun e w' => e = .returned (.bool true) ∧ w = w' := by
  go_enter Tryz.func90, Tryz.ntmps90
  go_wp2_with fail
  refine wp_loop_rounds 1 ?_
  rw [rounds_succ]
  go_wp2_with fail
  go_ret
  exact ⟨rfl, rfl⟩
theorem eqV_zero (a : Option Addr) (c : Nat) (w : World) : Calls Tryz.prog 91 #[.slice none 0 0, .slice a 0 c] w fun e w' => e = .returned (.bool true) ∧ w = w' := by
  go_enter Tryz.func91, Tryz.ntmps91
  go_wp2_with fail
  refine wp_loop_rounds 1 ?_
  rw [rounds_succ]
  go_wp2_with fail
  go_ret
  exact ⟨rfl, rfl⟩
theorem cmd_w (k : Int) (L : List Int) (w : World) (hL : entryB (cmdP k) = L) : Calls Tryz.prog 89 #[.agg #[.int .i64 2, .int .u8 2, .int .i64 1, .int .i64 k, .int .u8 0, .string ⟨#[]⟩, .slice none 0 0, .int .i64 0, .slice none 0 0]] w (BytesNew L w.heap.size w) :=
  hL ▸ wentry_any 2 2 1 k 0 ⟨#[]⟩ none 0 0 [] 0 none 0 0 [] w rfl rfl (Or.inl rfl) (Or.inl rfl) (fun v hv => by cases hv) (by omega) (by omega) (by decide)
theorem cmdP_fit (k : Int) (hk : N64 k) : EnFit (cmdP k) := by
  unfold EnFit cmdP CmFit VasFit
  dsimp only
  refine ⟨⟨by decide, by decide⟩, ⟨by decide, by decide⟩, hk, ⟨by decide, ⟨by decide, by decide⟩, by decide, fun v hv => by cases hv⟩, by decide, fun v hv => by cases hv⟩
theorem cmdB_len (k : Int) : (entryB (cmdP k)).length = 46 := by
  unfold entryB cmdP commandB valuesB
  dsimp only
  rw [List.length_append, List.length_cons, List.length_append, List.length_append, List.length_append, List.length_cons, List.length_append, List.length_append, List.length_append, List.length_append, numB_len, numB_len, numB_len, numB_len, textB_len, numB_len, numB_len]
  rfl
theorem cmdB_wf (k : Int) : BytesWf (entryB (cmdP k)) := entryB_wf _ rfl rfl (fun v hv => by cases hv)
theorem cmdB_back (k : Int) (hk : N64 k) : entryS false (entryB (cmdP k)) = (cmdP k, false, []) := by
  have := entryS_back (cmdP k) [] (cmdP_fit k hk)
  rwa [List.append_nil] at this
theorem grown_rowW (w : World) (g : Nat) (cs : Array Value) : w.grownBy (w.setRow g cs) (some g) := ⟨rfl, rfl, rfl, by simp, fun k _ hk => setRow_other w g k cs (fun e => hk (by rw [e]))⟩
theorem cmdZ_one : (#[.int .u8 0, .string ⟨#[]⟩, .slice none 0 0, .int .i64 0] : Array Value).all (·.oneCell') = true := by simp [Value.oneCell']
theorem cmdO_one (ao : Option Addr) (ac : Nat) : (#[.int .u8 0, .string ⟨#[]⟩, .slice ao 0 ac, .int .i64 0] : Array Value).all (·.oneCell') = true := by simp [Value.oneCell']
theorem info_cmdZ : (Tryz.prog.info? 57).map (·.size) = some (#[.int .u8 0, .string ⟨#[]⟩, .slice none 0 0, .int .i64 0] : Array Value).size := by kernel_rfl
theorem info_cmdO (ao vo : Option Addr) (ac : Nat) : (Tryz.prog.info? 57).map (·.size) = some (#[.int .u8 0, .string ⟨#[]⟩, .slice ao 0 ac, .int .i64 0] : Array Value).size := by kernel_rfl
set_option maxHeartbeats 2000000 in
theorem carried_any (k : Int) (hk : N64 k) (w : World) : Calls Tryz.prog 51 #[.agg #[.int .i64 2, .int .u8 2, .int .i64 1, .int .i64 k, .int .u8 0, .string ⟨#[]⟩, .slice none 0 0, .int .i64 0, .slice none 0 0]] w fun e w' => e = .returned (.bool true) ∧ Below w.heap.size w w' := by
  have hb0 := (Below.refl w.heap.size w).alloc (Nat.le_refl _) (.cells #[.int .i64 2, .int .u8 2, .int .i64 1, .int .i64 k, .int .u8 0, .string ⟨#[]⟩, .slice none 0 0, .int .i64 0, .slice none 0 0] 60)
  have hk0 := heap_alloc_new w (.cells #[.int .i64 2, .int .u8 2, .int .i64 1, .int .i64 k, .int .u8 0, .string ⟨#[]⟩, .slice none 0 0, .int .i64 0, .slice none 0 0] 60)
  go_enter Tryz.func51, Tryz.ntmps51
  go_upto_region 1 with fail
  generalize w.alloc (.cells #[.int .i64 2, .int .u8 2, .int .i64 1, .int .i64 k, .int .u8 0, .string ⟨#[]⟩, .slice none 0 0, .int .i64 0, .slice none 0 0] 60) = w0 at hb0 hk0 ⊢
  obtain ⟨q0, q1, q2, q3, q4, q5, q6, q7, q8⟩ := cells9 hk0
  obtain ⟨L, hL⟩ : ∃ L, entryB (cmdP k) = L := ⟨_, rfl⟩
  have HL := Lib.hid hL
  clear hL
  go_wp2_with fail
  refine (cmd_w k L w0 HL.out).mono ?_
  rintro e w1 ⟨a1, c1, rfl, ho1, hb1⟩
  have HO1 := Lib.hid ho1
  have hk1 := (hb1.block _ (Array.getElem?_eq_some_iff.1 hk0).1).trans hk0
  have hb01 := hb0.trans (hb1.mono hb0.size)
  have hlen : L.length = 46 := by rw [← HL.out]; exact cmdB_len k
  have HLEN := Lib.hid hlen
  have hnil := own_none ho1
  have HNIL := Lib.hid hnil
  clear ho1 hb1 hb0 hk0 q0 q1 q2 q3 q4 q5 q6 q7 q8 hnil
  rw [hlen]
  go_wp2_with fail
  refine (newReader_any a1 46 c1 L w1 w1.heap.size hlen (own_bytes' HO1.out) (Nat.le_refl _) HNIL.out (by omega)).mono ?_
  rintro e w2 ⟨rb, rfl, hrlo, hrd, hb2⟩
  have hk2 := (hb2.block _ (Array.getElem?_eq_some_iff.1 hk1).1).trans hk1
  have hb02 := hb01.trans (hb2.mono hb01.size)
  have HRD := Lib.hid hrd
  have hlt0 := (Array.getElem?_eq_some_iff.1 hk1).1
  clear hrd hb2 hk1 hb01
  go_wp2_with fail
  refine (rdEntry_any rb rb false L (cmdP k, false, []) w2 (HL.out ▸ cmdB_back k hk) HRD.out (HL.out ▸ cmdB_wf k) (by rw [HLEN.out]; omega)).mono ?_
  rintro e w3 ⟨f, hfp, rfl, hfo, hr3, ho3⟩
  obtain ⟨x0, x1, x2, x3, ck, text, ao, args, ac, num, vo, vs, vc⟩ := f
  simp only [En.plain, cmdP, EnP.mk.injEq] at hfp
  obtain ⟨rfl, rfl, rfl, h3, rfl, rfl, rfl, rfl, rfl⟩ := hfp
  obtain rfl := h3.symm
  unfold enVal
  dsimp only [List.length_nil]
  have hk3 := (ho3.block _ (Array.getElem?_eq_some_iff.1 hk2).1 (by omega)).trans hk2
  have hb03 := hb02.trans (ho3.toBelow hb02.size (by omega))
  have HR3 := Lib.hid hr3
  clear hfo hr3 ho3 hk2 hb02 HRD
  have hb4 := (Below.refl w3.heap.size w3).alloc (Nat.le_refl _) (.cells #[.int .i64 2, .int .u8 2, .int .i64 1, .int .i64 k, .int .u8 0, .string ⟨#[]⟩, .slice ao 0 ac, .int .i64 0, .slice vo 0 vc] 60)
  have hk4 := heap_alloc_new w3 (.cells #[.int .i64 2, .int .u8 2, .int .i64 1, .int .i64 k, .int .u8 0, .string ⟨#[]⟩, .slice ao 0 ac, .int .i64 0, .slice vo 0 vc] 60)
  go_upto_region 3 with fail
  generalize w3.alloc (.cells #[.int .i64 2, .int .u8 2, .int .i64 1, .int .i64 k, .int .u8 0, .string ⟨#[]⟩, .slice ao 0 ac, .int .i64 0, .slice vo 0 vc] 60) = w4 at hb4 hk4 ⊢
  have hS : w4.heap[w.heap.size]? = some (.cells #[.int .i64 2, .int .u8 2, .int .i64 1, .int .i64 k, .int .u8 0, .string ⟨#[]⟩, .slice none 0 0, .int .i64 0, .slice none 0 0] 60 (0, 0)) ∧ w4.heap[w3.heap.size]? = some (.cells #[.int .i64 2, .int .u8 2, .int .i64 1, .int .i64 k, .int .u8 0, .string ⟨#[]⟩, .slice ao 0 ac, .int .i64 0, .slice vo 0 vc] 60 (0, 0)) := ⟨(hb4.block _ (Array.getElem?_eq_some_iff.1 hk3).1).trans hk3, hk4⟩
  have hb04 := hb03.trans (hb4.mono hb03.size)
  have hz34 : w3.heap.size < w4.heap.size := (Array.getElem?_eq_some_iff.1 hk4).1
  have hz03 : w.heap.size < w3.heap.size := (Array.getElem?_eq_some_iff.1 hk3).1
  have H4 := Lib.hid (And.intro hb04 (HR3.out.below hb4))
  have HC := Lib.hid (fun (wS : World) (hh : wS.heap[w.heap.size]? = some (.cells #[.int .i64 2, .int .u8 2, .int .i64 1, .int .i64 k, .int .u8 0, .string ⟨#[]⟩, .slice none 0 0, .int .i64 0, .slice none 0 0] 60 (0, 0)) ∧ wS.heap[w3.heap.size]? = some (.cells #[.int .i64 2, .int .u8 2, .int .i64 1, .int .i64 k, .int .u8 0, .string ⟨#[]⟩, .slice ao 0 ac, .int .i64 0, .slice vo 0 vc] 60 (0, 0))) => And.intro (cells9 hh.1) (cells9 hh.2))
  clear hk3 hb03 hb4 hk4 hb04 HR3
  refine heldS_begin (fun (w' : World) => w'.heap[w.heap.size]? = some (.cells #[.int .i64 2, .int .u8 2, .int .i64 1, .int .i64 k, .int .u8 0, .string ⟨#[]⟩, .slice none 0 0, .int .i64 0, .slice none 0 0] 60 (0, 0)) ∧ w'.heap[w3.heap.size]? = some (.cells #[.int .i64 2, .int .u8 2, .int .i64 1, .int .i64 k, .int .u8 0, .string ⟨#[]⟩, .slice ao 0 ac, .int .i64 0, .slice vo 0 vc] 60 (0, 0))) (by kernel_rfl) (hS) ?_
  intro hS0
  (first | (refine takeS_no 0 rfl (by kernel_rfl) (by kernel_rfl) (by kernel_rfl) (fun _ _ _ h => h) (by rfl) (by assumption) ?_) | (refine takeS_yes (v := ?_) 0 rfl (by kernel_rfl) (by kernel_rfl) (by kernel_rfl) (fun _ _ _ h => h) (by rfl) (by assumption) ?_ ?_; rotate_left; focus (intro wS hSw; obtain ⟨⟨q0, q1, q2, q3, q4, q5, q6, q7, q8⟩, r0, r1, r2, r3, r4, r5, r6, r7, r8⟩ := HC.out wS hSw; go_simp; first | done | with_reducible rfl)))
  (try simp only [Act.put, List.setIfInBounds_toArray, List.set_cons_zero, List.set_cons_succ])
  (first | (refine takeS_no 1 rfl (by kernel_rfl) (by kernel_rfl) (by kernel_rfl) (fun _ _ _ h => h) (by rfl) (by assumption) ?_) | (refine takeS_yes (v := ?_) 1 rfl (by kernel_rfl) (by kernel_rfl) (by kernel_rfl) (fun _ _ _ h => h) (by rfl) (by assumption) ?_ ?_; rotate_left; focus (intro wS hSw; obtain ⟨⟨q0, q1, q2, q3, q4, q5, q6, q7, q8⟩, r0, r1, r2, r3, r4, r5, r6, r7, r8⟩ := HC.out wS hSw; go_simp; first | done | with_reducible rfl)))
  (try simp only [Act.put, List.setIfInBounds_toArray, List.set_cons_zero, List.set_cons_succ])
  (first | (refine takeS_no 2 rfl (by kernel_rfl) (by kernel_rfl) (by kernel_rfl) (fun _ _ _ h => h) (by rfl) (by assumption) ?_) | (refine takeS_yes (v := ?_) 2 rfl (by kernel_rfl) (by kernel_rfl) (by kernel_rfl) (fun _ _ _ h => h) (by rfl) (by assumption) ?_ ?_; rotate_left; focus (intro wS hSw; obtain ⟨⟨q0, q1, q2, q3, q4, q5, q6, q7, q8⟩, r0, r1, r2, r3, r4, r5, r6, r7, r8⟩ := HC.out wS hSw; go_simp; first | done | with_reducible rfl)))
  (try simp only [Act.put, List.setIfInBounds_toArray, List.set_cons_zero, List.set_cons_succ])
  (first | (refine takeS_no 3 rfl (by kernel_rfl) (by kernel_rfl) (by kernel_rfl) (fun _ _ _ h => h) (by rfl) (by assumption) ?_) | (refine takeS_yes (v := ?_) 3 rfl (by kernel_rfl) (by kernel_rfl) (by kernel_rfl) (fun _ _ _ h => h) (by rfl) (by assumption) ?_ ?_; rotate_left; focus (intro wS hSw; obtain ⟨⟨q0, q1, q2, q3, q4, q5, q6, q7, q8⟩, r0, r1, r2, r3, r4, r5, r6, r7, r8⟩ := HC.out wS hSw; go_simp; first | done | with_reducible rfl)))
  (try simp only [Act.put, List.setIfInBounds_toArray, List.set_cons_zero, List.set_cons_succ])
  have hbd : Below w4.heap.size w4 w4.drew := (Below.refl _ _).drew
  have HBD := Lib.hid hbd
  have hzd := hbd.size
  generalize w4.drew = wd at hS0 HBD hzd ⊢
  clear hbd hS
  have hSo : ∀ o, (wd.alloc o).heap[w.heap.size]? = some (.cells #[.int .i64 2, .int .u8 2, .int .i64 1, .int .i64 k, .int .u8 0, .string ⟨#[]⟩, .slice none 0 0, .int .i64 0, .slice none 0 0] 60 (0, 0)) ∧ (wd.alloc o).heap[w3.heap.size]? = some (.cells #[.int .i64 2, .int .u8 2, .int .i64 1, .int .i64 k, .int .u8 0, .string ⟨#[]⟩, .slice ao 0 ac, .int .i64 0, .slice vo 0 vc] 60 (0, 0)) := fun o => ⟨(((Below.refl wd.heap.size wd).alloc (Nat.le_refl _) o).block _ (by omega)).trans hS0.1, (((Below.refl wd.heap.size wd).alloc (Nat.le_refl _) o).block _ (by omega)).trans hS0.2⟩
  have hSo2 : ∀ o o', ((wd.alloc o).alloc o').heap[w.heap.size]? = some (.cells #[.int .i64 2, .int .u8 2, .int .i64 1, .int .i64 k, .int .u8 0, .string ⟨#[]⟩, .slice none 0 0, .int .i64 0, .slice none 0 0] 60 (0, 0)) ∧ ((wd.alloc o).alloc o').heap[w3.heap.size]? = some (.cells #[.int .i64 2, .int .u8 2, .int .i64 1, .int .i64 k, .int .u8 0, .string ⟨#[]⟩, .slice ao 0 ac, .int .i64 0, .slice vo 0 vc] 60 (0, 0)) := fun o o' => ⟨(((Below.refl (wd.alloc o).heap.size (wd.alloc o)).alloc (Nat.le_refl _) o').block _ (by simp; omega)).trans (hSo o).1, (((Below.refl (wd.alloc o).heap.size (wd.alloc o)).alloc (Nat.le_refl _) o').block _ (by simp; omega)).trans (hSo o).2⟩
  refine takeS_two 4 5 rfl rfl (by kernel_rfl) (by rfl) (by rfl) (fun K hK => ?_) (fun K hK => ?_)
  rotate_left
  focus
    go_simp
    (have hS1 := hSo (.cells #[.int .u8 0, .string ⟨#[]⟩, .slice none 0 0, .int .i64 0] 57); have hS2 := hSo2 (.cells #[.int .u8 0, .string ⟨#[]⟩, .slice none 0 0, .int .i64 0] 57) (.cells #[.int .u8 0, .string ⟨#[]⟩, .slice none 0 0, .int .i64 0] 57))
    refine hK.out _ _ (by assumption) ?_
    clear hK K
    (try simp only [Act.put, List.setIfInBounds_toArray, List.set_cons_zero, List.set_cons_succ])
    refine takeS_alone 4 rfl (by kernel_rfl) (by rfl) (fun K hK => ?_)
    go_simp
    (have hS1 := hSo (.cells #[.int .u8 0, .string ⟨#[]⟩, .slice none 0 0, .int .i64 0] 57); have hS2 := hSo2 (.cells #[.int .u8 0, .string ⟨#[]⟩, .slice none 0 0, .int .i64 0] 57) (.cells #[.int .u8 0, .string ⟨#[]⟩, .slice none 0 0, .int .i64 0] 57))
    refine hK.out _ _ (by assumption) ?_
    clear hK K
    (try simp only [Act.put, List.setIfInBounds_toArray, List.set_cons_zero, List.set_cons_succ])
  rotate_left
  focus
    go_simp
    (have hS1 := hSo (.cells #[.int .u8 0, .string ⟨#[]⟩, .slice none 0 0, .int .i64 0] 57); have hS2 := hSo2 (.cells #[.int .u8 0, .string ⟨#[]⟩, .slice none 0 0, .int .i64 0] 57) (.cells #[.int .u8 0, .string ⟨#[]⟩, .slice none 0 0, .int .i64 0] 57))
    refine hK.out _ _ (by assumption) ?_
    clear hK K
    (try simp only [Act.put, List.setIfInBounds_toArray, List.set_cons_zero, List.set_cons_succ])
    refine takeS_alone 5 rfl (by kernel_rfl) (by rfl) (fun K hK => ?_)
    go_simp
    (have hS1 := hSo (.cells #[.int .u8 0, .string ⟨#[]⟩, .slice none 0 0, .int .i64 0] 57); have hS2 := hSo2 (.cells #[.int .u8 0, .string ⟨#[]⟩, .slice none 0 0, .int .i64 0] 57) (.cells #[.int .u8 0, .string ⟨#[]⟩, .slice none 0 0, .int .i64 0] 57))
    refine hK.out _ _ (by assumption) ?_
    clear hK K
    (try simp only [Act.put, List.setIfInBounds_toArray, List.set_cons_zero, List.set_cons_succ])
  all_goals
    skip
  all_goals (clear hSo hSo2 hS1)
  all_goals (have hb1 := (Below.refl wd.heap.size wd).alloc (Nat.le_refl _) (.cells #[.int .u8 0, .string ⟨#[]⟩, .slice none 0 0, .int .i64 0] 57))
  all_goals (have hz1 : (wd.alloc (.cells #[.int .u8 0, .string ⟨#[]⟩, .slice none 0 0, .int .i64 0] 57)).heap.size = wd.heap.size + 1 := by simp)
  all_goals (have hk1 := heap_alloc_new wd (.cells #[.int .u8 0, .string ⟨#[]⟩, .slice none 0 0, .int .i64 0] 57))
  all_goals (generalize wd.alloc (.cells #[.int .u8 0, .string ⟨#[]⟩, .slice none 0 0, .int .i64 0] 57) = wa at hb1 hz1 hk1 hS2 ⊢)
  all_goals (have hb2 := (Below.refl wa.heap.size wa).alloc (Nat.le_refl _) (.cells #[.int .u8 0, .string ⟨#[]⟩, .slice none 0 0, .int .i64 0] 57))
  all_goals (have hk2 := heap_alloc_new wa (.cells #[.int .u8 0, .string ⟨#[]⟩, .slice none 0 0, .int .i64 0] 57))
  all_goals (rw [hz1] at hk2)
  all_goals (generalize wa.alloc (.cells #[.int .u8 0, .string ⟨#[]⟩, .slice none 0 0, .int .i64 0] 57) = wb at hb2 hk2 hS2 ⊢)
  all_goals (have hk1 := (hb2.block wd.heap.size (by omega)).trans hk1)
  all_goals (have hBB := Lib.hid (hb1.trans (hb2.mono hb1.size)))
  all_goals (have hSb := hS2; clear hS2 hb1 hb2)
  · skip
    refine takeS_alone 6 rfl (by kernel_rfl) (by rfl) (fun K hK => ?_)
    skip
    (refine wp_store_row 57 (.tmp 5) (.tmp 13) rfl (wd.heap.size) #[.int .u8 0, .string ⟨#[]⟩, .slice none 0 0, .int .i64 0] rfl rfl 57 #[.int .u8 0, .string ⟨#[]⟩, .slice none 0 0, .int .i64 0] hk1 info_cmdZ rfl cmdZ_one ?_; have hS4 : (wb.setRow (wd.heap.size) #[.int .u8 0, .string ⟨#[]⟩, .slice none 0 0, .int .i64 0]).heap[w.heap.size]? = some (.cells #[.int .i64 2, .int .u8 2, .int .i64 1, .int .i64 k, .int .u8 0, .string ⟨#[]⟩, .slice none 0 0, .int .i64 0, .slice none 0 0] 60 (0, 0)) ∧ (wb.setRow (wd.heap.size) #[.int .u8 0, .string ⟨#[]⟩, .slice none 0 0, .int .i64 0]).heap[w3.heap.size]? = some (.cells #[.int .i64 2, .int .u8 2, .int .i64 1, .int .i64 k, .int .u8 0, .string ⟨#[]⟩, .slice ao 0 ac, .int .i64 0, .slice vo 0 vc] 60 (0, 0)) := ⟨(setRow_other _ _ _ _ (by omega)).trans hSb.1, (setRow_other _ _ _ _ (by omega)).trans hSb.2⟩)
    refine hK.out _ _ (by assumption) ?_
    clear hK K
    (try simp only [Act.put, List.setIfInBounds_toArray, List.set_cons_zero, List.set_cons_succ])
    refine takeS_alone 7 rfl (by kernel_rfl) (by rfl) (fun K hK => ?_)
    skip
    (refine wp_store_row 57 (.tmp 6) (.tmp 15) rfl (wd.heap.size + 1) #[.int .u8 0, .string ⟨#[]⟩, .slice ao 0 ac, .int .i64 0] rfl rfl 57 #[.int .u8 0, .string ⟨#[]⟩, .slice none 0 0, .int .i64 0] ((setRow_other _ _ _ _ (by omega)).trans hk2) (info_cmdO ao vo ac) rfl (cmdO_one ao ac) ?_; have hS5 : ((wb.setRow (wd.heap.size) #[.int .u8 0, .string ⟨#[]⟩, .slice none 0 0, .int .i64 0]).setRow (wd.heap.size + 1) #[.int .u8 0, .string ⟨#[]⟩, .slice ao 0 ac, .int .i64 0]).heap[w.heap.size]? = some (.cells #[.int .i64 2, .int .u8 2, .int .i64 1, .int .i64 k, .int .u8 0, .string ⟨#[]⟩, .slice none 0 0, .int .i64 0, .slice none 0 0] 60 (0, 0)) ∧ ((wb.setRow (wd.heap.size) #[.int .u8 0, .string ⟨#[]⟩, .slice none 0 0, .int .i64 0]).setRow (wd.heap.size + 1) #[.int .u8 0, .string ⟨#[]⟩, .slice ao 0 ac, .int .i64 0]).heap[w3.heap.size]? = some (.cells #[.int .i64 2, .int .u8 2, .int .i64 1, .int .i64 k, .int .u8 0, .string ⟨#[]⟩, .slice ao 0 ac, .int .i64 0, .slice vo 0 vc] 60 (0, 0)) := ⟨(setRow_other _ _ _ _ (by omega)).trans hS4.1, (setRow_other _ _ _ _ (by omega)).trans hS4.2⟩)
    refine hK.out _ _ (by assumption) ?_
    clear hK K
    (try simp only [Act.put, List.setIfInBounds_toArray, List.set_cons_zero, List.set_cons_succ])
    refine wpAnyH_done (by kernel_rfl) ?_ _
    have kc := (setRow_other (wb.setRow (wd.heap.size) #[.int .u8 0, .string ⟨#[]⟩, .slice none 0 0, .int .i64 0]) (wd.heap.size + 1) (wd.heap.size) #[.int .u8 0, .string ⟨#[]⟩, .slice ao 0 ac, .int .i64 0] (by omega)).trans (setRow_heap wb (wd.heap.size) #[.int .u8 0, .string ⟨#[]⟩, .slice none 0 0, .int .i64 0] #[.int .u8 0, .string ⟨#[]⟩, .slice none 0 0, .int .i64 0] _ _ hk1)
    have ko := setRow_heap (wb.setRow (wd.heap.size) #[.int .u8 0, .string ⟨#[]⟩, .slice none 0 0, .int .i64 0]) (wd.heap.size + 1) #[.int .u8 0, .string ⟨#[]⟩, .slice none 0 0, .int .i64 0] #[.int .u8 0, .string ⟨#[]⟩, .slice ao 0 ac, .int .i64 0] _ _ ((setRow_other wb (wd.heap.size) (wd.heap.size + 1) #[.int .u8 0, .string ⟨#[]⟩, .slice none 0 0, .int .i64 0] (by omega)).trans hk2)
    have hbz := ((HBD.out.trans (hBB.out.mono hzd)).grown (grown_rowW wb (wd.heap.size) #[.int .u8 0, .string ⟨#[]⟩, .slice none 0 0, .int .i64 0]) (by have := hBB.out.size; omega) (fun q hq => by cases hq; omega)).grown (grown_rowW (wb.setRow (wd.heap.size) #[.int .u8 0, .string ⟨#[]⟩, .slice none 0 0, .int .i64 0]) (wd.heap.size + 1) #[.int .u8 0, .string ⟨#[]⟩, .slice ao 0 ac, .int .i64 0]) (by have := hBB.out.size; simp; omega) (fun q hq => by cases hq; omega)
    generalize (wb.setRow (wd.heap.size) #[.int .u8 0, .string ⟨#[]⟩, .slice none 0 0, .int .i64 0]).setRow (wd.heap.size + 1) #[.int .u8 0, .string ⟨#[]⟩, .slice ao 0 ac, .int .i64 0] = wz at kc ko hbz hS5 ⊢
    obtain ⟨q0, q1, q2, q3, q4, q5, q6, q7, q8⟩ := cells9 hS5.1
    obtain ⟨r0, r1, r2, r3, r4, r5, r6, r7, r8⟩ := cells9 hS5.2
    have u0 := Go.Joins.cell_of_block kc 0
    have u1 := Go.Joins.cell_of_block kc 1
    have u2 := Go.Joins.cell_of_block kc 2
    have u3 := Go.Joins.cell_of_block kc 3
    have v0 := Go.Joins.cell_of_block ko 0
    have v1 := Go.Joins.cell_of_block ko 1
    have v2 := Go.Joins.cell_of_block ko 2
    have v3 := Go.Joins.cell_of_block ko 3
    have HZ := Lib.hid (And.intro (H4.out.2.below hbz) (H4.out.1.trans (hbz.mono (Nat.le_trans H4.out.1.size (Nat.le_refl _)))))
    clear hS5 hS4 hSb kc ko hbz hS0 hk1 hk2 hz1
    (try simp only [Exit.then])
    (try (rename (∀ (_ : Act) (_ : World), _ → _) => hK0; refine hK0 _ _ ?_; clear hK0))
    go_wp2_with fail
    refine (done_rd rb rb false [] wz HZ.out.1).mono ?_
    rintro e w6 ⟨rfl, rfl⟩
    go_wp2_with fail
    refine (eqI_zero vo vc wz).mono ?_
    rintro e w6 ⟨rfl, rfl⟩
    go_wp2_with fail
    refine (eqV_zero ao ac wz).mono ?_
    rintro e w6 ⟨rfl, rfl⟩
    go_wp2_with fail
    go_ret
    exact ⟨rfl, HZ.out.2⟩
  · skip
    refine takeS_alone 6 rfl (by kernel_rfl) (by rfl) (fun K hK => ?_)
    skip
    (refine wp_store_row 57 (.tmp 5) (.tmp 13) rfl (wd.heap.size + 1) #[.int .u8 0, .string ⟨#[]⟩, .slice none 0 0, .int .i64 0] rfl rfl 57 #[.int .u8 0, .string ⟨#[]⟩, .slice none 0 0, .int .i64 0] hk2 info_cmdZ rfl cmdZ_one ?_; have hS4 : (wb.setRow (wd.heap.size + 1) #[.int .u8 0, .string ⟨#[]⟩, .slice none 0 0, .int .i64 0]).heap[w.heap.size]? = some (.cells #[.int .i64 2, .int .u8 2, .int .i64 1, .int .i64 k, .int .u8 0, .string ⟨#[]⟩, .slice none 0 0, .int .i64 0, .slice none 0 0] 60 (0, 0)) ∧ (wb.setRow (wd.heap.size + 1) #[.int .u8 0, .string ⟨#[]⟩, .slice none 0 0, .int .i64 0]).heap[w3.heap.size]? = some (.cells #[.int .i64 2, .int .u8 2, .int .i64 1, .int .i64 k, .int .u8 0, .string ⟨#[]⟩, .slice ao 0 ac, .int .i64 0, .slice vo 0 vc] 60 (0, 0)) := ⟨(setRow_other _ _ _ _ (by omega)).trans hSb.1, (setRow_other _ _ _ _ (by omega)).trans hSb.2⟩)
    refine hK.out _ _ (by assumption) ?_
    clear hK K
    (try simp only [Act.put, List.setIfInBounds_toArray, List.set_cons_zero, List.set_cons_succ])
    refine takeS_alone 7 rfl (by kernel_rfl) (by rfl) (fun K hK => ?_)
    skip
    (refine wp_store_row 57 (.tmp 6) (.tmp 15) rfl (wd.heap.size) #[.int .u8 0, .string ⟨#[]⟩, .slice ao 0 ac, .int .i64 0] rfl rfl 57 #[.int .u8 0, .string ⟨#[]⟩, .slice none 0 0, .int .i64 0] ((setRow_other _ _ _ _ (by omega)).trans hk1) (info_cmdO ao vo ac) rfl (cmdO_one ao ac) ?_; have hS5 : ((wb.setRow (wd.heap.size + 1) #[.int .u8 0, .string ⟨#[]⟩, .slice none 0 0, .int .i64 0]).setRow (wd.heap.size) #[.int .u8 0, .string ⟨#[]⟩, .slice ao 0 ac, .int .i64 0]).heap[w.heap.size]? = some (.cells #[.int .i64 2, .int .u8 2, .int .i64 1, .int .i64 k, .int .u8 0, .string ⟨#[]⟩, .slice none 0 0, .int .i64 0, .slice none 0 0] 60 (0, 0)) ∧ ((wb.setRow (wd.heap.size + 1) #[.int .u8 0, .string ⟨#[]⟩, .slice none 0 0, .int .i64 0]).setRow (wd.heap.size) #[.int .u8 0, .string ⟨#[]⟩, .slice ao 0 ac, .int .i64 0]).heap[w3.heap.size]? = some (.cells #[.int .i64 2, .int .u8 2, .int .i64 1, .int .i64 k, .int .u8 0, .string ⟨#[]⟩, .slice ao 0 ac, .int .i64 0, .slice vo 0 vc] 60 (0, 0)) := ⟨(setRow_other _ _ _ _ (by omega)).trans hS4.1, (setRow_other _ _ _ _ (by omega)).trans hS4.2⟩)
    refine hK.out _ _ (by assumption) ?_
    clear hK K
    (try simp only [Act.put, List.setIfInBounds_toArray, List.set_cons_zero, List.set_cons_succ])
    refine wpAnyH_done (by kernel_rfl) ?_ _
    have kc := (setRow_other (wb.setRow (wd.heap.size + 1) #[.int .u8 0, .string ⟨#[]⟩, .slice none 0 0, .int .i64 0]) (wd.heap.size) (wd.heap.size + 1) #[.int .u8 0, .string ⟨#[]⟩, .slice ao 0 ac, .int .i64 0] (by omega)).trans (setRow_heap wb (wd.heap.size + 1) #[.int .u8 0, .string ⟨#[]⟩, .slice none 0 0, .int .i64 0] #[.int .u8 0, .string ⟨#[]⟩, .slice none 0 0, .int .i64 0] _ _ hk2)
    have ko := setRow_heap (wb.setRow (wd.heap.size + 1) #[.int .u8 0, .string ⟨#[]⟩, .slice none 0 0, .int .i64 0]) (wd.heap.size) #[.int .u8 0, .string ⟨#[]⟩, .slice none 0 0, .int .i64 0] #[.int .u8 0, .string ⟨#[]⟩, .slice ao 0 ac, .int .i64 0] _ _ ((setRow_other wb (wd.heap.size + 1) (wd.heap.size) #[.int .u8 0, .string ⟨#[]⟩, .slice none 0 0, .int .i64 0] (by omega)).trans hk1)
    have hbz := ((HBD.out.trans (hBB.out.mono hzd)).grown (grown_rowW wb (wd.heap.size + 1) #[.int .u8 0, .string ⟨#[]⟩, .slice none 0 0, .int .i64 0]) (by have := hBB.out.size; omega) (fun q hq => by cases hq; omega)).grown (grown_rowW (wb.setRow (wd.heap.size + 1) #[.int .u8 0, .string ⟨#[]⟩, .slice none 0 0, .int .i64 0]) (wd.heap.size) #[.int .u8 0, .string ⟨#[]⟩, .slice ao 0 ac, .int .i64 0]) (by have := hBB.out.size; simp; omega) (fun q hq => by cases hq; omega)
    generalize (wb.setRow (wd.heap.size + 1) #[.int .u8 0, .string ⟨#[]⟩, .slice none 0 0, .int .i64 0]).setRow (wd.heap.size) #[.int .u8 0, .string ⟨#[]⟩, .slice ao 0 ac, .int .i64 0] = wz at kc ko hbz hS5 ⊢
    obtain ⟨q0, q1, q2, q3, q4, q5, q6, q7, q8⟩ := cells9 hS5.1
    obtain ⟨r0, r1, r2, r3, r4, r5, r6, r7, r8⟩ := cells9 hS5.2
    have u0 := Go.Joins.cell_of_block kc 0
    have u1 := Go.Joins.cell_of_block kc 1
    have u2 := Go.Joins.cell_of_block kc 2
    have u3 := Go.Joins.cell_of_block kc 3
    have v0 := Go.Joins.cell_of_block ko 0
    have v1 := Go.Joins.cell_of_block ko 1
    have v2 := Go.Joins.cell_of_block ko 2
    have v3 := Go.Joins.cell_of_block ko 3
    have HZ := Lib.hid (And.intro (H4.out.2.below hbz) (H4.out.1.trans (hbz.mono (Nat.le_trans H4.out.1.size (Nat.le_refl _)))))
    clear hS5 hS4 hSb kc ko hbz hS0 hk1 hk2 hz1
    (try simp only [Exit.then])
    (try (rename (∀ (_ : Act) (_ : World), _ → _) => hK0; refine hK0 _ _ ?_; clear hK0))
    go_wp2_with fail
    refine (done_rd rb rb false [] wz HZ.out.1).mono ?_
    rintro e w6 ⟨rfl, rfl⟩
    go_wp2_with fail
    refine (eqI_zero vo vc wz).mono ?_
    rintro e w6 ⟨rfl, rfl⟩
    go_wp2_with fail
    refine (eqV_zero ao ac wz).mono ?_
    rintro e w6 ⟨rfl, rfl⟩
    go_wp2_with fail
    go_ret
    exact ⟨rfl, HZ.out.2⟩
end Go.Proofs.YtnhnabcpkaeaaaaGreatDoor
