/- Open. Conditions: the disk lies so; the file's bytes are not too many. -/
import Derived.Test.YtnhnabcpkaeaaaaGreatDoorGWalReads16
import Derived.Test.YtnhnabcpkaeaaaaGreatDoorGWalReads12
import Derived.Lib.SlBytesConst
import Derived.Deep.RegionHeld3
import Derived.Deep.AppendLies
import Derived.Maps.AppendAt
import Derived.Test.YtnhnabcpkaeaaaaGreatDoorGWalReads2
set_option linter.unusedVariables false
set_option linter.unusedSimpArgs false
namespace Go.Proofs.YtnhnabcpkaeaaaaGreatDoor
open Go.RowKit
set_option maxRecDepth 20000
def openS (bs : List Int) : Option WP := if (scanS bs).2.2 = true then none else doAll WP.zero (scanS bs).1
def openL1 (L : Dk) (bs : List Int) (ez : Int) : Dk := if ez = 0 ∧ (scanS bs).2.1 < bs.length then (dCut (dRemove L nextS.data.toList).1 walS.data.toList (scanS bs).2.1).1 else (dRemove L nextS.data.toList).1
def openL (L : Dk) (bs : List Int) (ez : Int) : Dk := (dSync (openL1 L bs ez) walS.data.toList).1
def OpenAt (L : Dk) (bs : List Int) (ez : Int) (db mb room n : Nat) (w : World) (e : Ending) (w' : World) : Prop :=
  match openS bs with
  | none => e = .returned (.tuple #[.pointer none, .int .i64 10]) ∧ DiskIs w' w'.heap.size db mb room (n + 1) L ∧ w.grownBy w' (some mb)
  | some t => ∃ wb sb, e = .returned (.tuple #[.pointer (some ⟨wb, 0, none⟩), .int .i64 0]) ∧ WalDk w' w.heap.size wb sb db mb room (n + 4) t (openL L bs ez) ∧ w.grownBy w' (some mb)
theorem dRead_zero {L : Dk} {k : List UInt8} {bs : List Int} {ez : Int} (h : dRead L k = (bs, ez)) : ez = 0 ∧ (∃ f, dGet L k = some f ∧ f.all = bs) ∨ ez = 6 ∧ bs = [] := by
  unfold dRead at h
  cases hg : dGet L k with
  | none => rw [hg] at h; injection h with h1 h2; exact Or.inr ⟨h2.symm, h1.symm⟩
  | some f => rw [hg] at h; injection h with h1 h2; exact Or.inl ⟨h2.symm, f, rfl, h1⟩
theorem dGet_removed (L : Dk) (k k' : List UInt8) (hk : k ≠ k') : dGet (dRemove L k).1 k' = dGet L k' := by
  unfold dRemove
  cases hg : dGet L k with
  | none => rfl
  | some f => show dGet (dDel L k) k' = _; rw [dGet_del, if_neg (Ne.symm hk)]
theorem putP_few (l : List (Int × List Int)) : l.length ≤ (putP l).length := by
  induction l with
  | nil => exact Nat.zero_le _
  | cons p r ih =>
    rw [putP_cons, List.length_append, frameB_len, List.length_cons]
    omega
theorem scan_frs {bs : List Int} {frs : List Fr} {w : World} {B : Nat} {v : Value} (hw : BytesWf bs) (hl : bs.length ≤ 1000000) (hp : frs.map Fr.pair = (scanS bs).1) (ho : FramesOwn w B v frs) : (∀ f ∈ frs, FrOk f) ∧ frs.length ≤ bs.length ∧ (scanS bs).2.1 ≤ bs.length := by
  obtain ⟨h1, h2, h3⟩ := scanS_put (b := bs) hw
  have h4 := putP_few (scanS bs).1
  rw [h2] at h4
  refine ⟨fun f hf => ?_, ?_, h1⟩
  · have hk := h3 f.pair (by rw [← hp]; exact List.mem_map.2 ⟨f, hf, rfl⟩)
    obtain ⟨k0, k1, k2, k3⟩ := hk
    have k0' : 0 ≤ f.kind := k0
    have k1' : f.kind ≤ 255 := k1
    have k2' : f.data.length ≤ 1048576 := k2
    exact ⟨⟨lit_of (by omega), own_none (ho.2.1 f hf), k3, by omega⟩, by omega⟩
  · rw [← hp, List.length_map, List.length_take] at h4
    omega
/-- What Open has made when it looks at the frames. -/
structure Made (w : World) (W sb db : Nat) (w2 : World) : Prop where
  st : OpenSt w W (sb + 1 + 1) (sb + 1) sb db WP.zero
  below : Below w2.heap.size w2 w
theorem made_three (w2 : World) (W db : Nat) (hW : W ≤ w2.heap.size) (o1 o2 o3 : Obj) (h1 : o1 = .cells #[.int .i64 0, .int .i64 0, .int .i64 0, .int .i64 0, .slice none 0 0] 80) (h2 : o2 = .cells #[.pointer (some ⟨w2.heap.size, 0, none⟩), .pointer (some ⟨db, 0, none⟩)] 45) (h3 : o3 = .cells #[.pointer (some ⟨w2.heap.size + 1, 0, none⟩)] 28) :
    Made (((w2.alloc o1).alloc o2).alloc o3) W w2.heap.size db w2 := by
  subst h1 h2 h3
  have s1 : (w2.alloc (.cells #[.int .i64 0, .int .i64 0, .int .i64 0, .int .i64 0, .slice none 0 0] 80)).heap.size = w2.heap.size + 1 := by simp
  have k1 := heap_alloc_new w2 (.cells #[.int .i64 0, .int .i64 0, .int .i64 0, .int .i64 0, .slice none 0 0] 80)
  have b1 := (Below.refl w2.heap.size w2).alloc (Nat.le_refl _) (.cells #[.int .i64 0, .int .i64 0, .int .i64 0, .int .i64 0, .slice none 0 0] 80)
  generalize w2.alloc (.cells #[.int .i64 0, .int .i64 0, .int .i64 0, .int .i64 0, .slice none 0 0] 80) = wa at s1 k1 b1 ⊢
  have s2 : (wa.alloc (.cells #[.pointer (some ⟨w2.heap.size, 0, none⟩), .pointer (some ⟨db, 0, none⟩)] 45)).heap.size = w2.heap.size + 2 := by simp [s1]
  have k2 := heap_alloc_new wa (.cells #[.pointer (some ⟨w2.heap.size, 0, none⟩), .pointer (some ⟨db, 0, none⟩)] 45)
  have b2 := (Below.refl wa.heap.size wa).alloc (Nat.le_refl _) (.cells #[.pointer (some ⟨w2.heap.size, 0, none⟩), .pointer (some ⟨db, 0, none⟩)] 45)
  generalize wa.alloc (.cells #[.pointer (some ⟨w2.heap.size, 0, none⟩), .pointer (some ⟨db, 0, none⟩)] 45) = wb at s2 k2 b2 ⊢
  have k3 := heap_alloc_new wb (.cells #[.pointer (some ⟨w2.heap.size + 1, 0, none⟩)] 28)
  have b3 := (Below.refl wb.heap.size wb).alloc (Nat.le_refl _) (.cells #[.pointer (some ⟨w2.heap.size + 1, 0, none⟩)] 28)
  generalize wb.alloc (.cells #[.pointer (some ⟨w2.heap.size + 1, 0, none⟩)] 28) = wc at k3 b3 ⊢
  rw [s1] at k2
  rw [s2] at k3
  exact ⟨⟨k3, (b3.block _ (by omega)).trans k2, _, [], ⟨(b3.block _ (by omega)).trans ((b2.block _ (by omega)).trans k1), EnsOwn.nil _ _, hW⟩, rfl⟩, b1.trans ((b2.mono (by omega)).trans (b3.mono (by omega)))⟩
theorem openAt_no {L : Dk} {bs : List Int} {ez : Int} {db mb room n : Nat} {w w' : World} (h : openS bs = none) (hd : DiskIs w' w'.heap.size db mb room (n + 1) L) (hg : w.grownBy w' (some mb)) : OpenAt L bs ez db mb room n w (.returned (.tuple #[.pointer none, .int .i64 10])) w' := by
  unfold OpenAt
  rw [h]
  exact ⟨rfl, hd, hg⟩
theorem openAt_yes {L : Dk} {bs : List Int} {ez : Int} {db mb room n : Nat} {w w' : World} {t : WP} (wb sb : Nat) (h : openS bs = some t) (hd : WalDk w' w.heap.size wb sb db mb room (n + 4) t (openL L bs ez)) (hg : w.grownBy w' (some mb)) : OpenAt L bs ez db mb room n w (.returned (.tuple #[.pointer (some ⟨wb, 0, none⟩), .int .i64 0])) w' := by
  unfold OpenAt
  rw [h]
  exact ⟨wb, sb, rfl, hd, hg⟩
theorem DiskIs.belowT {w w' : World} {B db mb room n : Nat} {L : Dk} (h : DiskIs w B db mb room n L) (hb : Below w.heap.size w w') : DiskIs w' w'.heap.size db mb room n L := (h.below hb h.le).mono (Nat.le_trans h.le hb.size) (Nat.le_refl _)
theorem WalDk.mono_n {w : World} {B wb sb db mb room n n' : Nat} {s : WP} {L : Dk} (h : WalDk w B wb sb db mb room n s L) (hn : n ≤ n') : WalDk w B wb sb db mb room n' s L := ⟨h.wal, h.dk.more hn, h.dlo, h.mlo⟩
theorem bown_in {w : World} {base n c : Nat} {a : Option Addr} {L : List Int} (h : BOwn w base a n c L) : BytesIn w w.heap.size a L := by
  have := h.row
  rw [← h.len] at this
  exact own_bytes' this
set_option maxHeartbeats 4000000 in
theorem wopen_any {w : World} {D db mb room n : Nat} {L : Dk} (h : DiskIs w D db mb room n L) (hn : n ≤ 999000) (bs : List Int) (ez : Int) (hrd : dRead L walS.data.toList = (bs, ez)) (hw : BytesWf bs) (hl : bs.length ≤ 1000000) :
    Calls Tryz.prog 8 #[.pointer (some ⟨db, 0, none⟩)] w (OpenAt L bs ez db mb room n w) := by
  have hdlt := Nat.lt_of_lt_of_le h.dlt h.le
  have hmlt := Nat.lt_of_lt_of_le h.mlt h.le
  have hz := dRead_zero hrd
  have ez1 : ¬ ez = 1 := by rcases hz with ⟨h, _⟩ | ⟨h, _⟩ <;> omega
  have ez2 : decide (ez = 1) = false := by simpa using ez1
  have ez3 : (ez == 1) = false := by simpa using ez1
  have H := Lib.hid h
  have HZ := Lib.hid hz
  have HRD := Lib.hid hrd
  have HW := Lib.hid hw
  clear h hz hrd hw
  go_enter Tryz.func8, Tryz.ntmps8
  go_wp2_with fail
  refine (read_any H.out (by omega) walS wal_small _ HRD.out).mono ?_
  rintro e w1 ⟨a, m, c, rfl, hbo, hd1, hg1⟩
  have hm : bs.length = m := hbo.len
  have HBO := Lib.hid hbo
  have HD1 := Lib.hid hd1
  have HG1 := Lib.hid hg1
  have hcap := bown_cap hbo
  have hnil := own_none hbo.row
  have HNIL := Lib.hid hnil
  clear hbo hd1 hg1 hnil
  subst hm
  go_wp2_with fail
  refine (scan_any a c bs w1 (bown_in HBO.out) HW.out HNIL.out hcap (by omega)).mono ?_
  rintro e w2 ⟨v, frs, rfl, hfp, hfo, hb2⟩
  have hfrs := scan_frs HW.out hl hfp hfo
  obtain ⟨fa, fc, hv, hfc, hfn, hfi⟩ := hfo.lie
  subst hv
  obtain ⟨u, hu⟩ : ∃ u, (scanS bs).2.1 = u := ⟨_, rfl⟩
  obtain ⟨sp, hsp⟩ : ∃ sp, (scanS bs).2.2 = sp := ⟨_, rfl⟩
  rw [hu, hsp]
  rw [hu] at hfrs
  have HU := Lib.hid hu
  have HSP := Lib.hid hsp
  have HFP := Lib.hid hfp
  have HFI := Lib.hid hfi
  have HFRS := Lib.hid hfrs
  have hd2 := HD1.out.below hb2 HG1.out.size
  have HD2 := Lib.hid hd2
  have HG2 := Lib.hid (HG1.out.trans (grown_bel hb2 (some mb)))
  clear hu hsp hfp hfi hfrs hfo hb2 hd2
  have hmd := made_three w2 w.heap.size db HG2.out.size _ _ _ rfl rfl rfl
  cases sp with
  | true =>
    have hno : openS bs = none := by unfold openS; rw [if_pos HSP.out]
    have hb3 := hmd.below
    have HB3 := Lib.hid hb3
    have HNO := Lib.hid hno
    clear hmd hb3 hno
    go_wp2_with fail
    go_ret2
    exact openAt_no HNO.out (HD2.out.belowT HB3.out) (HG2.out.trans (grown_bel HB3.out _))
  | false =>
    have hop : openS bs = doAll WP.zero (frs.map Fr.pair) := by unfold openS; rw [if_neg (by rw [HSP.out]; simp), HFP.out]
    have hzz : w.heap.size ≤ w2.heap.size := HG2.out.size
    go_upto_region 6 with fail
    generalize ((w2.alloc (.cells #[.int .i64 0, .int .i64 0, .int .i64 0, .int .i64 0, .slice none 0 0] 80)).alloc (.cells #[.pointer (some ⟨w2.heap.size, 0, none⟩), .pointer (some ⟨db, 0, none⟩)] 45)).alloc (.cells #[.pointer (some ⟨w2.heap.size + 1, 0, none⟩)] 28) = w3 at hmd ⊢
    have HM := Lib.hid hmd
    have HOP := Lib.hid hop
    have HD3 := Lib.hid (HD2.out.belowT hmd.below)
    have HG3 := Lib.hid (HG2.out.trans (grown_bel hmd.below (some mb)))
    have HFI3 := Lib.hid (HFI.out.below hmd.below (Nat.le_refl _))
    clear hmd hop
    generalize hsb : w2.heap.size = sb at HM HFI3 hzz ⊢
    clear hsb
    go_wp2_with fail
    refine (contains_any w.heap.size (sb + 1 + 1) (sb + 1) sb db 0 frs.length fa fc WP.zero frs w3 rfl HFI3.out HFRS.out.1 HM.out.st (WP.Ok.zero 0) (by have := HFRS.out; omega)).mono ?_
    rw [← HOP.out]
    obtain ⟨r, hr⟩ : ∃ r, openS bs = r := ⟨_, rfl⟩
    rw [hr]
    have HR := Lib.hid hr
    clear hr
    intro e w4 hda
    have hmix : ∀ w', w3.grownBy w' (some sb) → w.grownBy w' (some mb) := fun w' h => grownBy_mix HG3.out h hzz
    have HMIX := Lib.hid hmix
    clear hmix
    cases r with
    | none =>
      obtain ⟨rfl, hg4⟩ := hda
      go_wp2_with fail
      go_ret2
      exact openAt_no HR.out (HD3.out.said HM.out.st.say hdlt hmlt hg4) (HMIX.out _ hg4)
    | some t =>
      obtain ⟨rfl, hs4, hg4⟩ := hda
      have hwd : WalDk w4 w.heap.size (sb + 1) sb db mb room (n + 1) t L := ⟨⟨hs4.wbk, hs4.say, by omega⟩, HD3.out.said HM.out.st.say hdlt hmlt hg4, hdlt, hmlt⟩
      have hxb := hs4.xbk
      have HXB := Lib.hid hxb
      have HWD := Lib.hid hwd
      have HG4 := Lib.hid (HMIX.out _ hg4)
      clear hs4 hg4 hwd hxb
      go_wp2_with fail
      refine (remove_any HWD.out.dk (by omega) nextS next_small _ rfl).mono ?_
      rintro e w5 ⟨rfl, hd5, hg5⟩
      have hx5 := (hg5.block (sb + 1 + 1) (Array.getElem?_eq_some_iff.1 HXB.out).1 (fun e => by injection e; omega)).trans HXB.out
      have HXB5 := Lib.hid hx5
      have HWD5 := Lib.hid (HWD.out.disked hg5 hd5)
      have HG5 := Lib.hid (HG4.out.trans hg5)
      clear hd5 hg5 hx5
      by_cases hc : ez = 0 ∧ u < bs.length
      · obtain ⟨hc0, hc1⟩ := hc
        obtain ⟨f, hf, hfa⟩ : ∃ f, dGet L walS.data.toList = some f ∧ f.all = bs := by
          rcases HZ.out with ⟨_, h⟩ | ⟨h, _⟩
          · exact h
          · omega
        have HL1 := Lib.hid (show openL1 L bs ez = (dCut (dRemove L nextS.data.toList).1 walS.data.toList (u : Nat)).1 by unfold openL1; rw [if_pos ⟨hc0, by rw [HU.out]; exact hc1⟩, HU.out])
        have hf1 : dGet (dRemove L nextS.data.toList).1 walS.data.toList = some f := by rw [dGet_removed L _ _ names_ne]; exact hf
        have HF1 := Lib.hid hf1
        have HFA := Lib.hid hfa
        clear hf hfa hf1
        subst hc0
        have i1 : (u : Int) < bs.length := by omega
        have i2 : decide ((u : Int) < bs.length) = true := by simpa using i1
        go_wp2_with fail
        refine (cut_any HWD5.out.dk (by omega) walS wal_small f HF1.out u (by rw [HFA.out]; omega) _ rfl).mono ?_
        rintro e w6 ⟨rfl, hd6, hg6⟩
        have hx6 := (hg6.block (sb + 1 + 1) (Array.getElem?_eq_some_iff.1 HXB5.out).1 (fun e => by injection e; omega)).trans HXB5.out
        have HXB6 := Lib.hid hx6
        have HWD6 := Lib.hid (HWD5.out.disked hg6 hd6)
        have HG6 := Lib.hid (HG5.out.trans hg6)
        clear hd6 hg6 hx6 i1 i2
        have c0 := Go.Joins.cell_of_block HWD6.out.wal.blk 0
        have c1 := Go.Joins.cell_of_block HWD6.out.wal.blk 1
        have x0 := Go.Joins.cell_of_block HXB6.out 0
        go_wp2_with fail
        refine (wsync_dk ⟨sb, c0⟩ c1 HWD6.out.dk (by omega)).mono ?_
        rintro e w7 ⟨rfl, hd7, hg7⟩
        have hx7 := (hg7.block (sb + 1 + 1) (Array.getElem?_eq_some_iff.1 HXB6.out).1 (fun e => by injection e; omega)).trans HXB6.out
        have x7 := Go.Joins.cell_of_block hx7 0
        have HWD7 := Lib.hid ((HWD6.out.disked hg7 hd7).mono_n (n' := n + 4) (by omega))
        have HG7 := Lib.hid (HG6.out.trans hg7)
        clear hd7 hg7 hx7 c0 c1 x0
        go_wp2_with fail
        go_ret2
        refine openAt_yes (sb + 1) sb HR.out ?_ HG7.out
        unfold openL
        rw [HL1.out]
        exact HWD7.out
      · have HL1 := Lib.hid (show openL1 L bs ez = (dRemove L nextS.data.toList).1 by unfold openL1; rw [if_neg (by rw [HU.out]; exact hc)])
        by_cases hc0 : ez = 0
        · have hc1 : ¬ u < bs.length := fun h => hc ⟨hc0, h⟩
          subst hc0
          have i1 : ¬ (u : Int) < bs.length := by omega
          have i2 : decide ((u : Int) < bs.length) = false := by simpa using i1
          clear hc hc1
          have c0 := Go.Joins.cell_of_block HWD5.out.wal.blk 0
          have c1 := Go.Joins.cell_of_block HWD5.out.wal.blk 1
          have x0 := Go.Joins.cell_of_block HXB5.out 0
          go_wp2_with fail
          refine (wsync_dk ⟨sb, c0⟩ c1 HWD5.out.dk (by omega)).mono ?_
          rintro e w7 ⟨rfl, hd7, hg7⟩
          have hx7 := (hg7.block (sb + 1 + 1) (Array.getElem?_eq_some_iff.1 HXB5.out).1 (fun e => by injection e; omega)).trans HXB5.out
          have x7 := Go.Joins.cell_of_block hx7 0
          have HWD7 := Lib.hid ((HWD5.out.disked hg7 hd7).mono_n (n' := n + 4) (by omega))
          have HG7 := Lib.hid (HG5.out.trans hg7)
          clear hd7 hg7 hx7 c0 c1 x0
          go_wp2_with fail
          go_ret2
          refine openAt_yes (sb + 1) sb HR.out ?_ HG7.out
          unfold openL
          rw [HL1.out]
          exact HWD7.out
        · have i1 : decide (ez = 0) = false := by simpa using hc0
          have i2 : (ez == 0) = false := by simpa using hc0
          clear hc
          have c0 := Go.Joins.cell_of_block HWD5.out.wal.blk 0
          have c1 := Go.Joins.cell_of_block HWD5.out.wal.blk 1
          have x0 := Go.Joins.cell_of_block HXB5.out 0
          go_wp2_with fail
          refine (wsync_dk ⟨sb, c0⟩ c1 HWD5.out.dk (by omega)).mono ?_
          rintro e w7 ⟨rfl, hd7, hg7⟩
          have hx7 := (hg7.block (sb + 1 + 1) (Array.getElem?_eq_some_iff.1 HXB5.out).1 (fun e => by injection e; omega)).trans HXB5.out
          have x7 := Go.Joins.cell_of_block hx7 0
          have HWD7 := Lib.hid ((HWD5.out.disked hg7 hd7).mono_n (n' := n + 4) (by omega))
          have HG7 := Lib.hid (HG5.out.trans hg7)
          clear hd7 hg7 hx7 c0 c1 x0
          go_wp2_with fail
          go_ret2
          refine openAt_yes (sb + 1) sb HR.out ?_ HG7.out
          unfold openL
          rw [HL1.out]
          exact HWD7.out
end Go.Proofs.YtnhnabcpkaeaaaaGreatDoor
/- frame.Put: the frames' bytes, or that some is none. Conditions: the frames' cells lie as their reading says. -/
namespace Go.Proofs.YtnhnabcpkaeaaaaGreatDoor
open Go.RowKit
set_option maxRecDepth 20000
theorem putB_snoc (fs : List Fr) (f : Fr) : putB (fs ++ [f]) = putB fs ++ frameB f.kind f.data := by simp [putB]
theorem putB_take (fs : List Fr) (k : Nat) : (putB (fs.take k)).length ≤ (putB fs).length := by
  conv => rhs; rw [← List.take_append_drop k fs]
  unfold putB
  rw [List.flatMap_append, List.length_append]
  omega
def PutPost (fs : List Fr) (w : World) (e : Ending) (w' : World) : Prop :=
  ∃ v, e = .returned (.tuple #[v, .int .i64 (putE fs)]) ∧ (putE fs = 0 → w'.ownsRow w.heap.size 5 1 v (putB fs).length ((putB fs).map bv)) ∧ (putE fs ≠ 0 → v = .slice none 0 0) ∧ Below w.heap.size w w'
theorem putF_any (ao : Option Addr) (cap : Nat) (fs : List Fr) (w : World) (hx : FramesIn w w.heap.size ao fs) (hw : ∀ f ∈ fs, FrWf f) (hl : (putB fs).length ≤ 140737488351232) (hn : fs.length ≤ 1099511627776) :
    Calls Tryz.prog 54 #[.slice ao fs.length cap] w (PutPost fs w) := by
  have HX := Lib.hid hx
  clear hx
  go_enter Tryz.func54, Tryz.ntmps54
  go_wp2_with fail
  have hbuf0 : BufF (w.alloc (.cells #[.slice none 0 0, .int .i64 0, .int .i8 0] 142)) w.heap.size w.heap.size [] := LibA.zero_isBuffer (Nat.le_refl _) (lr := 0) ⟨_, heap_alloc_new w _, rfl, rfl, rfl, fun i hi => by rcases hi with hi | hi; omega; exact Array.getElem?_eq_none (by simpa using hi)⟩
  have hb0 := (Below.refl w.heap.size w).alloc (Nat.le_refl _) (.cells #[.slice none 0 0, .int .i64 0, .int .i8 0] 142)
  have hz0 : (w.alloc (.cells #[.slice none 0 0, .int .i64 0, .int .i8 0] 142)).heap.size = w.heap.size + 1 := by simp
  generalize w.alloc (.cells #[.slice none 0 0, .int .i64 0, .int .i8 0] 142) = w0 at hbuf0 hb0 hz0 ⊢
  go_loopw [6, 9] (fun _ i wr => ∃ k : Nat, k ≤ fs.length ∧ i = .int .i64 k ∧ (∀ f ∈ fs.take k, okF f) ∧ BufF wr w.heap.size w.heap.size (putB (fs.take k)) ∧ Below w.heap.size w wr) (fun _ i _ => fs.length - (intOf i).toNat)
  case atStart => exact ⟨0, by omega, rfl, by simp, hbuf0, hb0⟩
  case round =>
    obtain ⟨k, hk, rfl, hok, hbuf, hbel⟩ := hrel
    have HOK := Lib.hid hok
    clear hok hbuf0 hb0
    have hs := hbel.size
    by_cases hlt : k < fs.length
    · rcases HX.out with h0 | ⟨bb, off, rfl, hb, hc⟩
      · rw [h0] at hlt; simp at hlt
      obtain ⟨c0, c1, hD⟩ := hc k hlt
      rw [← hbel.cell (p := ⟨bb, _, none⟩) hb] at c0 c1
      clear hc
      have hfw := hw (fs.getD k Fr.zero) (by simp [List.getD, List.getElem?_eq_getElem hlt])
      have HE := Lib.hid (putE_at hlt HOK.out)
      have htk : fs.take (k + 1) = fs.take k ++ [fs.getD k Fr.zero] := by rw [List.take_succ_eq_append_getElem hlt]; simp [List.getD, List.getElem?_eq_getElem hlt]
      have HT := Lib.hid htk
      clear htk
      obtain ⟨f, hfe⟩ : ∃ f, f = fs.getD k Fr.zero := ⟨_, rfl⟩
      rw [← hfe] at c0 c1 hD hfw HE HT
      clear hfe
      obtain ⟨fk, fa, fc, fd⟩ := f
      obtain ⟨w1, hfa, hfd, hfl⟩ := hfw
      dsimp only at c0 c1 hD w1 hfa hfd hfl
      have i1 : (k : Int) < fs.length := by omega
      have hbig : (putB (fs.take (k + 1))).length ≤ (putB fs).length := putB_take fs (k + 1)
      rw [HT.out, putB_snoc, List.length_append, frameB_len] at hbig
      dsimp only at hbig
      have hbA := hbel.alloc hs (.cells #[.int .i64 fk, .slice fa fd.length fc] 83)
      by_cases hkk : fk < 0
      · have hE := HE.out (by unfold okF; dsimp only; omega)
        rw [if_pos (by dsimp only; omega)] at hE
        have HE' := Lib.hid hE
        clear hE
        go_wp2_with fail
        go_ret2
        exact ⟨_, by rw [HE'.out]; rfl, by rw [HE'.out]; omega, fun _ => rfl, hbA⟩
      · by_cases hkk2 : 255 < fk
        · have hE := HE.out (by unfold okF; dsimp only; omega)
          rw [if_pos (by dsimp only; omega)] at hE
          have HE' := Lib.hid hE
          clear hE
          go_wp2_with fail
          go_ret2
          exact ⟨_, by rw [HE'.out]; rfl, by rw [HE'.out]; omega, fun _ => rfl, hbA⟩
        · by_cases hlen : 1048576 < fd.length
          · have hE := HE.out (by unfold okF; dsimp only; omega)
            rw [if_neg (by dsimp only; omega)] at hE
            have HE' := Lib.hid hE
            clear hE
            have i2 : (1048576 : Int) < fd.length := by omega
            go_wp2_with fail
            go_ret2
            exact ⟨_, by rw [HE'.out]; rfl, by rw [HE'.out]; omega, fun _ => rfl, hbA⟩
          · have i2 : ¬ (1048576 : Int) < fd.length := by omega
            have hbufA : BufF (wr.alloc (.cells #[.int .i64 fk, .slice fa fd.length fc] 83)) w.heap.size w.heap.size (putB (fs.take k)) := LibA.IsBuffer.alloc hbuf _
            have hDA := hD.below hbA (Nat.le_refl _)
            have hsA := hbA.size
            go_wp2_with fail
            refine (frame_any w.heap.size w.heap.size _ fk fa fc fd _ (by omega) hDA hfd hfa hbufA hsA (by omega) (by omega)).mono ?_
            rintro e w3 ⟨rfl, hb3, hB3, _⟩
            go_wp2_with fail
            go_roundw
            case rel => exact ⟨k + 1, by omega, by go_num, by rw [HT.out]; intro f hf; rcases List.mem_append.1 hf with hf | hf; exact HOK.out f hf; rw [List.mem_singleton.1 hf]; unfold okF; dsimp only; omega, by rw [HT.out, putB_snoc]; exact hb3, hbA.trans hB3⟩
            case measure => simp [intOf]; omega
    · obtain rfl : k = fs.length := by omega
      have hok := HOK.out
      rw [List.take_length] at hok hbuf
      have H0 := Lib.hid (putE_ok hok)
      clear hok
      go_wp2_with fail
      refine (bytes_ofF _ _ _ _ hbuf).mono ?_
      rintro e w2 ⟨v, rfl, hown2, hb2⟩
      have hao2 := fun ao2 n cap2 (h : v = .slice ao2 n cap2) => own_none (h ▸ hown2)
      obtain ⟨ao2, cap2, hv2, hD2⟩ := own_bytes hown2
      have hao3 := hao2 _ _ _ hv2
      subst hv2
      have hbel2 := hbel.trans (hb2.mono hs)
      clear hown2 hao2
      have hs2 := hbel2.size
      go_wp2_with fail
      refine (clone_anyF ao2 cap2 (putB fs) w2 _ hD2 (Nat.le_refl _) hao3 (by omega)).mono ?_
      rintro e w3 ⟨v3, rfl, hown3, hb3⟩
      have hown4 := Go.Joins.ownsRow_le hown3 hs2
      have hbel3 := hbel2.trans (hb3.mono hs2)
      clear hown3
      go_wp2_with fail
      go_ret2
      exact ⟨v3, by rw [H0.out]; rfl, fun _ => hown4, fun h => absurd H0.out h, hbel3⟩
end Go.Proofs.YtnhnabcpkaeaaaaGreatDoor
/- The example of the laws of layer 3: it is as it must be, and nothing that was there is changed. No condition. -/
namespace Go.Proofs.YtnhnabcpkaeaaaaGreatDoor
open Go.RowKit
set_option maxRecDepth 20000
end Go.Proofs.YtnhnabcpkaeaaaaGreatDoor
/- The reference's Put: four bytes of a number; the frames' bytes, or that some is none. Conditions: the frames' cells lie as their reading says. -/
namespace Go.Proofs.YtnhnabcpkaeaaaaGreatDoor
open Go.RowKit
set_option maxRecDepth 20000
/-- An append to a row of bytes that is owned, whatever is appended, nil or not: at a step of a region that draws its order. -/
theorem step_append_bytes {w : World} {ops : Array Oper} {o : Oper} {a : Act} {K : Act → World → Prop} {Q : Exit → Act → World → Prop} {E : Prop} (hgd : o.guard = none) (s x : Operand)
    (ho : o.op = .call { callee := .builtin .append, args := #[s, x], argTypes := #[22, 22] })
    (base : Nat) (v : Value) (l : List Int) (hs : a.eval s = v) (hown : w.ownsRow base 5 1 v l.length (l.map bv))
    (ao : Option Addr) (cap : Nat) (xs : List Int) (hx : a.eval x = .slice ao xs.length cap) (B : Nat) (hin : BytesIn w B ao xs) (hao : ao = none → cap = 0) (hlim : l.length + xs.length ≤ 140737488351232) (hbase : base ≤ w.heap.size)
    (h : ∀ v' w', w'.ownsRow base 5 1 v' (l ++ xs).length ((l ++ xs).map bv) → w.grownBy w' v.ownBlock → K (a.put o.dst v') w') :
    if Region.wanted o (yielded ops a.tmps) = true then Oper.wp Tryz.prog o a w K Q else E := by
  have hw : Region.wanted o (yielded ops a.tmps) = true := by simp [Region.wanted, hgd]
  rw [if_pos hw]
  obtain ⟨i0, hi, hz0, hz1, hz2⟩ := info_parts infoByte
  cases ao with
  | none =>
    have hnil : xs = [] := by
      rcases hin with h | ⟨b, off, h1, _⟩
      · exact h
      · cases h1
    subst hnil
    rw [hao rfl] at hx
    have hrun := run_append_owned_none (P := Tryz.prog) (w := w) base 22 o.type 5 i0 1 Tryz.underlying22 hi v l.length _ hown
    unfold Oper.wp
    simp only [List.length_nil] at hx
    simp [execOp, ho, resolve, invoke, builtin, hs, hx, hrun, Result.andThen]
    exact h v w (by simpa using hown) (World.grownBy.refl _ _)
  | some ad =>
    obtain ⟨v', w', hrun, r1, r2, _⟩ := run_append_own (P := Tryz.prog) w base 22 o.type 5 i0 (.int .u8 0) 1 1 Tryz.underlying22 hi hz0 hz1 hz2 rfl (by decide) v l.length _ hown ad xs.length cap (xs.map bv) (by simp) (fun j u hu => cells_of_bytes hin (Below.refl _ _) rfl hu) (bytes_oneCell _) (by unfold maxLen; omega) (by omega) hbase
    unfold Oper.wp
    simp [execOp, ho, resolve, invoke, builtin, hs, hx, hrun, Result.andThen]
    refine h v' w' ?_ r2
    rw [List.length_append, List.map_append]
    exact r1
/-- An append to a row of bytes that is owned, in a plain region: where the new row lies, too. -/
theorem wpList_append_bytes_rp {w : World} {ops : Array Oper} {rest : List Oper} {o : Oper} {a : Act} {Q : Exit → Act → World → Prop} (hgd : o.guard = none) (s x : Operand)
    (ho : o.op = .call { callee := .builtin .append, args := #[s, x], argTypes := #[22, 22] })
    (base : Nat) (v : Value) (l : List Int) (hs : a.eval s = v) (hown : w.ownsRow base 5 1 v l.length (l.map bv))
    (ao : Option Addr) (cap : Nat) (xs : List Int) (hx : a.eval x = .slice ao xs.length cap) (B : Nat) (hin : BytesIn w B ao xs) (hao : ao = none → cap = 0) (hlim : l.length + xs.length ≤ 140737488351232) (hbase : base ≤ w.heap.size)
    (h : ∀ v' w' l', Hid (l' = l ++ xs) → w'.ownsRow base 5 1 v' l'.length (l'.map bv) → w.grownBy w' v.ownBlock → (v'.ownBlock = v.ownBlock ∨ v'.ownBlock = some w.heap.size) → wpList Tryz.prog ops Q rest (a.put o.dst v') w') : wpList Tryz.prog ops Q (o :: rest) a w := by
  obtain ⟨i0, hi, hz0, hz1, hz2⟩ := info_parts infoByte
  cases ao with
  | none =>
    have hnil : xs = [] := by
      rcases hin with h | ⟨b, off, h1, _⟩
      · exact h
      · cases h1
    subst hnil
    rw [hao rfl] at hx
    refine wpList_append_own_none hgd s x _ ho base 5 i0 1 Tryz.underlying22 hi v l.length _ hs hown hx ?_
    refine h v w l (Lib.hid (by simp)) hown (World.grownBy.refl _ _) (Or.inl rfl)
  | some ad =>
    refine wpList_append_own_at _ hgd s x _ ho base 5 i0 (.int .u8 0) 1 1 Tryz.underlying22 hi hz0 hz1 hz2 rfl (by decide) v l.length _ hs hown ad xs.length cap (xs.map bv) hx (by simp) ?_ (bytes_oneCell _) (by unfold maxLen; omega) (by omega) hbase ?_
    · intro j u hu
      exact cells_of_bytes hin (Below.refl _ _) rfl hu
    · intro v' w' h1 h2 _ h3
      refine h v' w' (l ++ xs) (Lib.hid rfl) ?_ h2 h3
      rw [List.length_append, List.map_append]
      exact h1
theorem rbytes_new (w : World) (T : TypeId) (xs : List Int) (cs : Array Value) (fr : Nat × Nat) (g B : Nat) (hcs : cs = (xs.map bv).toArray) (hg : g = w.heap.size) (hB : g < B) : BytesIn (w.alloc (.cells cs T fr)) B (some ⟨g, 0, none⟩) xs := by
  subst hcs hg
  refine Or.inr ⟨_, 0, rfl, hB, fun i hi => ?_⟩
  rw [Nat.zero_add, Go.Joins.cell_of_block (heap_alloc_new w _) i]
  simp [bv, List.getD, List.getElem?_eq_getElem hi]
theorem own_pos_rp {w : World} {base e size n : Nat} {v : Value} {xs : List Value} (h : w.ownsRow base e size v n xs) (hn : 0 < n) : ∃ g c, v = .slice (some ⟨g, 0, none⟩) n c := by
  rcases Go.Joins.ownsRow_forms h with ⟨_, hz⟩ | ⟨g, cap', rfl⟩
  · omega
  · exact ⟨g, cap', rfl⟩
theorem own_inF {w : World} {base g c : Nat} {l : List Int} {n : Nat} (hn : l.length = n) (h : w.ownsRow base 5 1 (.slice (some ⟨g, 0, none⟩) n c) n (l.map bv)) : BytesIn w w.heap.size (some ⟨g, 0, none⟩) l := by
  subst hn
  obtain ⟨ao, cap, hv, hB⟩ := own_bytes h
  cases hv
  exact hB
theorem ne_step {v v' : Value} {g n : Nat} (h : v.ownBlock ≠ some g) (hg : g < n) (hat : v'.ownBlock = v.ownBlock ∨ v'.ownBlock = some n) : v'.ownBlock ≠ some g := by
  rcases hat with e | e
  · rw [e]; exact h
  · rw [e]; intro h2; cases h2; omega
theorem sep_of_ne {v : Value} {g n c : Nat} (h : v.ownBlock ≠ some g) : (Value.slice (some ⟨g, 0, none⟩) n c).ownBlock = none ∨ (Value.slice (some ⟨g, 0, none⟩) n c).ownBlock ≠ v.ownBlock :=
  Or.inr fun e => h e.symm
theorem sub_in {w : World} {base g c n : Nat} {x : Int} {xs : List Int} (hn : xs.length + 1 = n) (h : w.ownsRow base 5 1 (.slice (some ⟨g, 0, none⟩) n c) n ((x :: xs).map bv)) : BytesIn w w.heap.size (subA (some ⟨g, 0, none⟩) c 1 1) xs := by
  have hc : n ≤ c := by
    rcases h.2 with ⟨h', _⟩ | ⟨g', cap', cur, h', _, _, h3, _⟩
    · cases h'
    · cases h'; exact h3
  by_cases h0 : xs = []
  · exact Or.inl h0
  · have hl : 0 < xs.length := List.length_pos_iff.2 h0
    rcases own_inF (by simpa using hn) h with h1 | ⟨b, off, h1, h2, h3⟩
    · cases h1
    · cases h1
      refine Or.inr ⟨g, 1, by unfold subA; rw [if_neg (by omega)]; rfl, h2, fun i hi => ?_⟩
      have := h3 (i + 1) (by simpa using hi)
      rw [Nat.zero_add, Nat.add_comm i 1] at this
      rw [this]
      simp [List.getD, Nat.add_comm 1 i]
theorem rfour_any (n : Nat) (hn : n < 4294967296) (w : World) :
    Calls Tryz.prog 104 #[.int .u32 (n : Int)] w fun e w' => e = .returned (.slice (some ⟨w.heap.size, 0, none⟩) 4 4) ∧ w'.ownsRow w.heap.size 5 1 (.slice (some ⟨w.heap.size, 0, none⟩) 4 4) 4 ((fourB n).map bv) ∧ Below w.heap.size w w' := by
  go_enter Tryz.func104, Tryz.ntmps104
  go_wp2_with fail
  go_ret
  exact ⟨rfl, World.ownsRow_lit w ((fourB n).map bv).toArray 4 (Nat.le_refl _) (by unfold maxLen; omega) rfl, (Below.refl _ _).alloc (Nat.le_refl _) _⟩
theorem rfour_at (a : Int) (n : Nat) (h : a = n) (hn : n < 4294967296) (w : World) :
    Calls Tryz.prog 104 #[.int .u32 a] w fun e w' => e = .returned (.slice (some ⟨w.heap.size, 0, none⟩) 4 4) ∧ w'.ownsRow w.heap.size 5 1 (.slice (some ⟨w.heap.size, 0, none⟩) 4 4) 4 ((fourB n).map bv) ∧ Below w.heap.size w w' := by
  subst h
  exact rfour_any n hn w
theorem rsum_put (ao : Option Addr) (n cap : Nat) (xs : List Int) (z : Nat) (w : World) (B : Nat) (hn : xs.length = n) (hz : sumS xs = z) (hx : BytesIn w B ao xs) (hw : BytesWf xs) (hl : n ≤ 4611686018427387904) :
    Calls Tryz.prog 105 #[.slice ao n cap] w fun e w' => e = .returned (.int .u32 z) ∧ w = w' := by
  subst hn hz
  exact rsum_any ao cap xs w B hx hw hl
def RPutPost (fs : List Fr) (w : World) (e : Ending) (w' : World) : Prop :=
  ∃ v, e = .returned (.tuple #[v, .int .i64 (putE fs)]) ∧ (putE fs = 0 → w'.ownsRow w.heap.size 5 1 v (putB fs).length ((putB fs).map bv)) ∧ (putE fs ≠ 0 → v = .slice none 0 0) ∧ Below w.heap.size w w'
set_option maxHeartbeats 2000000 in
theorem rput_any (ao : Option Addr) (cap : Nat) (fs : List Fr) (w : World) (hx : FramesIn w w.heap.size ao fs) (hw : ∀ f ∈ fs, FrWf f) (hl : (putB fs).length ≤ 140737488351232) (hn : fs.length ≤ 1099511627776) :
    Calls Tryz.prog 75 #[.slice ao fs.length cap] w (RPutPost fs w) := by
  have HX := Lib.hid hx
  clear hx
  go_enter Tryz.func75, Tryz.ntmps75
  go_wp2_with fail
  go_loopw [4, 5, 6] (fun v i _ wr => ∃ (k : Nat) (vv : Value), vv = v ∧ k ≤ fs.length ∧ i = .int .i64 k ∧ (∀ f ∈ fs.take k, okF f) ∧ wr.ownsRow w.heap.size 5 1 vv (putB (fs.take k)).length ((putB (fs.take k)).map bv) ∧ Below w.heap.size w wr) (fun _ i _ _ => fs.length - (intOf i).toNat)
  case atStart => exact ⟨0, _, rfl, by omega, rfl, by simp, by simpa [putB] using World.ownsRow_nil w w.heap.size 5 1, Below.refl _ _⟩
  case round =>
    obtain ⟨k, v, hv0, hk, rfl, hok, hown, hbel⟩ := hrel
    subst hv0
    have HOK := Lib.hid hok
    have HO := Lib.hid hown
    clear hok hown
    have hs := hbel.size
    by_cases hlt : k < fs.length
    · rcases HX.out with h0 | ⟨bb, off, rfl, hb, hc⟩
      · rw [h0] at hlt; simp at hlt
      obtain ⟨c0, c1, hD⟩ := hc k hlt
      rw [← hbel.cell (p := ⟨bb, _, none⟩) hb] at c0 c1
      clear hc
      have hfw := hw (fs.getD k Fr.zero) (by simp [List.getD, List.getElem?_eq_getElem hlt])
      have HE := Lib.hid (putE_at hlt HOK.out)
      have htk : fs.take (k + 1) = fs.take k ++ [fs.getD k Fr.zero] := by rw [List.take_succ_eq_append_getElem hlt]; simp [List.getD, List.getElem?_eq_getElem hlt]
      have HT := Lib.hid htk
      clear htk
      obtain ⟨f, hfe⟩ : ∃ f, f = fs.getD k Fr.zero := ⟨_, rfl⟩
      rw [← hfe] at c0 c1 hD hfw HE HT
      clear hfe
      obtain ⟨fk, fa, fc, fd⟩ := f
      obtain ⟨w1, hfa, hfd, hfl⟩ := hfw
      dsimp only at c0 c1 hD w1 hfa hfd hfl
      have i1 : (k : Int) < fs.length := by omega
      have hbig : (putB (fs.take (k + 1))).length ≤ (putB fs).length := putB_take fs (k + 1)
      rw [HT.out, putB_snoc, List.length_append, frameB_len] at hbig
      dsimp only at hbig
      have HD := Lib.hid hD
      have HFA := Lib.hid hfa
      have HBG := Lib.hid hbig
      clear hD hfa hbig
      by_cases hkk : fk < 0
      · have hE := HE.out (by unfold okF; dsimp only; omega)
        rw [if_pos (by dsimp only; omega)] at hE
        have HE' := Lib.hid hE
        clear hE
        go_wp2_with fail
        go_ret2
        exact ⟨_, by rw [HE'.out]; rfl, by rw [HE'.out]; omega, fun _ => rfl, hbel⟩
      · by_cases hkk2 : 255 < fk
        · have hE := HE.out (by unfold okF; dsimp only; omega)
          rw [if_pos (by dsimp only; omega)] at hE
          have HE' := Lib.hid hE
          clear hE
          go_wp2_with fail
          go_ret2
          exact ⟨_, by rw [HE'.out]; rfl, by rw [HE'.out]; omega, fun _ => rfl, hbel⟩
        · by_cases hlen : 1048576 < fd.length
          · have hE := HE.out (by unfold okF; dsimp only; omega)
            rw [if_neg (by dsimp only; omega)] at hE
            have HE' := Lib.hid hE
            clear hE
            have i2 : (1048576 : Int) < fd.length := by omega
            go_wp2_with fail
            go_ret2
            exact ⟨_, by rw [HE'.out]; rfl, by rw [HE'.out]; omega, fun _ => rfl, hbel⟩
          · have i2 : ¬ (1048576 : Int) < fd.length := by omega
            have hS : ∀ w', Below (w.heap.size) wr w' → w'.cell? ⟨bb, off + k * 2, none⟩ = some (.int .i64 fk) ∧ w'.cell? ⟨bb, off + k * 2 + 1, none⟩ = some (.slice fa fd.length fc) := fun w' h => ⟨(h.cell (p := ⟨bb, _, none⟩) hb).trans c0, (h.cell (p := ⟨bb, _, none⟩) hb).trans c1⟩
            have HSS := Lib.hid hS
            have hrf : Below w.heap.size wr wr := Below.refl _ _
            have n1 : IntKind.u8.wrap fk = fk := by unfold IntKind.wrap; simp [IntKind.signed, IntKind.bits]; omega
            clear hS
            go_wp2_with fail
            go_region_held3 (fun w' => w'.cell? ⟨bb, off + k * 2, none⟩ = some (.int .i64 fk) ∧ w'.cell? ⟨bb, off + k * 2 + 1, none⟩ = some (.slice fa fd.length fc)) ((refine HSS.out _ ?_; repeat (first | with_reducible assumption | with_reducible exact Below.refl _ _ | refine Below.alloc ?_ (by first | omega | (simp; omega)) _ | with_reducible refine Below.drew ?_))) ((refine step_append_bytes (by rfl) (.tmp 40) (.tmp 45) (by rfl) wr.heap.size _ [fk] (by rfl) (World.ownsRow_lit wr.drew #[.int .u8 fk] 1 (Nat.le_refl _) (by unfold maxLen; omega) rfl) fa fc fd (by rfl) w.heap.size ((HD.out.below hbel (Nat.le_refl _)).below (((Below.refl w.heap.size wr).drew).alloc (by simp; omega) _) (Nat.le_refl _)) HFA.out (by simp; omega) (by simp) ?_; intro v3 w3 hown3 hg3; have hb3 : Below w.heap.size wr w3 := ((Below.refl w.heap.size wr).alloc hs _).drew.grown hg3 (by simp; omega) (fun b hb => by simp [Value.ownBlock] at hb; omega)))
            obtain ⟨g4, c4, hv4⟩ := own_pos_rp hown3 (by simp)
            subst hv4
            have hbel3 : Below w.heap.size w w3 := hbel.trans hb3
            have hs3 := hbel3.size
            have hown4 := own_below HO.out (B := wr.heap.size) (w' := w3) (by
              refine ((Below.refl wr.heap.size wr).alloc (Nat.le_refl _) (.cells #[.int .u8 fk] 5)).drew.grown hg3 (by simp) (fun b hb => by simp [Value.ownBlock] at hb; omega)) (Nat.le_refl _)
            have hg4 := hown3.lt g4 rfl
            have hne4 : v.ownBlock ≠ some g4 := fun h => by have := (HO.out.lt g4 h).2; omega
            have hb33 := hb3.size
            have HO4 := Lib.hid hown4
            have HR4 := Lib.hid (show w3.ownsRow wr.heap.size 5 1 (.slice (some ⟨g4, 0, none⟩) (fd.length + 1) c4) (fd.length + 1) ((fk :: fd).map bv) from hown3)
            have HNE4 := Lib.hid hne4
            clear hown4 hown3 hg3 c0 c1 n1 hrf hne4
            obtain ⟨P, hP⟩ : ∃ P, P = putB (fs.take k) := ⟨_, rfl⟩
            have hPl2 : P.length + fd.length + 9 ≤ 140737488351232 := by have := HBG.out; rw [hP]; omega
            have HO5 := Lib.hid (show w3.ownsRow w.heap.size 5 1 v P.length (P.map bv) by rw [hP]; exact HO4.out)
            have HPP := Lib.hid hP
            clear HO4 hP
            have e1 := (HSS.out w3 hb3).2
            go_wp2_with fail
            refine (rfour_at _ fd.length (by omega) (by omega) w3).mono ?_
            rintro e w4 ⟨rfl, hown4, hb4⟩
            have hs4 := hb4.size
            have HO6 := Lib.hid (own_below HO5.out hb4 (Nat.le_refl _))
            have HR6 := Lib.hid (own_below HR4.out hb4 (Nat.le_refl _))
            have H46 := Lib.hid hown4
            clear hown4 e1 HO5 HR4
            go_wp2_with (at_builtin; refine wpList_append_bytes_rp rfl (.tmp 47) (.tmp 55) rfl w.heap.size v P rfl HO6.out (some ⟨w3.heap.size, 0, none⟩) 4 (fourB fd.length) rfl w4.heap.size (own_inF rfl H46.out) (by simp) (by simp [fourB]; omega) (by omega) ?_)
            intro v5 w5 P1 HP1e hown5 hg5 hat5
            have HNE5 := Lib.hid (ne_step HNE4.out (show g4 < w4.heap.size by omega) hat5)
            have HO7 := Lib.hid hown5
            have HR7 := Lib.hid (World.ownsRow.kept HR6.out hg5 (sep_of_ne HNE4.out))
            have hb5 : Below w.heap.size w w5 := ((hbel3.trans (hb4.mono hs3)).grown hg5 (by omega) (fun b hb => (HO6.out.lt b hb).1))
            have hs5 := hb5.size
            have hg45 := (HR7.out.lt g4 rfl).2
            have hwr5 := (HR7.out.lt g4 rfl).1
            have d0 : w5.cell? ⟨g4, 0, none⟩ = some (.int .u8 fk) := (World.ownsRow.cellAt HR7.out 0 (by omega)).trans rfl
            have i5 : (0 : Int) < (fd.length : Int) + 1 := by omega
            have i6 : 0 < fd.length + 1 := by omega
            have hP1 : P1.length = P.length + 4 := by rw [HP1e.out]; simp [fourB]
            have HP1 := Lib.hid hP1
            clear hown5 hg5 hat5 HO6 HR6 H46 HNE4 hP1
            go_wp2_with (at_builtin; refine wpList_append_bytes_rp rfl (.tmp 57) (.tmp 61) rfl w.heap.size v5 P1 rfl (HO7.out.alloc _) (some ⟨w5.heap.size, 0, none⟩) 1 [fk] rfl (w5.heap.size + 1) (rbytes_new w5 _ [fk] _ _ _ _ rfl rfl (by omega)) (by simp) (by rw [HP1.out]; simp; omega) (by simp; omega) ?_)
            intro v6 w6 P2 HP2e hown6 hg6 hat6
            have HNE6 := Lib.hid (ne_step HNE5.out (show g4 < w5.heap.size + 1 by omega) hat6)
            have HO8 := Lib.hid hown6
            have HR8 := Lib.hid (World.ownsRow.kept (HR7.out.alloc _) hg6 (sep_of_ne HNE5.out))
            have hb6 : Below w.heap.size w w6 := ((hb5.alloc hs5 _).grown hg6 (by simp; omega) (fun b hb => (HO7.out.lt b hb).1))
            have hs6 := hb6.size
            have hg46 := (HR8.out.lt g4 rfl).2
            have hP2 : P2.length = P.length + 5 := by have := HP1.out; rw [HP2e.out]; simp; omega
            have HP2 := Lib.hid hP2
            have hwf4 : BytesWf (fk :: fd) := by
              intro y hy
              rcases List.mem_cons.1 hy with rfl | hy
              · omega
              · exact hfd y hy
            have hz4 := sumS_lt hwf4
            obtain ⟨z, hz⟩ : ∃ z, sumS (fk :: fd) = z := ⟨_, rfl⟩
            rw [hz] at hz4
            have HZ := Lib.hid hz
            have HW4 := Lib.hid hwf4
            clear hown6 hg6 hat6 HO7 HR7 HNE5 hP2 hz hwf4 d0
            go_wp2_with fail
            refine (rsum_put _ _ _ (fk :: fd) z w6 _ rfl HZ.out (own_inF rfl HR8.out) HW4.out (by simp; omega)).mono ?_
            rintro e w' ⟨rfl, rfl⟩
            go_wp2_with fail
            refine (rfour_at _ z rfl hz4 w6).mono ?_
            rintro e w7 ⟨rfl, hown7, hb7⟩
            have hs7 := hb7.size
            have HO9 := Lib.hid (own_below HO8.out hb7 (Nat.le_refl _))
            have HR9 := Lib.hid (own_below HR8.out hb7 (Nat.le_refl _))
            have H47 := Lib.hid hown7
            have hb7' : Below w.heap.size w w7 := hb6.trans (hb7.mono hs6)
            clear hown7 HO8 HR8
            go_wp2_with (at_builtin; refine wpList_append_bytes_rp rfl (.tmp 63) (.tmp 66) rfl w.heap.size v6 P2 rfl HO9.out (some ⟨w6.heap.size, 0, none⟩) 4 (fourB z) rfl w7.heap.size (own_inF rfl H47.out) (by simp) (by rw [HP2.out]; simp [fourB]; omega) (by omega) ?_)
            intro v8 w8 P3 HP3e hown8 hg8 hat8
            have HNE8 := Lib.hid (ne_step HNE6.out (show g4 < w7.heap.size by omega) hat8)
            have HO10 := Lib.hid hown8
            have HR10 := Lib.hid (World.ownsRow.kept HR9.out hg8 (sep_of_ne HNE6.out))
            have hb8 : Below w.heap.size w w8 := (hb7'.grown hg8 (by omega) (fun b hb => (HO9.out.lt b hb).1))
            have hs8 := hb8.size
            have hP3 : P3.length = P.length + 9 := by have := HP2.out; rw [HP3e.out]; simp [fourB]; omega
            have HP3 := Lib.hid hP3
            have hsl : ∀ w', (Instr.sliceAt 22 (.slice (some ⟨g4, 0, none⟩) (fd.length + 1) c4) (some (.int .i64 1)) none none).run Tryz.prog w' = .ok (.slice (subA (some ⟨g4, 0, none⟩) c4 1 1) fd.length (c4 - 1)) w' := fun w' => by
              have h1 := run_sub_l sliceByte sizeByte (some ⟨g4, 0, none⟩) (fd.length + 1) c4 1 (by omega) .i64 1 rfl w'
              rwa [show fd.length + 1 - 1 = fd.length by omega] at h1
            have hsn : subA (some ⟨g4, 0, none⟩) c4 1 1 = none → c4 - 1 = 0 := fun h => by have := subA_eq_none h; cases this
            have hsi := sub_in rfl HR10.out
            generalize subA (some ⟨g4, 0, none⟩) c4 1 1 = sa at hsl hsn hsi
            have HSN := Lib.hid hsn
            have HSI := Lib.hid hsi
            clear hown8 hg8 hat8 HO9 HR9 HNE6 hP3 hsn hsi H47
            go_wp2_with (at_builtin; refine wpList_append_bytes_rp rfl (.tmp 68) (.tmp 70) rfl w.heap.size v8 P3 rfl HO10.out sa (c4 - 1) fd rfl w8.heap.size HSI.out HSN.out (by rw [HP3.out]; omega) (by omega) ?_)
            intro v9 w9 P4 HP4e hown9 hg9 hat9
            have hb9 : Below w.heap.size w w9 := (hb8.grown hg9 (by omega) (fun b hb => (HO10.out.lt b hb).1))
            have hend : P4 = putB (fs.take (k + 1)) := by
              rw [HT.out, putB_snoc, HP4e.out, HP3e.out, HP2e.out, HP1e.out, HPP.out, ← HZ.out]
              simp [frameB, List.append_assoc]
            rw [hend] at hown9
            have HO11 := Lib.hid hown9
            clear hown9 hg9 hat9 hend hsl HO10
            go_wp2_with fail
            go_roundw
            case rel => exact ⟨k + 1, v9, rfl, by omega, by go_num, by rw [HT.out]; intro f hf; rcases List.mem_append.1 hf with hf | hf; exact HOK.out f hf; rw [List.mem_singleton.1 hf]; unfold okF; dsimp only; omega, HO11.out, hb9⟩
            case measure => simp [intOf]; omega
    · obtain rfl : k = fs.length := by omega
      have hok := HOK.out
      have hown := HO.out
      rw [List.take_length] at hok hown
      have H0 := Lib.hid (putE_ok hok)
      have HO2 := Lib.hid hown
      clear hok hown
      go_wp2_with fail
      go_ret2
      exact ⟨_, by rw [H0.out]; rfl, fun _ => HO2.out, fun h => absurd H0.out h, hbel⟩
end Go.Proofs.YtnhnabcpkaeaaaaGreatDoor
