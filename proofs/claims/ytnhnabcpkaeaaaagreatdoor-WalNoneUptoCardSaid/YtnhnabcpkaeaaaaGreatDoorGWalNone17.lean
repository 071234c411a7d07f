/- Open. Conditions: the disk lies so; the file's bytes are not too many. -/
import Derived.Test.YtnhnabcpkaeaaaaGreatDoorGWalNone16
import Derived.Test.YtnhnabcpkaeaaaaGreatDoorGWalNone12
set_option linter.unusedVariables false
set_option linter.unusedSimpArgs false
namespace Go.Proofs.YtnhnabcpkaeaaaaGreatDoor
open Go.RowKit
set_option maxRecDepth 20000
def openS (bs : List Int) : Option WP := if (scanS bs).2.2 = true then none else doAll WP.zero (scanS bs).1
def openL1 (L : Dk) (bs : List Int) (ez : Int) : Dk := if ez = 0 ∧ (scanS bs).2.1 < bs.length then (dCut (dRemove L nextS.data.toList).1 walS.data.toList (scanS bs).2.1).1 else (dRemove L nextS.data.toList).1
def openL (L : Dk) (bs : List Int) (ez : Int) : Dk := (dSync (openL1 L bs ez) walS.data.toList).1
def OpenAt (L : Dk) (bs : List Int) (ez : Int) (db mb room n : Nat) (w : World) (e : Ending) (w' : World) : Prop :=
  match openS bs with
  | none => e = .returned (.tuple #[.pointer none, .int .i64 10]) ∧ DiskIs w' w'.heap.size db mb room (n + 1) L ∧ w.grownBy w' (some mb)
  | some t => ∃ wb sb, e = .returned (.tuple #[.pointer (some ⟨wb, 0, none⟩), .int .i64 0]) ∧ WalDk w' w.heap.size wb sb db mb room (n + 4) t (openL L bs ez) ∧ w.grownBy w' (some mb)
theorem dRead_zero {L : Dk} {k : List UInt8} {bs : List Int} {ez : Int} (h : dRead L k = (bs, ez)) : ez = 0 ∧ (∃ f, dGet L k = some f ∧ f.all = bs) ∨ ez = 6 ∧ bs = [] := by
  unfold dRead at h
  cases hg : dGet L k with
  | none => rw [hg] at h; injection h with h1 h2; exact Or.inr ⟨h2.symm, h1.symm⟩
  | some f => rw [hg] at h; injection h with h1 h2; exact Or.inl ⟨h2.symm, f, rfl, h1⟩
theorem dGet_removed (L : Dk) (k k' : List UInt8) (hk : k ≠ k') : dGet (dRemove L k).1 k' = dGet L k' := by
  unfold dRemove
  cases hg : dGet L k with
  | none => rfl
  | some f => show dGet (dDel L k) k' = _; rw [dGet_del, if_neg (Ne.symm hk)]
theorem putP_few (l : List (Int × List Int)) : l.length ≤ (putP l).length := by
  induction l with
  | nil => exact Nat.zero_le _
  | cons p r ih =>
    rw [putP_cons, List.length_append, frameB_len, List.length_cons]
    omega
theorem scan_frs {bs : List Int} {frs : List Fr} {w : World} {B : Nat} {v : Value} (hw : BytesWf bs) (hl : bs.length ≤ 1000000) (hp : frs.map Fr.pair = (scanS bs).1) (ho : FramesOwn w B v frs) : (∀ f ∈ frs, FrOk f) ∧ frs.length ≤ bs.length ∧ (scanS bs).2.1 ≤ bs.length := by
  obtain ⟨h1, h2, h3⟩ := scanS_put (b := bs) hw
  have h4 := putP_few (scanS bs).1
  rw [h2] at h4
  refine ⟨fun f hf => ?_, ?_, h1⟩
  · have hk := h3 f.pair (by rw [← hp]; exact List.mem_map.2 ⟨f, hf, rfl⟩)
    obtain ⟨k0, k1, k2, k3⟩ := hk
    have k0' : 0 ≤ f.kind := k0
    have k1' : f.kind ≤ 255 := k1
    have k2' : f.data.length ≤ 1048576 := k2
    exact ⟨⟨lit_of (by omega), own_none (ho.2.1 f hf), k3, by omega⟩, by omega⟩
  · rw [← hp, List.length_map, List.length_take] at h4
    omega
/-- What Open has made when it looks at the frames. -/
structure Made (w : World) (W sb db : Nat) (w2 : World) : Prop where
  st : OpenSt w W (sb + 1 + 1) (sb + 1) sb db WP.zero
  below : Below w2.heap.size w2 w
theorem made_three (w2 : World) (W db : Nat) (hW : W ≤ w2.heap.size) (o1 o2 o3 : Obj) (h1 : o1 = .cells #[.int .i64 0, .int .i64 0, .int .i64 0, .int .i64 0, .slice none 0 0] 80) (h2 : o2 = .cells #[.pointer (some ⟨w2.heap.size, 0, none⟩), .pointer (some ⟨db, 0, none⟩)] 45) (h3 : o3 = .cells #[.pointer (some ⟨w2.heap.size + 1, 0, none⟩)] 28) :
    Made (((w2.alloc o1).alloc o2).alloc o3) W w2.heap.size db w2 := by
  subst h1 h2 h3
  have s1 : (w2.alloc (.cells #[.int .i64 0, .int .i64 0, .int .i64 0, .int .i64 0, .slice none 0 0] 80)).heap.size = w2.heap.size + 1 := by simp
  have k1 := heap_alloc_new w2 (.cells #[.int .i64 0, .int .i64 0, .int .i64 0, .int .i64 0, .slice none 0 0] 80)
  have b1 := (Below.refl w2.heap.size w2).alloc (Nat.le_refl _) (.cells #[.int .i64 0, .int .i64 0, .int .i64 0, .int .i64 0, .slice none 0 0] 80)
  generalize w2.alloc (.cells #[.int .i64 0, .int .i64 0, .int .i64 0, .int .i64 0, .slice none 0 0] 80) = wa at s1 k1 b1 ⊢
  have s2 : (wa.alloc (.cells #[.pointer (some ⟨w2.heap.size, 0, none⟩), .pointer (some ⟨db, 0, none⟩)] 45)).heap.size = w2.heap.size + 2 := by simp [s1]
  have k2 := heap_alloc_new wa (.cells #[.pointer (some ⟨w2.heap.size, 0, none⟩), .pointer (some ⟨db, 0, none⟩)] 45)
  have b2 := (Below.refl wa.heap.size wa).alloc (Nat.le_refl _) (.cells #[.pointer (some ⟨w2.heap.size, 0, none⟩), .pointer (some ⟨db, 0, none⟩)] 45)
  generalize wa.alloc (.cells #[.pointer (some ⟨w2.heap.size, 0, none⟩), .pointer (some ⟨db, 0, none⟩)] 45) = wb at s2 k2 b2 ⊢
  have k3 := heap_alloc_new wb (.cells #[.pointer (some ⟨w2.heap.size + 1, 0, none⟩)] 28)
  have b3 := (Below.refl wb.heap.size wb).alloc (Nat.le_refl _) (.cells #[.pointer (some ⟨w2.heap.size + 1, 0, none⟩)] 28)
  generalize wb.alloc (.cells #[.pointer (some ⟨w2.heap.size + 1, 0, none⟩)] 28) = wc at k3 b3 ⊢
  rw [s1] at k2
  rw [s2] at k3
  exact ⟨⟨k3, (b3.block _ (by omega)).trans k2, _, [], ⟨(b3.block _ (by omega)).trans ((b2.block _ (by omega)).trans k1), EnsOwn.nil _ _, hW⟩, rfl⟩, b1.trans ((b2.mono (by omega)).trans (b3.mono (by omega)))⟩
theorem openAt_no {L : Dk} {bs : List Int} {ez : Int} {db mb room n : Nat} {w w' : World} (h : openS bs = none) (hd : DiskIs w' w'.heap.size db mb room (n + 1) L) (hg : w.grownBy w' (some mb)) : OpenAt L bs ez db mb room n w (.returned (.tuple #[.pointer none, .int .i64 10])) w' := by
  unfold OpenAt
  rw [h]
  exact ⟨rfl, hd, hg⟩
theorem openAt_yes {L : Dk} {bs : List Int} {ez : Int} {db mb room n : Nat} {w w' : World} {t : WP} (wb sb : Nat) (h : openS bs = some t) (hd : WalDk w' w.heap.size wb sb db mb room (n + 4) t (openL L bs ez)) (hg : w.grownBy w' (some mb)) : OpenAt L bs ez db mb room n w (.returned (.tuple #[.pointer (some ⟨wb, 0, none⟩), .int .i64 0])) w' := by
  unfold OpenAt
  rw [h]
  exact ⟨wb, sb, rfl, hd, hg⟩
theorem DiskIs.belowT {w w' : World} {B db mb room n : Nat} {L : Dk} (h : DiskIs w B db mb room n L) (hb : Below w.heap.size w w') : DiskIs w' w'.heap.size db mb room n L := (h.below hb h.le).mono (Nat.le_trans h.le hb.size) (Nat.le_refl _)
theorem WalDk.mono_n {w : World} {B wb sb db mb room n n' : Nat} {s : WP} {L : Dk} (h : WalDk w B wb sb db mb room n s L) (hn : n ≤ n') : WalDk w B wb sb db mb room n' s L := ⟨h.wal, h.dk.more hn, h.dlo, h.mlo⟩
theorem bown_in {w : World} {base n c : Nat} {a : Option Addr} {L : List Int} (h : BOwn w base a n c L) : BytesIn w w.heap.size a L := by
  have := h.row
  rw [← h.len] at this
  exact own_bytes' this
set_option maxHeartbeats 4000000 in
theorem wopen_any {w : World} {D db mb room n : Nat} {L : Dk} (h : DiskIs w D db mb room n L) (hn : n ≤ 999000) (bs : List Int) (ez : Int) (hrd : dRead L walS.data.toList = (bs, ez)) (hw : BytesWf bs) (hl : bs.length ≤ 1000000) :
    Calls Tryz.prog 8 #[.pointer (some ⟨db, 0, none⟩)] w (OpenAt L bs ez db mb room n w) := by
  have hdlt := Nat.lt_of_lt_of_le h.dlt h.le
  have hmlt := Nat.lt_of_lt_of_le h.mlt h.le
  have hz := dRead_zero hrd
  have ez1 : ¬ ez = 1 := by rcases hz with ⟨h, _⟩ | ⟨h, _⟩ <;> omega
  have ez2 : decide (ez = 1) = false := by simpa using ez1
  have ez3 : (ez == 1) = false := by simpa using ez1
  have H := Lib.hid h
  have HZ := Lib.hid hz
  have HRD := Lib.hid hrd
  have HW := Lib.hid hw
  clear h hz hrd hw
  go_enter Tryz.func8, Tryz.ntmps8
  go_wp2_with fail
  refine (read_any H.out (by omega) walS wal_small _ HRD.out).mono ?_
  rintro e w1 ⟨a, m, c, rfl, hbo, hd1, hg1⟩
  have hm : bs.length = m := hbo.len
  have HBO := Lib.hid hbo
  have HD1 := Lib.hid hd1
  have HG1 := Lib.hid hg1
  have hcap := bown_cap hbo
  have hnil := own_none hbo.row
  have HNIL := Lib.hid hnil
  clear hbo hd1 hg1 hnil
  subst hm
  go_wp2_with fail
  refine (scan_any a c bs w1 (bown_in HBO.out) HW.out HNIL.out hcap (by omega)).mono ?_
  rintro e w2 ⟨v, frs, rfl, hfp, hfo, hb2⟩
  have hfrs := scan_frs HW.out hl hfp hfo
  obtain ⟨fa, fc, hv, hfc, hfn, hfi⟩ := hfo.lie
  subst hv
  obtain ⟨u, hu⟩ : ∃ u, (scanS bs).2.1 = u := ⟨_, rfl⟩
  obtain ⟨sp, hsp⟩ : ∃ sp, (scanS bs).2.2 = sp := ⟨_, rfl⟩
  rw [hu, hsp]
  rw [hu] at hfrs
  have HU := Lib.hid hu
  have HSP := Lib.hid hsp
  have HFP := Lib.hid hfp
  have HFI := Lib.hid hfi
  have HFRS := Lib.hid hfrs
  have hd2 := HD1.out.below hb2 HG1.out.size
  have HD2 := Lib.hid hd2
  have HG2 := Lib.hid (HG1.out.trans (grown_bel hb2 (some mb)))
  clear hu hsp hfp hfi hfrs hfo hb2 hd2
  have hmd := made_three w2 w.heap.size db HG2.out.size _ _ _ rfl rfl rfl
  cases sp with
  | true =>
    have hno : openS bs = none := by unfold openS; rw [if_pos HSP.out]
    have hb3 := hmd.below
    have HB3 := Lib.hid hb3
    have HNO := Lib.hid hno
    clear hmd hb3 hno
    go_wp2_with fail
    go_ret2
    exact openAt_no HNO.out (HD2.out.belowT HB3.out) (HG2.out.trans (grown_bel HB3.out _))
  | false =>
    have hop : openS bs = doAll WP.zero (frs.map Fr.pair) := by unfold openS; rw [if_neg (by rw [HSP.out]; simp), HFP.out]
    have hzz : w.heap.size ≤ w2.heap.size := HG2.out.size
    go_upto_region 6 with fail
    generalize ((w2.alloc (.cells #[.int .i64 0, .int .i64 0, .int .i64 0, .int .i64 0, .slice none 0 0] 80)).alloc (.cells #[.pointer (some ⟨w2.heap.size, 0, none⟩), .pointer (some ⟨db, 0, none⟩)] 45)).alloc (.cells #[.pointer (some ⟨w2.heap.size + 1, 0, none⟩)] 28) = w3 at hmd ⊢
    have HM := Lib.hid hmd
    have HOP := Lib.hid hop
    have HD3 := Lib.hid (HD2.out.belowT hmd.below)
    have HG3 := Lib.hid (HG2.out.trans (grown_bel hmd.below (some mb)))
    have HFI3 := Lib.hid (HFI.out.below hmd.below (Nat.le_refl _))
    clear hmd hop
    generalize hsb : w2.heap.size = sb at HM HFI3 hzz ⊢
    clear hsb
    go_wp2_with fail
    refine (contains_any w.heap.size (sb + 1 + 1) (sb + 1) sb db 0 frs.length fa fc WP.zero frs w3 rfl HFI3.out HFRS.out.1 HM.out.st (WP.Ok.zero 0) (by have := HFRS.out; omega)).mono ?_
    rw [← HOP.out]
    obtain ⟨r, hr⟩ : ∃ r, openS bs = r := ⟨_, rfl⟩
    rw [hr]
    have HR := Lib.hid hr
    clear hr
    intro e w4 hda
    have hmix : ∀ w', w3.grownBy w' (some sb) → w.grownBy w' (some mb) := fun w' h => grownBy_mix HG3.out h hzz
    have HMIX := Lib.hid hmix
    clear hmix
    cases r with
    | none =>
      obtain ⟨rfl, hg4⟩ := hda
      go_wp2_with fail
      go_ret2
      exact openAt_no HR.out (HD3.out.said HM.out.st.say hdlt hmlt hg4) (HMIX.out _ hg4)
    | some t =>
      obtain ⟨rfl, hs4, hg4⟩ := hda
      have hwd : WalDk w4 w.heap.size (sb + 1) sb db mb room (n + 1) t L := ⟨⟨hs4.wbk, hs4.say, by omega⟩, HD3.out.said HM.out.st.say hdlt hmlt hg4, hdlt, hmlt⟩
      have hxb := hs4.xbk
      have HXB := Lib.hid hxb
      have HWD := Lib.hid hwd
      have HG4 := Lib.hid (HMIX.out _ hg4)
      clear hs4 hg4 hwd hxb
      go_wp2_with fail
      refine (remove_any HWD.out.dk (by omega) nextS next_small _ rfl).mono ?_
      rintro e w5 ⟨rfl, hd5, hg5⟩
      have hx5 := (hg5.block (sb + 1 + 1) (Array.getElem?_eq_some_iff.1 HXB.out).1 (fun e => by injection e; omega)).trans HXB.out
      have HXB5 := Lib.hid hx5
      have HWD5 := Lib.hid (HWD.out.disked hg5 hd5)
      have HG5 := Lib.hid (HG4.out.trans hg5)
      clear hd5 hg5 hx5
      by_cases hc : ez = 0 ∧ u < bs.length
      · obtain ⟨hc0, hc1⟩ := hc
        obtain ⟨f, hf, hfa⟩ : ∃ f, dGet L walS.data.toList = some f ∧ f.all = bs := by
          rcases HZ.out with ⟨_, h⟩ | ⟨h, _⟩
          · exact h
          · omega
        have HL1 := Lib.hid (show openL1 L bs ez = (dCut (dRemove L nextS.data.toList).1 walS.data.toList (u : Nat)).1 by unfold openL1; rw [if_pos ⟨hc0, by rw [HU.out]; exact hc1⟩, HU.out])
        have hf1 : dGet (dRemove L nextS.data.toList).1 walS.data.toList = some f := by rw [dGet_removed L _ _ names_ne]; exact hf
        have HF1 := Lib.hid hf1
        have HFA := Lib.hid hfa
        clear hf hfa hf1
        subst hc0
        have i1 : (u : Int) < bs.length := by omega
        have i2 : decide ((u : Int) < bs.length) = true := by simpa using i1
        go_wp2_with fail
        refine (cut_any HWD5.out.dk (by omega) walS wal_small f HF1.out u (by rw [HFA.out]; omega) _ rfl).mono ?_
        rintro e w6 ⟨rfl, hd6, hg6⟩
        have hx6 := (hg6.block (sb + 1 + 1) (Array.getElem?_eq_some_iff.1 HXB5.out).1 (fun e => by injection e; omega)).trans HXB5.out
        have HXB6 := Lib.hid hx6
        have HWD6 := Lib.hid (HWD5.out.disked hg6 hd6)
        have HG6 := Lib.hid (HG5.out.trans hg6)
        clear hd6 hg6 hx6 i1 i2
        have c0 := Go.Joins.cell_of_block HWD6.out.wal.blk 0
        have c1 := Go.Joins.cell_of_block HWD6.out.wal.blk 1
        have x0 := Go.Joins.cell_of_block HXB6.out 0
        go_wp2_with fail
        refine (wsync_dk ⟨sb, c0⟩ c1 HWD6.out.dk (by omega)).mono ?_
        rintro e w7 ⟨rfl, hd7, hg7⟩
        have hx7 := (hg7.block (sb + 1 + 1) (Array.getElem?_eq_some_iff.1 HXB6.out).1 (fun e => by injection e; omega)).trans HXB6.out
        have x7 := Go.Joins.cell_of_block hx7 0
        have HWD7 := Lib.hid ((HWD6.out.disked hg7 hd7).mono_n (n' := n + 4) (by omega))
        have HG7 := Lib.hid (HG6.out.trans hg7)
        clear hd7 hg7 hx7 c0 c1 x0
        go_wp2_with fail
        go_ret2
        refine openAt_yes (sb + 1) sb HR.out ?_ HG7.out
        unfold openL
        rw [HL1.out]
        exact HWD7.out
      · have HL1 := Lib.hid (show openL1 L bs ez = (dRemove L nextS.data.toList).1 by unfold openL1; rw [if_neg (by rw [HU.out]; exact hc)])
        by_cases hc0 : ez = 0
        · have hc1 : ¬ u < bs.length := fun h => hc ⟨hc0, h⟩
          subst hc0
          have i1 : ¬ (u : Int) < bs.length := by omega
          have i2 : decide ((u : Int) < bs.length) = false := by simpa using i1
          clear hc hc1
          have c0 := Go.Joins.cell_of_block HWD5.out.wal.blk 0
          have c1 := Go.Joins.cell_of_block HWD5.out.wal.blk 1
          have x0 := Go.Joins.cell_of_block HXB5.out 0
          go_wp2_with fail
          refine (wsync_dk ⟨sb, c0⟩ c1 HWD5.out.dk (by omega)).mono ?_
          rintro e w7 ⟨rfl, hd7, hg7⟩
          have hx7 := (hg7.block (sb + 1 + 1) (Array.getElem?_eq_some_iff.1 HXB5.out).1 (fun e => by injection e; omega)).trans HXB5.out
          have x7 := Go.Joins.cell_of_block hx7 0
          have HWD7 := Lib.hid ((HWD5.out.disked hg7 hd7).mono_n (n' := n + 4) (by omega))
          have HG7 := Lib.hid (HG5.out.trans hg7)
          clear hd7 hg7 hx7 c0 c1 x0
          go_wp2_with fail
          go_ret2
          refine openAt_yes (sb + 1) sb HR.out ?_ HG7.out
          unfold openL
          rw [HL1.out]
          exact HWD7.out
        · have i1 : decide (ez = 0) = false := by simpa using hc0
          have i2 : (ez == 0) = false := by simpa using hc0
          clear hc
          have c0 := Go.Joins.cell_of_block HWD5.out.wal.blk 0
          have c1 := Go.Joins.cell_of_block HWD5.out.wal.blk 1
          have x0 := Go.Joins.cell_of_block HXB5.out 0
          go_wp2_with fail
          refine (wsync_dk ⟨sb, c0⟩ c1 HWD5.out.dk (by omega)).mono ?_
          rintro e w7 ⟨rfl, hd7, hg7⟩
          have hx7 := (hg7.block (sb + 1 + 1) (Array.getElem?_eq_some_iff.1 HXB5.out).1 (fun e => by injection e; omega)).trans HXB5.out
          have x7 := Go.Joins.cell_of_block hx7 0
          have HWD7 := Lib.hid ((HWD5.out.disked hg7 hd7).mono_n (n' := n + 4) (by omega))
          have HG7 := Lib.hid (HG5.out.trans hg7)
          clear hd7 hg7 hx7 c0 c1 x0
          go_wp2_with fail
          go_ret2
          refine openAt_yes (sb + 1) sb HR.out ?_ HG7.out
          unfold openL
          rw [HL1.out]
          exact HWD7.out
end Go.Proofs.YtnhnabcpkaeaaaaGreatDoor
/- frame.Put: the frames' bytes, or that some is none. Conditions: the frames' cells lie as their reading says. -/
namespace Go.Proofs.YtnhnabcpkaeaaaaGreatDoor
open Go.RowKit
set_option maxRecDepth 20000
theorem putB_snoc (fs : List Fr) (f : Fr) : putB (fs ++ [f]) = putB fs ++ frameB f.kind f.data := by simp [putB]
theorem putB_take (fs : List Fr) (k : Nat) : (putB (fs.take k)).length ≤ (putB fs).length := by
  conv => rhs; rw [← List.take_append_drop k fs]
  unfold putB
  rw [List.flatMap_append, List.length_append]
  omega
def PutPost (fs : List Fr) (w : World) (e : Ending) (w' : World) : Prop :=
  ∃ v, e = .returned (.tuple #[v, .int .i64 (putE fs)]) ∧ (putE fs = 0 → w'.ownsRow w.heap.size 5 1 v (putB fs).length ((putB fs).map bv)) ∧ (putE fs ≠ 0 → v = .slice none 0 0) ∧ Below w.heap.size w w'
theorem putF_any (ao : Option Addr) (cap : Nat) (fs : List Fr) (w : World) (hx : FramesIn w w.heap.size ao fs) (hw : ∀ f ∈ fs, FrWf f) (hl : (putB fs).length ≤ 140737488351232) (hn : fs.length ≤ 1099511627776) :
    Calls Tryz.prog 54 #[.slice ao fs.length cap] w (PutPost fs w) := by
  have HX := Lib.hid hx
  clear hx
  go_enter Tryz.func54, Tryz.ntmps54
  go_wp2_with fail
  have hbuf0 : BufF (w.alloc (.cells #[.slice none 0 0, .int .i64 0, .int .i8 0] 142)) w.heap.size w.heap.size [] := LibA.zero_isBuffer (Nat.le_refl _) (lr := 0) ⟨_, heap_alloc_new w _, rfl, rfl, rfl, fun i hi => by rcases hi with hi | hi; omega; exact Array.getElem?_eq_none (by simpa using hi)⟩
  have hb0 := (Below.refl w.heap.size w).alloc (Nat.le_refl _) (.cells #[.slice none 0 0, .int .i64 0, .int .i8 0] 142)
  have hz0 : (w.alloc (.cells #[.slice none 0 0, .int .i64 0, .int .i8 0] 142)).heap.size = w.heap.size + 1 := by simp
  generalize w.alloc (.cells #[.slice none 0 0, .int .i64 0, .int .i8 0] 142) = w0 at hbuf0 hb0 hz0 ⊢
  go_loopw [6, 9] (fun _ i wr => ∃ k : Nat, k ≤ fs.length ∧ i = .int .i64 k ∧ (∀ f ∈ fs.take k, okF f) ∧ BufF wr w.heap.size w.heap.size (putB (fs.take k)) ∧ Below w.heap.size w wr) (fun _ i _ => fs.length - (intOf i).toNat)
  case atStart => exact ⟨0, by omega, rfl, by simp, hbuf0, hb0⟩
  case round =>
    obtain ⟨k, hk, rfl, hok, hbuf, hbel⟩ := hrel
    have HOK := Lib.hid hok
    clear hok hbuf0 hb0
    have hs := hbel.size
    by_cases hlt : k < fs.length
    · rcases HX.out with h0 | ⟨bb, off, rfl, hb, hc⟩
      · rw [h0] at hlt; simp at hlt
      obtain ⟨c0, c1, hD⟩ := hc k hlt
      rw [← hbel.cell (p := ⟨bb, _, none⟩) hb] at c0 c1
      clear hc
      have hfw := hw (fs.getD k Fr.zero) (by simp [List.getD, List.getElem?_eq_getElem hlt])
      have HE := Lib.hid (putE_at hlt HOK.out)
      have htk : fs.take (k + 1) = fs.take k ++ [fs.getD k Fr.zero] := by rw [List.take_succ_eq_append_getElem hlt]; simp [List.getD, List.getElem?_eq_getElem hlt]
      have HT := Lib.hid htk
      clear htk
      obtain ⟨f, hfe⟩ : ∃ f, f = fs.getD k Fr.zero := ⟨_, rfl⟩
      rw [← hfe] at c0 c1 hD hfw HE HT
      clear hfe
      obtain ⟨fk, fa, fc, fd⟩ := f
      obtain ⟨w1, hfa, hfd, hfl⟩ := hfw
      dsimp only at c0 c1 hD w1 hfa hfd hfl
      have i1 : (k : Int) < fs.length := by omega
      have hbig : (putB (fs.take (k + 1))).length ≤ (putB fs).length := putB_take fs (k + 1)
      rw [HT.out, putB_snoc, List.length_append, frameB_len] at hbig
      dsimp only at hbig
      have hbA := hbel.alloc hs (.cells #[.int .i64 fk, .slice fa fd.length fc] 83)
      by_cases hkk : fk < 0
      · have hE := HE.out (by unfold okF; dsimp only; omega)
        rw [if_pos (by dsimp only; omega)] at hE
        have HE' := Lib.hid hE
        clear hE
        go_wp2_with fail
        go_ret2
        exact ⟨_, by rw [HE'.out]; rfl, by rw [HE'.out]; omega, fun _ => rfl, hbA⟩
      · by_cases hkk2 : 255 < fk
        · have hE := HE.out (by unfold okF; dsimp only; omega)
          rw [if_pos (by dsimp only; omega)] at hE
          have HE' := Lib.hid hE
          clear hE
          go_wp2_with fail
          go_ret2
          exact ⟨_, by rw [HE'.out]; rfl, by rw [HE'.out]; omega, fun _ => rfl, hbA⟩
        · by_cases hlen : 1048576 < fd.length
          · have hE := HE.out (by unfold okF; dsimp only; omega)
            rw [if_neg (by dsimp only; omega)] at hE
            have HE' := Lib.hid hE
            clear hE
            have i2 : (1048576 : Int) < fd.length := by omega
            go_wp2_with fail
            go_ret2
            exact ⟨_, by rw [HE'.out]; rfl, by rw [HE'.out]; omega, fun _ => rfl, hbA⟩
          · have i2 : ¬ (1048576 : Int) < fd.length := by omega
            have hbufA : BufF (wr.alloc (.cells #[.int .i64 fk, .slice fa fd.length fc] 83)) w.heap.size w.heap.size (putB (fs.take k)) := LibA.IsBuffer.alloc hbuf _
            have hDA := hD.below hbA (Nat.le_refl _)
            have hsA := hbA.size
            go_wp2_with fail
            refine (frame_any w.heap.size w.heap.size _ fk fa fc fd _ (by omega) hDA hfd hfa hbufA hsA (by omega) (by omega)).mono ?_
            rintro e w3 ⟨rfl, hb3, hB3, _⟩
            go_wp2_with fail
            go_roundw
            case rel => exact ⟨k + 1, by omega, by go_num, by rw [HT.out]; intro f hf; rcases List.mem_append.1 hf with hf | hf; exact HOK.out f hf; rw [List.mem_singleton.1 hf]; unfold okF; dsimp only; omega, by rw [HT.out, putB_snoc]; exact hb3, hbA.trans hB3⟩
            case measure => simp [intOf]; omega
    · obtain rfl : k = fs.length := by omega
      have hok := HOK.out
      rw [List.take_length] at hok hbuf
      have H0 := Lib.hid (putE_ok hok)
      clear hok
      go_wp2_with fail
      refine (bytes_ofF _ _ _ _ hbuf).mono ?_
      rintro e w2 ⟨v, rfl, hown2, hb2⟩
      have hao2 := fun ao2 n cap2 (h : v = .slice ao2 n cap2) => own_none (h ▸ hown2)
      obtain ⟨ao2, cap2, hv2, hD2⟩ := own_bytes hown2
      have hao3 := hao2 _ _ _ hv2
      subst hv2
      have hbel2 := hbel.trans (hb2.mono hs)
      clear hown2 hao2
      have hs2 := hbel2.size
      go_wp2_with fail
      refine (clone_anyF ao2 cap2 (putB fs) w2 _ hD2 (Nat.le_refl _) hao3 (by omega)).mono ?_
      rintro e w3 ⟨v3, rfl, hown3, hb3⟩
      have hown4 := Go.Joins.ownsRow_le hown3 hs2
      have hbel3 := hbel2.trans (hb3.mono hs2)
      clear hown3
      go_wp2_with fail
      go_ret2
      exact ⟨v3, by rw [H0.out]; rfl, fun _ => hown4, fun h => absurd H0.out h, hbel3⟩
end Go.Proofs.YtnhnabcpkaeaaaaGreatDoor
/- Frames are put behind the file's, and done. Conditions: they lie so, in memory that is newer than the wal. -/
namespace Go.Proofs.YtnhnabcpkaeaaaaGreatDoor
open Go.RowKit
set_option maxRecDepth 20000
/-- Frames in memory that is not older than lo. -/
def FramesHi (w : World) (lo : Nat) (ao : Option Addr) (fs : List Fr) : Prop :=
  fs = [] ∨ ∃ b off, ao = some ⟨b, off, none⟩ ∧ lo ≤ b ∧ b < w.heap.size ∧ ∀ i, i < fs.length →
    w.cell? ⟨b, off + i * 2, none⟩ = some (.int .i64 (fs.getD i Fr.zero).kind) ∧
    w.cell? ⟨b, off + i * 2 + 1, none⟩ = some (.slice (fs.getD i Fr.zero).ao (fs.getD i Fr.zero).data.length (fs.getD i Fr.zero).cap) ∧
    BytesIn w w.heap.size (fs.getD i Fr.zero).ao (fs.getD i Fr.zero).data ∧ ∀ ad, (fs.getD i Fr.zero).ao = some ad → lo ≤ ad.block
theorem FramesHi.toIn {w : World} {lo : Nat} {ao : Option Addr} {fs : List Fr} (h : FramesHi w lo ao fs) : FramesIn w w.heap.size ao fs := by
  rcases h with h | ⟨b, off, h1, _, h2, h3⟩
  · exact Or.inl h
  · exact Or.inr ⟨b, off, h1, h2, fun i hi => ⟨(h3 i hi).1, (h3 i hi).2.1, (h3 i hi).2.2.1⟩⟩
theorem bytes_grown {w w' : World} {g lo : Nat} {ao : Option Addr} {xs : List Int} (h : BytesIn w w.heap.size ao xs) (hlo : ∀ ad, ao = some ad → lo ≤ ad.block) (hg : w.grownBy w' (some g)) (hlt : g < lo) : BytesIn w' w'.heap.size ao xs := by
  rcases h with h | ⟨b, off, h1, h2, h3⟩
  · exact Or.inl h
  · have hb := hlo _ h1
    refine Or.inr ⟨b, off, h1, Nat.lt_of_lt_of_le h2 hg.size, fun i hi => ?_⟩
    rw [cell_block (hg.block b h2 (by intro e; injection e with e; dsimp only at hb; omega))]
    exact h3 i hi
theorem FramesHi.grown {w w' : World} {lo g : Nat} {ao : Option Addr} {fs : List Fr} (h : FramesHi w lo ao fs) (hg : w.grownBy w' (some g)) (hlt : g < lo) : FramesHi w' lo ao fs := by
  rcases h with h | ⟨b, off, h1, hlo, h2, h3⟩
  · exact Or.inl h
  · have hk := hg.block b h2 (by intro e; injection e; omega)
    exact Or.inr ⟨b, off, h1, hlo, Nat.lt_of_lt_of_le h2 hg.size, fun i hi => ⟨(cell_block hk).trans (h3 i hi).1, (cell_block hk).trans (h3 i hi).2.1, bytes_grown (h3 i hi).2.2.1 (h3 i hi).2.2.2 hg hlt, (h3 i hi).2.2.2⟩⟩
/-- Frames are done, those that can be. -/
def doAny (s : WP) (l : List (Int × List Int)) : WP := l.foldl (fun s p => (doW s p.1 p.2).getD s) s
theorem doAny_snoc (s : WP) (l : List (Int × List Int)) (p : Int × List Int) : doAny s (l ++ [p]) = (doW (doAny s l) p.1 p.2).getD (doAny s l) := by
  unfold doAny
  rw [List.foldl_append]
  rfl
/-- What put tells. -/
def putW (room : Nat) (s : WP) (L : Dk) (fs : List Fr) : WP × Dk × Int :=
  if putE fs ≠ 0 then (s, L, putE fs) else
  let r := dAppend room L walS.data.toList (putB fs)
  if r.2 ≠ 0 then (s, r.1, r.2) else (doAny s (fs.map Fr.pair), r.1, 0)
def WalTold (r : WP × Dk × Int) (B wb sb db mb room n : Nat) (w : World) (e : Ending) (w' : World) : Prop :=
  e = .returned (.int .i64 r.2.2) ∧ WalDk w' B wb sb db mb room n r.1 r.2.1 ∧ Below mb w w'
theorem four_wf {n : Nat} (h : n < 4294967296) : BytesWf (fourB n) := by
  intro x hx
  simp only [fourB, List.mem_cons, List.not_mem_nil, or_false] at hx
  omega
theorem frameB_wf {k : Int} {d : List Int} (hk : 0 ≤ k ∧ k ≤ 255) (hd : BytesWf d) (hl : d.length < 4294967296) : BytesWf (frameB k d) := by
  intro x hx
  unfold frameB at hx
  rcases List.mem_append.1 hx with hx | hx
  · rcases List.mem_append.1 hx with hx | hx
    · rcases List.mem_append.1 hx with hx | hx
      · exact four_wf hl x hx
      · rw [List.mem_singleton.1 hx]; omega
    · refine four_wf (sumS_lt ?_) x hx
      intro y hy
      rcases List.mem_cons.1 hy with rfl | hy
      · omega
      · exact hd y hy
  · exact hd x hx
theorem putB_wf {fs : List Fr} (hok : ∀ f ∈ fs, okF f) (hw : ∀ f ∈ fs, BytesWf f.data) : BytesWf (putB fs) := by
  intro x hx
  unfold putB at hx
  obtain ⟨f, hf, hx⟩ := List.mem_flatMap.1 hx
  have h := hok f hf
  unfold okF at h
  exact frameB_wf ⟨h.1, h.2.1⟩ (hw f hf) (by omega) x hx
theorem putE_zero {fs : List Fr} (h : putE fs = 0) : ∀ f ∈ fs, okF f := by
  induction fs with
  | nil => intro f hf; cases hf
  | cons g r ih =>
    unfold putE at h
    split at h
    · omega
    · split at h
      · omega
      · intro f hf
        rcases List.mem_cons.1 hf with rfl | hf
        · unfold okF; omega
        · exact ih h f hf
theorem bytesWf_put {fs : List Fr} (hw : ∀ f ∈ fs, FrWf f) (hok : putE fs = 0) : BytesWf (putB fs) := putB_wf (putE_zero hok) fun f hf => (hw f hf).2.2.1
set_option maxHeartbeats 2000000 in
theorem wput_any {w : World} {B wb sb db mb room n q lo : Nat} {s : WP} {L : Dk} (h : WalDk w B wb sb db mb room n s L) (hn : n ≤ 999990) (hok : s.Ok q) (ao : Option Addr) (cap m : Nat) (fs : List Fr) (hm : fs.length = m) (hx : FramesHi w lo ao fs) (hlo : sb < lo ∧ mb < sb) (hw : ∀ f ∈ fs, FrWf f) (hq : q + m ≤ 1048576) (hl : (putB fs).length ≤ 1000000000) (r : WP × Dk × Int) (hr : putW room s L fs = r) :
    Calls Tryz.prog 46 #[.pointer (some ⟨wb, 0, none⟩), .slice ao m cap] w (WalTold r B wb sb db mb room (n + 1) w) := by
  subst hm
  obtain ⟨hl1, hl2⟩ := hlo
  have c0 := Go.Joins.cell_of_block h.wal.blk 0
  have c1 := Go.Joins.cell_of_block h.wal.blk 1
  have hmz : mb ≤ w.heap.size := Nat.le_of_lt (Nat.lt_of_lt_of_le h.dk.mlt h.dk.le)
  have H := Lib.hid h
  have HX := Lib.hid hx
  have HW := Lib.hid hw
  have HOK := Lib.hid hok
  have HR := Lib.hid hr
  clear h hx hw hok hr
  go_enter Tryz.func46, Tryz.ntmps46
  go_wp2_with fail
  refine (putF_any ao cap fs w HX.out.toIn HW.out (by omega) (by omega)).mono ?_
  rintro e w1 ⟨v, rfl, hv0, hv1, hb1⟩
  have h1 := H.out.below hb1
  have H1 := Lib.hid h1
  have c1' := Go.Joins.cell_of_block h1.wal.blk 1
  have HB1 := Lib.hid hb1
  clear h1 hb1 c1
  by_cases hpe : putE fs = 0
  · have ho := hv0 hpe
    obtain ⟨a, c, hv⟩ := row_slice ho
    subst hv
    have HO := Lib.hid ho
    have HPE := Lib.hid hpe
    rw [hpe]
    clear hv0 hv1 ho hpe
    obtain ⟨⟨L2, ea⟩, hap⟩ : ∃ q, dAppend room L walS.data.toList (putB fs) = q := ⟨_, rfl⟩
    have HAP := Lib.hid hap
    clear hap
    go_wp2_with fail
    refine (append_any H1.out.dk (by omega) walS wal_named a _ c (putB fs) rfl (own_bytes' HO.out) (bytesWf_put HW.out HPE.out) (own_none HO.out) hl _ HAP.out).mono ?_
    rintro e w2 ⟨rfl, hd2, hg2⟩
    dsimp only at hd2 ⊢
    have h2 := H1.out.disked hg2 hd2
    have H2 := Lib.hid h2
    have HX2 := Lib.hid ((HX.out.grown (grown_bel HB1.out (some sb)) hl1).grown hg2 (by omega))
    have hbm : Below mb w w2 := (HB1.out.mono hmz).trans (grown_atW hg2 (Nat.le_trans hmz HB1.out.size))
    have HBM := Lib.hid hbm
    clear h2 hd2 hg2 hbm c1'
    by_cases hea : ea = 0
    · have hrr : r = (doAny s (fs.map Fr.pair), L2, 0) := by rw [← HR.out]; unfold putW; rw [if_neg (by rw [HPE.out]; simp), HAP.out]; dsimp only; rw [if_neg (by rw [hea]; simp)]
      subst hea
      have HRR := Lib.hid hrr
      clear hrr
      go_wp2_with fail
      clear c0
      go_loopw [9, 29] (fun _ i wr => ∃ k : Nat, k ≤ fs.length ∧ i = .int .i64 k ∧ WalDk wr B wb sb db mb room (n + 1) (doAny s ((fs.map Fr.pair).take k)) L2 ∧ (doAny s ((fs.map Fr.pair).take k)).Ok (q + k) ∧ FramesHi wr lo ao fs ∧ Below mb w wr) (fun _ i _ => fs.length - (intOf i).toNat)
      case atStart => exact ⟨0, by omega, rfl, H2.out, HOK.out, HX2.out, HBM.out⟩
      case round =>
        clear HBM HX2 H2
        obtain ⟨k, hk, rfl, hwd, hok, hfh, hbel⟩ := hrel
        have HWD := Lib.hid hwd
        have HOKK := Lib.hid hok
        have HFH := Lib.hid hfh
        have HBEL := Lib.hid hbel
        clear hwd hok hfh hbel
        by_cases hlt : k < fs.length
        · rcases HFH.out with h0 | ⟨bb, off, rfl, hlob, hb, hc⟩
          · rw [h0] at hlt; simp at hlt
          obtain ⟨c0, c1, hD, hDlo⟩ := hc k hlt
          have hfk : fs[k]? = some (fs.getD k Fr.zero) := by simp [List.getD, List.getElem?_eq_getElem hlt]
          have hfw := HW.out (fs.getD k Fr.zero) (List.mem_of_getElem? hfk)
          obtain ⟨f, hfe⟩ : ∃ f, f = fs.getD k Fr.zero := ⟨_, rfl⟩
          rw [← hfe] at c0 c1 hD hfw hfk hDlo
          clear hfe hc
          have hpk : (fs.map Fr.pair)[k]? = some f.pair := by rw [List.getElem?_map, hfk]; rfl
          obtain ⟨sk, hsk⟩ : ∃ sk, doAny s ((fs.map Fr.pair).take k) = sk := ⟨_, rfl⟩
          have hnext : doAny s ((fs.map Fr.pair).take (k + 1)) = (doW sk f.kind f.data).getD sk := by
            obtain ⟨hkl, hkg⟩ := List.getElem?_eq_some_iff.1 hpk
            rw [List.take_succ_eq_append_getElem hkl, doAny_snoc, hsk, hkg]
            rfl
          have hwd := HWD.out
          have hok := HOKK.out
          rw [hsk] at hwd hok
          have HWD := Lib.hid hwd
          have HOKK := Lib.hid hok
          have hokn : ((doW sk f.kind f.data).getD sk).Ok (q + (k + 1)) := by
            cases hq : doW sk f.kind f.data with
            | none => exact hok.mono (by omega)
            | some t => exact doW_ok hok hfw.2.2.1 (by have := (putE_zero HPE.out f (List.mem_of_getElem? hfk)).2.2; omega) hq
          have HNEXT := Lib.hid hnext
          have HOKN := Lib.hid hokn
          have HD := Lib.hid hD
          have HDL := Lib.hid hDlo
          have HFW := Lib.hid hfw
          clear hfk hpk hnext hokn hD hfw hwd hok hsk hDlo
          obtain ⟨fk, fa, fc, fd⟩ := f
          dsimp only at c0 c1 HNEXT HOKN HD HDL
          have i1 : (k : Int) < fs.length := by omega
          have hb4 := (Below.refl wr.heap.size wr).alloc (Nat.le_refl _) (.cells #[.int .i64 fk, .slice fa fd.length fc] 83)
          have hk4 := heap_alloc_new wr (.cells #[.int .i64 fk, .slice fa fd.length fc] 83)
          go_upto_region 10 with fail
          generalize wr.alloc (.cells #[.int .i64 fk, .slice fa fd.length fc] 83) = w4 at hb4 hk4 ⊢
          have h4 := HWD.out.below hb4
          have hS : w4.cell? ⟨wb, 0, none⟩ = some (.pointer (some ⟨sb, 0, none⟩)) ∧ w4.cell? ⟨wr.heap.size, 0, none⟩ = some (.int .i64 fk) ∧ w4.cell? ⟨wr.heap.size, 1, none⟩ = some (.slice fa fd.length fc) :=
            ⟨Go.Joins.cell_of_block h4.wal.blk 0, Go.Joins.cell_of_block hk4 0, Go.Joins.cell_of_block hk4 1⟩
          have h5 := h4.below (Below.refl w4.heap.size w4).drew
          have hb5 : Below wr.heap.size wr w4.drew := hb4.drew
          have hk9 : w4.drew.heap[wr.heap.size]? = some (.cells #[.int .i64 fk, .slice fa fd.length fc] 83 (0, 0)) := hk4
          have hwne := h5.wal.ne
          have hwlt := h5.wal.lt
          have hzne : wr.heap.size ≠ sb := fun e => by have := HWD.out.wal.say.lt; omega
          have H5 := Lib.hid h5
          have HB5 := Lib.hid hb5
          have HK9 := Lib.hid hk9
          clear h4 h5 hb4 hb5 hk4 hk9 c0 c1
          refine heldS_begin (fun w' => w'.cell? ⟨wb, 0, none⟩ = some (.pointer (some ⟨sb, 0, none⟩)) ∧ w'.cell? ⟨wr.heap.size, 0, none⟩ = some (.int .i64 fk) ∧ w'.cell? ⟨wr.heap.size, 1, none⟩ = some (.slice fa fd.length fc)) (by kernel_rfl) (hS) ?_
          intro hS0
          (first | (refine takeS_no 0 rfl (by kernel_rfl) (by kernel_rfl) (by kernel_rfl) (fun _ _ _ h => h) (by rfl) (by assumption) ?_) | (refine takeS_yes (v := ?_) 0 rfl (by kernel_rfl) (by kernel_rfl) (by kernel_rfl) (fun _ _ _ h => h) (by rfl) (by assumption) ?_ ?_; rotate_left; focus (intro wS hSw; obtain ⟨q0, q1, q2⟩ := hSw; go_simp; first | done | with_reducible rfl)))
          (try simp only [Act.put, List.setIfInBounds_toArray, List.set_cons_zero, List.set_cons_succ])
          (first | (refine takeS_no 1 rfl (by kernel_rfl) (by kernel_rfl) (by kernel_rfl) (fun _ _ _ h => h) (by rfl) (by assumption) ?_) | (refine takeS_yes (v := ?_) 1 rfl (by kernel_rfl) (by kernel_rfl) (by kernel_rfl) (fun _ _ _ h => h) (by rfl) (by assumption) ?_ ?_; rotate_left; focus (intro wS hSw; obtain ⟨q0, q1, q2⟩ := hSw; go_simp; first | done | with_reducible rfl)))
          (try simp only [Act.put, List.setIfInBounds_toArray, List.set_cons_zero, List.set_cons_succ])
          (first | (refine takeS_no 2 rfl (by kernel_rfl) (by kernel_rfl) (by kernel_rfl) (fun _ _ _ h => h) (by rfl) (by assumption) ?_) | (refine takeS_yes (v := ?_) 2 rfl (by kernel_rfl) (by kernel_rfl) (by kernel_rfl) (fun _ _ _ h => h) (by rfl) (by assumption) ?_ ?_; rotate_left; focus (intro wS hSw; obtain ⟨q0, q1, q2⟩ := hSw; go_simp; first | done | with_reducible rfl)))
          (try simp only [Act.put, List.setIfInBounds_toArray, List.set_cons_zero, List.set_cons_succ])
          (first | (refine takeS_no 3 rfl (by kernel_rfl) (by kernel_rfl) (by kernel_rfl) (fun _ _ _ h => h) (by rfl) (by assumption) ?_) | (refine takeS_yes (v := ?_) 3 rfl (by kernel_rfl) (by kernel_rfl) (by kernel_rfl) (fun _ _ _ h => h) (by rfl) (by assumption) ?_ ?_; rotate_left; focus (intro wS hSw; obtain ⟨q0, q1, q2⟩ := hSw; go_simp; first | done | with_reducible rfl)))
          (try simp only [Act.put, List.setIfInBounds_toArray, List.set_cons_zero, List.set_cons_succ])
          (first | (refine takeS_no 4 rfl (by kernel_rfl) (by kernel_rfl) (by kernel_rfl) (fun _ _ _ h => h) (by rfl) (by assumption) ?_) | (refine takeS_yes (v := ?_) 4 rfl (by kernel_rfl) (by kernel_rfl) (by kernel_rfl) (fun _ _ _ h => h) (by rfl) (by assumption) ?_ ?_; rotate_left; focus (intro wS hSw; obtain ⟨q0, q1, q2⟩ := hSw; go_simp; first | done | with_reducible rfl)))
          (try simp only [Act.put, List.setIfInBounds_toArray, List.set_cons_zero, List.set_cons_succ])
          refine takeS_alone 5 rfl (by kernel_rfl) (by rfl) (fun K hK => ?_)
          go_simp
          (refine (wdo_any B sb (q + k) fd.length fc sk fk fa fd w4.drew H5.out.wal.say HOKK.out (by omega) rfl ((HD.out.below HB5.out (Nat.le_refl _)).mono HB5.out.size) HFW.out.2.2.1 HFW.out.2.1 HFW.out.2.2.2 HFW.out.1).mono ?_; intro e w5 hda; have hg5 : w4.drew.grownBy w5 (some sb) := (by { cases hq : doW sk fk fd with | none => rw [hq] at hda; exact grown_bel hda.2 _ | some t => rw [hq] at hda; exact hda.2.2 }); have h6 : WalDk w5 B wb sb db mb room (n + 1) ((doW sk fk fd).getD sk) L2 := (by { cases hq : doW sk fk fd with | none => rw [hq] at hda; exact H5.out.below hda.2 | some t => rw [hq] at hda; exact H5.out.said hda.2.2 hda.2.1 }); have hbq : ∃ bq, e = .returned (.bool bq) := (by { cases hq : doW sk fk fd with | none => rw [hq] at hda; exact ⟨_, hda.1⟩ | some t => rw [hq] at hda; exact ⟨_, hda.1⟩ }); obtain ⟨bq, rfl⟩ := hbq; have hS5 := And.intro ((cell_block (hg5.block wb hwlt (fun e => hwne (Option.some.inj e)))).trans hS0.1) (And.intro ((cell_block (hg5.block wr.heap.size (Array.getElem?_eq_some_iff.1 HK9.out).1 (fun e => hzne (Option.some.inj e)))).trans hS0.2.1) ((cell_block (hg5.block wr.heap.size (Array.getElem?_eq_some_iff.1 HK9.out).1 (fun e => hzne (Option.some.inj e)))).trans hS0.2.2)); have H6 := Lib.hid h6; have HG5 := Lib.hid hg5; clear hda h6 hg5)
          refine hK.out _ _ (by assumption) ?_
          clear hK K
          (try simp only [Act.put, List.setIfInBounds_toArray, List.set_cons_zero, List.set_cons_succ])
          refine wpAnyH_done (by kernel_rfl) ?_ _
          go_wp2_with fail
          go_roundw
          case rel => exact ⟨k + 1, by omega, by go_num, by rw [HNEXT.out]; exact H6.out, by rw [HNEXT.out]; exact HOKN.out, (HFH.out.grown (grown_bel HB5.out (some sb)) hl1).grown HG5.out hl1, HBEL.out.trans ((HB5.out.mono (Nat.le_trans hmz HBEL.out.size)).trans ((grown_atW HG5.out (Nat.le_trans (Nat.le_of_lt HWD.out.wal.say.lt) HB5.out.size)).mono (by omega)))⟩
          case measure => simp [intOf]; omega
        · obtain rfl : k = fs.length := by omega
          have hwd := HWD.out
          rw [List.take_of_length_le (by simp)] at hwd
          have HWD := Lib.hid hwd
          clear hwd
          go_wp2_with fail
          go_ret
          rw [HRR.out]
          exact ⟨rfl, HWD.out, HBEL.out⟩
    · have hrr : r = (s, L2, ea) := by rw [← HR.out]; unfold putW; rw [if_neg (by rw [HPE.out]; simp), HAP.out]; dsimp only; rw [if_pos hea]
      have e1 : decide (ea = 0) = false := by simpa using hea
      have e2 : (ea == 0) = false := by simpa using hea
      have e3 : (ea != 0) = true := by simpa using hea
      have HRR := Lib.hid hrr
      clear hrr
      go_wp2_with fail
      go_ret
      rw [HRR.out]
      exact ⟨rfl, H2.out, HBM.out⟩
  · have hrr : r = (s, L, putE fs) := by rw [← HR.out]; unfold putW; rw [if_pos hpe]
    have e1 : decide (putE fs = 0) = false := by simpa using hpe
    have e2 : (putE fs == 0) = false := by simpa using hpe
    have e3 : (putE fs != 0) = true := by simpa using hpe
    have HRR := Lib.hid hrr
    have hvv := hv1 hpe
    subst hvv
    clear hrr hv0 hv1
    go_wp2_with fail
    go_ret
    rw [HRR.out]
    exact ⟨rfl, H1.out.mono_n (by omega), HB1.out.mono hmz⟩
end Go.Proofs.YtnhnabcpkaeaaaaGreatDoor
