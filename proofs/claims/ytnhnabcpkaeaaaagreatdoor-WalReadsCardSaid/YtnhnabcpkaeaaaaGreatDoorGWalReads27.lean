/- The law WalReads, walked. Conditions: the bytes lie as they read. -/
import Derived.Test.YtnhnabcpkaeaaaaGreatDoorGWalReads26
import Derived.Test.YtnhnabcpkaeaaaaGreatDoorGWalReads3
set_option linter.unusedVariables false
set_option linter.unusedSimpArgs false
namespace Go.Proofs.YtnhnabcpkaeaaaaGreatDoor
open Go.RowKit
set_option maxRecDepth 20000
theorem dGet_removedSelf (L : Dk) (k : List UInt8) : dGet (dRemove L k).1 k = none := by
  unfold dRemove
  cases hg : dGet L k with
  | none => exact hg
  | some f => show dGet (dDel L k) k = none; rw [dGet_del, if_pos rfl]
theorem dRead_some {L : Dk} {k : List UInt8} {f : Fi} (h : dGet L k = some f) : dRead L k = (f.all, 0) := by unfold dRead; rw [h]
theorem dRead_none {L : Dk} {k : List UInt8} (h : dGet L k = none) : dRead L k = ([], 6) := by unfold dRead; rw [h]
theorem openL_read {L : Dk} {bs : List Int} {f : Fi} (hg : dGet L walS.data.toList = some f) (hf : f.all = bs) (hu : (scanS bs).2.1 ≤ bs.length) :
    dRead (openL L bs 0) walS.data.toList = (bs.take (scanS bs).2.1, 0) ∧ dRead (openL L bs 0) nextS.data.toList = ([], 6) := by
  have g1 : dGet (dRemove L nextS.data.toList).1 walS.data.toList = some f := by rw [dGet_removed L _ _ names_ne]; exact hg
  have n1 := dGet_removedSelf L nextS.data.toList
  have hne : nextS.data.toList ≠ walS.data.toList := names_ne
  unfold openL openL1
  by_cases hc : (0 : Int) = 0 ∧ (scanS bs).2.1 < bs.length
  · rw [if_pos hc, dCut_eq g1 (by rw [hf]; exact hu)]
    have g2 : dGet (dPut (dRemove L nextS.data.toList).1 walS.data.toList ⟨f.all.take (scanS bs).2.1, []⟩) walS.data.toList = some ⟨f.all.take (scanS bs).2.1, []⟩ := by rw [dGet_put, if_pos rfl]
    rw [dSync_eq g2]
    refine ⟨?_, dRead_none ?_⟩
    · rw [dRead_some (by rw [dGet_put, if_pos rfl])]
      show ((f.all.take _ ++ []) ++ [], _) = _
      rw [List.append_nil, List.append_nil, hf]
    · rw [dGet_put, if_neg hne, dGet_put, if_neg hne]
      exact n1
  · rw [if_neg hc, dSync_eq g1]
    refine ⟨?_, dRead_none ?_⟩
    · rw [dRead_some (by rw [dGet_put, if_pos rfl])]
      show (f.all ++ [], _) = _
      rw [List.append_nil, hf, List.take_of_length_le (by omega)]
    · rw [dGet_put, if_neg hne]
      exact n1
def lWM (b more : List Int) : Dk := dPut [(walS.data.toList, ⟨[], b⟩)] nextS.data.toList ⟨[], more⟩
theorem lWM_wal (b more : List Int) : dGet (lWM b more) walS.data.toList = some ⟨[], b⟩ := by
  unfold lWM
  rw [dGet_put, if_neg (Ne.symm names_ne)]
  unfold dGet
  rw [if_pos rfl]
theorem dAppend_next (b more : List Int) (h : b.length + more.length ≤ 1048576) : dAppend 1048576 [(walS.data.toList, ⟨[], b⟩)] nextS.data.toList more = (lWM b more, 0) := by
  have hg : dGet [(walS.data.toList, (⟨[], b⟩ : Fi))] nextS.data.toList = none := by
    unfold dGet
    rw [if_neg (Ne.symm names_ne)]
    rfl
  have hu : dUsed [(walS.data.toList, (⟨[], b⟩ : Fi))] = b.length := by simp [dUsed, Fi.all]
  have h3 : (Fi.none).all.length = 0 := rfl
  unfold dAppend
  dsimp only
  rw [hg, hu, Option.getD_none, h3, if_neg (by rw [next_named.good]; simp), if_neg (by omega), if_neg (by omega)]
  rfl
theorem openS_none {bs : List Int} (h : openS bs = none) : doAll WP.zero (scanS bs).1 = none ∨ (scanS bs).2.2 = true := by
  unfold openS at h
  split at h
  · exact Or.inr ‹_›
  · exact Or.inl h
theorem openS_some {bs : List Int} {t : WP} (h : openS bs = some t) : doAll WP.zero (scanS bs).1 = some t ∧ (scanS bs).2.2 = false := by
  unfold openS at h
  split at h
  · cases h
  · rename_i hc
    exact ⟨h, by simpa using hc⟩
theorem RSayIs.grown2 {w w' : World} {B sb g : Nat} {s : WP} (h : RSayIs w B sb s) (hg : w.grownBy w' (some g)) (hlt : g < B) : RSayIs w' B sb s := by
  obtain ⟨v, es, hs, hm⟩ := h
  exact ⟨v, es, ⟨(hg.block sb hs.lt (by have := hs.low; intro e; injection e; omega)).trans hs.blk, hs.ens.grown2 hg hlt, hs.low⟩, hm⟩
theorem bown_grown {w w' : World} {B g n c : Nat} {a : Option Addr} {xs : List Int} (h : BOwn w B a n c xs) (hg : w.grownBy w' (some g)) (hlt : g < B) : BOwn w' B a n c xs :=
  ⟨h.len, h.row.kept hg (by
    cases hq : (Value.slice a n c).ownBlock with
    | none => exact Or.inl rfl
    | some q => exact Or.inr fun e => by have := (World.ownsRow.lt h.row q hq).1; injection e with e; omega)⟩
theorem openS_ok {bs : List Int} {t : WP} (hw : BytesWf bs) (hl : bs.length ≤ 1000000) (h : openS bs = some t) : t.Ok bs.length ∧ (scanS bs).2.1 ≤ bs.length := by
  obtain ⟨h1, h2, h3⟩ := scanS_put (b := bs) hw
  have h4 := putP_few (scanS bs).1
  rw [h2, List.length_take] at h4
  have h5 := doAll_ok (WP.Ok.zero 0) (fun p hp => ⟨(h3 p hp).2.2.2, by have := (h3 p hp).2.2.1; omega⟩) (openS_some h).1
  exact ⟨h5.mono (by omega), h1⟩
set_option maxHeartbeats 8000000 in
theorem walk_WalReads (W : World) (a0 : Option Addr) (n0 c0 : Nat) (bs : List Int) (e0 : bs.length = n0) (x0 : BytesIn W W.heap.size a0 bs) (w0 : BytesWf bs) (nil0 : a0 = none → c0 = 0) (h0 : n0 ≤ c0) (_ : c0 ≤ maxLen) (z0 : n0 * Tryz.prog.bytesOf 5 ≤ 140737488351232)
    (a1 : Option Addr) (n1 c1 : Nat) (more : List Int) (e1 : more.length = n1) (x1 : BytesIn W W.heap.size a1 more) (w1 : BytesWf more) (nil1 : a1 = none → c1 = 0) (h1 : n1 ≤ c1) (_ : c1 ≤ maxLen) (z1 : n1 * Tryz.prog.bytesOf 5 ≤ 140737488351232) :
    Calls Tryz.prog 3 #[.slice a0 n0 c0, .slice a1 n1 c1] W fun e w' => e = .returned (.bool true) ∧ Below W.heap.size W w' := by
  have hby : Tryz.prog.bytesOf 5 = 1 := by kernel_rfl
  rw [hby, Nat.mul_one] at z0 z1
  clear hby
  have HX0 := Lib.hid x0
  have HX1 := Lib.hid x1
  have HW0 := Lib.hid w0
  have HW1 := Lib.hid w1
  have HN0 := Lib.hid nil0
  have HN1 := Lib.hid nil1
  have HE0 := Lib.hid e0
  have HE1 := Lib.hid e1
  have ws : IntKind.i64.wrap ((n0 : Int) + n1) = (n0 : Int) + n1 := IntWalk.i64_in _ (by omega)
  clear x0 x1 w0 w1 nil0 nil1 e0 e1
  go_enter Tryz.func3, Tryz.ntmps3
  go_wp2_with fail
  refine (awake18_any W).mono ?_
  rintro e w1 ⟨rfl, hb1⟩
  by_cases hbig : 20000 < n0 + n1
  · have i1 : (20000 : Int) < (n0 : Int) + n1 := by omega
    have i2 : decide ((20000 : Int) < (n0 : Int) + n1) = true := by simpa using i1
    go_wp2_with fail
    go_ret
    exact ⟨rfl, hb1⟩
  have i1 : ¬ (20000 : Int) < (n0 : Int) + n1 := by omega
  have i2 : decide ((20000 : Int) < (n0 : Int) + n1) = false := by simpa using i1
  go_wp2_with fail
  refine (dnew_any 1048576 w1 1048576 (by decide) (by decide)).mono ?_
  rintro e w2 ⟨rfl, hd2, hb2⟩
  have hz12 := hb2.size
  have hz01 := hb1.size
  have HB2 := Lib.hid (hb1.trans (hb2.mono hz01))
  generalize hdb : w1.heap.size + 1 = db at hd2 ⊢
  generalize hmb : w1.heap.size = mb at hd2 hz12 hz01
  have HD2 := Lib.hid hd2
  clear hd2 hb2 hb1 i1 i2 ws
  go_wp2_with fail
  refine (append_any HD2.out (by omega) walS wal_named a0 n0 c0 bs HE0.out ((HX0.out.below HB2.out (Nat.le_refl _)).mono HB2.out.size) HW0.out HN0.out (by omega) _ (dAppend_nil 1048576 bs (by have := HE0.out; omega) (by have := HE0.out; omega))).mono ?_
  rintro e w3 ⟨rfl, hd3, hg3⟩
  dsimp only at hd3 ⊢
  have HD3 := Lib.hid hd3
  have HB3 := Lib.hid (HB2.out.trans ((grown_atW hg3 (Nat.le_of_lt (Nat.lt_of_lt_of_le HD2.out.mlt HD2.out.le))).mono hz01))
  clear hd3 hg3
  go_wp2_with fail
  refine (append_any HD3.out (by omega) nextS next_named a1 n1 c1 more HE1.out ((HX1.out.below HB3.out (Nat.le_refl _)).mono HB3.out.size) HW1.out HN1.out (by omega) _ (dAppend_next bs more (by have := HE0.out; have := HE1.out; omega))).mono ?_
  rintro e w4 ⟨rfl, hd4, hg4⟩
  dsimp only at hd4 ⊢
  have HD4 := Lib.hid hd4
  have HB4 := Lib.hid (HB3.out.trans ((grown_atW hg4 (Nat.le_of_lt (Nat.lt_of_lt_of_le HD3.out.mlt HD3.out.le))).mono hz01))
  have hrd : dRead (lWM bs more) walS.data.toList = (bs, 0) := dRead_some (lWM_wal bs more)
  have hmb4 : mb < w4.heap.size := Nat.lt_of_lt_of_le HD4.out.mlt HD4.out.le
  clear hd4 hg4
  go_wp2_with fail
  refine (wopen_any HD4.out (by omega) bs 0 hrd HW0.out (by have := HE0.out; omega)).mono ?_
  intro e w5 ho
  unfold OpenAt at ho
  cases hos : openS bs with
  | none =>
    rw [hos] at ho
    obtain ⟨rfl, hd5, hg5⟩ := ho
    have HD5 := Lib.hid hd5
    have HB5 := Lib.hid (HB4.out.trans ((grown_atW hg5 (Nat.le_of_lt hmb4)).mono hz01))
    have HOS := Lib.hid hos
    have hmb5 : mb < w5.heap.size := Nat.lt_of_lt_of_le HD5.out.mlt HD5.out.le
    clear hos hd5 hg5
    go_wp2_with fail
    refine (rread18_any a0 n0 c0 bs w5 HE0.out ((HX0.out.below HB5.out (Nat.le_refl _)).mono HB5.out.size) HW0.out HN0.out h0 (by omega)).mono ?_
    intro e w6 hr
    have hr2 : ∃ p u, e = .returned (.tuple #[.pointer p, .int .i64 u, .bool false]) ∧ Below w5.heap.size w5 w6 := by
      unfold RReadAt at hr
      cases hda : doAll WP.zero (scanS bs).1 with
      | none => rw [hda] at hr; exact ⟨_, _, hr.1, hr.2⟩
      | some t =>
        rw [hda] at hr
        obtain ⟨sb, h2, _, h3⟩ := hr
        rcases openS_none HOS.out with h4 | h4
        · rw [hda] at h4; cases h4
        · rw [h4] at h2; exact ⟨_, _, h2, h3⟩
    obtain ⟨p, u, rfl, hb6⟩ := hr2
    have HD6 := Lib.hid (HD5.out.belowT hb6)
    have HB6 := Lib.hid (HB5.out.trans (hb6.mono HB5.out.size))
    have hmb6 : mb < w6.heap.size := Nat.lt_of_lt_of_le HD6.out.mlt HD6.out.le
    clear hr hb6
    go_wp2_with fail
    refine (read_any HD6.out (by omega) walS wal_small _ hrd).mono ?_
    rintro e w7 ⟨a7, n7, c7, rfl, hbo, hd7, hg7⟩
    have HB7 := Lib.hid (HB6.out.trans ((grown_atW hg7 (Nat.le_of_lt hmb6)).mono hz01))
    have HBO := Lib.hid hbo
    clear hbo hd7 hg7
    go_wp2_with fail
    refine (sameB_any a7 n7 c7 a0 n0 c0 bs w7 HBO.out.len HE0.out (bown_in HBO.out) ((HX0.out.below HB7.out (Nat.le_refl _)).mono HB7.out.size) (by have := HBO.out.len; have := HE0.out; omega)).mono ?_
    rintro e w8 ⟨rfl, hb8⟩
    go_wp2_with fail
    go_ret
    exact ⟨rfl, HB7.out.trans (hb8.mono HB7.out.size)⟩
  | some t =>
    rw [hos] at ho
    obtain ⟨wb, sb, rfl, hw5, hg5⟩ := ho
    have HW5 := Lib.hid hw5
    have HB5 := Lib.hid (HB4.out.trans ((grown_atW hg5 (Nat.le_of_lt hmb4)).mono hz01))
    have HOS := Lib.hid hos
    have HOK := Lib.hid (openS_ok HW0.out (by have := HE0.out; omega) hos)
    have hmb5 : mb < w5.heap.size := Nat.lt_of_lt_of_le HW5.out.dk.mlt HW5.out.dk.le
    clear hos hw5 hg5
    go_wp2_with fail
    refine (rread18_any a0 n0 c0 bs w5 HE0.out ((HX0.out.below HB5.out (Nat.le_refl _)).mono HB5.out.size) HW0.out HN0.out h0 (by omega)).mono ?_
    intro e w6 hr
    unfold RReadAt at hr
    rw [(openS_some HOS.out).1, (openS_some HOS.out).2] at hr
    obtain ⟨qb, rfl, hq6, hb6⟩ := hr
    obtain ⟨u, hu⟩ : ∃ u, (scanS bs).2.1 = u := ⟨_, rfl⟩
    rw [hu]
    have hun : u ≤ n0 := by have := HOK.out.2; have := HE0.out; omega
    have HU := Lib.hid hu
    have HQ6 := Lib.hid hq6
    have HW6 := Lib.hid (HW5.out.below hb6)
    have HB6 := Lib.hid (HB5.out.trans (hb6.mono HB5.out.size))
    have hmb6 : mb < w6.heap.size := Nat.lt_of_lt_of_le HW6.out.dk.mlt HW6.out.dk.le
    clear hb6 hq6 hu
    have hread := openL_read (lWM_wal bs more) (show (([] : List Int) ++ bs) = bs from rfl) HOK.out.2
    rw [HU.out] at hread
    have HREAD := Lib.hid hread
    clear hread
    go_wp2_with fail
    refine (read_any HW6.out.dk (by omega) walS wal_small _ HREAD.out.1).mono ?_
    rintro e w7 ⟨a7, n7, c7, rfl, hbo7, hd7, hg7⟩
    have HW7 := Lib.hid (HW6.out.disked hg7 (hd7.mono (Nat.le_trans hd7.le (Nat.le_refl _) |> fun _ => hg7.size) (Nat.le_refl _)))
    have HB7 := Lib.hid (HB6.out.trans ((grown_atW hg7 (Nat.le_of_lt hmb6)).mono hz01))
    have HQ7 := Lib.hid (HQ6.out.grown2 hg7 hmb5)
    have HBO7 := Lib.hid hbo7
    have hmb7 : mb < w7.heap.size := Nat.lt_of_lt_of_le HW7.out.dk.mlt HW7.out.dk.le
    clear hbo7 hd7 hg7
    go_wp2_with fail
    refine (read_any HW7.out.dk (by omega) nextS next_small _ HREAD.out.2).mono ?_
    rintro e w8 ⟨a8, n8, c8, rfl, _, hd8, hg8⟩
    have HW8 := Lib.hid (HW7.out.disked hg8 (hd8.mono hg8.size (Nat.le_refl _)))
    have HB8 := Lib.hid (HB7.out.trans ((grown_atW hg8 (Nat.le_of_lt hmb7)).mono hz01))
    have HQ8 := Lib.hid (HQ7.out.grown2 hg8 hmb5)
    have HBO8 := Lib.hid (bown_grown HBO7.out hg8 hmb6)
    clear hd8 hg8
    have hsl : ∀ w', (Instr.sliceAt 22 (.slice a0 n0 c0) none (some (.int .i64 (u : Int))) none).run Tryz.prog w' = .ok (.slice (subA a0 c0 0 1) u c0) w' := fun w' => run_sub_h sliceByte sizeByte a0 n0 c0 u (by omega) .i64 (u : Int) rfl w'
    go_wp2_with fail
    refine (like18_any HW8.out.wal HQ8.out HOK.out.1 (by have := HE0.out; omega)).mono ?_
    rintro e w9 ⟨rfl, hb9⟩
    have HB9 := Lib.hid (HB8.out.trans (hb9.mono HB8.out.size))
    have HBO9 := Lib.hid (HBO8.out.below hb9 (Nat.le_refl _))
    clear hb9
    go_wp2_with fail
    have h0c : n0 ≤ c0 := h0
    have hbt : BytesIn w9 w9.heap.size (subA a0 c0 0 1) (bs.take u) := by
      have h1 := BytesIn.sub 0 u ((HX0.out.below HB9.out (Nat.le_refl _)).mono HB9.out.size) (cap := c0) (by rw [HE0.out]; exact h0c)
      rwa [List.drop_zero] at h1
    have hbl : (bs.take u).length = u := by rw [List.length_take, HE0.out]; omega
    refine (sameB_any a7 n7 c7 (subA a0 c0 0 1) u c0 (bs.take u) w9 HBO9.out.len hbl (bown_in HBO9.out) hbt (by have := HBO9.out.len; rw [hbl] at this; omega)).mono ?_
    rintro e w10 ⟨rfl, hb10⟩
    go_wp2_with fail
    go_ret
    exact ⟨rfl, HB9.out.trans (hb10.mono HB9.out.size)⟩
end Go.Proofs.YtnhnabcpkaeaaaaGreatDoor
