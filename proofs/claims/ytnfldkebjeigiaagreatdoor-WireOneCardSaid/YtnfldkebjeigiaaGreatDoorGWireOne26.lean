/- The law WireOne, walked. Conditions: the bytes lie in memory as they are read. -/
import Derived.Test.YtnfldkebjeigiaaGreatDoorGWireOne8
import Derived.Test.YtnfldkebjeigiaaGreatDoorGWireOne9
import Derived.Test.YtnfldkebjeigiaaGreatDoorGWireOne22
import Derived.Test.YtnfldkebjeigiaaGreatDoorGWireOne23
import Derived.Test.YtnfldkebjeigiaaGreatDoorGWireOne7
import Derived.Test.YtnfldkebjeigiaaGreatDoorGWireOne25
import Derived.Test.YtnfldkebjeigiaaGreatDoorGWireOne3
namespace Go.Proofs.YtnfldkebjeigiaaGreatDoor
open Go.RowKit
set_option maxRecDepth 20000
/-- What a read entry's lists are. -/
def EnMade (w : World) (base : Nat) (f : En) : Prop := VasOwn w base f.aao f.args.length f.acap f.args ∧ IntsOwn w base f.vao f.vs.length f.vcap f.vs
theorem EnMade.below {w w' : World} {base B : Nat} {f : En} (h : EnMade w base f) (hb : Below B w w') (hB : w.heap.size ≤ B) : EnMade w' base f := ⟨h.1.below hb hB, h.2.below hb hB⟩
theorem EnMade.only {w w' : World} {base r : Nat} {f : En} (h : EnMade w base f) (ho : Only r w w') (hr : r < base) : EnMade w' base f := ⟨h.1.only ho hr, h.2.only ho hr⟩
theorem EnMade.le {w : World} {base base' : Nat} {f : En} (h : EnMade w base f) (hB : base' ≤ base) : EnMade w base' f := ⟨h.1.le hB, h.2.le hB⟩
theorem EnMade.sub {w : World} {base : Nat} {f : En} (h : EnMade w base f) : enSub w w.heap.size f := ⟨VasOwn.vals rfl h.1, IntsOwn.nums rfl h.2⟩
theorem EnMade.own {w : World} {base : Nat} {f : En} (h : EnMade w base f) : enOwn w base f := ⟨h.1, h.2⟩
theorem EnMade.lt {w : World} {base : Nat} {f : En} (h : EnMade w base f) : (∀ b, (argV f).ownBlock = some b → base ≤ b ∧ b < w.heap.size) ∧ ∀ b, (votV f).ownBlock = some b → base ≤ b ∧ b < w.heap.size := ⟨fun b hb => World.ownsRow.lt h.1 b hb, fun b hb => World.ownsRow.lt h.2 b hb⟩
theorem RpOwn.only {w w' : World} {base r : Nat} {f : Rp} (h : RpOwn w base f) (ho : Only r w w') (hr : r < base) : RpOwn w' base f := ⟨h.facts.only ho hr, h.said.only ho hr, h.sep⟩
theorem RpOwn.sub {w : World} {base : Nat} {f : Rp} (h : RpOwn w base f) : rpSub w w.heap.size f := ⟨FasOwn.fas h.facts, VasOwn.vals rfl h.said⟩
theorem own_blocks {w w' : World} {base e size n : Nat} {v : Value} {xs : List Value} (h : w.ownsRow base e size v n xs) (hs : ∀ g, base ≤ g → g < w.heap.size → w'.heap[g]? = w.heap[g]?) : w'.ownsRow base e size v n xs := by
  refine ⟨h.1, ?_⟩
  rcases h.2 with hn | ⟨g, cap, cur, rfl, h1, h2, h3⟩
  · exact Or.inl hn
  · refine Or.inr ⟨g, cap, cur, rfl, h1, ?_, h3⟩
    rw [hs g h1 (Array.getElem?_eq_some_iff.1 h2).1]
    exact h2
theorem RpOwn.same {w w' : World} {base : Nat} {f : Rp} (h : RpOwn w base f) (hs : ∀ g, base ≤ g → g < w.heap.size → w'.heap[g]? = w.heap[g]?) : RpOwn w' base f :=
  ⟨⟨h.facts.len, own_blocks h.facts.row hs, fun g hg => own_blocks (h.facts.own g hg) hs, h.facts.sep⟩, own_blocks h.said hs, h.sep⟩
theorem sep_en {w w' : World} {b1 b2 : Nat} {x y : En} (h1 : EnMade w b1 x) (h2 : EnMade w' b2 y) (hB : w.heap.size ≤ b2) : sepE x y := by
  constructor
  · cases h : (argV x).ownBlock with
    | none => exact Or.inl rfl
    | some g => exact Or.inr fun e => by have := (h1.lt.1 g h).2; have := (h2.lt.1 g e.symm).1; omega
  · cases h : (votV x).ownBlock with
    | none => exact Or.inl rfl
    | some g => exact Or.inr fun e => by have := (h1.lt.2 g h).2; have := (h2.lt.2 g e.symm).1; omega
theorem RdrLo.lt {w : World} {lo rb : Nat} {left : List Int} (h : RdrLo w lo rb left) : rb < w.heap.size := by obtain ⟨_, _, h, _⟩ := h; exact h.lt
set_option maxHeartbeats 8000000 in
theorem walk_one (W : World) (ao : Option Addr) (n cap : Nat) (xs : List Int) (hn : xs.length = n) (hx : BytesIn W W.heap.size ao xs) (hw : BytesWf xs) (hao : ao = none → cap = 0) (hz : n ≤ 140737488351232) :
    Calls Tryz.prog 4 #[.slice ao n cap] W fun e w' => e = .returned (.bool true) ∧ Below W.heap.size W w' := by
  have HN := Lib.hid hn
  have HX := Lib.hid (show ∀ w', Below W.heap.size W w' → BytesIn w' W.heap.size ao xs from fun w' hb => hx.below hb (Nat.le_refl _))
  have HXS := Lib.hid (show ∀ w', Below W.heap.size W w' → BytesIn w' w'.heap.size ao xs from fun w' hb => (hx.below hb (Nat.le_refl _)).mono hb.size)
  have HW := Lib.hid hw
  have HAO := Lib.hid hao
  clear hn hx hw hao
  go_enter Tryz.func4, Tryz.ntmps4
  go_wp2_with fail
  refine (awake02_any W).mono ?_
  rintro e w1 ⟨rfl, b1⟩
  by_cases hbig : (20000 : Int) < n
  · have h1 : decide ((20000 : Int) < n) = true := by simpa using hbig
    go_wp2_with fail
    go_ret
    exact ⟨rfl, b1⟩
  have h1 : decide ((20000 : Int) < n) = false := by simpa using hbig
  have hl20 : xs.length ≤ 20000 := by have := HN.out; omega
  have HL := Lib.hid hl20
  have HLW := Lib.hid (show xs.length ≤ 140737488351232 by omega)
  clear hl20
  go_wp2_with fail
  refine (newReaderLo_any ao n cap xs w1 W.heap.size HN.out (HX.out _ b1) b1.size HAO.out hz).mono ?_
  rintro e w2 ⟨r1, rfl, hR, hb⟩
  have b2 := b1.trans (hb.mono b1.size)
  have t1 : r1 < w2.heap.size := hR.lt
  have u1 : W.heap.size ≤ r1 := Nat.le_trans b1.size hR.lo
  have R1 := Lib.hid hR
  clear hR hb
  go_wp2_with fail
  refine (newReaderLo_any ao n cap xs w2 W.heap.size HN.out (HX.out _ b2) b2.size HAO.out hz).mono ?_
  rintro e w3 ⟨r2, rfl, hR, hb⟩
  have b3 := b2.trans (hb.mono b2.size)
  have z23 := hb.size
  have t2 : r2 < w3.heap.size := hR.lt
  have u2 : w2.heap.size ≤ r2 := hR.lo
  have R1 := Lib.hid (R1.out.below hb)
  have R2 := Lib.hid hR
  clear hR hb
  go_wp2_with fail
  refine (newReaderLo_any ao n cap xs w3 W.heap.size HN.out (HX.out _ b3) b3.size HAO.out hz).mono ?_
  rintro e w4 ⟨r3, rfl, hR, hb⟩
  have b4 := b3.trans (hb.mono b3.size)
  have z34 := hb.size
  have t3 : r3 < w4.heap.size := hR.lt
  have u3 : w3.heap.size ≤ r3 := hR.lo
  have R1 := Lib.hid (R1.out.below hb)
  have R2 := Lib.hid (R2.out.below hb)
  have R3 := Lib.hid hR
  have zW := b4.size
  clear hR hb
  go_wp2_with fail
  obtain ⟨⟨P1, g1, l1⟩, hP1⟩ : ∃ P, entryS false xs = P := ⟨_, rfl⟩
  obtain ⟨⟨P2, g2, l2⟩, hP2⟩ : ∃ P, replyS false xs = P := ⟨_, rfl⟩
  obtain ⟨⟨P3, g3, l3⟩, hP3⟩ : ∃ P, commandS false xs = P := ⟨_, rfl⟩
  have HP1 := Lib.hid hP1
  have HP2 := Lib.hid hP2
  have HP3 := Lib.hid hP3
  have HF1 := Lib.hid (show P1.args.length ≤ 20000 ∧ P1.vs.length ≤ 20000 by have h := entryS_fit 20000 false xs HW.out HL.out; rw [hP1] at h; exact ⟨h.2.1.1, h.2.2⟩)
  have HF2 := Lib.hid (show P2.facts.length ≤ 20000 ∧ (∀ f ∈ P2.facts, f.args.length ≤ 20000) ∧ P2.said.length ≤ 20000 by have h := replyS_fit 20000 false xs HW.out HL.out; rw [hP2] at h; exact ⟨h.1, fun f hf => (h.2.1 f hf).1, h.2.2.1⟩)
  clear hP1 hP2 hP3
  refine (rdEntry_any r1 r1 false xs (P1, g1, l1) w4 HP1.out R1.out.rdr HW.out HLW.out).mono ?_
  rintro e w5 ⟨fe, hfe, he, hown, hr, ho⟩
  unfold enVal at he
  subst he
  have b5 := b4.trans (ho.toBelow zW u1)
  have s45 := ho.1
  have Q1 := Lib.hid hr
  have M1 := Lib.hid (show EnMade w5 w4.heap.size fe from hown)
  have E1 := Lib.hid (EnMade.lt (show EnMade w5 w4.heap.size fe from hown))
  have HFE := Lib.hid hfe
  have R2 := Lib.hid (R2.out.only ho t1)
  have R3 := Lib.hid (R3.out.only ho (by omega))
  clear hr ho hown hfe R1
  go_wp2_with fail
  refine (rdReplyS_any r2 r2 false xs (P2, g2, l2) w5 HP2.out R2.out.rdr HW.out HLW.out).mono ?_
  rintro e w6 ⟨fr, hfr, he, ⟨o1, o2, o3⟩, hr, ho⟩
  unfold rpVal at he
  subst he
  have b6 := b5.trans (ho.toBelow b5.size (by omega))
  have s56 := ho.1
  have Q1 := Lib.hid (Q1.out.only2 ho (by omega) (by omega))
  have Q2 := Lib.hid hr
  have M1 := Lib.hid (M1.out.only ho (by omega))
  have M2 := Lib.hid (show RpOwn w6 w5.heap.size fr from ⟨o1, o2, o3⟩)
  have HFR := Lib.hid hfr
  have R3 := Lib.hid (R3.out.only ho t2)
  clear hr ho o1 o2 o3 hfr R2
  go_wp2_with fail
  refine (rdCommand_any r3 r3 false xs (P3, g3, l3) w6 HP3.out R3.out.rdr HW.out HLW.out).mono ?_
  rintro e w7 ⟨fc, hfc, he, o1, hr, ho⟩
  unfold cmVal at he
  subst he
  have b7 := b6.trans (ho.toBelow b6.size (by omega))
  have s67 := ho.1
  have Q1 := Lib.hid (Q1.out.only2 ho (by omega) (by omega))
  have Q2 := Lib.hid (Q2.out.only2 ho (by omega) (by omega))
  have Q3 := Lib.hid hr
  have M1 := Lib.hid (M1.out.only ho (by omega))
  have M2s := Lib.hid (show ∀ g, w5.heap.size ≤ g → g < w6.heap.size → w7.heap[g]? = w6.heap[g]? from fun g h1 h2 => ho.2 g h2 (by omega))
  have M2' := Lib.hid (M2.out.only ho (by omega))
  have M3 := Lib.hid (show VasOwn w7 w6.heap.size fc.ao fc.args.length fc.cap fc.args from o1)
  have HFC := Lib.hid hfc
  clear hr ho o1 hfc R3
  go_wp2_with fail
  obtain ⟨hA, ke, kr, kc, z8⟩ := alloc3_facts w7 #[.int .i64 fe.term, .int .u8 fe.kind, .int .i64 fe.session, .int .i64 fe.seq, .int .u8 fe.ck, .string fe.text, .slice fe.aao fe.args.length fe.acap, .int .i64 fe.num, .slice fe.vao fe.vs.length fe.vcap] #[.int .i64 fr.err, .int .i64 fr.num, .slice fr.fo fr.facts.length fr.fcap, .slice fr.so fr.said.length fr.scap] #[.int .u8 fc.kind, .string fc.text, .slice fc.ao fc.args.length fc.cap, .int .i64 fc.num] 38 34 30
  generalize ((w7.alloc (.cells #[.int .i64 fe.term, .int .u8 fe.kind, .int .i64 fe.session, .int .i64 fe.seq, .int .u8 fe.ck, .string fe.text, .slice fe.aao fe.args.length fe.acap, .int .i64 fe.num, .slice fe.vao fe.vs.length fe.vcap] 38)).alloc (.cells #[.int .i64 fr.err, .int .i64 fr.num, .slice fr.fo fr.facts.length fr.fcap, .slice fr.so fr.said.length fr.scap] 34)).alloc (.cells #[.int .u8 fc.kind, .string fc.text, .slice fc.ao fc.args.length fc.cap, .int .i64 fc.num] 30) = w8 at hA ke kr kc z8 ⊢
  have b8 := b7.trans (hA.mono b7.size)
  have z78 := hA.size
  have HB8 := Lib.hid (show ∀ w', Below w8.heap.size w8 w' → Below W.heap.size W w' from fun w' h => b8.trans (h.mono b8.size))
  have HRE := Lib.hid (show ∀ w', Below w8.heap.size w8 w' → w'.rangeAt w7.heap.size 0 [.int .i64 fe.term, .int .u8 fe.kind, .int .i64 fe.session, .int .i64 fe.seq, .int .u8 fe.ck, .string fe.text, .slice fe.aao fe.args.length fe.acap, .int .i64 fe.num, .slice fe.vao fe.vs.length fe.vcap] from fun w' h => range_block ((h.block w7.heap.size (by omega)).trans ke))
  have HRP := Lib.hid (show ∀ w', Below w8.heap.size w8 w' → w'.rangeAt (w7.heap.size + 1) 0 [.int .i64 fr.err, .int .i64 fr.num, .slice fr.fo fr.facts.length fr.fcap, .slice fr.so fr.said.length fr.scap] from fun w' h => range_block ((h.block (w7.heap.size + 1) (by omega)).trans kr))
  have HRC := Lib.hid (show ∀ w', Below w8.heap.size w8 w' → w'.rangeAt (w7.heap.size + 2) 0 [.int .u8 fc.kind, .string fc.text, .slice fc.ao fc.args.length fc.cap, .int .i64 fc.num] from fun w' h => range_block ((h.block (w7.heap.size + 2) (by omega)).trans kc))
  have HKR := Lib.hid kr
  have M1 := Lib.hid (show ∀ w', Below w8.heap.size w8 w' → EnMade w' w4.heap.size fe from fun w' h => (M1.out.below hA (Nat.le_refl _)).below h (Nat.le_refl _))
  have M2' := Lib.hid (show ∀ w', Below w8.heap.size w8 w' → RpOwn w' w5.heap.size fr from fun w' h => (M2'.out.below hA (Nat.le_refl _)).below h (Nat.le_refl _))
  have M3 := Lib.hid (show ∀ w', Below w8.heap.size w8 w' → ValsIn w' w'.heap.size fc.ao fc.args from fun w' h => VasOwn.vals rfl ((M3.out.below hA (Nat.le_refl _)).below h (Nat.le_refl _)))
  have Q1 := Lib.hid (show ∀ w', Below w8.heap.size w8 w' → Rdr w' r1 r1 g1 l1 from fun w' h => (Q1.out.below hA).below h)
  have Q2 := Lib.hid (show ∀ w', Below w8.heap.size w8 w' → Rdr w' r2 r2 g2 l2 from fun w' h => (Q2.out.below hA).below h)
  have Q3 := Lib.hid (show ∀ w', Below w8.heap.size w8 w' → Rdr w' r3 r3 g3 l3 from fun w' h => (Q3.out.below hA).below h)
  have M2s := Lib.hid (show ∀ g, w5.heap.size ≤ g → g < w6.heap.size → w8.heap[g]? = w6.heap[g]? from fun g h1 h2 => (hA.block g (by omega)).trans (M2s.out g h1 h2))
  have c8 := Below.refl w8.heap.size w8
  clear hA ke kr kc
  refine (done_rd r1 r1 g1 l1 w8 (Q1.out _ c8)).mono ?_
  rintro e wx ⟨he, rfl⟩
  obtain ⟨d1, hd1⟩ : ∃ d, (!g1 && l1.isEmpty) = d := ⟨_, rfl⟩
  rw [hd1] at he
  subst he
  have HD1 := Lib.hid hd1
  clear hd1
  cases d1
  rotate_left
  focus
    go_wp2_with (refine wpList_load_want (by rfl) 38 (.tmp 6) rfl w7.heap.size 0 rfl [.int .i64 fe.term, .int .u8 fe.kind, .int .i64 fe.session, .int .i64 fe.seq, .int .u8 fe.ck, .string fe.text, .slice fe.aao fe.args.length fe.acap, .int .i64 fe.num, .slice fe.vao fe.vs.length fe.vcap] _ (HRE.out _ c8) Tryz.underlying38 rfl info_en ?_)
    refine (one_entry fe xs P1 g1 l1 w8 HP1.out HD1.out HFE.out HW.out HL.out (M1.out _ c8).sub).mono ?_
    rintro e w9 ⟨a, c, rfl, ho, hb⟩
    have c9 := c8.trans hb
    have HO := Lib.hid ho
    clear ho hb
    go_wp2_with fail
    refine (sameB_any a xs.length c ao n cap xs w9 rfl HN.out (own_bytes' HO.out) (HXS.out _ (HB8.out _ c9)) (by have := HL.out; omega)).mono ?_
    rintro e w10 ⟨rfl, hb⟩
    have c10 := c9.trans (hb.mono c9.size)
    clear hb HO c9
    go_wp2_with fail
  rotate_left
  focus
    obtain ⟨w10, c10, hw⟩ : ∃ w', Below w8.heap.size w8 w' ∧ w' = w8 := ⟨w8, c8, rfl⟩
    rw [← hw]
    clear hw
    go_wp2_with fail
  all_goals
    refine (done_rd r2 r2 g2 l2 w10 (Q2.out _ c10)).mono ?_
    rintro e wx ⟨he, rfl⟩
    obtain ⟨d2, hd2⟩ : ∃ d, (!g2 && l2.isEmpty) = d := ⟨_, rfl⟩
    rw [hd2] at he
    subst he
    have HD2 := Lib.hid hd2
    clear hd2
    cases d2
    rotate_left
    focus
      go_wp2_with (refine wpList_load_want (by rfl) 34 (.tmp 7) rfl (w7.heap.size + 1) 0 rfl [.int .i64 fr.err, .int .i64 fr.num, .slice fr.fo fr.facts.length fr.fcap, .slice fr.so fr.said.length fr.scap] _ (HRP.out _ c10) Tryz.underlying34 rfl info_rp ?_)
      refine (one_reply fr xs P2 g2 l2 w10 HP2.out HD2.out HFR.out HW.out HL.out (M2'.out _ c10).sub).mono ?_
      rintro e w11 ⟨a, c, rfl, ho, hb⟩
      have c11 := c10.trans (hb.mono c10.size)
      have HO := Lib.hid ho
      clear ho hb
      go_wp2_with fail
      refine (sameB_any a xs.length c ao n cap xs w11 rfl HN.out (own_bytes' HO.out) (HXS.out _ (HB8.out _ c11)) (by have := HL.out; omega)).mono ?_
      rintro e w12 ⟨rfl, hb⟩
      have c12 := c11.trans (hb.mono c11.size)
      clear hb HO c11
      go_wp2_with fail
    rotate_left
    focus
      obtain ⟨w12, c12, hw⟩ : ∃ w', Below w8.heap.size w8 w' ∧ w' = w10 := ⟨w10, c10, rfl⟩
      rw [← hw]
      clear hw
      go_wp2_with fail
    all_goals
      refine (done_rd r3 r3 g3 l3 w12 (Q3.out _ c12)).mono ?_
      rintro e wx ⟨he, rfl⟩
      obtain ⟨d3, hd3⟩ : ∃ d, (!g3 && l3.isEmpty) = d := ⟨_, rfl⟩
      rw [hd3] at he
      subst he
      have HD3 := Lib.hid hd3
      clear hd3
      cases d3
      rotate_left
      focus
        go_wp2_with (refine wpList_load_want (by rfl) 30 (.tmp 8) rfl (w7.heap.size + 2) 0 rfl [.int .u8 fc.kind, .string fc.text, .slice fc.ao fc.args.length fc.cap, .int .i64 fc.num] _ (HRC.out _ c12) Tryz.underlying30 rfl info_cm ?_)
        refine (one_command fc xs P3 g3 l3 w12 HP3.out HD3.out HFC.out HW.out HL.out (M3.out _ c12)).mono ?_
        rintro e w13 ⟨a, c, rfl, ho, hb⟩
        have c13 := c12.trans (hb.mono c12.size)
        have HO := Lib.hid ho
        clear ho hb
        go_wp2_with fail
        refine (sameB_any a xs.length c ao n cap xs w13 rfl HN.out (own_bytes' HO.out) (HXS.out _ (HB8.out _ c13)) (by have := HL.out; omega)).mono ?_
        rintro e w20 ⟨rfl, hb⟩
        have c20 := c13.trans (hb.mono c13.size)
        clear hb HO c13
        go_wp2_with fail
      rotate_left
      focus
        obtain ⟨w20, c20, hw⟩ : ∃ w', Below w8.heap.size w8 w' ∧ w' = w12 := ⟨w12, c12, rfl⟩
        rw [← hw]
        clear hw
        go_wp2_with fail
      all_goals
        have b20 := HB8.out _ c20
        have z820 := c20.size
        clear Q1 Q2 Q3 HD1 HD2 HD3
        refine (newReaderLo_any ao n cap xs w20 W.heap.size HN.out (HX.out _ b20) b20.size HAO.out hz).mono ?_
        rintro e w21 ⟨r4, rfl, hR, hb⟩
        have c21 := c20.trans (hb.mono c20.size)
        have b21 := HB8.out _ c21
        have z2021 := hb.size
        have t4 : r4 < w21.heap.size := hR.lt
        have u4 : w20.heap.size ≤ r4 := hR.lo
        have R4 := Lib.hid hR
        clear hR hb
        go_wp2_with fail
        refine (newReaderLo_any ao n cap xs w21 W.heap.size HN.out (HX.out _ b21) b21.size HAO.out hz).mono ?_
        rintro e w22 ⟨r5, rfl, hR, hb⟩
        have c22 := c21.trans (hb.mono c21.size)
        have z2122 := hb.size
        have t5 : r5 < w22.heap.size := hR.lt
        have u5 : w21.heap.size ≤ r5 := hR.lo
        have R4 := Lib.hid (R4.out.below hb)
        have R5 := Lib.hid hR
        clear hR hb
        go_wp2_with fail
        refine (rdEntry_any r4 r4 false xs (P1, g1, l1) w22 HP1.out R4.out.rdr HW.out HLW.out).mono ?_
        rintro e w23 ⟨ff, hff, he, hown, hr, ho⟩
        unfold enVal at he
        subst he
        have c23 := c22.trans (ho.toBelow c22.size (by omega))
        have s2223 := ho.1
        have M4 := Lib.hid (show EnMade w23 w22.heap.size ff from hown)
        have E4 := Lib.hid (EnMade.lt (show EnMade w23 w22.heap.size ff from hown))
        have HFF := Lib.hid hff
        have R5 := Lib.hid (R5.out.only ho t4)
        clear hr ho hown hff R4
        go_wp2_with fail
        refine (rdReplyS_any r5 r5 false xs (P2, g2, l2) w23 HP2.out R5.out.rdr HW.out HLW.out).mono ?_
        rintro e w24 ⟨fq, hfq, he, ⟨o1, o2, o3⟩, hr, ho⟩
        unfold rpVal at he
        subst he
        have c24 := c23.trans (ho.toBelow c23.size (by omega))
        have s2324 := ho.1
        have M4 := Lib.hid (M4.out.only ho (by omega))
        have M5 := Lib.hid (show RpOwn w24 w23.heap.size fq from ⟨o1, o2, o3⟩)
        have HFQ := Lib.hid hfq
        clear hr ho o1 o2 o3 hfq R5
        obtain ⟨w25, hx25⟩ : ∃ w, (w24.alloc (.cells #[.int .i64 ff.term, .int .u8 ff.kind, .int .i64 ff.session, .int .i64 ff.seq, .int .u8 ff.ck, .string ff.text, .slice ff.aao ff.args.length ff.acap, .int .i64 ff.num, .slice ff.vao ff.vs.length ff.vcap] 38)).alloc (.cells #[.int .i64 fq.err, .int .i64 fq.num, .slice fq.fo fq.facts.length fq.fcap, .slice fq.so fq.said.length fq.scap] 34) = w := ⟨_, rfl⟩
        obtain ⟨hA, kf, kq, z25⟩ := alloc2_facts w24 #[.int .i64 ff.term, .int .u8 ff.kind, .int .i64 ff.session, .int .i64 ff.seq, .int .u8 ff.ck, .string ff.text, .slice ff.aao ff.args.length ff.acap, .int .i64 ff.num, .slice ff.vao ff.vs.length ff.vcap] #[.int .i64 fq.err, .int .i64 fq.num, .slice fq.fo fq.facts.length fq.fcap, .slice fq.so fq.said.length fq.scap] 38 34
        rw [hx25] at hA kf kq z25
        have c25 := c24.trans (hA.mono c24.size)
        have HC25 := Lib.hid (show ∀ w', Below w25.heap.size w25 w' → Below w8.heap.size w8 w' from fun w' h => c25.trans (h.mono c25.size))
        have HRF := Lib.hid (show ∀ w', Below w25.heap.size w25 w' → w'.rangeAt w24.heap.size 0 [.int .i64 ff.term, .int .u8 ff.kind, .int .i64 ff.session, .int .i64 ff.seq, .int .u8 ff.ck, .string ff.text, .slice ff.aao ff.args.length ff.acap, .int .i64 ff.num, .slice ff.vao ff.vs.length ff.vcap] from fun w' h => range_block ((h.block w24.heap.size (by omega)).trans kf))
        have HRQ := Lib.hid (show ∀ w', Below w25.heap.size w25 w' → w'.rangeAt (w24.heap.size + 1) 0 [.int .i64 fq.err, .int .i64 fq.num, .slice fq.fo fq.facts.length fq.fcap, .slice fq.so fq.said.length fq.scap] from fun w' h => range_block ((h.block (w24.heap.size + 1) (by omega)).trans kq))
        have HKQ := Lib.hid kq
        have M4 := Lib.hid (show ∀ w', Below w25.heap.size w25 w' → EnMade w' w22.heap.size ff from fun w' h => (M4.out.below hA (Nat.le_refl _)).below h (Nat.le_refl _))
        have M5' := Lib.hid (show ∀ w', Below w25.heap.size w25 w' → RpOwn w' w23.heap.size fq from fun w' h => (M5.out.below hA (Nat.le_refl _)).below h (Nat.le_refl _))
        have M5s := Lib.hid (show ∀ g, w23.heap.size ≤ g → g < w24.heap.size → w25.heap[g]? = w24.heap[g]? from fun g h1 h2 => hA.block g h2)
        have d25 := Below.refl w25.heap.size w25
        have LB := Lib.hid (show fe.args.length ≤ 20000 ∧ fe.vs.length ≤ 20000 ∧ ff.args.length ≤ 20000 ∧ ff.vs.length ≤ 20000 by
          have h1 := HF1.out
          have e1 : fe.args = P1.args := congrArg EnP.args HFE.out
          have e2 : fe.vs = P1.vs := congrArg EnP.vs HFE.out
          have e3 : ff.args = P1.args := congrArg EnP.args HFF.out
          have e4 : ff.vs = P1.vs := congrArg EnP.vs HFF.out
          rw [e1, e2, e3, e4]; exact ⟨h1.1, h1.2, h1.1, h1.2⟩)
        have HLR := Lib.hid (show ∀ f : Rp, f.plain = P2 → f.facts.length ≤ 20000 ∧ (∀ g ∈ f.facts, g.args.length ≤ 20000) ∧ f.said.length ≤ 20000 from fun f hf => by
          have h1 := HF2.out
          have e1 : f.facts.map Fa.plain = P2.facts := congrArg RpP.facts hf
          have e2 : f.said = P2.said := congrArg RpP.said hf
          rw [← e1] at h1
          rw [e2]
          exact ⟨by have := h1.1; rwa [List.length_map] at this, fun g hg => h1.2.1 g.plain (List.mem_map_of_mem hg), h1.2.2⟩)
        clear hA kf kq
        have HRA := Lib.hid (show ((w24.alloc (.cells #[.int .i64 ff.term, .int .u8 ff.kind, .int .i64 ff.session, .int .i64 ff.seq, .int .u8 ff.ck, .string ff.text, .slice ff.aao ff.args.length ff.acap, .int .i64 ff.num, .slice ff.vao ff.vs.length ff.vcap] 38)).alloc (.cells #[.int .i64 fq.err, .int .i64 fq.num, .slice fq.fo fq.facts.length fq.fcap, .slice fq.so fq.said.length fq.scap] 34)).rangeAt w7.heap.size 0 [.int .i64 fe.term, .int .u8 fe.kind, .int .i64 fe.session, .int .i64 fe.seq, .int .u8 fe.ck, .string fe.text, .slice fe.aao fe.args.length fe.acap, .int .i64 fe.num, .slice fe.vao fe.vs.length fe.vcap] by rw [hx25]; exact HRE.out _ c25)
        have HRB := Lib.hid (show ((w24.alloc (.cells #[.int .i64 ff.term, .int .u8 ff.kind, .int .i64 ff.session, .int .i64 ff.seq, .int .u8 ff.ck, .string ff.text, .slice ff.aao ff.args.length ff.acap, .int .i64 ff.num, .slice ff.vao ff.vs.length ff.vcap] 38)).alloc (.cells #[.int .i64 fq.err, .int .i64 fq.num, .slice fq.fo fq.facts.length fq.fcap, .slice fq.so fq.said.length fq.scap] 34)).rangeAt w24.heap.size 0 [.int .i64 ff.term, .int .u8 ff.kind, .int .i64 ff.session, .int .i64 ff.seq, .int .u8 ff.ck, .string ff.text, .slice ff.aao ff.args.length ff.acap, .int .i64 ff.num, .slice ff.vao ff.vs.length ff.vcap] by rw [hx25]; exact HRF.out _ d25)
        have HX25 := Lib.hid hx25
        clear hx25
        go_wp2_with (first | (refine wpList_load_mid rfl 38 (.tmp 6) rfl w7.heap.size 0 rfl [.int .i64 fe.term, .int .u8 fe.kind, .int .i64 fe.session, .int .i64 fe.seq, .int .u8 fe.ck, .string fe.text, .slice fe.aao fe.args.length fe.acap, .int .i64 fe.num, .slice fe.vao fe.vs.length fe.vcap] _ HRA.out Tryz.underlying38 rfl info_en ?_) | (refine wpList_load_mid rfl 38 (.tmp 9) rfl w24.heap.size 0 rfl [.int .i64 ff.term, .int .u8 ff.kind, .int .i64 ff.session, .int .i64 ff.seq, .int .u8 ff.ck, .string ff.text, .slice ff.aao ff.args.length ff.acap, .int .i64 ff.num, .slice ff.vao ff.vs.length ff.vcap] _ HRB.out Tryz.underlying38 rfl info_en ?_))
        rw [HX25.out]
        refine (sameE_any fe ff w25 w25.heap.size (HFE.out.trans HFF.out.symm) (M1.out _ c25).sub (M4.out _ d25).sub (Nat.le_refl _) (by have := LB.out.1; omega) (by have := LB.out.2.1; omega)).mono ?_
        rintro e w26 ⟨rfl, d26⟩
        have c26 := HC25.out _ d26
        clear HRA HRB
        go_wp2_with (first | (refine wpList_load_want (by rfl) 34 (.tmp 7) rfl (w7.heap.size + 1) 0 rfl [.int .i64 fr.err, .int .i64 fr.num, .slice fr.fo fr.facts.length fr.fcap, .slice fr.so fr.said.length fr.scap] _ (HRP.out _ c26) Tryz.underlying34 rfl info_rp ?_) | (refine wpList_load_want (by rfl) 34 (.tmp 10) rfl (w24.heap.size + 1) 0 rfl [.int .i64 fq.err, .int .i64 fq.num, .slice fq.fo fq.facts.length fq.fcap, .slice fq.so fq.said.length fq.scap] _ (HRQ.out _ d26) Tryz.underlying34 rfl info_rp ?_))
        refine (sameRp_any fr fq w26 w26.heap.size (HFR.out.trans HFQ.out.symm) (M2'.out _ c26).sub (M5'.out _ d26).sub (Nat.le_refl _) (by have := (HLR.out fr HFR.out).1; omega) (fun f hf => by have := (HLR.out fr HFR.out).2.1 f hf; omega) (by have := (HLR.out fr HFR.out).2.2; omega)).mono ?_
        rintro e w27 ⟨rfl, hb⟩
        have d27 := d26.trans (hb.mono d26.size)
        have c27 := HC25.out _ d27
        have z2527 := d27.size
        clear hb
        go_wp2_with (first | (refine wpList_load_want (by rfl) 38 (.tmp 6) rfl w7.heap.size 0 rfl [.int .i64 fe.term, .int .u8 fe.kind, .int .i64 fe.session, .int .i64 fe.seq, .int .u8 fe.ck, .string fe.text, .slice fe.aao fe.args.length fe.acap, .int .i64 fe.num, .slice fe.vao fe.vs.length fe.vcap] _ (HRE.out _ c27) Tryz.underlying38 rfl info_en ?_) | (refine wpList_load_want (by rfl) 38 (.tmp 9) rfl w24.heap.size 0 rfl [.int .i64 ff.term, .int .u8 ff.kind, .int .i64 ff.session, .int .i64 ff.seq, .int .u8 ff.ck, .string ff.text, .slice ff.aao ff.args.length ff.acap, .int .i64 ff.num, .slice ff.vao ff.vs.length ff.vcap] _ (HRF.out _ (d27.alloc z2527 _)) Tryz.underlying38 rfl info_en ?_))
        obtain ⟨hA, k1, k2, k3, z28⟩ := alloc3_facts w27 #[.int .i64 fe.term, .int .u8 fe.kind, .int .i64 fe.session, .int .i64 fe.seq, .int .u8 fe.ck, .string fe.text, .slice fe.aao fe.args.length fe.acap, .int .i64 fe.num, .slice fe.vao fe.vs.length fe.vcap] #[.int .i64 ff.term, .int .u8 ff.kind, .int .i64 ff.session, .int .i64 ff.seq, .int .u8 ff.ck, .string ff.text, .slice ff.aao ff.args.length ff.acap, .int .i64 ff.num, .slice ff.vao ff.vs.length ff.vcap] #[.slice (some ⟨w27.heap.size, 0, none⟩) 1 1, .slice (some ⟨w27.heap.size + 1, 0, none⟩) 1 1] 38 38 72
        generalize ((w27.alloc (.cells #[.int .i64 fe.term, .int .u8 fe.kind, .int .i64 fe.session, .int .i64 fe.seq, .int .u8 fe.ck, .string fe.text, .slice fe.aao fe.args.length fe.acap, .int .i64 fe.num, .slice fe.vao fe.vs.length fe.vcap] 38)).alloc (.cells #[.int .i64 ff.term, .int .u8 ff.kind, .int .i64 ff.session, .int .i64 ff.seq, .int .u8 ff.ck, .string ff.text, .slice ff.aao ff.args.length ff.acap, .int .i64 ff.num, .slice ff.vao ff.vs.length ff.vcap] 38)).alloc (.cells #[.slice (some ⟨w27.heap.size, 0, none⟩) 1 1, .slice (some ⟨w27.heap.size + 1, 0, none⟩) 1 1] 72) = w28 at hA k1 k2 k3 z28 ⊢
        have d28 := d27.trans (hA.mono z2527)
        have c28 := HC25.out _ d28
        have z825 := c25.size
        have z2328 := d28.size
        have z822 := c22.size
        have hsep : sepE fe ff := sep_en (M1.out _ c8) (M4.out _ d25) z822
        have hm1 := M1.out _ c28
        have hm4 := (M4.out _ d28).le (show w4.heap.size ≤ w22.heap.size by omega)
        have hdb : ∀ x ∈ [fe] ++ [ff], x.args.length ≤ 1099511627776 ∧ x.vs.length ≤ 1099511627776 := fun x hx => by
          have h := LB.out
          simp only [List.singleton_append, List.mem_cons, List.not_mem_nil, or_false] at hx
          rcases hx with rfl | rfl
          · exact ⟨by omega, by omega⟩
          · exact ⟨by omega, by omega⟩
        have he1 : EnsOwn w28 w4.heap.size (.slice (some ⟨w27.heap.size, 0, none⟩) 1 1) [fe] := ⟨own_block (n := 1) (size := 9) k1 (by omega) (by decide) rfl, fun x hx => by rw [List.mem_singleton.1 hx]; exact hm1.own, List.pairwise_singleton _ _⟩
        have he2 : EnsOwn w28 w4.heap.size (.slice (some ⟨w27.heap.size + 1, 0, none⟩) 1 1) [ff] := ⟨own_block (n := 1) (size := 9) k2 (by omega) (by decide) rfl, fun x hx => by rw [List.mem_singleton.1 hx]; exact hm4.own, List.pairwise_singleton _ _⟩
        have HAE := Lib.hid (apartEs_any w4.heap.size (w27.heap.size + 2) 2 (.slice (some ⟨w27.heap.size, 0, none⟩) 1 1) (.slice (some ⟨w27.heap.size + 1, 0, none⟩) 1 1) [fe] [ff] w28 (Go.Joins.cell_of_block k3 0) (Go.Joins.cell_of_block k3 1) (by omega) he1 he2 (fun b h1 h2 => by have e1 : w27.heap.size = b := Option.some.inj h1; have e2 : w27.heap.size + 1 = b := Option.some.inj h2; omega) (fun x hx y hy => by rw [List.mem_singleton.1 hx, List.mem_singleton.1 hy]; exact hsep) (by omega) (by simp) (by simp) hdb)
        clear hdb he1 he2 hm1 hm4 k1 k2 k3 hA hsep
        refine HAE.out.mono ?_
        rintro e w29 ⟨rfl, hbE, hapE⟩
        have z2829 := hbE.size
        have hkeep : ∀ g, w5.heap.size ≤ g → (g < w8.heap.size ∨ w23.heap.size ≤ g ∧ g < w25.heap.size) → w29.heap[g]? = w28.heap[g]? := fun g h1 h2 => hapE g (by omega) (fun e => by have : w27.heap.size = g := Option.some.inj e; omega) (fun e => by have : w27.heap.size + 1 = g := Option.some.inj e; omega) (fun x hx => by
          simp only [List.singleton_append, List.mem_cons, List.not_mem_nil, or_false] at hx
          rcases hx with rfl | rfl
          · exact ⟨fun e => by have := (E1.out.1 g e).2; omega, fun e => by have := (E1.out.2 g e).2; omega⟩
          · exact ⟨fun e => by have := E4.out.1 g e; omega, fun e => by have := E4.out.2 g e; omega⟩)
        have o2 : RpOwn w29 w5.heap.size fr := M2.out.same fun g h1 h2 => ((hkeep g h1 (Or.inl (by omega))).trans (c28.block g (by omega))).trans (M2s.out g h1 h2)
        have o5 : RpOwn w29 w23.heap.size fq := M5.out.same fun g h1 h2 => ((hkeep g (by omega) (Or.inr ⟨h1, by omega⟩)).trans (d28.block g (by omega))).trans (M5s.out g h1 h2)
        have kr : w29.heap[w7.heap.size + 1]? = some (.cells #[.int .i64 fr.err, .int .i64 fr.num, .slice fr.fo fr.facts.length fr.fcap, .slice fr.so fr.said.length fr.scap] 34 (0, 0)) := ((hkeep _ (by omega) (Or.inl (by omega))).trans (c28.block _ (by omega))).trans HKR.out
        have kq : w29.heap[w24.heap.size + 1]? = some (.cells #[.int .i64 fq.err, .int .i64 fq.num, .slice fq.fo fq.facts.length fq.fcap, .slice fq.so fq.said.length fq.scap] 34 (0, 0)) := ((hkeep _ (by omega) (Or.inr ⟨by omega, by omega⟩)).trans (d28.block _ (by omega))).trans HKQ.out
        have b29 := (HB8.out _ c28).trans (hbE.mono zW)
        have HRP2 := Lib.hid (show w29.rangeAt (w7.heap.size + 1) 0 [.int .i64 fr.err, .int .i64 fr.num, .slice fr.fo fr.facts.length fr.fcap, .slice fr.so fr.said.length fr.scap] from range_block kr)
        have HRQ2 := Lib.hid (show ∀ w', Below w29.heap.size w29 w' → w'.rangeAt (w24.heap.size + 1) 0 [.int .i64 fq.err, .int .i64 fq.num, .slice fq.fo fq.facts.length fq.fcap, .slice fq.so fq.said.length fq.scap] from fun w' h => range_block ((h.block (w24.heap.size + 1) (by omega)).trans kq))
        have O2 := Lib.hid o2
        have O5 := Lib.hid o5
        have L2 := Lib.hid (show ∀ x ∈ valsOf fr, ∀ b, (faV x).ownBlock = some b → b < w23.heap.size from fun x hx b hb => by have := (M2.out.lt x hx b hb).2; omega)
        have L2' := Lib.hid (show ∀ b, (Value.slice fr.fo fr.facts.length fr.fcap).ownBlock = some b → b < w23.heap.size from fun b hb => by have := (World.ownsRow.lt M2.out.facts.row b hb).2; omega)
        have z529 : w5.heap.size ≤ w29.heap.size := by omega
        have z2329 : w23.heap.size ≤ w29.heap.size := by omega
        have z523 : w5.heap.size ≤ w23.heap.size := by omega
        clear hapE hkeep hbE o2 o5 kr kq HAE
        go_wp2_with (first | (refine wpList_load_want (by rfl) 34 (.tmp 7) rfl (w7.heap.size + 1) 0 rfl [.int .i64 fr.err, .int .i64 fr.num, .slice fr.fo fr.facts.length fr.fcap, .slice fr.so fr.said.length fr.scap] _ HRP2.out Tryz.underlying34 rfl info_rp ?_) | (refine wpList_load_want (by rfl) 34 (.tmp 10) rfl (w24.heap.size + 1) 0 rfl [.int .i64 fq.err, .int .i64 fq.num, .slice fq.fo fq.facts.length fq.fcap, .slice fq.so fq.said.length fq.scap] _ (HRQ2.out _ ((Below.refl w29.heap.size w29).alloc (Nat.le_refl _) _)) Tryz.underlying34 rfl info_rp ?_))
        obtain ⟨hA, k1, k2, k3, z30⟩ := alloc3_facts w29 #[.int .i64 fr.err, .int .i64 fr.num, .slice fr.fo fr.facts.length fr.fcap, .slice fr.so fr.said.length fr.scap] #[.int .i64 fq.err, .int .i64 fq.num, .slice fq.fo fq.facts.length fq.fcap, .slice fq.so fq.said.length fq.scap] #[.slice (some ⟨w29.heap.size, 0, none⟩) 1 1, .slice (some ⟨w29.heap.size + 1, 0, none⟩) 1 1] 34 34 75
        generalize ((w29.alloc (.cells #[.int .i64 fr.err, .int .i64 fr.num, .slice fr.fo fr.facts.length fr.fcap, .slice fr.so fr.said.length fr.scap] 34)).alloc (.cells #[.int .i64 fq.err, .int .i64 fq.num, .slice fq.fo fq.facts.length fq.fcap, .slice fq.so fq.said.length fq.scap] 34)).alloc (.cells #[.slice (some ⟨w29.heap.size, 0, none⟩) 1 1, .slice (some ⟨w29.heap.size + 1, 0, none⟩) 1 1] 75) = w30 at hA k1 k2 k3 z30 ⊢
        have o2 := RpOwn.below O2.out hA (Nat.le_refl _)
        have o5 := RpOwn.below O5.out hA (Nat.le_refl _)
        have b30 := b29.trans (hA.mono b29.size)
        have hr1 := HLR.out fr HFR.out
        have hr2 := HLR.out fq HFQ.out
        have HAR := Lib.hid (apartRps_any w5.heap.size w23.heap.size (w29.heap.size + 2) 2 w29.heap.size (w29.heap.size + 1) 1 1 fr fq w30 (Go.Joins.cell_of_block k3 0) (Go.Joins.cell_of_block k3 1) (by omega) (fun j _ => (Go.Joins.cell_of_block k1 j).trans List.getElem?_toArray) (fun j _ => (Go.Joins.cell_of_block k2 j).trans List.getElem?_toArray) (own_block (n := 1) (size := 4) k1 z529 (by decide) rfl) (own_block (n := 1) (size := 4) k2 (by omega) (by decide) rfl) (by omega) o2 o5 o2.sub.1 o5.sub.1 L2.out L2'.out z523 (by omega) (by have := hr1.1; omega) (by have := hr2.1; omega) (fun x hx => by
          rcases List.mem_append.1 hx with hx | hx
          · rcases List.mem_append.1 hx with hx | hx
            · have := hr1.2.1 x hx; omega
            · rw [List.mem_singleton.1 hx]; have := hr1.2.2; show fr.said.length ≤ _; omega
          · rcases List.mem_append.1 hx with hx | hx
            · have := hr2.2.1 x hx; omega
            · rw [List.mem_singleton.1 hx]; have := hr2.2.2; show fq.said.length ≤ _; omega))
        clear o2 o5 hr1 hr2 k1 k2 k3 hA
        refine HAR.out.mono ?_
        rintro e w31 ⟨rfl, hb⟩
        have b31 := b30.trans (hb.mono (by omega))
        clear HAR
        go_wp2_with fail
        go_ret
        exact ⟨rfl, b31⟩
theorem walk_WireOne (W : World) (a0 : Option Addr) (n0 c0 : Nat) (xs : List Int) (e0 : xs.length = n0) (x0 : BytesIn W W.heap.size a0 xs) (w0 : BytesWf xs) (nil0 : a0 = none → c0 = 0) (h0 : n0 ≤ c0) (_ : c0 ≤ maxLen) (z0 : n0 * Tryz.prog.bytesOf 5 ≤ 140737488351232) :
    Calls Tryz.prog 4 #[.slice a0 n0 c0] W fun e w' => e = .returned (.bool true) ∧ Below W.heap.size W w' := by
  have hb1 : Tryz.prog.bytesOf 5 = 1 := by kernel_rfl
  rw [hb1] at z0
  exact walk_one W a0 n0 c0 xs e0 x0 w0 nil0 (by omega)
end Go.Proofs.YtnfldkebjeigiaaGreatDoor
