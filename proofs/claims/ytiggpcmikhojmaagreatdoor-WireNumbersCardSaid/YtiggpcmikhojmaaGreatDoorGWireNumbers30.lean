/- Both readers: Done of the document's; how long what is read is; a new reader's bytes lie far. Conditions: as each says. -/
import Derived.Test.YtiggpcmikhojmaaGreatDoorGWireNumbers25
import Derived.Test.YtiggpcmikhojmaaGreatDoorGWireNumbers27
import Derived.Test.YtiggpcmikhojmaaGreatDoorGWireNumbers28
import Derived.Test.YtiggpcmikhojmaaGreatDoorGWireNumbers29
import Derived.Test.YtiggpcmikhojmaaGreatDoorGWireNumbers0
import Derived.Test.YtiggpcmikhojmaaGreatDoorGWireNumbers8
set_option linter.unusedVariables false
namespace Go.Proofs.YtiggpcmikhojmaaGreatDoor
open Go.RowKit
set_option maxRecDepth 20000
theorem same_val_eq (t : TypeId) (h : t = 24) (a b : Int) (s : ByteArray) (w : World) : (binOp .eql t (.agg #[.int .u8 a, .int .i64 b, .string s]) (.agg #[.int .u8 a, .int .i64 b, .string s])).run Tryz.prog w = .ok (.bool true) w := by
  subst h
  simp [go_sem, Tryz.underlying24]
theorem valuesS_len {b : Bool} {l : List Int} (hl : BytesWf l) : (valuesS b l).1.length ≤ 65536 := rowsS_len valueS b l hl
theorem intsS_len {b : Bool} {l : List Int} (hl : BytesWf l) : (intsS b l).1.length ≤ 65536 := rowsS_len numS b l hl
theorem factS_len (b : Bool) (l : List Int) (hl : BytesWf l) : (factS b l).1.args.length ≤ 65536 := by
  unfold factS
  dsimp only
  have h1 := (numS_shrinks b l hl).1
  generalize numS b l = r1 at h1 ⊢
  obtain ⟨x1, b1, l1⟩ := r1
  dsimp only at h1 ⊢
  have h2 := (numS_shrinks b1 l1 h1).1
  generalize numS b1 l1 = r2 at h2 ⊢
  obtain ⟨x2, b2, l2⟩ := r2
  dsimp only at h2 ⊢
  have h5 := valuesS_len (b := b2) h2
  split
  · simp
  · exact h5
theorem commandS_len (b : Bool) (l : List Int) (hl : BytesWf l) : (commandS b l).1.args.length ≤ 65536 := by
  unfold commandS
  dsimp only
  have h1 := (kindS_shrinks b l hl).1
  generalize kindS b l = r1 at h1 ⊢
  obtain ⟨x1, b1, l1⟩ := r1
  dsimp only at h1 ⊢
  have h2 := (textS_shrinks b1 l1 h1).1
  generalize textS b1 l1 = r2 at h2 ⊢
  obtain ⟨x2, b2, l2⟩ := r2
  dsimp only at h2 ⊢
  have h3 := (numS_shrinks b2 l2 h2).1
  generalize numS b2 l2 = r3 at h3 ⊢
  obtain ⟨x3, b3, l3⟩ := r3
  dsimp only at h3 ⊢
  have h5 := valuesS_len (b := b3) h3
  split
  · simp
  · exact h5
theorem replyS_len (b : Bool) (l : List Int) (hl : BytesWf l) : (replyS b l).1.facts.length ≤ 65536 ∧ (∀ f ∈ (replyS b l).1.facts, f.args.length ≤ 65536) ∧ (replyS b l).1.said.length ≤ 65536 := by
  unfold replyS
  dsimp only
  have h1 := (numS_shrinks b l hl).1
  generalize numS b l = r1 at h1 ⊢
  obtain ⟨x1, b1, l1⟩ := r1
  dsimp only at h1 ⊢
  have h2 := (numS_shrinks b1 l1 h1).1
  generalize numS b1 l1 = r2 at h2 ⊢
  obtain ⟨x2, b2, l2⟩ := r2
  dsimp only at h2 ⊢
  have h6 : (factsS b2 l2).1.length ≤ 65536 := rowsS_len factS b2 l2 h2
  have h7 : ∀ f ∈ (factsS b2 l2).1, f.args.length ≤ 65536 := rowsS_all (P := fun f : FaP => f.args.length ≤ 65536) factS_len factS_shrinks b2 l2 h2
  have h3 := (factsS_shrinks b2 l2 h2).1
  generalize factsS b2 l2 = r3 at h3 h6 h7 ⊢
  obtain ⟨x3, b3, l3⟩ := r3
  dsimp only at h3 h6 h7 ⊢
  have h5 := valuesS_len (b := b3) h3
  split
  · exact ⟨by simp, by simp, by simp⟩
  · exact ⟨h6, h7, h5⟩
theorem entryS_len (b : Bool) (l : List Int) (hl : BytesWf l) : (entryS b l).1.args.length ≤ 65536 ∧ (entryS b l).1.vs.length ≤ 65536 := by
  unfold entryS
  dsimp only
  have h1 := (numS_shrinks b l hl).1
  generalize numS b l = r1 at h1 ⊢
  obtain ⟨x1, b1, l1⟩ := r1
  dsimp only at h1 ⊢
  have h2 := (kindS_shrinks b1 l1 h1).1
  generalize kindS b1 l1 = r2 at h2 ⊢
  obtain ⟨x2, b2, l2⟩ := r2
  dsimp only at h2 ⊢
  have h3 := (numS_shrinks b2 l2 h2).1
  generalize numS b2 l2 = r3 at h3 ⊢
  obtain ⟨x3, b3, l3⟩ := r3
  dsimp only at h3 ⊢
  have h4 := (numS_shrinks b3 l3 h3).1
  generalize numS b3 l3 = r4 at h4 ⊢
  obtain ⟨x4, b4, l4⟩ := r4
  dsimp only at h4 ⊢
  have h6 := commandS_len b4 l4 h4
  have h5 := (commandS_shrinks b4 l4 h4).1
  generalize commandS b4 l4 = r5 at h5 h6 ⊢
  obtain ⟨x5, b5, l5⟩ := r5
  dsimp only at h5 h6 ⊢
  have h7 := intsS_len (b := b5) h5
  split
  · exact ⟨by simp, by simp⟩
  · exact ⟨h6, h7⟩
/-- The document's Done. -/
theorem rdone_any (M db : Nat) (bad : Bool) (left : List Int) (w : World) (h : Ref w M db bad left) :
    Calls Tryz.prog 48 #[.pointer (some ⟨db, 0, none⟩)] w fun e w' => e = .returned (.bool (!bad && left.isEmpty)) ∧ Below w.heap.size w w' := by
  obtain ⟨k, ao, m, cap, xs, h, rfl⟩ := h
  have d0 : w.cell? ⟨db, 0, none⟩ = some (.slice ao m cap) := Go.Joins.cell_of_block h.blk 0
  have d1 : w.cell? ⟨db, 1, none⟩ = some (.int .i64 k) := Go.Joins.cell_of_block h.blk 1
  have d2 : w.cell? ⟨db, 2, none⟩ = some (.bool bad) := Go.Joins.cell_of_block h.blk 2
  have hkm := h.at_
  have hld : (xs.drop k).length = m - k := by rw [List.length_drop, h.len]
  have hle : (xs.drop k).isEmpty = decide (m - k = 0) := by
    rw [← hld]; cases xs.drop k <;> simp
  rw [hle]
  clear h hld hle
  cases bad with
  | true =>
    go_enter Tryz.func48, Tryz.ntmps48
    go_wp2_with fail
    go_quiet (fail)
    go_wp2_with fail
    go_ret
    exact ⟨rfl, below_drewN (Below.refl _ _) _⟩
  | false =>
    by_cases he : k = m
    · subst he
      go_enter Tryz.func48, Tryz.ntmps48
      go_wp2_with fail
      go_quiet (fail)
      go_wp2_with fail
      go_ret
      exact ⟨ret_bool (by simp), below_drewN (Below.refl _ _) _⟩
    · have j1 : ¬ (k : Int) = m := by omega
      have j2 : decide ((k : Int) = m) = false := by simp; omega
      have j3 : ((k : Int) == m) = false := by simp; omega
      have j4 : decide (k = m) = false := by simpa using he
      have j5 : (k == m) = false := by simpa using he
      have j6 : decide (m - k = 0) = false := by simp; omega
      rw [j6]
      go_enter Tryz.func48, Tryz.ntmps48
      go_wp2_with fail
      go_quiet (fail)
      go_wp2_with fail
      go_ret
      exact ⟨rfl, below_drewN (Below.refl _ _) _⟩
/-- A new reader's bytes are a copy: what is written below it changes nothing of it. -/
theorem newReader_far (ao : Option Addr) (n cap : Nat) (xs : List Int) (w : World) (B : Nat) (hn : xs.length = n) (hx : BytesIn w B ao xs) (hB : B ≤ w.heap.size) (hao : ao = none → cap = 0) (hl : n ≤ 140737488351232) :
    Calls Tryz.prog 16 #[.slice ao n cap] w fun e w' => ∃ rb a c, e = .returned (.pointer (some ⟨rb, 0, none⟩)) ∧ w.heap.size ≤ rb ∧ RdrIs w' rb rb false xs a c ∧ (∀ ad, a = some ad → w.heap.size ≤ ad.block) ∧ Below w.heap.size w w' := by
  subst hn
  have HX := Lib.hid hx
  have HA := Lib.hid hao
  clear hx hao
  go_enter Tryz.func16, Tryz.ntmps16
  go_wp2_with fail
  refine (clone_any ao cap xs w B HX.out hB HA.out hl).mono ?_
  rintro e w1 ⟨v, rfl, ho, hb⟩
  obtain ⟨a, c, hv⟩ := row_slice ho
  subst hv
  have HO := Lib.hid ho
  clear ho
  go_wp2_with fail
  go_ret
  have hA : Below w1.heap.size w1 (w1.alloc (.cells #[.bool true, .bool false, .slice a xs.length c] 85)) := (Below.refl _ _).alloc (Nat.le_refl _) _
  refine ⟨w1.heap.size, a, c, rfl, hb.size, ⟨heap_alloc_new w1 _, ?_, own_capG HO.out, own_none HO.out, by simp⟩, ?_, hb.alloc hb.size _⟩
  · rcases (own_bytes' HO.out) with h | ⟨b, off, h1, h2, h3⟩
    · exact Or.inl h
    · refine Or.inr ⟨b, off, h1, h2, by omega, fun i hi => ?_⟩
      rw [hA.cell (p := ⟨b, _, none⟩) h2]
      exact h3 i hi
  · intro ad e
    subst e
    exact (HO.out.lt ad.block rfl).1
theorem RdrIs.below {w w' : World} {M rb : Nat} {bad : Bool} {left : List Int} {a : Option Addr} {c : Nat} (h : RdrIs w M rb bad left a c) (hb : Below w.heap.size w w') : RdrIs w' M rb bad left a c :=
  ⟨(hb.block rb h.lt).trans h.blk, h.off.only h.le (Only.of_below hb), h.cap, h.nil, Nat.le_trans h.le hb.size⟩
theorem RdrIs.grownFar {w w' : World} {M rb g F : Nat} {bad : Bool} {left : List Int} {a : Option Addr} {c : Nat} (h : RdrIs w M rb bad left a c) (hg : w.grownBy w' (some g)) (hF : ∀ ad, a = some ad → F ≤ ad.block) (h1 : g < F) (h2 : g ≠ rb) : RdrIs w' M rb bad left a c := by
  refine ⟨(hg.block rb h.lt (fun e => h2 (by cases e; rfl))).trans h.blk, ?_, h.cap, h.nil, Nat.le_trans h.le hg.size⟩
  rcases h.off with h0 | ⟨b, off, e1, e2, e4, e3⟩
  · exact Or.inl h0
  · have := hF _ e1
    have hM := h.le
    exact Or.inr ⟨b, off, e1, e2, e4, fun j hj => (cell_block (hg.block b (by omega) (fun e => by cases e; simp at this; omega))).trans (e3 j hj)⟩
/- read of the law WireReads: both readers tell the same next. Conditions: both read the same bytes, from the same place on. -/
theorem sameCm_any (x y : Cm) (w : World) (B : Nat) (hp : x.plain = y.plain) (hx : ValsIn w B x.ao x.args) (hy : ValsIn w B y.ao y.args) (hB : B ≤ w.heap.size) (hl : x.args.length ≤ 4611686018427387904) :
    Calls Tryz.prog 74 #[cmVal x, cmVal y] w fun e w' => e = .returned (.bool true) ∧ Below w.heap.size w w' := by
  obtain ⟨k, t, ao, args, c, n⟩ := x
  obtain ⟨k2, t2, ao2, args2, c2, n2⟩ := y
  simp only [Cm.plain, CmP.mk.injEq] at hp
  obtain ⟨rfl, rfl, rfl, rfl⟩ := hp
  exact sameC_any k t n ao args.length c ao2 c2 args w B rfl hx hy hB hl
theorem VasOwn.valsR {w : World} {base n c : Nat} {a : Option Addr} {xs : List Va} (hn : xs.length = n) (h : VasOwn w base a n c xs) : ValsIn w w.heap.size a xs := own_rowsIn vaCells_len hn h (fun _ _ => trivial)
theorem IntsOwn.numsR {w : World} {base n c : Nat} {a : Option Addr} {xs : List Int} (hn : xs.length = n) (h : IntsOwn w base a n c xs) : NumsIn w w.heap.size a xs := own_rowsIn iCells_len hn h (fun _ _ => trivial)
theorem FasOwn.fasR {w : World} {base n c : Nat} {a : Option Addr} {xs : List Fa} (h : FasOwn w base a n c xs) : FasIn w w.heap.size a xs := own_rowsIn faCells_len h.len h.row (fun f hf => VasOwn.valsR rfl (h.own f hf))
/-- What read does: true, and both readers go on alike. -/
def ReadAt (M M2 rb db B len : Nat) (w : World) (r : Bool × List Int) (e : Ending) (w' : World) : Prop :=
  e = .returned (.bool true) ∧ Rdr w' M rb r.1 r.2 ∧ Ref w' M2 db r.1 r.2 ∧ Below B w w' ∧ BytesWf r.2 ∧ r.2.length ≤ len
/-- Where the readers stand behind a thing of the kind. -/
def behindS (q : Int) (b : Bool) (l : List Int) : Bool × List Int :=
  if q = 0 then (numS b l).2 else if q = 1 then (textS b l).2 else if q = 2 then (valueS b l).2 else if q = 3 then (valuesS b l).2 else if q = 4 then (factS b l).2 else if q = 5 then (commandS b l).2 else if q = 6 then (replyS b l).2 else (entryS b l).2
set_option maxHeartbeats 2000000 in
theorem read0_any (M M2 rb db B : Nat) (bad : Bool) (left : List Int) (what : Int) (w : World) (hq : what % 8 = 0) (hR : Rdr w M rb bad left) (hD : Ref w M2 db bad left) (hne : rb < db) (hM : M ≤ db) (hM2 : M2 ≤ rb) (hB : B ≤ rb) (hBw : B ≤ w.heap.size) (hw : BytesWf left) (hl : left.length ≤ 140737488351232) :
    Calls Tryz.prog 49 #[.pointer (some ⟨rb, 0, none⟩), .pointer (some ⟨db, 0, none⟩), .int .i64 what] w (ReadAt M M2 rb db B left.length w (numS bad left).2) := by
  have hp := pick_any what 8 (by decide) (by decide) w
  rw [hq] at hp
  have HP := Lib.hid hp
  have hdbs := hD.lt
  obtain ⟨⟨x, b2, l2⟩, hx⟩ : ∃ r, numS bad left = r := ⟨_, rfl⟩
  have hs := numS_shrinks bad left hw
  rw [hx] at hs ⊢
  dsimp only at hs
  obtain ⟨T, hT⟩ : ∃ T, ((x, b2, l2) : _ × Bool × List Int).2 = T := ⟨_, rfl⟩
  rw [hT]
  have HT := Lib.hid (show (b2, l2) = T from hT)
  have HR := Lib.hid hR
  have HD := Lib.hid hD
  have HX := Lib.hid hx
  have HW := Lib.hid hw
  have HS := Lib.hid hs
  clear hp hq hR hD hx hw hs hT
  go_enter Tryz.func49, Tryz.ntmps49
  go_wp2_with fail
  refine HP.out.mono ?_
  rintro e wp ⟨rfl, rfl⟩
  go_wp2_with fail
  refine (num_at M rb bad left x b2 l2 w HX.out HR.out HW.out hl).mono ?_
  rintro e w1 ⟨rfl, hr, ho⟩
  have R1 := Lib.hid hr
  have D1 := Lib.hid (HD.out.only2 ho (by omega) hM2)
  have B1 := Lib.hid (ho.toBelow hBw hB)
  have hz1 := ho.1
  clear hr ho HR HD
  go_wp2_with fail
  refine (rnum_any M2 db bad left x b2 l2 w1 HX.out D1.out HW.out).mono ?_
  rintro e w2 ⟨rfl, hr, ho⟩
  have R2 := Lib.hid (R1.out.only2 ho (by omega) hM)
  have D2 := Lib.hid hr
  have B2 := Lib.hid (B1.out.trans (ho.toBelow (by omega) (by omega)))
  clear hr ho R1 D1 B1
  go_wp2_with fail
  go_ret
  have hT := HT.out
  subst hT
  exact ⟨rfl, R2.out, D2.out, B2.out, HS.out.1, HS.out.2⟩
set_option maxHeartbeats 2000000 in
theorem read1_any (M M2 rb db B : Nat) (bad : Bool) (left : List Int) (what : Int) (w : World) (hq : what % 8 = 1) (hR : Rdr w M rb bad left) (hD : Ref w M2 db bad left) (hne : rb < db) (hM : M ≤ db) (hM2 : M2 ≤ rb) (hB : B ≤ rb) (hBw : B ≤ w.heap.size) (hw : BytesWf left) (hl : left.length ≤ 140737488351232) :
    Calls Tryz.prog 49 #[.pointer (some ⟨rb, 0, none⟩), .pointer (some ⟨db, 0, none⟩), .int .i64 what] w (ReadAt M M2 rb db B left.length w (textS bad left).2) := by
  have hp := pick_any what 8 (by decide) (by decide) w
  rw [hq] at hp
  have HP := Lib.hid hp
  have hdbs := hD.lt
  obtain ⟨⟨x, b2, l2⟩, hx⟩ : ∃ r, textS bad left = r := ⟨_, rfl⟩
  have hs := textS_shrinks bad left hw
  rw [hx] at hs ⊢
  dsimp only at hs
  obtain ⟨T, hT⟩ : ∃ T, ((x, b2, l2) : _ × Bool × List Int).2 = T := ⟨_, rfl⟩
  rw [hT]
  have HT := Lib.hid (show (b2, l2) = T from hT)
  have HR := Lib.hid hR
  have HD := Lib.hid hD
  have HX := Lib.hid hx
  have HW := Lib.hid hw
  have HS := Lib.hid hs
  clear hp hq hR hD hx hw hs hT
  go_enter Tryz.func49, Tryz.ntmps49
  go_wp2_with fail
  refine HP.out.mono ?_
  rintro e wp ⟨rfl, rfl⟩
  go_wp2_with fail
  refine (text_at M rb bad left x b2 l2 w HX.out HR.out HW.out hl).mono ?_
  rintro e w1 ⟨rfl, hr, ho⟩
  have R1 := Lib.hid hr
  have D1 := Lib.hid (HD.out.only2 ho (by omega) hM2)
  have B1 := Lib.hid (ho.toBelow hBw hB)
  have hz1 := ho.1
  clear hr ho HR HD
  go_wp2_with fail
  refine (rtext_any M2 db bad left x b2 l2 w1 HX.out D1.out HW.out).mono ?_
  rintro e w2 ⟨rfl, hr, ho⟩
  have R2 := Lib.hid (R1.out.only2 ho (by omega) hM)
  have D2 := Lib.hid hr
  have B2 := Lib.hid (B1.out.trans (ho.toBelow (by omega) (by omega)))
  clear hr ho R1 D1 B1
  go_wp2_with fail
  go_ret
  have hT := HT.out
  subst hT
  exact ⟨rfl, R2.out, D2.out, B2.out, HS.out.1, HS.out.2⟩
set_option maxHeartbeats 2000000 in
theorem read2_any (M M2 rb db B : Nat) (bad : Bool) (left : List Int) (what : Int) (w : World) (hq : what % 8 = 2) (hR : Rdr w M rb bad left) (hD : Ref w M2 db bad left) (hne : rb < db) (hM : M ≤ db) (hM2 : M2 ≤ rb) (hB : B ≤ rb) (hBw : B ≤ w.heap.size) (hw : BytesWf left) (hl : left.length ≤ 140737488351232) :
    Calls Tryz.prog 49 #[.pointer (some ⟨rb, 0, none⟩), .pointer (some ⟨db, 0, none⟩), .int .i64 what] w (ReadAt M M2 rb db B left.length w (valueS bad left).2) := by
  have hp := pick_any what 8 (by decide) (by decide) w
  rw [hq] at hp
  have HP := Lib.hid hp
  have hdbs := hD.lt
  obtain ⟨⟨x, b2, l2⟩, hx⟩ : ∃ r, valueS bad left = r := ⟨_, rfl⟩
  have hs := valueS_shrinks bad left hw
  rw [hx] at hs ⊢
  dsimp only at hs
  obtain ⟨T, hT⟩ : ∃ T, ((x, b2, l2) : _ × Bool × List Int).2 = T := ⟨_, rfl⟩
  rw [hT]
  have HT := Lib.hid (show (b2, l2) = T from hT)
  have HR := Lib.hid hR
  have HD := Lib.hid hD
  have HX := Lib.hid hx
  have HW := Lib.hid hw
  have HS := Lib.hid hs
  clear hp hq hR hD hx hw hs hT
  go_enter Tryz.func49, Tryz.ntmps49
  go_wp2_with fail
  refine HP.out.mono ?_
  rintro e wp ⟨rfl, rfl⟩
  go_wp2_with fail
  refine (value_at M rb bad left x b2 l2 w HX.out HR.out HW.out hl).mono ?_
  rintro e w1 ⟨he, hr, ho⟩
  unfold Va.val at he
  subst he
  have heq := fun w => same_val_eq 24 rfl x.kind x.num x.text w
  have R1 := Lib.hid hr
  have D1 := Lib.hid (HD.out.only2 ho (by omega) hM2)
  have B1 := Lib.hid (ho.toBelow hBw hB)
  have hz1 := ho.1
  clear hr ho HR HD
  go_wp2_with fail
  refine (rvalue_any M2 db bad left x b2 l2 w1 HX.out D1.out HW.out).mono ?_
  rintro e w2 ⟨he, hr, ho⟩
  unfold Va.val at he
  subst he
  have R2 := Lib.hid (R1.out.only2 ho (by omega) hM)
  have D2 := Lib.hid hr
  have B2 := Lib.hid (B1.out.trans (ho.toBelow (by omega) (by omega)))
  clear hr ho R1 D1 B1
  go_wp2_with fail
  go_ret
  have hT := HT.out
  subst hT
  exact ⟨rfl, R2.out, D2.out, B2.out, HS.out.1, HS.out.2⟩
set_option maxHeartbeats 2000000 in
theorem read3_any (M M2 rb db B : Nat) (bad : Bool) (left : List Int) (what : Int) (w : World) (hq : what % 8 = 3) (hR : Rdr w M rb bad left) (hD : Ref w M2 db bad left) (hne : rb < db) (hM : M ≤ db) (hM2 : M2 ≤ rb) (hB : B ≤ rb) (hBw : B ≤ w.heap.size) (hw : BytesWf left) (hl : left.length ≤ 140737488351232) :
    Calls Tryz.prog 49 #[.pointer (some ⟨rb, 0, none⟩), .pointer (some ⟨db, 0, none⟩), .int .i64 what] w (ReadAt M M2 rb db B left.length w (valuesS bad left).2) := by
  have hp := pick_any what 8 (by decide) (by decide) w
  rw [hq] at hp
  have HP := Lib.hid hp
  have hdbs := hD.lt
  obtain ⟨⟨x, b2, l2⟩, hx⟩ : ∃ r, valuesS bad left = r := ⟨_, rfl⟩
  have hs := valuesS_shrinks bad left hw
  have hlen := valuesS_len (b := bad) hw
  rw [hx] at hs hlen ⊢
  dsimp only at hs hlen
  obtain ⟨T, hT⟩ : ∃ T, ((x, b2, l2) : _ × Bool × List Int).2 = T := ⟨_, rfl⟩
  rw [hT]
  have HT := Lib.hid (show (b2, l2) = T from hT)
  have HR := Lib.hid hR
  have HD := Lib.hid hD
  have HX := Lib.hid hx
  have HW := Lib.hid hw
  have HS := Lib.hid hs
  clear hp hq hR hD hx hw hs hT
  go_enter Tryz.func49, Tryz.ntmps49
  go_wp2_with fail
  refine HP.out.mono ?_
  rintro e wp ⟨rfl, rfl⟩
  go_wp2_with fail
  refine (values_at M rb bad left x b2 l2 w HX.out HR.out HW.out hl).mono ?_
  rintro e w1 ⟨a1, n1, c1, hn1, rfl, hown1, hr, ho⟩
  have R1 := Lib.hid hr
  have D1 := Lib.hid (HD.out.only2 ho (by omega) hM2)
  have B1 := Lib.hid (ho.toBelow hBw hB)
  have hz1 := ho.1
  have H1 := Lib.hid hown1
  have HN1 := Lib.hid hn1
  clear hown1 hn1
  clear hr ho HR HD
  go_wp2_with fail
  refine (rvalues_any M2 db bad left x b2 l2 w1 HX.out D1.out HW.out).mono ?_
  rintro e w2 ⟨a2, n2, c2, hn2, rfl, hown2, hr, ho⟩
  have R2 := Lib.hid (R1.out.only2 ho (by omega) hM)
  have D2 := Lib.hid hr
  have B2 := Lib.hid (B1.out.trans (ho.toBelow (by omega) (by omega)))
  have H3 := Lib.hid (H1.out.only ho hdbs)
  have H4 := Lib.hid hown2
  have HN2 := Lib.hid hn2
  have hlx := HN1.out
  have hz2 : B ≤ w2.heap.size := by have := ho.1; omega
  clear hr ho R1 D1 B1 hown2 hn2 H1
  go_wp2_with fail
  refine (sameV_any a1 n1 c1 a2 n2 c2 x w2 w2.heap.size HN1.out HN2.out (VasOwn.valsR HN1.out H3.out) (VasOwn.valsR HN2.out H4.out) (Nat.le_refl _) (by omega)).mono ?_
  rintro e w3 ⟨rfl, hb⟩
  have R3 := Lib.hid (R2.out.below hb)
  have D3 := Lib.hid (D2.out.below hb)
  have B3 := Lib.hid (B2.out.trans (hb.mono hz2))
  clear hb R2 D2 B2
  go_wp2_with fail
  go_ret
  have hT := HT.out
  subst hT
  exact ⟨rfl, R3.out, D3.out, B3.out, HS.out.1, HS.out.2⟩
set_option maxHeartbeats 2000000 in
theorem read4_any (M M2 rb db B : Nat) (bad : Bool) (left : List Int) (what : Int) (w : World) (hq : what % 8 = 4) (hR : Rdr w M rb bad left) (hD : Ref w M2 db bad left) (hne : rb < db) (hM : M ≤ db) (hM2 : M2 ≤ rb) (hB : B ≤ rb) (hBw : B ≤ w.heap.size) (hw : BytesWf left) (hl : left.length ≤ 140737488351232) :
    Calls Tryz.prog 49 #[.pointer (some ⟨rb, 0, none⟩), .pointer (some ⟨db, 0, none⟩), .int .i64 what] w (ReadAt M M2 rb db B left.length w (factS bad left).2) := by
  have hp := pick_any what 8 (by decide) (by decide) w
  rw [hq] at hp
  have HP := Lib.hid hp
  have hdbs := hD.lt
  obtain ⟨⟨x, b2, l2⟩, hx⟩ : ∃ r, factS bad left = r := ⟨_, rfl⟩
  have hs := factS_shrinks bad left hw
  have hlen := factS_len bad left hw
  rw [hx] at hs hlen ⊢
  dsimp only at hs hlen
  obtain ⟨T, hT⟩ : ∃ T, ((x, b2, l2) : _ × Bool × List Int).2 = T := ⟨_, rfl⟩
  rw [hT]
  have HT := Lib.hid (show (b2, l2) = T from hT)
  have HR := Lib.hid hR
  have HD := Lib.hid hD
  have HX := Lib.hid hx
  have HW := Lib.hid hw
  have HS := Lib.hid hs
  clear hp hq hR hD hx hw hs hT
  go_enter Tryz.func49, Tryz.ntmps49
  go_wp2_with fail
  refine HP.out.mono ?_
  rintro e wp ⟨rfl, rfl⟩
  go_wp2_with fail
  refine (rdFact_any M rb bad left (x, b2, l2) w HX.out HR.out HW.out hl).mono ?_
  rintro e w1 ⟨f1, hp1, rfl, hown1, hr, ho⟩
  have R1 := Lib.hid hr
  have D1 := Lib.hid (HD.out.only2 ho (by omega) hM2)
  have B1 := Lib.hid (ho.toBelow hBw hB)
  have hz1 := ho.1
  have H1 := Lib.hid hown1
  have HP1 := Lib.hid hp1
  clear hown1 hp1
  clear hr ho HR HD
  go_wp2_with fail
  refine (rrFact_any M2 db bad left (x, b2, l2) w1 HX.out D1.out HW.out).mono ?_
  rintro e w2 ⟨f2, hp2, rfl, hown2, hr, ho⟩
  have R2 := Lib.hid (R1.out.only2 ho (by omega) hM)
  have D2 := Lib.hid hr
  have B2 := Lib.hid (B1.out.trans (ho.toBelow (by omega) (by omega)))
  have H3 := Lib.hid (VasOwn.only H1.out ho hdbs)
  have H4 := Lib.hid hown2
  have HP2 := Lib.hid hp2
  have hla : f1.args.length ≤ 65536 := by rw [show f1.args = x.args from congrArg FaP.args HP1.out]; exact hlen
  have hz2 : B ≤ w2.heap.size := by have := ho.1; omega
  clear hr ho R1 D1 B1 hown2 hp2 H1
  go_wp2_with fail
  refine (sameFa_any f1 f2 w2 w2.heap.size (HP1.out.trans HP2.out.symm) (VasOwn.valsR rfl H3.out) (VasOwn.valsR rfl H4.out) (Nat.le_refl _) (by omega)).mono ?_
  rintro e w3 ⟨rfl, hb⟩
  have R3 := Lib.hid (R2.out.below hb)
  have D3 := Lib.hid (D2.out.below hb)
  have B3 := Lib.hid (B2.out.trans (hb.mono hz2))
  clear hb R2 D2 B2
  go_wp2_with fail
  go_ret
  have hT := HT.out
  subst hT
  exact ⟨rfl, R3.out, D3.out, B3.out, HS.out.1, HS.out.2⟩
set_option maxHeartbeats 2000000 in
theorem read5_any (M M2 rb db B : Nat) (bad : Bool) (left : List Int) (what : Int) (w : World) (hq : what % 8 = 5) (hR : Rdr w M rb bad left) (hD : Ref w M2 db bad left) (hne : rb < db) (hM : M ≤ db) (hM2 : M2 ≤ rb) (hB : B ≤ rb) (hBw : B ≤ w.heap.size) (hw : BytesWf left) (hl : left.length ≤ 140737488351232) :
    Calls Tryz.prog 49 #[.pointer (some ⟨rb, 0, none⟩), .pointer (some ⟨db, 0, none⟩), .int .i64 what] w (ReadAt M M2 rb db B left.length w (commandS bad left).2) := by
  have hp := pick_any what 8 (by decide) (by decide) w
  rw [hq] at hp
  have HP := Lib.hid hp
  have hdbs := hD.lt
  obtain ⟨⟨x, b2, l2⟩, hx⟩ : ∃ r, commandS bad left = r := ⟨_, rfl⟩
  have hs := commandS_shrinks bad left hw
  have hlen := commandS_len bad left hw
  rw [hx] at hs hlen ⊢
  dsimp only at hs hlen
  obtain ⟨T, hT⟩ : ∃ T, ((x, b2, l2) : _ × Bool × List Int).2 = T := ⟨_, rfl⟩
  rw [hT]
  have HT := Lib.hid (show (b2, l2) = T from hT)
  have HR := Lib.hid hR
  have HD := Lib.hid hD
  have HX := Lib.hid hx
  have HW := Lib.hid hw
  have HS := Lib.hid hs
  clear hp hq hR hD hx hw hs hT
  go_enter Tryz.func49, Tryz.ntmps49
  go_wp2_with fail
  refine HP.out.mono ?_
  rintro e wp ⟨rfl, rfl⟩
  go_wp2_with fail
  refine (rdCommand_any M rb bad left (x, b2, l2) w HX.out HR.out HW.out hl).mono ?_
  rintro e w1 ⟨f1, hp1, rfl, hown1, hr, ho⟩
  have R1 := Lib.hid hr
  have D1 := Lib.hid (HD.out.only2 ho (by omega) hM2)
  have B1 := Lib.hid (ho.toBelow hBw hB)
  have hz1 := ho.1
  have H1 := Lib.hid hown1
  have HP1 := Lib.hid hp1
  clear hown1 hp1
  clear hr ho HR HD
  go_wp2_with fail
  refine (rrCommand_any M2 db bad left (x, b2, l2) w1 HX.out D1.out HW.out).mono ?_
  rintro e w2 ⟨f2, hp2, rfl, hown2, hr, ho⟩
  have R2 := Lib.hid (R1.out.only2 ho (by omega) hM)
  have D2 := Lib.hid hr
  have B2 := Lib.hid (B1.out.trans (ho.toBelow (by omega) (by omega)))
  have H3 := Lib.hid (VasOwn.only H1.out ho hdbs)
  have H4 := Lib.hid hown2
  have HP2 := Lib.hid hp2
  have hla : f1.args.length ≤ 65536 := by rw [show f1.args = x.args from congrArg CmP.args HP1.out]; exact hlen
  have hz2 : B ≤ w2.heap.size := by have := ho.1; omega
  clear hr ho R1 D1 B1 hown2 hp2 H1
  go_wp2_with fail
  refine (sameCm_any f1 f2 w2 w2.heap.size (HP1.out.trans HP2.out.symm) (VasOwn.valsR rfl H3.out) (VasOwn.valsR rfl H4.out) (Nat.le_refl _) (by omega)).mono ?_
  rintro e w3 ⟨rfl, hb⟩
  have R3 := Lib.hid (R2.out.below hb)
  have D3 := Lib.hid (D2.out.below hb)
  have B3 := Lib.hid (B2.out.trans (hb.mono hz2))
  clear hb R2 D2 B2
  go_wp2_with fail
  go_ret
  have hT := HT.out
  subst hT
  exact ⟨rfl, R3.out, D3.out, B3.out, HS.out.1, HS.out.2⟩
set_option maxHeartbeats 2000000 in
theorem read6_any (M M2 rb db B : Nat) (bad : Bool) (left : List Int) (what : Int) (w : World) (hq : what % 8 = 6) (hR : Rdr w M rb bad left) (hD : Ref w M2 db bad left) (hne : rb < db) (hM : M ≤ db) (hM2 : M2 ≤ rb) (hB : B ≤ rb) (hBw : B ≤ w.heap.size) (hw : BytesWf left) (hl : left.length ≤ 140737488351232) :
    Calls Tryz.prog 49 #[.pointer (some ⟨rb, 0, none⟩), .pointer (some ⟨db, 0, none⟩), .int .i64 what] w (ReadAt M M2 rb db B left.length w (replyS bad left).2) := by
  have hp := pick_any what 8 (by decide) (by decide) w
  rw [hq] at hp
  have HP := Lib.hid hp
  have hdbs := hD.lt
  obtain ⟨⟨x, b2, l2⟩, hx⟩ : ∃ r, replyS bad left = r := ⟨_, rfl⟩
  have hs := replyS_shrinks bad left hw
  have hlen := replyS_len bad left hw
  rw [hx] at hs hlen ⊢
  dsimp only at hs hlen
  obtain ⟨T, hT⟩ : ∃ T, ((x, b2, l2) : _ × Bool × List Int).2 = T := ⟨_, rfl⟩
  rw [hT]
  have HT := Lib.hid (show (b2, l2) = T from hT)
  have HR := Lib.hid hR
  have HD := Lib.hid hD
  have HX := Lib.hid hx
  have HW := Lib.hid hw
  have HS := Lib.hid hs
  clear hp hq hR hD hx hw hs hT
  go_enter Tryz.func49, Tryz.ntmps49
  go_wp2_with fail
  refine HP.out.mono ?_
  rintro e wp ⟨rfl, rfl⟩
  go_wp2_with fail
  refine (rdReply_any M rb bad left (x, b2, l2) w HX.out HR.out HW.out hl).mono ?_
  rintro e w1 ⟨f1, hp1, rfl, ⟨howna1, hownb1⟩, hr, ho⟩
  have R1 := Lib.hid hr
  have D1 := Lib.hid (HD.out.only2 ho (by omega) hM2)
  have B1 := Lib.hid (ho.toBelow hBw hB)
  have hz1 := ho.1
  have HA1 := Lib.hid howna1
  have HB1 := Lib.hid hownb1
  have HP1 := Lib.hid hp1
  clear howna1 hownb1 hp1
  clear hr ho HR HD
  go_wp2_with fail
  refine (rrReply_any M2 db bad left (x, b2, l2) w1 HX.out D1.out HW.out).mono ?_
  rintro e w2 ⟨f2, hp2, rfl, ⟨howna2, hownb2⟩, hr, ho⟩
  have R2 := Lib.hid (R1.out.only2 ho (by omega) hM)
  have D2 := Lib.hid hr
  have B2 := Lib.hid (B1.out.trans (ho.toBelow (by omega) (by omega)))
  have H3 := Lib.hid (FasOwn.only HA1.out ho hdbs)
  have H4 := Lib.hid (VasOwn.only HB1.out ho hdbs)
  have H5 := Lib.hid howna2
  have H6 := Lib.hid hownb2
  have HP2 := Lib.hid hp2
  have hfx : f1.facts.map Fa.plain = x.facts := congrArg RpP.facts HP1.out
  have hla : f1.facts.length ≤ 65536 := by have := hlen.1; rw [← hfx, List.length_map] at this; exact this
  have hlb : ∀ f ∈ f1.facts, f.args.length ≤ 1099511627776 := fun f hf => by have := hlen.2.1 f.plain (by rw [← hfx]; exact List.mem_map_of_mem hf); have : f.args.length ≤ 65536 := this; omega
  have hlc : f1.said.length ≤ 65536 := by rw [show f1.said = x.said from congrArg RpP.said HP1.out]; exact hlen.2.2
  have hz2 : B ≤ w2.heap.size := by have := ho.1; omega
  clear hr ho R1 D1 B1 howna2 hownb2 hp2 HA1 HB1
  go_wp2_with fail
  refine (sameRp_any f1 f2 w2 w2.heap.size (HP1.out.trans HP2.out.symm) ⟨H3.out.fasR, VasOwn.valsR rfl H4.out⟩ ⟨H5.out.fasR, VasOwn.valsR rfl H6.out⟩ (Nat.le_refl _) (by omega) hlb (by omega)).mono ?_
  rintro e w3 ⟨rfl, hb⟩
  have R3 := Lib.hid (R2.out.below hb)
  have D3 := Lib.hid (D2.out.below hb)
  have B3 := Lib.hid (B2.out.trans (hb.mono hz2))
  clear hb R2 D2 B2
  go_wp2_with fail
  go_ret
  have hT := HT.out
  subst hT
  exact ⟨rfl, R3.out, D3.out, B3.out, HS.out.1, HS.out.2⟩
set_option maxHeartbeats 2000000 in
theorem read7_any (M M2 rb db B : Nat) (bad : Bool) (left : List Int) (what : Int) (w : World) (hq : what % 8 = 7) (hR : Rdr w M rb bad left) (hD : Ref w M2 db bad left) (hne : rb < db) (hM : M ≤ db) (hM2 : M2 ≤ rb) (hB : B ≤ rb) (hBw : B ≤ w.heap.size) (hw : BytesWf left) (hl : left.length ≤ 140737488351232) :
    Calls Tryz.prog 49 #[.pointer (some ⟨rb, 0, none⟩), .pointer (some ⟨db, 0, none⟩), .int .i64 what] w (ReadAt M M2 rb db B left.length w (entryS bad left).2) := by
  have hp := pick_any what 8 (by decide) (by decide) w
  rw [hq] at hp
  have HP := Lib.hid hp
  have hdbs := hD.lt
  obtain ⟨⟨x, b2, l2⟩, hx⟩ : ∃ r, entryS bad left = r := ⟨_, rfl⟩
  have hs := entryS_shrinks bad left hw
  have hlen := entryS_len bad left hw
  rw [hx] at hs hlen ⊢
  dsimp only at hs hlen
  obtain ⟨T, hT⟩ : ∃ T, ((x, b2, l2) : _ × Bool × List Int).2 = T := ⟨_, rfl⟩
  rw [hT]
  have HT := Lib.hid (show (b2, l2) = T from hT)
  have HR := Lib.hid hR
  have HD := Lib.hid hD
  have HX := Lib.hid hx
  have HW := Lib.hid hw
  have HS := Lib.hid hs
  clear hp hq hR hD hx hw hs hT
  go_enter Tryz.func49, Tryz.ntmps49
  go_wp2_with fail
  refine HP.out.mono ?_
  rintro e wp ⟨rfl, rfl⟩
  go_wp2_with fail
  refine (rdEntry_any M rb bad left (x, b2, l2) w HX.out HR.out HW.out hl).mono ?_
  rintro e w1 ⟨f1, hp1, rfl, ⟨howna1, hownb1⟩, hr, ho⟩
  have R1 := Lib.hid hr
  have D1 := Lib.hid (HD.out.only2 ho (by omega) hM2)
  have B1 := Lib.hid (ho.toBelow hBw hB)
  have hz1 := ho.1
  have HA1 := Lib.hid howna1
  have HB1 := Lib.hid hownb1
  have HP1 := Lib.hid hp1
  clear howna1 hownb1 hp1
  clear hr ho HR HD
  go_wp2_with fail
  refine (rrEntry_any M2 db bad left (x, b2, l2) w1 HX.out D1.out HW.out).mono ?_
  rintro e w2 ⟨f2, hp2, rfl, ⟨howna2, hownb2⟩, hr, ho⟩
  have R2 := Lib.hid (R1.out.only2 ho (by omega) hM)
  have D2 := Lib.hid hr
  have B2 := Lib.hid (B1.out.trans (ho.toBelow (by omega) (by omega)))
  have H3 := Lib.hid (VasOwn.only HA1.out ho hdbs)
  have H4 := Lib.hid (IntsOwn.only HB1.out ho hdbs)
  have H5 := Lib.hid howna2
  have H6 := Lib.hid hownb2
  have HP2 := Lib.hid hp2
  have hla : f1.args.length ≤ 65536 := by rw [show f1.args = x.args from congrArg EnP.args HP1.out]; exact hlen.1
  have hlb : f1.vs.length ≤ 65536 := by rw [show f1.vs = x.vs from congrArg EnP.vs HP1.out]; exact hlen.2
  have hz2 : B ≤ w2.heap.size := by have := ho.1; omega
  clear hr ho R1 D1 B1 howna2 hownb2 hp2 HA1 HB1
  go_wp2_with fail
  refine (sameE_any f1 f2 w2 w2.heap.size (HP1.out.trans HP2.out.symm) ⟨VasOwn.valsR rfl H3.out, IntsOwn.numsR rfl H4.out⟩ ⟨VasOwn.valsR rfl H5.out, IntsOwn.numsR rfl H6.out⟩ (Nat.le_refl _) (by omega) (by omega)).mono ?_
  rintro e w3 ⟨rfl, hb⟩
  have R3 := Lib.hid (R2.out.below hb)
  have D3 := Lib.hid (D2.out.below hb)
  have B3 := Lib.hid (B2.out.trans (hb.mono hz2))
  clear hb R2 D2 B2
  go_wp2_with fail
  go_ret
  have hT := HT.out
  subst hT
  exact ⟨rfl, R3.out, D3.out, B3.out, HS.out.1, HS.out.2⟩
theorem read_any (M M2 rb db B : Nat) (bad : Bool) (left : List Int) (what : Int) (w : World) (hR : Rdr w M rb bad left) (hD : Ref w M2 db bad left) (hne : rb < db) (hM : M ≤ db) (hM2 : M2 ≤ rb) (hB : B ≤ rb) (hBw : B ≤ w.heap.size) (hw : BytesWf left) (hl : left.length ≤ 140737488351232) :
    Calls Tryz.prog 49 #[.pointer (some ⟨rb, 0, none⟩), .pointer (some ⟨db, 0, none⟩), .int .i64 what] w (ReadAt M M2 rb db B left.length w (behindS (what % 8) bad left)) := by
  have h0 := Int.emod_nonneg what (show (8 : Int) ≠ 0 by decide)
  have h1 := Int.emod_lt_of_pos what (show (0 : Int) < 8 by decide)
  have hc : what % 8 = 0 ∨ what % 8 = 1 ∨ what % 8 = 2 ∨ what % 8 = 3 ∨ what % 8 = 4 ∨ what % 8 = 5 ∨ what % 8 = 6 ∨ what % 8 = 7 := by omega
  unfold behindS
  rcases hc with h | h | h | h | h | h | h | h
  · rw [h]; exact read0_any M M2 rb db B bad left what w h hR hD hne hM hM2 hB hBw hw hl
  · rw [h]; exact read1_any M M2 rb db B bad left what w h hR hD hne hM hM2 hB hBw hw hl
  · rw [h]; exact read2_any M M2 rb db B bad left what w h hR hD hne hM hM2 hB hBw hw hl
  · rw [h]; exact read3_any M M2 rb db B bad left what w h hR hD hne hM hM2 hB hBw hw hl
  · rw [h]; exact read4_any M M2 rb db B bad left what w h hR hD hne hM hM2 hB hBw hw hl
  · rw [h]; exact read5_any M M2 rb db B bad left what w h hR hD hne hM hM2 hB hBw hw hl
  · rw [h]; exact read6_any M M2 rb db B bad left what w h hR hD hne hM hM2 hB hBw hw hl
  · rw [h]; exact read7_any M M2 rb db B bad left what w h hR hD hne hM hM2 hB hBw hw hl
end Go.Proofs.YtiggpcmikhojmaaGreatDoor
/- What is written between two marks of the heap, and nothing else. No program. Conditions: as each says. -/
namespace Go.Proofs.YtiggpcmikhojmaaGreatDoor
open Go.RowKit
set_option maxRecDepth 20000
/-- Neither below B anything is changed, nor of what is from T on. -/
structure Mid (B T : Nat) (w w' : World) : Prop where
  below : Below B w w'
  far : ∀ b, T ≤ b → b < w.heap.size → w'.heap[b]? = w.heap[b]?
theorem Mid.refl (B T : Nat) (w : World) : Mid B T w w := ⟨Below.refl _ _, fun _ _ _ => rfl⟩
theorem Mid.trans_below {B T : Nat} {w w' w'' : World} (h : Mid B T w w') (hb : Below w'.heap.size w' w'') (hB : B ≤ w'.heap.size) : Mid B T w w'' :=
  ⟨h.below.trans (hb.mono hB), fun b h1 h2 => (hb.block b (Nat.lt_of_lt_of_le h2 h.below.size)).trans (h.far b h1 h2)⟩
theorem Mid.grown {B T g : Nat} {w w' w'' : World} (h : Mid B T w w') (hg : w'.grownBy w'' (some g)) (hB : B ≤ w'.heap.size) (h1 : B ≤ g) (h2 : g < T) : Mid B T w w'' :=
  ⟨h.below.grown hg hB (fun b hb => by cases hb; exact h1), fun b h3 h4 => (hg.block b (Nat.lt_of_lt_of_le h4 h.below.size) (by intro he; cases he; omega)).trans (h.far b h3 h4)⟩
theorem Mid.bytes {B T C : Nat} {w w' : World} {a : Option Addr} {L : List Int} (h : Mid B T w w') (hx : BytesIn w C a L) (hC : C ≤ w.heap.size) (ha : ∀ ad, a = some ad → T ≤ ad.block) : BytesIn w' C a L := by
  rcases hx with h0 | ⟨b, off, h1, h2, h3⟩
  · exact Or.inl h0
  · refine Or.inr ⟨b, off, h1, h2, fun i hi => ?_⟩
    have hT : T ≤ b := ha _ h1
    rw [← h3 i hi]
    simp [World.cell?, h.far b hT (by omega)]
/-- Appending bytes; where the longer row lies. -/
theorem wpList_append_bytes_at {w : World} {ops : Array Oper} {rest : List Oper} {o : Oper} {a : Act} {Q : Exit → Act → World → Prop} (hgd : o.guard = none) (s x : Operand)
    (ho : o.op = .call { callee := .builtin .append, args := #[s, x], argTypes := #[43, 43] })
    (base : Nat) (v : Value) (l : List Int) (m : Nat) (hm : l.length = m) (hs : a.eval s = v) (hown : w.ownsRow base 5 1 v m (l.map bv))
    (ao : Option Addr) (n cap : Nat) (xs : List Int) (hn : xs.length = n) (hx : a.eval x = .slice ao n cap) (B : Nat) (hin : BytesIn w B ao xs) (hao : ao = none → cap = 0) (hlim : m + n ≤ 140737488351232) (hbase : base ≤ w.heap.size)
    (h : ∀ v' w', w'.ownsRow base 5 1 v' (m + n) ((l ++ xs).map bv) → w.grownBy w' v.ownBlock → (v'.ownBlock = v.ownBlock ∨ v'.ownBlock = some w.heap.size) → wpList Tryz.prog ops Q rest (a.put o.dst v') w') : wpList Tryz.prog ops Q (o :: rest) a w := by
  obtain ⟨i0, hi, hz0, hz1, hz2⟩ := info_parts infoByte
  subst hm hn
  cases ao with
  | none =>
    have hnil : xs = [] := by
      rcases hin with h | ⟨b, off, h1, _⟩
      · exact h
      · cases h1
    subst hnil
    rw [hao rfl] at hx
    refine wpList_append_own_none hgd s x _ ho base 5 i0 1 Tryz.underlying43 hi v l.length _ hs hown hx ?_
    refine h v w (by simpa using hown) ?_ (Or.inl rfl)
    exact World.grownBy.refl _ _
  | some ad =>
    refine wpList_append_own_at _ hgd s x _ ho base 5 i0 (.int .u8 0) 1 1 Tryz.underlying43 hi hz0 hz1 hz2 rfl (by decide) v l.length _ hs hown ad xs.length cap (xs.map bv) hx (by simp) ?_ (bytes_oneCell _) (by unfold maxLen; omega) (by omega) hbase ?_
    · intro j u hu
      exact cells_of_bytes hin (Below.refl _ _) rfl hu
    · intro v' w' h1 h2 _ h3
      refine h v' w' ?_ h2 h3
      rw [List.map_append]
      exact h1
end Go.Proofs.YtiggpcmikhojmaaGreatDoor
