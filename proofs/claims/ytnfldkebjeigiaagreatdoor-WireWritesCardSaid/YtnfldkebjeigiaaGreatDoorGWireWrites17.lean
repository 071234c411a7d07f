/- The example of the laws of layer 2: it is as it must be, and nothing that was there is changed. No condition. -/
import Derived.Test.YtnfldkebjeigiaaGreatDoorGWireWrites7
import Derived.Test.YtnfldkebjeigiaaGreatDoorGWireWrites13
import Derived.Test.YtnfldkebjeigiaaGreatDoorGWireWrites11
set_option linter.unusedVariables false
namespace Go.Proofs.YtnfldkebjeigiaaGreatDoor
open Go.RowKit
set_option maxRecDepth 20000
set_option maxHeartbeats 4000000 in
theorem awake02_any (w : World) : Calls Tryz.prog 7 #[] w fun e w' => e = .returned (.bool true) ∧ Below w.heap.size w w' := by
  have hN := Lib.hid (show numB 8 (-2) = [255, 255, 255, 255, 255, 255, 255, 254] by decide +kernel)
  have hV := Lib.hid (show valueB ⟨2, 0, ⟨#[97, 98]⟩⟩ = [2, 0, 0, 0, 2, 97, 98] by decide +kernel)
  have hV0 := Lib.hid (show valuesB [] = [0, 0, 0, 0] by decide +kernel)
  have s1 := Lib.hid (show (IntKind.i64.wrap (getN (takeS 8 false [0, 0, 0]).1), (takeS 8 false [0, 0, 0]).2) = (0, true, [0, 0, 0]) by decide +kernel)
  have s2 := Lib.hid (show (IntKind.i64.wrap (getN (takeS 8 false [255, 255, 255, 255, 255, 255, 255, 254, 2, 0, 0, 0, 2, 97, 98]).1), (takeS 8 false [255, 255, 255, 255, 255, 255, 255, 254, 2, 0, 0, 0, 2, 97, 98]).2) = (-2, false, [2, 0, 0, 0, 2, 97, 98]) by decide +kernel)
  have s3 := Lib.hid (show valueS false [2, 0, 0, 0, 2, 97, 98] = (⟨2, 0, ⟨#[97, 98]⟩⟩, false, []) by kernel_rfl)
  go_enter Tryz.func7, Tryz.ntmps7
  go_wp2_with fail
  refine (newReader_any (some ⟨w.heap.size, 0, none⟩) 3 3 [0, 0, 0] _ (w.heap.size + 1) rfl (bytes_new w _ _ _ (0, 0) _ _ rfl rfl (by omega)) (by simp) (by simp) (by decide)).mono ?_
  rintro e w1 ⟨rb, rfl, hrb, hR, hb⟩
  have b1 : Below w.heap.size w w1 := ((Below.refl _ _).alloc (Nat.le_refl _) _).trans (hb.mono (by simp))
  have hrb1 : w.heap.size ≤ rb := by simp at hrb; omega
  have R1 := Lib.hid hR
  clear hb hR hrb
  go_wp2_with fail
  refine (number_at rb rb _ _ _ _ _ w1 s1.out R1.out (by simp [BytesWf]) (by decide)).mono ?_
  rintro e w2 ⟨rfl, hR2, hO⟩
  have b2 := b1.trans (hO.toBelow b1.size hrb1)
  have R2 := Lib.hid hR2
  clear hR2 hO R1 b1
  go_wp2_with fail
  refine (number_w _ _ w2 hN.out).mono ?_
  rintro e w3 ⟨a3, c3, rfl, ho3, hb3⟩
  have b3 := b2.trans (hb3.mono b2.size)
  have R3 := Lib.hid (R2.out.below hb3)
  have hn3 := own_none ho3
  have O3 := Lib.hid ho3
  clear ho3 hb3 R2 b2
  go_wp2_with fail
  refine (value_w _ _ _ _ w3 hV.out (by decide)).mono ?_
  rintro e w4 ⟨a4, c4, rfl, ho4, hb4⟩
  have b4 := b3.trans (hb4.mono b3.size)
  have R4 := Lib.hid (R3.out.below hb4)
  have hp3 := (own_in rfl O3.out).below hb4 (Nat.le_refl _)
  have hp4 := own_in rfl ho4
  have hs4 := hb4.size
  have P3 := Lib.hid (hp3.mono hs4)
  have P4 := Lib.hid hp4
  clear ho4 hb4 R3 b3 hp3 hp4 O3
  go_wp2_with fail
  have hA := (Below.refl w4.heap.size w4).alloc (Nat.le_refl _) (.cells #[.slice a3 8 c3, .slice a4 7 c4] 48)
  refine (wjoin_any (some ⟨w4.heap.size, 0, none⟩) 2 2 [⟨a3, c3, [255, 255, 255, 255, 255, 255, 255, 254]⟩, ⟨a4, c4, [2, 0, 0, 0, 2, 97, 98]⟩] [255, 255, 255, 255, 255, 255, 255, 254, 2, 0, 0, 0, 2, 97, 98] _ (w4.heap.size + 1) rfl (by kernel_rfl) (rowsIn_block ptCells_len _ _ (heap_alloc_new w4 _) rfl (by omega) (by
    intro x hx
    simp only [List.mem_cons, List.not_mem_nil, or_false] at hx
    rcases hx with rfl | rfl
    · exact (P3.out.below hA (Nat.le_refl _)).mono (by omega)
    · exact (P4.out.below hA (Nat.le_refl _)).mono (by omega))) (by simp) (by simp [BytesWf]) (by decide) (by decide) (by decide)).mono ?_
  rintro e w5 ⟨a5, c5, rfl, hin5, hn5, hc5, hbl5, hb5⟩
  have b5 := (b4.alloc b4.size _).trans (hb5.mono (Nat.le_trans b4.size hA.size))
  have R5 := Lib.hid ((R4.out.below hA).below hb5)
  have I5 := Lib.hid hin5
  clear hin5 hc5 hbl5 hb5 R4 b4 hA P3 P4
  go_wp2_with fail
  refine (newReader_any a5 15 c5 [255, 255, 255, 255, 255, 255, 255, 254, 2, 0, 0, 0, 2, 97, 98] _ w5.heap.size rfl I5.out (Nat.le_refl _) hn5 (by decide)).mono ?_
  rintro e w6 ⟨rc, rfl, hrc, hR, hb⟩
  have b6 := b5.trans (hb.mono b5.size)
  have R6 := Lib.hid (R5.out.below hb)
  have hrr : rb < rc := Nat.lt_of_lt_of_le R5.out.lt hrc
  have X6 := Lib.hid hR
  clear hb hR hrc R5 b5 I5 hn5
  go_wp2_with fail
  refine (number_at rc rc _ _ _ _ _ w6 s2.out X6.out (by simp [BytesWf]) (by decide)).mono ?_
  rintro e w7 ⟨rfl, hR, hO⟩
  have b7 := b6.trans (hO.toBelow b6.size (by omega))
  have R7 := Lib.hid (R6.out.only2 hO (by omega) (by omega))
  have X7 := Lib.hid hR
  clear hO hR R6 X6 b6
  go_wp2_with fail
  refine (value_at rc rc _ _ _ _ _ w7 s3.out X7.out (by simp [BytesWf]) (by decide)).mono ?_
  rintro e w8 ⟨he, hR, hO⟩
  unfold Va.val at he
  subst he
  have b8 := b7.trans (hO.toBelow b7.size (by omega))
  have R8 := Lib.hid (R7.out.only2 hO (by omega) (by omega))
  have X8 := Lib.hid hR
  clear hO hR R7 X7 b7
  have hA := (Below.refl w8.heap.size w8).alloc (Nat.le_refl _) (.cells #[.int .u8 2, .int .i64 0, .string ⟨#[97, 98]⟩] 24)
  have b9 := b8.trans (hA.mono b8.size)
  have R9 := Lib.hid (R8.out.below hA)
  have X9 := Lib.hid (X8.out.below hA)
  have t9 : (w8.alloc (.cells #[.int .u8 2, .int .i64 0, .string ⟨#[97, 98]⟩] 24)).cell? ⟨w8.heap.size, 2, none⟩ = some (.string ⟨#[97, 98]⟩) := Go.Joins.cell_of_block (heap_alloc_new w8 _) 2
  have T9 := Lib.hid t9
  have S9 := Lib.hid hA.size
  have HG := Lib.hid (show w8.heap.size < (w8.alloc (.cells #[.int .u8 2, .int .i64 0, .string ⟨#[97, 98]⟩] 24)).heap.size by simp)
  clear hA t9 b8 R8 X8
  go_wp2_with fail
  generalize w8.alloc (.cells #[.int .u8 2, .int .i64 0, .string ⟨#[97, 98]⟩] 24) = w9 at b9 R9 X9 T9 S9 HG ⊢
  generalize w8.heap.size = g at T9 S9 HG ⊢
  obtain ⟨m9, hm9⟩ : ∃ m, w9.heap.size = m := ⟨_, rfl⟩
  have HG2 := Lib.hid (show g < m9 from hm9 ▸ HG.out)
  have S9b := Lib.hid (show m9 ≤ w9.heap.size from Nat.le_of_eq hm9.symm)
  clear HG S9 hm9
  have HG := Lib.hid HG2.out
  have S9 := Lib.hid S9b.out
  clear HG2 S9b
  refine (bad_rd rb rb _ _ w9 R9.out).mono ?_
  rintro e w9' ⟨rfl, rfl⟩
  go_wp2_with fail
  refine (done_rd rb rb _ _ w9 R9.out).mono ?_
  rintro e w9' ⟨rfl, rfl⟩
  go_wp2_with fail
  refine (number_w _ _ w9 hN.out).mono ?_
  rintro e w10 ⟨a10, c10, rfl, ho, hb⟩
  have b10 := b9.trans (hb.mono b9.size)
  have R10 := Lib.hid (R9.out.below hb)
  have X10 := Lib.hid (X9.out.below hb)
  have T10 := Lib.hid ((hb.cell (p := ⟨g, 2, none⟩) (Nat.lt_of_lt_of_le HG.out S9.out)).trans T9.out)
  have S10 := Lib.hid (Nat.le_trans S9.out hb.size)
  have hA := (Below.refl w10.heap.size w10).alloc (Nat.le_refl _) (.cells #[.int .u8 255, .int .u8 255, .int .u8 255, .int .u8 255, .int .u8 255, .int .u8 255, .int .u8 255, .int .u8 254] 5)
  have P := Lib.hid (((own_in rfl ho).below hA (Nat.le_refl _)).mono hA.size)
  have Q := Lib.hid (bytes_new w10 5 [255, 255, 255, 255, 255, 255, 255, 254] #[.int .u8 255, .int .u8 255, .int .u8 255, .int .u8 255, .int .u8 255, .int .u8 255, .int .u8 255, .int .u8 254] (0, 0) w10.heap.size (w10.heap.size + 1) rfl rfl (by omega))
  have hbA := b10.trans (hA.mono b10.size)
  have RA := Lib.hid (R10.out.below hA)
  have XA := Lib.hid (X10.out.below hA)
  have TA := Lib.hid ((hA.cell (p := ⟨g, 2, none⟩) (Nat.lt_of_lt_of_le HG.out S10.out)).trans T10.out)
  have SA := Lib.hid (Nat.le_trans S10.out hA.size)
  clear ho hb hA R9 X9 T9 S9 b9 R10 X10 T10
  go_wp2_with fail
  have hz : (w10.alloc (.cells #[.int .u8 255, .int .u8 255, .int .u8 255, .int .u8 255, .int .u8 255, .int .u8 255, .int .u8 255, .int .u8 254] 5)).heap.size = w10.heap.size + 1 := by simp
  refine (sameB_any a10 8 c10 (some ⟨w10.heap.size, 0, none⟩) 8 8 [255, 255, 255, 255, 255, 255, 255, 254] _ rfl rfl P.out (by rw [hz]; exact Q.out) (by decide)).mono ?_
  rintro e w11 ⟨rfl, hb⟩
  have b11 := hbA.trans (hb.mono hbA.size)
  have R11 := Lib.hid (RA.out.below hb)
  have X11 := Lib.hid (XA.out.below hb)
  have T11 := Lib.hid ((hb.cell (p := ⟨g, 2, none⟩) (Nat.lt_of_lt_of_le HG.out SA.out)).trans TA.out)
  have S11 := Lib.hid (Nat.le_trans SA.out hb.size)
  clear hb RA XA TA SA P Q hz hbA b10 S10
  go_wp2_with fail
  refine (value_w _ _ _ _ w11 hV.out (by decide)).mono ?_
  rintro e w12 ⟨a12, c12, rfl, ho, hb⟩
  have b12 := b11.trans (hb.mono b11.size)
  have R12 := Lib.hid (R11.out.below hb)
  have X12 := Lib.hid (X11.out.below hb)
  have T12 := Lib.hid ((hb.cell (p := ⟨g, 2, none⟩) (Nat.lt_of_lt_of_le HG.out S11.out)).trans T11.out)
  have S12 := Lib.hid (Nat.le_trans S11.out hb.size)
  have hA := (Below.refl w12.heap.size w12).alloc (Nat.le_refl _) (.cells #[.int .u8 2, .int .u8 0, .int .u8 0, .int .u8 0, .int .u8 2, .int .u8 97, .int .u8 98] 5)
  have P := Lib.hid (((own_in rfl ho).below hA (Nat.le_refl _)).mono hA.size)
  have Q := Lib.hid (bytes_new w12 5 [2, 0, 0, 0, 2, 97, 98] #[.int .u8 2, .int .u8 0, .int .u8 0, .int .u8 0, .int .u8 2, .int .u8 97, .int .u8 98] (0, 0) w12.heap.size (w12.heap.size + 1) rfl rfl (by omega))
  have hbA := b12.trans (hA.mono b12.size)
  have RA := Lib.hid (R12.out.below hA)
  have XA := Lib.hid (X12.out.below hA)
  have TA := Lib.hid ((hA.cell (p := ⟨g, 2, none⟩) (Nat.lt_of_lt_of_le HG.out S12.out)).trans T12.out)
  have SA := Lib.hid (Nat.le_trans S12.out hA.size)
  clear ho hb hA R11 X11 T11 S11 b11 R12 X12 T12
  go_wp2_with fail
  have hz : (w12.alloc (.cells #[.int .u8 2, .int .u8 0, .int .u8 0, .int .u8 0, .int .u8 2, .int .u8 97, .int .u8 98] 5)).heap.size = w12.heap.size + 1 := by simp
  refine (sameB_any a12 7 c12 (some ⟨w12.heap.size, 0, none⟩) 7 7 [2, 0, 0, 0, 2, 97, 98] _ rfl rfl P.out (by rw [hz]; exact Q.out) (by decide)).mono ?_
  rintro e w13 ⟨rfl, hb⟩
  have b13 := hbA.trans (hb.mono hbA.size)
  have R13 := Lib.hid (RA.out.below hb)
  have X13 := Lib.hid (XA.out.below hb)
  have T13 := Lib.hid ((hb.cell (p := ⟨g, 2, none⟩) (Nat.lt_of_lt_of_le HG.out SA.out)).trans TA.out)
  have S13 := Lib.hid (Nat.le_trans SA.out hb.size)
  clear hb RA XA TA SA P Q hz hbA b12 S12
  go_wp2_with fail
  refine (values_w _ w13 hV0.out).mono ?_
  rintro e w14 ⟨a14, c14, rfl, ho, hb⟩
  have b14 := b13.trans (hb.mono b13.size)
  have R14 := Lib.hid (R13.out.below hb)
  have X14 := Lib.hid (X13.out.below hb)
  have T14 := Lib.hid ((hb.cell (p := ⟨g, 2, none⟩) (Nat.lt_of_lt_of_le HG.out S13.out)).trans T13.out)
  have S14 := Lib.hid (Nat.le_trans S13.out hb.size)
  have hA := (Below.refl w14.heap.size w14).alloc (Nat.le_refl _) (.cells #[.int .u8 0, .int .u8 0, .int .u8 0, .int .u8 0] 5)
  have P := Lib.hid (((own_in rfl ho).below hA (Nat.le_refl _)).mono hA.size)
  have Q := Lib.hid (bytes_new w14 5 [0, 0, 0, 0] #[.int .u8 0, .int .u8 0, .int .u8 0, .int .u8 0] (0, 0) w14.heap.size (w14.heap.size + 1) rfl rfl (by omega))
  have hbA := b14.trans (hA.mono b14.size)
  have RA := Lib.hid (R14.out.below hA)
  have XA := Lib.hid (X14.out.below hA)
  have TA := Lib.hid ((hA.cell (p := ⟨g, 2, none⟩) (Nat.lt_of_lt_of_le HG.out S14.out)).trans T14.out)
  have SA := Lib.hid (Nat.le_trans S14.out hA.size)
  clear ho hb hA R13 X13 T13 S13 b13 R14 X14 T14
  go_wp2_with fail
  have hz : (w14.alloc (.cells #[.int .u8 0, .int .u8 0, .int .u8 0, .int .u8 0] 5)).heap.size = w14.heap.size + 1 := by simp
  refine (sameB_any a14 4 c14 (some ⟨w14.heap.size, 0, none⟩) 4 4 [0, 0, 0, 0] _ rfl rfl P.out (by rw [hz]; exact Q.out) (by decide)).mono ?_
  rintro e w15 ⟨rfl, hb⟩
  have b15 := hbA.trans (hb.mono hbA.size)
  have R15 := Lib.hid (RA.out.below hb)
  have X15 := Lib.hid (XA.out.below hb)
  have T15 := Lib.hid ((hb.cell (p := ⟨g, 2, none⟩) (Nat.lt_of_lt_of_le HG.out SA.out)).trans TA.out)
  have S15 := Lib.hid (Nat.le_trans SA.out hb.size)
  clear hb RA XA TA SA P Q hz hbA b14 S14
  have t15 := T15.out
  go_wp2_with fail
  refine (done_rd rc rc _ _ w15 X15.out).mono ?_
  rintro e w15' ⟨rfl, rfl⟩
  go_wp2_with fail
  refine (bad_rd rc rc _ _ w15 X15.out).mono ?_
  rintro e w15' ⟨rfl, rfl⟩
  go_wp2_with fail
  go_ret
  exact ⟨rfl, b15⟩
end Go.Proofs.YtnfldkebjeigiaaGreatDoor
/- A region that draws its order, some of whose operations come in whatever order: an invariant over what has come up so far. Any program. Conditions: each operation that may come up next keeps the invariant. -/
namespace Go.Proofs.YtnfldkebjeigiaaGreatDoor
open Go.RowKit
theorem weave {P : Program} {md : Region.Mode} {ops : Array Oper} {Q : Exit → Act → World → Prop} {S : World → Prop} (I : Nat → Array Bool → Act → World → Prop) (m : Nat)
    (hstep : ∀ n listed a w, I (n + 1) listed a w → ∃ rs, Region.ready md ops listed = rs ∧ rs ≠ [] ∧ ∀ i ∈ rs, ∃ oi, ops.toList[i]? = some oi ∧ Region.wanted oi (yielded ops a.tmps) = true ∧ ∀ K' : Act → World → Prop, Shut (∀ a' w', I n (listed.setIfInBounds i true) a' w' → K' a' w') → Oper.wp P oi a w K' Q)
    (hIS : ∀ n listed a w, I n listed a w → S w)
    (hfin : ∀ listed a w, I 0 listed a w → wpAnyH P md ops Q S m listed a w) : ∀ n listed a w, I n listed a w → wpAnyH P md ops Q S (n + m) listed a w := by
  intro n
  induction n with
  | zero => intro listed a w h; rw [Nat.zero_add]; exact hfin listed a w h
  | succ n ih =>
    intro listed a w h
    obtain ⟨rs, hr, hne, hs⟩ := hstep n listed a w h
    rw [Nat.succ_add]
    refine wpAnyH_ready hr hne (fun i hi => ?_)
    obtain ⟨oi, ho, hw, hp⟩ := hs i hi
    refine wpOp_step (by rw [← Array.getElem?_toList]; exact ho) (fun K' hK => ?_)
    rw [if_pos hw]
    exact hp K' (fun a' w' hI => hK a' w' ⟨hIS _ _ _ _ hI, ih _ _ _ hI⟩)
theorem weave_at {P : Program} {md : Region.Mode} {ops : Array Oper} {Q : Exit → Act → World → Prop} {S : World → Prop} (I : Nat → Array Bool → Act → World → Prop) (m n : Nat) (L : Array Bool) (A : Act) {listed : Array Bool} {a : Act} {w : World} (hl : listed = L) (ha : a = A) (h0 : I n L A w)
    (hstep : ∀ n listed a w, I (n + 1) listed a w → ∃ rs, Region.ready md ops listed = rs ∧ rs ≠ [] ∧ ∀ i ∈ rs, ∃ oi, ops.toList[i]? = some oi ∧ Region.wanted oi (yielded ops a.tmps) = true ∧ ∀ K' : Act → World → Prop, Shut (∀ a' w', I n (listed.setIfInBounds i true) a' w' → K' a' w') → Oper.wp P oi a w K' Q)
    (hIS : ∀ n listed a w, I n listed a w → S w)
    (hfin : ∀ listed a w, I 0 listed a w → wpAnyH P md ops Q S m listed a w) : wpAnyH P md ops Q S (n + m) listed a w := by
  subst hl ha
  exact weave I m hstep hIS hfin n _ _ _ h0
end Go.Proofs.YtnfldkebjeigiaaGreatDoor
/- WireWrites lends five things and lays four blocks, in whatever order. Conditions: the thing lies in memory as it is read. -/
namespace Go.Proofs.YtnfldkebjeigiaaGreatDoor
open Go.RowKit
set_option maxRecDepth 20000
/-- What is lent, each thing where it has come up. -/
def L17 (t : Th) (w : World) (B : Nat) (v : Value) : Prop := ∃ g, v = .slice (some ⟨g, 0, none⟩) t.values.length (t.values.length + 12) ∧ LentV w B g t.values
def L20 (t : Th) (w : World) (B : Nat) (v : Value) : Prop := ∃ g, v = .agg #[.int .i64 t.fact.id, .int .i64 t.fact.ty, .slice (some ⟨g, 0, none⟩) t.fact.args.length (t.fact.args.length + 12)] ∧ LentV w B g t.fact.args
def L23 (t : Th) (w : World) (B : Nat) (v : Value) : Prop := ∃ g, v = .agg #[.int .u8 t.command.kind, .string t.command.text, .slice (some ⟨g, 0, none⟩) t.command.args.length (t.command.args.length + 12), .int .i64 t.command.num] ∧ LentV w B g t.command.args
def L26 (t : Th) (w : World) (B : Nat) (v : Value) : Prop := ∃ (g1 g2 : Nat) (frs : List Fa), v = .agg #[.int .i64 t.reply.err, .int .i64 t.reply.num, .slice (some ⟨g1, 0, none⟩) t.reply.facts.length (t.reply.facts.length + 12), .slice (some ⟨g2, 0, none⟩) t.reply.said.length (t.reply.said.length + 12)] ∧ frs.map Fa.plain = t.reply.facts.map Fa.plain ∧ FasLent w B g1 t.reply.facts.length frs ∧ LentV w B g2 t.reply.said
def L29 (t : Th) (w : World) (B : Nat) (v : Value) : Prop := ∃ (g1 g2 : Nat), v = .agg #[.int .i64 t.entry.term, .int .u8 t.entry.kind, .int .i64 t.entry.session, .int .i64 t.entry.seq, .int .u8 t.entry.ck, .string t.entry.text, .slice (some ⟨g1, 0, none⟩) t.entry.args.length (t.entry.args.length + 12), .int .i64 t.entry.num, .slice (some ⟨g2, 0, none⟩) t.entry.vs.length (t.entry.vs.length + 12)] ∧ LentV w B g1 t.entry.args ∧ LentI w B g2 t.entry.vs
/-- A block of zeros that was laid. -/
def Laid (w : World) (B : Nat) (T : TypeId) (z : Array Value) (v : Value) : Prop := ∃ q, v = .pointer (some ⟨q, 0, none⟩) ∧ B ≤ q ∧ w.heap[q]? = some (.cells z T (0, 0))
theorem Laid.below {w w' : World} {B : Nat} {T : TypeId} {z : Array Value} {v : Value} (h : Laid w B T z v) (hb : Below w.heap.size w w') : Laid w' B T z v := by
  obtain ⟨q, h1, h2, h3⟩ := h
  exact ⟨q, h1, h2, (hb.block q (Array.getElem?_eq_some_iff.1 h3).1).trans h3⟩
structure WV (t : Th) (B : Nat) (w0 : World) (c : Nat) (y15 y16 y17 y18 : Bool) (v4 v5 v6 v7 v17 v20 v23 v26 v29 : Value) (w : World) : Prop where
  below : Below B w0 w
  size : B ≤ w.heap.size
  c1 : 1 ≤ c → L17 t w B v17
  c2 : 2 ≤ c → L20 t w B v20
  c3 : 3 ≤ c → L23 t w B v23
  c4 : 4 ≤ c → L26 t w B v26
  c5 : 5 ≤ c → L29 t w B v29
  a15 : y15 = true → Laid w B 27 #[.int .i64 0, .int .i64 0, .slice none 0 0] v4
  a16 : y16 = true → Laid w B 30 #[.int .u8 0, .string ⟨#[]⟩, .slice none 0 0, .int .i64 0] v5
  a17 : y17 = true → Laid w B 34 #[.int .i64 0, .int .i64 0, .slice none 0 0, .slice none 0 0] v6
  a18 : y18 = true → Laid w B 38 #[.int .i64 0, .int .u8 0, .int .i64 0, .int .i64 0, .int .u8 0, .string ⟨#[]⟩, .slice none 0 0, .int .i64 0, .slice none 0 0] v7
theorem WV.grow {t : Th} {B : Nat} {w0 w w' : World} {c : Nat} {y15 y16 y17 y18 : Bool} {v4 v5 v6 v7 v17 v20 v23 v26 v29 : Value} (h : WV t B w0 c y15 y16 y17 y18 v4 v5 v6 v7 v17 v20 v23 v26 v29 w) (hb : Below w.heap.size w w') : WV t B w0 c y15 y16 y17 y18 v4 v5 v6 v7 v17 v20 v23 v26 v29 w' :=
  ⟨h.below.trans (hb.mono h.size), Nat.le_trans h.size hb.size,
    fun hc => by obtain ⟨g, h1, h2⟩ := h.c1 hc; exact ⟨g, h1, h2.below hb (Nat.le_refl _)⟩,
    fun hc => by obtain ⟨g, h1, h2⟩ := h.c2 hc; exact ⟨g, h1, h2.below hb (Nat.le_refl _)⟩,
    fun hc => by obtain ⟨g, h1, h2⟩ := h.c3 hc; exact ⟨g, h1, h2.below hb (Nat.le_refl _)⟩,
    fun hc => by obtain ⟨g1, g2, frs, h1, h2, h3, h4⟩ := h.c4 hc; exact ⟨g1, g2, frs, h1, h2, h3.below hb (Nat.le_refl _), h4.below hb (Nat.le_refl _)⟩,
    fun hc => by obtain ⟨g1, g2, h1, h2, h3⟩ := h.c5 hc; exact ⟨g1, g2, h1, h2.below hb (Nat.le_refl _), h3.below hb (Nat.le_refl _)⟩,
    fun hy => (h.a15 hy).below hb, fun hy => (h.a16 hy).below hb, fun hy => (h.a17 hy).below hb, fun hy => (h.a18 hy).below hb⟩
/-- The slots, as the region has them. -/
def fr3 (t : Th) (W : World) (A : Array Value) (v4 v5 v6 v7 v17 v20 v23 v26 v29 : Value) : Act := { tmps := (.agg A :: .pointer (some ⟨W.heap.size, 0, none⟩) :: .bool false :: undef :: v4 :: v5 :: v6 :: v7 :: undef :: undef :: undef :: undef :: .agg A :: .bool false :: undef :: .pointer (some ⟨W.heap.size, 5, none⟩) :: .slice t.vo t.values.length t.vcap :: v17 :: .pointer (some ⟨W.heap.size, 6, none⟩) :: .agg #[.int .i64 t.fact.id, .int .i64 t.fact.ty, .slice t.fact.ao t.fact.args.length t.fact.cap] :: v20 :: .pointer (some ⟨W.heap.size, 9, none⟩) :: .agg #[.int .u8 t.command.kind, .string t.command.text, .slice t.command.ao t.command.args.length t.command.cap, .int .i64 t.command.num] :: v23 :: .pointer (some ⟨W.heap.size, 13, none⟩) :: .agg #[.int .i64 t.reply.err, .int .i64 t.reply.num, .slice t.reply.fo t.reply.facts.length t.reply.fcap, .slice t.reply.so t.reply.said.length t.reply.scap] :: v26 :: .pointer (some ⟨W.heap.size, 17, none⟩) :: .agg #[.int .i64 t.entry.term, .int .u8 t.entry.kind, .int .i64 t.entry.session, .int .i64 t.entry.seq, .int .u8 t.entry.ck, .string t.entry.text, .slice t.entry.aao t.entry.args.length t.entry.acap, .int .i64 t.entry.num, .slice t.entry.vao t.entry.vs.length t.entry.vcap] :: v29 :: undef :: undef :: undef :: undef :: undef :: undef :: undef :: undef :: undef :: undef :: undef :: undef :: undef :: undef :: undef :: undef :: undef :: undef :: undef :: undef :: undef :: undef :: undef :: undef :: undef :: undef :: undef :: undef :: undef :: undef :: undef :: undef :: undef :: undef :: undef :: undef :: undef :: undef :: undef :: undef :: undef :: undef :: undef :: undef :: undef :: undef :: undef :: undef :: undef :: undef :: undef :: undef :: undef :: undef :: undef :: undef :: undef :: undef :: undef :: undef :: undef :: undef :: undef :: undef :: undef :: undef :: undef :: undef :: undef :: undef :: undef :: undef :: undef :: undef :: undef :: undef :: undef :: undef :: undef :: undef :: undef :: undef :: undef :: undef :: undef :: undef :: undef :: undef :: undef :: undef :: undef :: undef :: undef :: undef :: undef :: undef :: undef :: undef :: undef :: undef :: undef :: undef :: undef :: undef :: undef :: undef :: undef :: undef :: []).toArray, defers := [] }
def lst3 (c : Nat) (y15 y16 y17 y18 : Bool) : Array Bool := #[true, true, decide (1 ≤ c), true, true, decide (2 ≤ c), true, true, decide (3 ≤ c), true, true, decide (4 ≤ c), true, true, decide (5 ≤ c), y15, y16, y17, y18, false, false, false, false, false]
def no : Bool → Nat
  | true => 0
  | false => 1
theorem no_zero {c : Nat} {a b d e : Bool} (hc : c ≤ 5) (h : 0 = 5 - c + no a + no b + no d + no e) : c = 5 ∧ a = true ∧ b = true ∧ d = true ∧ e = true := by
  cases a <;> cases b <;> cases d <;> cases e <;> simp only [no] at h <;> first | omega | exact ⟨by omega, rfl, rfl, rfl, rfl⟩
def St3 (t : Th) (W : World) (A : Array Value) (w0 : World) (n : Nat) (listed : Array Bool) (a : Act) (w : World) : Prop :=
  ∃ (c : Nat) (y15 y16 y17 y18 : Bool) (v4 v5 v6 v7 v17 v20 v23 v26 v29 : Value), listed = lst3 c y15 y16 y17 y18 ∧ a = fr3 t W A v4 v5 v6 v7 v17 v20 v23 v26 v29 ∧ c ≤ 5 ∧ n = 5 - c + no y15 + no y16 + no y17 + no y18 ∧ WV t (W.heap.size + 1) w0 c y15 y16 y17 y18 v4 v5 v6 v7 v17 v20 v23 v26 v29 w
set_option maxHeartbeats 1000000 in
theorem w3_op2 {t : Th} {W w0 w : World} {A : Array Value} {y15 y16 y17 y18 : Bool} {v4 v5 v6 v7 v17 v20 v23 v26 v29 : Value} {Q : Exit → Act → World → Prop} {K : Act → World → Prop} {ps : String} {af : Array Edge} (hs : ThSmall t) (hw : ThWf t) (hti : ∀ w', Below (W.heap.size + 1) w0 w' → ThIn w' W.heap.size t) (h : WV t (W.heap.size + 1) w0 0 y15 y16 y17 y18 v4 v5 v6 v7 v17 v20 v23 v26 v29 w)
    (hK : ∀ x w', WV t (W.heap.size + 1) w0 1 y15 y16 y17 y18 v4 v5 v6 v7 x v20 v23 v26 v29 w' → K (fr3 t W A v4 v5 v6 v7 x v20 v23 v26 v29) w') : Oper.wp Tryz.prog { dst := some 17, op := .call { callee := .value (.func 8), args := #[.tmp 16], argTypes := #[25] }, type := 25, pos := ps, after := af, guard := none } (fr3 t W A v4 v5 v6 v7 v17 v20 v23 v26 v29) w K Q := by
  have hin := hti w h.below
  have hsz : W.heap.size ≤ w.heap.size := Nat.le_trans (Nat.le_succ _) h.size
  have HK := Lib.hid hK
  have H := Lib.hid h
  have HIN := Lib.hid hin
  clear hK h hin hti
  unfold fr3
  go_simp
  refine (lentV_at t.vo _ t.vcap t.values w W.heap.size rfl HIN.out.values hsz hw.values.nil (by have := hs.values.1; omega)).mono ?_
  rintro e w' ⟨g, rfl, hg1, hg2, hL, hb⟩
  have h2 := H.out.grow hb
  have HNEW := Lib.hid (show L17 t w' (W.heap.size + 1) _ from ⟨g, rfl, hL.le H.out.size⟩)
  refine HK.out _ w' ⟨h2.below, h2.size, fun _ => HNEW.out, fun hc => absurd hc (by omega), fun hc => absurd hc (by omega), fun hc => absurd hc (by omega), fun hc => absurd hc (by omega), h2.a15, h2.a16, h2.a17, h2.a18⟩
set_option maxHeartbeats 1000000 in
theorem w3_op5 {t : Th} {W w0 w : World} {A : Array Value} {y15 y16 y17 y18 : Bool} {v4 v5 v6 v7 v17 v20 v23 v26 v29 : Value} {Q : Exit → Act → World → Prop} {K : Act → World → Prop} {ps : String} {af : Array Edge} (hs : ThSmall t) (hw : ThWf t) (hti : ∀ w', Below (W.heap.size + 1) w0 w' → ThIn w' W.heap.size t) (h : WV t (W.heap.size + 1) w0 1 y15 y16 y17 y18 v4 v5 v6 v7 v17 v20 v23 v26 v29 w)
    (hK : ∀ x w', WV t (W.heap.size + 1) w0 2 y15 y16 y17 y18 v4 v5 v6 v7 v17 x v23 v26 v29 w' → K (fr3 t W A v4 v5 v6 v7 v17 x v23 v26 v29) w') : Oper.wp Tryz.prog { dst := some 20, op := .call { callee := .value (.func 9), args := #[.tmp 19], argTypes := #[27] }, type := 27, pos := ps, after := af, guard := none } (fr3 t W A v4 v5 v6 v7 v17 v20 v23 v26 v29) w K Q := by
  have hin := hti w h.below
  have hsz : W.heap.size ≤ w.heap.size := Nat.le_trans (Nat.le_succ _) h.size
  have HK := Lib.hid hK
  have H := Lib.hid h
  have HIN := Lib.hid hin
  clear hK h hin hti
  unfold fr3
  go_simp
  refine (lentFa_any t.fact.id t.fact.ty t.fact.ao _ t.fact.cap t.fact.args w rfl (RowsIn.mono noSub_rising HIN.out.fact hsz) hw.fact.args.nil (by have := hs.fact.1; omega)).mono ?_
  rintro e w' ⟨g, rfl, hg1, hL, hb⟩
  have h2 := H.out.grow hb
  have HNEW := Lib.hid (show L20 t w' (W.heap.size + 1) _ from ⟨g, rfl, hL.le H.out.size⟩)
  refine HK.out _ w' ⟨h2.below, h2.size, fun hc => h2.c1 (by omega), fun _ => HNEW.out, fun hc => absurd hc (by omega), fun hc => absurd hc (by omega), fun hc => absurd hc (by omega), h2.a15, h2.a16, h2.a17, h2.a18⟩
set_option maxHeartbeats 1000000 in
theorem w3_op8 {t : Th} {W w0 w : World} {A : Array Value} {y15 y16 y17 y18 : Bool} {v4 v5 v6 v7 v17 v20 v23 v26 v29 : Value} {Q : Exit → Act → World → Prop} {K : Act → World → Prop} {ps : String} {af : Array Edge} (hs : ThSmall t) (hw : ThWf t) (hti : ∀ w', Below (W.heap.size + 1) w0 w' → ThIn w' W.heap.size t) (h : WV t (W.heap.size + 1) w0 2 y15 y16 y17 y18 v4 v5 v6 v7 v17 v20 v23 v26 v29 w)
    (hK : ∀ x w', WV t (W.heap.size + 1) w0 3 y15 y16 y17 y18 v4 v5 v6 v7 v17 v20 x v26 v29 w' → K (fr3 t W A v4 v5 v6 v7 v17 v20 x v26 v29) w') : Oper.wp Tryz.prog { dst := some 23, op := .call { callee := .value (.func 10), args := #[.tmp 22], argTypes := #[30] }, type := 30, pos := ps, after := af, guard := none } (fr3 t W A v4 v5 v6 v7 v17 v20 v23 v26 v29) w K Q := by
  have hin := hti w h.below
  have hsz : W.heap.size ≤ w.heap.size := Nat.le_trans (Nat.le_succ _) h.size
  have HK := Lib.hid hK
  have H := Lib.hid h
  have HIN := Lib.hid hin
  clear hK h hin hti
  unfold fr3
  go_simp
  refine (lentC_any t.command.kind t.command.text t.command.num t.command.ao _ t.command.cap t.command.args w rfl (RowsIn.mono noSub_rising HIN.out.command hsz) hw.command.args.nil (by have := hs.command.1; omega)).mono ?_
  rintro e w' ⟨g, rfl, hg1, hL, hb⟩
  have h2 := H.out.grow hb
  have HNEW := Lib.hid (show L23 t w' (W.heap.size + 1) _ from ⟨g, rfl, hL.le H.out.size⟩)
  refine HK.out _ w' ⟨h2.below, h2.size, fun hc => h2.c1 (by omega), fun hc => h2.c2 (by omega), fun _ => HNEW.out, fun hc => absurd hc (by omega), fun hc => absurd hc (by omega), h2.a15, h2.a16, h2.a17, h2.a18⟩
set_option maxHeartbeats 1000000 in
theorem w3_op11 {t : Th} {W w0 w : World} {A : Array Value} {y15 y16 y17 y18 : Bool} {v4 v5 v6 v7 v17 v20 v23 v26 v29 : Value} {Q : Exit → Act → World → Prop} {K : Act → World → Prop} {ps : String} {af : Array Edge} (hs : ThSmall t) (hw : ThWf t) (hti : ∀ w', Below (W.heap.size + 1) w0 w' → ThIn w' W.heap.size t) (h : WV t (W.heap.size + 1) w0 3 y15 y16 y17 y18 v4 v5 v6 v7 v17 v20 v23 v26 v29 w)
    (hK : ∀ x w', WV t (W.heap.size + 1) w0 4 y15 y16 y17 y18 v4 v5 v6 v7 v17 v20 v23 x v29 w' → K (fr3 t W A v4 v5 v6 v7 v17 v20 v23 x v29) w') : Oper.wp Tryz.prog { dst := some 26, op := .call { callee := .value (.func 11), args := #[.tmp 25], argTypes := #[34] }, type := 34, pos := ps, after := af, guard := none } (fr3 t W A v4 v5 v6 v7 v17 v20 v23 v26 v29) w K Q := by
  have hin := hti w h.below
  have hsz : W.heap.size ≤ w.heap.size := Nat.le_trans (Nat.le_succ _) h.size
  have HK := Lib.hid hK
  have H := Lib.hid h
  have HIN := Lib.hid hin
  clear hK h hin hti
  unfold fr3
  go_simp
  refine (lentRp_any t.reply.err t.reply.num t.reply.fo t.reply.fcap t.reply.facts t.reply.so t.reply.scap t.reply.said w (RowsIn.mono faSub_rising HIN.out.reply.1 hsz) (RowsIn.mono noSub_rising HIN.out.reply.2 hsz) (fun f hf => ⟨(hw.reply.facts f hf).args.nil, by have := (hs.facts.2 f hf).1; omega⟩) hw.reply.said.nil (by have := hs.facts.1; omega) (by have := hs.said.1; omega)).mono ?_
  rintro e w' ⟨g1, g2, frs, rfl, hmap, hL, hV, hb⟩
  have h2 := H.out.grow hb
  have HNEW := Lib.hid (show L26 t w' (W.heap.size + 1) _ from ⟨g1, g2, frs, rfl, hmap, hL.le H.out.size, hV.le H.out.size⟩)
  refine HK.out _ w' ⟨h2.below, h2.size, fun hc => h2.c1 (by omega), fun hc => h2.c2 (by omega), fun hc => h2.c3 (by omega), fun _ => HNEW.out, fun hc => absurd hc (by omega), h2.a15, h2.a16, h2.a17, h2.a18⟩
set_option maxHeartbeats 1000000 in
theorem w3_op14 {t : Th} {W w0 w : World} {A : Array Value} {y15 y16 y17 y18 : Bool} {v4 v5 v6 v7 v17 v20 v23 v26 v29 : Value} {Q : Exit → Act → World → Prop} {K : Act → World → Prop} {ps : String} {af : Array Edge} (hs : ThSmall t) (hw : ThWf t) (hti : ∀ w', Below (W.heap.size + 1) w0 w' → ThIn w' W.heap.size t) (h : WV t (W.heap.size + 1) w0 4 y15 y16 y17 y18 v4 v5 v6 v7 v17 v20 v23 v26 v29 w)
    (hK : ∀ x w', WV t (W.heap.size + 1) w0 5 y15 y16 y17 y18 v4 v5 v6 v7 v17 v20 v23 v26 x w' → K (fr3 t W A v4 v5 v6 v7 v17 v20 v23 v26 x) w') : Oper.wp Tryz.prog { dst := some 29, op := .call { callee := .value (.func 12), args := #[.tmp 28], argTypes := #[38] }, type := 38, pos := ps, after := af, guard := none } (fr3 t W A v4 v5 v6 v7 v17 v20 v23 v26 v29) w K Q := by
  have hin := hti w h.below
  have hsz : W.heap.size ≤ w.heap.size := Nat.le_trans (Nat.le_succ _) h.size
  have HK := Lib.hid hK
  have H := Lib.hid h
  have HIN := Lib.hid hin
  clear hK h hin hti
  unfold fr3
  go_simp
  refine (lentEn_any t.entry.term t.entry.kind t.entry.session t.entry.seq t.entry.ck t.entry.text t.entry.aao t.entry.acap t.entry.args t.entry.num t.entry.vao t.entry.vcap t.entry.vs w (RowsIn.mono noSub_rising HIN.out.entry.1 hsz) (RowsIn.mono noSub_rising HIN.out.entry.2 hsz) hw.entry.anil hw.entry.vnil (by have := hs.eargs.1; omega) (by have := hs.voters; omega)).mono ?_
  rintro e w' ⟨g1, g2, rfl, hL, hV, hb⟩
  have h2 := H.out.grow hb
  have HNEW := Lib.hid (show L29 t w' (W.heap.size + 1) _ from ⟨g1, g2, rfl, hL.le H.out.size, hV.le H.out.size⟩)
  refine HK.out _ w' ⟨h2.below, h2.size, fun hc => h2.c1 (by omega), fun hc => h2.c2 (by omega), fun hc => h2.c3 (by omega), fun hc => h2.c4 (by omega), fun _ => HNEW.out, h2.a15, h2.a16, h2.a17, h2.a18⟩
set_option maxHeartbeats 1000000 in
theorem w3_op15 {t : Th} {W w0 w : World} {A : Array Value} {c : Nat} {y16 y17 y18 : Bool} {v4 v5 v6 v7 v17 v20 v23 v26 v29 : Value} {Q : Exit → Act → World → Prop} {K : Act → World → Prop} {ps : String} {af : Array Edge} (h : WV t (W.heap.size + 1) w0 c false y16 y17 y18 v4 v5 v6 v7 v17 v20 v23 v26 v29 w)
    (hK : ∀ x w', WV t (W.heap.size + 1) w0 c true y16 y17 y18 x v5 v6 v7 v17 v20 v23 v26 v29 w' → K (fr3 t W A x v5 v6 v7 v17 v20 v23 v26 v29) w') : Oper.wp Tryz.prog { dst := some 4, op := .alloc 27, type := 0, pos := ps, after := af, guard := none } (fr3 t W A v4 v5 v6 v7 v17 v20 v23 v26 v29) w K Q := by
  have hb := (Below.refl w.heap.size w).alloc (Nat.le_refl _) (.cells #[.int .i64 0, .int .i64 0, .slice none 0 0] 27)
  have hk := heap_alloc_new w (.cells #[.int .i64 0, .int .i64 0, .slice none 0 0] 27)
  have HK := Lib.hid hK
  have H := Lib.hid h
  have HB := Lib.hid hb
  have HN := Lib.hid hk
  clear hK h hb hk
  unfold fr3
  go_simp
  have h2 := H.out.grow HB.out
  refine HK.out _ _ ⟨h2.below, h2.size, h2.c1, h2.c2, h2.c3, h2.c4, h2.c5, fun _ => ⟨w.heap.size, rfl, H.out.size, HN.out⟩, h2.a16, h2.a17, h2.a18⟩
set_option maxHeartbeats 1000000 in
theorem w3_op16 {t : Th} {W w0 w : World} {A : Array Value} {c : Nat} {y15 y17 y18 : Bool} {v4 v5 v6 v7 v17 v20 v23 v26 v29 : Value} {Q : Exit → Act → World → Prop} {K : Act → World → Prop} {ps : String} {af : Array Edge} (h : WV t (W.heap.size + 1) w0 c y15 false y17 y18 v4 v5 v6 v7 v17 v20 v23 v26 v29 w)
    (hK : ∀ x w', WV t (W.heap.size + 1) w0 c y15 true y17 y18 v4 x v6 v7 v17 v20 v23 v26 v29 w' → K (fr3 t W A v4 x v6 v7 v17 v20 v23 v26 v29) w') : Oper.wp Tryz.prog { dst := some 5, op := .alloc 30, type := 0, pos := ps, after := af, guard := none } (fr3 t W A v4 v5 v6 v7 v17 v20 v23 v26 v29) w K Q := by
  have hb := (Below.refl w.heap.size w).alloc (Nat.le_refl _) (.cells #[.int .u8 0, .string ⟨#[]⟩, .slice none 0 0, .int .i64 0] 30)
  have hk := heap_alloc_new w (.cells #[.int .u8 0, .string ⟨#[]⟩, .slice none 0 0, .int .i64 0] 30)
  have HK := Lib.hid hK
  have H := Lib.hid h
  have HB := Lib.hid hb
  have HN := Lib.hid hk
  clear hK h hb hk
  unfold fr3
  go_simp
  have h2 := H.out.grow HB.out
  refine HK.out _ _ ⟨h2.below, h2.size, h2.c1, h2.c2, h2.c3, h2.c4, h2.c5, h2.a15, fun _ => ⟨w.heap.size, rfl, H.out.size, HN.out⟩, h2.a17, h2.a18⟩
set_option maxHeartbeats 1000000 in
theorem w3_op17 {t : Th} {W w0 w : World} {A : Array Value} {c : Nat} {y15 y16 y18 : Bool} {v4 v5 v6 v7 v17 v20 v23 v26 v29 : Value} {Q : Exit → Act → World → Prop} {K : Act → World → Prop} {ps : String} {af : Array Edge} (h : WV t (W.heap.size + 1) w0 c y15 y16 false y18 v4 v5 v6 v7 v17 v20 v23 v26 v29 w)
    (hK : ∀ x w', WV t (W.heap.size + 1) w0 c y15 y16 true y18 v4 v5 x v7 v17 v20 v23 v26 v29 w' → K (fr3 t W A v4 v5 x v7 v17 v20 v23 v26 v29) w') : Oper.wp Tryz.prog { dst := some 6, op := .alloc 34, type := 0, pos := ps, after := af, guard := none } (fr3 t W A v4 v5 v6 v7 v17 v20 v23 v26 v29) w K Q := by
  have hb := (Below.refl w.heap.size w).alloc (Nat.le_refl _) (.cells #[.int .i64 0, .int .i64 0, .slice none 0 0, .slice none 0 0] 34)
  have hk := heap_alloc_new w (.cells #[.int .i64 0, .int .i64 0, .slice none 0 0, .slice none 0 0] 34)
  have HK := Lib.hid hK
  have H := Lib.hid h
  have HB := Lib.hid hb
  have HN := Lib.hid hk
  clear hK h hb hk
  unfold fr3
  go_simp
  have h2 := H.out.grow HB.out
  refine HK.out _ _ ⟨h2.below, h2.size, h2.c1, h2.c2, h2.c3, h2.c4, h2.c5, h2.a15, h2.a16, fun _ => ⟨w.heap.size, rfl, H.out.size, HN.out⟩, h2.a18⟩
set_option maxHeartbeats 1000000 in
theorem w3_op18 {t : Th} {W w0 w : World} {A : Array Value} {c : Nat} {y15 y16 y17 : Bool} {v4 v5 v6 v7 v17 v20 v23 v26 v29 : Value} {Q : Exit → Act → World → Prop} {K : Act → World → Prop} {ps : String} {af : Array Edge} (h : WV t (W.heap.size + 1) w0 c y15 y16 y17 false v4 v5 v6 v7 v17 v20 v23 v26 v29 w)
    (hK : ∀ x w', WV t (W.heap.size + 1) w0 c y15 y16 y17 true v4 v5 v6 x v17 v20 v23 v26 v29 w' → K (fr3 t W A v4 v5 v6 x v17 v20 v23 v26 v29) w') : Oper.wp Tryz.prog { dst := some 7, op := .alloc 38, type := 0, pos := ps, after := af, guard := none } (fr3 t W A v4 v5 v6 v7 v17 v20 v23 v26 v29) w K Q := by
  have hb := (Below.refl w.heap.size w).alloc (Nat.le_refl _) (.cells #[.int .i64 0, .int .u8 0, .int .i64 0, .int .i64 0, .int .u8 0, .string ⟨#[]⟩, .slice none 0 0, .int .i64 0, .slice none 0 0] 38)
  have hk := heap_alloc_new w (.cells #[.int .i64 0, .int .u8 0, .int .i64 0, .int .i64 0, .int .u8 0, .string ⟨#[]⟩, .slice none 0 0, .int .i64 0, .slice none 0 0] 38)
  have HK := Lib.hid hK
  have H := Lib.hid h
  have HB := Lib.hid hb
  have HN := Lib.hid hk
  clear hK h hb hk
  unfold fr3
  go_simp
  have h2 := H.out.grow HB.out
  refine HK.out _ _ ⟨h2.below, h2.size, h2.c1, h2.c2, h2.c3, h2.c4, h2.c5, h2.a15, h2.a16, h2.a17, fun _ => ⟨w.heap.size, rfl, H.out.size, HN.out⟩⟩
end Go.Proofs.YtnfldkebjeigiaaGreatDoor
