/- The example of the laws of layer 2: it is as it must be, and nothing that was there is changed. No condition. -/
import Derived.Test.YtiggpcmikhojmaaGreatDoorGWireNumbers4
import Derived.Test.YtiggpcmikhojmaaGreatDoorGWireNumbers18
import Derived.Test.YtiggpcmikhojmaaGreatDoorGWireNumbers12
import Derived.Test.YtiggpcmikhojmaaGreatDoorGWireNumbers7
import Derived.Test.YtiggpcmikhojmaaGreatDoorGWireNumbers19
set_option linter.unusedVariables false
namespace Go.Proofs.YtiggpcmikhojmaaGreatDoor
open Go.RowKit
set_option maxRecDepth 20000
set_option maxHeartbeats 4000000 in
theorem awake02_any (w : World) : Calls Tryz.prog 20 #[] w fun e w' => e = .returned (.bool true) ∧ Below w.heap.size w w' := by
  have hN := Lib.hid (show numB 8 (-2) = [255, 255, 255, 255, 255, 255, 255, 254] by decide +kernel)
  have hV := Lib.hid (show valueB ⟨2, 0, ⟨#[97, 98]⟩⟩ = [2, 0, 0, 0, 2, 97, 98] by decide +kernel)
  have hV0 := Lib.hid (show valuesB [] = [0, 0, 0, 0] by decide +kernel)
  have s1 := Lib.hid (show (IntKind.i64.wrap (getN (takeS 8 false [0, 0, 0]).1), (takeS 8 false [0, 0, 0]).2) = (0, true, [0, 0, 0]) by decide +kernel)
  have s2 := Lib.hid (show (IntKind.i64.wrap (getN (takeS 8 false [255, 255, 255, 255, 255, 255, 255, 254, 2, 0, 0, 0, 2, 97, 98]).1), (takeS 8 false [255, 255, 255, 255, 255, 255, 255, 254, 2, 0, 0, 0, 2, 97, 98]).2) = (-2, false, [2, 0, 0, 0, 2, 97, 98]) by decide +kernel)
  have s3 := Lib.hid (show valueS false [2, 0, 0, 0, 2, 97, 98] = (⟨2, 0, ⟨#[97, 98]⟩⟩, false, []) by kernel_rfl)
  go_enter Tryz.func20, Tryz.ntmps20
  go_wp2_with fail
  refine (newReader_any (some ⟨w.heap.size, 0, none⟩) 3 3 [0, 0, 0] _ (w.heap.size + 1) rfl (bytes_new w _ _ _ (0, 0) _ _ rfl rfl (by omega)) (by simp) (by simp) (by decide)).mono ?_
  rintro e w1 ⟨rb, rfl, hrb, hR, hb⟩
  have b1 : Below w.heap.size w w1 := ((Below.refl _ _).alloc (Nat.le_refl _) _).trans (hb.mono (by simp))
  have hrb1 : w.heap.size ≤ rb := by simp at hrb; omega
  have R1 := Lib.hid hR
  clear hb hR hrb
  go_wp2_with fail
  refine (number_at rb rb _ _ _ _ _ w1 s1.out R1.out (by simp [BytesWf]) (by decide)).mono ?_
  rintro e w2 ⟨rfl, hR2, hO⟩
  have b2 := b1.trans (hO.toBelow b1.size hrb1)
  have R2 := Lib.hid hR2
  clear hR2 hO R1 b1
  go_wp2_with fail
  refine (number_w _ _ w2 hN.out).mono ?_
  rintro e w3 ⟨a3, c3, rfl, ho3, hb3⟩
  have b3 := b2.trans (hb3.mono b2.size)
  have R3 := Lib.hid (R2.out.below hb3)
  have hn3 := own_none ho3
  have O3 := Lib.hid ho3
  clear ho3 hb3 R2 b2
  go_wp2_with fail
  refine (value_w _ _ _ _ w3 hV.out (by decide)).mono ?_
  rintro e w4 ⟨a4, c4, rfl, ho4, hb4⟩
  have b4 := b3.trans (hb4.mono b3.size)
  have R4 := Lib.hid (R3.out.below hb4)
  have hp3 := (own_in rfl O3.out).below hb4 (Nat.le_refl _)
  have hp4 := own_in rfl ho4
  have hs4 := hb4.size
  have P3 := Lib.hid (hp3.mono hs4)
  have P4 := Lib.hid hp4
  clear ho4 hb4 R3 b3 hp3 hp4 O3
  go_wp2_with fail
  have hA := (Below.refl w4.heap.size w4).alloc (Nat.le_refl _) (.cells #[.slice a3 8 c3, .slice a4 7 c4] 43)
  refine (wjoin_any (some ⟨w4.heap.size, 0, none⟩) 2 2 [⟨a3, c3, [255, 255, 255, 255, 255, 255, 255, 254]⟩, ⟨a4, c4, [2, 0, 0, 0, 2, 97, 98]⟩] [255, 255, 255, 255, 255, 255, 255, 254, 2, 0, 0, 0, 2, 97, 98] _ (w4.heap.size + 1) rfl (by kernel_rfl) (rowsIn_block ptCells_len _ _ (heap_alloc_new w4 _) rfl (by omega) (by
    intro x hx
    simp only [List.mem_cons, List.not_mem_nil, or_false] at hx
    rcases hx with rfl | rfl
    · exact (P3.out.below hA (Nat.le_refl _)).mono (by omega)
    · exact (P4.out.below hA (Nat.le_refl _)).mono (by omega))) (by simp) (by simp [BytesWf]) (by decide) (by decide) (by decide)).mono ?_
  rintro e w5 ⟨a5, c5, rfl, hin5, hn5, hc5, hbl5, hb5⟩
  have b5 := (b4.alloc b4.size _).trans (hb5.mono (Nat.le_trans b4.size hA.size))
  have R5 := Lib.hid ((R4.out.below hA).below hb5)
  have I5 := Lib.hid hin5
  clear hin5 hc5 hbl5 hb5 R4 b4 hA P3 P4
  go_wp2_with fail
  refine (newReader_any a5 15 c5 [255, 255, 255, 255, 255, 255, 255, 254, 2, 0, 0, 0, 2, 97, 98] _ w5.heap.size rfl I5.out (Nat.le_refl _) hn5 (by decide)).mono ?_
  rintro e w6 ⟨rc, rfl, hrc, hR, hb⟩
  have b6 := b5.trans (hb.mono b5.size)
  have R6 := Lib.hid (R5.out.below hb)
  have hrr : rb < rc := Nat.lt_of_lt_of_le R5.out.lt hrc
  have X6 := Lib.hid hR
  clear hb hR hrc R5 b5 I5 hn5
  go_wp2_with fail
  refine (number_at rc rc _ _ _ _ _ w6 s2.out X6.out (by simp [BytesWf]) (by decide)).mono ?_
  rintro e w7 ⟨rfl, hR, hO⟩
  have b7 := b6.trans (hO.toBelow b6.size (by omega))
  have R7 := Lib.hid (R6.out.only2 hO (by omega) (by omega))
  have X7 := Lib.hid hR
  clear hO hR R6 X6 b6
  go_wp2_with fail
  refine (value_at rc rc _ _ _ _ _ w7 s3.out X7.out (by simp [BytesWf]) (by decide)).mono ?_
  rintro e w8 ⟨he, hR, hO⟩
  unfold Va.val at he
  subst he
  have b8 := b7.trans (hO.toBelow b7.size (by omega))
  have R8 := Lib.hid (R7.out.only2 hO (by omega) (by omega))
  have X8 := Lib.hid hR
  clear hO hR R7 X7 b7
  have hA := (Below.refl w8.heap.size w8).alloc (Nat.le_refl _) (.cells #[.int .u8 2, .int .i64 0, .string ⟨#[97, 98]⟩] 24)
  have b9 := b8.trans (hA.mono b8.size)
  have R9 := Lib.hid (R8.out.below hA)
  have X9 := Lib.hid (X8.out.below hA)
  have t9 : (w8.alloc (.cells #[.int .u8 2, .int .i64 0, .string ⟨#[97, 98]⟩] 24)).cell? ⟨w8.heap.size, 2, none⟩ = some (.string ⟨#[97, 98]⟩) := Go.Joins.cell_of_block (heap_alloc_new w8 _) 2
  have T9 := Lib.hid t9
  have S9 := Lib.hid hA.size
  have HG := Lib.hid (show w8.heap.size < (w8.alloc (.cells #[.int .u8 2, .int .i64 0, .string ⟨#[97, 98]⟩] 24)).heap.size by simp)
  clear hA t9 b8 R8 X8
  go_wp2_with fail
  generalize w8.alloc (.cells #[.int .u8 2, .int .i64 0, .string ⟨#[97, 98]⟩] 24) = w9 at b9 R9 X9 T9 S9 HG ⊢
  generalize w8.heap.size = g at T9 S9 HG ⊢
  obtain ⟨m9, hm9⟩ : ∃ m, w9.heap.size = m := ⟨_, rfl⟩
  have HG2 := Lib.hid (show g < m9 from hm9 ▸ HG.out)
  have S9b := Lib.hid (show m9 ≤ w9.heap.size from Nat.le_of_eq hm9.symm)
  clear HG S9 hm9
  have HG := Lib.hid HG2.out
  have S9 := Lib.hid S9b.out
  clear HG2 S9b
  refine (bad_rd rb rb _ _ w9 R9.out).mono ?_
  rintro e w9' ⟨rfl, rfl⟩
  go_wp2_with fail
  refine (done_rd rb rb _ _ w9 R9.out).mono ?_
  rintro e w9' ⟨rfl, rfl⟩
  go_wp2_with fail
  refine (number_w _ _ w9 hN.out).mono ?_
  rintro e w10 ⟨a10, c10, rfl, ho, hb⟩
  have b10 := b9.trans (hb.mono b9.size)
  have R10 := Lib.hid (R9.out.below hb)
  have X10 := Lib.hid (X9.out.below hb)
  have T10 := Lib.hid ((hb.cell (p := ⟨g, 2, none⟩) (Nat.lt_of_lt_of_le HG.out S9.out)).trans T9.out)
  have S10 := Lib.hid (Nat.le_trans S9.out hb.size)
  have hA := (Below.refl w10.heap.size w10).alloc (Nat.le_refl _) (.cells #[.int .u8 255, .int .u8 255, .int .u8 255, .int .u8 255, .int .u8 255, .int .u8 255, .int .u8 255, .int .u8 254] 5)
  have P := Lib.hid (((own_in rfl ho).below hA (Nat.le_refl _)).mono hA.size)
  have Q := Lib.hid (bytes_new w10 5 [255, 255, 255, 255, 255, 255, 255, 254] #[.int .u8 255, .int .u8 255, .int .u8 255, .int .u8 255, .int .u8 255, .int .u8 255, .int .u8 255, .int .u8 254] (0, 0) w10.heap.size (w10.heap.size + 1) rfl rfl (by omega))
  have hbA := b10.trans (hA.mono b10.size)
  have RA := Lib.hid (R10.out.below hA)
  have XA := Lib.hid (X10.out.below hA)
  have TA := Lib.hid ((hA.cell (p := ⟨g, 2, none⟩) (Nat.lt_of_lt_of_le HG.out S10.out)).trans T10.out)
  have SA := Lib.hid (Nat.le_trans S10.out hA.size)
  clear ho hb hA R9 X9 T9 S9 b9 R10 X10 T10
  go_wp2_with fail
  have hz : (w10.alloc (.cells #[.int .u8 255, .int .u8 255, .int .u8 255, .int .u8 255, .int .u8 255, .int .u8 255, .int .u8 255, .int .u8 254] 5)).heap.size = w10.heap.size + 1 := by simp
  refine (sameB_any a10 8 c10 (some ⟨w10.heap.size, 0, none⟩) 8 8 [255, 255, 255, 255, 255, 255, 255, 254] _ rfl rfl P.out (by rw [hz]; exact Q.out) (by decide)).mono ?_
  rintro e w11 ⟨rfl, hb⟩
  have b11 := hbA.trans (hb.mono hbA.size)
  have R11 := Lib.hid (RA.out.below hb)
  have X11 := Lib.hid (XA.out.below hb)
  have T11 := Lib.hid ((hb.cell (p := ⟨g, 2, none⟩) (Nat.lt_of_lt_of_le HG.out SA.out)).trans TA.out)
  have S11 := Lib.hid (Nat.le_trans SA.out hb.size)
  clear hb RA XA TA SA P Q hz hbA b10 S10
  go_wp2_with fail
  refine (value_w _ _ _ _ w11 hV.out (by decide)).mono ?_
  rintro e w12 ⟨a12, c12, rfl, ho, hb⟩
  have b12 := b11.trans (hb.mono b11.size)
  have R12 := Lib.hid (R11.out.below hb)
  have X12 := Lib.hid (X11.out.below hb)
  have T12 := Lib.hid ((hb.cell (p := ⟨g, 2, none⟩) (Nat.lt_of_lt_of_le HG.out S11.out)).trans T11.out)
  have S12 := Lib.hid (Nat.le_trans S11.out hb.size)
  have hA := (Below.refl w12.heap.size w12).alloc (Nat.le_refl _) (.cells #[.int .u8 2, .int .u8 0, .int .u8 0, .int .u8 0, .int .u8 2, .int .u8 97, .int .u8 98] 5)
  have P := Lib.hid (((own_in rfl ho).below hA (Nat.le_refl _)).mono hA.size)
  have Q := Lib.hid (bytes_new w12 5 [2, 0, 0, 0, 2, 97, 98] #[.int .u8 2, .int .u8 0, .int .u8 0, .int .u8 0, .int .u8 2, .int .u8 97, .int .u8 98] (0, 0) w12.heap.size (w12.heap.size + 1) rfl rfl (by omega))
  have hbA := b12.trans (hA.mono b12.size)
  have RA := Lib.hid (R12.out.below hA)
  have XA := Lib.hid (X12.out.below hA)
  have TA := Lib.hid ((hA.cell (p := ⟨g, 2, none⟩) (Nat.lt_of_lt_of_le HG.out S12.out)).trans T12.out)
  have SA := Lib.hid (Nat.le_trans S12.out hA.size)
  clear ho hb hA R11 X11 T11 S11 b11 R12 X12 T12
  go_wp2_with fail
  have hz : (w12.alloc (.cells #[.int .u8 2, .int .u8 0, .int .u8 0, .int .u8 0, .int .u8 2, .int .u8 97, .int .u8 98] 5)).heap.size = w12.heap.size + 1 := by simp
  refine (sameB_any a12 7 c12 (some ⟨w12.heap.size, 0, none⟩) 7 7 [2, 0, 0, 0, 2, 97, 98] _ rfl rfl P.out (by rw [hz]; exact Q.out) (by decide)).mono ?_
  rintro e w13 ⟨rfl, hb⟩
  have b13 := hbA.trans (hb.mono hbA.size)
  have R13 := Lib.hid (RA.out.below hb)
  have X13 := Lib.hid (XA.out.below hb)
  have T13 := Lib.hid ((hb.cell (p := ⟨g, 2, none⟩) (Nat.lt_of_lt_of_le HG.out SA.out)).trans TA.out)
  have S13 := Lib.hid (Nat.le_trans SA.out hb.size)
  clear hb RA XA TA SA P Q hz hbA b12 S12
  go_wp2_with fail
  refine (values_w _ w13 hV0.out).mono ?_
  rintro e w14 ⟨a14, c14, rfl, ho, hb⟩
  have b14 := b13.trans (hb.mono b13.size)
  have R14 := Lib.hid (R13.out.below hb)
  have X14 := Lib.hid (X13.out.below hb)
  have T14 := Lib.hid ((hb.cell (p := ⟨g, 2, none⟩) (Nat.lt_of_lt_of_le HG.out S13.out)).trans T13.out)
  have S14 := Lib.hid (Nat.le_trans S13.out hb.size)
  have hA := (Below.refl w14.heap.size w14).alloc (Nat.le_refl _) (.cells #[.int .u8 0, .int .u8 0, .int .u8 0, .int .u8 0] 5)
  have P := Lib.hid (((own_in rfl ho).below hA (Nat.le_refl _)).mono hA.size)
  have Q := Lib.hid (bytes_new w14 5 [0, 0, 0, 0] #[.int .u8 0, .int .u8 0, .int .u8 0, .int .u8 0] (0, 0) w14.heap.size (w14.heap.size + 1) rfl rfl (by omega))
  have hbA := b14.trans (hA.mono b14.size)
  have RA := Lib.hid (R14.out.below hA)
  have XA := Lib.hid (X14.out.below hA)
  have TA := Lib.hid ((hA.cell (p := ⟨g, 2, none⟩) (Nat.lt_of_lt_of_le HG.out S14.out)).trans T14.out)
  have SA := Lib.hid (Nat.le_trans S14.out hA.size)
  clear ho hb hA R13 X13 T13 S13 b13 R14 X14 T14
  go_wp2_with fail
  have hz : (w14.alloc (.cells #[.int .u8 0, .int .u8 0, .int .u8 0, .int .u8 0] 5)).heap.size = w14.heap.size + 1 := by simp
  refine (sameB_any a14 4 c14 (some ⟨w14.heap.size, 0, none⟩) 4 4 [0, 0, 0, 0] _ rfl rfl P.out (by rw [hz]; exact Q.out) (by decide)).mono ?_
  rintro e w15 ⟨rfl, hb⟩
  have b15 := hbA.trans (hb.mono hbA.size)
  have R15 := Lib.hid (RA.out.below hb)
  have X15 := Lib.hid (XA.out.below hb)
  have T15 := Lib.hid ((hb.cell (p := ⟨g, 2, none⟩) (Nat.lt_of_lt_of_le HG.out SA.out)).trans TA.out)
  have S15 := Lib.hid (Nat.le_trans SA.out hb.size)
  clear hb RA XA TA SA P Q hz hbA b14 S14
  have t15 := T15.out
  go_wp2_with fail
  refine (done_rd rc rc _ _ w15 X15.out).mono ?_
  rintro e w15' ⟨rfl, rfl⟩
  go_wp2_with fail
  refine (bad_rd rc rc _ _ w15 X15.out).mono ?_
  rintro e w15' ⟨rfl, rfl⟩
  go_wp2_with fail
  go_ret
  exact ⟨rfl, b15⟩
end Go.Proofs.YtiggpcmikhojmaaGreatDoor
/- Reply of wire: the bytes of a form. Conditions: what is written is not too long. -/
namespace Go.Proofs.YtiggpcmikhojmaaGreatDoor
open Go.RowKit
set_option maxRecDepth 20000
set_option maxHeartbeats 2000000 in
theorem wreply_any (er num : Int) (fo : Option Addr) (n fcap : Nat) (facts : List Fa) (so : Option Addr) (m scap : Nat) (said : List Va) (w : World) (hn : facts.length = n) (hm : said.length = m) (hx : FasIn w w.heap.size fo facts) (hs : ValsIn w w.heap.size so said)
    (htf : ∀ f ∈ facts, f.args.length ≤ 1099511627776 ∧ ∀ v ∈ f.args, v.text.size ≤ 1099511627776) (hts : ∀ v ∈ said, v.text.size ≤ 1099511627776) (hnl : n ≤ 1099511627776) (hml : m ≤ 1099511627776) (L : List Int) (hL : (facts.flatMap fun f => factB f.plain) = L) (hlim : L.length + (valuesB said).length + 100 ≤ 100000000000) :
    Calls Tryz.prog 33 #[.agg #[.int .i64 er, .int .i64 num, .slice fo n fcap, .slice so m scap]] w (BytesNew (numB 8 er ++ (numB 8 num ++ (numB 4 n ++ (L ++ valuesB said)))) w.heap.size w) := by
  have hst := Wrote.start (buf_new (w.alloc (.cells #[.int .i64 er, .int .i64 num, .slice fo n fcap, .slice so m scap] 34)))
  have hb := ((Below.refl w.heap.size w).alloc (Nat.le_refl _) (.cells #[.int .i64 er, .int .i64 num, .slice fo n fcap, .slice so m scap] 34)).alloc (by simp) (.cells #[.slice none 0 0, .int .i64 0, .int .i8 0] 101)
  have hk := heap_alloc_keep (heap_alloc_new w (.cells #[.int .i64 er, .int .i64 num, .slice fo n fcap, .slice so m scap] 34)) (.cells #[.slice none 0 0, .int .i64 0, .int .i8 0] 101)
  have hsz : (w.alloc (.cells #[.int .i64 er, .int .i64 num, .slice fo n fcap, .slice so m scap] 34)).heap.size = w.heap.size + 1 := by simp
  have hs0 : ((w.alloc (.cells #[.int .i64 er, .int .i64 num, .slice fo n fcap, .slice so m scap] 34)).alloc (.cells #[.slice none 0 0, .int .i64 0, .int .i8 0] 101)).heap.size = w.heap.size + 2 := by simp
  rw [hsz] at hst
  have HX := Lib.hid hx
  have HS := Lib.hid hs
  have HN := Lib.hid hn
  have HM := Lib.hid hm
  have HTF := Lib.hid htf
  have HTS := Lib.hid hts
  have HL := Lib.hid hL
  have HST := Lib.hid hst
  have HB := Lib.hid hb
  have HK := Lib.hid hk
  have HS0 := Lib.hid hs0
  clear hst hb hk hsz hs0 hx hs hn hm htf hts hL
  go_enter Tryz.func33, Tryz.ntmps33
  go_wp2_with fail
  have hst := HST.out
  have hb := HB.out
  have hk := HK.out
  have hs0 := HS0.out
  generalize ((w.alloc (.cells #[.int .i64 er, .int .i64 num, .slice fo n fcap, .slice so m scap] 34)).alloc (.cells #[.slice none 0 0, .int .i64 0, .int .i8 0] 101)) = w0 at hst hb hk hs0 ⊢
  clear HST HB HK HS0
  have HX := Lib.hid ((HX.out.below faSub_kept hb (Nat.le_refl _)).mono faSub_rising (Nat.le_succ _))
  have HS := Lib.hid ((HS.out.below noSub_kept hb (Nat.le_refl _)).mono noSub_rising (Nat.le_succ _))
  have HK := Lib.hid hk
  refine (put2_any (w.heap.size + 1) (w.heap.size + 1) 8 _ [] er num w0 (by simp [hs0]) (by omega) (by omega) hst.1 (by omega) (by simp)).mono ?_
  rintro e w1 ⟨rfl, hw⟩
  rw [List.nil_append] at hw
  have hk1 := hw.sits hk (by omega) (by decide)
  have d2 : w1.cell? ⟨w.heap.size, 2, none⟩ = some (.slice fo n fcap) := Go.Joins.cell_of_block hk1 2
  have H1 := Lib.hid hw
  have HK1 := Lib.hid hk1
  have hB0 : w.heap.size + 1 ≤ w0.heap.size := by omega
  clear hw hk1 hk hst
  go_wp2_with fail
  refine (count_any (w.heap.size + 1) (w.heap.size + 1) _ n w1 H1.out.1 (Nat.le_trans hB0 H1.out.2.1.size) (by simp only [List.length_append, numB_len]; omega)).mono ?_
  rintro e w2 ⟨rfl, hw⟩
  have hk2 := hw.sits HK1.out (by omega) (by decide)
  have d2 : w2.cell? ⟨w.heap.size, 2, none⟩ = some (.slice fo n fcap) := Go.Joins.cell_of_block hk2 2
  have H2 := Lib.hid (H1.out.trans hw)
  clear hw hk2 HK1 H1
  go_wp2_with fail
  go_loopw [19] (fun i wr => ∃ k : Nat, k ≤ n ∧ i = .int .i64 k ∧ Wrote (w.heap.size + 1) (w.heap.size + 1) (numB 8 er ++ numB 8 num ++ numB 4 n ++ (facts.take k).flatMap fun f => factB f.plain) w0 wr) (fun i _ => n - (intOf i).toNat)
  case atStart => exact ⟨0, by omega, rfl, by simpa using H2.out⟩
  case round =>
    clear H2 d2
    obtain ⟨k, hk, rfl, hw⟩ := hrel
    have HW := Lib.hid hw
    clear hw
    by_cases hlt : k < n
    · have hkx : facts[k]? = some (facts[k]'(by rw [HN.out]; exact hlt)) := List.getElem?_eq_getElem _
      obtain ⟨rb, off, hao, hbb, hc, hsub⟩ := HX.out.at hkx
      have htk : ((facts.take (k + 1)).flatMap fun f => factB f.plain) = ((facts.take k).flatMap fun f => factB f.plain) ++ factB (facts[k]'(by rw [HN.out]; exact hlt)).plain := by
        rw [List.take_succ_eq_append_getElem (by rw [HN.out]; exact hlt), List.flatMap_append]; simp
      have hle := flatMap_at_le (fun f : Fa => factB f.plain) facts k _ hkx
      rw [HL.out] at hle
      have htx := HTF.out _ (List.getElem_mem (l := facts) (n := k) (by rw [HN.out]; exact hlt))
      generalize facts[k]'(by rw [HN.out]; exact hlt) = x at hc htk hle htx hkx hsub
      have hfl : (factB x.plain).length = 16 + (valuesB x.args).length := by simp only [Fa.plain, factB, List.length_append, numB_len]; omega
      have hcall : ∀ w', Wrote (w.heap.size + 1) (w.heap.size + 1) (numB 8 er ++ numB 8 num ++ numB 4 n ++ (facts.take k).flatMap fun f => factB f.plain) w0 w' → Calls Tryz.prog 69 #[.pointer (some ⟨w.heap.size + 1, 0, none⟩), faVal x] w' fun e w'' => e = .returned (.tuple #[]) ∧ Wrote (w.heap.size + 1) (w.heap.size + 1) ((numB 8 er ++ numB 8 num ++ numB 4 n ++ (facts.take k).flatMap fun f => factB f.plain) ++ factB x.plain) w' w'' := fun w' hw' =>
        fact_any (w.heap.size + 1) (w.heap.size + 1) _ x.id x.ty x.ao _ x.cap x.args w' rfl (hsub.below noSub_kept hw'.2.1 (Nat.le_refl _)) htx.2 hw'.1 (Nat.le_trans hB0 hw'.2.1.size) htx.1 (by simp only [List.length_append, numB_len]; omega)
      obtain ⟨id, ty, ao, args, cap⟩ := x
      unfold faVal at hcall
      dsimp only at hcall
      obtain ⟨an, han⟩ : ∃ an, args.length = an := ⟨_, rfl⟩
      rw [han] at hcall
      have hbel := HW.out.2.1
      have c0 : wr.cell? ⟨rb, off + k * 3, none⟩ = some (.int .i64 id) := (hbel.cell (p := ⟨rb, _, none⟩) hbb).trans (hc 0 (by decide))
      have c1 : wr.cell? ⟨rb, off + k * 3 + 1, none⟩ = some (.int .i64 ty) := (hbel.cell (p := ⟨rb, _, none⟩) hbb).trans (hc 1 (by decide))
      have c2 : wr.cell? ⟨rb, off + k * 3 + 1 + 1, none⟩ = some (.slice ao an cap) := (hbel.cell (p := ⟨rb, _, none⟩) hbb).trans (han ▸ hc 2 (by decide))
      have c3 : wr.cell? ⟨rb, off + k * 3 + 2, none⟩ = some (.slice ao an cap) := c2
      have HT := Lib.hid htk
      have HC := Lib.hid hcall
      have i1 : (k : Int) < n := by omega
      subst hao
      clear hc htk hle htx hkx hcall hbel hsub hfl han
      go_wp2_with fail
      refine (HC.out _ (HW.out.alloc hB0 _)).mono ?_
      rintro e w3 ⟨rfl, hw3⟩
      have hw4 := (HW.out.alloc hB0 _).trans hw3
      rw [List.append_assoc, ← HT.out] at hw4
      have HW4 := Lib.hid hw4
      clear hw3 hw4 c0 c1 c2 c3
      go_wp2_with fail
      go_roundw
      case rel => exact ⟨k + 1, by omega, by go_num, HW4.out⟩
      case measure => simp [intOf]; omega
    · obtain rfl : k = n := by omega
      have hw5 := HW.out
      rw [List.take_of_length_le (l := facts) (by rw [HN.out]; exact Nat.le_refl _), HL.out] at hw5
      have hk5 := hw5.sits HK.out (by omega) (by decide)
      have d3 : wr.cell? ⟨w.heap.size, 3, none⟩ = some (.slice so m scap) := Go.Joins.cell_of_block hk5 3
      have HW5 := Lib.hid hw5
      clear hw5 hk5 HW
      go_wp2_with fail
      refine (values_any (w.heap.size + 1) (w.heap.size + 1) _ so m scap said wr HM.out (HS.out.below noSub_kept HW5.out.2.1 (Nat.le_refl _)) HTS.out HW5.out.1 (Nat.le_trans hB0 HW5.out.2.1.size) (by simp only [List.length_append, numB_len]; omega) hml (by simp only [List.length_append, numB_len]; omega)).mono ?_
      rintro e w6 ⟨rfl, hw6⟩
      have hw7 := HW5.out.trans hw6
      have hbs : numB 8 er ++ numB 8 num ++ numB 4 k ++ L ++ valuesB said = numB 8 er ++ (numB 8 num ++ (numB 4 k ++ (L ++ valuesB said))) := by simp
      rw [hbs] at hw7
      have HW7 := Lib.hid hw7
      have hb6 := hb.trans (hw7.2.1.mono (Nat.le_succ _))
      have hs6 : w.heap.size + 1 ≤ w6.heap.size := by have := hw7.2.1.size; omega
      clear hw6 hw7 hbs d3
      go_wp2_with fail
      refine (told_any (w.heap.size + 1) (w.heap.size + 1) _ w6 HW7.out.1 hs6 (by simp only [List.length_append, numB_len]; omega)).mono ?_
      rintro e w8 ⟨a, c, rfl, ho, hb2⟩
      have HO := Lib.hid (Go.Joins.ownsRow_le ho hb6.size)
      have hb9 := hb6.trans (hb2.mono hb6.size)
      clear ho hb2
      go_wp2_with fail
      go_ret
      exact ⟨a, c, by simp [List.length_append], HO.out, hb9⟩
end Go.Proofs.YtiggpcmikhojmaaGreatDoor
/- Entry of wire: the bytes of a form. Conditions: what is written is not too long. -/
namespace Go.Proofs.YtiggpcmikhojmaaGreatDoor
open Go.RowKit
set_option maxRecDepth 20000
set_option maxHeartbeats 2000000 in
theorem wentry_any (tm kd ss sq ck : Int) (text : ByteArray) (ao : Option Addr) (n cap : Nat) (args : List Va) (num : Int) (vo : Option Addr) (m vcap : Nat) (vs : List Int) (w : World) (hn : args.length = n) (hm : vs.length = m) (hx : ValsIn w w.heap.size ao args) (hs : NumsIn w w.heap.size vo vs)
    (htx : ∀ v ∈ args, v.text.size ≤ 1099511627776) (hnl : n ≤ 1099511627776) (hml : m ≤ 1000000000) (hlim : text.size + (valuesB args).length + 100 ≤ 10000000000) :
    Calls Tryz.prog 34 #[.agg #[.int .i64 tm, .int .u8 kd, .int .i64 ss, .int .i64 sq, .int .u8 ck, .string text, .slice ao n cap, .int .i64 num, .slice vo m vcap]] w (BytesNew (entryB ⟨tm, kd, ss, sq, ck, text, args, num, vs⟩) w.heap.size w) := by
  have hst := Wrote.start (buf_new (w.alloc (.cells #[.int .i64 tm, .int .u8 kd, .int .i64 ss, .int .i64 sq, .int .u8 ck, .string text, .slice ao n cap, .int .i64 num, .slice vo m vcap] 38)))
  have hb := ((Below.refl w.heap.size w).alloc (Nat.le_refl _) (.cells #[.int .i64 tm, .int .u8 kd, .int .i64 ss, .int .i64 sq, .int .u8 ck, .string text, .slice ao n cap, .int .i64 num, .slice vo m vcap] 38)).alloc (by simp) (.cells #[.slice none 0 0, .int .i64 0, .int .i8 0] 101)
  have hk := heap_alloc_keep (heap_alloc_new w (.cells #[.int .i64 tm, .int .u8 kd, .int .i64 ss, .int .i64 sq, .int .u8 ck, .string text, .slice ao n cap, .int .i64 num, .slice vo m vcap] 38)) (.cells #[.slice none 0 0, .int .i64 0, .int .i8 0] 101)
  have hsz : (w.alloc (.cells #[.int .i64 tm, .int .u8 kd, .int .i64 ss, .int .i64 sq, .int .u8 ck, .string text, .slice ao n cap, .int .i64 num, .slice vo m vcap] 38)).heap.size = w.heap.size + 1 := by simp
  have hs0 : ((w.alloc (.cells #[.int .i64 tm, .int .u8 kd, .int .i64 ss, .int .i64 sq, .int .u8 ck, .string text, .slice ao n cap, .int .i64 num, .slice vo m vcap] 38)).alloc (.cells #[.slice none 0 0, .int .i64 0, .int .i8 0] 101)).heap.size = w.heap.size + 2 := by simp
  rw [hsz] at hst
  have HX := Lib.hid hx
  have HS := Lib.hid hs
  have HN := Lib.hid hn
  have HM := Lib.hid hm
  have HTX := Lib.hid htx
  have HST := Lib.hid hst
  have HB := Lib.hid hb
  have HK := Lib.hid hk
  have HS0 := Lib.hid hs0
  clear hst hb hk hsz hs0 hx hs hn hm htx
  go_enter Tryz.func34, Tryz.ntmps34
  go_wp2_with fail
  have hst := HST.out
  have hb := HB.out
  have hk := HK.out
  have hs0 := HS0.out
  generalize ((w.alloc (.cells #[.int .i64 tm, .int .u8 kd, .int .i64 ss, .int .i64 sq, .int .u8 ck, .string text, .slice ao n cap, .int .i64 num, .slice vo m vcap] 38)).alloc (.cells #[.slice none 0 0, .int .i64 0, .int .i8 0] 101)) = w0 at hst hb hk hs0 ⊢
  clear HST HB HK HS0
  have HX := Lib.hid ((HX.out.below noSub_kept hb (Nat.le_refl _)).mono noSub_rising (Nat.le_succ _))
  have HS := Lib.hid ((HS.out.below noSub_kept hb (Nat.le_refl _)).mono noSub_rising (Nat.le_succ _))
  have HK := Lib.hid hk
  have hB0 : w.heap.size + 1 ≤ w0.heap.size := by omega
  refine (put1_any (w.heap.size + 1) (w.heap.size + 1) 8 _ [] tm w0 (by simp [hs0]) (by omega) (by omega) hst.1 (by omega) (by simp)).mono ?_
  rintro e w1 ⟨rfl, hw⟩
  rw [List.nil_append] at hw
  have hk1 := hw.sits hk (by omega) (by decide)
  have d1 : w1.cell? ⟨w.heap.size, 1, none⟩ = some (.int .u8 kd) := Go.Joins.cell_of_block hk1 1
  have H1 := Lib.hid hw
  have HK1 := Lib.hid hk1
  clear hw hk1 hk hst
  go_wp2_with fail
  refine (writeByte_any (w.heap.size + 1) (w.heap.size + 1) _ kd w1 H1.out.1 (Nat.le_trans hB0 H1.out.2.1.size) (by simp only [numB_len]; omega)).mono ?_
  rintro e w2 ⟨rfl, hw⟩
  have hk2 := hw.sits HK1.out (by omega) (by decide)
  have d2 : w2.cell? ⟨w.heap.size, 2, none⟩ = some (.int .i64 ss) := Go.Joins.cell_of_block hk2 2
  have d3 : w2.cell? ⟨w.heap.size, 3, none⟩ = some (.int .i64 sq) := Go.Joins.cell_of_block hk2 3
  have H2 := Lib.hid (H1.out.trans hw)
  have HK2 := Lib.hid hk2
  clear hw hk2 HK1 H1 d1
  go_wp2_with fail
  refine (put2_any (w.heap.size + 1) (w.heap.size + 1) 8 _ _ ss sq w2 rfl (by omega) (by omega) H2.out.1 (Nat.le_trans hB0 H2.out.2.1.size) (by simp only [List.length_append, List.length_singleton, numB_len]; omega)).mono ?_
  rintro e w3 ⟨rfl, hw⟩
  have hk3 := hw.sits HK2.out (by omega) (by decide)
  have d4 : w3.cell? ⟨w.heap.size, 4, none⟩ = some (.int .u8 ck) := Go.Joins.cell_of_block hk3 4
  have d5 : w3.cell? ⟨w.heap.size, 4 + 1, none⟩ = some (.string text) := Go.Joins.cell_of_block hk3 5
  have d6 : w3.cell? ⟨w.heap.size, 4 + 2, none⟩ = some (.slice ao n cap) := Go.Joins.cell_of_block hk3 6
  have d7 : w3.cell? ⟨w.heap.size, 4 + 3, none⟩ = some (.int .i64 num) := Go.Joins.cell_of_block hk3 7
  have d5' : w3.cell? ⟨w.heap.size, 5, none⟩ = some (.string text) := d5
  have d6' : w3.cell? ⟨w.heap.size, 6, none⟩ = some (.slice ao n cap) := d6
  have d7' : w3.cell? ⟨w.heap.size, 7, none⟩ = some (.int .i64 num) := d7
  have H3 := Lib.hid (H2.out.trans hw)
  have HK3 := Lib.hid hk3
  clear hw hk3 HK2 H2 d2 d3
  go_wp2_with fail
  refine (command_any (w.heap.size + 1) (w.heap.size + 1) _ ck text ao n cap num args w3 HN.out (HX.out.below noSub_kept H3.out.2.1 (Nat.le_refl _)) HTX.out H3.out.1 (Nat.le_trans hB0 H3.out.2.1.size) hnl (by simp only [List.length_append, List.length_singleton, numB_len]; omega)).mono ?_
  rintro e w4 ⟨rfl, hw⟩
  have hk4 := hw.sits HK3.out (by omega) (by decide)
  have d8 : w4.cell? ⟨w.heap.size, 8, none⟩ = some (.slice vo m vcap) := Go.Joins.cell_of_block hk4 8
  have H4 := Lib.hid (H3.out.trans hw)
  have HK4 := Lib.hid hk4
  clear hw hk4 HK3 H3 d4 d5 d6 d7 d5' d6' d7'
  go_wp2_with fail
  refine (count_any (w.heap.size + 1) (w.heap.size + 1) _ m w4 H4.out.1 (Nat.le_trans hB0 H4.out.2.1.size) (by simp only [List.length_append, List.length_singleton, numB_len, commandB_len]; omega)).mono ?_
  rintro e w5 ⟨rfl, hw⟩
  have hk5 := hw.sits HK4.out (by omega) (by decide)
  have d8 : w5.cell? ⟨w.heap.size, 8, none⟩ = some (.slice vo m vcap) := Go.Joins.cell_of_block hk5 8
  have hw5 := H4.out.trans hw
  have hbs : numB 8 tm ++ [kd] ++ (numB 8 ss ++ numB 8 sq) ++ commandB ck text num args ++ numB 4 m = numB 8 tm ++ (kd :: (numB 8 ss ++ (numB 8 sq ++ (commandB ck text num args ++ numB 4 m)))) := by simp
  rw [hbs] at hw5
  obtain ⟨P, hP⟩ : ∃ P, numB 8 tm ++ (kd :: (numB 8 ss ++ (numB 8 sq ++ (commandB ck text num args ++ numB 4 m)))) = P := ⟨_, rfl⟩
  have hpl : P.length = 42 + text.size + (valuesB args).length := by rw [← hP]; simp only [List.length_append, List.length_cons, numB_len, commandB_len]; omega
  rw [hP] at hw5
  have H5 := Lib.hid hw5
  have HP := Lib.hid hP
  clear hw hw5 hk5 HK4 H4 hbs hP HX HTX
  go_wp2_with fail
  go_loopw [30] (fun i wr => ∃ k : Nat, k ≤ m ∧ i = .int .i64 k ∧ Wrote (w.heap.size + 1) (w.heap.size + 1) (P ++ (vs.take k).flatMap (numB 8)) w0 wr) (fun i _ => m - (intOf i).toNat)
  case atStart => exact ⟨0, by omega, rfl, by simpa using H5.out⟩
  case round =>
    clear H5 d8
    obtain ⟨k, hk, rfl, hw⟩ := hrel
    have HW := Lib.hid hw
    clear hw
    have hlk : ((vs.take k).flatMap (numB 8)).length ≤ 8000000000 := by
      rw [flatN_len, List.length_take]
      have : min k vs.length ≤ 1000000000 := by omega
      omega
    by_cases hlt : k < m
    · have hkx : vs[k]? = some (vs[k]'(by rw [HM.out]; exact hlt)) := List.getElem?_eq_getElem _
      obtain ⟨rb, off, hao, hbb, hc, _⟩ := HS.out.at hkx
      have htk : (vs.take (k + 1)).flatMap (numB 8) = (vs.take k).flatMap (numB 8) ++ numB 8 (vs[k]'(by rw [HM.out]; exact hlt)) := by
        rw [List.take_succ_eq_append_getElem (by rw [HM.out]; exact hlt), List.flatMap_append]; simp
      generalize vs[k]'(by rw [HM.out]; exact hlt) = x at hc htk hkx
      have hbel := HW.out.2.1
      have c0 : wr.cell? ⟨rb, off + k * 1, none⟩ = some (.int .i64 x) := (hbel.cell (p := ⟨rb, _, none⟩) hbb).trans (hc 0 (by decide))
      have c0' : wr.cell? ⟨rb, off + k, none⟩ = some (.int .i64 x) := by simpa using c0
      have HT := Lib.hid htk
      have i1 : (k : Int) < m := by omega
      subst hao
      clear hc htk hkx hbel
      go_wp2_with fail
      refine (put1_any (w.heap.size + 1) (w.heap.size + 1) 8 _ _ x wr rfl (by omega) (by omega) HW.out.1 (Nat.le_trans hB0 HW.out.2.1.size) (by simp only [List.length_append]; omega)).mono ?_
      rintro e w3 ⟨rfl, hw3⟩
      have hw4 := HW.out.trans hw3
      rw [List.append_assoc, ← HT.out] at hw4
      have HW4 := Lib.hid hw4
      clear hw3 hw4 c0 c0'
      go_wp2_with fail
      go_roundw
      case rel => exact ⟨k + 1, by omega, by go_num, HW4.out⟩
      case measure => simp [intOf]; omega
    · obtain rfl : k = m := by omega
      have hw5 := HW.out
      rw [List.take_of_length_le (l := vs) (by rw [HM.out]; exact Nat.le_refl _)] at hw5
      have hlv : (vs.flatMap (numB 8)).length ≤ 8000000000 := by rw [flatN_len, HM.out]; omega
      have hbs : P ++ vs.flatMap (numB 8) = entryB ⟨tm, kd, ss, sq, ck, text, args, num, vs⟩ := by rw [← HP.out, ← HM.out]; simp [entryB]
      have hbl : (entryB ⟨tm, kd, ss, sq, ck, text, args, num, vs⟩).length ≤ 30000000000 := by rw [← hbs, List.length_append]; omega
      rw [hbs] at hw5
      have HW5 := Lib.hid hw5
      have hb6 := hb.trans (hw5.2.1.mono (Nat.le_succ _))
      have hs6 : w.heap.size + 1 ≤ wr.heap.size := by have := hw5.2.1.size; omega
      clear hw5 HW hbs
      go_wp2_with fail
      refine (told_any (w.heap.size + 1) (w.heap.size + 1) _ wr HW5.out.1 hs6 (by omega)).mono ?_
      rintro e w8 ⟨a, c, rfl, ho, hb2⟩
      have HO := Lib.hid (Go.Joins.ownsRow_le ho hb6.size)
      have hb9 := hb6.trans (hb2.mono hb6.size)
      clear ho hb2
      go_wp2_with fail
      go_ret
      exact ⟨a, c, rfl, HO.out, hb9⟩
end Go.Proofs.YtiggpcmikhojmaaGreatDoor
/- The writers of wire over things that lie in memory, and rows of bytes that calls have made one after the other. Conditions: the things are small. -/
namespace Go.Proofs.YtiggpcmikhojmaaGreatDoor
open Go.RowKit
set_option maxRecDepth 20000
/-- Rows of bytes of a call's own, each in a block of its own. -/
structure Rs (w : World) (B : Nat) (l : List (Value × List Int)) : Prop where
  own : ∀ p ∈ l, w.ownsRow B 5 1 p.1 p.2.length (p.2.map bv)
  sep : l.Pairwise fun p q => ∀ b, p.1.ownBlock = some b → q.1.ownBlock ≠ some b
theorem Rs.nil (w : World) (B : Nat) : Rs w B [] := ⟨fun _ h => (by cases h), List.Pairwise.nil⟩
theorem Rs.below {w w' : World} {B : Nat} {l : List (Value × List Int)} (h : Rs w B l) (hb : Below w.heap.size w w') : Rs w' B l := ⟨fun p hp => own_below (h.own p hp) hb (Nat.le_refl _), h.sep⟩
theorem Rs.add {w w' : World} {B : Nat} {l : List (Value × List Int)} {v : Value} {L : List Int} (h : Rs w B l) (ho : w'.ownsRow w.heap.size 5 1 v L.length (L.map bv)) (hb : Below w.heap.size w w') (hB : B ≤ w.heap.size) : Rs w' B (l ++ [(v, L)]) :=
  ⟨fun p hp => by
    rcases List.mem_append.1 hp with hp | hp
    · exact own_below (h.own p hp) hb (Nat.le_refl _)
    · rw [List.mem_singleton.1 hp]; exact Go.Joins.ownsRow_le ho hB,
   List.pairwise_append.2 ⟨h.sep, List.pairwise_singleton _ _, fun p hp q hq b h1 h2 => by
    rw [List.mem_singleton.1 hq] at h2
    have h3 := (World.ownsRow.lt (h.own p hp) b h1).2
    have h4 := (World.ownsRow.lt ho b h2).1
    omega⟩⟩
theorem Rs.addR {w w' : World} {B : Nat} {l : List (Value × List Int)} {a : Option Addr} {n c : Nat} {L : List Int} (h : Rs w B l) (ho : BOwn w' w.heap.size a n c L) (hb : Below w.heap.size w w') (hB : B ≤ w.heap.size) : Rs w' B (l ++ [(.slice a n c, L)]) := by
  obtain ⟨rfl, hr⟩ := ho
  exact h.add hr hb hB
theorem wentry_l (x0 x1 x2 x3 ck : Int) (text : ByteArray) (a1 : Option Addr) (c1 : Nat) (args : List Va) (num : Int) (a2 : Option Addr) (c2 : Nat) (vs : List Int) (w : World) (L : List Int) (hL : entryB ⟨x0, x1, x2, x3, ck, text, args, num, vs⟩ = L) (hx : ValsIn w w.heap.size a1 args) (hy : NumsIn w w.heap.size a2 vs) (h1 : text.size ≤ 60000) (h2 : SmallV args) (h3 : vs.length ≤ 2000) :
    Calls Tryz.prog 34 #[.agg #[.int .i64 x0, .int .u8 x1, .int .i64 x2, .int .i64 x3, .int .u8 ck, .string text, .slice a1 args.length c1, .int .i64 num, .slice a2 vs.length c2]] w (BytesNew L w.heap.size w) :=
  hL ▸ wentry_any x0 x1 x2 x3 ck text a1 _ c1 args num a2 _ c2 vs w rfl rfl hx hy (fun v hv => by have := h2.2.1 v hv; omega) (by have := h2.1; omega) (by omega) (by have := h2.2.2; omega)
theorem facts_same {frs facts : List Fa} (hmap : frs.map Fa.plain = facts.map Fa.plain) : ∀ f ∈ frs, ∃ y ∈ facts, y.args = f.args := fun f hf => by
  have hm : f.plain ∈ facts.map Fa.plain := by rw [← hmap]; exact List.mem_map_of_mem hf
  obtain ⟨y, hy, he⟩ := List.mem_map.1 hm
  exact ⟨y, hy, congrArg FaP.args he⟩
theorem flat_same {frs facts : List Fa} (hmap : frs.map Fa.plain = facts.map Fa.plain) : (frs.flatMap fun f => factB f.plain) = facts.flatMap fun f => factB f.plain := by
  have h1 : (frs.flatMap fun f => factB f.plain) = (frs.map Fa.plain).flatMap factB := (List.flatMap_map _ _ _).symm
  have h2 : (facts.flatMap fun f => factB f.plain) = (facts.map Fa.plain).flatMap factB := (List.flatMap_map _ _ _).symm
  rw [h1, h2, hmap]
theorem wreply_l (er num : Int) (fo : Option Addr) (fn fc : Nat) (frs facts : List Fa) (so : Option Addr) (sc : Nat) (said : List Va) (w : World) (L : List Int) (hL : numB 8 er ++ (numB 8 num ++ (numB 4 fn ++ ((facts.flatMap fun f => factB f.plain) ++ valuesB said))) = L) (hn : facts.length = fn) (hmap : frs.map Fa.plain = facts.map Fa.plain) (hx : FasIn w w.heap.size fo frs) (hs : ValsIn w w.heap.size so said) (h1 : facts.length ≤ 2000) (h2 : ∀ f ∈ facts, SmallV f.args) (h3 : SmallV said) :
    Calls Tryz.prog 33 #[.agg #[.int .i64 er, .int .i64 num, .slice fo fn fc, .slice so said.length sc]] w (BytesNew L w.heap.size w) := by
  subst hL
  have h4 := factsB_small (facts.map Fa.plain) (fun f hf => by obtain ⟨g, hg, rfl⟩ := List.mem_map.1 hf; exact h2 g hg)
  rw [List.length_map, List.flatMap_map] at h4
  have hfl : frs.length = fn := by rw [← hn]; have := congrArg List.length hmap; simpa using this
  exact wreply_any er num fo fn fc frs so _ sc said w hfl rfl hx hs (fun f hf => by obtain ⟨y, hy, e⟩ := facts_same hmap f hf; rw [← e]; exact ⟨by have := (h2 y hy).1; omega, fun v hv => by have := (h2 y hy).2.1 v hv; omega⟩) (fun v hv => by have := h3.2.1 v hv; omega) (by omega) (by have := h3.1; omega) _ (flat_same hmap) (by have := h3.2.2; omega)
theorem wtext_l (s : ByteArray) (w : World) (L : List Int) (hL : textB s = L) (h : s.size ≤ 60000) : Calls Tryz.prog 28 #[.string s] w (BytesNew L w.heap.size w) := hL ▸ wtext_any s w (by omega)
theorem wvalues_l (ao : Option Addr) (cap : Nat) (xs : List Va) (w : World) (L : List Int) (hL : valuesB xs = L) (hx : ValsIn w w.heap.size ao xs) (h : SmallV xs) : Calls Tryz.prog 30 #[.slice ao xs.length cap] w (BytesNew L w.heap.size w) :=
  hL ▸ wvalues_any ao _ cap xs w rfl hx (fun v hv => by have := h.2.1 v hv; omega) (by have := h.2.2; omega) (by have := h.1; omega)
theorem wfact_l (id ty : Int) (ao : Option Addr) (cap : Nat) (args : List Va) (w : World) (L : List Int) (hL : factB ⟨id, ty, args⟩ = L) (hx : ValsIn w w.heap.size ao args) (h : SmallV args) : Calls Tryz.prog 31 #[.agg #[.int .i64 id, .int .i64 ty, .slice ao args.length cap]] w (BytesNew L w.heap.size w) :=
  hL ▸ wfact_any id ty ao _ cap args w rfl hx (fun v hv => by have := h.2.1 v hv; omega) (by have := h.1; omega) (by have := h.2.2; omega)
theorem wcommand_l (ck : Int) (text : ByteArray) (ao : Option Addr) (cap : Nat) (num : Int) (args : List Va) (w : World) (L : List Int) (hL : commandB ck text num args = L) (hx : ValsIn w w.heap.size ao args) (h0 : text.size ≤ 60000) (h : SmallV args) : Calls Tryz.prog 32 #[.agg #[.int .u8 ck, .string text, .slice ao args.length cap, .int .i64 num]] w (BytesNew L w.heap.size w) :=
  hL ▸ wcommand_any ck text ao _ cap num args w rfl hx (fun v hv => by have := h.2.1 v hv; omega) (by have := h.1; omega) (by have := h.2.2; omega)
/-- None of the eight forms is long. -/
theorem lens_th {t : Th} (hs : ThSmall t) {L1 L2 L3 L4 L5 L6 L7 L8 : List Int} (h1 : numB 8 t.number = L1) (h2 : textB t.text = L2) (h3 : valueB ⟨t.value.kind, t.value.num, t.value.text⟩ = L3) (h4 : valuesB t.values = L4) (h5 : factB ⟨t.fact.id, t.fact.ty, t.fact.args⟩ = L5) (h6 : commandB t.command.kind t.command.text t.command.num t.command.args = L6)
    (h7 : numB 8 t.reply.err ++ (numB 8 t.reply.num ++ (numB 4 t.reply.facts.length ++ ((t.reply.facts.flatMap fun f => factB f.plain) ++ valuesB t.reply.said))) = L7) (h8 : entryB ⟨t.entry.term, t.entry.kind, t.entry.session, t.entry.seq, t.entry.ck, t.entry.text, t.entry.args, t.entry.num, t.entry.vs⟩ = L8) :
    (L1.length ≤ 100000000000 ∧ L2.length ≤ 100000000000 ∧ L3.length ≤ 100000000000) ∧ L4.length ≤ 100000000000 ∧ L5.length ≤ 100000000000 ∧ L6.length ≤ 100000000000 ∧ L7.length ≤ 100000000000 ∧ L8.length ≤ 100000000000 := by
  subst h1 h2 h3 h4 h5 h6 h7 h8
  have f := factsB_small (t.reply.facts.map Fa.plain) (fun f hf => by obtain ⟨g, hg, rfl⟩ := List.mem_map.1 hf; exact hs.facts.2 g hg)
  rw [List.length_map, List.flatMap_map] at f
  have a1 := hs.text
  have a2 := hs.value
  have a3 := hs.values.2.2
  have a4 := hs.fact.2.2
  have a5 := hs.command.2.2
  have a6 := hs.ctext
  have a7 := hs.said.2.2
  have a8 := hs.eargs.2.2
  have a9 := hs.etext
  have a10 := hs.voters
  have a11 := hs.facts.1
  have v3 := valueB_len t.value
  refine ⟨⟨by rw [numB_len]; omega, by rw [textB_len]; omega, ?_⟩, by omega, ?_, ?_, ?_, ?_⟩
  · exact Nat.le_trans v3 (by omega)
  · unfold factB; simp only [List.length_append, numB_len]; omega
  · rw [commandB_len]; omega
  · simp only [List.length_append, numB_len]; omega
  · unfold entryB; simp only [List.length_append, List.length_cons, numB_len, commandB_len, flatN_len]; omega
end Go.Proofs.YtiggpcmikhojmaaGreatDoor
