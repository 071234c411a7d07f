/- Commands and entries of letters, as the program judges them. Conditions: as each says. -/
import Derived.Test.YtglgcjkglhlggaaGreatDoorGLetterPuts6
import Derived.Deep.DeepCutAuto
set_option linter.unusedVariables false
set_option linter.unusedSimpArgs false
namespace Go.Proofs.YtglgcjkglhlggaaGreatDoor
open Go.RowKit
set_option maxRecDepth 20000
theorem text_no {text : ByteArray} (h : ¬ text = ByteArray.empty) : text.toList.isEmpty = false := by
  cases hh : strB text with
  | nil =>
    have h1 := strN_strB text
    rw [hh] at h1
    exact absurd (h1.symm.trans rfl) h
  | cons c l =>
    have h1 : text = strOfNums (c :: l) := by rw [← hh]; exact (strN_strB text).symm
    rw [h1, Lib.strOfNums_toList]
    rfl
theorem toList_num (s : ByteArray) : s.toList.map (fun c : UInt8 => (c.toNat : Int)) = strB s := by
  have h := Lib.strOfNums_toList (strB s)
  have e : strOfNums (strB s) = s := strN_strB s
  rw [e] at h
  rw [h]
  simp [Lib.bytesOf, strB]
theorem toList_inj {s t : ByteArray} (h : s.toList = t.toList) : s = t := by
  have h1 : strB s = strB t := by rw [← toList_num, ← toList_num, h]
  rw [← strN_strB s, ← strN_strB t, h1]
theorem neq_same (t : TypeId) (h : t = 58) (a b : Int) (s : ByteArray) (w : World) : (binOp .neq t (.agg #[.int .u8 a, .int .i64 b, .string s]) (.agg #[.int .u8 a, .int .i64 b, .string s])).run Tryz.prog w = .ok (.bool false) w := by
  subst h
  simp [go_sem, Tryz.underlying58]
theorem neq_other (t : TypeId) (h : t = 58) (a b : Int) (s : ByteArray) (a2 b2 : Int) (s2 : ByteArray) (hne : ¬ (⟨a, b, s⟩ : Va) = ⟨a2, b2, s2⟩) (w : World) : (binOp .neq t (.agg #[.int .u8 a, .int .i64 b, .string s]) (.agg #[.int .u8 a2, .int .i64 b2, .string s2])).run Tryz.prog w = .ok (.bool true) w := by
  subst h
  simp only [Va.mk.injEq] at hne
  by_cases h1 : a = a2
  · subst h1
    by_cases h2 : b = b2
    · subst h2
      have h3 : ¬ s = s2 := fun h => hne ⟨rfl, rfl, h⟩
      simp [go_sem, Tryz.underlying58]
      exact fun h => h3 (toList_inj h)
    · simp [go_sem, Tryz.underlying58, h2]
  · simp [go_sem, Tryz.underlying58, h1]
def plainG (ck : Int) (text : ByteArray) (num : Int) (n : Nat) : Bool := decide (ck = 0) && (decide (text = ⟨#[]⟩) && (decide (num = 0) && decide (n = 0)))
theorem lplain_any (ck : Int) (text : ByteArray) (ao : Option Addr) (n cap : Nat) (num : Int) (w : World) :
    Calls Tryz.prog 121 #[.agg #[.int .u8 ck, .string text, .slice ao n cap, .int .i64 num]] w fun e w' => e = .returned (.bool (plainG ck text num n)) ∧ Below w.heap.size w w' := by
  have hb := (Below.refl w.heap.size w).alloc (Nat.le_refl _) (.cells #[.int .u8 ck, .string text, .slice ao n cap, .int .i64 num] 53)
  go_enter Tryz.func121, Tryz.ntmps121
  by_cases h1 : ck = 0
  · by_cases h2 : text = ByteArray.empty
    · by_cases h3 : num = 0
      · by_cases h4 : n = 0
        · subst h1 h2 h3 h4
          go_wp2_with fail
          go_ret
          exact ⟨rfl, hb⟩
        · subst h1 h2 h3
          have h5 : ¬ (n : Int) = 0 := by omega
          have h6 : decide ((n : Int) = 0) = false := decide_eq_false h5
          go_wp2_with fail
          go_ret
          exact ⟨by simp [plainG, h4], hb⟩
      · subst h1 h2
        have h6 : decide (num = 0) = false := decide_eq_false h3
        go_wp2_with fail
        go_ret
        exact ⟨by simp [plainG, h3], hb⟩
    · subst h1
      have h3 : decide (text = ByteArray.empty) = false := decide_eq_false h2
      have h4 := text_no h2
      have h2' : ¬ text = ⟨#[]⟩ := h2
      go_wp2_with fail
      go_ret
      exact ⟨by simp [plainG, h2'], hb⟩
  · have h6 : decide (ck = 0) = false := decide_eq_false h1
    go_wp2_with fail
    go_ret
    exact ⟨by simp [plainG, h1], hb⟩
set_option maxHeartbeats 2000000 in
theorem lwhole_any (ck : Int) (text : ByteArray) (ao : Option Addr) (n cap : Nat) (num : Int) (args : List Va) (w : World) (hn : args.length = n) (hx : ValsIn w w.heap.size ao args) (hk : (Lit.int .u8 ck).wf = true) (hw : ∀ v ∈ args, VaArg v) (ht : text.size ≤ 4000000) (ha : n ≤ 4000000) (hat : ∀ v ∈ args, v.text.size ≤ 4000000) (hs : (valuesB args).length ≤ 400000000) (g : Bool) (hg : wholeC ⟨ck, text, args, num⟩ = g) :
    Calls Tryz.prog 122 #[.agg #[.int .u8 ck, .string text, .slice ao n cap, .int .i64 num]] w fun e w' => e = .returned (.bool g) ∧ Below w.heap.size w w' := by
  have hbx := (Below.refl w.heap.size w).alloc (Nat.le_refl _) (.cells #[.int .u8 ck, .string text, .slice ao n cap, .int .i64 num] 53)
  have hkx := heap_alloc_new w (.cells #[.int .u8 ck, .string text, .slice ao n cap, .int .i64 num] 53)
  obtain ⟨L, hL⟩ : ∃ L, commandB ck text num args = L := ⟨_, rfl⟩
  have hlw : BytesWf L := hL ▸ commandB_wf ck text num args hk hw
  have hll : L.length ≤ 410000000 := by rw [← hL, commandB_len]; omega
  obtain ⟨r, hr⟩ : ∃ r, commandS false L = r := ⟨_, rfl⟩
  obtain ⟨P, hP⟩ := pair_of g
  have hg2 : ((!r.2.1 && r.2.2.isEmpty) && (decide (args.length = r.1.args.length) && decide (args = r.1.args))) = P.1 := by
    rw [← hP, ← hg]
    unfold wholeC
    dsimp only
    rw [hL, hr]
  rw [hP]
  have HX := Lib.hid hx
  have HN := Lib.hid hn
  have HAT := Lib.hid hat
  have HL := Lib.hid hL
  have HLW := Lib.hid hlw
  have HR := Lib.hid hr
  have HG := Lib.hid hg2
  have HBX := Lib.hid hbx
  have HKX := Lib.hid hkx
  clear hx hn hk hw hat hL hlw hr hg hg2 hP hbx hkx
  go_enter Tryz.func122, Tryz.ntmps122
  go_wp2_with fail
  have hbx := HBX.out
  have hkx := HKX.out
  have hs0 : (w.alloc (.cells #[.int .u8 ck, .string text, .slice ao n cap, .int .i64 num] 53)).heap.size = w.heap.size + 1 := by simp
  clear HBX HKX
  generalize w.alloc (.cells #[.int .u8 ck, .string text, .slice ao n cap, .int .i64 num] 53) = w0 at hbx hkx hs0 ⊢
  have HX0 := Lib.hid (HX.out.below noSub_kept hbx (Nat.le_refl _))
  refine (HL.out ▸ wcommand_any ck text ao n cap num args w0 HN.out (HX0.out.mono noSub_rising (by omega)) (fun v hv => by have := HAT.out v hv; omega) (by omega) (by omega)).mono ?_
  rintro e w1 ⟨a1, c1, rfl, ho1, hb1⟩
  have HO1 := Lib.hid ho1
  have hz1 := hb1.size
  clear ho1
  go_wp2_with fail
  refine (newReader_any a1 _ c1 L w1 w1.heap.size rfl (own_bytes' HO1.out) (Nat.le_refl _) (own_none HO1.out) (by omega)).mono ?_
  rintro e w2 ⟨rb, rfl, hrb, hrd, hb2⟩
  have HR2 := Lib.hid hrd
  have hz2 := hb2.size
  clear hrd HO1
  go_wp2_with fail
  have hb3 := (Below.refl w2.heap.size w2).alloc (Nat.le_refl _) (.cells #[.pointer (some ⟨rb, 0, none⟩)] 174)
  have hk3 := heap_alloc_new w2 (.cells #[.pointer (some ⟨rb, 0, none⟩)] 174)
  obtain ⟨tb, htb⟩ : ∃ tb, w2.heap.size = tb := ⟨_, rfl⟩
  have hs3 : (w2.alloc (.cells #[.pointer (some ⟨rb, 0, none⟩)] 174)).heap.size = tb + 1 := by simp [htb]
  have hrd3 := HR2.out.below hb3
  have hrb2 := HR2.out.lt
  rw [htb] at hrb2 hk3 ⊢
  generalize w2.alloc (.cells #[.pointer (some ⟨rb, 0, none⟩)] 174) = w3 at hb3 hk3 hs3 hrd3 ⊢
  have hb0 : Below w.heap.size w w3 := ((hbx.trans (hb1.mono (by omega))).trans (hb2.mono (by omega))).trans (hb3.mono (by omega))
  have hkx3 : w3.heap[w.heap.size]? = some (.cells #[.int .u8 ck, .string text, .slice ao n cap, .int .i64 num] 53 (0, 0)) := by
    rw [hb3.block _ (by omega), hb2.block _ (by omega), hb1.block _ (by omega)]
    exact hkx
  have HRD := Lib.hid hrd3
  clear hb1 hb2 hb3 HR2 hkx hbx HX0 hrd3
  refine (rdCommand_any rb rb false L r w3 HR.out HRD.out HLW.out (by omega)).mono ?_
  rintro e w4 ⟨f, hp, he, hv, hr4, ho4⟩
  subst he
  obtain ⟨fk, ft, fo, fas, fc, fn⟩ := f
  obtain ⟨m, hm⟩ : ∃ m, fas.length = m := ⟨_, rfl⟩
  simp only [cmVal]
  rw [hm]
  have hpa : fas = r.1.args := by rw [← hp]; rfl
  have hb4 := hb0.trans (ho4.toBelow (B := w.heap.size) (by omega) (by omega))
  have hkx4 := (ho4.block w.heap.size (by omega) (by omega)).trans hkx3
  have hk4 := (ho4.block tb (by omega) (by omega)).trans hk3
  have d0 : w4.cell? ⟨tb, 0, none⟩ = some (.pointer (some ⟨rb, 0, none⟩)) := Go.Joins.cell_of_block hk4 0
  have hs4 := ho4.size
  have hvi := own_rowsIn vaCells_len rfl hv (fun _ _ => trivial) (sub := noSub)
  have HV := Lib.hid hvi
  have HR4 := Lib.hid hr4
  have HM := Lib.hid hm
  have HPA := Lib.hid hpa
  clear hp hv hr4 ho4 hkx3 hk3 hb0 HRD hm hpa hvi
  have hz5 := (Below.refl w4.heap.size w4).alloc (Nat.le_refl _) (.cells #[.int .u8 fk, .string ft, .slice fo m fc, .int .i64 fn] 53)
  have d1 : ∀ o, (w4.alloc o).cell? ⟨tb, 0, none⟩ = some (.pointer (some ⟨rb, 0, none⟩)) := fun o => ((Below.refl w4.heap.size w4).alloc (Nat.le_refl _) o).cell (p := ⟨tb, 0, none⟩) (show tb < w4.heap.size by omega) |>.trans d0
  have HZ5 := Lib.hid hz5
  clear hz5
  go_wp2_with fail
  clear d0 d1
  have hb5 := HZ5.out
  have hk5 := heap_alloc_new w4 (.cells #[.int .u8 fk, .string ft, .slice fo m fc, .int .i64 fn] 53)
  have hs5 : (w4.alloc (.cells #[.int .u8 fk, .string ft, .slice fo m fc, .int .i64 fn] 53)).heap.size = w4.heap.size + 1 := by simp
  obtain ⟨db, hdb⟩ : ∃ db, w4.heap.size = db := ⟨_, rfl⟩
  clear HZ5
  rw [hdb] at hk5 hs5 ⊢
  generalize w4.alloc (.cells #[.int .u8 fk, .string ft, .slice fo m fc, .int .i64 fn] 53) = w5 at hb5 hk5 hs5 ⊢
  have hr5 := HR4.out.below hb5
  have hkx5 := (hb5.block w.heap.size (by omega)).trans hkx4
  have c2 : w5.cell? ⟨w.heap.size, 2, none⟩ = some (.slice ao n cap) := Go.Joins.cell_of_block hkx5 2
  have f2 : w5.cell? ⟨db, 2, none⟩ = some (.slice fo m fc) := Go.Joins.cell_of_block hk5 2
  obtain ⟨D, hD⟩ : ∃ D, (!r.2.1 && r.2.2.isEmpty) = D := ⟨_, rfl⟩
  have HF2 := Lib.hid f2
  have hbw := hb4.trans (hb5.mono hb4.size)
  have HB5 := Lib.hid hbw
  have HXW := Lib.hid (HX.out.below noSub_kept hbw (Nat.le_refl _))
  have HVW := Lib.hid (HV.out.below noSub_kept hb5 (Nat.le_refl _))
  clear hb4 hb5 hkx4 HX HV HR4 hk4 hkx5 hk5
  refine (done_rd rb rb _ _ w5 hr5).mono ?_
  rw [hD]
  rintro e w6 ⟨rfl, rfl⟩
  clear hr5
  have HG2 := Lib.hid (show (D && (decide (n = m) && decide (args = fas))) = P.1 by rw [← HG.out, ← HN.out, ← HM.out, HPA.out, hD])
  clear HG hD HR
  cases D with
  | false =>
    have hf : P.1 = false := by rw [← HG2.out]; rfl
    go_wp2_with fail
    go_ret
    exact ⟨by first | rfl | (rw [hf]; rfl), HB5.out⟩
  | true =>
    by_cases hnm : n = m
    · subst hnm
      go_wp2_with fail
      clear c2 f2
      go_loopw [30] (fun i wr => ∃ k : Nat, k ≤ n ∧ i = .int .i64 k ∧ args.take k = fas.take k ∧ Below w5.heap.size w5 wr) (fun i _ => n - (intOf i).toNat)
      case atStart => exact ⟨0, by omega, rfl, rfl, Below.refl _ _⟩
      case round =>
        obtain ⟨k, hk, rfl, heq, hbel⟩ := hrel
        have HE := Lib.hid heq
        have hzr := hbel.size
        clear heq
        by_cases hlt : k < n
        · have i1 : (k : Int) < n := by omega
          have hkx : args[k]? = some (args[k]'(by rw [HN.out]; exact hlt)) := List.getElem?_eq_getElem _
          have hky : fas[k]? = some (fas[k]'(by rw [HM.out]; exact hlt)) := List.getElem?_eq_getElem _
          have htx : args.take (k + 1) = args.take k ++ [args[k]'(by rw [HN.out]; exact hlt)] := List.take_succ_eq_append_getElem _
          have hty : fas.take (k + 1) = fas.take k ++ [fas[k]'(by rw [HM.out]; exact hlt)] := List.take_succ_eq_append_getElem _
          obtain ⟨b, off, hao, hb, hc, _⟩ := HXW.out.at hkx
          obtain ⟨b2, off2, hao2, hb2, hc2, _⟩ := HVW.out.at hky
          generalize args[k]'(by rw [HN.out]; exact hlt) = x at hc hkx htx
          generalize fas[k]'(by rw [HM.out]; exact hlt) = y at hc2 hky hty
          obtain ⟨kd, nu, tx⟩ := x
          obtain ⟨kd2, nu2, tx2⟩ := y
          have hq : ∀ w', Below w5.heap.size w5 w' → w'.cell? ⟨b, off + k * 3, none⟩ = some (.int .u8 kd) ∧ w'.cell? ⟨b, off + k * 3 + 1, none⟩ = some (.int .i64 nu) ∧ w'.cell? ⟨b, off + k * 3 + 2, none⟩ = some (.string tx) := fun w' h =>
            ⟨(h.cell (p := ⟨b, _, none⟩) (show b < w5.heap.size by omega)).trans (hc 0 (by decide)), (h.cell (p := ⟨b, _, none⟩) (show b < w5.heap.size by omega)).trans (hc 1 (by decide)), (h.cell (p := ⟨b, _, none⟩) (show b < w5.heap.size by omega)).trans (hc 2 (by decide))⟩
          have hq2 : ∀ w', Below w5.heap.size w5 w' → w'.cell? ⟨b2, off2 + k * 3, none⟩ = some (.int .u8 kd2) ∧ w'.cell? ⟨b2, off2 + k * 3 + 1, none⟩ = some (.int .i64 nu2) ∧ w'.cell? ⟨b2, off2 + k * 3 + 2, none⟩ = some (.string tx2) := fun w' h =>
            ⟨(h.cell (p := ⟨b2, _, none⟩) (show b2 < w5.heap.size by omega)).trans (hc2 0 (by decide)), (h.cell (p := ⟨b2, _, none⟩) (show b2 < w5.heap.size by omega)).trans (hc2 1 (by decide)), (h.cell (p := ⟨b2, _, none⟩) (show b2 < w5.heap.size by omega)).trans (hc2 2 (by decide))⟩
          have HQ2 := Lib.hid hq2
          have HT := Lib.hid (And.intro htx hty)
          subst hao hao2
          obtain ⟨c0, c1, c2⟩ := hq wr hbel
          have c3 : wr.cell? ⟨b, off + k * 3 + 1 + 1, none⟩ = some (.string tx) := c2
          have hba := hbel.alloc hzr (.cells #[.int .u8 kd, .int .i64 nu, .string tx] 58)
          have hka := heap_alloc_new wr (.cells #[.int .u8 kd, .int .i64 nu, .string tx] 58)
          have HBA := Lib.hid hba
          have HKA := Lib.hid hka
          clear hc hc2 hkx hky htx hty hq hq2 hba hka
          go_wp2_with fail
          have hba := HBA.out
          have hka := HKA.out
          obtain ⟨vb, hvb⟩ : ∃ vb, wr.heap.size = vb := ⟨_, rfl⟩
          clear HBA HKA c0 c1 c2 c3
          rw [hvb] at hka ⊢
          generalize wr.alloc (.cells #[.int .u8 kd, .int .i64 nu, .string tx] 58) = w7 at hba hka ⊢
          have v0 : w7.cell? ⟨vb, 0, none⟩ = some (.int .u8 kd) := Go.Joins.cell_of_block hka 0
          have v1 : w7.cell? ⟨vb, 1, none⟩ = some (.int .i64 nu) := Go.Joins.cell_of_block hka 1
          have v2 : w7.cell? ⟨vb, 2, none⟩ = some (.string tx) := Go.Joins.cell_of_block hka 2
          obtain ⟨y0, y1, y2⟩ := HQ2.out w7 hba
          have y3 : w7.cell? ⟨b2, off2 + k * 3 + 1 + 1, none⟩ = some (.string tx2) := y2
          have f2 : w7.cell? ⟨db, 2, none⟩ = some (.slice (some ⟨b2, off2, none⟩) n fc) := (hba.cell (p := ⟨db, 2, none⟩) (show db < w5.heap.size by omega)).trans HF2.out
          by_cases hxy : (⟨kd, nu, tx⟩ : Va) = ⟨kd2, nu2, tx2⟩
          · have hst : args.take (k + 1) = fas.take (k + 1) := by rw [HT.out.1, HT.out.2, HE.out, hxy]
            have HST := Lib.hid hst
            have hne : ∀ w, (binOp .neq 58 (.agg #[.int .u8 kd, .int .i64 nu, .string tx]) (.agg #[.int .u8 kd2, .int .i64 nu2, .string tx2])).run Tryz.prog w = .ok (.bool false) w := by
              cases hxy
              exact neq_same _ rfl _ _ _
            clear hst hxy
            go_quiet (fail)
            go_wp2_with fail
            go_roundw
            case rel => exact ⟨k + 1, by omega, by go_num, HST.out, below_drewN hba _⟩
            case measure => simp [intOf] <;> omega
          · have hf : P.1 = false := by
              rw [← HG2.out]
              have : ¬ args = fas := fun h => hxy (by
                have h1 := HT.out.1
                have h2 := HT.out.2
                rw [h, h2] at h1
                exact (List.singleton_inj.1 (List.append_cancel_left (h1.trans (by rw [HE.out.symm, h])))).symm)
              simp [this]
            have hne := neq_other 58 rfl kd nu tx kd2 nu2 tx2 hxy
            have HBA := Lib.hid (HB5.out.trans (hba.mono HB5.out.size))
            clear hxy
            go_quiet (fail)
            go_wp2_with fail
            go_ret
            exact ⟨by first | rfl | (rw [hf]; rfl), below_drewN HBA.out _⟩
        · have i1 : ¬ (k : Int) < n := by omega
          obtain rfl : k = n := by omega
          have hf : P.1 = true := by
            rw [← HG2.out]
            have := HE.out
            rw [List.take_of_length_le (by rw [HN.out]; exact Nat.le_refl _), List.take_of_length_le (by rw [HM.out]; exact Nat.le_refl _)] at this
            simp [this]
          go_wp2_with fail
          go_ret
          exact ⟨by first | rfl | (rw [hf]; rfl), HB5.out.trans (hbel.mono HB5.out.size)⟩
    · have hf : P.1 = false := by rw [← HG2.out]; simp [hnm]
      have i1 : ¬ (n : Int) = m := by omega
      have i2 : decide ((n : Int) = m) = false := decide_eq_false i1
      go_wp2_with fail
      go_ret
      exact ⟨by first | rfl | (rw [hf]; rfl), HB5.out⟩
end Go.Proofs.YtglgcjkglhlggaaGreatDoor
/- Entries of letters, as the program judges them. Conditions: as each says. -/
namespace Go.Proofs.YtglgcjkglhlggaaGreatDoor
open Go.RowKit
set_option maxRecDepth 20000
theorem nums_new (w : World) (xs : List Int) (cs : Array Value) (hcs : cs = (xs.map (Value.int .i64)).toArray) : NumsIn (w.alloc (.cells cs 3)) (w.heap.size + 1) (some ⟨w.heap.size, 0, none⟩) xs := by
  subst hcs
  refine Or.inr ⟨w.heap.size, 0, rfl, Nat.lt_succ_self _, fun i x hx => ⟨fun j hj => ?_, trivial⟩⟩
  obtain rfl : j = 0 := by omega
  rw [Go.Joins.cell_of_block (heap_alloc_new w _)]
  simp [hx, iCells]
set_option maxHeartbeats 4000000 in
theorem lentry_any (tm kd ss sq ck : Int) (text : ByteArray) (ao : Option Addr) (n cap : Nat) (args : List Va) (num : Int) (vo : Option Addr) (m vcap : Nat) (vs : List Int) (w : World) (hn : args.length = n) (hm : vs.length = m) (hx : ValsIn w w.heap.size ao args) (hv : NumsIn w w.heap.size vo vs)
    (hk : (Lit.int .u8 ck).wf = true) (hw : ∀ v ∈ args, VaArg v) (ht : text.size ≤ 4000000) (ha : n ≤ 4000000) (hml : m ≤ 4000000) (hat : ∀ v ∈ args, v.text.size ≤ 4000000) (hs : (valuesB args).length ≤ 400000000) (g : Bool) (hg : entryR ⟨tm, kd, ss, sq, ck, text, args, num, vs⟩ = g) :
    Calls Tryz.prog 62 #[.agg #[.int .i64 tm, .int .u8 kd, .int .i64 ss, .int .i64 sq, .int .u8 ck, .string text, .slice ao n cap, .int .i64 num, .slice vo m vcap]] w fun e w' => e = .returned (.bool g) ∧ Below w.heap.size w w' := by
  have hbx := (Below.refl w.heap.size w).alloc (Nat.le_refl _) (.cells #[.int .i64 tm, .int .u8 kd, .int .i64 ss, .int .i64 sq, .int .u8 ck, .string text, .slice ao n cap, .int .i64 num, .slice vo m vcap] 55)
  have hkx := heap_alloc_new w (.cells #[.int .i64 tm, .int .u8 kd, .int .i64 ss, .int .i64 sq, .int .u8 ck, .string text, .slice ao n cap, .int .i64 num, .slice vo m vcap] 55)
  have hs0 : (w.alloc (.cells #[.int .i64 tm, .int .u8 kd, .int .i64 ss, .int .i64 sq, .int .u8 ck, .string text, .slice ao n cap, .int .i64 num, .slice vo m vcap] 55)).heap.size = w.heap.size + 1 := by simp
  obtain ⟨P, hP⟩ := pair_of g
  rw [hP] at hg ⊢
  have HG := Lib.hid hg
  have HX := Lib.hid hx
  have HV := Lib.hid hv
  have HN := Lib.hid hn
  have HM := Lib.hid hm
  have HW := Lib.hid hw
  have HAT := Lib.hid hat
  have HBX := Lib.hid hbx
  have HKX := Lib.hid hkx
  have HS0 := Lib.hid hs0
  obtain ⟨BE, hBE⟩ := pair_of (bareE ⟨tm, kd, ss, sq, ck, text, args, num, vs⟩)
  have HBE := Lib.hid hBE
  clear hBE
  clear hx hv hn hm hw hat hg hP hbx hkx hs0
  go_enter Tryz.func62, Tryz.ntmps62
  go_upto_region 1 with fail
  have hbx := HBX.out
  have hkx := HKX.out
  have hs0 := HS0.out
  clear HBX HKX HS0
  generalize w.alloc (.cells #[.int .i64 tm, .int .u8 kd, .int .i64 ss, .int .i64 sq, .int .u8 ck, .string text, .slice ao n cap, .int .i64 num, .slice vo m vcap] 55) = w0 at hbx hkx hs0 ⊢
  have HC := Lib.hid (fun w' (h : Below (w.heap.size + 1) w0 w') (i : Nat) => (h.cell (p := ⟨w.heap.size, i, none⟩) (Nat.lt_succ_self _)).trans (Go.Joins.cell_of_block hkx i))
  go_cut [3] (fun bv wq => bv = .bool BE.1 ∧ w.heap.size + 1 ≤ wq.heap.size ∧ Below (w.heap.size + 1) w0 wq)
  case first =>
    have c2 : w0.cell? ⟨w.heap.size, 2, none⟩ = some (.int .i64 ss) := Go.Joins.cell_of_block hkx 2
    have c3 : w0.cell? ⟨w.heap.size, 3, none⟩ = some (.int .i64 sq) := Go.Joins.cell_of_block hkx 3
    have c4 : w0.cell? ⟨w.heap.size, 4, none⟩ = some (.int .u8 ck) := Go.Joins.cell_of_block hkx 4
    have c5 : w0.cell? ⟨w.heap.size, 4 + 1, none⟩ = some (.string text) := Go.Joins.cell_of_block hkx 5
    have c6 : w0.cell? ⟨w.heap.size, 4 + 2, none⟩ = some (.slice ao n cap) := Go.Joins.cell_of_block hkx 6
    have c7 : w0.cell? ⟨w.heap.size, 4 + 3, none⟩ = some (.int .i64 num) := Go.Joins.cell_of_block hkx 7
    have c8 : w0.cell? ⟨w.heap.size, 4 + 1 + 1, none⟩ = some (.slice ao n cap) := Go.Joins.cell_of_block hkx 6
    have c9 : w0.cell? ⟨w.heap.size, 4 + 1 + 1 + 1, none⟩ = some (.int .i64 num) := Go.Joins.cell_of_block hkx 7
    clear hkx
    by_cases h1 : ss = 0
    · by_cases h2 : sq = 0
      · have hbe : plainG ck text num n = BE.1 := by
          rw [← HBE.out, h1, h2, ← HN.out]
          rfl
        have HP := Lib.hid hbe
        clear hbe
        subst h1 h2
        go_wp2_with fail
        refine (lplain_any ck text ao n cap num w0).mono ?_
        rw [HP.out]
        rintro e wq ⟨rfl, hb1⟩
        have HB1 := Lib.hid hb1
        clear hb1
        cases hbb : BE.1
        all_goals
          go_wp2_with fail
          go_meet
          exact ⟨by first | rfl | rw [hbb], by have := HB1.out.size; omega, HB1.out.mono (by omega)⟩
      · have hbe : BE.1 = false := by rw [← HBE.out]; unfold bareE; simp [h2]
        have d2 : decide (sq = 0) = false := decide_eq_false h2
        have HP := Lib.hid hbe
        clear hbe
        subst h1
        go_wp2_with fail
        go_meet
        exact ⟨by first | rfl | rw [HP.out], by omega, Below.refl _ _⟩
    · have hbe : BE.1 = false := by rw [← HBE.out]; unfold bareE; simp [h1]
      have d2 : decide (ss = 0) = false := decide_eq_false h1
      have HP := Lib.hid hbe
      clear hbe
      go_wp2_with fail
      go_meet
      exact ⟨by first | rfl | rw [HP.out], by omega, Below.refl _ _⟩
  case rest =>
    obtain ⟨rfl, hsq, hbq⟩ := hcut
    obtain ⟨wq, hwq⟩ : ∃ wq, wc = wq := ⟨_, rfl⟩
    subst hwq
    have e0 : wc.cell? ⟨w.heap.size, 0, none⟩ = some (.int .i64 tm) := HC.out _ hbq 0
    have hzq := (Below.refl wc.heap.size wc).alloc (Nat.le_refl _) (.cells #[.int .i64 tm] 3)
    have HZQ := Lib.hid hzq
    clear hzq hkx
    go_wp2_with fail
    have hzq := HZQ.out
    refine (lwithin_any (some ⟨wc.heap.size, 0, none⟩) 1 1 [tm] (wc.alloc (.cells #[.int .i64 tm] 3)) (wc.heap.size + 1) rfl (nums_new wc [tm] _ rfl) (by decide) (withinN tm) (by simp)).mono ?_
    obtain ⟨wt, hwt⟩ : ∃ wt, withinN tm = wt := ⟨_, rfl⟩
    rw [hwt]
    have HWT := Lib.hid hwt
    clear hwt
    rintro e wz ⟨rfl, rfl⟩
    have hbz := hbq.trans (hzq.mono hsq)
    have HBZ := Lib.hid (hbx.trans (hbz.mono (Nat.le_succ _)))
    have hsz : w.heap.size + 1 ≤ (wc.alloc (.cells #[.int .i64 tm] 3)).heap.size := Nat.le_trans hsq (by simp)
    clear HZQ hzq e0
    generalize wc.alloc (.cells #[.int .i64 tm] 3) = wz at hbz HBZ hsz ⊢
    cases wt with
    | false =>
      have hf : P.1 = false := by rw [← HG.out]; unfold entryR; simp [HWT.out]
      go_wp2_with fail
      go_ret
      exact ⟨by first | rfl | (rw [hf]; rfl), HBZ.out⟩
    | true =>
      have e1 : wz.cell? ⟨w.heap.size, 1, none⟩ = some (.int .u8 kd) := HC.out _ hbz 1
      have e2 : wz.cell? ⟨w.heap.size, 2, none⟩ = some (.int .i64 ss) := HC.out _ hbz 2
      have e3 : wz.cell? ⟨w.heap.size, 3, none⟩ = some (.int .i64 sq) := HC.out _ hbz 3
      have e4 : wz.cell? ⟨w.heap.size, 4, none⟩ = some (.int .u8 ck) := HC.out _ hbz 4
      have e5 : wz.cell? ⟨w.heap.size, 4 + 1, none⟩ = some (.string text) := HC.out _ hbz 5
      have e6 : wz.cell? ⟨w.heap.size, 4 + 2, none⟩ = some (.slice ao n cap) := HC.out _ hbz 6
      have e7 : wz.cell? ⟨w.heap.size, 4 + 3, none⟩ = some (.int .i64 num) := HC.out _ hbz 7
      have e8 : wz.cell? ⟨w.heap.size, 8, none⟩ = some (.slice vo m vcap) := HC.out _ hbz 8
      clear hsq hbq hbx
      by_cases hk1 : kd = 1
      · have HF := Lib.hid (show P.1 = (BE.1 && decide (m = 0)) by rw [← HG.out, ← HBE.out, ← HM.out]; unfold entryR; simp [HWT.out, hk1, bareE, EnP.cm])
        subst hk1
        cases hbb : BE.1
        · rw [hbb] at HF
          go_wp2_with fail
          go_ret
          exact ⟨by rw [HF.out]; rfl, HBZ.out⟩
        · rw [hbb] at HF
          by_cases hm0 : m = 0
          · subst hm0
            go_wp2_with fail
            go_ret
            exact ⟨by rw [HF.out]; rfl, HBZ.out⟩
          · have j1 : ¬ (m : Int) = 0 := by omega
            have j2 : decide ((m : Int) = 0) = false := decide_eq_false j1
            have j3 : ((m : Int) == 0) = false := by simpa using hm0
            go_wp2_with fail
            go_ret
            exact ⟨by rw [HF.out]; simp [hm0], HBZ.out⟩
      · have kk1 : decide (kd = 1) = false := decide_eq_false hk1
        by_cases hk2 : kd = 2
        · have HF := Lib.hid (show P.1 = (decide (0 ≤ ss) && (decide (0 ≤ sq) && (decide (m = 0) && wholeC ⟨ck, text, args, num⟩))) by rw [← HG.out, ← HM.out]; unfold entryR; simp [HWT.out, hk2, EnP.cm])
          subst hk2
          by_cases g1 : 0 ≤ ss
          · by_cases g2 : 0 ≤ sq
            · by_cases hm0 : m = 0
              · subst hm0
                obtain ⟨P3, hP3⟩ := pair_of (wholeC ⟨ck, text, args, num⟩)
                have HF2 := Lib.hid (show P.1 = P3.1 by rw [HF.out, ← hP3]; simp [g1, g2])
                have HP3 := Lib.hid hP3
                clear HF hP3
                go_wp2_with fail
                refine (lwhole_any ck text ao n cap num args wz HN.out ((HX.out.below noSub_kept HBZ.out (Nat.le_refl _)).mono noSub_rising (by omega)) hk HW.out ht ha HAT.out hs P3.1 HP3.out).mono ?_
                rintro e wy ⟨rfl, hby⟩
                have HBY := Lib.hid (HBZ.out.trans (hby.mono (by omega)))
                clear hby
                go_wp2_with fail
                go_ret
                exact ⟨by rw [HF2.out]; rfl, HBY.out⟩
              · have j1 : ¬ (m : Int) = 0 := by omega
                have j2 : decide ((m : Int) = 0) = false := decide_eq_false j1
                have j3 : ((m : Int) == 0) = false := by simpa using hm0
                go_wp2_with fail
                go_ret
                exact ⟨by rw [HF.out]; simp [hm0], HBZ.out⟩
            · have j2 : decide (0 ≤ sq) = false := decide_eq_false g2
              go_wp2_with fail
              go_ret
              exact ⟨by rw [show P.1 = false by rw [HF.out, j2]; simp]; rfl, HBZ.out⟩
          · have j2 : decide (0 ≤ ss) = false := decide_eq_false g1
            go_wp2_with fail
            go_ret
            exact ⟨by rw [show P.1 = false by rw [HF.out, j2]; simp]; rfl, HBZ.out⟩
        · have kk2 : decide (kd = 2) = false := decide_eq_false hk2
          by_cases hk3 : kd = 3
          · have HF := Lib.hid (show P.1 = (BE.1 && votersB vs) by rw [← HG.out, ← HBE.out]; unfold entryR; simp [HWT.out, hk3, bareE, EnP.cm])
            subst hk3
            cases hbb : BE.1
            · rw [hbb] at HF
              go_wp2_with fail
              go_ret
              exact ⟨by rw [HF.out]; rfl, HBZ.out⟩
            · rw [hbb] at HF
              obtain ⟨P3, hP3⟩ := pair_of (votersB vs)
              have HF2 := Lib.hid (show P.1 = P3.1 by rw [HF.out, ← hP3]; rfl)
              have HP3 := Lib.hid hP3
              clear HF hP3
              go_wp2_with fail
              refine (lvoters_any vo m vcap vs wz w.heap.size HM.out (HV.out.below noSub_kept HBZ.out (Nat.le_refl _)) (by omega) P3.1 HP3.out).mono ?_
              rintro e wy ⟨rfl, rfl⟩
              go_wp2_with fail
              go_ret
              exact ⟨by rw [HF2.out]; rfl, HBZ.out⟩
          · have kk3 : decide (kd = 3) = false := decide_eq_false hk3
            have hf : P.1 = false := by rw [← HG.out]; unfold entryR; simp [HWT.out, hk1, hk2, hk3]
            go_wp2_with fail
            go_ret
            exact ⟨by first | rfl | (rw [hf]; rfl), HBZ.out⟩
end Go.Proofs.YtglgcjkglhlggaaGreatDoor
/- Entries of a letter, and what a letter is without what its kind has. Conditions: as each says. -/
namespace Go.Proofs.YtglgcjkglhlggaaGreatDoor
open Go.RowKit
set_option maxRecDepth 20000
theorem entriesR_take {es : List EnP} (h : es.all entryR = true) : entriesR es = decide (es.length ≤ 16) := by unfold entriesR; rw [h, Bool.true_and]
set_option maxHeartbeats 1000000 in
theorem lentries_any (ao : Option Addr) (n cap : Nat) (es : List En) (w : World) (B : Nat) (hn : es.length = n) (hx : EnsIn w B ao es) (hB : B ≤ w.heap.size) (hf : ∀ e ∈ es, EnFine e) (hl : n ≤ 4398046511104) (g : Bool) (hg : entriesR (es.map En.plain) = g) :
    Calls Tryz.prog 30 #[.slice ao n cap] w fun e w' => e = .returned (.bool g) ∧ Below w.heap.size w w' := by
  obtain ⟨P, hP⟩ := pair_of g
  rw [hP] at hg ⊢
  have HX := Lib.hid (hx.mono enSub_rising hB)
  have HN := Lib.hid hn
  have HF := Lib.hid hf
  have HG := Lib.hid hg
  clear hx hn hf hg hP
  go_enter Tryz.func30, Tryz.ntmps30
  go_wp2_with fail
  go_loopw [7] (fun i wr => ∃ k : Nat, k ≤ n ∧ i = .int .i64 k ∧ ((es.take k).map En.plain).all entryR = true ∧ Below w.heap.size w wr) (fun i _ => n - (intOf i).toNat)
  case atStart => exact ⟨0, by omega, rfl, rfl, Below.refl _ _⟩
  case round =>
    obtain ⟨k, hk, rfl, hall, hbel⟩ := hrel
    have HA := Lib.hid hall
    have hzr := hbel.size
    clear hall
    by_cases hlt : k < n
    · have i1 : (k : Int) < n := by omega
      have hkx : es[k]? = some (es[k]'(by rw [HN.out]; exact hlt)) := List.getElem?_eq_getElem _
      have htk : es.take (k + 1) = es.take k ++ [es[k]'(by rw [HN.out]; exact hlt)] := List.take_succ_eq_append_getElem _
      have hmem : (es[k]'(by rw [HN.out]; exact hlt)) ∈ es := List.getElem_mem _
      obtain ⟨b, off, hao, hb, hc, hsub⟩ := HX.out.at hkx
      generalize es[k]'(by rw [HN.out]; exact hlt) = x at hc hkx htk hmem hsub
      have hfx := HF.out x hmem
      obtain ⟨tm, kd, ss, sq, ck, text, aao, args, acap, num, vao, vs, vcap⟩ := x
      have c := fun (i : Nat) (h : i < 9) => (hbel.cell (p := ⟨b, off + k * 9 + i, none⟩) hb).trans (hc i h)
      have c0 : wr.cell? ⟨b, off + k * 9, none⟩ = some (.int .i64 tm) := c 0 (by decide)
      have c1 : wr.cell? ⟨b, off + k * 9 + 1, none⟩ = some (.int .u8 kd) := c 1 (by decide)
      have c2 : wr.cell? ⟨b, off + k * 9 + 2, none⟩ = some (.int .i64 ss) := c 2 (by decide)
      have c3 : wr.cell? ⟨b, off + k * 9 + 3, none⟩ = some (.int .i64 sq) := c 3 (by decide)
      have c4 : wr.cell? ⟨b, off + k * 9 + 4, none⟩ = some (.int .u8 ck) := c 4 (by decide)
      have c5 : wr.cell? ⟨b, off + k * 9 + 5, none⟩ = some (.string text) := c 5 (by decide)
      have c6 : wr.cell? ⟨b, off + k * 9 + 6, none⟩ = some (.slice aao args.length acap) := c 6 (by decide)
      have c7 : wr.cell? ⟨b, off + k * 9 + 7, none⟩ = some (.int .i64 num) := c 7 (by decide)
      have c8 : wr.cell? ⟨b, off + k * 9 + 8, none⟩ = some (.slice vao vs.length vcap) := c 8 (by decide)
      subst hao
      obtain ⟨nn, hnn⟩ : ∃ nn, args.length = nn := ⟨_, rfl⟩
      obtain ⟨mm, hmm⟩ : ∃ mm, vs.length = mm := ⟨_, rfl⟩
      rw [hnn] at c6
      rw [hmm] at c8
      have HNN := Lib.hid hnn
      have HMM := Lib.hid hmm
      have HFX := Lib.hid hfx
      have HSUB := Lib.hid hsub
      have HTK := Lib.hid htk
      have HMEM := Lib.hid hmem
      clear c hc hkx hmem hsub hfx htk hnn hmm
      go_wp2_with fail
      obtain ⟨Pe, hPe⟩ := pair_of (entryR ⟨tm, kd, ss, sq, ck, text, args, num, vs⟩)
      have HPE := Lib.hid hPe
      have hba := hbel.alloc hzr (.cells #[.int .i64 tm, .int .u8 kd, .int .i64 ss, .int .i64 sq, .int .u8 ck, .string text, .slice aao nn acap, .int .i64 num, .slice vao mm vcap] 55)
      have hsub := ((HSUB.out.1.below noSub_kept hba (Nat.le_refl _)).mono noSub_rising hba.size)
      have hsub2 := ((HSUB.out.2.below noSub_kept hba (Nat.le_refl _)).mono noSub_rising hba.size)
      clear hPe c0 c1 c2 c3 c4 c5 c6 c7 c8
      generalize wr.alloc (.cells #[.int .i64 tm, .int .u8 kd, .int .i64 ss, .int .i64 sq, .int .u8 ck, .string text, .slice aao nn acap, .int .i64 num, .slice vao mm vcap] 55) = w1 at hba hsub hsub2 ⊢
      refine (lentry_any tm kd ss sq ck text aao nn acap args num vao mm vcap vs w1 HNN.out HMM.out hsub hsub2 HFX.out.wf.ck HFX.out.wf.args HFX.out.text (by have h := HFX.out.args; rw [← HNN.out]; exact h) (by have h := HFX.out.vn; rw [← HMM.out]; exact h) HFX.out.argt HFX.out.size Pe.1 HPE.out).mono ?_
      rintro e w2 ⟨rfl, hb2⟩
      have HB2 := Lib.hid (hba.trans (hb2.mono hba.size))
      clear hba hb2 hsub hsub2
      cases hpe : Pe.1 with
      | true =>
        have HS := Lib.hid (show ((es.take (k + 1)).map En.plain).all entryR = true by
          rw [HTK.out, List.map_append, List.all_append, HA.out]
          have := HPE.out
          rw [hpe] at this
          simp [En.plain, this])
        clear hpe
        go_wp2_with fail
        go_roundw
        case rel => exact ⟨k + 1, by omega, by go_num, HS.out, HB2.out⟩
        case measure => simp [intOf] <;> omega
      | false =>
        have hf : P.1 = false := by
          rw [← HG.out]
          have h1 : (es.map En.plain).all entryR = false := by
            cases hh : (es.map En.plain).all entryR with
            | false => rfl
            | true =>
              have := List.all_eq_true.1 hh _ (List.mem_map_of_mem HMEM.out)
              have h2 := HPE.out
              rw [hpe] at h2
              rw [show En.plain ⟨tm, kd, ss, sq, ck, text, aao, args, acap, num, vao, vs, vcap⟩ = ⟨tm, kd, ss, sq, ck, text, args, num, vs⟩ from rfl, h2] at this
              cases this
          unfold entriesR
          rw [h1]
          rfl
        have HF2 := Lib.hid hf
        clear hpe hf
        go_wp2_with fail
        go_ret
        exact ⟨by rw [HF2.out]; rfl, HB2.out⟩
    · have i1 : ¬ (k : Int) < n := by omega
      obtain rfl : k = n := by omega
      have hfin : P.1 = decide (k ≤ 16) := by
        rw [← HG.out]
        have := HA.out
        rw [List.take_of_length_le (by rw [HN.out]; exact Nat.le_refl _)] at this
        rw [entriesR_take this, List.length_map, HN.out]
      have HF2 := Lib.hid hfin
      clear hfin
      by_cases h16 : k ≤ 16
      · have j1 : (k : Int) ≤ 16 := by omega
        go_wp2_with fail
        go_ret
        exact ⟨by rw [HF2.out]; simp [h16], hbel⟩
      · have j1 : ¬ (k : Int) ≤ 16 := by omega
        go_wp2_with fail
        go_ret
        exact ⟨by rw [HF2.out]; simp [h16], hbel⟩
/-- A letter without what its kind has, where it lies. -/
def leftT (l : Lt) : Lt × Bool :=
  if l.kind = 1 then ({ l with index := 0, was := 0 }, true)
  else if l.kind = 2 then ({ l with ok := false }, true)
  else if l.kind = 3 then ({ l with commit := 0, eo := none, es := [], ecap := 0, index := 0, was := 0, round := 0 }, true)
  else if l.kind = 5 then ({ l with was := 0, vo := none, vs := [], vcap := 0, io := none, im := [], icap := 0, index := 0, round := 0 }, true)
  else if l.kind = 4 then ({ l with ok := false, index := 0, round := 0 }, true)
  else if l.kind = 6 then ({ l with index := 0, round := 0 }, true)
  else (l, false)
theorem leftT_plain (l : Lt) : (leftT l).1.plain = (leftL l.plain).1 ∧ (leftT l).2 = (leftL l.plain).2 := by
  obtain ⟨k, f, t, tm, ix, ws, ok, cm, rd, eo, es, ec, vo, vs, vc, io, im, ic⟩ := l
  unfold leftT leftL Lt.plain
  dsimp only
  repeat' split
  all_goals first | exact ⟨rfl, rfl⟩ | (exfalso; omega) | simp_all
theorem results_cell_row_tmp {P : Program} {fn : Func} {p u : Tmp} {ty : TypeId} (h : fn.results = #[.cell p ty, .tmp u]) (tmps : Array Value) (w : World) (g : Nat) (t : TypeId) (cs : Array Value) (fr : Nat × Nat) (d : TypeDesc) (v : Value)
    (hp : tmps.getD p undef = .pointer (some ⟨g, 0, none⟩)) (hv : tmps.getD u undef = v) (hg : w.heap[g]? = some (.cells cs t fr))
    (hu : P.underlying ty = some d) (hd : (match d with | .struct _ | .array _ _ => true | _ => false) = true) (hi : (P.info? ty).map (·.size) = some cs.size) :
    (results fn tmps).run P w = .ok (.tuple #[.agg cs, v]) w := by
  rw [results_cell_tmp h, hp, hv]
  simp [asAddr, run_loadVar_row w g t ty cs fr d hg hu hd hi, Result.andThen]
theorem info_lt : (Tryz.prog.info? 27).map (·.size) = some 12 := by kernel_rfl
theorem left_end {f : Func} {w : World} {A B : Array Value} {b : Bool} {tmps : Array Value} (hf : f.results = #[.cell 2 27, .tmp 3]) (hA : B.size = 12) (h2 : tmps.getD 2 undef = .pointer (some ⟨w.heap.size + 1, 0, none⟩)) (h3 : tmps.getD 3 undef = .bool b) :
    bodyPost Tryz.prog f (fun e w' => e = .returned (.tuple #[.agg B, .bool b]) ∧ Below w.heap.size w w') .ret ⟨tmps, []⟩ ((w.alloc (.cells A 27)).alloc (.cells B 27)) := by
  have hk := heap_alloc_new (w.alloc (.cells A 27)) (.cells B 27)
  have hs : (w.alloc (.cells A 27)).heap.size = w.heap.size + 1 := by simp
  rw [hs] at hk
  exact bodyPost_ret (results_cell_row_tmp hf tmps _ (w.heap.size + 1) _ B _ _ _ h2 h3 hk Tryz.underlying27 rfl (by rw [info_lt, hA])) rfl ⟨rfl, ((Below.refl w.heap.size w).alloc (Nat.le_refl _) _).alloc (by simp) _⟩
set_option maxHeartbeats 4000000 in
theorem lleft_any (kd f t tm ix ws : Int) (ok : Bool) (cm rd : Int) (eo : Option Addr) (en ec : Nat) (vo : Option Addr) (vn vc : Nat) (io : Option Addr) (im ic : Nat) (w : World) (r : Value) (b : Bool)
    (hr : (if kd = 1 then (Value.agg #[.int .u8 kd, .int .i64 f, .int .i64 t, .int .i64 tm, .int .i64 0, .int .i64 0, .bool ok, .int .i64 cm, .int .i64 rd, .slice eo en ec, .slice vo vn vc, .slice io im ic], true)
      else if kd = 2 then (.agg #[.int .u8 kd, .int .i64 f, .int .i64 t, .int .i64 tm, .int .i64 ix, .int .i64 ws, .bool false, .int .i64 cm, .int .i64 rd, .slice eo en ec, .slice vo vn vc, .slice io im ic], true)
      else if kd = 3 then (.agg #[.int .u8 kd, .int .i64 f, .int .i64 t, .int .i64 tm, .int .i64 0, .int .i64 0, .bool ok, .int .i64 0, .int .i64 0, .slice none 0 0, .slice vo vn vc, .slice io im ic], true)
      else if kd = 5 then (.agg #[.int .u8 kd, .int .i64 f, .int .i64 t, .int .i64 tm, .int .i64 0, .int .i64 0, .bool ok, .int .i64 cm, .int .i64 0, .slice eo en ec, .slice none 0 0, .slice none 0 0], true)
      else if kd = 4 then (.agg #[.int .u8 kd, .int .i64 f, .int .i64 t, .int .i64 tm, .int .i64 0, .int .i64 ws, .bool false, .int .i64 cm, .int .i64 0, .slice eo en ec, .slice vo vn vc, .slice io im ic], true)
      else if kd = 6 then (.agg #[.int .u8 kd, .int .i64 f, .int .i64 t, .int .i64 tm, .int .i64 0, .int .i64 ws, .bool ok, .int .i64 cm, .int .i64 0, .slice eo en ec, .slice vo vn vc, .slice io im ic], true)
      else (.agg #[.int .u8 kd, .int .i64 f, .int .i64 t, .int .i64 tm, .int .i64 ix, .int .i64 ws, .bool ok, .int .i64 cm, .int .i64 rd, .slice eo en ec, .slice vo vn vc, .slice io im ic], false)) = (r, b)) :
    Calls Tryz.prog 32 #[.agg #[.int .u8 kd, .int .i64 f, .int .i64 t, .int .i64 tm, .int .i64 ix, .int .i64 ws, .bool ok, .int .i64 cm, .int .i64 rd, .slice eo en ec, .slice vo vn vc, .slice io im ic]] w fun e w' => e = .returned (.tuple #[r, .bool b]) ∧ Below w.heap.size w w' := by
  obtain ⟨OK, hOK⟩ := pair_of ok
  subst hOK
  go_enter Tryz.func32, Tryz.ntmps32
  by_cases h1 : kd = 1
  · subst h1
    first | rw [if_pos rfl] at hr | skip
    simp only [Prod.mk.injEq] at hr
    obtain ⟨rfl, rfl⟩ := hr
    go_wp2_with fail
    exact left_end rfl rfl rfl rfl
  · have k1 : decide (kd = 1) = false := decide_eq_false h1
    rw [if_neg h1] at hr
    by_cases h2 : kd = 2
    · subst h2
      first | rw [if_pos rfl] at hr | skip
      simp only [Prod.mk.injEq] at hr
      obtain ⟨rfl, rfl⟩ := hr
      go_wp2_with fail
      exact left_end rfl rfl rfl rfl
    · have k2 : decide (kd = 2) = false := decide_eq_false h2
      rw [if_neg h2] at hr
      by_cases h3 : kd = 3
      · subst h3
        first | rw [if_pos rfl] at hr | skip
        simp only [Prod.mk.injEq] at hr
        obtain ⟨rfl, rfl⟩ := hr
        go_wp2_with fail
        exact left_end rfl rfl rfl rfl
      · have k3 : decide (kd = 3) = false := decide_eq_false h3
        rw [if_neg h3] at hr
        by_cases h5 : kd = 5
        · subst h5
          first | rw [if_pos rfl] at hr | skip
          simp only [Prod.mk.injEq] at hr
          obtain ⟨rfl, rfl⟩ := hr
          go_wp2_with fail
          exact left_end rfl rfl rfl rfl
        · have k5 : decide (kd = 5) = false := decide_eq_false h5
          rw [if_neg h5] at hr
          by_cases h4 : kd = 4
          · subst h4
            first | rw [if_pos rfl] at hr | skip
            simp only [Prod.mk.injEq] at hr
            obtain ⟨rfl, rfl⟩ := hr
            go_wp2_with fail
            exact left_end rfl rfl rfl rfl
          · have k4 : decide (kd = 4) = false := decide_eq_false h4
            rw [if_neg h4] at hr
            by_cases h6 : kd = 6
            · subst h6
              first | rw [if_pos rfl] at hr | skip
              simp only [Prod.mk.injEq] at hr
              obtain ⟨rfl, rfl⟩ := hr
              go_wp2_with fail
              exact left_end rfl rfl rfl rfl
            · have k6 : decide (kd = 6) = false := decide_eq_false h6
              rw [if_neg h6] at hr
              simp only [Prod.mk.injEq] at hr
              obtain ⟨rfl, rfl⟩ := hr
              go_wp2_with fail
              exact left_end rfl rfl rfl rfl
end Go.Proofs.YtglgcjkglhlggaaGreatDoor
