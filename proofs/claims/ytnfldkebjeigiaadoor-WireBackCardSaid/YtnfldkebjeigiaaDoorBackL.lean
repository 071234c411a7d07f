/- How much values are, and whether they are wholly said: the law's own helpers, walked. Conditions: memory bounds lengths. -/
import Derived.Test.YtnfldkebjeigiaaDoorCost
import Derived.Lib.Bytes
namespace Go.Proofs.YtnfldkebjeigiaaDoor
open Go.RowKit
set_option maxRecDepth 20000

theorem lvalue_any (kd num : Int) (text : ByteArray) (w : World) (hl : text.size ≤ 140737488351232) :
    Calls Tryd.prog 34 #[.agg #[.int .u8 kd, .int .i64 num, .string text]] w fun e w' => e = .returned (.int .i64 (costV ⟨kd, num, text⟩)) ∧ Below w.heap.size w w' := by
  have hb := (Below.refl w.heap.size w).alloc (Nat.le_refl _) (.cells #[.int .u8 kd, .int .i64 num, .string text] 24)
  go_enter Tryd.func34, Tryd.ntmps34
  go_wp2_with fail
  go_ret
  exact ⟨by simp [costV, Int.tdiv_eq_ediv_of_nonneg]; try omega, hb⟩
set_option maxHeartbeats 1000000 in
theorem lvalues_any (ao : Option Addr) (n cap : Nat) (xs : List Va) (w : World) (B : Nat) (hn : xs.length = n) (hx : ValsIn w B ao xs) (hB : B ≤ w.heap.size) (htx : ∀ v ∈ xs, v.text.size ≤ 140737488351232) (hl : n ≤ 4398046511104) :
    Calls Tryd.prog 35 #[.slice ao n cap] w fun e w' => e = .returned (.int .i64 (valuesN xs)) ∧ Below w.heap.size w w' := by
  have HX := Lib.hid (hx.mono noSub_rising hB)
  have HN := Lib.hid hn
  have HTX := Lib.hid htx
  have hv : costs n xs = valuesN xs := by rw [← hn]; rfl
  have hle := valuesN_le xs (by omega) htx
  have HV := Lib.hid hv
  clear hx hn htx hv
  go_enter Tryd.func35, Tryd.ntmps35
  go_wp2_with fail
  go_loopw [3, 4] (fun m i wr => ∃ (k : Nat) (c : Int), k ≤ n ∧ i = .int .i64 k ∧ m = .int .i64 c ∧ 0 ≤ c ∧ c ≤ 7036874420000 ∧ costs c (xs.drop k) = valuesN xs ∧ Below w.heap.size w wr) (fun _ i _ => n - (intOf i).toNat)
  case atStart => exact ⟨0, n, by omega, rfl, rfl, by omega, by omega, by simpa using HV.out, Below.refl _ _⟩
  case round =>
    clear HV
    obtain ⟨k, c, hk, rfl, rfl, hc0, hc1, hcs, hbel⟩ := hrel
    have HC := Lib.hid hcs
    clear hcs
    by_cases hlt : k < n
    · have i1 : (k : Int) < n := by omega
      by_cases hc2 : c ≤ 2000
      · have hkx : xs[k]? = some (xs[k]'(by rw [HN.out]; exact hlt)) := List.getElem?_eq_getElem _
        have hdr : xs.drop k = (xs[k]'(by rw [HN.out]; exact hlt)) :: xs.drop (k + 1) := List.drop_eq_getElem_cons _
        have htx := HTX.out _ (List.getElem_mem (l := xs) (n := k) (by rw [HN.out]; exact hlt))
        obtain ⟨b, off, hao, hb, hc, _⟩ := HX.out.at hkx
        generalize xs[k]'(by rw [HN.out]; exact hlt) = x at hc hkx hdr htx
        have hnew : costs (c + costV x) (xs.drop (k + 1)) = valuesN xs := by
          have := HC.out
          rw [hdr] at this
          unfold costs at this
          rwa [if_pos hc2] at this
        have hcp := costV_pos x
        have hcu : costV x ≤ 7036874417563 := by unfold costV; omega
        obtain ⟨kd, num, text⟩ := x
        dsimp only at htx
        have hcall := lvalue_any kd num text wr htx
        generalize costV ⟨kd, num, text⟩ = q at hcall hcp hcu hnew
        have HCALL := Lib.hid hcall
        have HNEW := Lib.hid hnew
        have c0 : wr.cell? ⟨b, off + k * 3, none⟩ = some (.int .u8 kd) := (hbel.cell (p := ⟨b, _, none⟩) hb).trans (hc 0 (by decide))
        have c1 : wr.cell? ⟨b, off + k * 3 + 1, none⟩ = some (.int .i64 num) := (hbel.cell (p := ⟨b, _, none⟩) hb).trans (hc 1 (by decide))
        have c2 : wr.cell? ⟨b, off + k * 3 + 1 + 1, none⟩ = some (.string text) := (hbel.cell (p := ⟨b, _, none⟩) hb).trans (hc 2 (by decide))
        have c3 : wr.cell? ⟨b, off + k * 3 + 2, none⟩ = some (.string text) := c2
        have w1 : IntKind.i64.wrap (c + q) = c + q := IntWalk.i64_in _ (by omega)
        have i2 : decide (c ≤ 2000) = true := by simpa using hc2
        subst hao
        clear hc hkx hdr hcall hnew htx
        go_wp2_with fail
        refine HCALL.out.mono ?_
        rintro e w2 ⟨rfl, hb2⟩
        have hb3 := hbel.trans (hb2.mono hbel.size)
        clear c0 c1 c2 c3 hb2
        go_wp2_with fail
        go_roundw
        case rel => exact ⟨k + 1, c + q, by omega, by go_num, by first | rfl | go_num, by omega, by omega, HNEW.out, hb3⟩
        case measure => simp [intOf]; omega
      · have hfin : valuesN xs = c := by rw [← HC.out]; exact costs_big _ _ (by omega)
        have i2 : decide (c ≤ 2000) = false := by simpa using hc2
        have i3 : 2000 < c := by omega
        have HF := Lib.hid hfin
        clear hfin
        go_wp2_with fail
        go_ret
        exact ⟨by (rw [HF.out]); first | done | rfl, hbel⟩
    · obtain rfl : k = n := by omega
      have hfin : valuesN xs = c := by
        rw [← HC.out, List.drop_eq_nil_of_le (by rw [HN.out]; exact Nat.le_refl _)]
        rfl
      have HF := Lib.hid hfin
      clear hfin
      go_wp2_with fail
      go_ret
      exact ⟨by (rw [HF.out]); first | done | rfl, hbel⟩
theorem not_empty {text : ByteArray} (h : ¬ text = ByteArray.empty) : text.toList.isEmpty = false := by
  cases hh : strB text with
  | nil =>
    have h1 := strN_strB text
    rw [hh] at h1
    exact absurd (h1.symm.trans rfl) h
  | cons c l =>
    have h1 : text = strOfNums (c :: l) := by rw [← hh]; exact (strN_strB text).symm
    rw [h1, Lib.strOfNums_toList]
    rfl
theorem lbare_any (kd num : Int) (text : ByteArray) (w : World) :
    Calls Tryd.prog 6 #[.agg #[.int .u8 kd, .int .i64 num, .string text]] w fun e w' => e = .returned (.bool (bareB ⟨kd, num, text⟩)) ∧ Below w.heap.size w w' := by
  have hb := (Below.refl w.heap.size w).alloc (Nat.le_refl _) (.cells #[.int .u8 kd, .int .i64 num, .string text] 24)
  go_enter Tryd.func6, Tryd.ntmps6
  by_cases h1 : kd = 1
  · by_cases h2 : text = ByteArray.empty
    · subst h1 h2
      go_wp2_with fail
      go_ret
      exact ⟨by simp [bareB], hb⟩
    · subst h1
      have h3 : decide (text = ByteArray.empty) = false := by simpa using h2
      have h4 := not_empty h2
      have h2' : ¬ text = ⟨#[]⟩ := h2
      go_wp2_with fail
      go_ret
      exact ⟨by simp [bareB, h2], hb⟩
  · have h1' : decide (kd = 1) = false := by simpa using h1
    by_cases h2 : kd = 2
    · subst h2
      by_cases h3 : num = 0
      · subst h3
        go_wp2_with fail
        go_ret
        exact ⟨by simp [bareB], hb⟩
      · have h3' : decide (num = 0) = false := by simpa using h3
        go_wp2_with fail
        go_ret
        exact ⟨by simp [bareB, h3], hb⟩
    · have h2' : decide (kd = 2) = false := by simpa using h2
      go_wp2_with fail
      go_ret
      exact ⟨by simp [bareB, h1, h2], hb⟩
set_option maxHeartbeats 1000000 in
theorem lall_any (ao : Option Addr) (n cap : Nat) (xs : List Va) (w : World) (B : Nat) (hn : xs.length = n) (hx : ValsIn w B ao xs) (hB : B ≤ w.heap.size) (hl : n ≤ 4398046511104) (g : Bool) (hg : xs.all bareB = g) :
    Calls Tryd.prog 7 #[.slice ao n cap] w fun e w' => e = .returned (.bool g) ∧ Below w.heap.size w w' := by
  have HX := Lib.hid (hx.mono noSub_rising hB)
  have HN := Lib.hid hn
  obtain ⟨P, hP⟩ : ∃ P : Bool × Bool, P = (g, g) := ⟨_, rfl⟩
  have hg2 : xs.all bareB = P.1 := by rw [hP]; exact hg
  have hgg : g = P.1 := by rw [hP]
  have HG := Lib.hid hg2
  rw [hgg]
  clear hx hn hg hP hg2 hgg
  go_enter Tryd.func7, Tryd.ntmps7
  go_wp2_with fail
  go_loopw [3] (fun i wr => ∃ k : Nat, k ≤ n ∧ i = .int .i64 k ∧ (xs.take k).all bareB = true ∧ Below w.heap.size w wr) (fun i _ => n - (intOf i).toNat)
  case atStart => exact ⟨0, by omega, rfl, rfl, Below.refl _ _⟩
  case round =>
    obtain ⟨k, hk, rfl, hall, hbel⟩ := hrel
    have HA := Lib.hid hall
    clear hall
    by_cases hlt : k < n
    · have i1 : (k : Int) < n := by omega
      have hkx : xs[k]? = some (xs[k]'(by rw [HN.out]; exact hlt)) := List.getElem?_eq_getElem _
      have htk : xs.take (k + 1) = xs.take k ++ [xs[k]'(by rw [HN.out]; exact hlt)] := List.take_succ_eq_append_getElem _
      have hmem : (xs[k]'(by rw [HN.out]; exact hlt)) ∈ xs := List.getElem_mem _
      obtain ⟨b, off, hao, hb, hc, _⟩ := HX.out.at hkx
      generalize xs[k]'(by rw [HN.out]; exact hlt) = x at hc hkx htk hmem
      obtain ⟨kd, num, text⟩ := x
      have hcall := lbare_any kd num text wr
      have c0 : wr.cell? ⟨b, off + k * 3, none⟩ = some (.int .u8 kd) := (hbel.cell (p := ⟨b, _, none⟩) hb).trans (hc 0 (by decide))
      have c1 : wr.cell? ⟨b, off + k * 3 + 1, none⟩ = some (.int .i64 num) := (hbel.cell (p := ⟨b, _, none⟩) hb).trans (hc 1 (by decide))
      have c2 : wr.cell? ⟨b, off + k * 3 + 1 + 1, none⟩ = some (.string text) := (hbel.cell (p := ⟨b, _, none⟩) hb).trans (hc 2 (by decide))
      have c3 : wr.cell? ⟨b, off + k * 3 + 2, none⟩ = some (.string text) := c2
      subst hao
      have HT := Lib.hid htk
      have HM := Lib.hid hmem
      clear hc hkx htk hmem
      cases hbr : bareB ⟨kd, num, text⟩ with
      | true =>
        rw [hbr] at hcall
        have HCALL := Lib.hid hcall
        have HBR := Lib.hid hbr
        clear hcall hbr
        go_wp2_with fail
        refine HCALL.out.mono ?_
        rintro e w2 ⟨rfl, hb2⟩
        have hb3 := hbel.trans (hb2.mono hbel.size)
        clear c0 c1 c2 c3 hb2
        go_wp2_with fail
        go_roundw
        case rel => exact ⟨k + 1, by omega, by go_num, by rw [HT.out, List.all_append, HA.out]; simp [HBR.out], hb3⟩
        case measure => simp [intOf]; omega
      | false =>
        rw [hbr] at hcall
        have HCALL := Lib.hid hcall
        have hfin : P.1 = false := by
          rw [← HG.out]
          cases hh : xs.all bareB with
          | false => rfl
          | true =>
            have := List.all_eq_true.1 hh _ HM.out
            rw [hbr] at this
            cases this
        have HF := Lib.hid hfin
        clear hcall hbr hfin
        go_wp2_with fail
        refine HCALL.out.mono ?_
        rintro e w2 ⟨rfl, hb2⟩
        have hb3 := hbel.trans (hb2.mono hbel.size)
        clear c0 c1 c2 c3 hb2
        go_wp2_with fail
        go_ret
        exact ⟨by (rw [HF.out]); first | done | rfl, hb3⟩
    · obtain rfl : k = n := by omega
      have hfin : P.1 = true := by
        rw [← HG.out]
        have := HA.out
        rwa [List.take_of_length_le (l := xs) (by rw [HN.out]; exact Nat.le_refl _)] at this
      have HF := Lib.hid hfin
      clear hfin
      go_wp2_with fail
      go_ret
      exact ⟨by (rw [HF.out]); first | done | rfl, hbel⟩
end Go.Proofs.YtnfldkebjeigiaaDoor
