/- The writer's row of values; Values of wire. Conditions: what is written is not too long. -/
import Derived.Test.YtnfldkebjeigiaaDoorWForms
namespace Go.Proofs.YtnfldkebjeigiaaDoor
open Go.RowKit
set_option maxRecDepth 20000

theorem flatMap_take_le {α : Type} (f : α → List Int) (xs : List α) (k : Nat) : ((xs.take k).flatMap f).length ≤ (xs.flatMap f).length := by
  conv => rhs; rw [← List.take_append_drop k xs, List.flatMap_append, List.length_append]
  omega
theorem flatMap_at_le {α : Type} (f : α → List Int) (xs : List α) (k : Nat) (x : α) (h : xs[k]? = some x) : ((xs.take k).flatMap f).length + (f x).length ≤ (xs.flatMap f).length := by
  have hk := (List.getElem?_eq_some_iff.1 h).1
  have e : (xs.take (k + 1)).flatMap f = (xs.take k).flatMap f ++ f x := by
    rw [List.take_succ_eq_append_getElem hk, List.flatMap_append]
    obtain ⟨_, h2⟩ := List.getElem?_eq_some_iff.1 h
    rw [h2]; simp
  have := flatMap_take_le f xs (k + 1)
  rw [e, List.length_append] at this
  exact this
set_option maxHeartbeats 1000000 in
theorem values_any (B b : Nat) (bs : List Int) (ao : Option Addr) (n cap : Nat) (xs : List Va) (w : World) (hn : xs.length = n) (hx : RowsIn 3 vaCells noSub w B ao xs) (htx : ∀ v ∈ xs, v.text.size ≤ 1099511627776) (h : BufIs w B b bs) (hBw : B ≤ w.heap.size) (hlim : bs.length + (valuesB xs).length + 9200 ≤ 140737488355328) (hnl : n ≤ 1099511627776) (hlim2 : bs.length + (valuesB xs).length ≤ 100000000000) :
    Calls Tryd.prog 45 #[.pointer (some ⟨b, 0, none⟩), .slice ao n cap] w fun e w' => e = .returned (.tuple #[]) ∧ Wrote B b (bs ++ valuesB xs) w w' := by
  have hlv : (valuesB xs).length = 4 + (xs.flatMap valueB).length := by rw [valuesB, List.length_append, numB_len]
  rw [hlv] at hlim hlim2
  have HX := Lib.hid hx
  have HN := Lib.hid hn
  have HTX := Lib.hid htx
  have H := Lib.hid h
  clear hx hn htx h hlv
  go_enter Tryd.func45, Tryd.ntmps45
  go_wp2_with fail
  refine (count_any B b bs n w H.out hBw (by omega)).mono ?_
  rintro e w1 ⟨rfl, hw⟩
  have HW1 := Lib.hid hw
  clear hw
  go_wp2_with fail
  go_loopw [12] (fun i wr => ∃ k : Nat, k ≤ n ∧ i = .int .i64 k ∧ Wrote B b (bs ++ (numB 4 n ++ (xs.take k).flatMap valueB)) w wr) (fun i _ => n - (intOf i).toNat)
  case atStart => exact ⟨0, by omega, rfl, by simpa using HW1.out⟩
  case round =>
    clear HW1
    obtain ⟨k, hk, rfl, hw⟩ := hrel
    have HW := Lib.hid hw
    clear hw
    by_cases hlt : k < n
    · have hkx : xs[k]? = some (xs[k]'(by rw [HN.out]; exact hlt)) := List.getElem?_eq_getElem _
      obtain ⟨rb, off, hao, hb, hc, _⟩ := HX.out.at hkx
      have htk : (xs.take (k + 1)).flatMap valueB = (xs.take k).flatMap valueB ++ valueB (xs[k]'(by rw [HN.out]; exact hlt)) := by
        rw [List.take_succ_eq_append_getElem (by rw [HN.out]; exact hlt), List.flatMap_append]; simp
      have hle := flatMap_at_le valueB xs k _ hkx
      have htx := HTX.out _ (List.getElem_mem (l := xs) (n := k) (by rw [HN.out]; exact hlt))
      generalize xs[k]'(by rw [HN.out]; exact hlt) = x at hc htk hle htx hkx
      have hcall : ∀ w', Wrote B b (bs ++ (numB 4 n ++ (xs.take k).flatMap valueB)) w w' → Calls Tryd.prog 46 #[.pointer (some ⟨b, 0, none⟩), .agg #[.int .u8 x.kind, .int .i64 x.num, .string x.text]] w' fun e w'' => e = .returned (.tuple #[]) ∧ Wrote B b (bs ++ (numB 4 n ++ (xs.take k).flatMap valueB) ++ valueB x) w' w'' := fun w' hw' =>
        value_any B b _ x w' hw'.1 (Nat.le_trans hBw hw'.2.1.size) (by simp only [List.length_append, numB_len]; omega)
      obtain ⟨kd, num, text⟩ := x
      dsimp only at hcall
      have hbel := HW.out.2.1
      have c0 : wr.cell? ⟨rb, off + k * 3, none⟩ = some (.int .u8 kd) := (hbel.cell (p := ⟨rb, _, none⟩) hb).trans (hc 0 (by decide))
      have c1 : wr.cell? ⟨rb, off + k * 3 + 1, none⟩ = some (.int .i64 num) := (hbel.cell (p := ⟨rb, _, none⟩) hb).trans (hc 1 (by decide))
      have c2 : wr.cell? ⟨rb, off + k * 3 + 1 + 1, none⟩ = some (.string text) := (hbel.cell (p := ⟨rb, _, none⟩) hb).trans (hc 2 (by decide))
      have c3 : wr.cell? ⟨rb, off + k * 3 + 2, none⟩ = some (.string text) := c2
      have HT := Lib.hid htk
      have HC := Lib.hid hcall
      have i1 : (k : Int) < n := by omega
      subst hao
      clear hc htk hle htx hkx hcall hbel
      go_wp2_with fail
      refine (HC.out _ (HW.out.alloc hBw _)).mono ?_
      rintro e w3 ⟨rfl, hw3⟩
      have hw4 := (HW.out.alloc hBw _).trans hw3
      rw [List.append_assoc, List.append_assoc, ← HT.out] at hw4
      have HW4 := Lib.hid hw4
      clear hw3 hw4 c0 c1 c2 c3
      go_wp2_with fail
      go_roundw
      case rel => exact ⟨k + 1, by omega, by go_num, HW4.out⟩
      case measure => simp [intOf]; omega
    · obtain rfl : k = n := by omega
      have hw5 := HW.out
      rw [List.take_of_length_le (l := xs) (by rw [HN.out]; exact Nat.le_refl _)] at hw5
      have HW5 := Lib.hid (show Wrote B b (bs ++ valuesB xs) w wr by unfold valuesB; rw [HN.out]; exact hw5)
      clear hw5
      go_wp2_with fail
      go_end0
      exact ⟨rfl, HW5.out⟩
end Go.Proofs.YtnfldkebjeigiaaDoor
