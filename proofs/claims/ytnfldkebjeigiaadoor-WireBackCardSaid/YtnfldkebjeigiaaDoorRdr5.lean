/- The reader of wire: Text. Conditions: the reader is one that was made. -/
import Derived.Test.YtnfldkebjeigiaaDoorRdr4
import Derived.Test.YtnfldkebjeigiaaDoorHeldR
import Derived.Lib.SlBytesRow
import Derived.Lib.BufferRead
namespace Go.Proofs.YtnfldkebjeigiaaDoor
open Go.RowKit
set_option maxRecDepth 20000

/-- The text that bytes say. -/
def strN (l : List Int) : ByteArray := strOfNums l
theorem conv_text {w : World} {M rb c : Nat} {a : Option Addr} {l : List Int} (h : BytesOff w M rb a l) (hn : a = none → c = 0) : (convert 47 9 (.slice a l.length c)).run Tryd.prog w = .ok (.string (strN l)) w := by
  rcases h with rfl | ⟨b, off, rfl, _, _, h3⟩
  · cases a with
    | none =>
      rw [run_convert_bytes_string w _ _ 5 none _ c Tryd.underlying47 Tryd.underlying5 Tryd.underlying9]
      simp [Conv.bytesToString]
      rfl
    | some ad =>
      rw [run_convert_bytes_string w _ _ 5 (some ad) _ c Tryd.underlying47 Tryd.underlying5 Tryd.underlying9]
      simp [Conv.bytesToString]
      rfl
  · exact run_convert_bytes_arg w _ 5 Tryd.underlying47 Tryd.underlying5 b off l.length c l rfl h3 _ Tryd.underlying9
/-- What Text tells. -/
def textS (bad : Bool) (left : List Int) : ByteArray × Bool × List Int :=
  let r := takeS (countS bad left).1.toNat (countS bad left).2.1 (countS bad left).2.2
  (strN r.1, r.2.1, r.2.2)
theorem countS_wf {bad : Bool} {left : List Int} (h : BytesWf left) : 0 ≤ (countS bad left).1 ∧ (countS bad left).1 ≤ 65536 ∧ BytesWf (countS bad left).2.2 ∧ (countS bad left).2.2.length ≤ left.length := by
  have h1 := takeS_wf (n := 4) (bad := bad) h
  have h2 := getN_small h1.1 h1.2.2.1
  unfold countS
  split
  · exact ⟨by simp, by simp, h1.2.1, h1.2.2.2⟩
  · rename_i hc
    exact ⟨h2.1, by show getN _ ≤ _; rcases Int.lt_or_le 65536 (getN (takeS 4 bad left).1) with h | h; exact absurd (Or.inr h) hc; exact h, h1.2.1, h1.2.2.2⟩
set_option maxHeartbeats 1000000 in
theorem text_rd (M rb : Nat) (bad : Bool) (left : List Int) (w : World) (h : Rdr w M rb bad left) (hw : BytesWf left) (hl : left.length ≤ 140737488351232) :
    Calls Tryd.prog 20 #[.pointer (some ⟨rb, 0, none⟩)] w fun e w' => e = .returned (.string (textS bad left).1) ∧ Rdr w' M rb (textS bad left).2.1 (textS bad left).2.2 ∧ Only rb w w' := by
  have HK := Lib.hid (known_any M rb bad left w h)
  have hcw := countS_wf (bad := bad) hw
  have hct := fun w1 (hr : Rdr w1 M rb bad left) => count_rd M rb bad left w1 hr hw hl
  unfold textS
  generalize countS bad left = r at hcw hct ⊢
  obtain ⟨n, b1, l1⟩ := r
  dsimp only at hcw hct ⊢
  obtain ⟨hn0, hn1, hl1w, hl1⟩ := hcw
  obtain ⟨m, rfl⟩ : ∃ m : Nat, n = m := ⟨n.toNat, by omega⟩
  rw [Int.toNat_natCast]
  obtain ⟨q, hq⟩ : ∃ q, takeS m b1 l1 = q := ⟨_, rfl⟩
  have HTK := Lib.hid (fun w1 (hr : Rdr w1 M rb b1 l1) => hq ▸ take_any M rb m b1 l1 w1 hr (by omega) (by omega))
  rw [hq]
  have HCT := Lib.hid hct
  have H := Lib.hid h
  clear h hct hq hw hl1w
  obtain ⟨got, b2, l2⟩ := q
  dsimp only
  go_enter Tryd.func20, Tryd.ntmps20
  go_wp2_with fail
  refine HK.out.mono ?_
  rintro e w1 ⟨rfl, rfl⟩
  go_wp2_with fail
  have hd : Rdr w.drew M rb bad left := H.out.below (Below.refl _ _).drew
  have HD := Lib.hid hd
  clear hd
  refine held_begin (by kernel_rfl) ?_
  (first | (refine take_no 0 rfl (by kernel_rfl) (by kernel_rfl) (by kernel_rfl) (fun _ _ _ h => h) (by rfl) ?_) | (refine take_yes (v := ?_) 0 rfl (by kernel_rfl) (by kernel_rfl) (by kernel_rfl) (fun _ _ _ h => h) (by rfl) ?_ ?_; rotate_left; focus (intro wS; go_simp; first | done | with_reducible rfl)))
  (try simp only [Act.put, List.setIfInBounds_toArray, List.set_cons_zero, List.set_cons_succ])
  (first | (refine take_no 1 rfl (by kernel_rfl) (by kernel_rfl) (by kernel_rfl) (fun _ _ _ h => h) (by rfl) ?_) | (refine take_yes (v := ?_) 1 rfl (by kernel_rfl) (by kernel_rfl) (by kernel_rfl) (fun _ _ _ h => h) (by rfl) ?_ ?_; rotate_left; focus (intro wS; go_simp; first | done | with_reducible rfl)))
  (try simp only [Act.put, List.setIfInBounds_toArray, List.set_cons_zero, List.set_cons_succ])
  (first | (refine take_no 2 rfl (by kernel_rfl) (by kernel_rfl) (by kernel_rfl) (fun _ _ _ h => h) (by rfl) ?_) | (refine take_yes (v := ?_) 2 rfl (by kernel_rfl) (by kernel_rfl) (by kernel_rfl) (fun _ _ _ h => h) (by rfl) ?_ ?_; rotate_left; focus (intro wS; go_simp; first | done | with_reducible rfl)))
  (try simp only [Act.put, List.setIfInBounds_toArray, List.set_cons_zero, List.set_cons_succ])
  (first | (refine take_no 3 rfl (by kernel_rfl) (by kernel_rfl) (by kernel_rfl) (fun _ _ _ h => h) (by rfl) ?_) | (refine take_yes (v := ?_) 3 rfl (by kernel_rfl) (by kernel_rfl) (by kernel_rfl) (fun _ _ _ h => h) (by rfl) ?_ ?_; rotate_left; focus (intro wS; go_simp; first | done | with_reducible rfl)))
  (try simp only [Act.put, List.setIfInBounds_toArray, List.set_cons_zero, List.set_cons_succ])
  (first | (refine take_no 4 rfl (by kernel_rfl) (by kernel_rfl) (by kernel_rfl) (fun _ _ _ h => h) (by rfl) ?_) | (refine take_yes (v := ?_) 4 rfl (by kernel_rfl) (by kernel_rfl) (by kernel_rfl) (fun _ _ _ h => h) (by rfl) ?_ ?_; rotate_left; focus (intro wS; go_simp; first | done | with_reducible rfl)))
  (try simp only [Act.put, List.setIfInBounds_toArray, List.set_cons_zero, List.set_cons_succ])
  (first | (refine take_no 5 rfl (by kernel_rfl) (by kernel_rfl) (by kernel_rfl) (fun _ _ _ h => h) (by rfl) ?_) | (refine take_yes (v := ?_) 5 rfl (by kernel_rfl) (by kernel_rfl) (by kernel_rfl) (fun _ _ _ h => h) (by rfl) ?_ ?_; rotate_left; focus (intro wS; go_simp; first | done | with_reducible rfl)))
  (try simp only [Act.put, List.setIfInBounds_toArray, List.set_cons_zero, List.set_cons_succ])
  refine take_alone 6 rfl (by kernel_rfl) (by rfl) (fun K hK => ?_)
  go_simp
  (refine (HCT.out _ HD.out).mono ?_; rintro e w2 ⟨rfl, hr2, ho2⟩; have HR2 := Lib.hid hr2; have HO2 := Lib.hid ho2; clear hr2 ho2)
  refine hK.out _ _ ?_
  clear hK K
  (try simp only [Act.put, List.setIfInBounds_toArray, List.set_cons_zero, List.set_cons_succ])
  refine take_alone 7 rfl (by kernel_rfl) (by rfl) (fun K hK => ?_)
  go_simp
  (refine (HTK.out _ HR2.out).mono ?_; rintro e w3 ⟨a, c, rfl, hoff, hnil, hcap, hr3, ho3⟩; have hconv := conv_text hoff hnil; dsimp only at hconv hr3 ⊢; have HR3 := Lib.hid hr3; have HO3 := Lib.hid (HO2.out.trans ho3); clear hr3 ho3 hoff hnil hcap)
  refine hK.out _ _ ?_
  clear hK K
  (try simp only [Act.put, List.setIfInBounds_toArray, List.set_cons_zero, List.set_cons_succ])
  refine take_alone 8 rfl (by kernel_rfl) (by rfl) (fun K hK => ?_)
  go_simp
  skip
  refine hK.out _ _ ?_
  clear hK K
  (try simp only [Act.put, List.setIfInBounds_toArray, List.set_cons_zero, List.set_cons_succ])
  (first | (refine take_no 9 rfl (by kernel_rfl) (by kernel_rfl) (by kernel_rfl) (fun _ _ _ h => h) (by rfl) ?_) | (refine take_yes (v := ?_) 9 rfl (by kernel_rfl) (by kernel_rfl) (by kernel_rfl) (fun _ _ _ h => h) (by rfl) ?_ ?_; rotate_left; focus (intro wS; go_simp; first | done | with_reducible rfl)))
  (try simp only [Act.put, List.setIfInBounds_toArray, List.set_cons_zero, List.set_cons_succ])
  refine wpAnyH_done (by kernel_rfl) ?_ _
  clear hconv
  go_wp2_with fail
  go_ret
  exact ⟨rfl, HR3.out, ⟨HO3.out.1, HO3.out.2, HO3.out.3⟩⟩
end Go.Proofs.YtnfldkebjeigiaaDoor
