/- frame.Put: the frames' bytes, or that some is none. Conditions: the frames' cells lie as their reading says. -/
import Derived.Test.YtgigfeppaalbcaaGreatDoorFrames
namespace Go.Proofs.YtgigfeppaalbcaaGreatDoor
open Go.RowKit
set_option maxRecDepth 20000

theorem putB_snoc (fs : List Fr) (f : Fr) : putB (fs ++ [f]) = putB fs ++ frameB f.kind f.data := by simp [putB]
theorem putB_take (fs : List Fr) (k : Nat) : (putB (fs.take k)).length ≤ (putB fs).length := by
  conv => rhs; rw [← List.take_append_drop k fs]
  unfold putB
  rw [List.flatMap_append, List.length_append]
  omega
def PutPost (fs : List Fr) (w : World) (e : Ending) (w' : World) : Prop :=
  ∃ v, e = .returned (.tuple #[v, .int .i64 (putE fs)]) ∧ (putE fs = 0 → w'.ownsRow w.heap.size 5 1 v (putB fs).length ((putB fs).map bv)) ∧ (putE fs ≠ 0 → v = .slice none 0 0) ∧ Below w.heap.size w w'
theorem put_any (ao : Option Addr) (cap : Nat) (fs : List Fr) (w : World) (hx : FramesIn w w.heap.size ao fs) (hw : ∀ f ∈ fs, FrWf f) (hl : (putB fs).length ≤ 140737488351232) (hn : fs.length ≤ 1099511627776) :
    Calls Tryz.prog 9 #[.slice ao fs.length cap] w (PutPost fs w) := by
  have HX := Lib.hid hx
  clear hx
  go_enter Tryz.func9, Tryz.ntmps9
  go_wp2_with fail
  have hbuf0 : BufIs (w.alloc (.cells #[.slice none 0 0, .int .i64 0, .int .i8 0] 55)) w.heap.size w.heap.size [] := LibA.zero_isBuffer (Nat.le_refl _) (lr := 0) ⟨_, heap_alloc_new w _, rfl, rfl, rfl, fun i hi => by rcases hi with hi | hi; omega; exact Array.getElem?_eq_none (by simpa using hi)⟩
  have hb0 := (Below.refl w.heap.size w).alloc (Nat.le_refl _) (.cells #[.slice none 0 0, .int .i64 0, .int .i8 0] 55)
  have hz0 : (w.alloc (.cells #[.slice none 0 0, .int .i64 0, .int .i8 0] 55)).heap.size = w.heap.size + 1 := by simp
  generalize w.alloc (.cells #[.slice none 0 0, .int .i64 0, .int .i8 0] 55) = w0 at hbuf0 hb0 hz0 ⊢
  go_loopw [6, 9] (fun _ i wr => ∃ k : Nat, k ≤ fs.length ∧ i = .int .i64 k ∧ (∀ f ∈ fs.take k, okF f) ∧ BufIs wr w.heap.size w.heap.size (putB (fs.take k)) ∧ Below w.heap.size w wr) (fun _ i _ => fs.length - (intOf i).toNat)
  case atStart => exact ⟨0, by omega, rfl, by simp, hbuf0, hb0⟩
  case round =>
    obtain ⟨k, hk, rfl, hok, hbuf, hbel⟩ := hrel
    have HOK := Lib.hid hok
    clear hok hbuf0 hb0
    have hs := hbel.size
    by_cases hlt : k < fs.length
    · rcases HX.out with h0 | ⟨bb, off, rfl, hb, hc⟩
      · rw [h0] at hlt; simp at hlt
      obtain ⟨c0, c1, hD⟩ := hc k hlt
      rw [← hbel.cell (p := ⟨bb, _, none⟩) hb] at c0 c1
      clear hc
      have hfw := hw (fs.getD k Fr.zero) (by simp [List.getD, List.getElem?_eq_getElem hlt])
      have HE := Lib.hid (putE_at hlt HOK.out)
      have htk : fs.take (k + 1) = fs.take k ++ [fs.getD k Fr.zero] := by rw [List.take_succ_eq_append_getElem hlt]; simp [List.getD, List.getElem?_eq_getElem hlt]
      have HT := Lib.hid htk
      clear htk
      obtain ⟨f, hfe⟩ : ∃ f, f = fs.getD k Fr.zero := ⟨_, rfl⟩
      rw [← hfe] at c0 c1 hD hfw HE HT
      clear hfe
      obtain ⟨fk, fa, fc, fd⟩ := f
      obtain ⟨w1, hfa, hfd, hfl⟩ := hfw
      dsimp only at c0 c1 hD w1 hfa hfd hfl
      have i1 : (k : Int) < fs.length := by omega
      have hbig : (putB (fs.take (k + 1))).length ≤ (putB fs).length := putB_take fs (k + 1)
      rw [HT.out, putB_snoc, List.length_append, frameB_len] at hbig
      dsimp only at hbig
      have hbA := hbel.alloc hs (.cells #[.int .i64 fk, .slice fa fd.length fc] 44)
      by_cases hkk : fk < 0
      · have hE := HE.out (by unfold okF; dsimp only; omega)
        rw [if_pos (by dsimp only; omega)] at hE
        have HE' := Lib.hid hE
        clear hE
        go_wp2_with fail
        go_ret2
        exact ⟨_, by rw [HE'.out]; rfl, by rw [HE'.out]; omega, fun _ => rfl, hbA⟩
      · by_cases hkk2 : 255 < fk
        · have hE := HE.out (by unfold okF; dsimp only; omega)
          rw [if_pos (by dsimp only; omega)] at hE
          have HE' := Lib.hid hE
          clear hE
          go_wp2_with fail
          go_ret2
          exact ⟨_, by rw [HE'.out]; rfl, by rw [HE'.out]; omega, fun _ => rfl, hbA⟩
        · by_cases hlen : 1048576 < fd.length
          · have hE := HE.out (by unfold okF; dsimp only; omega)
            rw [if_neg (by dsimp only; omega)] at hE
            have HE' := Lib.hid hE
            clear hE
            have i2 : (1048576 : Int) < fd.length := by omega
            go_wp2_with fail
            go_ret2
            exact ⟨_, by rw [HE'.out]; rfl, by rw [HE'.out]; omega, fun _ => rfl, hbA⟩
          · have i2 : ¬ (1048576 : Int) < fd.length := by omega
            have hbufA : BufIs (wr.alloc (.cells #[.int .i64 fk, .slice fa fd.length fc] 44)) w.heap.size w.heap.size (putB (fs.take k)) := LibA.IsBuffer.alloc hbuf _
            have hDA := hD.below hbA (Nat.le_refl _)
            have hsA := hbA.size
            go_wp2_with fail
            refine (frame_any w.heap.size w.heap.size _ fk fa fc fd _ (by omega) hDA hfd hfa hbufA hsA (by omega) (by omega)).mono ?_
            rintro e w3 ⟨rfl, hb3, hB3, _⟩
            go_wp2_with fail
            go_roundw
            case rel => exact ⟨k + 1, by omega, by go_num, by rw [HT.out]; intro f hf; rcases List.mem_append.1 hf with hf | hf; exact HOK.out f hf; rw [List.mem_singleton.1 hf]; unfold okF; dsimp only; omega, by rw [HT.out, putB_snoc]; exact hb3, hbA.trans hB3⟩
            case measure => simp [intOf]; omega
    · obtain rfl : k = fs.length := by omega
      have hok := HOK.out
      rw [List.take_length] at hok hbuf
      have H0 := Lib.hid (putE_ok hok)
      clear hok
      go_wp2_with fail
      refine (bytes_of _ _ _ _ hbuf).mono ?_
      rintro e w2 ⟨v, rfl, hown2, hb2⟩
      have hao2 := fun ao2 n cap2 (h : v = .slice ao2 n cap2) => own_none (h ▸ hown2)
      obtain ⟨ao2, cap2, hv2, hD2⟩ := own_bytes hown2
      have hao3 := hao2 _ _ _ hv2
      subst hv2
      have hbel2 := hbel.trans (hb2.mono hs)
      clear hown2 hao2
      have hs2 := hbel2.size
      go_wp2_with fail
      refine (clone_any ao2 cap2 (putB fs) w2 _ hD2 (Nat.le_refl _) hao3 (by omega)).mono ?_
      rintro e w3 ⟨v3, rfl, hown3, hb3⟩
      have hown4 := Go.Joins.ownsRow_le hown3 hs2
      have hbel3 := hbel2.trans (hb3.mono hs2)
      clear hown3
      go_wp2_with fail
      go_ret2
      exact ⟨v3, by rw [H0.out]; rfl, fun _ => hown4, fun h => absurd H0.out h, hbel3⟩
end Go.Proofs.YtgigfeppaalbcaaGreatDoor
