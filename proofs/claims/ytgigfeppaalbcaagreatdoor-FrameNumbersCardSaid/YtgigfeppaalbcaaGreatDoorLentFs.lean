/- LentFrames: a row of frames is copied, each frame's bytes too, with marks behind all ends. Conditions: the frames lie as their reading says. -/
import Derived.Test.YtgigfeppaalbcaaGreatDoorLentF
import Derived.Test.YtgigfeppaalbcaaGreatDoorFlat
namespace Go.Proofs.YtgigfeppaalbcaaGreatDoor
open Go.RowKit
set_option maxRecDepth 20000

theorem sizeFrame' : ∀ w, (sizeOf (Tryz.prog.elem 22)).run Tryz.prog w = .ok 2 w := fun _ => by kernel_rfl
theorem sliceFrame' : Tryz.prog.underlying 22 = some (.slice (Tryz.prog.elem 22)) := by kernel_rfl
def mkF (k i : Nat) : List Value := [.int .i64 (markN k i), .slice none 0 0]
theorem mkF_len (k i : Nat) : (mkF k i).length = 2 := rfl
/-- A frame whose bytes are lent. -/
def FrLent (w : World) (B : Nat) (f : Fr) : Prop := ∃ g, f.ao = some ⟨g, 0, none⟩ ∧ f.cap = f.data.length + 12 ∧ LentB w B g f.data
theorem FrLent.below {w w' : World} {B B' : Nat} {f : Fr} (h : FrLent w B f) (hb : Below B' w w') (hB : w.heap.size ≤ B') : FrLent w' B f := by
  obtain ⟨g, h1, h2, h3⟩ := h
  exact ⟨g, h1, h2, own_below h3 hb hB⟩
theorem FrLent.kept {w w' : World} {B : Nat} {f : Fr} {row : Option Nat} {B2 E2 S2 n2 : Nat} {u : Value} {xs : List Value} (h : FrLent w B f) (hg : w.grownBy w' row) (hu : w.ownsRow B2 E2 S2 u n2 xs) (he : E2 ≠ 5) (hr : row = u.ownBlock) : FrLent w' B f := by
  obtain ⟨g, h1, h2, h3⟩ := h
  exact ⟨g, h1, h2, World.ownsRow.kept h3 hg (by rw [hr]; exact own_apart h3 hu (Ne.symm he))⟩
def LentFsPost (fs : List Fr) (w : World) (e : Ending) (w' : World) : Prop :=
  ∃ frs : List Fr, e = .returned (.slice (some ⟨w.heap.size, 0, none⟩) fs.length (fs.length + 12)) ∧ frs.map Fr.pair = fs.map Fr.pair ∧ (∀ f ∈ frs, FrLent w' w.heap.size f) ∧
    w'.ownsRow w.heap.size 44 2 (.slice (some ⟨w.heap.size, 0, none⟩) (fs.length + 12) (fs.length + 12)) (fs.length + 12) (frs.flatMap frCells ++ mks mkF 1 12) ∧ Below w.heap.size w w'

set_option maxHeartbeats 2000000 in
theorem lentFs_any (ao : Option Addr) (cap : Nat) (fs : List Fr) (w : World) (hx : FramesIn w w.heap.size ao fs) (hq : ∀ f ∈ fs, (f.ao = none → f.cap = 0) ∧ f.data.length ≤ 1099511627776) (hl : fs.length ≤ 1099511627776) :
    Calls Tryz.prog 8 #[.slice ao fs.length cap] w (LentFsPost fs w) := by
  obtain ⟨i0, hi, hz0, hz1, hz2⟩ := info_parts infoFrame
  have hm1 : (0 : Int) ≤ (fs.length : Int) + 12 := by omega
  have HX := Lib.hid hx
  have HQ := Lib.hid hq
  clear hx hq
  go_enter Tryz.func8, Tryz.ntmps8
  go_wp2_with (at_make; refine wpList_make_own _ rfl _ _ 22 rfl w.heap.size 44 i0 (.agg #[.int .i64 0, .slice none 0 0]) 2 Tryz.underlying22 hi hz0 hz1 .i64 .i64 _ (fs.length + 12) rfl rfl (by omega) (by rw [hz2]; omega) (by unfold maxLen; omega) (Nat.le_refl _) ?_)
  intro w1 hown1 hg1
  have hb1 : Below w.heap.size w w1 := (Below.refl _ _).grown hg1 (Nat.le_refl _) (fun k hk => by cases hk)
  have H1 := Lib.hid hown1
  clear hown1 hg1
  go_wp2_with fail
  go_loopw [3, 4, 5] (fun v i _ wr => ∃ (k : Nat) (frs : List Fr), k ≤ fs.length ∧ i = .int .i64 k ∧ v = .slice (some ⟨w.heap.size, 0, none⟩) k (fs.length + 12) ∧ frs.map Fr.pair = (fs.take k).map Fr.pair ∧ (∀ f ∈ frs, FrLent wr w.heap.size f) ∧
    wr.ownsRow w.heap.size 44 2 (.slice (some ⟨w.heap.size, 0, none⟩) k (fs.length + 12)) k (frs.flatMap frCells) ∧ Below w.heap.size w wr) (fun _ i _ _ => fs.length - (intOf i).toNat)
  case atStart => exact ⟨0, [], by omega, rfl, rfl, by simp, by simp, H1.out, hb1⟩
  case round =>
    clear hb1 H1
    obtain ⟨k, frs, hk, rfl, rfl, hmap, hlf, hown, hbel⟩ := hrel
    have HM := Lib.hid hmap
    have HF := Lib.hid hlf
    have HO := Lib.hid hown
    clear hmap hlf hown
    have hs := hbel.size
    by_cases hlt : k < fs.length
    · rcases HX.out with h0 | ⟨b, off, rfl, hb, hc⟩
      · rw [h0] at hlt; simp at hlt
      obtain ⟨c0, c1, cd⟩ := hc k hlt
      rw [← hbel.cell (p := ⟨b, _, none⟩) hb] at c0 c1
      have hmem : fs.getD k Fr.zero ∈ fs := by simp [List.getD, List.getElem?_eq_getElem hlt]
      obtain ⟨hq1, hq2⟩ := HQ.out _ hmem
      have htk : (fs.take (k + 1)).map Fr.pair = (fs.take k).map Fr.pair ++ [(fs.getD k Fr.zero).pair] := by
        have e : fs.getD k Fr.zero = fs[k] := by simp [List.getD, List.getElem?_eq_getElem hlt]
        rw [List.take_succ_eq_append_getElem hlt, List.map_append, e]; rfl
      generalize fs.getD k Fr.zero = f at c0 c1 cd hq1 hq2 htk
      obtain ⟨fk, fa, fc, fd⟩ := f
      dsimp only at c0 c1 cd hq1 hq2
      have HT := Lib.hid htk
      have HC := Lib.hid cd
      have HQ1 := Lib.hid hq1
      have i1 : (k : Int) < fs.length := by omega
      clear hc hmem htk cd hq1
      go_wp2_with fail
      refine (lentF_any fk fa fc fd wr ((HC.out.below hbel (Nat.le_refl _)).mono hs) HQ1.out hq2).mono ?_
      rintro e w3 ⟨g, rfl, hg1, hg2, hL, hb3⟩
      have hown3 := own_below HO.out hb3 (Nat.le_refl _)
      have hlf3 : ∀ f ∈ frs, FrLent w3 w.heap.size f := fun f hf => (HF.out f hf).below hb3 (Nat.le_refl _)
      have hnew : FrLent w3 w.heap.size ⟨fk, some ⟨g, 0, none⟩, fd.length + 12, fd⟩ := ⟨g, rfl, rfl, hL.le hs⟩
      have hbel3 := hbel.trans (hb3.mono hs)
      have hs3 := hbel3.size
      have HO3 := Lib.hid hown3
      have HF3 := Lib.hid hlf3
      have HN3 := Lib.hid hnew
      clear hown3 hlf3 hnew hL c0 c1
      have hlen : ∀ o1 o2, ((w3.alloc o1).alloc o2).heap.size = w3.heap.size + 2 := fun _ _ => by simp
      go_wp2_with (at_builtin; refine wpList_append_fits _ rfl (.tmp 22) (.tmp 24) 22 rfl w.heap.size 44 i0 2 Tryz.underlying22 hi hz1 w.heap.size k (fs.length + 12) (frs.flatMap frCells) rfl ((HO3.out.alloc _).alloc _) ⟨w3.heap.size + 1, 0, none⟩ 1 1 [.int .i64 fk, .slice (some ⟨g, 0, none⟩) fd.length (fd.length + 12)] rfl rfl ?c1 (by simp [Value.oneCell']) (by omega) ?_)
      case c1 =>
        have := frame_cells_new (w3.alloc (.cells #[.int .i64 fk, .slice (some ⟨g, 0, none⟩) fd.length (fd.length + 12)] 44)) 44 (.int .i64 fk) (.slice (some ⟨g, 0, none⟩) fd.length (fd.length + 12))
        simpa using this
      intro w4 hown4 hg4
      have hA := (HO3.out.alloc (.cells #[.int .i64 fk, .slice (some ⟨g, 0, none⟩) fd.length (fd.length + 12)] 44)).alloc (.cells #[.int .i64 fk, .slice (some ⟨g, 0, none⟩) fd.length (fd.length + 12)] 44)
      have hBA : Below w3.heap.size w3 ((w3.alloc (.cells #[.int .i64 fk, .slice (some ⟨g, 0, none⟩) fd.length (fd.length + 12)] 44)).alloc (.cells #[.int .i64 fk, .slice (some ⟨g, 0, none⟩) fd.length (fd.length + 12)] 44)) := ((Below.refl _ _).alloc (Nat.le_refl _) _).alloc (by simp) _
      have hlf4 : ∀ f ∈ frs ++ [⟨fk, some ⟨g, 0, none⟩, fd.length + 12, fd⟩], FrLent w4 w.heap.size f := fun f hf => by
        rcases List.mem_append.1 hf with hf | hf
        · exact ((HF3.out f hf).below hBA (Nat.le_refl _)).kept hg4 hA (by decide) rfl
        · rw [List.mem_singleton.1 hf]
          exact (HN3.out.below hBA (Nat.le_refl _)).kept hg4 hA (by decide) rfl
      have hb4 : Below w.heap.size w w4 := (hbel3.trans (hBA.mono hs3)).grown hg4 (by simp; omega) (fun k hk => by cases hk; exact Nat.le_refl _)
      have HF4 := Lib.hid hlf4
      have HO4 := Lib.hid hown4
      clear hlf4 hown4 hg4 hA hBA hlen
      go_wp2_with fail
      go_roundw
      case rel => exact ⟨k + 1, frs ++ [⟨fk, some ⟨g, 0, none⟩, fd.length + 12, fd⟩], by omega, by go_num, rfl, by rw [List.map_append, HM.out, HT.out]; rfl, HF4.out, by rw [List.flatMap_append]; exact HO4.out, hb4⟩
      case measure => simp [intOf]; omega
    · obtain rfl : k = fs.length := by omega
      have hM2 := HM.out
      rw [List.take_length] at hM2
      have HM2 := Lib.hid hM2
      clear hM2
      have hsl : ∀ w', (Instr.sliceAt 22 (.slice (some ⟨w.heap.size, 0, none⟩) (fs.length + 12) (fs.length + 12)) none (some (.int .i64 (fs.length : Int))) none).run Tryz.prog w' = .ok (.slice (some ⟨w.heap.size, 0, none⟩) fs.length (fs.length + 12)) w' := fun w' => by
        have h1 := run_sub_h sliceFrame' sizeFrame' (some ⟨w.heap.size, 0, none⟩) (fs.length + 12) (fs.length + 12) fs.length (by omega) .i64 (fs.length : Int) rfl w'
        rwa [subA_zero _ _ _ (by intro a ha; cases ha; rfl)] at h1
      go_wp2_with fail
      go_loopw [3, 6] (fun v i wr => ∃ q : Nat, q ≤ 12 ∧ i = .int .i64 q ∧ v = .slice (some ⟨w.heap.size, 0, none⟩) (fs.length + q) (fs.length + 12) ∧ (∀ f ∈ frs, FrLent wr w.heap.size f) ∧
        wr.ownsRow w.heap.size 44 2 (.slice (some ⟨w.heap.size, 0, none⟩) (fs.length + q) (fs.length + 12)) (fs.length + q) (frs.flatMap frCells ++ mks mkF 1 q) ∧ Below w.heap.size w wr) (fun _ i _ => 12 - (intOf i).toNat)
      case atStart => exact ⟨0, by omega, rfl, rfl, HF.out, by simpa [mks] using HO.out, hbel⟩
      case round =>
        clear hbel HF HO hs
        obtain ⟨q, hq, rfl, rfl, hlf, hown, hbel⟩ := hrel
        have HF := Lib.hid hlf
        have HO := Lib.hid hown
        clear hlf hown
        have hs := hbel.size
        by_cases hltq : q < 12
        · have i2 : (q : Int) < 12 := by omega
          clear hsl
          go_wp2_with fail
          refine (markF_at 1 _ 1 q (by omega) rfl (by omega) (by omega) wr).mono ?_
          rintro e w3 ⟨rfl, hb3⟩
          have hown3 := own_below HO.out hb3 (Nat.le_refl _)
          have hlf3 : ∀ f ∈ frs, FrLent w3 w.heap.size f := fun f hf => (HF.out f hf).below hb3 (Nat.le_refl _)
          have hbel3 := hbel.trans (hb3.mono hs)
          have hs3 := hbel3.size
          have HO3 := Lib.hid hown3
          have HF3 := Lib.hid hlf3
          clear hown3 hlf3
          go_wp2_with (at_builtin; refine wpList_append_fits _ rfl (.tmp 30) (.tmp 33) 22 rfl w.heap.size 44 i0 2 Tryz.underlying22 hi hz1 w.heap.size (fs.length + q) (fs.length + 12) (frs.flatMap frCells ++ mks mkF 1 q) rfl (HO3.out.alloc _) ⟨w3.heap.size, 0, none⟩ 1 1 [.int .i64 (markN 1 q), .slice none 0 0] rfl rfl (frame_cells_new _ _ _ _) (by simp [Value.oneCell']) (by omega) ?_)
          intro w4 hown4 hg4
          have hA := HO3.out.alloc (.cells #[.int .i64 (markN 1 q), .slice none 0 0] 44)
          have hBA : Below w3.heap.size w3 (w3.alloc (.cells #[.int .i64 (markN 1 q), .slice none 0 0] 44)) := (Below.refl _ _).alloc (Nat.le_refl _) _
          have hlf4 : ∀ f ∈ frs, FrLent w4 w.heap.size f := fun f hf => ((HF3.out f hf).below hBA (Nat.le_refl _)).kept hg4 hA (by decide) rfl
          have hb4 : Below w.heap.size w w4 := (hbel3.trans (hBA.mono hs3)).grown hg4 (by simp; omega) (fun k hk => by cases hk; exact Nat.le_refl _)
          have HF4 := Lib.hid hlf4
          have HO4 := Lib.hid hown4
          clear hlf4 hown4 hg4 hA hBA
          go_wp2_with fail
          go_roundw
          case rel => exact ⟨q + 1, by omega, by go_num, by rw [Nat.add_assoc], HF4.out, by have := HO4.out; rw [mks_succ]; exact this, hb4⟩
          case measure => simp [intOf]; omega
        · obtain rfl : q = 12 := by omega
          go_wp2_with fail
          go_ret
          exact ⟨frs, rfl, HM2.out, HF.out, HO.out, hbel⟩
end Go.Proofs.YtgigfeppaalbcaaGreatDoor
