/- Frames among the arguments; the law's own cap on how much is gone through. Conditions: the frames are read as the row reads them. -/
import Derived.Test.YtgigfeppaalbcaaGreatDoorOpen
import Derived.Test.YtgigfeppaalbcaaGreatDoorPut2
namespace Go.Proofs.YtgigfeppaalbcaaGreatDoor
open Go.RowKit Go.ChangeShapes
set_option maxRecDepth 20000

def FrArg (f : Fr) : Prop := (Lit.int .i64 f.kind).wf = true ∧ (f.ao = none → f.cap = 0) ∧ BytesWf f.data ∧ f.data.length ≤ f.cap ∧ f.cap ≤ maxLen
def frSub (w : World) (B : Nat) (f : Fr) : Prop := BytesIn w B f.ao f.data
theorem cells_f : Tryz.prog.cellsOf 44 = 2 := by kernel_rfl
theorem cells_i : Tryz.prog.cellsOf 3 = 1 := by kernel_rfl
theorem cells_b : Tryz.prog.cellsOf 26 = 1 := by kernel_rfl
theorem cells_u8 : Tryz.prog.cellsOf 5 = 1 := by kernel_rfl
theorem frame_el {H : Type} {enc : TypeId × Value → H} {W : World} {sp : Nat → Bool} {hd : Bool} (cs : List Value) (n : Nat) (y : DataW H) (pl : List MemPlace) (hl : cs.length = 2) (h : DataW.trod enc Tryz.prog W 0 sp hd n 44 cs = some (y, pl)) :
    ∃ x : Fr, frCells x = cs ∧ frSub W W.heap.size x ∧ FrArg x := by
  obtain ⟨c0, c1, rfl⟩ : ∃ c0 c1, cs = [c0, c1] := by
    match cs, hl with
    | [c0, c1], _ => exact ⟨c0, c1, rfl⟩
  obtain ⟨⟨y0, q0⟩, ⟨y1, q1⟩, m, _, _, h0, h1⟩ := trod_struct2 Tryz.underlying44 h
  simp [cells_i, cells_b] at h0 h1
  obtain ⟨k, e0, _, hw⟩ := DataW.trod_int Tryz.underlying3 h0
  obtain ⟨ao, len, cap, e1, h1'⟩ := slice_cell Tryz.underlying26 h1
  obtain ⟨xs, rfl, hx, hbw, hn, hc, hm⟩ := open_bytes Tryz.underlying26 Tryz.underlying5 cells_u8 h1'
  simp at e0 e1
  subst e0 e1
  exact ⟨⟨k, ao, cap, xs⟩, rfl, hx, hw, hn, hbw, hc, hm⟩
theorem rows_frames {w : World} {B : Nat} {ao : Option Addr} {fs : List Fr} (h : RowsIn 2 frCells frSub w B ao fs) : FramesIn w B ao fs := by
  rcases h with h | ⟨b, off, h1, h2, h3⟩
  · exact Or.inl h
  · refine Or.inr ⟨b, off, h1, h2, fun i hi => ?_⟩
    have e : fs.getD i Fr.zero = fs[i] := by simp [List.getD, List.getElem?_eq_getElem hi]
    obtain ⟨g1, g2⟩ := h3 i _ (List.getElem?_eq_getElem hi)
    rw [e]
    exact ⟨g1 0 (by decide), g1 1 (by decide), g2⟩
theorem open_frames {H : Type} {enc : TypeId × Value → H} {W : World} {sp : Nat → Bool} {hd : Bool} {ao : Option Addr} {len cap : Nat} {d : DataW H} {p : List MemPlace} (h : DataW.Trod enc Tryz.prog W 0 sp hd 22 (.slice ao len cap) d p) :
    ∃ fs : List Fr, fs.length = len ∧ FramesIn W W.heap.size ao fs ∧ (∀ f ∈ fs, FrArg f) ∧ (ao = none → cap = 0) ∧ len ≤ cap ∧ cap ≤ maxLen := by
  obtain ⟨h1, h2, h3⟩ := slice_shape Tryz.underlying22 h
  obtain ⟨fs, hl, hx, hq, _⟩ := open_rows (k := 2) (cells := frCells) (sub := frSub) FrArg Tryz.underlying22 cells_f (by decide) frame_el h
  exact ⟨fs, hl.symm, rows_frames hx, hq, h3, h1, h2⟩
theorem putB_pairs (fs : List Fr) : putP (fs.map Fr.pair) = putB fs := by
  unfold putP putB
  induction fs with
  | nil => rfl
  | cons f fs ih => rw [List.map_cons, List.flatMap_cons, List.flatMap_cons, ih]; rfl
theorem putB_mem {fs : List Fr} {f : Fr} (h : f ∈ fs) : 9 + f.data.length ≤ (putB fs).length := by
  induction fs with
  | nil => cases h
  | cons g fs ih =>
    have e : putB (g :: fs) = frameB g.kind g.data ++ putB fs := rfl
    rw [e, List.length_append, frameB_len]
    rcases List.mem_cons.1 h with rfl | h
    · omega
    · have := ih h; omega
theorem putB_count (fs : List Fr) : 9 * fs.length ≤ (putB fs).length := by
  induction fs with
  | nil => simp
  | cons g fs ih =>
    have e : putB (g :: fs) = frameB g.kind g.data ++ putB fs := rfl
    rw [e, List.length_append, frameB_len, List.length_cons]
    omega

set_option maxHeartbeats 1000000 in
theorem great_any (ao : Option Addr) (n cap : Nat) (fs : List Fr) (w : World) (hn : fs.length = n) (hx : FramesIn w w.heap.size ao fs) (hq : ∀ f ∈ fs, FrArg f) (hl : n ≤ 1099511627776000) :
    Calls Tryz.prog 6 #[.slice ao n cap] w fun e w' => e = .returned (.bool (decide (20000 < (putB fs).length))) ∧ w = w' := by
  subst hn
  have HX := Lib.hid hx
  have HQ := Lib.hid hq
  clear hx hq
  go_enter Tryz.func6, Tryz.ntmps6
  go_wp2_with fail
  go_loopw [3, 4] (fun v i wr => wr = w ∧ ∃ k m : Nat, k ≤ fs.length ∧ i = .int .i64 k ∧ v = .int .i64 m ∧ m = (putB (fs.take k)).length ∧ m ≤ 40018) (fun _ i _ => fs.length - (intOf i).toNat)
  case atStart => exact ⟨rfl, 0, 0, by omega, rfl, rfl, by simp [putB], by decide⟩
  case round =>
    obtain ⟨rfl, k, m, hk, rfl, rfl, hm, hm4⟩ := hrel
    have HM := Lib.hid hm
    clear hm
    by_cases hlt : k < fs.length
    · have i1 : (k : Int) < fs.length := by omega
      rcases HX.out with h0 | ⟨b, off, rfl, hb, hc⟩
      · rw [h0] at hlt; simp at hlt
      obtain ⟨_, c1, _⟩ := hc k hlt
      have hmem : fs.getD k Fr.zero ∈ fs := by simp [List.getD, List.getElem?_eq_getElem hlt]
      have htk : fs.take (k + 1) = fs.take k ++ [fs.getD k Fr.zero] := by rw [List.take_succ_eq_append_getElem hlt]; simp [List.getD, List.getElem?_eq_getElem hlt]
      have hput : (putB (fs.take (k + 1))).length = (putB (fs.take k)).length + (9 + (fs.getD k Fr.zero).data.length) := by
        rw [htk, putB_snoc, List.length_append, frameB_len]
      have hbig : (putB (fs.take (k + 1))).length ≤ (putB fs).length := putB_take fs (k + 1)
      have hfa := HQ.out _ hmem
      generalize fs.getD k Fr.zero = f at c1 hput hfa
      obtain ⟨fk, fa, fc, fd⟩ := f
      obtain ⟨_, _, _, hfl, hfm⟩ := hfa
      dsimp only at c1 hput hfl hfm
      unfold maxLen at hfm
      rw [← HM.out] at hput
      have HP := Lib.hid hput
      have HG := Lib.hid hbig
      clear hc htk hput hbig hmem
      by_cases h1 : 20000 < fd.length
      · have i2 : (20000 : Int) < fd.length := by omega
        have hr : decide (20000 < (putB fs).length) = true := by have := HP.out; have := HG.out; simp; omega
        have HR := Lib.hid hr
        clear hr
        go_wp2_with fail
        go_ret
        exact ⟨ret_bool HR.out.symm, rfl⟩
      · have i2 : ¬ (20000 : Int) < fd.length := by omega
        by_cases h2 : 20000 < m
        · have i3 : (20000 : Int) < m := by omega
          have hr : decide (20000 < (putB fs).length) = true := by have := HP.out; have := HG.out; simp; omega
          have HR := Lib.hid hr
          clear hr
          go_wp2_with fail
          go_ret
          exact ⟨ret_bool HR.out.symm, rfl⟩
        · have i3 : ¬ (20000 : Int) < m := by omega
          go_wp2_with fail
          go_roundw
          case rel => exact ⟨trivial, k + 1, m + (9 + fd.length), by omega, by go_num, by go_num, HP.out.symm, by omega⟩
          case measure => simp [intOf]; omega
    · obtain rfl : k = fs.length := by omega
      have hm2 := HM.out
      rw [List.take_length] at hm2
      have HM2 := Lib.hid hm2
      clear hm2
      by_cases h2 : 20000 < m
      · have i3 : (20000 : Int) < m := by omega
        have hr : decide (20000 < (putB fs).length) = true := by have := HM2.out; simp; omega
        have HR := Lib.hid hr
        clear hr
        go_wp2_with fail
        go_ret
        exact ⟨ret_bool HR.out.symm, rfl⟩
      · have i3 : ¬ (20000 : Int) < m := by omega
        have hr : decide (20000 < (putB fs).length) = false := by have := HM2.out; simp; omega
        have HR := Lib.hid hr
        clear hr
        go_wp2_with fail
        go_ret
        exact ⟨ret_bool HR.out.symm, rfl⟩
end Go.Proofs.YtgigfeppaalbcaaGreatDoor
