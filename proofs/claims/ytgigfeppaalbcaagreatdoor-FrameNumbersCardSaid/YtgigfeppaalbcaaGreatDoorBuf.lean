/- The frame's writer: what it writes stands behind what it held. Conditions: the buffer holds bytes, and has only been written. -/
import Derived.Test.YtgigfeppaalbcaaGreatDoorLentBytes
import Derived.Test.YtgigfeppaalbcaaGreatDoorSum
import Derived.Test.YtgigfeppaalbcaaGreatDoorScanPlain
import Derived.Test.YtgigfeppaalbcaaGreatDoorShelf
import Derived.StillTailTactics
namespace Go.Proofs.YtgigfeppaalbcaaGreatDoor
open Go.RowKit
set_option maxRecDepth 20000

/-- Block b is a writer that holds these bytes. -/
def BufIs (w : World) (B b : Nat) (bs : List Int) : Prop := LibA.IsBuffer 55 (fun _ => none) 5 B b 0 (bs.map bv) w

theorem writeByte_any (B b : Nat) (bs : List Int) (c : Int) (w : World) (h : BufIs w B b bs) (hBw : B ≤ w.heap.size) (hlim : bs.length + 1 ≤ 140737488355328) :
    Calls Tryz.prog 41 #[.pointer (some ⟨b, 0, none⟩), .int .u8 c] w fun e w' => e = .returned .nilIface ∧ BufIs w' B b (bs ++ [c]) ∧ Below B w w' ∧ Lib.OthersKept 5 (some b) w w' := by
  refine (Tryz.Buffer_WriteByte_at _ _ B b 0 _ c w h hBw (bytes_oneCell _) (by simpa using hlim)).mono ?_
  rintro e w' ⟨h1, h2, h3, h4⟩
  exact ⟨h1, by unfold BufIs; rw [List.map_append]; exact h2, h3, h4⟩

theorem four_any (B b : Nat) (bs : List Int) (n : Nat) (w : World) (hn : n < 4294967296) (h : BufIs w B b bs) (hBw : B ≤ w.heap.size) (hlim : bs.length + 4 ≤ 140737488355328) :
    Calls Tryz.prog 40 #[.pointer (some ⟨b, 0, none⟩), .int .u32 n] w fun e w' => e = .returned (.tuple #[]) ∧ BufIs w' B b (bs ++ fourB n) ∧ Below B w w' ∧ Lib.OthersKept 5 (some b) w w' := by
  go_enter Tryz.func40, Tryz.ntmps40
  go_wp2_with fail
  go_loopw [5, 14] (fun _ i wr => ∃ k : Nat, k ≤ 4 ∧ i = .int .i64 k ∧ BufIs wr B b (bs ++ (fourB n).take k) ∧ Below B w wr ∧ Lib.OthersKept 5 (some b) w wr) (fun _ i _ => 4 - (intOf i).toNat)
  case atStart => exact ⟨0, by omega, rfl, by simpa using h, Below.refl _ _, Lib.OthersKept.refl _ _ _⟩
  case round =>
    obtain ⟨k, hk, rfl, hbuf, hbel, hoth⟩ := hrel
    have hs := hbel.size
    have hlen : ∀ k : Nat, ((fourB n).take k).length ≤ 4 := fun k => Nat.le_trans (List.length_take_le' _ _) (by simp [fourB])
    obtain rfl | rfl | rfl | rfl | rfl : k = 0 ∨ k = 1 ∨ k = 2 ∨ k = 3 ∨ k = 4 := by omega
    · rw [show ((0 : Nat) : Int) = 0 from rfl]
      have i0 : ∀ w, (Instr.index 129 (.agg #[.int .u32 ((n : Int) / 16777216), .int .u32 ((n : Int) / 65536), .int .u32 ((n : Int) / 256), .int .u32 (n : Int)]) (.int .i64 0)).run Tryz.prog w = .ok (.int .u32 ((n : Int) / 16777216)) w := fun _ => by kernel_rfl
      go_wp2_with fail
      refine (writeByte_any B b _ _ _ hbuf (by omega) (by simp [fourB]; omega)).mono ?_
      rintro e w2 ⟨rfl, hb2, hW2, hO2⟩
      go_wp2_with fail
      go_roundw
      case rel => exact ⟨1, by omega, by go_num, by simpa [fourB] using hb2, hbel.trans hW2, hoth.trans hO2⟩
      case measure => simp [intOf]
    · rw [show ((1 : Nat) : Int) = 1 from rfl]
      have i0 : ∀ w, (Instr.index 129 (.agg #[.int .u32 ((n : Int) / 16777216), .int .u32 ((n : Int) / 65536), .int .u32 ((n : Int) / 256), .int .u32 (n : Int)]) (.int .i64 1)).run Tryz.prog w = .ok (.int .u32 ((n : Int) / 65536)) w := fun _ => by kernel_rfl
      go_wp2_with fail
      refine (writeByte_any B b _ _ _ hbuf (by omega) (by simp [fourB]; omega)).mono ?_
      rintro e w2 ⟨rfl, hb2, hW2, hO2⟩
      go_wp2_with fail
      go_roundw
      case rel => exact ⟨2, by omega, by go_num, by simpa [fourB] using hb2, hbel.trans hW2, hoth.trans hO2⟩
      case measure => simp [intOf]
    · rw [show ((2 : Nat) : Int) = 2 from rfl]
      have i0 : ∀ w, (Instr.index 129 (.agg #[.int .u32 ((n : Int) / 16777216), .int .u32 ((n : Int) / 65536), .int .u32 ((n : Int) / 256), .int .u32 (n : Int)]) (.int .i64 2)).run Tryz.prog w = .ok (.int .u32 ((n : Int) / 256)) w := fun _ => by kernel_rfl
      go_wp2_with fail
      refine (writeByte_any B b _ _ _ hbuf (by omega) (by simp [fourB]; omega)).mono ?_
      rintro e w2 ⟨rfl, hb2, hW2, hO2⟩
      go_wp2_with fail
      go_roundw
      case rel => exact ⟨3, by omega, by go_num, by simpa [fourB] using hb2, hbel.trans hW2, hoth.trans hO2⟩
      case measure => simp [intOf]
    · rw [show ((3 : Nat) : Int) = 3 from rfl]
      have i0 : ∀ w, (Instr.index 129 (.agg #[.int .u32 ((n : Int) / 16777216), .int .u32 ((n : Int) / 65536), .int .u32 ((n : Int) / 256), .int .u32 (n : Int)]) (.int .i64 3)).run Tryz.prog w = .ok (.int .u32 ((n : Int))) w := fun _ => by kernel_rfl
      go_wp2_with fail
      refine (writeByte_any B b _ _ _ hbuf (by omega) (by simp [fourB]; omega)).mono ?_
      rintro e w2 ⟨rfl, hb2, hW2, hO2⟩
      go_wp2_with fail
      go_roundw
      case rel => exact ⟨4, by omega, by go_num, by simpa [fourB] using hb2, hbel.trans hW2, hoth.trans hO2⟩
      case measure => simp [intOf]
    · rw [show ((4 : Nat) : Int) = 4 from rfl]
      go_wp2_with fail
      go_end0
      exact ⟨rfl, by simpa [fourB] using hbuf, hbel, hoth⟩

theorem write_empty (B b : Nat) (bs : List Int) (ao : Option Addr) (cap : Nat) (w : World) (h : BufIs w B b bs) (hBw : B ≤ w.heap.size) :
    Calls Tryz.prog 42 #[.pointer (some ⟨b, 0, none⟩), .slice ao 0 cap] w fun e w' => e = .returned (.tuple #[.int .i64 0, .nilIface]) ∧ BufIs w' B b bs ∧ Below B w w' ∧ Lib.OthersKept 5 (some b) w w' := by
  go_enter Tryz.func42, Tryz.ntmps42
  have h1 : BufIs (w.setCell ⟨b, 2, none⟩ (.int .i8 0)) B b bs := LibA.IsBuffer.setLast h 0
  have hb1 : Below B w (w.setCell ⟨b, 2, none⟩ (.int .i8 0)) := (Below.refl B w).setCell (p := ⟨b, 2, none⟩) h.1 _
  have ho1 : Lib.OthersKept 5 (some b) w (w.setCell ⟨b, 2, none⟩ (.int .i8 0)) := (Lib.OthersKept.refl _ _ w).setCell ⟨b, 2, none⟩ rfl _
  obtain ⟨hBb, v, lr, h3, hown, hvb⟩ := h
  have c2 := h3.c2
  have f2 := h3.f (0 + 2)
  have hcp := fun (d : Option Addr) (dl dc : Nat) (w : World) => run_copy_none (P := Tryz.prog) w 26 26 3 5 d ao dl dc 0 cap Tryz.underlying26 (by kernel_rfl) (Nat.zero_min _)
  clear h3 hown
  go_wp2_with fail
  generalize w.setCell ⟨b, 2, none⟩ (.int .i8 0) = w1 at h1 hb1 ho1 ⊢
  refine (Tryz.Buffer_tryGrow_at _ _ B b 0 0 _ w1 h1).mono ?_
  rintro e w2 (⟨rfl, ys, hy, h2, hB2, hO2, _⟩ | ⟨_, _, _, l, c, _, hlt⟩)
  · obtain rfl := List.eq_nil_of_length_eq_zero hy
    rw [List.append_nil] at h2
    have h5 : BufIs w2 B b bs := h2
    obtain ⟨_, v', lr', k3, kown, _⟩ := h2
    have hfm : ∃ g c, v' = .slice g bs.length c ∧ bs.length ≤ c := by
      rcases kown.2 with ⟨rfl, h⟩ | ⟨g, cap, cur, rfl, _, _, h1, h2, _⟩
      · have : bs.length = 0 := by simpa using h
        exact ⟨none, 0, by rw [this], by omega⟩
      · exact ⟨some ⟨g, 0, none⟩, cap, by rw [List.length_map], by simpa using h1⟩
    obtain ⟨g, c, rfl, hlc⟩ := hfm
    have c0 := k3.c0
    have hlen : (bs.map bv).length = bs.length := by simp
    rw [hlen]
    clear k3 kown
    go_wp2_with fail
    all_goals
      go_ret2
      exact ⟨rfl, h5, hb1.trans hB2, ho1.trans hO2⟩
  · omega

theorem write_any (B b : Nat) (bs : List Int) (ao : Option Addr) (cap : Nat) (data : List Int) (w : World) (h : BufIs w B b bs) (hBw : B ≤ w.heap.size) (hd : BytesIn w B ao data) (hao : ao = none → cap = 0) (hlim : bs.length + data.length ≤ 140737488355328) :
    Calls Tryz.prog 42 #[.pointer (some ⟨b, 0, none⟩), .slice ao data.length cap] w fun e w' => e = .returned (.tuple #[.int .i64 data.length, .nilIface]) ∧ BufIs w' B b (bs ++ data) ∧ Below B w w' ∧ Lib.OthersKept 5 (some b) w w' := by
  have hBb : B ≤ b := h.1
  rcases hd with rfl | ⟨bb, off, rfl, hb, hc⟩
  · refine (write_empty B b bs ao cap w h hBw).mono ?_
    rintro e w' ⟨h1, h2, h3, h4⟩
    exact ⟨h1, by simpa using h2, h3, h4⟩
  · refine (Tryz.Buffer_Write_at _ _ B b 0 _ (data.map bv) ⟨bb, off, none⟩ data.length cap w h hBw (bytes_oneCell _) (by simp) (by show bb ≠ b; omega) (fun j u hu => cells_of_bytes (Or.inr ⟨bb, off, rfl, hb, hc⟩) (Below.refl B w) rfl hu) (bytes_oneCell _) (by simpa using hlim)).mono ?_
    rintro e w' ⟨h1, h2, h3, h4⟩
    exact ⟨h1, by unfold BufIs; rw [List.map_append]; exact h2, h3, h4⟩


theorem frame_any (B b : Nat) (bs : List Int) (kind : Int) (ao : Option Addr) (cap : Nat) (data : List Int) (w : World) (hk : 0 ≤ kind ∧ kind < 256) (hd : BytesIn w B ao data) (hwd : BytesWf data) (hao : ao = none → cap = 0) (h : BufIs w B b bs) (hBw : B ≤ w.heap.size) (hl : data.length ≤ 4294967295) (hlim : bs.length + data.length + 9 ≤ 140737488355328) :
    Calls Tryz.prog 26 #[.pointer (some ⟨b, 0, none⟩), .agg #[.int .i64 kind, .slice ao data.length cap]] w fun e w' => e = .returned (.tuple #[]) ∧ BufIs w' B b (bs ++ frameB kind data) ∧ Below B w w' ∧ Lib.OthersKept 5 (some b) w w' := by
  have HD := Lib.hid hd
  clear hd
  have hbl : b < w.heap.size := h.lt
  have fr : (w.alloc (.cells #[.int .i64 kind, .slice ao data.length cap] 44)).heap[w.heap.size]? = some (.cells #[.int .i64 kind, .slice ao data.length cap] 44 (0, 0)) := heap_alloc_new w _
  have h0 : BufIs (w.alloc (.cells #[.int .i64 kind, .slice ao data.length cap] 44)) B b bs := LibA.IsBuffer.alloc h _
  have hb0 := (Below.refl B w).alloc hBw (.cells #[.int .i64 kind, .slice ao data.length cap] 44)
  have ho0 := (Lib.OthersKept.refl 5 (some b) w).alloc (.cells #[.int .i64 kind, .slice ao data.length cap] 44)
  have hz0 : (w.alloc (.cells #[.int .i64 kind, .slice ao data.length cap] 44)).heap.size = w.heap.size + 1 := by simp
  have hne : some w.heap.size ≠ some b := by simp; omega
  have hty : ∀ c fz, Obj.cells #[.int .i64 kind, .slice ao data.length cap] 44 (0, 0) ≠ .cells c 5 fz := by intro c fz h; injection h with _ h2 _; cases h2
  go_enter Tryz.func26, Tryz.ntmps26
  go_wp2_with fail
  generalize w.alloc (.cells #[.int .i64 kind, .slice ao data.length cap] 44) = w0 at fr h0 hb0 ho0 hz0 ⊢
  refine (four_any B b bs data.length w0 (by omega) h0 (by omega) (by omega)).mono ?_
  rintro e w1 ⟨rfl, h1, hB1, hO1⟩
  have fr1 := hO1 _ _ fr hne hty
  have hs1 := hB1.size
  go_wp2_with fail
  refine (writeByte_any B b _ kind w1 h1 (by omega) (by simp [fourB]; omega)).mono ?_
  rintro e w2 ⟨rfl, h2, hB2, hO2⟩
  have fr2 := hO2 _ _ fr1 hne hty
  have c2 : w2.cell? ⟨w.heap.size, 1, none⟩ = some (.slice ao data.length cap) := by rw [Lib.cell_of_heap fr2]; rfl
  have BB2 : Below B w w2 := (hb0.trans hB1).trans hB2
  have OO2 := (ho0.trans hO1).trans hO2
  have hD2 := HD.out.below BB2 (Nat.le_refl _)
  have hs2 := hB2.size
  have c3 : ∀ o, (w2.alloc o).cell? ⟨w.heap.size, 1, none⟩ = some (.slice ao data.length cap) := fun o => (((Below.refl w2.heap.size w2).alloc (Nat.le_refl _) o).cell (p := ⟨w.heap.size, 1, none⟩) (show w.heap.size < w2.heap.size by omega)).trans c2
  have hao' := hao
  go_wp2_with (at_builtin; refine wpList_append_bytes rfl (.tmp 21) (.tmp 23) rfl w2.heap.size _ [kind] rfl (World.ownsRow_lit w2 #[.int .u8 kind] 1 (Nat.le_refl _) (by unfold maxLen; omega) rfl) ao cap data rfl B (hD2.below ((Below.refl B w2).alloc (by omega) _) (Nat.le_refl _)) hao' (by simp; omega) (by simp) ?_)
  intro v3 w3 hown3 hg3
  have hb3 : Below w2.heap.size w2 w3 := ((Below.refl w2.heap.size w2).alloc (Nat.le_refl _) _).grown hg3 (by simp) (fun k hk => by cases hk; exact Nat.le_refl _)
  obtain ⟨a3, cap3, hv3, hD3⟩ := own_bytes (l := kind :: data) hown3
  subst hv3
  have hs3 := hb3.size
  have fr3 := (hb3.block w.heap.size (by omega)).trans fr2
  have h3 : BufIs w3 B b _ := LibA.IsBuffer.old h2 hb3
  have BB3 := BB2.trans (hb3.mono (by omega))
  have OO3 := OO2.below hb3
  have hw3 : BytesWf (kind :: data) := by
    intro x hx
    rcases List.mem_cons.1 hx with hx | hx
    · rw [hx]; exact hk
    · exact hwd x hx
  clear hown3 hg3 c2 c3
  go_wp2_with fail
  refine (sum_any a3 cap3 (kind :: data) w3 _ hD3 hw3 (by simp; omega)).mono ?_
  rintro e w' ⟨rfl, rfl⟩
  go_wp2_with fail
  refine (four_any B b _ _ w3 (sumS_lt hw3) h3 (by omega) (by simp [fourB]; omega)).mono ?_
  rintro e w4 ⟨rfl, h4, hB4, hO4⟩
  have hs4 := hB4.size
  have fr4 := hO4 _ _ fr3 hne hty
  have BB4 := BB3.trans hB4
  have OO4 := OO3.trans hO4
  have c4 : w4.cell? ⟨w.heap.size, 1, none⟩ = some (.slice ao data.length cap) := by rw [Lib.cell_of_heap fr4]; rfl
  have hD4 := HD.out.below BB4 (Nat.le_refl _)
  have hBb : B ≤ b := h.1
  clear hb0 ho0 hB1 hO1 hB2 hO2 hB4 hO4 BB2 BB3 OO2 OO3 fr fr1 fr2 fr3 fr4
  go_wp2_with fail
  go_still_tail 5, (by kernel_rfl)
  change wpList _ _ _ _ _ w4.drew
  have h4' : BufIs w4.drew B b _ := h4
  have hD4' : BytesIn w4.drew B ao data := hD4
  have BB4' : Below B w w4.drew := BB4.drew
  have OO4' : Lib.OthersKept 5 (some b) w w4.drew := OO4
  have hs4' : w4.drew.heap.size = w4.heap.size := rfl
  generalize w4.drew = w6 at h4' hD4' BB4' OO4' hs4' ⊢
  clear c4
  go_wp2_with fail
  refine (write_any B b _ ao cap data w6 h4' (by omega) hD4' hao (by simp [fourB]; omega)).mono ?_
  rintro e w5 ⟨rfl, h5, hB5, hO5⟩
  go_wp2_with fail
  go_end0
  exact ⟨rfl, by simpa [frameB] using h5, BB4'.trans hB5, OO4'.trans hO5⟩
end Go.Proofs.YtgigfeppaalbcaaGreatDoor
