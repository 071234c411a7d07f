/- The sum of bytes, of the program and of its reference. Conditions: the slice's cells lie as its reading says. -/
import Derived.Test.YtejgebpdipnhmaaGreatDoorGSnapNumbers0
import Derived.Test.YtejgebpdipnhmaaGreatDoorGSnapNumbers2
import Derived.Test.YtejgebpdipnhmaaGreatDoorGSnapNumbers1
import Derived.Test.YtejgebpdipnhmaaGreatDoorGSnapNumbers3
import Derived.StillTailTactics
set_option linter.unusedVariables false
set_option linter.unusedSimpArgs false
namespace Go.Proofs.YtejgebpdipnhmaaGreatDoor
open Go.RowKit
set_option maxRecDepth 20000
theorem sum_any (ao : Option Addr) (cap : Nat) (xs : List Int) (w : World) (B : Nat) (hx : BytesIn w B ao xs) (hw : BytesWf xs) (hl : xs.length ≤ 4611686018427387904) :
    Calls Tryz.prog 67 #[.slice ao xs.length cap] w fun e w' => e = .returned (.int .u32 (sumS xs)) ∧ w = w' := by
  have HX := Lib.hid hx
  clear hx
  go_enter Tryz.func67, Tryz.ntmps67
  go_wp2_with fail
  go_loopw [3, 5, 8] (fun v _ i wr => wr = w ∧ ∃ (k : Nat) (z : Nat), k ≤ xs.length ∧ i = .int .i64 k ∧ v = .int .u32 z ∧ z = sumTo xs k ∧ z < 4294967296) (fun _ _ i _ => xs.length - (intOf i).toNat)
  case atStart => exact ⟨rfl, 0, 4294967295, by omega, rfl, rfl, rfl, by decide⟩
  case round =>
    obtain ⟨rfl, k, z, hk, rfl, rfl, hz, h1⟩ := hrel
    have HZ := Lib.hid hz
    clear hz
    by_cases hlt : k < xs.length
    · have i1 : (k : Int) < xs.length := by omega
      rcases HX.out with h0 | ⟨b, off, rfl, hb, hc⟩
      · rw [h0] at hlt; simp at hlt
      have c0 := hc k hlt
      have hxw := hw _ (bytes_mem hlt)
      have hst := sumTo_succ hlt
      obtain ⟨x, hxe⟩ : ∃ x, x = xs.getD k 0 := ⟨_, rfl⟩
      rw [← hxe] at c0 hxw hst
      rw [← HZ.out] at hst
      have HS := Lib.hid hst
      have HB := Lib.hid (byte_in h1 hxw)
      have h2 := Nat.xor_lt_two_pow (n := 32) (x := z) (y := x.toNat) (by omega) (by omega)
      clear hxe hc hst
      go_wp2_with fail
      go_loopw [3, 16] (fun v i wx => wx = wr ∧ ∃ (j : Nat), j ≤ 8 ∧ i = .int .i64 j ∧ v = .int .u32 (itN j (z ^^^ x.toNat))) (fun _ i _ => 8 - (intOf i).toNat)
      case atStart => exact ⟨rfl, 0, by omega, rfl, congrArg (Value.int .u32) HB.out⟩
      case round =>
        obtain ⟨rfl, j, hj, rfl, rfl⟩ := hrel
        by_cases hlj : j < 8
        · have i2 : (j : Int) < 8 := by omega
          have h3 := itN_lt h2 j
          have HQ := Lib.hid (bit_prog h3)
          have HR := Lib.hid (show itN (j + 1) (z ^^^ x.toNat) = bitN (itN j (z ^^^ x.toNat)) from rfl)
          generalize itN j (z ^^^ x.toNat) = u at h3 HQ HR ⊢
          go_wp2_with fail
          go_roundw
          case rel => exact ⟨trivial, j + 1, by omega, by go_num, congrArg (Value.int .u32) (by rw [HR.out]; exact HQ.out)⟩
          case measure => simp [intOf]; omega
        · obtain rfl : j = 8 := by omega
          have h3 := itN_lt h2 8
          have HR := Lib.hid (show byteN z x = itN 8 (z ^^^ x.toNat) from rfl)
          generalize itN 8 (z ^^^ x.toNat) = u at h3 HR ⊢
          go_wp2_with fail
          go_roundw
          case rel => exact ⟨trivial, k + 1, u, by omega, by go_num, rfl, by rw [HS.out, HR.out], h3⟩
          case measure => simp [intOf]; omega
    · obtain rfl : k = xs.length := by omega
      have H5 := Lib.hid (u32_not h1)
      go_wp2_with fail
      go_ret
      exact ⟨congrArg (fun n => Ending.returned (.int .u32 n)) (by rw [H5.out]; unfold sumS; rw [HZ.out]), rfl⟩
theorem rsum_any (ao : Option Addr) (cap : Nat) (xs : List Int) (w : World) (B : Nat) (hx : BytesIn w B ao xs) (hw : BytesWf xs) (hl : xs.length ≤ 4611686018427387904) :
    Calls Tryz.prog 83 #[.slice ao xs.length cap] w fun e w' => e = .returned (.int .u32 (sumS xs)) ∧ w = w' := by
  have HX := Lib.hid hx
  clear hx
  go_enter Tryz.func83, Tryz.ntmps83
  go_wp2_with fail
  go_loopw [3, 4, 5, 6] (fun v i _ _ wr => wr = w ∧ ∃ (k : Nat) (z : Nat), k ≤ xs.length ∧ i = .int .i64 k ∧ v = .int .u32 z ∧ z = sumTo xs k ∧ z < 4294967296) (fun _ i _ _ _ => xs.length - (intOf i).toNat)
  case atStart => exact ⟨rfl, 0, 4294967295, by omega, rfl, rfl, rfl, by decide⟩
  case round =>
    obtain ⟨rfl, k, z, hk, rfl, rfl, hz, h1⟩ := hrel
    have HZ := Lib.hid hz
    clear hz
    by_cases hlt : k < xs.length
    · have i1 : (k : Int) < xs.length := by omega
      rcases HX.out with h0 | ⟨b, off, rfl, hb, hc⟩
      · rw [h0] at hlt; simp at hlt
      have c0 := hc k hlt
      have hxw := hw _ (bytes_mem hlt)
      have hst := sumTo_succ hlt
      obtain ⟨x, hxe⟩ : ∃ x, x = xs.getD k 0 := ⟨_, rfl⟩
      rw [← hxe] at c0 hxw hst
      rw [← HZ.out] at hst
      have HS := Lib.hid hst
      have HB := Lib.hid (byte_in h1 hxw)
      have h2 := Nat.xor_lt_two_pow (n := 32) (x := z) (y := x.toNat) (by omega) (by omega)
      clear hxe hc hst
      go_wp2_with fail
      go_loopw [3, 5, 6] (fun v i _ wx => wx = wr ∧ ∃ (j : Nat), j ≤ 8 ∧ i = .int .i64 j ∧ v = .int .u32 (itN j (z ^^^ x.toNat))) (fun _ i _ _ => 8 - (intOf i).toNat)
      case atStart => exact ⟨rfl, 0, by omega, rfl, congrArg (Value.int .u32) HB.out⟩
      case round =>
        obtain ⟨rfl, j, hj, rfl, rfl⟩ := hrel
        by_cases hlj : j < 8
        · have i2 : (j : Int) < 8 := by omega
          have h3 := itN_lt h2 j
          have HR := Lib.hid (show itN (j + 1) (z ^^^ x.toNat) = bitN (itN j (z ^^^ x.toNat)) from rfl)
          generalize itN j (z ^^^ x.toNat) = u at h3 HR ⊢
          have ha := and_one u h3
          by_cases hu : u % 2 = 1
          · have HQ := Lib.hid (bit_ref1 h3 hu)
            rw [hu] at ha
            go_wp2_with fail
            go_roundw
            case rel => exact ⟨trivial, j + 1, by omega, by go_num, congrArg (Value.int .u32) (by rw [HR.out]; exact HQ.out)⟩
            case measure => simp [intOf]; omega
          · have HQ := Lib.hid (bit_ref0 hu)
            rw [show u % 2 = 0 by omega] at ha
            go_wp2_with fail
            go_roundw
            case rel => exact ⟨trivial, j + 1, by omega, by go_num, congrArg (Value.int .u32) (by rw [HR.out]; exact HQ.out)⟩
            case measure => simp [intOf]; omega
        · obtain rfl : j = 8 := by omega
          have h3 := itN_lt h2 8
          have HR := Lib.hid (show byteN z x = itN 8 (z ^^^ x.toNat) from rfl)
          generalize itN 8 (z ^^^ x.toNat) = u at h3 HR ⊢
          go_wp2_with fail
          go_roundw
          case rel => exact ⟨trivial, k + 1, u, by omega, by go_num, rfl, by rw [HS.out, HR.out], h3⟩
          case measure => simp [intOf]; omega
    · obtain rfl : k = xs.length := by omega
      have H5 := Lib.hid (u32_not h1)
      go_wp2_with fail
      go_ret
      exact ⟨congrArg (fun n => Ending.returned (.int .u32 n)) (by rw [H5.out]; unfold sumS; rw [HZ.out]), rfl⟩
end Go.Proofs.YtejgebpdipnhmaaGreatDoor
/- The frame's writer: what it writes stands behind what it held. Conditions: the buffer holds bytes, and has only been written. -/
namespace Go.Proofs.YtejgebpdipnhmaaGreatDoor
open Go.RowKit
set_option maxRecDepth 20000
/-- Block b is a writer that holds these bytes. -/
def BufF (w : World) (B b : Nat) (bs : List Int) : Prop := LibA.IsBuffer 109 (fun _ => none) 5 B b 0 (bs.map bv) w
theorem writeByteF_any (B b : Nat) (bs : List Int) (c : Int) (w : World) (h : BufF w B b bs) (hBw : B ≤ w.heap.size) (hlim : bs.length + 1 ≤ 140737488355328) :
    Calls Tryz.prog 114 #[.pointer (some ⟨b, 0, none⟩), .int .u8 c] w fun e w' => e = .returned .nilIface ∧ BufF w' B b (bs ++ [c]) ∧ Below B w w' ∧ Lib.OthersKept 5 (some b) w w' := by
  refine (Tryz.Buffer_WriteByte_at _ _ B b 0 _ c w h hBw (bytes_oneCell _) (by simpa using hlim)).mono ?_
  rintro e w' ⟨h1, h2, h3, h4⟩
  exact ⟨h1, by unfold BufF; rw [List.map_append]; exact h2, h3, h4⟩
theorem four_any (B b : Nat) (bs : List Int) (n : Nat) (w : World) (hn : n < 4294967296) (h : BufF w B b bs) (hBw : B ≤ w.heap.size) (hlim : bs.length + 4 ≤ 140737488355328) :
    Calls Tryz.prog 113 #[.pointer (some ⟨b, 0, none⟩), .int .u32 n] w fun e w' => e = .returned (.tuple #[]) ∧ BufF w' B b (bs ++ fourB n) ∧ Below B w w' ∧ Lib.OthersKept 5 (some b) w w' := by
  go_enter Tryz.func113, Tryz.ntmps113
  go_wp2_with fail
  go_loopw [5, 14] (fun _ i wr => ∃ k : Nat, k ≤ 4 ∧ i = .int .i64 k ∧ BufF wr B b (bs ++ (fourB n).take k) ∧ Below B w wr ∧ Lib.OthersKept 5 (some b) w wr) (fun _ i _ => 4 - (intOf i).toNat)
  case atStart => exact ⟨0, by omega, rfl, by simpa using h, Below.refl _ _, Lib.OthersKept.refl _ _ _⟩
  case round =>
    obtain ⟨k, hk, rfl, hbuf, hbel, hoth⟩ := hrel
    have hs := hbel.size
    have hlen : ∀ k : Nat, ((fourB n).take k).length ≤ 4 := fun k => Nat.le_trans (List.length_take_le' _ _) (by simp [fourB])
    obtain rfl | rfl | rfl | rfl | rfl : k = 0 ∨ k = 1 ∨ k = 2 ∨ k = 3 ∨ k = 4 := by omega
    · rw [show ((0 : Nat) : Int) = 0 from rfl]
      have i0 : ∀ w, (Instr.index 313 (.agg #[.int .u32 ((n : Int) / 16777216), .int .u32 ((n : Int) / 65536), .int .u32 ((n : Int) / 256), .int .u32 (n : Int)]) (.int .i64 0)).run Tryz.prog w = .ok (.int .u32 ((n : Int) / 16777216)) w := fun _ => by kernel_rfl
      go_wp2_with fail
      refine (writeByteF_any B b _ _ _ hbuf (by omega) (by simp [fourB]; omega)).mono ?_
      rintro e w2 ⟨rfl, hb2, hW2, hO2⟩
      go_wp2_with fail
      go_roundw
      case rel => exact ⟨1, by omega, by go_num, by simpa [fourB] using hb2, hbel.trans hW2, hoth.trans hO2⟩
      case measure => simp [intOf]
    · rw [show ((1 : Nat) : Int) = 1 from rfl]
      have i0 : ∀ w, (Instr.index 313 (.agg #[.int .u32 ((n : Int) / 16777216), .int .u32 ((n : Int) / 65536), .int .u32 ((n : Int) / 256), .int .u32 (n : Int)]) (.int .i64 1)).run Tryz.prog w = .ok (.int .u32 ((n : Int) / 65536)) w := fun _ => by kernel_rfl
      go_wp2_with fail
      refine (writeByteF_any B b _ _ _ hbuf (by omega) (by simp [fourB]; omega)).mono ?_
      rintro e w2 ⟨rfl, hb2, hW2, hO2⟩
      go_wp2_with fail
      go_roundw
      case rel => exact ⟨2, by omega, by go_num, by simpa [fourB] using hb2, hbel.trans hW2, hoth.trans hO2⟩
      case measure => simp [intOf]
    · rw [show ((2 : Nat) : Int) = 2 from rfl]
      have i0 : ∀ w, (Instr.index 313 (.agg #[.int .u32 ((n : Int) / 16777216), .int .u32 ((n : Int) / 65536), .int .u32 ((n : Int) / 256), .int .u32 (n : Int)]) (.int .i64 2)).run Tryz.prog w = .ok (.int .u32 ((n : Int) / 256)) w := fun _ => by kernel_rfl
      go_wp2_with fail
      refine (writeByteF_any B b _ _ _ hbuf (by omega) (by simp [fourB]; omega)).mono ?_
      rintro e w2 ⟨rfl, hb2, hW2, hO2⟩
      go_wp2_with fail
      go_roundw
      case rel => exact ⟨3, by omega, by go_num, by simpa [fourB] using hb2, hbel.trans hW2, hoth.trans hO2⟩
      case measure => simp [intOf]
    · rw [show ((3 : Nat) : Int) = 3 from rfl]
      have i0 : ∀ w, (Instr.index 313 (.agg #[.int .u32 ((n : Int) / 16777216), .int .u32 ((n : Int) / 65536), .int .u32 ((n : Int) / 256), .int .u32 (n : Int)]) (.int .i64 3)).run Tryz.prog w = .ok (.int .u32 ((n : Int))) w := fun _ => by kernel_rfl
      go_wp2_with fail
      refine (writeByteF_any B b _ _ _ hbuf (by omega) (by simp [fourB]; omega)).mono ?_
      rintro e w2 ⟨rfl, hb2, hW2, hO2⟩
      go_wp2_with fail
      go_roundw
      case rel => exact ⟨4, by omega, by go_num, by simpa [fourB] using hb2, hbel.trans hW2, hoth.trans hO2⟩
      case measure => simp [intOf]
    · rw [show ((4 : Nat) : Int) = 4 from rfl]
      go_wp2_with fail
      go_end0
      exact ⟨rfl, by simpa [fourB] using hbuf, hbel, hoth⟩
theorem write_empty (B b : Nat) (bs : List Int) (ao : Option Addr) (cap : Nat) (w : World) (h : BufF w B b bs) (hBw : B ≤ w.heap.size) :
    Calls Tryz.prog 115 #[.pointer (some ⟨b, 0, none⟩), .slice ao 0 cap] w fun e w' => e = .returned (.tuple #[.int .i64 0, .nilIface]) ∧ BufF w' B b bs ∧ Below B w w' ∧ Lib.OthersKept 5 (some b) w w' := by
  go_enter Tryz.func115, Tryz.ntmps115
  have h1 : BufF (w.setCell ⟨b, 2, none⟩ (.int .i8 0)) B b bs := LibA.IsBuffer.setLast h 0
  have hb1 : Below B w (w.setCell ⟨b, 2, none⟩ (.int .i8 0)) := (Below.refl B w).setCell (p := ⟨b, 2, none⟩) h.1 _
  have ho1 : Lib.OthersKept 5 (some b) w (w.setCell ⟨b, 2, none⟩ (.int .i8 0)) := (Lib.OthersKept.refl _ _ w).setCell ⟨b, 2, none⟩ rfl _
  obtain ⟨hBb, v, lr, h3, hown, hvb⟩ := h
  have c2 := h3.c2
  have f2 := h3.f (0 + 2)
  have hcp := fun (d : Option Addr) (dl dc : Nat) (w : World) => run_copy_none (P := Tryz.prog) w 24 24 3 5 d ao dl dc 0 cap Tryz.underlying24 (by kernel_rfl) (Nat.zero_min _)
  clear h3 hown
  go_wp2_with fail
  generalize w.setCell ⟨b, 2, none⟩ (.int .i8 0) = w1 at h1 hb1 ho1 ⊢
  refine (Tryz.Buffer_tryGrow_at _ _ B b 0 0 _ w1 h1).mono ?_
  rintro e w2 (⟨rfl, ys, hy, h2, hB2, hO2, _⟩ | ⟨_, _, _, l, c, _, hlt⟩)
  · obtain rfl := List.eq_nil_of_length_eq_zero hy
    rw [List.append_nil] at h2
    have h5 : BufF w2 B b bs := h2
    obtain ⟨_, v', lr', k3, kown, _⟩ := h2
    have hfm : ∃ g c, v' = .slice g bs.length c ∧ bs.length ≤ c := by
      rcases kown.2 with ⟨rfl, h⟩ | ⟨g, cap, cur, rfl, _, _, h1, h2, _⟩
      · have : bs.length = 0 := by simpa using h
        exact ⟨none, 0, by rw [this], by omega⟩
      · exact ⟨some ⟨g, 0, none⟩, cap, by rw [List.length_map], by simpa using h1⟩
    obtain ⟨g, c, rfl, hlc⟩ := hfm
    have c0 := k3.c0
    have hlen : (bs.map bv).length = bs.length := by simp
    rw [hlen]
    clear k3 kown
    go_wp2_with fail
    all_goals
      go_ret2
      exact ⟨rfl, h5, hb1.trans hB2, ho1.trans hO2⟩
  · omega
theorem write_any (B b : Nat) (bs : List Int) (ao : Option Addr) (cap : Nat) (data : List Int) (w : World) (h : BufF w B b bs) (hBw : B ≤ w.heap.size) (hd : BytesIn w B ao data) (hao : ao = none → cap = 0) (hlim : bs.length + data.length ≤ 140737488355328) :
    Calls Tryz.prog 115 #[.pointer (some ⟨b, 0, none⟩), .slice ao data.length cap] w fun e w' => e = .returned (.tuple #[.int .i64 data.length, .nilIface]) ∧ BufF w' B b (bs ++ data) ∧ Below B w w' ∧ Lib.OthersKept 5 (some b) w w' := by
  have hBb : B ≤ b := h.1
  rcases hd with rfl | ⟨bb, off, rfl, hb, hc⟩
  · refine (write_empty B b bs ao cap w h hBw).mono ?_
    rintro e w' ⟨h1, h2, h3, h4⟩
    exact ⟨h1, by simpa using h2, h3, h4⟩
  · refine (Tryz.Buffer_Write_at _ _ B b 0 _ (data.map bv) ⟨bb, off, none⟩ data.length cap w h hBw (bytes_oneCell _) (by simp) (by show bb ≠ b; omega) (fun j u hu => cells_of_bytes (Or.inr ⟨bb, off, rfl, hb, hc⟩) (Below.refl B w) rfl hu) (bytes_oneCell _) (by simpa using hlim)).mono ?_
    rintro e w' ⟨h1, h2, h3, h4⟩
    exact ⟨h1, by unfold BufF; rw [List.map_append]; exact h2, h3, h4⟩
theorem frame_any (B b : Nat) (bs : List Int) (kind : Int) (ao : Option Addr) (cap : Nat) (data : List Int) (w : World) (hk : 0 ≤ kind ∧ kind < 256) (hd : BytesIn w B ao data) (hwd : BytesWf data) (hao : ao = none → cap = 0) (h : BufF w B b bs) (hBw : B ≤ w.heap.size) (hl : data.length ≤ 4294967295) (hlim : bs.length + data.length + 9 ≤ 140737488355328) :
    Calls Tryz.prog 49 #[.pointer (some ⟨b, 0, none⟩), .agg #[.int .i64 kind, .slice ao data.length cap]] w fun e w' => e = .returned (.tuple #[]) ∧ BufF w' B b (bs ++ frameB kind data) ∧ Below B w w' ∧ Lib.OthersKept 5 (some b) w w' := by
  have HD := Lib.hid hd
  clear hd
  have hbl : b < w.heap.size := h.lt
  have fr : (w.alloc (.cells #[.int .i64 kind, .slice ao data.length cap] 46)).heap[w.heap.size]? = some (.cells #[.int .i64 kind, .slice ao data.length cap] 46 (0, 0)) := heap_alloc_new w _
  have h0 : BufF (w.alloc (.cells #[.int .i64 kind, .slice ao data.length cap] 46)) B b bs := LibA.IsBuffer.alloc h _
  have hb0 := (Below.refl B w).alloc hBw (.cells #[.int .i64 kind, .slice ao data.length cap] 46)
  have ho0 := (Lib.OthersKept.refl 5 (some b) w).alloc (.cells #[.int .i64 kind, .slice ao data.length cap] 46)
  have hz0 : (w.alloc (.cells #[.int .i64 kind, .slice ao data.length cap] 46)).heap.size = w.heap.size + 1 := by simp
  have hne : some w.heap.size ≠ some b := by simp; omega
  have hty : ∀ c fz, Obj.cells #[.int .i64 kind, .slice ao data.length cap] 46 (0, 0) ≠ .cells c 5 fz := by intro c fz h; injection h with _ h2 _; cases h2
  go_enter Tryz.func49, Tryz.ntmps49
  go_wp2_with fail
  generalize w.alloc (.cells #[.int .i64 kind, .slice ao data.length cap] 46) = w0 at fr h0 hb0 ho0 hz0 ⊢
  refine (four_any B b bs data.length w0 (by omega) h0 (by omega) (by omega)).mono ?_
  rintro e w1 ⟨rfl, h1, hB1, hO1⟩
  have fr1 := hO1 _ _ fr hne hty
  have hs1 := hB1.size
  go_wp2_with fail
  refine (writeByteF_any B b _ kind w1 h1 (by omega) (by simp [fourB]; omega)).mono ?_
  rintro e w2 ⟨rfl, h2, hB2, hO2⟩
  have fr2 := hO2 _ _ fr1 hne hty
  have c2 : w2.cell? ⟨w.heap.size, 1, none⟩ = some (.slice ao data.length cap) := by rw [Lib.cell_of_heap fr2]; rfl
  have BB2 : Below B w w2 := (hb0.trans hB1).trans hB2
  have OO2 := (ho0.trans hO1).trans hO2
  have hD2 := HD.out.below BB2 (Nat.le_refl _)
  have hs2 := hB2.size
  have c3 : ∀ o, (w2.alloc o).cell? ⟨w.heap.size, 1, none⟩ = some (.slice ao data.length cap) := fun o => (((Below.refl w2.heap.size w2).alloc (Nat.le_refl _) o).cell (p := ⟨w.heap.size, 1, none⟩) (show w.heap.size < w2.heap.size by omega)).trans c2
  have hao' := hao
  go_wp2_with (at_builtin; refine wpList_append_bytes rfl (.tmp 21) (.tmp 23) rfl w2.heap.size _ [kind] rfl (World.ownsRow_lit w2 #[.int .u8 kind] 1 (Nat.le_refl _) (by unfold maxLen; omega) rfl) ao cap data rfl B (hD2.below ((Below.refl B w2).alloc (by omega) _) (Nat.le_refl _)) hao' (by simp; omega) (by simp) ?_)
  intro v3 w3 hown3 hg3
  have hb3 : Below w2.heap.size w2 w3 := ((Below.refl w2.heap.size w2).alloc (Nat.le_refl _) _).grown hg3 (by simp) (fun k hk => by cases hk; exact Nat.le_refl _)
  obtain ⟨a3, cap3, hv3, hD3⟩ := own_bytes (l := kind :: data) hown3
  subst hv3
  have hs3 := hb3.size
  have fr3 := (hb3.block w.heap.size (by omega)).trans fr2
  have h3 : BufF w3 B b _ := LibA.IsBuffer.old h2 hb3
  have BB3 := BB2.trans (hb3.mono (by omega))
  have OO3 := OO2.below hb3
  have hw3 : BytesWf (kind :: data) := by
    intro x hx
    rcases List.mem_cons.1 hx with hx | hx
    · rw [hx]; exact hk
    · exact hwd x hx
  clear hown3 hg3 c2 c3
  go_wp2_with fail
  refine (sum_any a3 cap3 (kind :: data) w3 _ hD3 hw3 (by simp; omega)).mono ?_
  rintro e w' ⟨rfl, rfl⟩
  go_wp2_with fail
  refine (four_any B b _ _ w3 (sumS_lt hw3) h3 (by omega) (by simp [fourB]; omega)).mono ?_
  rintro e w4 ⟨rfl, h4, hB4, hO4⟩
  have hs4 := hB4.size
  have fr4 := hO4 _ _ fr3 hne hty
  have BB4 := BB3.trans hB4
  have OO4 := OO3.trans hO4
  have c4 : w4.cell? ⟨w.heap.size, 1, none⟩ = some (.slice ao data.length cap) := by rw [Lib.cell_of_heap fr4]; rfl
  have hD4 := HD.out.below BB4 (Nat.le_refl _)
  have hBb : B ≤ b := h.1
  clear hb0 ho0 hB1 hO1 hB2 hO2 hB4 hO4 BB2 BB3 OO2 OO3 fr fr1 fr2 fr3 fr4
  go_wp2_with fail
  go_still_tail 5, (by kernel_rfl)
  change wpList _ _ _ _ _ w4.drew
  have h4' : BufF w4.drew B b _ := h4
  have hD4' : BytesIn w4.drew B ao data := hD4
  have BB4' : Below B w w4.drew := BB4.drew
  have OO4' : Lib.OthersKept 5 (some b) w w4.drew := OO4
  have hs4' : w4.drew.heap.size = w4.heap.size := rfl
  generalize w4.drew = w6 at h4' hD4' BB4' OO4' hs4' ⊢
  clear c4
  go_wp2_with fail
  refine (write_any B b _ ao cap data w6 h4' (by omega) hD4' hao (by simp [fourB]; omega)).mono ?_
  rintro e w5 ⟨rfl, h5, hB5, hO5⟩
  go_wp2_with fail
  go_end0
  exact ⟨rfl, by simpa [frameB] using h5, BB4'.trans hB5, OO4'.trans hO5⟩
end Go.Proofs.YtejgebpdipnhmaaGreatDoor
/- bytes.Clone: a row of its own with the same bytes; nil for nil. Conditions: the slice's cells lie as its reading says. -/
namespace Go.Proofs.YtejgebpdipnhmaaGreatDoor
open Go.RowKit
set_option maxRecDepth 20000
def ClonePostF (xs : List Int) (w : World) (e : Ending) (w' : World) : Prop :=
  ∃ v, e = .returned v ∧ w'.ownsRow w.heap.size 5 1 v xs.length (xs.map bv) ∧ Below w.heap.size w w'
theorem clone_anyF (ao : Option Addr) (cap : Nat) (xs : List Int) (w : World) (B : Nat) (hx : BytesIn w B ao xs) (hB : B ≤ w.heap.size) (hao : ao = none → cap = 0) (hl : xs.length ≤ 140737488351232) :
    Calls Tryz.prog 34 #[.slice ao xs.length cap] w (ClonePostF xs w) := by
  cases ao with
  | none =>
    have hnil : xs = [] := by
      rcases hx with h | ⟨b, off, h1, _⟩
      · exact h
      · cases h1
    subst hnil
    obtain rfl := hao rfl
    have he : ∀ w, (binOp .eql 24 (.slice none 0 0) (.slice none 0 0)).run Tryz.prog w = .ok (.bool true) w := fun _ => by kernel_rfl
    go_enter Tryz.func34, Tryz.ntmps34
    go_wp2_with fail
    go_ret
    exact ⟨_, rfl, World.ownsRow_nil _ _ _ _, Below.refl _ _⟩
  | some ad =>
    have he : ∀ w, (binOp .eql 24 (.slice (some ad) xs.length cap) (.slice none 0 0)).run Tryz.prog w = .ok (.bool false) w := fun _ => by kernel_rfl
    go_enter Tryz.func34, Tryz.ntmps34
    go_wp2_with (at_builtin; refine wpList_append_bytes rfl (.tmp 5) (.tmp 6) rfl w.heap.size _ [] rfl (World.ownsRow_lit w #[] 0 (Nat.le_refl _) (by unfold maxLen; omega) rfl) (some ad) cap xs rfl B (hx.below ((Below.refl B w).alloc hB _) (Nat.le_refl _)) (by simp) (by simp; omega) (by simp) ?_)
    intro v' w' hown hg
    have hb := ((Below.refl w.heap.size w).alloc (Nat.le_refl _) (.cells #[] 5)).grown hg (by simp) (fun k hk => by cases hk; exact Nat.le_refl _)
    clear hg he
    go_wp2_with fail
    go_ret
    exact ⟨_, rfl, by simpa using hown, hb⟩
end Go.Proofs.YtejgebpdipnhmaaGreatDoor
/- frame.Put: the frames' bytes, or that some is none. Conditions: the frames' cells lie as their reading says. -/
namespace Go.Proofs.YtejgebpdipnhmaaGreatDoor
open Go.RowKit
set_option maxRecDepth 20000
/-- What the writer holds, told. -/
theorem bytes_ofF (B b : Nat) (bs : List Int) (w : World) (h : BufF w B b bs) :
    Calls Tryz.prog 50 #[.pointer (some ⟨b, 0, none⟩)] w fun e w' => ∃ v, e = .returned v ∧ w'.ownsRow B 5 1 v bs.length (bs.map bv) ∧ Below w.heap.size w w' := by
  obtain ⟨hBb, v, lr, h3, hown, hvb⟩ := h
  rw [List.length_map] at hown
  have HO := Lib.hid hown
  have hfm : ∃ g c, v = .slice g bs.length c ∧ bs.length ≤ c ∧ (g = none → c = 0) := by
    rcases hown.2 with ⟨rfl, h⟩ | ⟨g, cap, cur, rfl, _, _, h1, h2, _⟩
    · exact ⟨none, 0, by rw [h], by omega, fun _ => rfl⟩
    · exact ⟨some ⟨g, 0, none⟩, cap, rfl, h1, by simp⟩
  obtain ⟨g, c, rfl, hlc, hg⟩ := hfm
  have c0 := h3.c0
  have c1 := h3.c1
  clear h3 hown
  go_enter Tryz.func50, Tryz.ntmps50
  go_wp2_with fail
  go_quiet (fail)
  go_wp2_with fail
  go_ret
  exact ⟨_, rfl, HO.out, below_drewN (Below.refl _ _) _⟩
/-- A frame as it lies in memory: its kind, and its slice of bytes. -/
structure Fr where
  kind : Int
  ao : Option Addr
  cap : Nat
  data : List Int
def Fr.zero : Fr := ⟨0, none, 0, []⟩
/-- The frames fs lie behind the slice's address, all in blocks below B. -/
def FramesIn (w : World) (B : Nat) (ao : Option Addr) (fs : List Fr) : Prop :=
  fs = [] ∨ ∃ b off, ao = some ⟨b, off, none⟩ ∧ b < B ∧ ∀ i, i < fs.length →
    w.cell? ⟨b, off + i * 2, none⟩ = some (.int .i64 (fs.getD i Fr.zero).kind) ∧
    w.cell? ⟨b, off + i * 2 + 1, none⟩ = some (.slice (fs.getD i Fr.zero).ao (fs.getD i Fr.zero).data.length (fs.getD i Fr.zero).cap) ∧
    BytesIn w B (fs.getD i Fr.zero).ao (fs.getD i Fr.zero).data
def FrWf (f : Fr) : Prop := (Lit.int .i64 f.kind).wf = true ∧ (f.ao = none → f.cap = 0) ∧ BytesWf f.data ∧ f.data.length ≤ 140737488351232
/-- What Put tells of frames: 0, or the error of the first that is none. -/
def putE : List Fr → Int
  | [] => 0
  | f :: fs => if f.kind < 0 ∨ 255 < f.kind then 2 else if 1048576 < f.data.length then 3 else putE fs
def putB (fs : List Fr) : List Int := fs.flatMap fun f => frameB f.kind f.data
/-- Is it a frame that may be? -/
def okF (f : Fr) : Prop := 0 ≤ f.kind ∧ f.kind ≤ 255 ∧ f.data.length ≤ 1048576
theorem putE_ok : ∀ {fs : List Fr}, (∀ f ∈ fs, okF f) → putE fs = 0 := by
  intro fs
  induction fs with
  | nil => intro _; rfl
  | cons f fs ih =>
    intro h
    have h1 := h f List.mem_cons_self
    unfold okF at h1
    unfold putE
    rw [if_neg (by omega), if_neg (by omega)]
    exact ih (fun x hx => h x (List.mem_cons_of_mem _ hx))
theorem putE_at : ∀ {fs : List Fr} {k : Nat}, k < fs.length → (∀ f ∈ fs.take k, okF f) → ¬ okF (fs.getD k Fr.zero) → putE fs = if (fs.getD k Fr.zero).kind < 0 ∨ 255 < (fs.getD k Fr.zero).kind then 2 else 3 := by
  intro fs
  induction fs with
  | nil => intro k h; simp at h
  | cons f fs ih =>
    intro k hk h hb
    cases k with
    | zero =>
      have e : (f :: fs).getD 0 Fr.zero = f := rfl
      rw [e] at hb ⊢
      unfold okF at hb
      unfold putE
      split
      · rfl
      · rw [if_pos (by omega)]
    | succ k =>
      have e : (f :: fs).getD (k + 1) Fr.zero = fs.getD k Fr.zero := rfl
      rw [e] at hb ⊢
      have h1 := h f (by simp)
      unfold okF at h1
      unfold putE
      rw [if_neg (by omega), if_neg (by omega)]
      exact ih (by simpa using hk) (fun x hx => h x (by simp [hx])) hb
end Go.Proofs.YtejgebpdipnhmaaGreatDoor
/- Frames that a call has made: a row of them, the bytes of each in a block of its own. Conditions: as each says. -/
namespace Go.Proofs.YtejgebpdipnhmaaGreatDoor
open Go.RowKit
set_option maxRecDepth 20000
def Fr.pair (f : Fr) : Int × List Int := (f.kind, f.data)
def frCells (f : Fr) : List Value := [.int .i64 f.kind, .slice f.ao f.data.length f.cap]
def dataOwn (w : World) (base : Nat) (f : Fr) : Prop := w.ownsRow base 5 1 (.slice f.ao f.data.length f.cap) f.data.length (f.data.map bv)
def Fr.blk (f : Fr) : Option Nat := (Value.slice f.ao f.data.length f.cap).ownBlock
/-- The frames that a row made here holds. -/
def FramesOwn (w : World) (base : Nat) (v : Value) (frs : List Fr) : Prop :=
  w.ownsRow base 46 2 v frs.length (frs.flatMap frCells) ∧ (∀ f ∈ frs, dataOwn w base f) ∧ frs.Pairwise fun f g => f.blk = none ∨ f.blk ≠ g.blk
theorem FramesOwn.below {w w' : World} {base B : Nat} {v : Value} {frs : List Fr} (h : FramesOwn w base v frs) (hb : Below B w w') (hB : w.heap.size ≤ B) : FramesOwn w' base v frs :=
  ⟨own_below h.1 hb hB, fun f hf => own_below (h.2.1 f hf) hb hB, h.2.2⟩
theorem FramesOwn.nil (w : World) (base : Nat) : FramesOwn w base (.slice none 0 0) [] := ⟨World.ownsRow_nil _ _ _ _, by simp, List.Pairwise.nil⟩
theorem frCells_len (x : Fr) : (frCells x).length = 2 := rfl
/-- A frame more. -/
theorem FramesOwn.snoc {w w1 w2 w3 : World} {base : Nat} {v v' : Value} {frs : List Fr} {f : Fr} (h : FramesOwn w base v frs) (hB : base ≤ w.heap.size) (hb : Below w.heap.size w w1) (hd : dataOwn w1 w.heap.size f) (hb2 : Below w1.heap.size w1 w2)
    (hown : w3.ownsRow base 46 2 v' (frs.length + 1) (frs.flatMap frCells ++ frCells f)) (hg : w2.grownBy w3 v.ownBlock) : FramesOwn w3 base v' (frs ++ [f]) := by
  have k1 := h.1
  have h1 := (own_below (own_below h.1 hb (Nat.le_refl _)) hb2 (Nat.le_refl _))
  refine ⟨by rw [List.length_append, List.flatMap_append]; simpa using hown, ?_, ?_⟩
  · intro x hx
    rcases List.mem_append.1 hx with hx | hx
    · have h2 := (own_below (own_below (h.2.1 x hx) hb (Nat.le_refl _)) hb2 (Nat.le_refl _))
      exact World.ownsRow.kept h2 hg (own_apart h2 h1 (by decide))
    · obtain rfl := List.mem_singleton.1 hx
      have h2 := own_below hd hb2 (Nat.le_refl _)
      exact Go.Joins.ownsRow_le (World.ownsRow.kept h2 hg (own_apart h2 h1 (by decide))) hB
  · refine List.pairwise_append.2 ⟨h.2.2, List.pairwise_singleton _ _, fun x hx y hy => ?_⟩
    obtain rfl := List.mem_singleton.1 hy
    rcases hxb : x.blk with _ | g
    · exact Or.inl rfl
    · right
      have := ((h.2.1 x hx).lt g hxb).2
      intro hh
      have := (World.ownsRow.lt hd g hh.symm).1
      omega
/-- What is owned, as frames that lie. -/
theorem FramesOwn.lie {w : World} {base : Nat} {v : Value} {frs : List Fr} (h : FramesOwn w base v frs) : ∃ ao cap, v = .slice ao frs.length cap ∧ frs.length ≤ cap ∧ (ao = none → cap = 0) ∧ FramesIn w w.heap.size ao frs := by
  have h0 := h.1
  rcases Go.Joins.ownsRow_forms h.1 with ⟨rfl, hz⟩ | ⟨g, cap', rfl⟩
  · exact ⟨none, 0, by rw [hz], by omega, fun _ => rfl, Or.inl (List.eq_nil_of_length_eq_zero hz)⟩
  · have hg := (ownsRow_lt' h0).2
    have hc : frs.length ≤ cap' := by
      rcases h0.2 with ⟨h', _⟩ | ⟨g', c', cur, h', _, _, h3, _⟩
      · cases h'
      · cases h'; exact h3
    refine ⟨_, _, rfl, hc, by simp, Or.inr ⟨g, 0, rfl, hg, fun i hi => ?_⟩⟩
    have e : frs.getD i Fr.zero = frs[i] := by simp [List.getD, List.getElem?_eq_getElem hi]
    have hx : frs[i]? = some frs[i] := List.getElem?_eq_getElem hi
    have f0 := flat_get (k := 2) frCells_len frs i _ hx 0 (by decide)
    have f1 := flat_get (k := 2) frCells_len frs i _ hx 1 (by decide)
    have hd := h.2.1 frs[i] (List.getElem_mem hi)
    obtain ⟨a', c', hv', hB'⟩ := own_bytes hd
    rw [e, Nat.zero_add, World.ownsRow.cellAt h0 _ (by omega), World.ownsRow.cellAt h0 _ (by omega)]
    refine ⟨f0, f1, ?_⟩
    injection hv' with e1 e2 e3
    rw [e1]; exact hB'
end Go.Proofs.YtejgebpdipnhmaaGreatDoor
/- frame.Put: the frames' bytes, or that some is none. Conditions: the frames' cells lie as their reading says. -/
namespace Go.Proofs.YtejgebpdipnhmaaGreatDoor
open Go.RowKit
set_option maxRecDepth 20000
theorem putB_snoc (fs : List Fr) (f : Fr) : putB (fs ++ [f]) = putB fs ++ frameB f.kind f.data := by simp [putB]
theorem putB_take (fs : List Fr) (k : Nat) : (putB (fs.take k)).length ≤ (putB fs).length := by
  conv => rhs; rw [← List.take_append_drop k fs]
  unfold putB
  rw [List.flatMap_append, List.length_append]
  omega
def PutPost (fs : List Fr) (w : World) (e : Ending) (w' : World) : Prop :=
  ∃ v, e = .returned (.tuple #[v, .int .i64 (putE fs)]) ∧ (putE fs = 0 → w'.ownsRow w.heap.size 5 1 v (putB fs).length ((putB fs).map bv)) ∧ (putE fs ≠ 0 → v = .slice none 0 0) ∧ Below w.heap.size w w'
theorem putF_any (ao : Option Addr) (cap : Nat) (fs : List Fr) (w : World) (hx : FramesIn w w.heap.size ao fs) (hw : ∀ f ∈ fs, FrWf f) (hl : (putB fs).length ≤ 140737488351232) (hn : fs.length ≤ 1099511627776) :
    Calls Tryz.prog 18 #[.slice ao fs.length cap] w (PutPost fs w) := by
  have HX := Lib.hid hx
  clear hx
  go_enter Tryz.func18, Tryz.ntmps18
  go_wp2_with fail
  have hbuf0 : BufF (w.alloc (.cells #[.slice none 0 0, .int .i64 0, .int .i8 0] 109)) w.heap.size w.heap.size [] := LibA.zero_isBuffer (Nat.le_refl _) (lr := 0) ⟨_, heap_alloc_new w _, rfl, rfl, rfl, fun i hi => by rcases hi with hi | hi; omega; exact Array.getElem?_eq_none (by simpa using hi)⟩
  have hb0 := (Below.refl w.heap.size w).alloc (Nat.le_refl _) (.cells #[.slice none 0 0, .int .i64 0, .int .i8 0] 109)
  have hz0 : (w.alloc (.cells #[.slice none 0 0, .int .i64 0, .int .i8 0] 109)).heap.size = w.heap.size + 1 := by simp
  generalize w.alloc (.cells #[.slice none 0 0, .int .i64 0, .int .i8 0] 109) = w0 at hbuf0 hb0 hz0 ⊢
  go_loopw [6, 9] (fun _ i wr => ∃ k : Nat, k ≤ fs.length ∧ i = .int .i64 k ∧ (∀ f ∈ fs.take k, okF f) ∧ BufF wr w.heap.size w.heap.size (putB (fs.take k)) ∧ Below w.heap.size w wr) (fun _ i _ => fs.length - (intOf i).toNat)
  case atStart => exact ⟨0, by omega, rfl, by simp, hbuf0, hb0⟩
  case round =>
    obtain ⟨k, hk, rfl, hok, hbuf, hbel⟩ := hrel
    have HOK := Lib.hid hok
    clear hok hbuf0 hb0
    have hs := hbel.size
    by_cases hlt : k < fs.length
    · rcases HX.out with h0 | ⟨bb, off, rfl, hb, hc⟩
      · rw [h0] at hlt; simp at hlt
      obtain ⟨c0, c1, hD⟩ := hc k hlt
      rw [← hbel.cell (p := ⟨bb, _, none⟩) hb] at c0 c1
      clear hc
      have hfw := hw (fs.getD k Fr.zero) (by simp [List.getD, List.getElem?_eq_getElem hlt])
      have HE := Lib.hid (putE_at hlt HOK.out)
      have htk : fs.take (k + 1) = fs.take k ++ [fs.getD k Fr.zero] := by rw [List.take_succ_eq_append_getElem hlt]; simp [List.getD, List.getElem?_eq_getElem hlt]
      have HT := Lib.hid htk
      clear htk
      obtain ⟨f, hfe⟩ : ∃ f, f = fs.getD k Fr.zero := ⟨_, rfl⟩
      rw [← hfe] at c0 c1 hD hfw HE HT
      clear hfe
      obtain ⟨fk, fa, fc, fd⟩ := f
      obtain ⟨w1, hfa, hfd, hfl⟩ := hfw
      dsimp only at c0 c1 hD w1 hfa hfd hfl
      have i1 : (k : Int) < fs.length := by omega
      have hbig : (putB (fs.take (k + 1))).length ≤ (putB fs).length := putB_take fs (k + 1)
      rw [HT.out, putB_snoc, List.length_append, frameB_len] at hbig
      dsimp only at hbig
      have hbA := hbel.alloc hs (.cells #[.int .i64 fk, .slice fa fd.length fc] 46)
      by_cases hkk : fk < 0
      · have hE := HE.out (by unfold okF; dsimp only; omega)
        rw [if_pos (by dsimp only; omega)] at hE
        have HE' := Lib.hid hE
        clear hE
        go_wp2_with fail
        go_ret2
        exact ⟨_, by rw [HE'.out]; rfl, by rw [HE'.out]; omega, fun _ => rfl, hbA⟩
      · by_cases hkk2 : 255 < fk
        · have hE := HE.out (by unfold okF; dsimp only; omega)
          rw [if_pos (by dsimp only; omega)] at hE
          have HE' := Lib.hid hE
          clear hE
          go_wp2_with fail
          go_ret2
          exact ⟨_, by rw [HE'.out]; rfl, by rw [HE'.out]; omega, fun _ => rfl, hbA⟩
        · by_cases hlen : 1048576 < fd.length
          · have hE := HE.out (by unfold okF; dsimp only; omega)
            rw [if_neg (by dsimp only; omega)] at hE
            have HE' := Lib.hid hE
            clear hE
            have i2 : (1048576 : Int) < fd.length := by omega
            go_wp2_with fail
            go_ret2
            exact ⟨_, by rw [HE'.out]; rfl, by rw [HE'.out]; omega, fun _ => rfl, hbA⟩
          · have i2 : ¬ (1048576 : Int) < fd.length := by omega
            have hbufA : BufF (wr.alloc (.cells #[.int .i64 fk, .slice fa fd.length fc] 46)) w.heap.size w.heap.size (putB (fs.take k)) := LibA.IsBuffer.alloc hbuf _
            have hDA := hD.below hbA (Nat.le_refl _)
            have hsA := hbA.size
            go_wp2_with fail
            refine (frame_any w.heap.size w.heap.size _ fk fa fc fd _ (by omega) hDA hfd hfa hbufA hsA (by omega) (by omega)).mono ?_
            rintro e w3 ⟨rfl, hb3, hB3, _⟩
            go_wp2_with fail
            go_roundw
            case rel => exact ⟨k + 1, by omega, by go_num, by rw [HT.out]; intro f hf; rcases List.mem_append.1 hf with hf | hf; exact HOK.out f hf; rw [List.mem_singleton.1 hf]; unfold okF; dsimp only; omega, by rw [HT.out, putB_snoc]; exact hb3, hbA.trans hB3⟩
            case measure => simp [intOf]; omega
    · obtain rfl : k = fs.length := by omega
      have hok := HOK.out
      rw [List.take_length] at hok hbuf
      have H0 := Lib.hid (putE_ok hok)
      clear hok
      go_wp2_with fail
      refine (bytes_ofF _ _ _ _ hbuf).mono ?_
      rintro e w2 ⟨v, rfl, hown2, hb2⟩
      have hao2 := fun ao2 n cap2 (h : v = .slice ao2 n cap2) => own_none (h ▸ hown2)
      obtain ⟨ao2, cap2, hv2, hD2⟩ := own_bytes hown2
      have hao3 := hao2 _ _ _ hv2
      subst hv2
      have hbel2 := hbel.trans (hb2.mono hs)
      clear hown2 hao2
      have hs2 := hbel2.size
      go_wp2_with fail
      refine (clone_anyF ao2 cap2 (putB fs) w2 _ hD2 (Nat.le_refl _) hao3 (by omega)).mono ?_
      rintro e w3 ⟨v3, rfl, hown3, hb3⟩
      have hown4 := Go.Joins.ownsRow_le hown3 hs2
      have hbel3 := hbel2.trans (hb3.mono hs2)
      clear hown3
      go_wp2_with fail
      go_ret2
      exact ⟨v3, by rw [H0.out]; rfl, fun _ => hown4, fun h => absurd H0.out h, hbel3⟩
end Go.Proofs.YtejgebpdipnhmaaGreatDoor
/- Steps of a region that draws its order, guarded operations and loads included, each taken by its number, in worlds of which something is kept. Any program. Conditions: as each says. -/
namespace Go.Proofs.YtejgebpdipnhmaaGreatDoor
open Go.RowKit
variable {P : Program} {md : Region.Mode} {ops : Array Oper} {Q : Exit → Act → World → Prop} {S : World → Prop}
theorem takeS_no (i : Nat) {oi : Oper} {fuel : Nat} {listed : Array Bool} {a : Act} {w : World} (hi : ops.toList[i]? = some oi) (hs : Region.noSelect ops = true) (hf : Region.free md ops listed i = true) (hr : (Region.ready md ops listed).contains i = true)
    (hQ : ∀ c a w, Q (.panic c) (a.put oi.dst undef) w → Q (.panic c) a w) (hw : Region.wanted oi (yielded ops a.tmps) = false) (hS : S w) (h : wpAnyH P md ops Q S fuel (listed.setIfInBounds i true) (a.put oi.dst undef) w) : wpAnyH P md ops Q S (fuel + 1) listed a w :=
  wpAnyH_take (by rw [← Array.getElem?_toList]; exact hi) hs hf hr hQ (Or.inr ⟨hw, rfl⟩) hS h
/-- An operation that yields the same in whatever world of the kind. -/
theorem takeS_yes (i : Nat) {oi : Oper} {v : Value} {fuel : Nat} {listed : Array Bool} {a : Act} {w : World} (hi : ops.toList[i]? = some oi) (hs : Region.noSelect ops = true) (hf : Region.free md ops listed i = true) (hr : (Region.ready md ops listed).contains i = true)
    (hQ : ∀ c a w, Q (.panic c) (a.put oi.dst v) w → Q (.panic c) a w) (hw : Region.wanted oi (yielded ops a.tmps) = true) (hS : S w) (hy : ∀ w, S w → (execOp a.eval oi).run P w = .ok (.value v) w) (h : wpAnyH P md ops Q S fuel (listed.setIfInBounds i true) (a.put oi.dst v) w) : wpAnyH P md ops Q S (fuel + 1) listed a w :=
  wpAnyH_take (by rw [← Array.getElem?_toList]; exact hi) hs hf hr hQ (Or.inl ⟨hw, hy⟩) hS h
/-- An operation that alone may come up. -/
theorem takeS_alone (i : Nat) {oi : Oper} {fuel : Nat} {listed : Array Bool} {a : Act} {w : World} (hi : ops.toList[i]? = some oi) (hr : Region.ready md ops listed = [i]) (hw : Region.wanted oi (yielded ops a.tmps) = true)
    (h : ∀ K' : Act → World → Prop, Shut (∀ a w, S w → wpAnyH P md ops Q S fuel (listed.setIfInBounds i true) a w → K' a w) → Oper.wp P oi a w K' Q) : wpAnyH P md ops Q S (fuel + 1) listed a w :=
  wpAnyH_ready (rs := [i]) hr (by simp) (AllReadyH.cons (by rw [← Array.getElem?_toList]; exact hi) (fun K hK => by rw [if_pos hw]; exact h K (fun a w hS hW => hK.out a w hS (fun _ => hW))) AllReadyH.nil)
theorem heldS_begin {id : Nat} {a : Act} {w : World} (S : World → Prop) (hm : P.follows .mixedOrders = true) (hS : S w.drew) (h : S w.drew → wpAnyH P .any ops Q S ops.size (Array.replicate ops.size false) a w.drew) : (Code.region id ops true).wp P Q a w :=
  wp_region_held_drew hm hS h
end Go.Proofs.YtejgebpdipnhmaaGreatDoor
