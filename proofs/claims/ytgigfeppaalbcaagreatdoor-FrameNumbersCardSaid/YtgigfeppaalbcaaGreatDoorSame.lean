/- SameBytes, SameFrame, SameFrames: what reads alike is told to be the same. Conditions: the cells lie as their readings say. -/
import Derived.Test.YtgigfeppaalbcaaGreatDoorFrames
namespace Go.Proofs.YtgigfeppaalbcaaGreatDoor
open Go.RowKit
set_option maxRecDepth 20000

theorem sameB_any (ao : Option Addr) (n cap : Nat) (co : Option Addr) (m cap2 : Nat) (xs : List Int) (w : World) (hn : xs.length = n) (hm : xs.length = m) (hx : BytesIn w w.heap.size ao xs) (hy : BytesIn w w.heap.size co xs) (hl : n ≤ 4611686018427387904) :
    Calls Tryz.prog 13 #[.slice ao n cap, .slice co m cap2] w fun e w' => e = .returned (.bool true) ∧ Below w.heap.size w w' := by
  obtain rfl : n = m := by omega
  have HX := Lib.hid hx
  have HY := Lib.hid hy
  have HN := Lib.hid hn
  clear hx hy hn hm
  go_enter Tryz.func13, Tryz.ntmps13
  go_wp2_with fail
  go_loopw [5] (fun i wr => ∃ k : Nat, k ≤ n ∧ i = .int .i64 k ∧ Below w.heap.size w wr) (fun i _ => n - (intOf i).toNat)
  case atStart => exact ⟨0, by omega, rfl, Below.refl _ _⟩
  case round =>
    obtain ⟨k, hk, rfl, hbel⟩ := hrel
    by_cases hlt : k < n
    · have hHN := HN.out
      rcases HX.out with h0 | ⟨b, off, rfl, hb, hc⟩
      · rw [h0] at hHN; simp at hHN; omega
      rcases HY.out with h0 | ⟨b2, off2, rfl, hb2, hc2⟩
      · rw [h0] at hHN; simp at hHN; omega
      have d0 := hc k (by omega)
      have d1 := hc2 k (by omega)
      generalize xs.getD k 0 = x at d0 d1
      clear hc hc2 hHN
      have c0 : ∀ x' : Calm w.heap.size w, x'.1.cell? ⟨b, off + k, none⟩ = some (.int .u8 x) := fun x' => x'.cell d0 hb
      have c1 : ∀ x' : Calm w.heap.size w, x'.1.cell? ⟨b2, off2 + k, none⟩ = some (.int .u8 x) := fun x' => x'.cell d1 hb2
      have i1 : (k : Int) < n := by omega
      clear d0 d1
      go_wp2_with fail
      refine wp_region_calm (B := w.heap.size) (W0 := w) hbel (by kernel_rfl) (by kernel_rfl) ?_
      repeat (go_big_quiet_step (fail))
      refine wpQuiet_nil ?_
      intro w5 hb5
      clear c0 c1
      go_wp2_with fail
      go_roundw
      case rel => exact ⟨k + 1, by omega, by go_num, hb5⟩
      case measure => simp [intOf]; omega
    · obtain rfl : k = n := by omega
      go_wp2_with fail
      go_ret
      exact ⟨rfl, hbel⟩

theorem sameF_any (k1 : Int) (ao : Option Addr) (n cap : Nat) (co : Option Addr) (cap2 : Nat) (xs : List Int) (w : World) (hn : xs.length = n) (hx : BytesIn w w.heap.size ao xs) (hy : BytesIn w w.heap.size co xs) (hl : n ≤ 4611686018427387904) :
    Calls Tryz.prog 30 #[.agg #[.int .i64 k1, .slice ao n cap], .agg #[.int .i64 k1, .slice co n cap2]] w fun e w' => e = .returned (.bool true) ∧ Below w.heap.size w w' := by
  have HX := Lib.hid hx
  have HY := Lib.hid hy
  have HN := Lib.hid hn
  clear hx hy hn
  have hb := ((Below.refl w.heap.size w).alloc (Nat.le_refl _) (.cells #[.int .i64 k1, .slice ao n cap] 44)).alloc (by simp) (.cells #[.int .i64 k1, .slice co n cap2] 44)
  go_enter Tryz.func30, Tryz.ntmps30
  go_wp2_with fail
  refine (sameB_any ao n cap co n cap2 xs _ HN.out HN.out ((HX.out.below hb (Nat.le_refl _)).mono hb.size) ((HY.out.below hb (Nat.le_refl _)).mono hb.size) hl).mono ?_
  rintro e w' ⟨rfl, hb2⟩
  have hb3 := hb.trans (hb2.mono hb.size)
  go_wp2_with fail
  go_ret
  exact ⟨rfl, hb3⟩

theorem sameFs_any (ao : Option Addr) (n cap : Nat) (co : Option Addr) (m cap2 : Nat) (xs ys : List Fr) (w : World) (hn : xs.length = n) (hm : ys.length = m) (he : xs.map Fr.pair = ys.map Fr.pair) (hx : FramesIn w w.heap.size ao xs) (hy : FramesIn w w.heap.size co ys) (hl : n ≤ 1099511627776) (hd : ∀ f ∈ xs, f.data.length ≤ 4611686018427387904) :
    Calls Tryz.prog 20 #[.slice ao n cap, .slice co m cap2] w fun e w' => e = .returned (.bool true) ∧ Below w.heap.size w w' := by
  have hnm : xs.length = ys.length := by have := congrArg List.length he; simpa using this
  obtain rfl : n = m := by omega
  have HX := Lib.hid hx
  have HY := Lib.hid hy
  have HN := Lib.hid hn
  have HM := Lib.hid hm
  have HE := Lib.hid he
  clear hx hy hn hm he hnm
  go_enter Tryz.func20, Tryz.ntmps20
  go_wp2_with fail
  go_loopw [5] (fun i wr => ∃ k : Nat, k ≤ n ∧ i = .int .i64 k ∧ Below w.heap.size w wr) (fun i _ => n - (intOf i).toNat)
  case atStart => exact ⟨0, by omega, rfl, Below.refl _ _⟩
  case round =>
    obtain ⟨k, hk, rfl, hbel⟩ := hrel
    by_cases hlt : k < n
    · have hHN := HN.out
      have hHM := HM.out
      rcases HX.out with h0 | ⟨b, off, rfl, hb, hc⟩
      · rw [h0] at hHN; simp at hHN; omega
      rcases HY.out with h0 | ⟨b2, off2, rfl, hb2, hc2⟩
      · rw [h0] at hHM; simp at hHM; omega
      obtain ⟨d0, d1, d2⟩ := hc k (by omega)
      obtain ⟨e0, e1, e2⟩ := hc2 k (by omega)
      have hdl := hd (xs.getD k Fr.zero) (by simp [List.getD, List.getElem?_eq_getElem (show k < xs.length by omega)])
      have hp : (xs.getD k Fr.zero).pair = (ys.getD k Fr.zero).pair := by
        have := congrArg (fun l => l[k]?) HE.out
        simp only [List.getElem?_map] at this
        rw [List.getElem?_eq_getElem (show k < xs.length by omega), List.getElem?_eq_getElem (show k < ys.length by omega)] at this
        simpa [List.getD, List.getElem?_eq_getElem (show k < xs.length by omega), List.getElem?_eq_getElem (show k < ys.length by omega)] using this
      generalize xs.getD k Fr.zero = x at d0 d1 d2 hdl hp
      generalize ys.getD k Fr.zero = y at e0 e1 e2 hp
      obtain ⟨xk, xa, xc, xd⟩ := x
      obtain ⟨yk, ya, yc, yd⟩ := y
      simp only [Fr.pair, Prod.mk.injEq] at hp
      obtain ⟨rfl, rfl⟩ := hp
      dsimp only at d0 d1 d2 e0 e1 e2 hdl
      clear hc hc2 hHN hHM
      have c0 : ∀ x' : Calm w.heap.size w, x'.1.cell? ⟨b, off + k * 2, none⟩ = some (.int .i64 xk) := fun x' => x'.cell d0 hb
      have c1 : ∀ x' : Calm w.heap.size w, x'.1.cell? ⟨b, off + k * 2 + 1, none⟩ = some (.slice xa xd.length xc) := fun x' => x'.cell d1 hb
      have c2 : ∀ x' : Calm w.heap.size w, x'.1.cell? ⟨b2, off2 + k * 2, none⟩ = some (.int .i64 xk) := fun x' => x'.cell e0 hb2
      have c3 : ∀ x' : Calm w.heap.size w, x'.1.cell? ⟨b2, off2 + k * 2 + 1, none⟩ = some (.slice ya xd.length yc) := fun x' => x'.cell e1 hb2
      have hcall : ∀ x' : Calm w.heap.size w, Calls Tryz.prog 30 #[.agg #[.int .i64 xk, .slice xa xd.length xc], .agg #[.int .i64 xk, .slice ya xd.length yc]] x'.1 fun e w' => e = .returned (.bool true) ∧ Below x'.1.heap.size x'.1 w' := fun x' =>
        sameF_any xk xa _ xc ya yc xd x'.1 rfl ((d2.below x'.2 (Nat.le_refl _)).mono x'.2.size) ((e2.below x'.2 (Nat.le_refl _)).mono x'.2.size) hdl
      have i1 : (k : Int) < n := by omega
      clear d0 d1 e0 e1 d2 e2
      have HC := Lib.hid hcall
      clear hcall
      go_wp2_with fail
      refine wp_region_calm (B := w.heap.size) (W0 := w) hbel (by kernel_rfl) (by kernel_rfl) ?_
      repeat (go_big_quiet_step ((go_at_call 30; exact Calm.call (Nat.le_refl _) (HC.out _))))
      refine wpQuiet_nil ?_
      intro w5 hb5
      clear c0 c1 c2 c3
      go_wp2_with fail
      go_roundw
      case rel => exact ⟨k + 1, by omega, by go_num, hb5⟩
      case measure => simp [intOf]; omega
    · obtain rfl : k = n := by omega
      go_wp2_with fail
      go_ret
      exact ⟨rfl, hbel⟩
end Go.Proofs.YtgigfeppaalbcaaGreatDoor
