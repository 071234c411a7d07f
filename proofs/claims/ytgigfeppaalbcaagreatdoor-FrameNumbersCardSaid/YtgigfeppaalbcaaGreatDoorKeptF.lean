/- KeptFrame: a lent frame that nobody has written is found as it was. Conditions: the frame's bytes lie as their reading says. -/
import Derived.Test.YtgigfeppaalbcaaGreatDoorLentFs
import Derived.Test.YtgigfeppaalbcaaGreatDoorSame
namespace Go.Proofs.YtgigfeppaalbcaaGreatDoor
open Go.RowKit
set_option maxRecDepth 20000

theorem keptF_any (kd : Int) (ao : Option Addr) (cap g B : Nat) (xs : List Int) (w : World) (hx : BytesIn w w.heap.size ao xs) (hL : LentB w B g xs) (hl : xs.length ≤ 1099511627776) :
    Calls Tryz.prog 29 #[.agg #[.int .i64 kd, .slice (some ⟨g, 0, none⟩) xs.length (xs.length + 12 : Nat)], .agg #[.int .i64 kd, .slice ao xs.length cap]] w fun e w' => e = .returned (.bool true) ∧ Below w.heap.size w w' := by
  have HX := Lib.hid hx
  have HL := Lib.hid hL
  have hgl := hL.lt
  clear hx hL
  go_enter Tryz.func29, Tryz.ntmps29
  go_wp2_with fail
  have hb2 : Below w.heap.size w ((w.alloc (.cells #[.int .i64 kd, .slice (some ⟨g, 0, none⟩) xs.length (xs.length + 12)] 44)).alloc (.cells #[.int .i64 kd, .slice ao xs.length cap] 44)) := ((Below.refl _ _).alloc (Nat.le_refl _) _).alloc (by simp) _
  have d0 : ((w.alloc (.cells #[.int .i64 kd, .slice (some ⟨g, 0, none⟩) xs.length (xs.length + 12)] 44)).alloc (.cells #[.int .i64 kd, .slice ao xs.length cap] 44)).heap[w.heap.size]? = some (.cells #[.int .i64 kd, .slice (some ⟨g, 0, none⟩) xs.length (xs.length + 12)] 44 (0, 0)) :=
    ((World.grownBy_alloc _ _ none).block _ (by simp) (by simp)).trans (heap_alloc_new w _)
  have d1 : ((w.alloc (.cells #[.int .i64 kd, .slice (some ⟨g, 0, none⟩) xs.length (xs.length + 12)] 44)).alloc (.cells #[.int .i64 kd, .slice ao xs.length cap] 44)).heap[w.heap.size + 1]? = some (.cells #[.int .i64 kd, .slice ao xs.length cap] 44 (0, 0)) := by
    have := heap_alloc_new (w.alloc (.cells #[.int .i64 kd, .slice (some ⟨g, 0, none⟩) xs.length (xs.length + 12)] 44)) (.cells #[.int .i64 kd, .slice ao xs.length cap] 44)
    simpa using this
  have hz2 : ((w.alloc (.cells #[.int .i64 kd, .slice (some ⟨g, 0, none⟩) xs.length (xs.length + 12)] 44)).alloc (.cells #[.int .i64 kd, .slice ao xs.length cap] 44)).heap.size = w.heap.size + 2 := by simp
  generalize ((w.alloc (.cells #[.int .i64 kd, .slice (some ⟨g, 0, none⟩) xs.length (xs.length + 12)] 44)).alloc (.cells #[.int .i64 kd, .slice ao xs.length cap] 44)) = w2 at hb2 d0 d1 hz2 ⊢
  have D0 := Lib.hid d0
  have D1 := Lib.hid d1
  have HZ := Lib.hid hz2
  clear d0 d1 hz2
  have hL2 := HL.out.below hb2 hgl
  refine (sameF_any kd (some ⟨g, 0, none⟩) _ (xs.length + 12) ao cap xs w2 rfl (hL2.bytes.mono hL2.lt) ((HX.out.below hb2 (Nat.le_refl _)).mono hb2.size) (by omega)).mono ?_
  rintro e w3 ⟨rfl, hb3⟩
  have e0 : w3.cell? ⟨w.heap.size, 1, none⟩ = some (.slice (some ⟨g, 0, none⟩) xs.length (xs.length + 12)) := Go.Joins.cell_of_block ((hb3.block w.heap.size (by have := HZ.out; omega)).trans D0.out) 1
  have e1 : w3.cell? ⟨w.heap.size + 1, 1, none⟩ = some (.slice ao xs.length cap) := Go.Joins.cell_of_block ((hb3.block (w.heap.size + 1) (by have := HZ.out; omega)).trans D1.out) 1
  have hbel3 := hb2.trans (hb3.mono hb2.size)
  have HL3 := Lib.hid (HL.out.below hbel3 hgl)
  clear hL2
  go_wp2_with fail
  refine (keptB_any ao cap g B xs w3 ((HX.out.below hbel3 (Nat.le_refl _)).mono hbel3.size) HL3.out hl).mono ?_
  rintro e w4 ⟨rfl, hb4⟩
  clear e0 e1
  go_wp2_with fail
  go_ret
  exact ⟨rfl, hbel3.trans (hb4.mono hbel3.size)⟩
theorem keptF_at (kd : Int) (go : Option Addr) (c1 : Nat) (ao : Option Addr) (cap g B : Nat) (xs : List Int) (w : World) (hg : go = some ⟨g, 0, none⟩) (hc : c1 = xs.length + 12) (hx : BytesIn w w.heap.size ao xs) (hL : LentB w B g xs) (hl : xs.length ≤ 1099511627776) :
    Calls Tryz.prog 29 #[.agg #[.int .i64 kd, .slice go xs.length c1], .agg #[.int .i64 kd, .slice ao xs.length cap]] w fun e w' => e = .returned (.bool true) ∧ Below w.heap.size w w' := by
  subst hg hc
  exact keptF_any kd ao cap g B xs w hx hL hl

set_option maxHeartbeats 2000000 in
theorem keptFs_any (ao : Option Addr) (cap g B : Nat) (fs frs : List Fr) (w : World) (hx : FramesIn w w.heap.size ao fs) (hrow : w.ownsRow B 44 2 (.slice (some ⟨g, 0, none⟩) (fs.length + 12) (fs.length + 12)) (fs.length + 12) (frs.flatMap frCells ++ mks mkF 1 12)) (hlent : ∀ f ∈ frs, FrLent w B f) (hmap : frs.map Fr.pair = fs.map Fr.pair) (hd : ∀ f ∈ fs, f.data.length ≤ 1099511627776) (hl : fs.length ≤ 1099511627776) :
    Calls Tryz.prog 10 #[.slice (some ⟨g, 0, none⟩) fs.length (fs.length + 12 : Nat), .slice ao fs.length cap] w fun e w' => e = .returned (.bool true) ∧ Below w.heap.size w w' := by
  have hgl := (hrow.lt g rfl).2
  have hfl : frs.length = fs.length := by have := congrArg List.length hmap; simpa using this
  have hsl : ∀ w', (Instr.sliceAt 22 (.slice (some ⟨g, 0, none⟩) fs.length (fs.length + 12)) none (some (.int .i64 ((fs.length : Int) + 12))) none).run Tryz.prog w' = .ok (.slice (some ⟨g, 0, none⟩) (fs.length + 12) (fs.length + 12)) w' := fun w' => by
    have h1 := run_sub_h sliceFrame' sizeFrame' (some ⟨g, 0, none⟩) fs.length (fs.length + 12) (fs.length + 12) (Nat.le_refl _) .i64 ((fs.length : Int) + 12) (by omega) w'
    rwa [subA_zero _ _ _ (by intro a ha; cases ha; rfl)] at h1
  have HX := Lib.hid hx
  have HR := Lib.hid hrow
  have HLE := Lib.hid hlent
  have HM := Lib.hid hmap
  have HD := Lib.hid hd
  have HFL := Lib.hid hfl
  clear hx hrow hlent hmap hd hfl
  go_enter Tryz.func10, Tryz.ntmps10
  go_wp2_with fail
  clear hsl
  go_loopw [6] (fun i wr => ∃ k : Nat, k ≤ fs.length + 12 ∧ i = .int .i64 k ∧ Below w.heap.size w wr) (fun i _ => fs.length + 12 - (intOf i).toNat)
  case atStart => exact ⟨0, by omega, rfl, Below.refl _ _⟩
  case round =>
    obtain ⟨k, hk, rfl, hbel⟩ := hrel
    by_cases hlt : k < fs.length
    · rcases HX.out with h0 | ⟨b, off, rfl, hb, hc⟩
      · rw [h0] at hlt; simp at hlt
      obtain ⟨e0, e1, ed⟩ := hc k hlt
      have hkf : k < frs.length := by rw [HFL.out]; exact hlt
      have hx0 : frs[k]? = some frs[k] := List.getElem?_eq_getElem hkf
      have f0 := flat_get (k := 2) frCells_len frs k _ hx0 0 (by decide)
      have f1 := flat_get (k := 2) frCells_len frs k _ hx0 1 (by decide)
      have hfl2 := flat_len (k := 2) frCells_len frs
      have a0 : w.cell? ⟨g, k * 2, none⟩ = (frCells frs[k])[0]? := by
        rw [World.ownsRow.cellAt HR.out (k * 2) (by omega), List.getElem?_append_left (by omega)]; exact f0
      have a1 : w.cell? ⟨g, k * 2 + 1, none⟩ = (frCells frs[k])[1]? := by
        rw [World.ownsRow.cellAt HR.out (k * 2 + 1) (by omega), List.getElem?_append_left (by omega)]; exact f1
      have hle := HLE.out frs[k] (List.getElem_mem hkf)
      have hdl := HD.out (fs.getD k Fr.zero) (by simp [List.getD, List.getElem?_eq_getElem hlt])
      have hp : frs[k].pair = (fs.getD k Fr.zero).pair := by
        have := congrArg (fun l => l[k]?) HM.out
        simp only [List.getElem?_map, hx0, List.getElem?_eq_getElem hlt] at this
        simpa [List.getD, List.getElem?_eq_getElem hlt] using this
      generalize frs[k] = x at a0 a1 hle hp f0 f1 hx0
      generalize fs.getD k Fr.zero = y at e0 e1 ed hdl hp
      obtain ⟨xk, xa, xc, xd⟩ := x
      obtain ⟨yk, ya, yc, yd⟩ := y
      simp only [Fr.pair, Prod.mk.injEq] at hp
      obtain ⟨rfl, rfl⟩ := hp
      obtain ⟨fg, hfg, hfc, hfL⟩ := hle
      dsimp only at e0 e1 ed hdl hfg hfc hfL
      have c0 : ∀ x' : Calm w.heap.size w, x'.1.cell? ⟨b, off + k * 2, none⟩ = some (.int .i64 xk) := fun x' => x'.cell e0 hb
      have c1 : ∀ x' : Calm w.heap.size w, x'.1.cell? ⟨b, off + k * 2 + 1, none⟩ = some (.slice ya xd.length yc) := fun x' => x'.cell e1 hb
      have c2 : ∀ x' : Calm w.heap.size w, x'.1.cell? ⟨g, k * 2, none⟩ = some (.int .i64 xk) := fun x' => x'.cell a0 hgl
      have c3 : ∀ x' : Calm w.heap.size w, x'.1.cell? ⟨g, k * 2 + 1, none⟩ = some (.slice xa xd.length xc) := fun x' => x'.cell a1 hgl
      have hcall : ∀ x' : Calm w.heap.size w, Calls Tryz.prog 29 #[.agg #[.int .i64 xk, .slice xa xd.length xc], .agg #[.int .i64 xk, .slice ya xd.length yc]] x'.1 fun e w' => e = .returned (.bool true) ∧ Below x'.1.heap.size x'.1 w' := fun x' =>
        keptF_at xk xa xc ya yc fg B xd x'.1 hfg hfc ((ed.below x'.2 (Nat.le_refl _)).mono x'.2.size) (hfL.below x'.2 hfL.lt) hdl
      have HC := Lib.hid hcall
      have i1 : (k : Int) < fs.length := by omega
      have i2 : (k : Int) < (fs.length : Int) + 12 := by omega
      have i3 : (k : Int) < ((fs.length + 12 : Nat) : Int) := by omega
      have d1 : decide ((fs.length : Int) ≤ k) = false := by simp; omega
      have d2 : decide (fs.length ≤ k) = false := by simp; omega
      have d3 : decide (k < fs.length) = true := by simpa using hlt
      clear hcall e0 e1 ed a0 a1 f0 f1 hx0 hfL hfg hfc hc hfl2
      go_wp2_with fail
      refine wp_region_calm (B := w.heap.size) (W0 := w) hbel (by kernel_rfl) (by kernel_rfl) ?_
      repeat (go_big_quiet_step ((go_at_call 29; exact Calm.call (Nat.le_refl _) (HC.out _))))
      refine wpQuiet_nil ?_
      intro w5 hb5
      clear c0 c1 c2 c3
      go_wp2_with fail
      go_roundw
      case rel => exact ⟨k + 1, by omega, by go_num, hb5⟩
      case measure => simp [intOf]; omega
    · by_cases hlt2 : k < fs.length + 12
      · obtain ⟨m, rfl⟩ : ∃ m, k = fs.length + m := ⟨k - fs.length, by omega⟩
        have hfl2 := flat_len (k := 2) frCells_len frs
        have hfe := HFL.out
        have g0 := mks_get mkF_len 1 12 m 0 (by omega) (by decide)
        have g1 := mks_get mkF_len 1 12 m 1 (by omega) (by decide)
        have a0 : w.cell? ⟨g, (fs.length + m) * 2, none⟩ = some (.int .i64 (markN 1 m)) := by
          rw [World.ownsRow.cellAt HR.out _ (by omega), List.getElem?_append_right (by omega), show (fs.length + m) * 2 - (frs.flatMap frCells).length = m * 2 + 0 by omega]
          exact g0
        have a1 : w.cell? ⟨g, (fs.length + m) * 2 + 1, none⟩ = some (.slice none 0 0) := by
          rw [World.ownsRow.cellAt HR.out _ (by omega), List.getElem?_append_right (by omega), show (fs.length + m) * 2 + 1 - (frs.flatMap frCells).length = m * 2 + 1 by omega]
          exact g1
        have c2 : ∀ x' : Calm w.heap.size w, x'.1.cell? ⟨g, (fs.length + m) * 2, none⟩ = some (.int .i64 (markN 1 m)) := fun x' => x'.cell a0 hgl
        have c3 : ∀ x' : Calm w.heap.size w, x'.1.cell? ⟨g, (fs.length + m) * 2 + 1, none⟩ = some (.slice none 0 0) := fun x' => x'.cell a1 hgl
        have hcall : ∀ x' : Calm w.heap.size w, Calls Tryz.prog 30 #[.agg #[.int .i64 (markN 1 m), .slice none 0 0], .agg #[.int .i64 (markN 1 m), .slice none 0 0]] x'.1 fun e w' => e = .returned (.bool true) ∧ Below x'.1.heap.size x'.1 w' := fun x' =>
          sameF_any (markN 1 m) none 0 0 none 0 [] x'.1 rfl (Or.inl rfl) (Or.inl rfl) (by decide)
        have HC := Lib.hid hcall
        have i1 : ¬ (fs.length : Int) + m < fs.length := by omega
        have i2 : (fs.length : Int) + m < (fs.length : Int) + 12 := by omega
        have i4 : (fs.length : Int) ≤ (fs.length : Int) + m := by omega
        have d1 : decide ((fs.length : Int) + m < fs.length) = false := by simp; omega
        have d2 : decide ((fs.length : Int) ≤ (fs.length : Int) + m) = true := by simp; omega
        have n1 : ((fs.length : Int) + m).toNat = fs.length + m := by omega
        have n2 : IntKind.i64.wrap (m : Int) = m := IntWalk.i64_in _ (by omega)
        have n3 : (0 : Int) ≤ (fs.length : Int) + m := by omega
        clear hcall a0 a1 g0 g1 hfl2 hfe
        go_wp2_with fail
        refine wp_region_calm (B := w.heap.size) (W0 := w) hbel (by kernel_rfl) (by kernel_rfl) ?_
        repeat (go_big_quiet_step (first | (go_at_call 25; exact Calm.call (Nat.le_refl _) (markF_at _ _ 1 m (by omega) (by omega) (by omega) (by omega) _)) | (go_at_call 30; exact Calm.call (Nat.le_refl _) (HC.out _))))
        refine wpQuiet_nil ?_
        intro w5 hb5
        clear c2 c3
        go_wp2_with fail
        go_roundw
        case rel => exact ⟨fs.length + m + 1, by omega, by go_num, hb5⟩
        case measure => simp [intOf]; omega
      · go_wp2_with fail
        go_ret
        exact ⟨rfl, hbel⟩
end Go.Proofs.YtgigfeppaalbcaaGreatDoor
