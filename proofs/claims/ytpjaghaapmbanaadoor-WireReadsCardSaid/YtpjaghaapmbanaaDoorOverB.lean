/- OverBytes: a lent row of bytes is written over, the marks behind it, too; nothing else is changed. Conditions: the row is a lent one. -/
import Derived.Test.YtpjaghaapmbanaaDoorFlatB
import Derived.Test.YtpjaghaapmbanaaDoorSub
import Derived.Maps.AppendAt
namespace Go.Proofs.YtpjaghaapmbanaaDoor
open Go.RowKit
set_option maxRecDepth 20000

theorem overB_any (B g n : Nat) (ys : List Int) (w : World) (h : w.ownsRow B 5 1 (.slice (some ⟨g, 0, none⟩) (n + 12) (n + 12)) (n + 12) (ys.map bv)) (hn : n ≤ 1099511627776) :
    Calls Tryd.prog 11 #[.slice (some ⟨g, 0, none⟩) n (n + 12 : Nat)] w fun e w' => e = .returned (.tuple #[]) ∧ w.grownBy w' (some g) ∧ ∃ zs : List Int, w'.ownsRow B 5 1 (.slice (some ⟨g, 0, none⟩) (n + 12) (n + 12)) (n + 12) (zs.map bv) := by
  have hyl : ys.length = n + 12 := by have := h.1; simpa using this
  have hsl : ∀ w, (Instr.sliceAt 23 (.slice (some ⟨g, 0, none⟩) n (n + 12)) none (some (.int .i64 ((n : Int) + 12))) none).run Tryd.prog w = .ok (.slice (some ⟨g, 0, none⟩) (n + 12) (n + 12)) w := fun w => by
    have h1 := run_sub_h sliceByte sizeByte (some ⟨g, 0, none⟩) n (n + 12) (n + 12) (Nat.le_refl _) .i64 ((n : Int) + 12) (by omega) w
    rwa [subA_zero _ _ _ (by intro a ha; cases ha; rfl)] at h1
  have H := Lib.hid h
  have HY := Lib.hid hyl
  clear h hyl
  go_enter Tryd.func11, Tryd.ntmps11
  go_wp2_with fail
  clear hsl
  go_loopw [3] (fun i wr => ∃ (k : Nat) (zs : List Int), k ≤ n + 12 ∧ i = .int .i64 k ∧ zs.length = n + 12 ∧ wr.ownsRow B 5 1 (.slice (some ⟨g, 0, none⟩) (n + 12) (n + 12)) (n + 12) (zs.map bv) ∧ w.grownBy wr (some g)) (fun i _ => n + 12 - (intOf i).toNat)
  case atStart => exact ⟨0, ys, by omega, rfl, HY.out, H.out, World.grownBy.refl _ _⟩
  case round =>
    obtain ⟨k, zs, hk, rfl, hzl, hown, hgr⟩ := hrel
    have HO := Lib.hid hown
    have HZ := Lib.hid hzl
    clear hown hzl
    by_cases hlt : k < n + 12
    · have i1 : (k : Int) < (n : Int) + 12 := by omega
      have i2 : (k : Int) < ((n + 12 : Nat) : Int) := by omega
      have hzl := HZ.out
      have d0 : wr.cell? ⟨g, k, none⟩ = some (.int .u8 (zs[k]'(by omega))) := by
        rw [World.ownsRow.cellAt HO.out k (by omega), List.getElem?_map, List.getElem?_eq_getElem (by omega)]
        rfl
      have f0 : wr.frozen? ⟨g, k, none⟩ = false := World.ownsRow.frozenAt HO.out _
      have hst := World.ownsRow.stored HO.out k (.int .u8 (markBK 2 k))
      have HST := Lib.hid hst
      generalize (zs[k]'(by omega)) = old at d0
      clear hst hzl
      go_wp2_with (go_at_call 42; (with_reducible refine (markBK_at _ _ 2 k (by omega) rfl (by omega) (by omega) _).mono ?_); rintro e w' ⟨rfl, rfl⟩)
      go_roundw
      case rel => exact ⟨k + 1, zs.set k (markBK 2 k), by omega, by go_num, by rw [List.length_set]; exact HZ.out, by rw [List.map_set]; exact HST.out.1, hgr.trans HST.out.2⟩
      case measure => simp [intOf]; omega
    · obtain rfl : k = n + 12 := by omega
      go_wp2_with fail
      go_end0
      exact ⟨rfl, hgr, zs, HO.out⟩
end Go.Proofs.YtpjaghaapmbanaaDoor
