/- No rows at all lie apart: each kind's own look at a nil list. No condition. -/
import Derived.Test.YtknnbnmogjkcnaaGreatBase
namespace Go.Proofs.YtknnbnmogjkcnaaGreat
open Go.RowKit
set_option maxRecDepth 20000

theorem flatNil_Limbs (w : World) : Calls Tryz.prog 23 #[.slice none 0 0] w fun e w' => e = .returned (.bool true) ∧ Below w.heap.size w w' := by
  have hmk : ∀ w, (Instr.makeSlice 51 (.int .i64 0) (.int .i64 0)).run Tryz.prog w = .ok (.slice (some ⟨w.heap.size, 0, none⟩) 0 0) (w.alloc (.cells #[] 118)) := fun _ => by kernel_rfl
  go_enter Tryz.func23, Tryz.ntmps23
  go_wp2_with fail
  go_loopw [3, 4] (fun i _ wr => i = .int .i64 0 ∧ Below w.heap.size w wr) (fun _ _ _ => 0)
  case atStart => exact ⟨rfl, Below.refl _ _⟩
  case round =>
    obtain ⟨rfl, hbel⟩ := hrel
    have hb : Below w.heap.size w (wr.alloc (.cells #[] 118)) := hbel.alloc hbel.size _
    go_wp2_with fail
    generalize wr.alloc (.cells #[] 118) = w1 at hb ⊢
    go_loopw [6, 7, 8] (fun i _ _ wr => i = .int .i64 0 ∧ Below w.heap.size w wr) (fun _ _ _ _ => 0)
    case atStart => exact ⟨rfl, hb⟩
    case round =>
      clear hb hbel
      obtain ⟨rfl, hbel⟩ := hrel
      go_wp2_with fail
      go_loopw [9, 10] (fun i _ wr => i = .int .i64 0 ∧ Below w.heap.size w wr) (fun _ _ _ => 0)
      case atStart => exact ⟨rfl, hbel⟩
      case round =>
        clear hbel
        obtain ⟨rfl, hbel⟩ := hrel
        go_wp2_with fail
        go_loopw [11, 12, 13] (fun i _ _ wr => i = .int .i64 0 ∧ Below w.heap.size w wr) (fun _ _ _ _ => 0)
        case atStart => exact ⟨rfl, hbel⟩
        case round =>
          clear hbel
          obtain ⟨rfl, hbel⟩ := hrel
          go_wp2_with fail
          go_loopw [14, 15] (fun i _ wr => i = .int .i64 0 ∧ Below w.heap.size w wr) (fun _ _ _ => 0)
          case atStart => exact ⟨rfl, hbel⟩
          case round =>
            clear hbel
            obtain ⟨rfl, hbel⟩ := hrel
            go_wp2_with fail
            go_ret
            exact ⟨rfl, hbel⟩
theorem flatNil_Words (w : World) : Calls Tryz.prog 24 #[.slice none 0 0] w fun e w' => e = .returned (.bool true) ∧ Below w.heap.size w w' := by
  have hmk : ∀ w, (Instr.makeSlice 52 (.int .i64 0) (.int .i64 0)).run Tryz.prog w = .ok (.slice (some ⟨w.heap.size, 0, none⟩) 0 0) (w.alloc (.cells #[] 121)) := fun _ => by kernel_rfl
  go_enter Tryz.func24, Tryz.ntmps24
  go_wp2_with fail
  go_loopw [3, 4] (fun i _ wr => i = .int .i64 0 ∧ Below w.heap.size w wr) (fun _ _ _ => 0)
  case atStart => exact ⟨rfl, Below.refl _ _⟩
  case round =>
    obtain ⟨rfl, hbel⟩ := hrel
    have hb : Below w.heap.size w (wr.alloc (.cells #[] 121)) := hbel.alloc hbel.size _
    go_wp2_with fail
    generalize wr.alloc (.cells #[] 121) = w1 at hb ⊢
    go_loopw [6, 7, 8] (fun i _ _ wr => i = .int .i64 0 ∧ Below w.heap.size w wr) (fun _ _ _ _ => 0)
    case atStart => exact ⟨rfl, hb⟩
    case round =>
      clear hb hbel
      obtain ⟨rfl, hbel⟩ := hrel
      go_wp2_with fail
      go_loopw [9, 10] (fun i _ wr => i = .int .i64 0 ∧ Below w.heap.size w wr) (fun _ _ _ => 0)
      case atStart => exact ⟨rfl, hbel⟩
      case round =>
        clear hbel
        obtain ⟨rfl, hbel⟩ := hrel
        go_wp2_with fail
        go_loopw [11, 12, 13] (fun i _ _ wr => i = .int .i64 0 ∧ Below w.heap.size w wr) (fun _ _ _ _ => 0)
        case atStart => exact ⟨rfl, hbel⟩
        case round =>
          clear hbel
          obtain ⟨rfl, hbel⟩ := hrel
          go_wp2_with fail
          go_loopw [14, 15] (fun i _ wr => i = .int .i64 0 ∧ Below w.heap.size w wr) (fun _ _ _ => 0)
          case atStart => exact ⟨rfl, hbel⟩
          case round =>
            clear hbel
            obtain ⟨rfl, hbel⟩ := hrel
            go_wp2_with fail
            go_ret
            exact ⟨rfl, hbel⟩
theorem flatNil_Ints (w : World) : Calls Tryz.prog 25 #[.slice none 0 0] w fun e w' => e = .returned (.bool true) ∧ Below w.heap.size w w' := by
  have hmk : ∀ w, (Instr.makeSlice 53 (.int .i64 0) (.int .i64 0)).run Tryz.prog w = .ok (.slice (some ⟨w.heap.size, 0, none⟩) 0 0) (w.alloc (.cells #[] 36)) := fun _ => by kernel_rfl
  go_enter Tryz.func25, Tryz.ntmps25
  go_wp2_with fail
  go_loopw [3, 4] (fun i _ wr => i = .int .i64 0 ∧ Below w.heap.size w wr) (fun _ _ _ => 0)
  case atStart => exact ⟨rfl, Below.refl _ _⟩
  case round =>
    obtain ⟨rfl, hbel⟩ := hrel
    have hb : Below w.heap.size w (wr.alloc (.cells #[] 36)) := hbel.alloc hbel.size _
    go_wp2_with fail
    generalize wr.alloc (.cells #[] 36) = w1 at hb ⊢
    go_loopw [6, 7, 8] (fun i _ _ wr => i = .int .i64 0 ∧ Below w.heap.size w wr) (fun _ _ _ _ => 0)
    case atStart => exact ⟨rfl, hb⟩
    case round =>
      clear hb hbel
      obtain ⟨rfl, hbel⟩ := hrel
      go_wp2_with fail
      go_loopw [9, 10] (fun i _ wr => i = .int .i64 0 ∧ Below w.heap.size w wr) (fun _ _ _ => 0)
      case atStart => exact ⟨rfl, hbel⟩
      case round =>
        clear hbel
        obtain ⟨rfl, hbel⟩ := hrel
        go_wp2_with fail
        go_loopw [11, 12, 13] (fun i _ _ wr => i = .int .i64 0 ∧ Below w.heap.size w wr) (fun _ _ _ _ => 0)
        case atStart => exact ⟨rfl, hbel⟩
        case round =>
          clear hbel
          obtain ⟨rfl, hbel⟩ := hrel
          go_wp2_with fail
          go_loopw [14, 15] (fun i _ wr => i = .int .i64 0 ∧ Below w.heap.size w wr) (fun _ _ _ => 0)
          case atStart => exact ⟨rfl, hbel⟩
          case round =>
            clear hbel
            obtain ⟨rfl, hbel⟩ := hrel
            go_wp2_with fail
            go_ret
            exact ⟨rfl, hbel⟩
theorem flatNil_Longs (w : World) : Calls Tryz.prog 26 #[.slice none 0 0] w fun e w' => e = .returned (.bool true) ∧ Below w.heap.size w w' := by
  have hmk : ∀ w, (Instr.makeSlice 54 (.int .i64 0) (.int .i64 0)).run Tryz.prog w = .ok (.slice (some ⟨w.heap.size, 0, none⟩) 0 0) (w.alloc (.cells #[] 123)) := fun _ => by kernel_rfl
  go_enter Tryz.func26, Tryz.ntmps26
  go_wp2_with fail
  go_loopw [3, 4] (fun i _ wr => i = .int .i64 0 ∧ Below w.heap.size w wr) (fun _ _ _ => 0)
  case atStart => exact ⟨rfl, Below.refl _ _⟩
  case round =>
    obtain ⟨rfl, hbel⟩ := hrel
    have hb : Below w.heap.size w (wr.alloc (.cells #[] 123)) := hbel.alloc hbel.size _
    go_wp2_with fail
    generalize wr.alloc (.cells #[] 123) = w1 at hb ⊢
    go_loopw [6, 7, 8] (fun i _ _ wr => i = .int .i64 0 ∧ Below w.heap.size w wr) (fun _ _ _ _ => 0)
    case atStart => exact ⟨rfl, hb⟩
    case round =>
      clear hb hbel
      obtain ⟨rfl, hbel⟩ := hrel
      go_wp2_with fail
      go_loopw [9, 10] (fun i _ wr => i = .int .i64 0 ∧ Below w.heap.size w wr) (fun _ _ _ => 0)
      case atStart => exact ⟨rfl, hbel⟩
      case round =>
        clear hbel
        obtain ⟨rfl, hbel⟩ := hrel
        go_wp2_with fail
        go_loopw [11, 12, 13] (fun i _ _ wr => i = .int .i64 0 ∧ Below w.heap.size w wr) (fun _ _ _ _ => 0)
        case atStart => exact ⟨rfl, hbel⟩
        case round =>
          clear hbel
          obtain ⟨rfl, hbel⟩ := hrel
          go_wp2_with fail
          go_loopw [14, 15] (fun i _ wr => i = .int .i64 0 ∧ Below w.heap.size w wr) (fun _ _ _ => 0)
          case atStart => exact ⟨rfl, hbel⟩
          case round =>
            clear hbel
            obtain ⟨rfl, hbel⟩ := hrel
            go_wp2_with fail
            go_ret
            exact ⟨rfl, hbel⟩
theorem flatNil_Texts (w : World) : Calls Tryz.prog 27 #[.slice none 0 0] w fun e w' => e = .returned (.bool true) ∧ Below w.heap.size w w' := by
  have hmk : ∀ w, (Instr.makeSlice 55 (.int .i64 0) (.int .i64 0)).run Tryz.prog w = .ok (.slice (some ⟨w.heap.size, 0, none⟩) 0 0) (w.alloc (.cells #[] 124)) := fun _ => by kernel_rfl
  go_enter Tryz.func27, Tryz.ntmps27
  go_wp2_with fail
  go_loopw [3, 4] (fun i _ wr => i = .int .i64 0 ∧ Below w.heap.size w wr) (fun _ _ _ => 0)
  case atStart => exact ⟨rfl, Below.refl _ _⟩
  case round =>
    obtain ⟨rfl, hbel⟩ := hrel
    have hb : Below w.heap.size w (wr.alloc (.cells #[] 124)) := hbel.alloc hbel.size _
    go_wp2_with fail
    generalize wr.alloc (.cells #[] 124) = w1 at hb ⊢
    go_loopw [6, 7, 8] (fun i _ _ wr => i = .int .i64 0 ∧ Below w.heap.size w wr) (fun _ _ _ _ => 0)
    case atStart => exact ⟨rfl, hb⟩
    case round =>
      clear hb hbel
      obtain ⟨rfl, hbel⟩ := hrel
      go_wp2_with fail
      go_loopw [9, 10] (fun i _ wr => i = .int .i64 0 ∧ Below w.heap.size w wr) (fun _ _ _ => 0)
      case atStart => exact ⟨rfl, hbel⟩
      case round =>
        clear hbel
        obtain ⟨rfl, hbel⟩ := hrel
        go_wp2_with fail
        go_loopw [11, 12, 13] (fun i _ _ wr => i = .int .i64 0 ∧ Below w.heap.size w wr) (fun _ _ _ _ => 0)
        case atStart => exact ⟨rfl, hbel⟩
        case round =>
          clear hbel
          obtain ⟨rfl, hbel⟩ := hrel
          go_wp2_with fail
          go_loopw [14, 15] (fun i _ wr => i = .int .i64 0 ∧ Below w.heap.size w wr) (fun _ _ _ => 0)
          case atStart => exact ⟨rfl, hbel⟩
          case round =>
            clear hbel
            obtain ⟨rfl, hbel⟩ := hrel
            go_wp2_with fail
            go_ret
            exact ⟨rfl, hbel⟩
theorem flatNil_Bytes (w : World) : Calls Tryz.prog 28 #[.slice none 0 0] w fun e w' => e = .returned (.bool true) ∧ Below w.heap.size w w' := by
  have hmk : ∀ w, (Instr.makeSlice 56 (.int .i64 0) (.int .i64 0)).run Tryz.prog w = .ok (.slice (some ⟨w.heap.size, 0, none⟩) 0 0) (w.alloc (.cells #[] 126)) := fun _ => by kernel_rfl
  go_enter Tryz.func28, Tryz.ntmps28
  go_wp2_with fail
  go_loopw [3, 4] (fun i _ wr => i = .int .i64 0 ∧ Below w.heap.size w wr) (fun _ _ _ => 0)
  case atStart => exact ⟨rfl, Below.refl _ _⟩
  case round =>
    obtain ⟨rfl, hbel⟩ := hrel
    have hb : Below w.heap.size w (wr.alloc (.cells #[] 126)) := hbel.alloc hbel.size _
    go_wp2_with fail
    generalize wr.alloc (.cells #[] 126) = w1 at hb ⊢
    go_loopw [6, 7, 8] (fun i _ _ wr => i = .int .i64 0 ∧ Below w.heap.size w wr) (fun _ _ _ _ => 0)
    case atStart => exact ⟨rfl, hb⟩
    case round =>
      clear hb hbel
      obtain ⟨rfl, hbel⟩ := hrel
      go_wp2_with fail
      go_loopw [9, 10] (fun i _ wr => i = .int .i64 0 ∧ Below w.heap.size w wr) (fun _ _ _ => 0)
      case atStart => exact ⟨rfl, hbel⟩
      case round =>
        clear hbel
        obtain ⟨rfl, hbel⟩ := hrel
        go_wp2_with fail
        go_loopw [11, 12, 13] (fun i _ _ wr => i = .int .i64 0 ∧ Below w.heap.size w wr) (fun _ _ _ _ => 0)
        case atStart => exact ⟨rfl, hbel⟩
        case round =>
          clear hbel
          obtain ⟨rfl, hbel⟩ := hrel
          go_wp2_with fail
          go_loopw [14, 15] (fun i _ wr => i = .int .i64 0 ∧ Below w.heap.size w wr) (fun _ _ _ => 0)
          case atStart => exact ⟨rfl, hbel⟩
          case round =>
            clear hbel
            obtain ⟨rfl, hbel⟩ := hrel
            go_wp2_with fail
            go_ret
            exact ⟨rfl, hbel⟩
theorem flatNil_Values (w : World) : Calls Tryz.prog 29 #[.slice none 0 0] w fun e w' => e = .returned (.bool true) ∧ Below w.heap.size w w' := by
  have hmk : ∀ w, (Instr.makeSlice 57 (.int .i64 0) (.int .i64 0)).run Tryz.prog w = .ok (.slice (some ⟨w.heap.size, 0, none⟩) 0 0) (w.alloc (.cells #[] 33)) := fun _ => by kernel_rfl
  go_enter Tryz.func29, Tryz.ntmps29
  go_wp2_with fail
  go_loopw [3, 4] (fun i _ wr => i = .int .i64 0 ∧ Below w.heap.size w wr) (fun _ _ _ => 0)
  case atStart => exact ⟨rfl, Below.refl _ _⟩
  case round =>
    obtain ⟨rfl, hbel⟩ := hrel
    have hb : Below w.heap.size w (wr.alloc (.cells #[] 33)) := hbel.alloc hbel.size _
    go_wp2_with fail
    generalize wr.alloc (.cells #[] 33) = w1 at hb ⊢
    go_loopw [6, 7, 8] (fun i _ _ wr => i = .int .i64 0 ∧ Below w.heap.size w wr) (fun _ _ _ _ => 0)
    case atStart => exact ⟨rfl, hb⟩
    case round =>
      clear hb hbel
      obtain ⟨rfl, hbel⟩ := hrel
      go_wp2_with fail
      go_loopw [9, 10] (fun i _ wr => i = .int .i64 0 ∧ Below w.heap.size w wr) (fun _ _ _ => 0)
      case atStart => exact ⟨rfl, hbel⟩
      case round =>
        clear hbel
        obtain ⟨rfl, hbel⟩ := hrel
        go_wp2_with fail
        go_loopw [11, 12, 13] (fun i _ _ wr => i = .int .i64 0 ∧ Below w.heap.size w wr) (fun _ _ _ _ => 0)
        case atStart => exact ⟨rfl, hbel⟩
        case round =>
          clear hbel
          obtain ⟨rfl, hbel⟩ := hrel
          go_wp2_with fail
          go_loopw [14, 15] (fun i _ wr => i = .int .i64 0 ∧ Below w.heap.size w wr) (fun _ _ _ => 0)
          case atStart => exact ⟨rfl, hbel⟩
          case round =>
            clear hbel
            obtain ⟨rfl, hbel⟩ := hrel
            go_wp2_with fail
            go_ret
            exact ⟨rfl, hbel⟩
theorem flatNil_Facts (w : World) : Calls Tryz.prog 30 #[.slice none 0 0] w fun e w' => e = .returned (.bool true) ∧ Below w.heap.size w w' := by
  have hmk : ∀ w, (Instr.makeSlice 58 (.int .i64 0) (.int .i64 0)).run Tryz.prog w = .ok (.slice (some ⟨w.heap.size, 0, none⟩) 0 0) (w.alloc (.cells #[] 129)) := fun _ => by kernel_rfl
  go_enter Tryz.func30, Tryz.ntmps30
  go_wp2_with fail
  go_loopw [3, 4] (fun i _ wr => i = .int .i64 0 ∧ Below w.heap.size w wr) (fun _ _ _ => 0)
  case atStart => exact ⟨rfl, Below.refl _ _⟩
  case round =>
    obtain ⟨rfl, hbel⟩ := hrel
    have hb : Below w.heap.size w (wr.alloc (.cells #[] 129)) := hbel.alloc hbel.size _
    go_wp2_with fail
    generalize wr.alloc (.cells #[] 129) = w1 at hb ⊢
    go_loopw [6, 7, 8] (fun i _ _ wr => i = .int .i64 0 ∧ Below w.heap.size w wr) (fun _ _ _ _ => 0)
    case atStart => exact ⟨rfl, hb⟩
    case round =>
      clear hb hbel
      obtain ⟨rfl, hbel⟩ := hrel
      go_wp2_with fail
      go_loopw [9, 10] (fun i _ wr => i = .int .i64 0 ∧ Below w.heap.size w wr) (fun _ _ _ => 0)
      case atStart => exact ⟨rfl, hbel⟩
      case round =>
        clear hbel
        obtain ⟨rfl, hbel⟩ := hrel
        go_wp2_with fail
        go_loopw [11, 12, 13] (fun i _ _ wr => i = .int .i64 0 ∧ Below w.heap.size w wr) (fun _ _ _ _ => 0)
        case atStart => exact ⟨rfl, hbel⟩
        case round =>
          clear hbel
          obtain ⟨rfl, hbel⟩ := hrel
          go_wp2_with fail
          go_loopw [14, 15] (fun i _ wr => i = .int .i64 0 ∧ Below w.heap.size w wr) (fun _ _ _ => 0)
          case atStart => exact ⟨rfl, hbel⟩
          case round =>
            clear hbel
            obtain ⟨rfl, hbel⟩ := hrel
            go_wp2_with fail
            go_ret
            exact ⟨rfl, hbel⟩
theorem flatNil_Lexes (w : World) : Calls Tryz.prog 31 #[.slice none 0 0] w fun e w' => e = .returned (.bool true) ∧ Below w.heap.size w w' := by
  have hmk : ∀ w, (Instr.makeSlice 59 (.int .i64 0) (.int .i64 0)).run Tryz.prog w = .ok (.slice (some ⟨w.heap.size, 0, none⟩) 0 0) (w.alloc (.cells #[] 134)) := fun _ => by kernel_rfl
  go_enter Tryz.func31, Tryz.ntmps31
  go_wp2_with fail
  go_loopw [3, 4] (fun i _ wr => i = .int .i64 0 ∧ Below w.heap.size w wr) (fun _ _ _ => 0)
  case atStart => exact ⟨rfl, Below.refl _ _⟩
  case round =>
    obtain ⟨rfl, hbel⟩ := hrel
    have hb : Below w.heap.size w (wr.alloc (.cells #[] 134)) := hbel.alloc hbel.size _
    go_wp2_with fail
    generalize wr.alloc (.cells #[] 134) = w1 at hb ⊢
    go_loopw [6, 7, 8] (fun i _ _ wr => i = .int .i64 0 ∧ Below w.heap.size w wr) (fun _ _ _ _ => 0)
    case atStart => exact ⟨rfl, hb⟩
    case round =>
      clear hb hbel
      obtain ⟨rfl, hbel⟩ := hrel
      go_wp2_with fail
      go_loopw [9, 10] (fun i _ wr => i = .int .i64 0 ∧ Below w.heap.size w wr) (fun _ _ _ => 0)
      case atStart => exact ⟨rfl, hbel⟩
      case round =>
        clear hbel
        obtain ⟨rfl, hbel⟩ := hrel
        go_wp2_with fail
        go_loopw [11, 12, 13] (fun i _ _ wr => i = .int .i64 0 ∧ Below w.heap.size w wr) (fun _ _ _ _ => 0)
        case atStart => exact ⟨rfl, hbel⟩
        case round =>
          clear hbel
          obtain ⟨rfl, hbel⟩ := hrel
          go_wp2_with fail
          go_loopw [14, 15] (fun i _ wr => i = .int .i64 0 ∧ Below w.heap.size w wr) (fun _ _ _ => 0)
          case atStart => exact ⟨rfl, hbel⟩
          case round =>
            clear hbel
            obtain ⟨rfl, hbel⟩ := hrel
            go_wp2_with fail
            go_ret
            exact ⟨rfl, hbel⟩
theorem flatNil_Nodes (w : World) : Calls Tryz.prog 32 #[.slice none 0 0] w fun e w' => e = .returned (.bool true) ∧ Below w.heap.size w w' := by
  have hmk : ∀ w, (Instr.makeSlice 60 (.int .i64 0) (.int .i64 0)).run Tryz.prog w = .ok (.slice (some ⟨w.heap.size, 0, none⟩) 0 0) (w.alloc (.cells #[] 139)) := fun _ => by kernel_rfl
  go_enter Tryz.func32, Tryz.ntmps32
  go_wp2_with fail
  go_loopw [3, 4] (fun i _ wr => i = .int .i64 0 ∧ Below w.heap.size w wr) (fun _ _ _ => 0)
  case atStart => exact ⟨rfl, Below.refl _ _⟩
  case round =>
    obtain ⟨rfl, hbel⟩ := hrel
    have hb : Below w.heap.size w (wr.alloc (.cells #[] 139)) := hbel.alloc hbel.size _
    go_wp2_with fail
    generalize wr.alloc (.cells #[] 139) = w1 at hb ⊢
    go_loopw [6, 7, 8] (fun i _ _ wr => i = .int .i64 0 ∧ Below w.heap.size w wr) (fun _ _ _ _ => 0)
    case atStart => exact ⟨rfl, hb⟩
    case round =>
      clear hb hbel
      obtain ⟨rfl, hbel⟩ := hrel
      go_wp2_with fail
      go_loopw [9, 10] (fun i _ wr => i = .int .i64 0 ∧ Below w.heap.size w wr) (fun _ _ _ => 0)
      case atStart => exact ⟨rfl, hbel⟩
      case round =>
        clear hbel
        obtain ⟨rfl, hbel⟩ := hrel
        go_wp2_with fail
        go_loopw [11, 12, 13] (fun i _ _ wr => i = .int .i64 0 ∧ Below w.heap.size w wr) (fun _ _ _ _ => 0)
        case atStart => exact ⟨rfl, hbel⟩
        case round =>
          clear hbel
          obtain ⟨rfl, hbel⟩ := hrel
          go_wp2_with fail
          go_loopw [14, 15] (fun i _ wr => i = .int .i64 0 ∧ Below w.heap.size w wr) (fun _ _ _ => 0)
          case atStart => exact ⟨rfl, hbel⟩
          case round =>
            clear hbel
            obtain ⟨rfl, hbel⟩ := hrel
            go_wp2_with fail
            go_ret
            exact ⟨rfl, hbel⟩
theorem flatNil_Exprs (w : World) : Calls Tryz.prog 33 #[.slice none 0 0] w fun e w' => e = .returned (.bool true) ∧ Below w.heap.size w w' := by
  have hmk : ∀ w, (Instr.makeSlice 61 (.int .i64 0) (.int .i64 0)).run Tryz.prog w = .ok (.slice (some ⟨w.heap.size, 0, none⟩) 0 0) (w.alloc (.cells #[] 145)) := fun _ => by kernel_rfl
  go_enter Tryz.func33, Tryz.ntmps33
  go_wp2_with fail
  go_loopw [3, 4] (fun i _ wr => i = .int .i64 0 ∧ Below w.heap.size w wr) (fun _ _ _ => 0)
  case atStart => exact ⟨rfl, Below.refl _ _⟩
  case round =>
    obtain ⟨rfl, hbel⟩ := hrel
    have hb : Below w.heap.size w (wr.alloc (.cells #[] 145)) := hbel.alloc hbel.size _
    go_wp2_with fail
    generalize wr.alloc (.cells #[] 145) = w1 at hb ⊢
    go_loopw [6, 7, 8] (fun i _ _ wr => i = .int .i64 0 ∧ Below w.heap.size w wr) (fun _ _ _ _ => 0)
    case atStart => exact ⟨rfl, hb⟩
    case round =>
      clear hb hbel
      obtain ⟨rfl, hbel⟩ := hrel
      go_wp2_with fail
      go_loopw [9, 10] (fun i _ wr => i = .int .i64 0 ∧ Below w.heap.size w wr) (fun _ _ _ => 0)
      case atStart => exact ⟨rfl, hbel⟩
      case round =>
        clear hbel
        obtain ⟨rfl, hbel⟩ := hrel
        go_wp2_with fail
        go_loopw [11, 12, 13] (fun i _ _ wr => i = .int .i64 0 ∧ Below w.heap.size w wr) (fun _ _ _ _ => 0)
        case atStart => exact ⟨rfl, hbel⟩
        case round =>
          clear hbel
          obtain ⟨rfl, hbel⟩ := hrel
          go_wp2_with fail
          go_loopw [14, 15] (fun i _ wr => i = .int .i64 0 ∧ Below w.heap.size w wr) (fun _ _ _ => 0)
          case atStart => exact ⟨rfl, hbel⟩
          case round =>
            clear hbel
            obtain ⟨rfl, hbel⟩ := hrel
            go_wp2_with fail
            go_ret
            exact ⟨rfl, hbel⟩
theorem flatNil_Args (w : World) : Calls Tryz.prog 34 #[.slice none 0 0] w fun e w' => e = .returned (.bool true) ∧ Below w.heap.size w w' := by
  have hmk : ∀ w, (Instr.makeSlice 62 (.int .i64 0) (.int .i64 0)).run Tryz.prog w = .ok (.slice (some ⟨w.heap.size, 0, none⟩) 0 0) (w.alloc (.cells #[] 152)) := fun _ => by kernel_rfl
  go_enter Tryz.func34, Tryz.ntmps34
  go_wp2_with fail
  go_loopw [3, 4] (fun i _ wr => i = .int .i64 0 ∧ Below w.heap.size w wr) (fun _ _ _ => 0)
  case atStart => exact ⟨rfl, Below.refl _ _⟩
  case round =>
    obtain ⟨rfl, hbel⟩ := hrel
    have hb : Below w.heap.size w (wr.alloc (.cells #[] 152)) := hbel.alloc hbel.size _
    go_wp2_with fail
    generalize wr.alloc (.cells #[] 152) = w1 at hb ⊢
    go_loopw [6, 7, 8] (fun i _ _ wr => i = .int .i64 0 ∧ Below w.heap.size w wr) (fun _ _ _ _ => 0)
    case atStart => exact ⟨rfl, hb⟩
    case round =>
      clear hb hbel
      obtain ⟨rfl, hbel⟩ := hrel
      go_wp2_with fail
      go_loopw [9, 10] (fun i _ wr => i = .int .i64 0 ∧ Below w.heap.size w wr) (fun _ _ _ => 0)
      case atStart => exact ⟨rfl, hbel⟩
      case round =>
        clear hbel
        obtain ⟨rfl, hbel⟩ := hrel
        go_wp2_with fail
        go_loopw [11, 12, 13] (fun i _ _ wr => i = .int .i64 0 ∧ Below w.heap.size w wr) (fun _ _ _ _ => 0)
        case atStart => exact ⟨rfl, hbel⟩
        case round =>
          clear hbel
          obtain ⟨rfl, hbel⟩ := hrel
          go_wp2_with fail
          go_loopw [14, 15] (fun i _ wr => i = .int .i64 0 ∧ Below w.heap.size w wr) (fun _ _ _ => 0)
          case atStart => exact ⟨rfl, hbel⟩
          case round =>
            clear hbel
            obtain ⟨rfl, hbel⟩ := hrel
            go_wp2_with fail
            go_ret
            exact ⟨rfl, hbel⟩
theorem flatNil_Conds (w : World) : Calls Tryz.prog 35 #[.slice none 0 0] w fun e w' => e = .returned (.bool true) ∧ Below w.heap.size w w' := by
  have hmk : ∀ w, (Instr.makeSlice 63 (.int .i64 0) (.int .i64 0)).run Tryz.prog w = .ok (.slice (some ⟨w.heap.size, 0, none⟩) 0 0) (w.alloc (.cells #[] 157)) := fun _ => by kernel_rfl
  go_enter Tryz.func35, Tryz.ntmps35
  go_wp2_with fail
  go_loopw [3, 4] (fun i _ wr => i = .int .i64 0 ∧ Below w.heap.size w wr) (fun _ _ _ => 0)
  case atStart => exact ⟨rfl, Below.refl _ _⟩
  case round =>
    obtain ⟨rfl, hbel⟩ := hrel
    have hb : Below w.heap.size w (wr.alloc (.cells #[] 157)) := hbel.alloc hbel.size _
    go_wp2_with fail
    generalize wr.alloc (.cells #[] 157) = w1 at hb ⊢
    go_loopw [6, 7, 8] (fun i _ _ wr => i = .int .i64 0 ∧ Below w.heap.size w wr) (fun _ _ _ _ => 0)
    case atStart => exact ⟨rfl, hb⟩
    case round =>
      clear hb hbel
      obtain ⟨rfl, hbel⟩ := hrel
      go_wp2_with fail
      go_loopw [9, 10] (fun i _ wr => i = .int .i64 0 ∧ Below w.heap.size w wr) (fun _ _ _ => 0)
      case atStart => exact ⟨rfl, hbel⟩
      case round =>
        clear hbel
        obtain ⟨rfl, hbel⟩ := hrel
        go_wp2_with fail
        go_loopw [11, 12, 13] (fun i _ _ wr => i = .int .i64 0 ∧ Below w.heap.size w wr) (fun _ _ _ _ => 0)
        case atStart => exact ⟨rfl, hbel⟩
        case round =>
          clear hbel
          obtain ⟨rfl, hbel⟩ := hrel
          go_wp2_with fail
          go_loopw [14, 15] (fun i _ wr => i = .int .i64 0 ∧ Below w.heap.size w wr) (fun _ _ _ => 0)
          case atStart => exact ⟨rfl, hbel⟩
          case round =>
            clear hbel
            obtain ⟨rfl, hbel⟩ := hrel
            go_wp2_with fail
            go_ret
            exact ⟨rfl, hbel⟩
theorem flatNil_Acts (w : World) : Calls Tryz.prog 36 #[.slice none 0 0] w fun e w' => e = .returned (.bool true) ∧ Below w.heap.size w w' := by
  have hmk : ∀ w, (Instr.makeSlice 64 (.int .i64 0) (.int .i64 0)).run Tryz.prog w = .ok (.slice (some ⟨w.heap.size, 0, none⟩) 0 0) (w.alloc (.cells #[] 163)) := fun _ => by kernel_rfl
  go_enter Tryz.func36, Tryz.ntmps36
  go_wp2_with fail
  go_loopw [3, 4] (fun i _ wr => i = .int .i64 0 ∧ Below w.heap.size w wr) (fun _ _ _ => 0)
  case atStart => exact ⟨rfl, Below.refl _ _⟩
  case round =>
    obtain ⟨rfl, hbel⟩ := hrel
    have hb : Below w.heap.size w (wr.alloc (.cells #[] 163)) := hbel.alloc hbel.size _
    go_wp2_with fail
    generalize wr.alloc (.cells #[] 163) = w1 at hb ⊢
    go_loopw [6, 7, 8] (fun i _ _ wr => i = .int .i64 0 ∧ Below w.heap.size w wr) (fun _ _ _ _ => 0)
    case atStart => exact ⟨rfl, hb⟩
    case round =>
      clear hb hbel
      obtain ⟨rfl, hbel⟩ := hrel
      go_wp2_with fail
      go_loopw [9, 10] (fun i _ wr => i = .int .i64 0 ∧ Below w.heap.size w wr) (fun _ _ _ => 0)
      case atStart => exact ⟨rfl, hbel⟩
      case round =>
        clear hbel
        obtain ⟨rfl, hbel⟩ := hrel
        go_wp2_with fail
        go_loopw [11, 12, 13] (fun i _ _ wr => i = .int .i64 0 ∧ Below w.heap.size w wr) (fun _ _ _ _ => 0)
        case atStart => exact ⟨rfl, hbel⟩
        case round =>
          clear hbel
          obtain ⟨rfl, hbel⟩ := hrel
          go_wp2_with fail
          go_loopw [14, 15] (fun i _ wr => i = .int .i64 0 ∧ Below w.heap.size w wr) (fun _ _ _ => 0)
          case atStart => exact ⟨rfl, hbel⟩
          case round =>
            clear hbel
            obtain ⟨rfl, hbel⟩ := hrel
            go_wp2_with fail
            go_ret
            exact ⟨rfl, hbel⟩
theorem flatNil_Types (w : World) : Calls Tryz.prog 37 #[.slice none 0 0] w fun e w' => e = .returned (.bool true) ∧ Below w.heap.size w w' := by
  have hmk : ∀ w, (Instr.makeSlice 65 (.int .i64 0) (.int .i64 0)).run Tryz.prog w = .ok (.slice (some ⟨w.heap.size, 0, none⟩) 0 0) (w.alloc (.cells #[] 169)) := fun _ => by kernel_rfl
  go_enter Tryz.func37, Tryz.ntmps37
  go_wp2_with fail
  go_loopw [3, 4] (fun i _ wr => i = .int .i64 0 ∧ Below w.heap.size w wr) (fun _ _ _ => 0)
  case atStart => exact ⟨rfl, Below.refl _ _⟩
  case round =>
    obtain ⟨rfl, hbel⟩ := hrel
    have hb : Below w.heap.size w (wr.alloc (.cells #[] 169)) := hbel.alloc hbel.size _
    go_wp2_with fail
    generalize wr.alloc (.cells #[] 169) = w1 at hb ⊢
    go_loopw [6, 7, 8] (fun i _ _ wr => i = .int .i64 0 ∧ Below w.heap.size w wr) (fun _ _ _ _ => 0)
    case atStart => exact ⟨rfl, hb⟩
    case round =>
      clear hb hbel
      obtain ⟨rfl, hbel⟩ := hrel
      go_wp2_with fail
      go_loopw [9, 10] (fun i _ wr => i = .int .i64 0 ∧ Below w.heap.size w wr) (fun _ _ _ => 0)
      case atStart => exact ⟨rfl, hbel⟩
      case round =>
        clear hbel
        obtain ⟨rfl, hbel⟩ := hrel
        go_wp2_with fail
        go_loopw [11, 12, 13] (fun i _ _ wr => i = .int .i64 0 ∧ Below w.heap.size w wr) (fun _ _ _ _ => 0)
        case atStart => exact ⟨rfl, hbel⟩
        case round =>
          clear hbel
          obtain ⟨rfl, hbel⟩ := hrel
          go_wp2_with fail
          go_loopw [14, 15] (fun i _ wr => i = .int .i64 0 ∧ Below w.heap.size w wr) (fun _ _ _ => 0)
          case atStart => exact ⟨rfl, hbel⟩
          case round =>
            clear hbel
            obtain ⟨rfl, hbel⟩ := hrel
            go_wp2_with fail
            go_ret
            exact ⟨rfl, hbel⟩
theorem flatNil_RuleRow (w : World) : Calls Tryz.prog 38 #[.slice none 0 0] w fun e w' => e = .returned (.bool true) ∧ Below w.heap.size w w' := by
  have hmk : ∀ w, (Instr.makeSlice 66 (.int .i64 0) (.int .i64 0)).run Tryz.prog w = .ok (.slice (some ⟨w.heap.size, 0, none⟩) 0 0) (w.alloc (.cells #[] 173)) := fun _ => by kernel_rfl
  go_enter Tryz.func38, Tryz.ntmps38
  go_wp2_with fail
  go_loopw [3, 4] (fun i _ wr => i = .int .i64 0 ∧ Below w.heap.size w wr) (fun _ _ _ => 0)
  case atStart => exact ⟨rfl, Below.refl _ _⟩
  case round =>
    obtain ⟨rfl, hbel⟩ := hrel
    have hb : Below w.heap.size w (wr.alloc (.cells #[] 173)) := hbel.alloc hbel.size _
    go_wp2_with fail
    generalize wr.alloc (.cells #[] 173) = w1 at hb ⊢
    go_loopw [6, 7, 8] (fun i _ _ wr => i = .int .i64 0 ∧ Below w.heap.size w wr) (fun _ _ _ _ => 0)
    case atStart => exact ⟨rfl, hb⟩
    case round =>
      clear hb hbel
      obtain ⟨rfl, hbel⟩ := hrel
      go_wp2_with fail
      go_loopw [9, 10] (fun i _ wr => i = .int .i64 0 ∧ Below w.heap.size w wr) (fun _ _ _ => 0)
      case atStart => exact ⟨rfl, hbel⟩
      case round =>
        clear hbel
        obtain ⟨rfl, hbel⟩ := hrel
        go_wp2_with fail
        go_loopw [11, 12, 13] (fun i _ _ wr => i = .int .i64 0 ∧ Below w.heap.size w wr) (fun _ _ _ _ => 0)
        case atStart => exact ⟨rfl, hbel⟩
        case round =>
          clear hbel
          obtain ⟨rfl, hbel⟩ := hrel
          go_wp2_with fail
          go_loopw [14, 15] (fun i _ wr => i = .int .i64 0 ∧ Below w.heap.size w wr) (fun _ _ _ => 0)
          case atStart => exact ⟨rfl, hbel⟩
          case round =>
            clear hbel
            obtain ⟨rfl, hbel⟩ := hrel
            go_wp2_with fail
            go_ret
            exact ⟨rfl, hbel⟩
theorem flatNil_RulesRow (w : World) : Calls Tryz.prog 39 #[.slice none 0 0] w fun e w' => e = .returned (.bool true) ∧ Below w.heap.size w w' := by
  have hmk : ∀ w, (Instr.makeSlice 67 (.int .i64 0) (.int .i64 0)).run Tryz.prog w = .ok (.slice (some ⟨w.heap.size, 0, none⟩) 0 0) (w.alloc (.cells #[] 178)) := fun _ => by kernel_rfl
  go_enter Tryz.func39, Tryz.ntmps39
  go_wp2_with fail
  go_loopw [3, 4] (fun i _ wr => i = .int .i64 0 ∧ Below w.heap.size w wr) (fun _ _ _ => 0)
  case atStart => exact ⟨rfl, Below.refl _ _⟩
  case round =>
    obtain ⟨rfl, hbel⟩ := hrel
    have hb : Below w.heap.size w (wr.alloc (.cells #[] 178)) := hbel.alloc hbel.size _
    go_wp2_with fail
    generalize wr.alloc (.cells #[] 178) = w1 at hb ⊢
    go_loopw [6, 7, 8] (fun i _ _ wr => i = .int .i64 0 ∧ Below w.heap.size w wr) (fun _ _ _ _ => 0)
    case atStart => exact ⟨rfl, hb⟩
    case round =>
      clear hb hbel
      obtain ⟨rfl, hbel⟩ := hrel
      go_wp2_with fail
      go_loopw [9, 10] (fun i _ wr => i = .int .i64 0 ∧ Below w.heap.size w wr) (fun _ _ _ => 0)
      case atStart => exact ⟨rfl, hbel⟩
      case round =>
        clear hbel
        obtain ⟨rfl, hbel⟩ := hrel
        go_wp2_with fail
        go_loopw [11, 12, 13] (fun i _ _ wr => i = .int .i64 0 ∧ Below w.heap.size w wr) (fun _ _ _ _ => 0)
        case atStart => exact ⟨rfl, hbel⟩
        case round =>
          clear hbel
          obtain ⟨rfl, hbel⟩ := hrel
          go_wp2_with fail
          go_loopw [14, 15] (fun i _ wr => i = .int .i64 0 ∧ Below w.heap.size w wr) (fun _ _ _ => 0)
          case atStart => exact ⟨rfl, hbel⟩
          case round =>
            clear hbel
            obtain ⟨rfl, hbel⟩ := hrel
            go_wp2_with fail
            go_ret
            exact ⟨rfl, hbel⟩
theorem flatNil_Tokens (w : World) : Calls Tryz.prog 40 #[.slice none 0 0] w fun e w' => e = .returned (.bool true) ∧ Below w.heap.size w w' := by
  have hmk : ∀ w, (Instr.makeSlice 68 (.int .i64 0) (.int .i64 0)).run Tryz.prog w = .ok (.slice (some ⟨w.heap.size, 0, none⟩) 0 0) (w.alloc (.cells #[] 183)) := fun _ => by kernel_rfl
  go_enter Tryz.func40, Tryz.ntmps40
  go_wp2_with fail
  go_loopw [3, 4] (fun i _ wr => i = .int .i64 0 ∧ Below w.heap.size w wr) (fun _ _ _ => 0)
  case atStart => exact ⟨rfl, Below.refl _ _⟩
  case round =>
    obtain ⟨rfl, hbel⟩ := hrel
    have hb : Below w.heap.size w (wr.alloc (.cells #[] 183)) := hbel.alloc hbel.size _
    go_wp2_with fail
    generalize wr.alloc (.cells #[] 183) = w1 at hb ⊢
    go_loopw [6, 7, 8] (fun i _ _ wr => i = .int .i64 0 ∧ Below w.heap.size w wr) (fun _ _ _ _ => 0)
    case atStart => exact ⟨rfl, hb⟩
    case round =>
      clear hb hbel
      obtain ⟨rfl, hbel⟩ := hrel
      go_wp2_with fail
      go_loopw [9, 10] (fun i _ wr => i = .int .i64 0 ∧ Below w.heap.size w wr) (fun _ _ _ => 0)
      case atStart => exact ⟨rfl, hbel⟩
      case round =>
        clear hbel
        obtain ⟨rfl, hbel⟩ := hrel
        go_wp2_with fail
        go_loopw [11, 12, 13] (fun i _ _ wr => i = .int .i64 0 ∧ Below w.heap.size w wr) (fun _ _ _ _ => 0)
        case atStart => exact ⟨rfl, hbel⟩
        case round =>
          clear hbel
          obtain ⟨rfl, hbel⟩ := hrel
          go_wp2_with fail
          go_loopw [14, 15] (fun i _ wr => i = .int .i64 0 ∧ Below w.heap.size w wr) (fun _ _ _ => 0)
          case atStart => exact ⟨rfl, hbel⟩
          case round =>
            clear hbel
            obtain ⟨rfl, hbel⟩ := hrel
            go_wp2_with fail
            go_ret
            exact ⟨rfl, hbel⟩
theorem flatNil_Commands (w : World) : Calls Tryz.prog 41 #[.slice none 0 0] w fun e w' => e = .returned (.bool true) ∧ Below w.heap.size w w' := by
  have hmk : ∀ w, (Instr.makeSlice 69 (.int .i64 0) (.int .i64 0)).run Tryz.prog w = .ok (.slice (some ⟨w.heap.size, 0, none⟩) 0 0) (w.alloc (.cells #[] 188)) := fun _ => by kernel_rfl
  go_enter Tryz.func41, Tryz.ntmps41
  go_wp2_with fail
  go_loopw [3, 4] (fun i _ wr => i = .int .i64 0 ∧ Below w.heap.size w wr) (fun _ _ _ => 0)
  case atStart => exact ⟨rfl, Below.refl _ _⟩
  case round =>
    obtain ⟨rfl, hbel⟩ := hrel
    have hb : Below w.heap.size w (wr.alloc (.cells #[] 188)) := hbel.alloc hbel.size _
    go_wp2_with fail
    generalize wr.alloc (.cells #[] 188) = w1 at hb ⊢
    go_loopw [6, 7, 8] (fun i _ _ wr => i = .int .i64 0 ∧ Below w.heap.size w wr) (fun _ _ _ _ => 0)
    case atStart => exact ⟨rfl, hb⟩
    case round =>
      clear hb hbel
      obtain ⟨rfl, hbel⟩ := hrel
      go_wp2_with fail
      go_loopw [9, 10] (fun i _ wr => i = .int .i64 0 ∧ Below w.heap.size w wr) (fun _ _ _ => 0)
      case atStart => exact ⟨rfl, hbel⟩
      case round =>
        clear hbel
        obtain ⟨rfl, hbel⟩ := hrel
        go_wp2_with fail
        go_loopw [11, 12, 13] (fun i _ _ wr => i = .int .i64 0 ∧ Below w.heap.size w wr) (fun _ _ _ _ => 0)
        case atStart => exact ⟨rfl, hbel⟩
        case round =>
          clear hbel
          obtain ⟨rfl, hbel⟩ := hrel
          go_wp2_with fail
          go_loopw [14, 15] (fun i _ wr => i = .int .i64 0 ∧ Below w.heap.size w wr) (fun _ _ _ => 0)
          case atStart => exact ⟨rfl, hbel⟩
          case round =>
            clear hbel
            obtain ⟨rfl, hbel⟩ := hrel
            go_wp2_with fail
            go_ret
            exact ⟨rfl, hbel⟩
theorem flatNil_Replies (w : World) : Calls Tryz.prog 42 #[.slice none 0 0] w fun e w' => e = .returned (.bool true) ∧ Below w.heap.size w w' := by
  have hmk : ∀ w, (Instr.makeSlice 70 (.int .i64 0) (.int .i64 0)).run Tryz.prog w = .ok (.slice (some ⟨w.heap.size, 0, none⟩) 0 0) (w.alloc (.cells #[] 191)) := fun _ => by kernel_rfl
  go_enter Tryz.func42, Tryz.ntmps42
  go_wp2_with fail
  go_loopw [3, 4] (fun i _ wr => i = .int .i64 0 ∧ Below w.heap.size w wr) (fun _ _ _ => 0)
  case atStart => exact ⟨rfl, Below.refl _ _⟩
  case round =>
    obtain ⟨rfl, hbel⟩ := hrel
    have hb : Below w.heap.size w (wr.alloc (.cells #[] 191)) := hbel.alloc hbel.size _
    go_wp2_with fail
    generalize wr.alloc (.cells #[] 191) = w1 at hb ⊢
    go_loopw [6, 7, 8] (fun i _ _ wr => i = .int .i64 0 ∧ Below w.heap.size w wr) (fun _ _ _ _ => 0)
    case atStart => exact ⟨rfl, hb⟩
    case round =>
      clear hb hbel
      obtain ⟨rfl, hbel⟩ := hrel
      go_wp2_with fail
      go_loopw [9, 10] (fun i _ wr => i = .int .i64 0 ∧ Below w.heap.size w wr) (fun _ _ _ => 0)
      case atStart => exact ⟨rfl, hbel⟩
      case round =>
        clear hbel
        obtain ⟨rfl, hbel⟩ := hrel
        go_wp2_with fail
        go_loopw [11, 12, 13] (fun i _ _ wr => i = .int .i64 0 ∧ Below w.heap.size w wr) (fun _ _ _ _ => 0)
        case atStart => exact ⟨rfl, hbel⟩
        case round =>
          clear hbel
          obtain ⟨rfl, hbel⟩ := hrel
          go_wp2_with fail
          go_loopw [14, 15] (fun i _ wr => i = .int .i64 0 ∧ Below w.heap.size w wr) (fun _ _ _ => 0)
          case atStart => exact ⟨rfl, hbel⟩
          case round =>
            clear hbel
            obtain ⟨rfl, hbel⟩ := hrel
            go_wp2_with fail
            go_ret
            exact ⟨rfl, hbel⟩
theorem flatNil_Entries (w : World) : Calls Tryz.prog 43 #[.slice none 0 0] w fun e w' => e = .returned (.bool true) ∧ Below w.heap.size w w' := by
  have hmk : ∀ w, (Instr.makeSlice 29 (.int .i64 0) (.int .i64 0)).run Tryz.prog w = .ok (.slice (some ⟨w.heap.size, 0, none⟩) 0 0) (w.alloc (.cells #[] 22)) := fun _ => by kernel_rfl
  go_enter Tryz.func43, Tryz.ntmps43
  go_wp2_with fail
  go_loopw [3, 4] (fun i _ wr => i = .int .i64 0 ∧ Below w.heap.size w wr) (fun _ _ _ => 0)
  case atStart => exact ⟨rfl, Below.refl _ _⟩
  case round =>
    obtain ⟨rfl, hbel⟩ := hrel
    have hb : Below w.heap.size w (wr.alloc (.cells #[] 22)) := hbel.alloc hbel.size _
    go_wp2_with fail
    generalize wr.alloc (.cells #[] 22) = w1 at hb ⊢
    go_loopw [6, 7, 8] (fun i _ _ wr => i = .int .i64 0 ∧ Below w.heap.size w wr) (fun _ _ _ _ => 0)
    case atStart => exact ⟨rfl, hb⟩
    case round =>
      clear hb hbel
      obtain ⟨rfl, hbel⟩ := hrel
      go_wp2_with fail
      go_loopw [9, 10] (fun i _ wr => i = .int .i64 0 ∧ Below w.heap.size w wr) (fun _ _ _ => 0)
      case atStart => exact ⟨rfl, hbel⟩
      case round =>
        clear hbel
        obtain ⟨rfl, hbel⟩ := hrel
        go_wp2_with fail
        go_loopw [11, 12, 13] (fun i _ _ wr => i = .int .i64 0 ∧ Below w.heap.size w wr) (fun _ _ _ _ => 0)
        case atStart => exact ⟨rfl, hbel⟩
        case round =>
          clear hbel
          obtain ⟨rfl, hbel⟩ := hrel
          go_wp2_with fail
          go_loopw [14, 15] (fun i _ wr => i = .int .i64 0 ∧ Below w.heap.size w wr) (fun _ _ _ => 0)
          case atStart => exact ⟨rfl, hbel⟩
          case round =>
            clear hbel
            obtain ⟨rfl, hbel⟩ := hrel
            go_wp2_with fail
            go_ret
            exact ⟨rfl, hbel⟩
theorem flatNil_Letters (w : World) : Calls Tryz.prog 44 #[.slice none 0 0] w fun e w' => e = .returned (.bool true) ∧ Below w.heap.size w w' := by
  have hmk : ∀ w, (Instr.makeSlice 71 (.int .i64 0) (.int .i64 0)).run Tryz.prog w = .ok (.slice (some ⟨w.heap.size, 0, none⟩) 0 0) (w.alloc (.cells #[] 198)) := fun _ => by kernel_rfl
  go_enter Tryz.func44, Tryz.ntmps44
  go_wp2_with fail
  go_loopw [3, 4] (fun i _ wr => i = .int .i64 0 ∧ Below w.heap.size w wr) (fun _ _ _ => 0)
  case atStart => exact ⟨rfl, Below.refl _ _⟩
  case round =>
    obtain ⟨rfl, hbel⟩ := hrel
    have hb : Below w.heap.size w (wr.alloc (.cells #[] 198)) := hbel.alloc hbel.size _
    go_wp2_with fail
    generalize wr.alloc (.cells #[] 198) = w1 at hb ⊢
    go_loopw [6, 7, 8] (fun i _ _ wr => i = .int .i64 0 ∧ Below w.heap.size w wr) (fun _ _ _ _ => 0)
    case atStart => exact ⟨rfl, hb⟩
    case round =>
      clear hb hbel
      obtain ⟨rfl, hbel⟩ := hrel
      go_wp2_with fail
      go_loopw [9, 10] (fun i _ wr => i = .int .i64 0 ∧ Below w.heap.size w wr) (fun _ _ _ => 0)
      case atStart => exact ⟨rfl, hbel⟩
      case round =>
        clear hbel
        obtain ⟨rfl, hbel⟩ := hrel
        go_wp2_with fail
        go_loopw [11, 12, 13] (fun i _ _ wr => i = .int .i64 0 ∧ Below w.heap.size w wr) (fun _ _ _ _ => 0)
        case atStart => exact ⟨rfl, hbel⟩
        case round =>
          clear hbel
          obtain ⟨rfl, hbel⟩ := hrel
          go_wp2_with fail
          go_loopw [14, 15] (fun i _ wr => i = .int .i64 0 ∧ Below w.heap.size w wr) (fun _ _ _ => 0)
          case atStart => exact ⟨rfl, hbel⟩
          case round =>
            clear hbel
            obtain ⟨rfl, hbel⟩ := hrel
            go_wp2_with fail
            go_ret
            exact ⟨rfl, hbel⟩
theorem flatNil_Snaps (w : World) : Calls Tryz.prog 45 #[.slice none 0 0] w fun e w' => e = .returned (.bool true) ∧ Below w.heap.size w w' := by
  have hmk : ∀ w, (Instr.makeSlice 72 (.int .i64 0) (.int .i64 0)).run Tryz.prog w = .ok (.slice (some ⟨w.heap.size, 0, none⟩) 0 0) (w.alloc (.cells #[] 204)) := fun _ => by kernel_rfl
  go_enter Tryz.func45, Tryz.ntmps45
  go_wp2_with fail
  go_loopw [3, 4] (fun i _ wr => i = .int .i64 0 ∧ Below w.heap.size w wr) (fun _ _ _ => 0)
  case atStart => exact ⟨rfl, Below.refl _ _⟩
  case round =>
    obtain ⟨rfl, hbel⟩ := hrel
    have hb : Below w.heap.size w (wr.alloc (.cells #[] 204)) := hbel.alloc hbel.size _
    go_wp2_with fail
    generalize wr.alloc (.cells #[] 204) = w1 at hb ⊢
    go_loopw [6, 7, 8] (fun i _ _ wr => i = .int .i64 0 ∧ Below w.heap.size w wr) (fun _ _ _ _ => 0)
    case atStart => exact ⟨rfl, hb⟩
    case round =>
      clear hb hbel
      obtain ⟨rfl, hbel⟩ := hrel
      go_wp2_with fail
      go_loopw [9, 10] (fun i _ wr => i = .int .i64 0 ∧ Below w.heap.size w wr) (fun _ _ _ => 0)
      case atStart => exact ⟨rfl, hbel⟩
      case round =>
        clear hbel
        obtain ⟨rfl, hbel⟩ := hrel
        go_wp2_with fail
        go_loopw [11, 12, 13] (fun i _ _ wr => i = .int .i64 0 ∧ Below w.heap.size w wr) (fun _ _ _ _ => 0)
        case atStart => exact ⟨rfl, hbel⟩
        case round =>
          clear hbel
          obtain ⟨rfl, hbel⟩ := hrel
          go_wp2_with fail
          go_loopw [14, 15] (fun i _ wr => i = .int .i64 0 ∧ Below w.heap.size w wr) (fun _ _ _ => 0)
          case atStart => exact ⟨rfl, hbel⟩
          case round =>
            clear hbel
            obtain ⟨rfl, hbel⟩ := hrel
            go_wp2_with fail
            go_ret
            exact ⟨rfl, hbel⟩
theorem flatNil_Steps (w : World) : Calls Tryz.prog 46 #[.slice none 0 0] w fun e w' => e = .returned (.bool true) ∧ Below w.heap.size w w' := by
  have hmk : ∀ w, (Instr.makeSlice 73 (.int .i64 0) (.int .i64 0)).run Tryz.prog w = .ok (.slice (some ⟨w.heap.size, 0, none⟩) 0 0) (w.alloc (.cells #[] 209)) := fun _ => by kernel_rfl
  go_enter Tryz.func46, Tryz.ntmps46
  go_wp2_with fail
  go_loopw [3, 4] (fun i _ wr => i = .int .i64 0 ∧ Below w.heap.size w wr) (fun _ _ _ => 0)
  case atStart => exact ⟨rfl, Below.refl _ _⟩
  case round =>
    obtain ⟨rfl, hbel⟩ := hrel
    have hb : Below w.heap.size w (wr.alloc (.cells #[] 209)) := hbel.alloc hbel.size _
    go_wp2_with fail
    generalize wr.alloc (.cells #[] 209) = w1 at hb ⊢
    go_loopw [6, 7, 8] (fun i _ _ wr => i = .int .i64 0 ∧ Below w.heap.size w wr) (fun _ _ _ _ => 0)
    case atStart => exact ⟨rfl, hb⟩
    case round =>
      clear hb hbel
      obtain ⟨rfl, hbel⟩ := hrel
      go_wp2_with fail
      go_loopw [9, 10] (fun i _ wr => i = .int .i64 0 ∧ Below w.heap.size w wr) (fun _ _ _ => 0)
      case atStart => exact ⟨rfl, hbel⟩
      case round =>
        clear hbel
        obtain ⟨rfl, hbel⟩ := hrel
        go_wp2_with fail
        go_loopw [11, 12, 13] (fun i _ _ wr => i = .int .i64 0 ∧ Below w.heap.size w wr) (fun _ _ _ _ => 0)
        case atStart => exact ⟨rfl, hbel⟩
        case round =>
          clear hbel
          obtain ⟨rfl, hbel⟩ := hrel
          go_wp2_with fail
          go_loopw [14, 15] (fun i _ wr => i = .int .i64 0 ∧ Below w.heap.size w wr) (fun _ _ _ => 0)
          case atStart => exact ⟨rfl, hbel⟩
          case round =>
            clear hbel
            obtain ⟨rfl, hbel⟩ := hrel
            go_wp2_with fail
            go_ret
            exact ⟨rfl, hbel⟩
theorem flatNil_Tales (w : World) : Calls Tryz.prog 47 #[.slice none 0 0] w fun e w' => e = .returned (.bool true) ∧ Below w.heap.size w w' := by
  have hmk : ∀ w, (Instr.makeSlice 74 (.int .i64 0) (.int .i64 0)).run Tryz.prog w = .ok (.slice (some ⟨w.heap.size, 0, none⟩) 0 0) (w.alloc (.cells #[] 215)) := fun _ => by kernel_rfl
  go_enter Tryz.func47, Tryz.ntmps47
  go_wp2_with fail
  go_loopw [3, 4] (fun i _ wr => i = .int .i64 0 ∧ Below w.heap.size w wr) (fun _ _ _ => 0)
  case atStart => exact ⟨rfl, Below.refl _ _⟩
  case round =>
    obtain ⟨rfl, hbel⟩ := hrel
    have hb : Below w.heap.size w (wr.alloc (.cells #[] 215)) := hbel.alloc hbel.size _
    go_wp2_with fail
    generalize wr.alloc (.cells #[] 215) = w1 at hb ⊢
    go_loopw [6, 7, 8] (fun i _ _ wr => i = .int .i64 0 ∧ Below w.heap.size w wr) (fun _ _ _ _ => 0)
    case atStart => exact ⟨rfl, hb⟩
    case round =>
      clear hb hbel
      obtain ⟨rfl, hbel⟩ := hrel
      go_wp2_with fail
      go_loopw [9, 10] (fun i _ wr => i = .int .i64 0 ∧ Below w.heap.size w wr) (fun _ _ _ => 0)
      case atStart => exact ⟨rfl, hbel⟩
      case round =>
        clear hbel
        obtain ⟨rfl, hbel⟩ := hrel
        go_wp2_with fail
        go_loopw [11, 12, 13] (fun i _ _ wr => i = .int .i64 0 ∧ Below w.heap.size w wr) (fun _ _ _ _ => 0)
        case atStart => exact ⟨rfl, hbel⟩
        case round =>
          clear hbel
          obtain ⟨rfl, hbel⟩ := hrel
          go_wp2_with fail
          go_loopw [14, 15] (fun i _ wr => i = .int .i64 0 ∧ Below w.heap.size w wr) (fun _ _ _ => 0)
          case atStart => exact ⟨rfl, hbel⟩
          case round =>
            clear hbel
            obtain ⟨rfl, hbel⟩ := hrel
            go_wp2_with fail
            go_ret
            exact ⟨rfl, hbel⟩
theorem flatNil_States (w : World) : Calls Tryz.prog 48 #[.slice none 0 0] w fun e w' => e = .returned (.bool true) ∧ Below w.heap.size w w' := by
  have hmk : ∀ w, (Instr.makeSlice 75 (.int .i64 0) (.int .i64 0)).run Tryz.prog w = .ok (.slice (some ⟨w.heap.size, 0, none⟩) 0 0) (w.alloc (.cells #[] 221)) := fun _ => by kernel_rfl
  go_enter Tryz.func48, Tryz.ntmps48
  go_wp2_with fail
  go_loopw [3, 4] (fun i _ wr => i = .int .i64 0 ∧ Below w.heap.size w wr) (fun _ _ _ => 0)
  case atStart => exact ⟨rfl, Below.refl _ _⟩
  case round =>
    obtain ⟨rfl, hbel⟩ := hrel
    have hb : Below w.heap.size w (wr.alloc (.cells #[] 221)) := hbel.alloc hbel.size _
    go_wp2_with fail
    generalize wr.alloc (.cells #[] 221) = w1 at hb ⊢
    go_loopw [6, 7, 8] (fun i _ _ wr => i = .int .i64 0 ∧ Below w.heap.size w wr) (fun _ _ _ _ => 0)
    case atStart => exact ⟨rfl, hb⟩
    case round =>
      clear hb hbel
      obtain ⟨rfl, hbel⟩ := hrel
      go_wp2_with fail
      go_loopw [9, 10] (fun i _ wr => i = .int .i64 0 ∧ Below w.heap.size w wr) (fun _ _ _ => 0)
      case atStart => exact ⟨rfl, hbel⟩
      case round =>
        clear hbel
        obtain ⟨rfl, hbel⟩ := hrel
        go_wp2_with fail
        go_loopw [11, 12, 13] (fun i _ _ wr => i = .int .i64 0 ∧ Below w.heap.size w wr) (fun _ _ _ _ => 0)
        case atStart => exact ⟨rfl, hbel⟩
        case round =>
          clear hbel
          obtain ⟨rfl, hbel⟩ := hrel
          go_wp2_with fail
          go_loopw [14, 15] (fun i _ wr => i = .int .i64 0 ∧ Below w.heap.size w wr) (fun _ _ _ => 0)
          case atStart => exact ⟨rfl, hbel⟩
          case round =>
            clear hbel
            obtain ⟨rfl, hbel⟩ := hrel
            go_wp2_with fail
            go_ret
            exact ⟨rfl, hbel⟩
theorem flatNil_Sessions (w : World) : Calls Tryz.prog 49 #[.slice none 0 0] w fun e w' => e = .returned (.bool true) ∧ Below w.heap.size w w' := by
  have hmk : ∀ w, (Instr.makeSlice 76 (.int .i64 0) (.int .i64 0)).run Tryz.prog w = .ok (.slice (some ⟨w.heap.size, 0, none⟩) 0 0) (w.alloc (.cells #[] 226)) := fun _ => by kernel_rfl
  go_enter Tryz.func49, Tryz.ntmps49
  go_wp2_with fail
  go_loopw [3, 4] (fun i _ wr => i = .int .i64 0 ∧ Below w.heap.size w wr) (fun _ _ _ => 0)
  case atStart => exact ⟨rfl, Below.refl _ _⟩
  case round =>
    obtain ⟨rfl, hbel⟩ := hrel
    have hb : Below w.heap.size w (wr.alloc (.cells #[] 226)) := hbel.alloc hbel.size _
    go_wp2_with fail
    generalize wr.alloc (.cells #[] 226) = w1 at hb ⊢
    go_loopw [6, 7, 8] (fun i _ _ wr => i = .int .i64 0 ∧ Below w.heap.size w wr) (fun _ _ _ _ => 0)
    case atStart => exact ⟨rfl, hb⟩
    case round =>
      clear hb hbel
      obtain ⟨rfl, hbel⟩ := hrel
      go_wp2_with fail
      go_loopw [9, 10] (fun i _ wr => i = .int .i64 0 ∧ Below w.heap.size w wr) (fun _ _ _ => 0)
      case atStart => exact ⟨rfl, hbel⟩
      case round =>
        clear hbel
        obtain ⟨rfl, hbel⟩ := hrel
        go_wp2_with fail
        go_loopw [11, 12, 13] (fun i _ _ wr => i = .int .i64 0 ∧ Below w.heap.size w wr) (fun _ _ _ _ => 0)
        case atStart => exact ⟨rfl, hbel⟩
        case round =>
          clear hbel
          obtain ⟨rfl, hbel⟩ := hrel
          go_wp2_with fail
          go_loopw [14, 15] (fun i _ wr => i = .int .i64 0 ∧ Below w.heap.size w wr) (fun _ _ _ => 0)
          case atStart => exact ⟨rfl, hbel⟩
          case round =>
            clear hbel
            obtain ⟨rfl, hbel⟩ := hrel
            go_wp2_with fail
            go_ret
            exact ⟨rfl, hbel⟩
theorem flatNil_Machines (w : World) : Calls Tryz.prog 50 #[.slice none 0 0] w fun e w' => e = .returned (.bool true) ∧ Below w.heap.size w w' := by
  have hmk : ∀ w, (Instr.makeSlice 77 (.int .i64 0) (.int .i64 0)).run Tryz.prog w = .ok (.slice (some ⟨w.heap.size, 0, none⟩) 0 0) (w.alloc (.cells #[] 231)) := fun _ => by kernel_rfl
  go_enter Tryz.func50, Tryz.ntmps50
  go_wp2_with fail
  go_loopw [3, 4] (fun i _ wr => i = .int .i64 0 ∧ Below w.heap.size w wr) (fun _ _ _ => 0)
  case atStart => exact ⟨rfl, Below.refl _ _⟩
  case round =>
    obtain ⟨rfl, hbel⟩ := hrel
    have hb : Below w.heap.size w (wr.alloc (.cells #[] 231)) := hbel.alloc hbel.size _
    go_wp2_with fail
    generalize wr.alloc (.cells #[] 231) = w1 at hb ⊢
    go_loopw [6, 7, 8] (fun i _ _ wr => i = .int .i64 0 ∧ Below w.heap.size w wr) (fun _ _ _ _ => 0)
    case atStart => exact ⟨rfl, hb⟩
    case round =>
      clear hb hbel
      obtain ⟨rfl, hbel⟩ := hrel
      go_wp2_with fail
      go_loopw [9, 10] (fun i _ wr => i = .int .i64 0 ∧ Below w.heap.size w wr) (fun _ _ _ => 0)
      case atStart => exact ⟨rfl, hbel⟩
      case round =>
        clear hbel
        obtain ⟨rfl, hbel⟩ := hrel
        go_wp2_with fail
        go_loopw [11, 12, 13] (fun i _ _ wr => i = .int .i64 0 ∧ Below w.heap.size w wr) (fun _ _ _ _ => 0)
        case atStart => exact ⟨rfl, hbel⟩
        case round =>
          clear hbel
          obtain ⟨rfl, hbel⟩ := hrel
          go_wp2_with fail
          go_loopw [14, 15] (fun i _ wr => i = .int .i64 0 ∧ Below w.heap.size w wr) (fun _ _ _ => 0)
          case atStart => exact ⟨rfl, hbel⟩
          case round =>
            clear hbel
            obtain ⟨rfl, hbel⟩ := hrel
            go_wp2_with fail
            go_ret
            exact ⟨rfl, hbel⟩
theorem flatNil_Frames (w : World) : Calls Tryz.prog 51 #[.slice none 0 0] w fun e w' => e = .returned (.bool true) ∧ Below w.heap.size w w' := by
  have hmk : ∀ w, (Instr.makeSlice 78 (.int .i64 0) (.int .i64 0)).run Tryz.prog w = .ok (.slice (some ⟨w.heap.size, 0, none⟩) 0 0) (w.alloc (.cells #[] 236)) := fun _ => by kernel_rfl
  go_enter Tryz.func51, Tryz.ntmps51
  go_wp2_with fail
  go_loopw [3, 4] (fun i _ wr => i = .int .i64 0 ∧ Below w.heap.size w wr) (fun _ _ _ => 0)
  case atStart => exact ⟨rfl, Below.refl _ _⟩
  case round =>
    obtain ⟨rfl, hbel⟩ := hrel
    have hb : Below w.heap.size w (wr.alloc (.cells #[] 236)) := hbel.alloc hbel.size _
    go_wp2_with fail
    generalize wr.alloc (.cells #[] 236) = w1 at hb ⊢
    go_loopw [6, 7, 8] (fun i _ _ wr => i = .int .i64 0 ∧ Below w.heap.size w wr) (fun _ _ _ _ => 0)
    case atStart => exact ⟨rfl, hb⟩
    case round =>
      clear hb hbel
      obtain ⟨rfl, hbel⟩ := hrel
      go_wp2_with fail
      go_loopw [9, 10] (fun i _ wr => i = .int .i64 0 ∧ Below w.heap.size w wr) (fun _ _ _ => 0)
      case atStart => exact ⟨rfl, hbel⟩
      case round =>
        clear hbel
        obtain ⟨rfl, hbel⟩ := hrel
        go_wp2_with fail
        go_loopw [11, 12, 13] (fun i _ _ wr => i = .int .i64 0 ∧ Below w.heap.size w wr) (fun _ _ _ _ => 0)
        case atStart => exact ⟨rfl, hbel⟩
        case round =>
          clear hbel
          obtain ⟨rfl, hbel⟩ := hrel
          go_wp2_with fail
          go_loopw [14, 15] (fun i _ wr => i = .int .i64 0 ∧ Below w.heap.size w wr) (fun _ _ _ => 0)
          case atStart => exact ⟨rfl, hbel⟩
          case round =>
            clear hbel
            obtain ⟨rfl, hbel⟩ := hrel
            go_wp2_with fail
            go_ret
            exact ⟨rfl, hbel⟩
end Go.Proofs.YtknnbnmogjkcnaaGreat
