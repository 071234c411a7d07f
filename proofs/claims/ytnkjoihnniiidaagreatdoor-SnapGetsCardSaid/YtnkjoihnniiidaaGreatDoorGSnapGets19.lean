/- No rows at all lie apart: each kind's own look at a nil list. No condition. -/
import Derived.Test.YtnkjoihnniiidaaGreatDoorGSnapGets0
set_option linter.unusedVariables false
set_option linter.unusedSimpArgs false
namespace Go.Proofs.YtnkjoihnniiidaaGreatDoor
open Go.RowKit
set_option maxRecDepth 20000
theorem flatNil_Limbs (w : World) : Calls Tryz.prog 78 #[.slice none 0 0] w fun e w' => e = .returned (.bool true) ∧ Below w.heap.size w w' := by
  have hmk : ∀ w, (Instr.makeSlice 68 (.int .i64 0) (.int .i64 0)).run Tryz.prog w = .ok (.slice (some ⟨w.heap.size, 0, none⟩) 0 0) (w.alloc (.cells #[] 191)) := fun _ => by kernel_rfl
  go_enter Tryz.func78, Tryz.ntmps78
  go_wp2_with fail
  go_loopw [3, 4] (fun i _ wr => i = .int .i64 0 ∧ Below w.heap.size w wr) (fun _ _ _ => 0)
  case atStart => exact ⟨rfl, Below.refl _ _⟩
  case round =>
    obtain ⟨rfl, hbel⟩ := hrel
    have hb : Below w.heap.size w (wr.alloc (.cells #[] 191)) := hbel.alloc hbel.size _
    go_wp2_with fail
    generalize wr.alloc (.cells #[] 191) = w1 at hb ⊢
    go_loopw [6, 7, 8] (fun i _ _ wr => i = .int .i64 0 ∧ Below w.heap.size w wr) (fun _ _ _ _ => 0)
    case atStart => exact ⟨rfl, hb⟩
    case round =>
      clear hb hbel
      obtain ⟨rfl, hbel⟩ := hrel
      go_wp2_with fail
      go_loopw [9, 10] (fun i _ wr => i = .int .i64 0 ∧ Below w.heap.size w wr) (fun _ _ _ => 0)
      case atStart => exact ⟨rfl, hbel⟩
      case round =>
        clear hbel
        obtain ⟨rfl, hbel⟩ := hrel
        go_wp2_with fail
        go_loopw [11, 12, 13] (fun i _ _ wr => i = .int .i64 0 ∧ Below w.heap.size w wr) (fun _ _ _ _ => 0)
        case atStart => exact ⟨rfl, hbel⟩
        case round =>
          clear hbel
          obtain ⟨rfl, hbel⟩ := hrel
          go_wp2_with fail
          go_loopw [14, 15] (fun i _ wr => i = .int .i64 0 ∧ Below w.heap.size w wr) (fun _ _ _ => 0)
          case atStart => exact ⟨rfl, hbel⟩
          case round =>
            clear hbel
            obtain ⟨rfl, hbel⟩ := hrel
            go_wp2_with fail
            go_ret
            exact ⟨rfl, hbel⟩
theorem flatNil_Words (w : World) : Calls Tryz.prog 79 #[.slice none 0 0] w fun e w' => e = .returned (.bool true) ∧ Below w.heap.size w w' := by
  have hmk : ∀ w, (Instr.makeSlice 69 (.int .i64 0) (.int .i64 0)).run Tryz.prog w = .ok (.slice (some ⟨w.heap.size, 0, none⟩) 0 0) (w.alloc (.cells #[] 192)) := fun _ => by kernel_rfl
  go_enter Tryz.func79, Tryz.ntmps79
  go_wp2_with fail
  go_loopw [3, 4] (fun i _ wr => i = .int .i64 0 ∧ Below w.heap.size w wr) (fun _ _ _ => 0)
  case atStart => exact ⟨rfl, Below.refl _ _⟩
  case round =>
    obtain ⟨rfl, hbel⟩ := hrel
    have hb : Below w.heap.size w (wr.alloc (.cells #[] 192)) := hbel.alloc hbel.size _
    go_wp2_with fail
    generalize wr.alloc (.cells #[] 192) = w1 at hb ⊢
    go_loopw [6, 7, 8] (fun i _ _ wr => i = .int .i64 0 ∧ Below w.heap.size w wr) (fun _ _ _ _ => 0)
    case atStart => exact ⟨rfl, hb⟩
    case round =>
      clear hb hbel
      obtain ⟨rfl, hbel⟩ := hrel
      go_wp2_with fail
      go_loopw [9, 10] (fun i _ wr => i = .int .i64 0 ∧ Below w.heap.size w wr) (fun _ _ _ => 0)
      case atStart => exact ⟨rfl, hbel⟩
      case round =>
        clear hbel
        obtain ⟨rfl, hbel⟩ := hrel
        go_wp2_with fail
        go_loopw [11, 12, 13] (fun i _ _ wr => i = .int .i64 0 ∧ Below w.heap.size w wr) (fun _ _ _ _ => 0)
        case atStart => exact ⟨rfl, hbel⟩
        case round =>
          clear hbel
          obtain ⟨rfl, hbel⟩ := hrel
          go_wp2_with fail
          go_loopw [14, 15] (fun i _ wr => i = .int .i64 0 ∧ Below w.heap.size w wr) (fun _ _ _ => 0)
          case atStart => exact ⟨rfl, hbel⟩
          case round =>
            clear hbel
            obtain ⟨rfl, hbel⟩ := hrel
            go_wp2_with fail
            go_ret
            exact ⟨rfl, hbel⟩
theorem flatNil_Longs (w : World) : Calls Tryz.prog 81 #[.slice none 0 0] w fun e w' => e = .returned (.bool true) ∧ Below w.heap.size w w' := by
  have hmk : ∀ w, (Instr.makeSlice 71 (.int .i64 0) (.int .i64 0)).run Tryz.prog w = .ok (.slice (some ⟨w.heap.size, 0, none⟩) 0 0) (w.alloc (.cells #[] 193)) := fun _ => by kernel_rfl
  go_enter Tryz.func81, Tryz.ntmps81
  go_wp2_with fail
  go_loopw [3, 4] (fun i _ wr => i = .int .i64 0 ∧ Below w.heap.size w wr) (fun _ _ _ => 0)
  case atStart => exact ⟨rfl, Below.refl _ _⟩
  case round =>
    obtain ⟨rfl, hbel⟩ := hrel
    have hb : Below w.heap.size w (wr.alloc (.cells #[] 193)) := hbel.alloc hbel.size _
    go_wp2_with fail
    generalize wr.alloc (.cells #[] 193) = w1 at hb ⊢
    go_loopw [6, 7, 8] (fun i _ _ wr => i = .int .i64 0 ∧ Below w.heap.size w wr) (fun _ _ _ _ => 0)
    case atStart => exact ⟨rfl, hb⟩
    case round =>
      clear hb hbel
      obtain ⟨rfl, hbel⟩ := hrel
      go_wp2_with fail
      go_loopw [9, 10] (fun i _ wr => i = .int .i64 0 ∧ Below w.heap.size w wr) (fun _ _ _ => 0)
      case atStart => exact ⟨rfl, hbel⟩
      case round =>
        clear hbel
        obtain ⟨rfl, hbel⟩ := hrel
        go_wp2_with fail
        go_loopw [11, 12, 13] (fun i _ _ wr => i = .int .i64 0 ∧ Below w.heap.size w wr) (fun _ _ _ _ => 0)
        case atStart => exact ⟨rfl, hbel⟩
        case round =>
          clear hbel
          obtain ⟨rfl, hbel⟩ := hrel
          go_wp2_with fail
          go_loopw [14, 15] (fun i _ wr => i = .int .i64 0 ∧ Below w.heap.size w wr) (fun _ _ _ => 0)
          case atStart => exact ⟨rfl, hbel⟩
          case round =>
            clear hbel
            obtain ⟨rfl, hbel⟩ := hrel
            go_wp2_with fail
            go_ret
            exact ⟨rfl, hbel⟩
theorem flatNil_Texts (w : World) : Calls Tryz.prog 82 #[.slice none 0 0] w fun e w' => e = .returned (.bool true) ∧ Below w.heap.size w w' := by
  have hmk : ∀ w, (Instr.makeSlice 72 (.int .i64 0) (.int .i64 0)).run Tryz.prog w = .ok (.slice (some ⟨w.heap.size, 0, none⟩) 0 0) (w.alloc (.cells #[] 175)) := fun _ => by kernel_rfl
  go_enter Tryz.func82, Tryz.ntmps82
  go_wp2_with fail
  go_loopw [3, 4] (fun i _ wr => i = .int .i64 0 ∧ Below w.heap.size w wr) (fun _ _ _ => 0)
  case atStart => exact ⟨rfl, Below.refl _ _⟩
  case round =>
    obtain ⟨rfl, hbel⟩ := hrel
    have hb : Below w.heap.size w (wr.alloc (.cells #[] 175)) := hbel.alloc hbel.size _
    go_wp2_with fail
    generalize wr.alloc (.cells #[] 175) = w1 at hb ⊢
    go_loopw [6, 7, 8] (fun i _ _ wr => i = .int .i64 0 ∧ Below w.heap.size w wr) (fun _ _ _ _ => 0)
    case atStart => exact ⟨rfl, hb⟩
    case round =>
      clear hb hbel
      obtain ⟨rfl, hbel⟩ := hrel
      go_wp2_with fail
      go_loopw [9, 10] (fun i _ wr => i = .int .i64 0 ∧ Below w.heap.size w wr) (fun _ _ _ => 0)
      case atStart => exact ⟨rfl, hbel⟩
      case round =>
        clear hbel
        obtain ⟨rfl, hbel⟩ := hrel
        go_wp2_with fail
        go_loopw [11, 12, 13] (fun i _ _ wr => i = .int .i64 0 ∧ Below w.heap.size w wr) (fun _ _ _ _ => 0)
        case atStart => exact ⟨rfl, hbel⟩
        case round =>
          clear hbel
          obtain ⟨rfl, hbel⟩ := hrel
          go_wp2_with fail
          go_loopw [14, 15] (fun i _ wr => i = .int .i64 0 ∧ Below w.heap.size w wr) (fun _ _ _ => 0)
          case atStart => exact ⟨rfl, hbel⟩
          case round =>
            clear hbel
            obtain ⟨rfl, hbel⟩ := hrel
            go_wp2_with fail
            go_ret
            exact ⟨rfl, hbel⟩
theorem flatNil_Values (w : World) : Calls Tryz.prog 84 #[.slice none 0 0] w fun e w' => e = .returned (.bool true) ∧ Below w.heap.size w w' := by
  have hmk : ∀ w, (Instr.makeSlice 73 (.int .i64 0) (.int .i64 0)).run Tryz.prog w = .ok (.slice (some ⟨w.heap.size, 0, none⟩) 0 0) (w.alloc (.cells #[] 195)) := fun _ => by kernel_rfl
  go_enter Tryz.func84, Tryz.ntmps84
  go_wp2_with fail
  go_loopw [3, 4] (fun i _ wr => i = .int .i64 0 ∧ Below w.heap.size w wr) (fun _ _ _ => 0)
  case atStart => exact ⟨rfl, Below.refl _ _⟩
  case round =>
    obtain ⟨rfl, hbel⟩ := hrel
    have hb : Below w.heap.size w (wr.alloc (.cells #[] 195)) := hbel.alloc hbel.size _
    go_wp2_with fail
    generalize wr.alloc (.cells #[] 195) = w1 at hb ⊢
    go_loopw [6, 7, 8] (fun i _ _ wr => i = .int .i64 0 ∧ Below w.heap.size w wr) (fun _ _ _ _ => 0)
    case atStart => exact ⟨rfl, hb⟩
    case round =>
      clear hb hbel
      obtain ⟨rfl, hbel⟩ := hrel
      go_wp2_with fail
      go_loopw [9, 10] (fun i _ wr => i = .int .i64 0 ∧ Below w.heap.size w wr) (fun _ _ _ => 0)
      case atStart => exact ⟨rfl, hbel⟩
      case round =>
        clear hbel
        obtain ⟨rfl, hbel⟩ := hrel
        go_wp2_with fail
        go_loopw [11, 12, 13] (fun i _ _ wr => i = .int .i64 0 ∧ Below w.heap.size w wr) (fun _ _ _ _ => 0)
        case atStart => exact ⟨rfl, hbel⟩
        case round =>
          clear hbel
          obtain ⟨rfl, hbel⟩ := hrel
          go_wp2_with fail
          go_loopw [14, 15] (fun i _ wr => i = .int .i64 0 ∧ Below w.heap.size w wr) (fun _ _ _ => 0)
          case atStart => exact ⟨rfl, hbel⟩
          case round =>
            clear hbel
            obtain ⟨rfl, hbel⟩ := hrel
            go_wp2_with fail
            go_ret
            exact ⟨rfl, hbel⟩
theorem flatNil_Facts (w : World) : Calls Tryz.prog 85 #[.slice none 0 0] w fun e w' => e = .returned (.bool true) ∧ Below w.heap.size w w' := by
  have hmk : ∀ w, (Instr.makeSlice 74 (.int .i64 0) (.int .i64 0)).run Tryz.prog w = .ok (.slice (some ⟨w.heap.size, 0, none⟩) 0 0) (w.alloc (.cells #[] 200)) := fun _ => by kernel_rfl
  go_enter Tryz.func85, Tryz.ntmps85
  go_wp2_with fail
  go_loopw [3, 4] (fun i _ wr => i = .int .i64 0 ∧ Below w.heap.size w wr) (fun _ _ _ => 0)
  case atStart => exact ⟨rfl, Below.refl _ _⟩
  case round =>
    obtain ⟨rfl, hbel⟩ := hrel
    have hb : Below w.heap.size w (wr.alloc (.cells #[] 200)) := hbel.alloc hbel.size _
    go_wp2_with fail
    generalize wr.alloc (.cells #[] 200) = w1 at hb ⊢
    go_loopw [6, 7, 8] (fun i _ _ wr => i = .int .i64 0 ∧ Below w.heap.size w wr) (fun _ _ _ _ => 0)
    case atStart => exact ⟨rfl, hb⟩
    case round =>
      clear hb hbel
      obtain ⟨rfl, hbel⟩ := hrel
      go_wp2_with fail
      go_loopw [9, 10] (fun i _ wr => i = .int .i64 0 ∧ Below w.heap.size w wr) (fun _ _ _ => 0)
      case atStart => exact ⟨rfl, hbel⟩
      case round =>
        clear hbel
        obtain ⟨rfl, hbel⟩ := hrel
        go_wp2_with fail
        go_loopw [11, 12, 13] (fun i _ _ wr => i = .int .i64 0 ∧ Below w.heap.size w wr) (fun _ _ _ _ => 0)
        case atStart => exact ⟨rfl, hbel⟩
        case round =>
          clear hbel
          obtain ⟨rfl, hbel⟩ := hrel
          go_wp2_with fail
          go_loopw [14, 15] (fun i _ wr => i = .int .i64 0 ∧ Below w.heap.size w wr) (fun _ _ _ => 0)
          case atStart => exact ⟨rfl, hbel⟩
          case round =>
            clear hbel
            obtain ⟨rfl, hbel⟩ := hrel
            go_wp2_with fail
            go_ret
            exact ⟨rfl, hbel⟩
theorem flatNil_Lexes (w : World) : Calls Tryz.prog 86 #[.slice none 0 0] w fun e w' => e = .returned (.bool true) ∧ Below w.heap.size w w' := by
  have hmk : ∀ w, (Instr.makeSlice 75 (.int .i64 0) (.int .i64 0)).run Tryz.prog w = .ok (.slice (some ⟨w.heap.size, 0, none⟩) 0 0) (w.alloc (.cells #[] 205)) := fun _ => by kernel_rfl
  go_enter Tryz.func86, Tryz.ntmps86
  go_wp2_with fail
  go_loopw [3, 4] (fun i _ wr => i = .int .i64 0 ∧ Below w.heap.size w wr) (fun _ _ _ => 0)
  case atStart => exact ⟨rfl, Below.refl _ _⟩
  case round =>
    obtain ⟨rfl, hbel⟩ := hrel
    have hb : Below w.heap.size w (wr.alloc (.cells #[] 205)) := hbel.alloc hbel.size _
    go_wp2_with fail
    generalize wr.alloc (.cells #[] 205) = w1 at hb ⊢
    go_loopw [6, 7, 8] (fun i _ _ wr => i = .int .i64 0 ∧ Below w.heap.size w wr) (fun _ _ _ _ => 0)
    case atStart => exact ⟨rfl, hb⟩
    case round =>
      clear hb hbel
      obtain ⟨rfl, hbel⟩ := hrel
      go_wp2_with fail
      go_loopw [9, 10] (fun i _ wr => i = .int .i64 0 ∧ Below w.heap.size w wr) (fun _ _ _ => 0)
      case atStart => exact ⟨rfl, hbel⟩
      case round =>
        clear hbel
        obtain ⟨rfl, hbel⟩ := hrel
        go_wp2_with fail
        go_loopw [11, 12, 13] (fun i _ _ wr => i = .int .i64 0 ∧ Below w.heap.size w wr) (fun _ _ _ _ => 0)
        case atStart => exact ⟨rfl, hbel⟩
        case round =>
          clear hbel
          obtain ⟨rfl, hbel⟩ := hrel
          go_wp2_with fail
          go_loopw [14, 15] (fun i _ wr => i = .int .i64 0 ∧ Below w.heap.size w wr) (fun _ _ _ => 0)
          case atStart => exact ⟨rfl, hbel⟩
          case round =>
            clear hbel
            obtain ⟨rfl, hbel⟩ := hrel
            go_wp2_with fail
            go_ret
            exact ⟨rfl, hbel⟩
theorem flatNil_Nodes (w : World) : Calls Tryz.prog 87 #[.slice none 0 0] w fun e w' => e = .returned (.bool true) ∧ Below w.heap.size w w' := by
  have hmk : ∀ w, (Instr.makeSlice 76 (.int .i64 0) (.int .i64 0)).run Tryz.prog w = .ok (.slice (some ⟨w.heap.size, 0, none⟩) 0 0) (w.alloc (.cells #[] 210)) := fun _ => by kernel_rfl
  go_enter Tryz.func87, Tryz.ntmps87
  go_wp2_with fail
  go_loopw [3, 4] (fun i _ wr => i = .int .i64 0 ∧ Below w.heap.size w wr) (fun _ _ _ => 0)
  case atStart => exact ⟨rfl, Below.refl _ _⟩
  case round =>
    obtain ⟨rfl, hbel⟩ := hrel
    have hb : Below w.heap.size w (wr.alloc (.cells #[] 210)) := hbel.alloc hbel.size _
    go_wp2_with fail
    generalize wr.alloc (.cells #[] 210) = w1 at hb ⊢
    go_loopw [6, 7, 8] (fun i _ _ wr => i = .int .i64 0 ∧ Below w.heap.size w wr) (fun _ _ _ _ => 0)
    case atStart => exact ⟨rfl, hb⟩
    case round =>
      clear hb hbel
      obtain ⟨rfl, hbel⟩ := hrel
      go_wp2_with fail
      go_loopw [9, 10] (fun i _ wr => i = .int .i64 0 ∧ Below w.heap.size w wr) (fun _ _ _ => 0)
      case atStart => exact ⟨rfl, hbel⟩
      case round =>
        clear hbel
        obtain ⟨rfl, hbel⟩ := hrel
        go_wp2_with fail
        go_loopw [11, 12, 13] (fun i _ _ wr => i = .int .i64 0 ∧ Below w.heap.size w wr) (fun _ _ _ _ => 0)
        case atStart => exact ⟨rfl, hbel⟩
        case round =>
          clear hbel
          obtain ⟨rfl, hbel⟩ := hrel
          go_wp2_with fail
          go_loopw [14, 15] (fun i _ wr => i = .int .i64 0 ∧ Below w.heap.size w wr) (fun _ _ _ => 0)
          case atStart => exact ⟨rfl, hbel⟩
          case round =>
            clear hbel
            obtain ⟨rfl, hbel⟩ := hrel
            go_wp2_with fail
            go_ret
            exact ⟨rfl, hbel⟩
theorem flatNil_Exprs (w : World) : Calls Tryz.prog 88 #[.slice none 0 0] w fun e w' => e = .returned (.bool true) ∧ Below w.heap.size w w' := by
  have hmk : ∀ w, (Instr.makeSlice 77 (.int .i64 0) (.int .i64 0)).run Tryz.prog w = .ok (.slice (some ⟨w.heap.size, 0, none⟩) 0 0) (w.alloc (.cells #[] 216)) := fun _ => by kernel_rfl
  go_enter Tryz.func88, Tryz.ntmps88
  go_wp2_with fail
  go_loopw [3, 4] (fun i _ wr => i = .int .i64 0 ∧ Below w.heap.size w wr) (fun _ _ _ => 0)
  case atStart => exact ⟨rfl, Below.refl _ _⟩
  case round =>
    obtain ⟨rfl, hbel⟩ := hrel
    have hb : Below w.heap.size w (wr.alloc (.cells #[] 216)) := hbel.alloc hbel.size _
    go_wp2_with fail
    generalize wr.alloc (.cells #[] 216) = w1 at hb ⊢
    go_loopw [6, 7, 8] (fun i _ _ wr => i = .int .i64 0 ∧ Below w.heap.size w wr) (fun _ _ _ _ => 0)
    case atStart => exact ⟨rfl, hb⟩
    case round =>
      clear hb hbel
      obtain ⟨rfl, hbel⟩ := hrel
      go_wp2_with fail
      go_loopw [9, 10] (fun i _ wr => i = .int .i64 0 ∧ Below w.heap.size w wr) (fun _ _ _ => 0)
      case atStart => exact ⟨rfl, hbel⟩
      case round =>
        clear hbel
        obtain ⟨rfl, hbel⟩ := hrel
        go_wp2_with fail
        go_loopw [11, 12, 13] (fun i _ _ wr => i = .int .i64 0 ∧ Below w.heap.size w wr) (fun _ _ _ _ => 0)
        case atStart => exact ⟨rfl, hbel⟩
        case round =>
          clear hbel
          obtain ⟨rfl, hbel⟩ := hrel
          go_wp2_with fail
          go_loopw [14, 15] (fun i _ wr => i = .int .i64 0 ∧ Below w.heap.size w wr) (fun _ _ _ => 0)
          case atStart => exact ⟨rfl, hbel⟩
          case round =>
            clear hbel
            obtain ⟨rfl, hbel⟩ := hrel
            go_wp2_with fail
            go_ret
            exact ⟨rfl, hbel⟩
theorem flatNil_Args (w : World) : Calls Tryz.prog 89 #[.slice none 0 0] w fun e w' => e = .returned (.bool true) ∧ Below w.heap.size w w' := by
  have hmk : ∀ w, (Instr.makeSlice 78 (.int .i64 0) (.int .i64 0)).run Tryz.prog w = .ok (.slice (some ⟨w.heap.size, 0, none⟩) 0 0) (w.alloc (.cells #[] 223)) := fun _ => by kernel_rfl
  go_enter Tryz.func89, Tryz.ntmps89
  go_wp2_with fail
  go_loopw [3, 4] (fun i _ wr => i = .int .i64 0 ∧ Below w.heap.size w wr) (fun _ _ _ => 0)
  case atStart => exact ⟨rfl, Below.refl _ _⟩
  case round =>
    obtain ⟨rfl, hbel⟩ := hrel
    have hb : Below w.heap.size w (wr.alloc (.cells #[] 223)) := hbel.alloc hbel.size _
    go_wp2_with fail
    generalize wr.alloc (.cells #[] 223) = w1 at hb ⊢
    go_loopw [6, 7, 8] (fun i _ _ wr => i = .int .i64 0 ∧ Below w.heap.size w wr) (fun _ _ _ _ => 0)
    case atStart => exact ⟨rfl, hb⟩
    case round =>
      clear hb hbel
      obtain ⟨rfl, hbel⟩ := hrel
      go_wp2_with fail
      go_loopw [9, 10] (fun i _ wr => i = .int .i64 0 ∧ Below w.heap.size w wr) (fun _ _ _ => 0)
      case atStart => exact ⟨rfl, hbel⟩
      case round =>
        clear hbel
        obtain ⟨rfl, hbel⟩ := hrel
        go_wp2_with fail
        go_loopw [11, 12, 13] (fun i _ _ wr => i = .int .i64 0 ∧ Below w.heap.size w wr) (fun _ _ _ _ => 0)
        case atStart => exact ⟨rfl, hbel⟩
        case round =>
          clear hbel
          obtain ⟨rfl, hbel⟩ := hrel
          go_wp2_with fail
          go_loopw [14, 15] (fun i _ wr => i = .int .i64 0 ∧ Below w.heap.size w wr) (fun _ _ _ => 0)
          case atStart => exact ⟨rfl, hbel⟩
          case round =>
            clear hbel
            obtain ⟨rfl, hbel⟩ := hrel
            go_wp2_with fail
            go_ret
            exact ⟨rfl, hbel⟩
theorem flatNil_Conds (w : World) : Calls Tryz.prog 90 #[.slice none 0 0] w fun e w' => e = .returned (.bool true) ∧ Below w.heap.size w w' := by
  have hmk : ∀ w, (Instr.makeSlice 79 (.int .i64 0) (.int .i64 0)).run Tryz.prog w = .ok (.slice (some ⟨w.heap.size, 0, none⟩) 0 0) (w.alloc (.cells #[] 228)) := fun _ => by kernel_rfl
  go_enter Tryz.func90, Tryz.ntmps90
  go_wp2_with fail
  go_loopw [3, 4] (fun i _ wr => i = .int .i64 0 ∧ Below w.heap.size w wr) (fun _ _ _ => 0)
  case atStart => exact ⟨rfl, Below.refl _ _⟩
  case round =>
    obtain ⟨rfl, hbel⟩ := hrel
    have hb : Below w.heap.size w (wr.alloc (.cells #[] 228)) := hbel.alloc hbel.size _
    go_wp2_with fail
    generalize wr.alloc (.cells #[] 228) = w1 at hb ⊢
    go_loopw [6, 7, 8] (fun i _ _ wr => i = .int .i64 0 ∧ Below w.heap.size w wr) (fun _ _ _ _ => 0)
    case atStart => exact ⟨rfl, hb⟩
    case round =>
      clear hb hbel
      obtain ⟨rfl, hbel⟩ := hrel
      go_wp2_with fail
      go_loopw [9, 10] (fun i _ wr => i = .int .i64 0 ∧ Below w.heap.size w wr) (fun _ _ _ => 0)
      case atStart => exact ⟨rfl, hbel⟩
      case round =>
        clear hbel
        obtain ⟨rfl, hbel⟩ := hrel
        go_wp2_with fail
        go_loopw [11, 12, 13] (fun i _ _ wr => i = .int .i64 0 ∧ Below w.heap.size w wr) (fun _ _ _ _ => 0)
        case atStart => exact ⟨rfl, hbel⟩
        case round =>
          clear hbel
          obtain ⟨rfl, hbel⟩ := hrel
          go_wp2_with fail
          go_loopw [14, 15] (fun i _ wr => i = .int .i64 0 ∧ Below w.heap.size w wr) (fun _ _ _ => 0)
          case atStart => exact ⟨rfl, hbel⟩
          case round =>
            clear hbel
            obtain ⟨rfl, hbel⟩ := hrel
            go_wp2_with fail
            go_ret
            exact ⟨rfl, hbel⟩
theorem flatNil_Acts (w : World) : Calls Tryz.prog 91 #[.slice none 0 0] w fun e w' => e = .returned (.bool true) ∧ Below w.heap.size w w' := by
  have hmk : ∀ w, (Instr.makeSlice 80 (.int .i64 0) (.int .i64 0)).run Tryz.prog w = .ok (.slice (some ⟨w.heap.size, 0, none⟩) 0 0) (w.alloc (.cells #[] 234)) := fun _ => by kernel_rfl
  go_enter Tryz.func91, Tryz.ntmps91
  go_wp2_with fail
  go_loopw [3, 4] (fun i _ wr => i = .int .i64 0 ∧ Below w.heap.size w wr) (fun _ _ _ => 0)
  case atStart => exact ⟨rfl, Below.refl _ _⟩
  case round =>
    obtain ⟨rfl, hbel⟩ := hrel
    have hb : Below w.heap.size w (wr.alloc (.cells #[] 234)) := hbel.alloc hbel.size _
    go_wp2_with fail
    generalize wr.alloc (.cells #[] 234) = w1 at hb ⊢
    go_loopw [6, 7, 8] (fun i _ _ wr => i = .int .i64 0 ∧ Below w.heap.size w wr) (fun _ _ _ _ => 0)
    case atStart => exact ⟨rfl, hb⟩
    case round =>
      clear hb hbel
      obtain ⟨rfl, hbel⟩ := hrel
      go_wp2_with fail
      go_loopw [9, 10] (fun i _ wr => i = .int .i64 0 ∧ Below w.heap.size w wr) (fun _ _ _ => 0)
      case atStart => exact ⟨rfl, hbel⟩
      case round =>
        clear hbel
        obtain ⟨rfl, hbel⟩ := hrel
        go_wp2_with fail
        go_loopw [11, 12, 13] (fun i _ _ wr => i = .int .i64 0 ∧ Below w.heap.size w wr) (fun _ _ _ _ => 0)
        case atStart => exact ⟨rfl, hbel⟩
        case round =>
          clear hbel
          obtain ⟨rfl, hbel⟩ := hrel
          go_wp2_with fail
          go_loopw [14, 15] (fun i _ wr => i = .int .i64 0 ∧ Below w.heap.size w wr) (fun _ _ _ => 0)
          case atStart => exact ⟨rfl, hbel⟩
          case round =>
            clear hbel
            obtain ⟨rfl, hbel⟩ := hrel
            go_wp2_with fail
            go_ret
            exact ⟨rfl, hbel⟩
theorem flatNil_Types (w : World) : Calls Tryz.prog 92 #[.slice none 0 0] w fun e w' => e = .returned (.bool true) ∧ Below w.heap.size w w' := by
  have hmk : ∀ w, (Instr.makeSlice 81 (.int .i64 0) (.int .i64 0)).run Tryz.prog w = .ok (.slice (some ⟨w.heap.size, 0, none⟩) 0 0) (w.alloc (.cells #[] 240)) := fun _ => by kernel_rfl
  go_enter Tryz.func92, Tryz.ntmps92
  go_wp2_with fail
  go_loopw [3, 4] (fun i _ wr => i = .int .i64 0 ∧ Below w.heap.size w wr) (fun _ _ _ => 0)
  case atStart => exact ⟨rfl, Below.refl _ _⟩
  case round =>
    obtain ⟨rfl, hbel⟩ := hrel
    have hb : Below w.heap.size w (wr.alloc (.cells #[] 240)) := hbel.alloc hbel.size _
    go_wp2_with fail
    generalize wr.alloc (.cells #[] 240) = w1 at hb ⊢
    go_loopw [6, 7, 8] (fun i _ _ wr => i = .int .i64 0 ∧ Below w.heap.size w wr) (fun _ _ _ _ => 0)
    case atStart => exact ⟨rfl, hb⟩
    case round =>
      clear hb hbel
      obtain ⟨rfl, hbel⟩ := hrel
      go_wp2_with fail
      go_loopw [9, 10] (fun i _ wr => i = .int .i64 0 ∧ Below w.heap.size w wr) (fun _ _ _ => 0)
      case atStart => exact ⟨rfl, hbel⟩
      case round =>
        clear hbel
        obtain ⟨rfl, hbel⟩ := hrel
        go_wp2_with fail
        go_loopw [11, 12, 13] (fun i _ _ wr => i = .int .i64 0 ∧ Below w.heap.size w wr) (fun _ _ _ _ => 0)
        case atStart => exact ⟨rfl, hbel⟩
        case round =>
          clear hbel
          obtain ⟨rfl, hbel⟩ := hrel
          go_wp2_with fail
          go_loopw [14, 15] (fun i _ wr => i = .int .i64 0 ∧ Below w.heap.size w wr) (fun _ _ _ => 0)
          case atStart => exact ⟨rfl, hbel⟩
          case round =>
            clear hbel
            obtain ⟨rfl, hbel⟩ := hrel
            go_wp2_with fail
            go_ret
            exact ⟨rfl, hbel⟩
theorem flatNil_RuleRow (w : World) : Calls Tryz.prog 93 #[.slice none 0 0] w fun e w' => e = .returned (.bool true) ∧ Below w.heap.size w w' := by
  have hmk : ∀ w, (Instr.makeSlice 82 (.int .i64 0) (.int .i64 0)).run Tryz.prog w = .ok (.slice (some ⟨w.heap.size, 0, none⟩) 0 0) (w.alloc (.cells #[] 244)) := fun _ => by kernel_rfl
  go_enter Tryz.func93, Tryz.ntmps93
  go_wp2_with fail
  go_loopw [3, 4] (fun i _ wr => i = .int .i64 0 ∧ Below w.heap.size w wr) (fun _ _ _ => 0)
  case atStart => exact ⟨rfl, Below.refl _ _⟩
  case round =>
    obtain ⟨rfl, hbel⟩ := hrel
    have hb : Below w.heap.size w (wr.alloc (.cells #[] 244)) := hbel.alloc hbel.size _
    go_wp2_with fail
    generalize wr.alloc (.cells #[] 244) = w1 at hb ⊢
    go_loopw [6, 7, 8] (fun i _ _ wr => i = .int .i64 0 ∧ Below w.heap.size w wr) (fun _ _ _ _ => 0)
    case atStart => exact ⟨rfl, hb⟩
    case round =>
      clear hb hbel
      obtain ⟨rfl, hbel⟩ := hrel
      go_wp2_with fail
      go_loopw [9, 10] (fun i _ wr => i = .int .i64 0 ∧ Below w.heap.size w wr) (fun _ _ _ => 0)
      case atStart => exact ⟨rfl, hbel⟩
      case round =>
        clear hbel
        obtain ⟨rfl, hbel⟩ := hrel
        go_wp2_with fail
        go_loopw [11, 12, 13] (fun i _ _ wr => i = .int .i64 0 ∧ Below w.heap.size w wr) (fun _ _ _ _ => 0)
        case atStart => exact ⟨rfl, hbel⟩
        case round =>
          clear hbel
          obtain ⟨rfl, hbel⟩ := hrel
          go_wp2_with fail
          go_loopw [14, 15] (fun i _ wr => i = .int .i64 0 ∧ Below w.heap.size w wr) (fun _ _ _ => 0)
          case atStart => exact ⟨rfl, hbel⟩
          case round =>
            clear hbel
            obtain ⟨rfl, hbel⟩ := hrel
            go_wp2_with fail
            go_ret
            exact ⟨rfl, hbel⟩
theorem flatNil_RulesRow (w : World) : Calls Tryz.prog 94 #[.slice none 0 0] w fun e w' => e = .returned (.bool true) ∧ Below w.heap.size w w' := by
  have hmk : ∀ w, (Instr.makeSlice 83 (.int .i64 0) (.int .i64 0)).run Tryz.prog w = .ok (.slice (some ⟨w.heap.size, 0, none⟩) 0 0) (w.alloc (.cells #[] 249)) := fun _ => by kernel_rfl
  go_enter Tryz.func94, Tryz.ntmps94
  go_wp2_with fail
  go_loopw [3, 4] (fun i _ wr => i = .int .i64 0 ∧ Below w.heap.size w wr) (fun _ _ _ => 0)
  case atStart => exact ⟨rfl, Below.refl _ _⟩
  case round =>
    obtain ⟨rfl, hbel⟩ := hrel
    have hb : Below w.heap.size w (wr.alloc (.cells #[] 249)) := hbel.alloc hbel.size _
    go_wp2_with fail
    generalize wr.alloc (.cells #[] 249) = w1 at hb ⊢
    go_loopw [6, 7, 8] (fun i _ _ wr => i = .int .i64 0 ∧ Below w.heap.size w wr) (fun _ _ _ _ => 0)
    case atStart => exact ⟨rfl, hb⟩
    case round =>
      clear hb hbel
      obtain ⟨rfl, hbel⟩ := hrel
      go_wp2_with fail
      go_loopw [9, 10] (fun i _ wr => i = .int .i64 0 ∧ Below w.heap.size w wr) (fun _ _ _ => 0)
      case atStart => exact ⟨rfl, hbel⟩
      case round =>
        clear hbel
        obtain ⟨rfl, hbel⟩ := hrel
        go_wp2_with fail
        go_loopw [11, 12, 13] (fun i _ _ wr => i = .int .i64 0 ∧ Below w.heap.size w wr) (fun _ _ _ _ => 0)
        case atStart => exact ⟨rfl, hbel⟩
        case round =>
          clear hbel
          obtain ⟨rfl, hbel⟩ := hrel
          go_wp2_with fail
          go_loopw [14, 15] (fun i _ wr => i = .int .i64 0 ∧ Below w.heap.size w wr) (fun _ _ _ => 0)
          case atStart => exact ⟨rfl, hbel⟩
          case round =>
            clear hbel
            obtain ⟨rfl, hbel⟩ := hrel
            go_wp2_with fail
            go_ret
            exact ⟨rfl, hbel⟩
theorem flatNil_Tokens (w : World) : Calls Tryz.prog 95 #[.slice none 0 0] w fun e w' => e = .returned (.bool true) ∧ Below w.heap.size w w' := by
  have hmk : ∀ w, (Instr.makeSlice 84 (.int .i64 0) (.int .i64 0)).run Tryz.prog w = .ok (.slice (some ⟨w.heap.size, 0, none⟩) 0 0) (w.alloc (.cells #[] 254)) := fun _ => by kernel_rfl
  go_enter Tryz.func95, Tryz.ntmps95
  go_wp2_with fail
  go_loopw [3, 4] (fun i _ wr => i = .int .i64 0 ∧ Below w.heap.size w wr) (fun _ _ _ => 0)
  case atStart => exact ⟨rfl, Below.refl _ _⟩
  case round =>
    obtain ⟨rfl, hbel⟩ := hrel
    have hb : Below w.heap.size w (wr.alloc (.cells #[] 254)) := hbel.alloc hbel.size _
    go_wp2_with fail
    generalize wr.alloc (.cells #[] 254) = w1 at hb ⊢
    go_loopw [6, 7, 8] (fun i _ _ wr => i = .int .i64 0 ∧ Below w.heap.size w wr) (fun _ _ _ _ => 0)
    case atStart => exact ⟨rfl, hb⟩
    case round =>
      clear hb hbel
      obtain ⟨rfl, hbel⟩ := hrel
      go_wp2_with fail
      go_loopw [9, 10] (fun i _ wr => i = .int .i64 0 ∧ Below w.heap.size w wr) (fun _ _ _ => 0)
      case atStart => exact ⟨rfl, hbel⟩
      case round =>
        clear hbel
        obtain ⟨rfl, hbel⟩ := hrel
        go_wp2_with fail
        go_loopw [11, 12, 13] (fun i _ _ wr => i = .int .i64 0 ∧ Below w.heap.size w wr) (fun _ _ _ _ => 0)
        case atStart => exact ⟨rfl, hbel⟩
        case round =>
          clear hbel
          obtain ⟨rfl, hbel⟩ := hrel
          go_wp2_with fail
          go_loopw [14, 15] (fun i _ wr => i = .int .i64 0 ∧ Below w.heap.size w wr) (fun _ _ _ => 0)
          case atStart => exact ⟨rfl, hbel⟩
          case round =>
            clear hbel
            obtain ⟨rfl, hbel⟩ := hrel
            go_wp2_with fail
            go_ret
            exact ⟨rfl, hbel⟩
theorem flatNil_Commands (w : World) : Calls Tryz.prog 96 #[.slice none 0 0] w fun e w' => e = .returned (.bool true) ∧ Below w.heap.size w w' := by
  have hmk : ∀ w, (Instr.makeSlice 85 (.int .i64 0) (.int .i64 0)).run Tryz.prog w = .ok (.slice (some ⟨w.heap.size, 0, none⟩) 0 0) (w.alloc (.cells #[] 259)) := fun _ => by kernel_rfl
  go_enter Tryz.func96, Tryz.ntmps96
  go_wp2_with fail
  go_loopw [3, 4] (fun i _ wr => i = .int .i64 0 ∧ Below w.heap.size w wr) (fun _ _ _ => 0)
  case atStart => exact ⟨rfl, Below.refl _ _⟩
  case round =>
    obtain ⟨rfl, hbel⟩ := hrel
    have hb : Below w.heap.size w (wr.alloc (.cells #[] 259)) := hbel.alloc hbel.size _
    go_wp2_with fail
    generalize wr.alloc (.cells #[] 259) = w1 at hb ⊢
    go_loopw [6, 7, 8] (fun i _ _ wr => i = .int .i64 0 ∧ Below w.heap.size w wr) (fun _ _ _ _ => 0)
    case atStart => exact ⟨rfl, hb⟩
    case round =>
      clear hb hbel
      obtain ⟨rfl, hbel⟩ := hrel
      go_wp2_with fail
      go_loopw [9, 10] (fun i _ wr => i = .int .i64 0 ∧ Below w.heap.size w wr) (fun _ _ _ => 0)
      case atStart => exact ⟨rfl, hbel⟩
      case round =>
        clear hbel
        obtain ⟨rfl, hbel⟩ := hrel
        go_wp2_with fail
        go_loopw [11, 12, 13] (fun i _ _ wr => i = .int .i64 0 ∧ Below w.heap.size w wr) (fun _ _ _ _ => 0)
        case atStart => exact ⟨rfl, hbel⟩
        case round =>
          clear hbel
          obtain ⟨rfl, hbel⟩ := hrel
          go_wp2_with fail
          go_loopw [14, 15] (fun i _ wr => i = .int .i64 0 ∧ Below w.heap.size w wr) (fun _ _ _ => 0)
          case atStart => exact ⟨rfl, hbel⟩
          case round =>
            clear hbel
            obtain ⟨rfl, hbel⟩ := hrel
            go_wp2_with fail
            go_ret
            exact ⟨rfl, hbel⟩
theorem flatNil_Replies (w : World) : Calls Tryz.prog 97 #[.slice none 0 0] w fun e w' => e = .returned (.bool true) ∧ Below w.heap.size w w' := by
  have hmk : ∀ w, (Instr.makeSlice 86 (.int .i64 0) (.int .i64 0)).run Tryz.prog w = .ok (.slice (some ⟨w.heap.size, 0, none⟩) 0 0) (w.alloc (.cells #[] 265)) := fun _ => by kernel_rfl
  go_enter Tryz.func97, Tryz.ntmps97
  go_wp2_with fail
  go_loopw [3, 4] (fun i _ wr => i = .int .i64 0 ∧ Below w.heap.size w wr) (fun _ _ _ => 0)
  case atStart => exact ⟨rfl, Below.refl _ _⟩
  case round =>
    obtain ⟨rfl, hbel⟩ := hrel
    have hb : Below w.heap.size w (wr.alloc (.cells #[] 265)) := hbel.alloc hbel.size _
    go_wp2_with fail
    generalize wr.alloc (.cells #[] 265) = w1 at hb ⊢
    go_loopw [6, 7, 8] (fun i _ _ wr => i = .int .i64 0 ∧ Below w.heap.size w wr) (fun _ _ _ _ => 0)
    case atStart => exact ⟨rfl, hb⟩
    case round =>
      clear hb hbel
      obtain ⟨rfl, hbel⟩ := hrel
      go_wp2_with fail
      go_loopw [9, 10] (fun i _ wr => i = .int .i64 0 ∧ Below w.heap.size w wr) (fun _ _ _ => 0)
      case atStart => exact ⟨rfl, hbel⟩
      case round =>
        clear hbel
        obtain ⟨rfl, hbel⟩ := hrel
        go_wp2_with fail
        go_loopw [11, 12, 13] (fun i _ _ wr => i = .int .i64 0 ∧ Below w.heap.size w wr) (fun _ _ _ _ => 0)
        case atStart => exact ⟨rfl, hbel⟩
        case round =>
          clear hbel
          obtain ⟨rfl, hbel⟩ := hrel
          go_wp2_with fail
          go_loopw [14, 15] (fun i _ wr => i = .int .i64 0 ∧ Below w.heap.size w wr) (fun _ _ _ => 0)
          case atStart => exact ⟨rfl, hbel⟩
          case round =>
            clear hbel
            obtain ⟨rfl, hbel⟩ := hrel
            go_wp2_with fail
            go_ret
            exact ⟨rfl, hbel⟩
theorem flatNil_Entries (w : World) : Calls Tryz.prog 98 #[.slice none 0 0] w fun e w' => e = .returned (.bool true) ∧ Below w.heap.size w w' := by
  have hmk : ∀ w, (Instr.makeSlice 87 (.int .i64 0) (.int .i64 0)).run Tryz.prog w = .ok (.slice (some ⟨w.heap.size, 0, none⟩) 0 0) (w.alloc (.cells #[] 270)) := fun _ => by kernel_rfl
  go_enter Tryz.func98, Tryz.ntmps98
  go_wp2_with fail
  go_loopw [3, 4] (fun i _ wr => i = .int .i64 0 ∧ Below w.heap.size w wr) (fun _ _ _ => 0)
  case atStart => exact ⟨rfl, Below.refl _ _⟩
  case round =>
    obtain ⟨rfl, hbel⟩ := hrel
    have hb : Below w.heap.size w (wr.alloc (.cells #[] 270)) := hbel.alloc hbel.size _
    go_wp2_with fail
    generalize wr.alloc (.cells #[] 270) = w1 at hb ⊢
    go_loopw [6, 7, 8] (fun i _ _ wr => i = .int .i64 0 ∧ Below w.heap.size w wr) (fun _ _ _ _ => 0)
    case atStart => exact ⟨rfl, hb⟩
    case round =>
      clear hb hbel
      obtain ⟨rfl, hbel⟩ := hrel
      go_wp2_with fail
      go_loopw [9, 10] (fun i _ wr => i = .int .i64 0 ∧ Below w.heap.size w wr) (fun _ _ _ => 0)
      case atStart => exact ⟨rfl, hbel⟩
      case round =>
        clear hbel
        obtain ⟨rfl, hbel⟩ := hrel
        go_wp2_with fail
        go_loopw [11, 12, 13] (fun i _ _ wr => i = .int .i64 0 ∧ Below w.heap.size w wr) (fun _ _ _ _ => 0)
        case atStart => exact ⟨rfl, hbel⟩
        case round =>
          clear hbel
          obtain ⟨rfl, hbel⟩ := hrel
          go_wp2_with fail
          go_loopw [14, 15] (fun i _ wr => i = .int .i64 0 ∧ Below w.heap.size w wr) (fun _ _ _ => 0)
          case atStart => exact ⟨rfl, hbel⟩
          case round =>
            clear hbel
            obtain ⟨rfl, hbel⟩ := hrel
            go_wp2_with fail
            go_ret
            exact ⟨rfl, hbel⟩
theorem flatNil_Letters (w : World) : Calls Tryz.prog 99 #[.slice none 0 0] w fun e w' => e = .returned (.bool true) ∧ Below w.heap.size w w' := by
  have hmk : ∀ w, (Instr.makeSlice 88 (.int .i64 0) (.int .i64 0)).run Tryz.prog w = .ok (.slice (some ⟨w.heap.size, 0, none⟩) 0 0) (w.alloc (.cells #[] 276)) := fun _ => by kernel_rfl
  go_enter Tryz.func99, Tryz.ntmps99
  go_wp2_with fail
  go_loopw [3, 4] (fun i _ wr => i = .int .i64 0 ∧ Below w.heap.size w wr) (fun _ _ _ => 0)
  case atStart => exact ⟨rfl, Below.refl _ _⟩
  case round =>
    obtain ⟨rfl, hbel⟩ := hrel
    have hb : Below w.heap.size w (wr.alloc (.cells #[] 276)) := hbel.alloc hbel.size _
    go_wp2_with fail
    generalize wr.alloc (.cells #[] 276) = w1 at hb ⊢
    go_loopw [6, 7, 8] (fun i _ _ wr => i = .int .i64 0 ∧ Below w.heap.size w wr) (fun _ _ _ _ => 0)
    case atStart => exact ⟨rfl, hb⟩
    case round =>
      clear hb hbel
      obtain ⟨rfl, hbel⟩ := hrel
      go_wp2_with fail
      go_loopw [9, 10] (fun i _ wr => i = .int .i64 0 ∧ Below w.heap.size w wr) (fun _ _ _ => 0)
      case atStart => exact ⟨rfl, hbel⟩
      case round =>
        clear hbel
        obtain ⟨rfl, hbel⟩ := hrel
        go_wp2_with fail
        go_loopw [11, 12, 13] (fun i _ _ wr => i = .int .i64 0 ∧ Below w.heap.size w wr) (fun _ _ _ _ => 0)
        case atStart => exact ⟨rfl, hbel⟩
        case round =>
          clear hbel
          obtain ⟨rfl, hbel⟩ := hrel
          go_wp2_with fail
          go_loopw [14, 15] (fun i _ wr => i = .int .i64 0 ∧ Below w.heap.size w wr) (fun _ _ _ => 0)
          case atStart => exact ⟨rfl, hbel⟩
          case round =>
            clear hbel
            obtain ⟨rfl, hbel⟩ := hrel
            go_wp2_with fail
            go_ret
            exact ⟨rfl, hbel⟩
theorem flatNil_Steps (w : World) : Calls Tryz.prog 101 #[.slice none 0 0] w fun e w' => e = .returned (.bool true) ∧ Below w.heap.size w w' := by
  have hmk : ∀ w, (Instr.makeSlice 89 (.int .i64 0) (.int .i64 0)).run Tryz.prog w = .ok (.slice (some ⟨w.heap.size, 0, none⟩) 0 0) (w.alloc (.cells #[] 283)) := fun _ => by kernel_rfl
  go_enter Tryz.func101, Tryz.ntmps101
  go_wp2_with fail
  go_loopw [3, 4] (fun i _ wr => i = .int .i64 0 ∧ Below w.heap.size w wr) (fun _ _ _ => 0)
  case atStart => exact ⟨rfl, Below.refl _ _⟩
  case round =>
    obtain ⟨rfl, hbel⟩ := hrel
    have hb : Below w.heap.size w (wr.alloc (.cells #[] 283)) := hbel.alloc hbel.size _
    go_wp2_with fail
    generalize wr.alloc (.cells #[] 283) = w1 at hb ⊢
    go_loopw [6, 7, 8] (fun i _ _ wr => i = .int .i64 0 ∧ Below w.heap.size w wr) (fun _ _ _ _ => 0)
    case atStart => exact ⟨rfl, hb⟩
    case round =>
      clear hb hbel
      obtain ⟨rfl, hbel⟩ := hrel
      go_wp2_with fail
      go_loopw [9, 10] (fun i _ wr => i = .int .i64 0 ∧ Below w.heap.size w wr) (fun _ _ _ => 0)
      case atStart => exact ⟨rfl, hbel⟩
      case round =>
        clear hbel
        obtain ⟨rfl, hbel⟩ := hrel
        go_wp2_with fail
        go_loopw [11, 12, 13] (fun i _ _ wr => i = .int .i64 0 ∧ Below w.heap.size w wr) (fun _ _ _ _ => 0)
        case atStart => exact ⟨rfl, hbel⟩
        case round =>
          clear hbel
          obtain ⟨rfl, hbel⟩ := hrel
          go_wp2_with fail
          go_loopw [14, 15] (fun i _ wr => i = .int .i64 0 ∧ Below w.heap.size w wr) (fun _ _ _ => 0)
          case atStart => exact ⟨rfl, hbel⟩
          case round =>
            clear hbel
            obtain ⟨rfl, hbel⟩ := hrel
            go_wp2_with fail
            go_ret
            exact ⟨rfl, hbel⟩
theorem flatNil_Tales (w : World) : Calls Tryz.prog 102 #[.slice none 0 0] w fun e w' => e = .returned (.bool true) ∧ Below w.heap.size w w' := by
  have hmk : ∀ w, (Instr.makeSlice 90 (.int .i64 0) (.int .i64 0)).run Tryz.prog w = .ok (.slice (some ⟨w.heap.size, 0, none⟩) 0 0) (w.alloc (.cells #[] 289)) := fun _ => by kernel_rfl
  go_enter Tryz.func102, Tryz.ntmps102
  go_wp2_with fail
  go_loopw [3, 4] (fun i _ wr => i = .int .i64 0 ∧ Below w.heap.size w wr) (fun _ _ _ => 0)
  case atStart => exact ⟨rfl, Below.refl _ _⟩
  case round =>
    obtain ⟨rfl, hbel⟩ := hrel
    have hb : Below w.heap.size w (wr.alloc (.cells #[] 289)) := hbel.alloc hbel.size _
    go_wp2_with fail
    generalize wr.alloc (.cells #[] 289) = w1 at hb ⊢
    go_loopw [6, 7, 8] (fun i _ _ wr => i = .int .i64 0 ∧ Below w.heap.size w wr) (fun _ _ _ _ => 0)
    case atStart => exact ⟨rfl, hb⟩
    case round =>
      clear hb hbel
      obtain ⟨rfl, hbel⟩ := hrel
      go_wp2_with fail
      go_loopw [9, 10] (fun i _ wr => i = .int .i64 0 ∧ Below w.heap.size w wr) (fun _ _ _ => 0)
      case atStart => exact ⟨rfl, hbel⟩
      case round =>
        clear hbel
        obtain ⟨rfl, hbel⟩ := hrel
        go_wp2_with fail
        go_loopw [11, 12, 13] (fun i _ _ wr => i = .int .i64 0 ∧ Below w.heap.size w wr) (fun _ _ _ _ => 0)
        case atStart => exact ⟨rfl, hbel⟩
        case round =>
          clear hbel
          obtain ⟨rfl, hbel⟩ := hrel
          go_wp2_with fail
          go_loopw [14, 15] (fun i _ wr => i = .int .i64 0 ∧ Below w.heap.size w wr) (fun _ _ _ => 0)
          case atStart => exact ⟨rfl, hbel⟩
          case round =>
            clear hbel
            obtain ⟨rfl, hbel⟩ := hrel
            go_wp2_with fail
            go_ret
            exact ⟨rfl, hbel⟩
theorem flatNil_States (w : World) : Calls Tryz.prog 103 #[.slice none 0 0] w fun e w' => e = .returned (.bool true) ∧ Below w.heap.size w w' := by
  have hmk : ∀ w, (Instr.makeSlice 91 (.int .i64 0) (.int .i64 0)).run Tryz.prog w = .ok (.slice (some ⟨w.heap.size, 0, none⟩) 0 0) (w.alloc (.cells #[] 295)) := fun _ => by kernel_rfl
  go_enter Tryz.func103, Tryz.ntmps103
  go_wp2_with fail
  go_loopw [3, 4] (fun i _ wr => i = .int .i64 0 ∧ Below w.heap.size w wr) (fun _ _ _ => 0)
  case atStart => exact ⟨rfl, Below.refl _ _⟩
  case round =>
    obtain ⟨rfl, hbel⟩ := hrel
    have hb : Below w.heap.size w (wr.alloc (.cells #[] 295)) := hbel.alloc hbel.size _
    go_wp2_with fail
    generalize wr.alloc (.cells #[] 295) = w1 at hb ⊢
    go_loopw [6, 7, 8] (fun i _ _ wr => i = .int .i64 0 ∧ Below w.heap.size w wr) (fun _ _ _ _ => 0)
    case atStart => exact ⟨rfl, hb⟩
    case round =>
      clear hb hbel
      obtain ⟨rfl, hbel⟩ := hrel
      go_wp2_with fail
      go_loopw [9, 10] (fun i _ wr => i = .int .i64 0 ∧ Below w.heap.size w wr) (fun _ _ _ => 0)
      case atStart => exact ⟨rfl, hbel⟩
      case round =>
        clear hbel
        obtain ⟨rfl, hbel⟩ := hrel
        go_wp2_with fail
        go_loopw [11, 12, 13] (fun i _ _ wr => i = .int .i64 0 ∧ Below w.heap.size w wr) (fun _ _ _ _ => 0)
        case atStart => exact ⟨rfl, hbel⟩
        case round =>
          clear hbel
          obtain ⟨rfl, hbel⟩ := hrel
          go_wp2_with fail
          go_loopw [14, 15] (fun i _ wr => i = .int .i64 0 ∧ Below w.heap.size w wr) (fun _ _ _ => 0)
          case atStart => exact ⟨rfl, hbel⟩
          case round =>
            clear hbel
            obtain ⟨rfl, hbel⟩ := hrel
            go_wp2_with fail
            go_ret
            exact ⟨rfl, hbel⟩
theorem flatNil_Sessions (w : World) : Calls Tryz.prog 104 #[.slice none 0 0] w fun e w' => e = .returned (.bool true) ∧ Below w.heap.size w w' := by
  have hmk : ∀ w, (Instr.makeSlice 92 (.int .i64 0) (.int .i64 0)).run Tryz.prog w = .ok (.slice (some ⟨w.heap.size, 0, none⟩) 0 0) (w.alloc (.cells #[] 300)) := fun _ => by kernel_rfl
  go_enter Tryz.func104, Tryz.ntmps104
  go_wp2_with fail
  go_loopw [3, 4] (fun i _ wr => i = .int .i64 0 ∧ Below w.heap.size w wr) (fun _ _ _ => 0)
  case atStart => exact ⟨rfl, Below.refl _ _⟩
  case round =>
    obtain ⟨rfl, hbel⟩ := hrel
    have hb : Below w.heap.size w (wr.alloc (.cells #[] 300)) := hbel.alloc hbel.size _
    go_wp2_with fail
    generalize wr.alloc (.cells #[] 300) = w1 at hb ⊢
    go_loopw [6, 7, 8] (fun i _ _ wr => i = .int .i64 0 ∧ Below w.heap.size w wr) (fun _ _ _ _ => 0)
    case atStart => exact ⟨rfl, hb⟩
    case round =>
      clear hb hbel
      obtain ⟨rfl, hbel⟩ := hrel
      go_wp2_with fail
      go_loopw [9, 10] (fun i _ wr => i = .int .i64 0 ∧ Below w.heap.size w wr) (fun _ _ _ => 0)
      case atStart => exact ⟨rfl, hbel⟩
      case round =>
        clear hbel
        obtain ⟨rfl, hbel⟩ := hrel
        go_wp2_with fail
        go_loopw [11, 12, 13] (fun i _ _ wr => i = .int .i64 0 ∧ Below w.heap.size w wr) (fun _ _ _ _ => 0)
        case atStart => exact ⟨rfl, hbel⟩
        case round =>
          clear hbel
          obtain ⟨rfl, hbel⟩ := hrel
          go_wp2_with fail
          go_loopw [14, 15] (fun i _ wr => i = .int .i64 0 ∧ Below w.heap.size w wr) (fun _ _ _ => 0)
          case atStart => exact ⟨rfl, hbel⟩
          case round =>
            clear hbel
            obtain ⟨rfl, hbel⟩ := hrel
            go_wp2_with fail
            go_ret
            exact ⟨rfl, hbel⟩
theorem flatNil_Machines (w : World) : Calls Tryz.prog 105 #[.slice none 0 0] w fun e w' => e = .returned (.bool true) ∧ Below w.heap.size w w' := by
  have hmk : ∀ w, (Instr.makeSlice 93 (.int .i64 0) (.int .i64 0)).run Tryz.prog w = .ok (.slice (some ⟨w.heap.size, 0, none⟩) 0 0) (w.alloc (.cells #[] 305)) := fun _ => by kernel_rfl
  go_enter Tryz.func105, Tryz.ntmps105
  go_wp2_with fail
  go_loopw [3, 4] (fun i _ wr => i = .int .i64 0 ∧ Below w.heap.size w wr) (fun _ _ _ => 0)
  case atStart => exact ⟨rfl, Below.refl _ _⟩
  case round =>
    obtain ⟨rfl, hbel⟩ := hrel
    have hb : Below w.heap.size w (wr.alloc (.cells #[] 305)) := hbel.alloc hbel.size _
    go_wp2_with fail
    generalize wr.alloc (.cells #[] 305) = w1 at hb ⊢
    go_loopw [6, 7, 8] (fun i _ _ wr => i = .int .i64 0 ∧ Below w.heap.size w wr) (fun _ _ _ _ => 0)
    case atStart => exact ⟨rfl, hb⟩
    case round =>
      clear hb hbel
      obtain ⟨rfl, hbel⟩ := hrel
      go_wp2_with fail
      go_loopw [9, 10] (fun i _ wr => i = .int .i64 0 ∧ Below w.heap.size w wr) (fun _ _ _ => 0)
      case atStart => exact ⟨rfl, hbel⟩
      case round =>
        clear hbel
        obtain ⟨rfl, hbel⟩ := hrel
        go_wp2_with fail
        go_loopw [11, 12, 13] (fun i _ _ wr => i = .int .i64 0 ∧ Below w.heap.size w wr) (fun _ _ _ _ => 0)
        case atStart => exact ⟨rfl, hbel⟩
        case round =>
          clear hbel
          obtain ⟨rfl, hbel⟩ := hrel
          go_wp2_with fail
          go_loopw [14, 15] (fun i _ wr => i = .int .i64 0 ∧ Below w.heap.size w wr) (fun _ _ _ => 0)
          case atStart => exact ⟨rfl, hbel⟩
          case round =>
            clear hbel
            obtain ⟨rfl, hbel⟩ := hrel
            go_wp2_with fail
            go_ret
            exact ⟨rfl, hbel⟩
theorem flatNil_Frames (w : World) : Calls Tryz.prog 106 #[.slice none 0 0] w fun e w' => e = .returned (.bool true) ∧ Below w.heap.size w w' := by
  have hmk : ∀ w, (Instr.makeSlice 94 (.int .i64 0) (.int .i64 0)).run Tryz.prog w = .ok (.slice (some ⟨w.heap.size, 0, none⟩) 0 0) (w.alloc (.cells #[] 66)) := fun _ => by kernel_rfl
  go_enter Tryz.func106, Tryz.ntmps106
  go_wp2_with fail
  go_loopw [3, 4] (fun i _ wr => i = .int .i64 0 ∧ Below w.heap.size w wr) (fun _ _ _ => 0)
  case atStart => exact ⟨rfl, Below.refl _ _⟩
  case round =>
    obtain ⟨rfl, hbel⟩ := hrel
    have hb : Below w.heap.size w (wr.alloc (.cells #[] 66)) := hbel.alloc hbel.size _
    go_wp2_with fail
    generalize wr.alloc (.cells #[] 66) = w1 at hb ⊢
    go_loopw [6, 7, 8] (fun i _ _ wr => i = .int .i64 0 ∧ Below w.heap.size w wr) (fun _ _ _ _ => 0)
    case atStart => exact ⟨rfl, hb⟩
    case round =>
      clear hb hbel
      obtain ⟨rfl, hbel⟩ := hrel
      go_wp2_with fail
      go_loopw [9, 10] (fun i _ wr => i = .int .i64 0 ∧ Below w.heap.size w wr) (fun _ _ _ => 0)
      case atStart => exact ⟨rfl, hbel⟩
      case round =>
        clear hbel
        obtain ⟨rfl, hbel⟩ := hrel
        go_wp2_with fail
        go_loopw [11, 12, 13] (fun i _ _ wr => i = .int .i64 0 ∧ Below w.heap.size w wr) (fun _ _ _ _ => 0)
        case atStart => exact ⟨rfl, hbel⟩
        case round =>
          clear hbel
          obtain ⟨rfl, hbel⟩ := hrel
          go_wp2_with fail
          go_loopw [14, 15] (fun i _ wr => i = .int .i64 0 ∧ Below w.heap.size w wr) (fun _ _ _ => 0)
          case atStart => exact ⟨rfl, hbel⟩
          case round =>
            clear hbel
            obtain ⟨rfl, hbel⟩ := hrel
            go_wp2_with fail
            go_ret
            exact ⟨rfl, hbel⟩
end Go.Proofs.YtnkjoihnniiidaaGreatDoor
