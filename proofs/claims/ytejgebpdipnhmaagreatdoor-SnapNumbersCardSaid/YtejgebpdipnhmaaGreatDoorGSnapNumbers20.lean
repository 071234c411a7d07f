/- No rows at all lie apart: each kind's own look at a nil list. No condition. -/
import Derived.Test.YtejgebpdipnhmaaGreatDoorGSnapNumbers0
set_option linter.unusedVariables false
set_option linter.unusedSimpArgs false
namespace Go.Proofs.YtejgebpdipnhmaaGreatDoor
open Go.RowKit
set_option maxRecDepth 20000
theorem flatNil_Limbs (w : World) : Calls Tryz.prog 84 #[.slice none 0 0] w fun e w' => e = .returned (.bool true) ∧ Below w.heap.size w w' := by
  have hmk : ∀ w, (Instr.makeSlice 75 (.int .i64 0) (.int .i64 0)).run Tryz.prog w = .ok (.slice (some ⟨w.heap.size, 0, none⟩) 0 0) (w.alloc (.cells #[] 192)) := fun _ => by kernel_rfl
  go_enter Tryz.func84, Tryz.ntmps84
  go_wp2_with fail
  go_loopw [3, 4] (fun i _ wr => i = .int .i64 0 ∧ Below w.heap.size w wr) (fun _ _ _ => 0)
  case atStart => exact ⟨rfl, Below.refl _ _⟩
  case round =>
    obtain ⟨rfl, hbel⟩ := hrel
    have hb : Below w.heap.size w (wr.alloc (.cells #[] 192)) := hbel.alloc hbel.size _
    go_wp2_with fail
    generalize wr.alloc (.cells #[] 192) = w1 at hb ⊢
    go_loopw [6, 7, 8] (fun i _ _ wr => i = .int .i64 0 ∧ Below w.heap.size w wr) (fun _ _ _ _ => 0)
    case atStart => exact ⟨rfl, hb⟩
    case round =>
      clear hb hbel
      obtain ⟨rfl, hbel⟩ := hrel
      go_wp2_with fail
      go_loopw [9, 10] (fun i _ wr => i = .int .i64 0 ∧ Below w.heap.size w wr) (fun _ _ _ => 0)
      case atStart => exact ⟨rfl, hbel⟩
      case round =>
        clear hbel
        obtain ⟨rfl, hbel⟩ := hrel
        go_wp2_with fail
        go_loopw [11, 12, 13] (fun i _ _ wr => i = .int .i64 0 ∧ Below w.heap.size w wr) (fun _ _ _ _ => 0)
        case atStart => exact ⟨rfl, hbel⟩
        case round =>
          clear hbel
          obtain ⟨rfl, hbel⟩ := hrel
          go_wp2_with fail
          go_loopw [14, 15] (fun i _ wr => i = .int .i64 0 ∧ Below w.heap.size w wr) (fun _ _ _ => 0)
          case atStart => exact ⟨rfl, hbel⟩
          case round =>
            clear hbel
            obtain ⟨rfl, hbel⟩ := hrel
            go_wp2_with fail
            go_ret
            exact ⟨rfl, hbel⟩
theorem flatNil_Words (w : World) : Calls Tryz.prog 85 #[.slice none 0 0] w fun e w' => e = .returned (.bool true) ∧ Below w.heap.size w w' := by
  have hmk : ∀ w, (Instr.makeSlice 76 (.int .i64 0) (.int .i64 0)).run Tryz.prog w = .ok (.slice (some ⟨w.heap.size, 0, none⟩) 0 0) (w.alloc (.cells #[] 193)) := fun _ => by kernel_rfl
  go_enter Tryz.func85, Tryz.ntmps85
  go_wp2_with fail
  go_loopw [3, 4] (fun i _ wr => i = .int .i64 0 ∧ Below w.heap.size w wr) (fun _ _ _ => 0)
  case atStart => exact ⟨rfl, Below.refl _ _⟩
  case round =>
    obtain ⟨rfl, hbel⟩ := hrel
    have hb : Below w.heap.size w (wr.alloc (.cells #[] 193)) := hbel.alloc hbel.size _
    go_wp2_with fail
    generalize wr.alloc (.cells #[] 193) = w1 at hb ⊢
    go_loopw [6, 7, 8] (fun i _ _ wr => i = .int .i64 0 ∧ Below w.heap.size w wr) (fun _ _ _ _ => 0)
    case atStart => exact ⟨rfl, hb⟩
    case round =>
      clear hb hbel
      obtain ⟨rfl, hbel⟩ := hrel
      go_wp2_with fail
      go_loopw [9, 10] (fun i _ wr => i = .int .i64 0 ∧ Below w.heap.size w wr) (fun _ _ _ => 0)
      case atStart => exact ⟨rfl, hbel⟩
      case round =>
        clear hbel
        obtain ⟨rfl, hbel⟩ := hrel
        go_wp2_with fail
        go_loopw [11, 12, 13] (fun i _ _ wr => i = .int .i64 0 ∧ Below w.heap.size w wr) (fun _ _ _ _ => 0)
        case atStart => exact ⟨rfl, hbel⟩
        case round =>
          clear hbel
          obtain ⟨rfl, hbel⟩ := hrel
          go_wp2_with fail
          go_loopw [14, 15] (fun i _ wr => i = .int .i64 0 ∧ Below w.heap.size w wr) (fun _ _ _ => 0)
          case atStart => exact ⟨rfl, hbel⟩
          case round =>
            clear hbel
            obtain ⟨rfl, hbel⟩ := hrel
            go_wp2_with fail
            go_ret
            exact ⟨rfl, hbel⟩
theorem flatNil_Ints (w : World) : Calls Tryz.prog 86 #[.slice none 0 0] w fun e w' => e = .returned (.bool true) ∧ Below w.heap.size w w' := by
  have hmk : ∀ w, (Instr.makeSlice 77 (.int .i64 0) (.int .i64 0)).run Tryz.prog w = .ok (.slice (some ⟨w.heap.size, 0, none⟩) 0 0) (w.alloc (.cells #[] 22)) := fun _ => by kernel_rfl
  go_enter Tryz.func86, Tryz.ntmps86
  go_wp2_with fail
  go_loopw [3, 4] (fun i _ wr => i = .int .i64 0 ∧ Below w.heap.size w wr) (fun _ _ _ => 0)
  case atStart => exact ⟨rfl, Below.refl _ _⟩
  case round =>
    obtain ⟨rfl, hbel⟩ := hrel
    have hb : Below w.heap.size w (wr.alloc (.cells #[] 22)) := hbel.alloc hbel.size _
    go_wp2_with fail
    generalize wr.alloc (.cells #[] 22) = w1 at hb ⊢
    go_loopw [6, 7, 8] (fun i _ _ wr => i = .int .i64 0 ∧ Below w.heap.size w wr) (fun _ _ _ _ => 0)
    case atStart => exact ⟨rfl, hb⟩
    case round =>
      clear hb hbel
      obtain ⟨rfl, hbel⟩ := hrel
      go_wp2_with fail
      go_loopw [9, 10] (fun i _ wr => i = .int .i64 0 ∧ Below w.heap.size w wr) (fun _ _ _ => 0)
      case atStart => exact ⟨rfl, hbel⟩
      case round =>
        clear hbel
        obtain ⟨rfl, hbel⟩ := hrel
        go_wp2_with fail
        go_loopw [11, 12, 13] (fun i _ _ wr => i = .int .i64 0 ∧ Below w.heap.size w wr) (fun _ _ _ _ => 0)
        case atStart => exact ⟨rfl, hbel⟩
        case round =>
          clear hbel
          obtain ⟨rfl, hbel⟩ := hrel
          go_wp2_with fail
          go_loopw [14, 15] (fun i _ wr => i = .int .i64 0 ∧ Below w.heap.size w wr) (fun _ _ _ => 0)
          case atStart => exact ⟨rfl, hbel⟩
          case round =>
            clear hbel
            obtain ⟨rfl, hbel⟩ := hrel
            go_wp2_with fail
            go_ret
            exact ⟨rfl, hbel⟩
theorem flatNil_Longs (w : World) : Calls Tryz.prog 87 #[.slice none 0 0] w fun e w' => e = .returned (.bool true) ∧ Below w.heap.size w w' := by
  have hmk : ∀ w, (Instr.makeSlice 78 (.int .i64 0) (.int .i64 0)).run Tryz.prog w = .ok (.slice (some ⟨w.heap.size, 0, none⟩) 0 0) (w.alloc (.cells #[] 194)) := fun _ => by kernel_rfl
  go_enter Tryz.func87, Tryz.ntmps87
  go_wp2_with fail
  go_loopw [3, 4] (fun i _ wr => i = .int .i64 0 ∧ Below w.heap.size w wr) (fun _ _ _ => 0)
  case atStart => exact ⟨rfl, Below.refl _ _⟩
  case round =>
    obtain ⟨rfl, hbel⟩ := hrel
    have hb : Below w.heap.size w (wr.alloc (.cells #[] 194)) := hbel.alloc hbel.size _
    go_wp2_with fail
    generalize wr.alloc (.cells #[] 194) = w1 at hb ⊢
    go_loopw [6, 7, 8] (fun i _ _ wr => i = .int .i64 0 ∧ Below w.heap.size w wr) (fun _ _ _ _ => 0)
    case atStart => exact ⟨rfl, hb⟩
    case round =>
      clear hb hbel
      obtain ⟨rfl, hbel⟩ := hrel
      go_wp2_with fail
      go_loopw [9, 10] (fun i _ wr => i = .int .i64 0 ∧ Below w.heap.size w wr) (fun _ _ _ => 0)
      case atStart => exact ⟨rfl, hbel⟩
      case round =>
        clear hbel
        obtain ⟨rfl, hbel⟩ := hrel
        go_wp2_with fail
        go_loopw [11, 12, 13] (fun i _ _ wr => i = .int .i64 0 ∧ Below w.heap.size w wr) (fun _ _ _ _ => 0)
        case atStart => exact ⟨rfl, hbel⟩
        case round =>
          clear hbel
          obtain ⟨rfl, hbel⟩ := hrel
          go_wp2_with fail
          go_loopw [14, 15] (fun i _ wr => i = .int .i64 0 ∧ Below w.heap.size w wr) (fun _ _ _ => 0)
          case atStart => exact ⟨rfl, hbel⟩
          case round =>
            clear hbel
            obtain ⟨rfl, hbel⟩ := hrel
            go_wp2_with fail
            go_ret
            exact ⟨rfl, hbel⟩
theorem flatNil_Texts (w : World) : Calls Tryz.prog 88 #[.slice none 0 0] w fun e w' => e = .returned (.bool true) ∧ Below w.heap.size w w' := by
  have hmk : ∀ w, (Instr.makeSlice 79 (.int .i64 0) (.int .i64 0)).run Tryz.prog w = .ok (.slice (some ⟨w.heap.size, 0, none⟩) 0 0) (w.alloc (.cells #[] 186)) := fun _ => by kernel_rfl
  go_enter Tryz.func88, Tryz.ntmps88
  go_wp2_with fail
  go_loopw [3, 4] (fun i _ wr => i = .int .i64 0 ∧ Below w.heap.size w wr) (fun _ _ _ => 0)
  case atStart => exact ⟨rfl, Below.refl _ _⟩
  case round =>
    obtain ⟨rfl, hbel⟩ := hrel
    have hb : Below w.heap.size w (wr.alloc (.cells #[] 186)) := hbel.alloc hbel.size _
    go_wp2_with fail
    generalize wr.alloc (.cells #[] 186) = w1 at hb ⊢
    go_loopw [6, 7, 8] (fun i _ _ wr => i = .int .i64 0 ∧ Below w.heap.size w wr) (fun _ _ _ _ => 0)
    case atStart => exact ⟨rfl, hb⟩
    case round =>
      clear hb hbel
      obtain ⟨rfl, hbel⟩ := hrel
      go_wp2_with fail
      go_loopw [9, 10] (fun i _ wr => i = .int .i64 0 ∧ Below w.heap.size w wr) (fun _ _ _ => 0)
      case atStart => exact ⟨rfl, hbel⟩
      case round =>
        clear hbel
        obtain ⟨rfl, hbel⟩ := hrel
        go_wp2_with fail
        go_loopw [11, 12, 13] (fun i _ _ wr => i = .int .i64 0 ∧ Below w.heap.size w wr) (fun _ _ _ _ => 0)
        case atStart => exact ⟨rfl, hbel⟩
        case round =>
          clear hbel
          obtain ⟨rfl, hbel⟩ := hrel
          go_wp2_with fail
          go_loopw [14, 15] (fun i _ wr => i = .int .i64 0 ∧ Below w.heap.size w wr) (fun _ _ _ => 0)
          case atStart => exact ⟨rfl, hbel⟩
          case round =>
            clear hbel
            obtain ⟨rfl, hbel⟩ := hrel
            go_wp2_with fail
            go_ret
            exact ⟨rfl, hbel⟩
theorem flatNil_Values (w : World) : Calls Tryz.prog 90 #[.slice none 0 0] w fun e w' => e = .returned (.bool true) ∧ Below w.heap.size w w' := by
  have hmk : ∀ w, (Instr.makeSlice 80 (.int .i64 0) (.int .i64 0)).run Tryz.prog w = .ok (.slice (some ⟨w.heap.size, 0, none⟩) 0 0) (w.alloc (.cells #[] 196)) := fun _ => by kernel_rfl
  go_enter Tryz.func90, Tryz.ntmps90
  go_wp2_with fail
  go_loopw [3, 4] (fun i _ wr => i = .int .i64 0 ∧ Below w.heap.size w wr) (fun _ _ _ => 0)
  case atStart => exact ⟨rfl, Below.refl _ _⟩
  case round =>
    obtain ⟨rfl, hbel⟩ := hrel
    have hb : Below w.heap.size w (wr.alloc (.cells #[] 196)) := hbel.alloc hbel.size _
    go_wp2_with fail
    generalize wr.alloc (.cells #[] 196) = w1 at hb ⊢
    go_loopw [6, 7, 8] (fun i _ _ wr => i = .int .i64 0 ∧ Below w.heap.size w wr) (fun _ _ _ _ => 0)
    case atStart => exact ⟨rfl, hb⟩
    case round =>
      clear hb hbel
      obtain ⟨rfl, hbel⟩ := hrel
      go_wp2_with fail
      go_loopw [9, 10] (fun i _ wr => i = .int .i64 0 ∧ Below w.heap.size w wr) (fun _ _ _ => 0)
      case atStart => exact ⟨rfl, hbel⟩
      case round =>
        clear hbel
        obtain ⟨rfl, hbel⟩ := hrel
        go_wp2_with fail
        go_loopw [11, 12, 13] (fun i _ _ wr => i = .int .i64 0 ∧ Below w.heap.size w wr) (fun _ _ _ _ => 0)
        case atStart => exact ⟨rfl, hbel⟩
        case round =>
          clear hbel
          obtain ⟨rfl, hbel⟩ := hrel
          go_wp2_with fail
          go_loopw [14, 15] (fun i _ wr => i = .int .i64 0 ∧ Below w.heap.size w wr) (fun _ _ _ => 0)
          case atStart => exact ⟨rfl, hbel⟩
          case round =>
            clear hbel
            obtain ⟨rfl, hbel⟩ := hrel
            go_wp2_with fail
            go_ret
            exact ⟨rfl, hbel⟩
theorem flatNil_Facts (w : World) : Calls Tryz.prog 91 #[.slice none 0 0] w fun e w' => e = .returned (.bool true) ∧ Below w.heap.size w w' := by
  have hmk : ∀ w, (Instr.makeSlice 81 (.int .i64 0) (.int .i64 0)).run Tryz.prog w = .ok (.slice (some ⟨w.heap.size, 0, none⟩) 0 0) (w.alloc (.cells #[] 201)) := fun _ => by kernel_rfl
  go_enter Tryz.func91, Tryz.ntmps91
  go_wp2_with fail
  go_loopw [3, 4] (fun i _ wr => i = .int .i64 0 ∧ Below w.heap.size w wr) (fun _ _ _ => 0)
  case atStart => exact ⟨rfl, Below.refl _ _⟩
  case round =>
    obtain ⟨rfl, hbel⟩ := hrel
    have hb : Below w.heap.size w (wr.alloc (.cells #[] 201)) := hbel.alloc hbel.size _
    go_wp2_with fail
    generalize wr.alloc (.cells #[] 201) = w1 at hb ⊢
    go_loopw [6, 7, 8] (fun i _ _ wr => i = .int .i64 0 ∧ Below w.heap.size w wr) (fun _ _ _ _ => 0)
    case atStart => exact ⟨rfl, hb⟩
    case round =>
      clear hb hbel
      obtain ⟨rfl, hbel⟩ := hrel
      go_wp2_with fail
      go_loopw [9, 10] (fun i _ wr => i = .int .i64 0 ∧ Below w.heap.size w wr) (fun _ _ _ => 0)
      case atStart => exact ⟨rfl, hbel⟩
      case round =>
        clear hbel
        obtain ⟨rfl, hbel⟩ := hrel
        go_wp2_with fail
        go_loopw [11, 12, 13] (fun i _ _ wr => i = .int .i64 0 ∧ Below w.heap.size w wr) (fun _ _ _ _ => 0)
        case atStart => exact ⟨rfl, hbel⟩
        case round =>
          clear hbel
          obtain ⟨rfl, hbel⟩ := hrel
          go_wp2_with fail
          go_loopw [14, 15] (fun i _ wr => i = .int .i64 0 ∧ Below w.heap.size w wr) (fun _ _ _ => 0)
          case atStart => exact ⟨rfl, hbel⟩
          case round =>
            clear hbel
            obtain ⟨rfl, hbel⟩ := hrel
            go_wp2_with fail
            go_ret
            exact ⟨rfl, hbel⟩
theorem flatNil_Lexes (w : World) : Calls Tryz.prog 92 #[.slice none 0 0] w fun e w' => e = .returned (.bool true) ∧ Below w.heap.size w w' := by
  have hmk : ∀ w, (Instr.makeSlice 82 (.int .i64 0) (.int .i64 0)).run Tryz.prog w = .ok (.slice (some ⟨w.heap.size, 0, none⟩) 0 0) (w.alloc (.cells #[] 206)) := fun _ => by kernel_rfl
  go_enter Tryz.func92, Tryz.ntmps92
  go_wp2_with fail
  go_loopw [3, 4] (fun i _ wr => i = .int .i64 0 ∧ Below w.heap.size w wr) (fun _ _ _ => 0)
  case atStart => exact ⟨rfl, Below.refl _ _⟩
  case round =>
    obtain ⟨rfl, hbel⟩ := hrel
    have hb : Below w.heap.size w (wr.alloc (.cells #[] 206)) := hbel.alloc hbel.size _
    go_wp2_with fail
    generalize wr.alloc (.cells #[] 206) = w1 at hb ⊢
    go_loopw [6, 7, 8] (fun i _ _ wr => i = .int .i64 0 ∧ Below w.heap.size w wr) (fun _ _ _ _ => 0)
    case atStart => exact ⟨rfl, hb⟩
    case round =>
      clear hb hbel
      obtain ⟨rfl, hbel⟩ := hrel
      go_wp2_with fail
      go_loopw [9, 10] (fun i _ wr => i = .int .i64 0 ∧ Below w.heap.size w wr) (fun _ _ _ => 0)
      case atStart => exact ⟨rfl, hbel⟩
      case round =>
        clear hbel
        obtain ⟨rfl, hbel⟩ := hrel
        go_wp2_with fail
        go_loopw [11, 12, 13] (fun i _ _ wr => i = .int .i64 0 ∧ Below w.heap.size w wr) (fun _ _ _ _ => 0)
        case atStart => exact ⟨rfl, hbel⟩
        case round =>
          clear hbel
          obtain ⟨rfl, hbel⟩ := hrel
          go_wp2_with fail
          go_loopw [14, 15] (fun i _ wr => i = .int .i64 0 ∧ Below w.heap.size w wr) (fun _ _ _ => 0)
          case atStart => exact ⟨rfl, hbel⟩
          case round =>
            clear hbel
            obtain ⟨rfl, hbel⟩ := hrel
            go_wp2_with fail
            go_ret
            exact ⟨rfl, hbel⟩
theorem flatNil_Nodes (w : World) : Calls Tryz.prog 93 #[.slice none 0 0] w fun e w' => e = .returned (.bool true) ∧ Below w.heap.size w w' := by
  have hmk : ∀ w, (Instr.makeSlice 83 (.int .i64 0) (.int .i64 0)).run Tryz.prog w = .ok (.slice (some ⟨w.heap.size, 0, none⟩) 0 0) (w.alloc (.cells #[] 211)) := fun _ => by kernel_rfl
  go_enter Tryz.func93, Tryz.ntmps93
  go_wp2_with fail
  go_loopw [3, 4] (fun i _ wr => i = .int .i64 0 ∧ Below w.heap.size w wr) (fun _ _ _ => 0)
  case atStart => exact ⟨rfl, Below.refl _ _⟩
  case round =>
    obtain ⟨rfl, hbel⟩ := hrel
    have hb : Below w.heap.size w (wr.alloc (.cells #[] 211)) := hbel.alloc hbel.size _
    go_wp2_with fail
    generalize wr.alloc (.cells #[] 211) = w1 at hb ⊢
    go_loopw [6, 7, 8] (fun i _ _ wr => i = .int .i64 0 ∧ Below w.heap.size w wr) (fun _ _ _ _ => 0)
    case atStart => exact ⟨rfl, hb⟩
    case round =>
      clear hb hbel
      obtain ⟨rfl, hbel⟩ := hrel
      go_wp2_with fail
      go_loopw [9, 10] (fun i _ wr => i = .int .i64 0 ∧ Below w.heap.size w wr) (fun _ _ _ => 0)
      case atStart => exact ⟨rfl, hbel⟩
      case round =>
        clear hbel
        obtain ⟨rfl, hbel⟩ := hrel
        go_wp2_with fail
        go_loopw [11, 12, 13] (fun i _ _ wr => i = .int .i64 0 ∧ Below w.heap.size w wr) (fun _ _ _ _ => 0)
        case atStart => exact ⟨rfl, hbel⟩
        case round =>
          clear hbel
          obtain ⟨rfl, hbel⟩ := hrel
          go_wp2_with fail
          go_loopw [14, 15] (fun i _ wr => i = .int .i64 0 ∧ Below w.heap.size w wr) (fun _ _ _ => 0)
          case atStart => exact ⟨rfl, hbel⟩
          case round =>
            clear hbel
            obtain ⟨rfl, hbel⟩ := hrel
            go_wp2_with fail
            go_ret
            exact ⟨rfl, hbel⟩
theorem flatNil_Exprs (w : World) : Calls Tryz.prog 94 #[.slice none 0 0] w fun e w' => e = .returned (.bool true) ∧ Below w.heap.size w w' := by
  have hmk : ∀ w, (Instr.makeSlice 84 (.int .i64 0) (.int .i64 0)).run Tryz.prog w = .ok (.slice (some ⟨w.heap.size, 0, none⟩) 0 0) (w.alloc (.cells #[] 217)) := fun _ => by kernel_rfl
  go_enter Tryz.func94, Tryz.ntmps94
  go_wp2_with fail
  go_loopw [3, 4] (fun i _ wr => i = .int .i64 0 ∧ Below w.heap.size w wr) (fun _ _ _ => 0)
  case atStart => exact ⟨rfl, Below.refl _ _⟩
  case round =>
    obtain ⟨rfl, hbel⟩ := hrel
    have hb : Below w.heap.size w (wr.alloc (.cells #[] 217)) := hbel.alloc hbel.size _
    go_wp2_with fail
    generalize wr.alloc (.cells #[] 217) = w1 at hb ⊢
    go_loopw [6, 7, 8] (fun i _ _ wr => i = .int .i64 0 ∧ Below w.heap.size w wr) (fun _ _ _ _ => 0)
    case atStart => exact ⟨rfl, hb⟩
    case round =>
      clear hb hbel
      obtain ⟨rfl, hbel⟩ := hrel
      go_wp2_with fail
      go_loopw [9, 10] (fun i _ wr => i = .int .i64 0 ∧ Below w.heap.size w wr) (fun _ _ _ => 0)
      case atStart => exact ⟨rfl, hbel⟩
      case round =>
        clear hbel
        obtain ⟨rfl, hbel⟩ := hrel
        go_wp2_with fail
        go_loopw [11, 12, 13] (fun i _ _ wr => i = .int .i64 0 ∧ Below w.heap.size w wr) (fun _ _ _ _ => 0)
        case atStart => exact ⟨rfl, hbel⟩
        case round =>
          clear hbel
          obtain ⟨rfl, hbel⟩ := hrel
          go_wp2_with fail
          go_loopw [14, 15] (fun i _ wr => i = .int .i64 0 ∧ Below w.heap.size w wr) (fun _ _ _ => 0)
          case atStart => exact ⟨rfl, hbel⟩
          case round =>
            clear hbel
            obtain ⟨rfl, hbel⟩ := hrel
            go_wp2_with fail
            go_ret
            exact ⟨rfl, hbel⟩
theorem flatNil_Args (w : World) : Calls Tryz.prog 95 #[.slice none 0 0] w fun e w' => e = .returned (.bool true) ∧ Below w.heap.size w w' := by
  have hmk : ∀ w, (Instr.makeSlice 85 (.int .i64 0) (.int .i64 0)).run Tryz.prog w = .ok (.slice (some ⟨w.heap.size, 0, none⟩) 0 0) (w.alloc (.cells #[] 224)) := fun _ => by kernel_rfl
  go_enter Tryz.func95, Tryz.ntmps95
  go_wp2_with fail
  go_loopw [3, 4] (fun i _ wr => i = .int .i64 0 ∧ Below w.heap.size w wr) (fun _ _ _ => 0)
  case atStart => exact ⟨rfl, Below.refl _ _⟩
  case round =>
    obtain ⟨rfl, hbel⟩ := hrel
    have hb : Below w.heap.size w (wr.alloc (.cells #[] 224)) := hbel.alloc hbel.size _
    go_wp2_with fail
    generalize wr.alloc (.cells #[] 224) = w1 at hb ⊢
    go_loopw [6, 7, 8] (fun i _ _ wr => i = .int .i64 0 ∧ Below w.heap.size w wr) (fun _ _ _ _ => 0)
    case atStart => exact ⟨rfl, hb⟩
    case round =>
      clear hb hbel
      obtain ⟨rfl, hbel⟩ := hrel
      go_wp2_with fail
      go_loopw [9, 10] (fun i _ wr => i = .int .i64 0 ∧ Below w.heap.size w wr) (fun _ _ _ => 0)
      case atStart => exact ⟨rfl, hbel⟩
      case round =>
        clear hbel
        obtain ⟨rfl, hbel⟩ := hrel
        go_wp2_with fail
        go_loopw [11, 12, 13] (fun i _ _ wr => i = .int .i64 0 ∧ Below w.heap.size w wr) (fun _ _ _ _ => 0)
        case atStart => exact ⟨rfl, hbel⟩
        case round =>
          clear hbel
          obtain ⟨rfl, hbel⟩ := hrel
          go_wp2_with fail
          go_loopw [14, 15] (fun i _ wr => i = .int .i64 0 ∧ Below w.heap.size w wr) (fun _ _ _ => 0)
          case atStart => exact ⟨rfl, hbel⟩
          case round =>
            clear hbel
            obtain ⟨rfl, hbel⟩ := hrel
            go_wp2_with fail
            go_ret
            exact ⟨rfl, hbel⟩
theorem flatNil_Conds (w : World) : Calls Tryz.prog 96 #[.slice none 0 0] w fun e w' => e = .returned (.bool true) ∧ Below w.heap.size w w' := by
  have hmk : ∀ w, (Instr.makeSlice 86 (.int .i64 0) (.int .i64 0)).run Tryz.prog w = .ok (.slice (some ⟨w.heap.size, 0, none⟩) 0 0) (w.alloc (.cells #[] 229)) := fun _ => by kernel_rfl
  go_enter Tryz.func96, Tryz.ntmps96
  go_wp2_with fail
  go_loopw [3, 4] (fun i _ wr => i = .int .i64 0 ∧ Below w.heap.size w wr) (fun _ _ _ => 0)
  case atStart => exact ⟨rfl, Below.refl _ _⟩
  case round =>
    obtain ⟨rfl, hbel⟩ := hrel
    have hb : Below w.heap.size w (wr.alloc (.cells #[] 229)) := hbel.alloc hbel.size _
    go_wp2_with fail
    generalize wr.alloc (.cells #[] 229) = w1 at hb ⊢
    go_loopw [6, 7, 8] (fun i _ _ wr => i = .int .i64 0 ∧ Below w.heap.size w wr) (fun _ _ _ _ => 0)
    case atStart => exact ⟨rfl, hb⟩
    case round =>
      clear hb hbel
      obtain ⟨rfl, hbel⟩ := hrel
      go_wp2_with fail
      go_loopw [9, 10] (fun i _ wr => i = .int .i64 0 ∧ Below w.heap.size w wr) (fun _ _ _ => 0)
      case atStart => exact ⟨rfl, hbel⟩
      case round =>
        clear hbel
        obtain ⟨rfl, hbel⟩ := hrel
        go_wp2_with fail
        go_loopw [11, 12, 13] (fun i _ _ wr => i = .int .i64 0 ∧ Below w.heap.size w wr) (fun _ _ _ _ => 0)
        case atStart => exact ⟨rfl, hbel⟩
        case round =>
          clear hbel
          obtain ⟨rfl, hbel⟩ := hrel
          go_wp2_with fail
          go_loopw [14, 15] (fun i _ wr => i = .int .i64 0 ∧ Below w.heap.size w wr) (fun _ _ _ => 0)
          case atStart => exact ⟨rfl, hbel⟩
          case round =>
            clear hbel
            obtain ⟨rfl, hbel⟩ := hrel
            go_wp2_with fail
            go_ret
            exact ⟨rfl, hbel⟩
theorem flatNil_Acts (w : World) : Calls Tryz.prog 97 #[.slice none 0 0] w fun e w' => e = .returned (.bool true) ∧ Below w.heap.size w w' := by
  have hmk : ∀ w, (Instr.makeSlice 87 (.int .i64 0) (.int .i64 0)).run Tryz.prog w = .ok (.slice (some ⟨w.heap.size, 0, none⟩) 0 0) (w.alloc (.cells #[] 235)) := fun _ => by kernel_rfl
  go_enter Tryz.func97, Tryz.ntmps97
  go_wp2_with fail
  go_loopw [3, 4] (fun i _ wr => i = .int .i64 0 ∧ Below w.heap.size w wr) (fun _ _ _ => 0)
  case atStart => exact ⟨rfl, Below.refl _ _⟩
  case round =>
    obtain ⟨rfl, hbel⟩ := hrel
    have hb : Below w.heap.size w (wr.alloc (.cells #[] 235)) := hbel.alloc hbel.size _
    go_wp2_with fail
    generalize wr.alloc (.cells #[] 235) = w1 at hb ⊢
    go_loopw [6, 7, 8] (fun i _ _ wr => i = .int .i64 0 ∧ Below w.heap.size w wr) (fun _ _ _ _ => 0)
    case atStart => exact ⟨rfl, hb⟩
    case round =>
      clear hb hbel
      obtain ⟨rfl, hbel⟩ := hrel
      go_wp2_with fail
      go_loopw [9, 10] (fun i _ wr => i = .int .i64 0 ∧ Below w.heap.size w wr) (fun _ _ _ => 0)
      case atStart => exact ⟨rfl, hbel⟩
      case round =>
        clear hbel
        obtain ⟨rfl, hbel⟩ := hrel
        go_wp2_with fail
        go_loopw [11, 12, 13] (fun i _ _ wr => i = .int .i64 0 ∧ Below w.heap.size w wr) (fun _ _ _ _ => 0)
        case atStart => exact ⟨rfl, hbel⟩
        case round =>
          clear hbel
          obtain ⟨rfl, hbel⟩ := hrel
          go_wp2_with fail
          go_loopw [14, 15] (fun i _ wr => i = .int .i64 0 ∧ Below w.heap.size w wr) (fun _ _ _ => 0)
          case atStart => exact ⟨rfl, hbel⟩
          case round =>
            clear hbel
            obtain ⟨rfl, hbel⟩ := hrel
            go_wp2_with fail
            go_ret
            exact ⟨rfl, hbel⟩
theorem flatNil_Types (w : World) : Calls Tryz.prog 98 #[.slice none 0 0] w fun e w' => e = .returned (.bool true) ∧ Below w.heap.size w w' := by
  have hmk : ∀ w, (Instr.makeSlice 88 (.int .i64 0) (.int .i64 0)).run Tryz.prog w = .ok (.slice (some ⟨w.heap.size, 0, none⟩) 0 0) (w.alloc (.cells #[] 241)) := fun _ => by kernel_rfl
  go_enter Tryz.func98, Tryz.ntmps98
  go_wp2_with fail
  go_loopw [3, 4] (fun i _ wr => i = .int .i64 0 ∧ Below w.heap.size w wr) (fun _ _ _ => 0)
  case atStart => exact ⟨rfl, Below.refl _ _⟩
  case round =>
    obtain ⟨rfl, hbel⟩ := hrel
    have hb : Below w.heap.size w (wr.alloc (.cells #[] 241)) := hbel.alloc hbel.size _
    go_wp2_with fail
    generalize wr.alloc (.cells #[] 241) = w1 at hb ⊢
    go_loopw [6, 7, 8] (fun i _ _ wr => i = .int .i64 0 ∧ Below w.heap.size w wr) (fun _ _ _ _ => 0)
    case atStart => exact ⟨rfl, hb⟩
    case round =>
      clear hb hbel
      obtain ⟨rfl, hbel⟩ := hrel
      go_wp2_with fail
      go_loopw [9, 10] (fun i _ wr => i = .int .i64 0 ∧ Below w.heap.size w wr) (fun _ _ _ => 0)
      case atStart => exact ⟨rfl, hbel⟩
      case round =>
        clear hbel
        obtain ⟨rfl, hbel⟩ := hrel
        go_wp2_with fail
        go_loopw [11, 12, 13] (fun i _ _ wr => i = .int .i64 0 ∧ Below w.heap.size w wr) (fun _ _ _ _ => 0)
        case atStart => exact ⟨rfl, hbel⟩
        case round =>
          clear hbel
          obtain ⟨rfl, hbel⟩ := hrel
          go_wp2_with fail
          go_loopw [14, 15] (fun i _ wr => i = .int .i64 0 ∧ Below w.heap.size w wr) (fun _ _ _ => 0)
          case atStart => exact ⟨rfl, hbel⟩
          case round =>
            clear hbel
            obtain ⟨rfl, hbel⟩ := hrel
            go_wp2_with fail
            go_ret
            exact ⟨rfl, hbel⟩
theorem flatNil_RuleRow (w : World) : Calls Tryz.prog 99 #[.slice none 0 0] w fun e w' => e = .returned (.bool true) ∧ Below w.heap.size w w' := by
  have hmk : ∀ w, (Instr.makeSlice 89 (.int .i64 0) (.int .i64 0)).run Tryz.prog w = .ok (.slice (some ⟨w.heap.size, 0, none⟩) 0 0) (w.alloc (.cells #[] 245)) := fun _ => by kernel_rfl
  go_enter Tryz.func99, Tryz.ntmps99
  go_wp2_with fail
  go_loopw [3, 4] (fun i _ wr => i = .int .i64 0 ∧ Below w.heap.size w wr) (fun _ _ _ => 0)
  case atStart => exact ⟨rfl, Below.refl _ _⟩
  case round =>
    obtain ⟨rfl, hbel⟩ := hrel
    have hb : Below w.heap.size w (wr.alloc (.cells #[] 245)) := hbel.alloc hbel.size _
    go_wp2_with fail
    generalize wr.alloc (.cells #[] 245) = w1 at hb ⊢
    go_loopw [6, 7, 8] (fun i _ _ wr => i = .int .i64 0 ∧ Below w.heap.size w wr) (fun _ _ _ _ => 0)
    case atStart => exact ⟨rfl, hb⟩
    case round =>
      clear hb hbel
      obtain ⟨rfl, hbel⟩ := hrel
      go_wp2_with fail
      go_loopw [9, 10] (fun i _ wr => i = .int .i64 0 ∧ Below w.heap.size w wr) (fun _ _ _ => 0)
      case atStart => exact ⟨rfl, hbel⟩
      case round =>
        clear hbel
        obtain ⟨rfl, hbel⟩ := hrel
        go_wp2_with fail
        go_loopw [11, 12, 13] (fun i _ _ wr => i = .int .i64 0 ∧ Below w.heap.size w wr) (fun _ _ _ _ => 0)
        case atStart => exact ⟨rfl, hbel⟩
        case round =>
          clear hbel
          obtain ⟨rfl, hbel⟩ := hrel
          go_wp2_with fail
          go_loopw [14, 15] (fun i _ wr => i = .int .i64 0 ∧ Below w.heap.size w wr) (fun _ _ _ => 0)
          case atStart => exact ⟨rfl, hbel⟩
          case round =>
            clear hbel
            obtain ⟨rfl, hbel⟩ := hrel
            go_wp2_with fail
            go_ret
            exact ⟨rfl, hbel⟩
theorem flatNil_RulesRow (w : World) : Calls Tryz.prog 100 #[.slice none 0 0] w fun e w' => e = .returned (.bool true) ∧ Below w.heap.size w w' := by
  have hmk : ∀ w, (Instr.makeSlice 90 (.int .i64 0) (.int .i64 0)).run Tryz.prog w = .ok (.slice (some ⟨w.heap.size, 0, none⟩) 0 0) (w.alloc (.cells #[] 250)) := fun _ => by kernel_rfl
  go_enter Tryz.func100, Tryz.ntmps100
  go_wp2_with fail
  go_loopw [3, 4] (fun i _ wr => i = .int .i64 0 ∧ Below w.heap.size w wr) (fun _ _ _ => 0)
  case atStart => exact ⟨rfl, Below.refl _ _⟩
  case round =>
    obtain ⟨rfl, hbel⟩ := hrel
    have hb : Below w.heap.size w (wr.alloc (.cells #[] 250)) := hbel.alloc hbel.size _
    go_wp2_with fail
    generalize wr.alloc (.cells #[] 250) = w1 at hb ⊢
    go_loopw [6, 7, 8] (fun i _ _ wr => i = .int .i64 0 ∧ Below w.heap.size w wr) (fun _ _ _ _ => 0)
    case atStart => exact ⟨rfl, hb⟩
    case round =>
      clear hb hbel
      obtain ⟨rfl, hbel⟩ := hrel
      go_wp2_with fail
      go_loopw [9, 10] (fun i _ wr => i = .int .i64 0 ∧ Below w.heap.size w wr) (fun _ _ _ => 0)
      case atStart => exact ⟨rfl, hbel⟩
      case round =>
        clear hbel
        obtain ⟨rfl, hbel⟩ := hrel
        go_wp2_with fail
        go_loopw [11, 12, 13] (fun i _ _ wr => i = .int .i64 0 ∧ Below w.heap.size w wr) (fun _ _ _ _ => 0)
        case atStart => exact ⟨rfl, hbel⟩
        case round =>
          clear hbel
          obtain ⟨rfl, hbel⟩ := hrel
          go_wp2_with fail
          go_loopw [14, 15] (fun i _ wr => i = .int .i64 0 ∧ Below w.heap.size w wr) (fun _ _ _ => 0)
          case atStart => exact ⟨rfl, hbel⟩
          case round =>
            clear hbel
            obtain ⟨rfl, hbel⟩ := hrel
            go_wp2_with fail
            go_ret
            exact ⟨rfl, hbel⟩
theorem flatNil_Tokens (w : World) : Calls Tryz.prog 101 #[.slice none 0 0] w fun e w' => e = .returned (.bool true) ∧ Below w.heap.size w w' := by
  have hmk : ∀ w, (Instr.makeSlice 91 (.int .i64 0) (.int .i64 0)).run Tryz.prog w = .ok (.slice (some ⟨w.heap.size, 0, none⟩) 0 0) (w.alloc (.cells #[] 255)) := fun _ => by kernel_rfl
  go_enter Tryz.func101, Tryz.ntmps101
  go_wp2_with fail
  go_loopw [3, 4] (fun i _ wr => i = .int .i64 0 ∧ Below w.heap.size w wr) (fun _ _ _ => 0)
  case atStart => exact ⟨rfl, Below.refl _ _⟩
  case round =>
    obtain ⟨rfl, hbel⟩ := hrel
    have hb : Below w.heap.size w (wr.alloc (.cells #[] 255)) := hbel.alloc hbel.size _
    go_wp2_with fail
    generalize wr.alloc (.cells #[] 255) = w1 at hb ⊢
    go_loopw [6, 7, 8] (fun i _ _ wr => i = .int .i64 0 ∧ Below w.heap.size w wr) (fun _ _ _ _ => 0)
    case atStart => exact ⟨rfl, hb⟩
    case round =>
      clear hb hbel
      obtain ⟨rfl, hbel⟩ := hrel
      go_wp2_with fail
      go_loopw [9, 10] (fun i _ wr => i = .int .i64 0 ∧ Below w.heap.size w wr) (fun _ _ _ => 0)
      case atStart => exact ⟨rfl, hbel⟩
      case round =>
        clear hbel
        obtain ⟨rfl, hbel⟩ := hrel
        go_wp2_with fail
        go_loopw [11, 12, 13] (fun i _ _ wr => i = .int .i64 0 ∧ Below w.heap.size w wr) (fun _ _ _ _ => 0)
        case atStart => exact ⟨rfl, hbel⟩
        case round =>
          clear hbel
          obtain ⟨rfl, hbel⟩ := hrel
          go_wp2_with fail
          go_loopw [14, 15] (fun i _ wr => i = .int .i64 0 ∧ Below w.heap.size w wr) (fun _ _ _ => 0)
          case atStart => exact ⟨rfl, hbel⟩
          case round =>
            clear hbel
            obtain ⟨rfl, hbel⟩ := hrel
            go_wp2_with fail
            go_ret
            exact ⟨rfl, hbel⟩
theorem flatNil_Commands (w : World) : Calls Tryz.prog 102 #[.slice none 0 0] w fun e w' => e = .returned (.bool true) ∧ Below w.heap.size w w' := by
  have hmk : ∀ w, (Instr.makeSlice 92 (.int .i64 0) (.int .i64 0)).run Tryz.prog w = .ok (.slice (some ⟨w.heap.size, 0, none⟩) 0 0) (w.alloc (.cells #[] 260)) := fun _ => by kernel_rfl
  go_enter Tryz.func102, Tryz.ntmps102
  go_wp2_with fail
  go_loopw [3, 4] (fun i _ wr => i = .int .i64 0 ∧ Below w.heap.size w wr) (fun _ _ _ => 0)
  case atStart => exact ⟨rfl, Below.refl _ _⟩
  case round =>
    obtain ⟨rfl, hbel⟩ := hrel
    have hb : Below w.heap.size w (wr.alloc (.cells #[] 260)) := hbel.alloc hbel.size _
    go_wp2_with fail
    generalize wr.alloc (.cells #[] 260) = w1 at hb ⊢
    go_loopw [6, 7, 8] (fun i _ _ wr => i = .int .i64 0 ∧ Below w.heap.size w wr) (fun _ _ _ _ => 0)
    case atStart => exact ⟨rfl, hb⟩
    case round =>
      clear hb hbel
      obtain ⟨rfl, hbel⟩ := hrel
      go_wp2_with fail
      go_loopw [9, 10] (fun i _ wr => i = .int .i64 0 ∧ Below w.heap.size w wr) (fun _ _ _ => 0)
      case atStart => exact ⟨rfl, hbel⟩
      case round =>
        clear hbel
        obtain ⟨rfl, hbel⟩ := hrel
        go_wp2_with fail
        go_loopw [11, 12, 13] (fun i _ _ wr => i = .int .i64 0 ∧ Below w.heap.size w wr) (fun _ _ _ _ => 0)
        case atStart => exact ⟨rfl, hbel⟩
        case round =>
          clear hbel
          obtain ⟨rfl, hbel⟩ := hrel
          go_wp2_with fail
          go_loopw [14, 15] (fun i _ wr => i = .int .i64 0 ∧ Below w.heap.size w wr) (fun _ _ _ => 0)
          case atStart => exact ⟨rfl, hbel⟩
          case round =>
            clear hbel
            obtain ⟨rfl, hbel⟩ := hrel
            go_wp2_with fail
            go_ret
            exact ⟨rfl, hbel⟩
theorem flatNil_Replies (w : World) : Calls Tryz.prog 103 #[.slice none 0 0] w fun e w' => e = .returned (.bool true) ∧ Below w.heap.size w w' := by
  have hmk : ∀ w, (Instr.makeSlice 93 (.int .i64 0) (.int .i64 0)).run Tryz.prog w = .ok (.slice (some ⟨w.heap.size, 0, none⟩) 0 0) (w.alloc (.cells #[] 266)) := fun _ => by kernel_rfl
  go_enter Tryz.func103, Tryz.ntmps103
  go_wp2_with fail
  go_loopw [3, 4] (fun i _ wr => i = .int .i64 0 ∧ Below w.heap.size w wr) (fun _ _ _ => 0)
  case atStart => exact ⟨rfl, Below.refl _ _⟩
  case round =>
    obtain ⟨rfl, hbel⟩ := hrel
    have hb : Below w.heap.size w (wr.alloc (.cells #[] 266)) := hbel.alloc hbel.size _
    go_wp2_with fail
    generalize wr.alloc (.cells #[] 266) = w1 at hb ⊢
    go_loopw [6, 7, 8] (fun i _ _ wr => i = .int .i64 0 ∧ Below w.heap.size w wr) (fun _ _ _ _ => 0)
    case atStart => exact ⟨rfl, hb⟩
    case round =>
      clear hb hbel
      obtain ⟨rfl, hbel⟩ := hrel
      go_wp2_with fail
      go_loopw [9, 10] (fun i _ wr => i = .int .i64 0 ∧ Below w.heap.size w wr) (fun _ _ _ => 0)
      case atStart => exact ⟨rfl, hbel⟩
      case round =>
        clear hbel
        obtain ⟨rfl, hbel⟩ := hrel
        go_wp2_with fail
        go_loopw [11, 12, 13] (fun i _ _ wr => i = .int .i64 0 ∧ Below w.heap.size w wr) (fun _ _ _ _ => 0)
        case atStart => exact ⟨rfl, hbel⟩
        case round =>
          clear hbel
          obtain ⟨rfl, hbel⟩ := hrel
          go_wp2_with fail
          go_loopw [14, 15] (fun i _ wr => i = .int .i64 0 ∧ Below w.heap.size w wr) (fun _ _ _ => 0)
          case atStart => exact ⟨rfl, hbel⟩
          case round =>
            clear hbel
            obtain ⟨rfl, hbel⟩ := hrel
            go_wp2_with fail
            go_ret
            exact ⟨rfl, hbel⟩
theorem flatNil_Entries (w : World) : Calls Tryz.prog 104 #[.slice none 0 0] w fun e w' => e = .returned (.bool true) ∧ Below w.heap.size w w' := by
  have hmk : ∀ w, (Instr.makeSlice 94 (.int .i64 0) (.int .i64 0)).run Tryz.prog w = .ok (.slice (some ⟨w.heap.size, 0, none⟩) 0 0) (w.alloc (.cells #[] 271)) := fun _ => by kernel_rfl
  go_enter Tryz.func104, Tryz.ntmps104
  go_wp2_with fail
  go_loopw [3, 4] (fun i _ wr => i = .int .i64 0 ∧ Below w.heap.size w wr) (fun _ _ _ => 0)
  case atStart => exact ⟨rfl, Below.refl _ _⟩
  case round =>
    obtain ⟨rfl, hbel⟩ := hrel
    have hb : Below w.heap.size w (wr.alloc (.cells #[] 271)) := hbel.alloc hbel.size _
    go_wp2_with fail
    generalize wr.alloc (.cells #[] 271) = w1 at hb ⊢
    go_loopw [6, 7, 8] (fun i _ _ wr => i = .int .i64 0 ∧ Below w.heap.size w wr) (fun _ _ _ _ => 0)
    case atStart => exact ⟨rfl, hb⟩
    case round =>
      clear hb hbel
      obtain ⟨rfl, hbel⟩ := hrel
      go_wp2_with fail
      go_loopw [9, 10] (fun i _ wr => i = .int .i64 0 ∧ Below w.heap.size w wr) (fun _ _ _ => 0)
      case atStart => exact ⟨rfl, hbel⟩
      case round =>
        clear hbel
        obtain ⟨rfl, hbel⟩ := hrel
        go_wp2_with fail
        go_loopw [11, 12, 13] (fun i _ _ wr => i = .int .i64 0 ∧ Below w.heap.size w wr) (fun _ _ _ _ => 0)
        case atStart => exact ⟨rfl, hbel⟩
        case round =>
          clear hbel
          obtain ⟨rfl, hbel⟩ := hrel
          go_wp2_with fail
          go_loopw [14, 15] (fun i _ wr => i = .int .i64 0 ∧ Below w.heap.size w wr) (fun _ _ _ => 0)
          case atStart => exact ⟨rfl, hbel⟩
          case round =>
            clear hbel
            obtain ⟨rfl, hbel⟩ := hrel
            go_wp2_with fail
            go_ret
            exact ⟨rfl, hbel⟩
theorem flatNil_Letters (w : World) : Calls Tryz.prog 105 #[.slice none 0 0] w fun e w' => e = .returned (.bool true) ∧ Below w.heap.size w w' := by
  have hmk : ∀ w, (Instr.makeSlice 95 (.int .i64 0) (.int .i64 0)).run Tryz.prog w = .ok (.slice (some ⟨w.heap.size, 0, none⟩) 0 0) (w.alloc (.cells #[] 277)) := fun _ => by kernel_rfl
  go_enter Tryz.func105, Tryz.ntmps105
  go_wp2_with fail
  go_loopw [3, 4] (fun i _ wr => i = .int .i64 0 ∧ Below w.heap.size w wr) (fun _ _ _ => 0)
  case atStart => exact ⟨rfl, Below.refl _ _⟩
  case round =>
    obtain ⟨rfl, hbel⟩ := hrel
    have hb : Below w.heap.size w (wr.alloc (.cells #[] 277)) := hbel.alloc hbel.size _
    go_wp2_with fail
    generalize wr.alloc (.cells #[] 277) = w1 at hb ⊢
    go_loopw [6, 7, 8] (fun i _ _ wr => i = .int .i64 0 ∧ Below w.heap.size w wr) (fun _ _ _ _ => 0)
    case atStart => exact ⟨rfl, hb⟩
    case round =>
      clear hb hbel
      obtain ⟨rfl, hbel⟩ := hrel
      go_wp2_with fail
      go_loopw [9, 10] (fun i _ wr => i = .int .i64 0 ∧ Below w.heap.size w wr) (fun _ _ _ => 0)
      case atStart => exact ⟨rfl, hbel⟩
      case round =>
        clear hbel
        obtain ⟨rfl, hbel⟩ := hrel
        go_wp2_with fail
        go_loopw [11, 12, 13] (fun i _ _ wr => i = .int .i64 0 ∧ Below w.heap.size w wr) (fun _ _ _ _ => 0)
        case atStart => exact ⟨rfl, hbel⟩
        case round =>
          clear hbel
          obtain ⟨rfl, hbel⟩ := hrel
          go_wp2_with fail
          go_loopw [14, 15] (fun i _ wr => i = .int .i64 0 ∧ Below w.heap.size w wr) (fun _ _ _ => 0)
          case atStart => exact ⟨rfl, hbel⟩
          case round =>
            clear hbel
            obtain ⟨rfl, hbel⟩ := hrel
            go_wp2_with fail
            go_ret
            exact ⟨rfl, hbel⟩
theorem flatNil_Snaps (w : World) : Calls Tryz.prog 106 #[.slice none 0 0] w fun e w' => e = .returned (.bool true) ∧ Below w.heap.size w w' := by
  have hmk : ∀ w, (Instr.makeSlice 50 (.int .i64 0) (.int .i64 0)).run Tryz.prog w = .ok (.slice (some ⟨w.heap.size, 0, none⟩) 0 0) (w.alloc (.cells #[] 49)) := fun _ => by kernel_rfl
  go_enter Tryz.func106, Tryz.ntmps106
  go_wp2_with fail
  go_loopw [3, 4] (fun i _ wr => i = .int .i64 0 ∧ Below w.heap.size w wr) (fun _ _ _ => 0)
  case atStart => exact ⟨rfl, Below.refl _ _⟩
  case round =>
    obtain ⟨rfl, hbel⟩ := hrel
    have hb : Below w.heap.size w (wr.alloc (.cells #[] 49)) := hbel.alloc hbel.size _
    go_wp2_with fail
    generalize wr.alloc (.cells #[] 49) = w1 at hb ⊢
    go_loopw [6, 7, 8] (fun i _ _ wr => i = .int .i64 0 ∧ Below w.heap.size w wr) (fun _ _ _ _ => 0)
    case atStart => exact ⟨rfl, hb⟩
    case round =>
      clear hb hbel
      obtain ⟨rfl, hbel⟩ := hrel
      go_wp2_with fail
      go_loopw [9, 10] (fun i _ wr => i = .int .i64 0 ∧ Below w.heap.size w wr) (fun _ _ _ => 0)
      case atStart => exact ⟨rfl, hbel⟩
      case round =>
        clear hbel
        obtain ⟨rfl, hbel⟩ := hrel
        go_wp2_with fail
        go_loopw [11, 12, 13] (fun i _ _ wr => i = .int .i64 0 ∧ Below w.heap.size w wr) (fun _ _ _ _ => 0)
        case atStart => exact ⟨rfl, hbel⟩
        case round =>
          clear hbel
          obtain ⟨rfl, hbel⟩ := hrel
          go_wp2_with fail
          go_loopw [14, 15] (fun i _ wr => i = .int .i64 0 ∧ Below w.heap.size w wr) (fun _ _ _ => 0)
          case atStart => exact ⟨rfl, hbel⟩
          case round =>
            clear hbel
            obtain ⟨rfl, hbel⟩ := hrel
            go_wp2_with fail
            go_ret
            exact ⟨rfl, hbel⟩
theorem flatNil_Steps (w : World) : Calls Tryz.prog 107 #[.slice none 0 0] w fun e w' => e = .returned (.bool true) ∧ Below w.heap.size w w' := by
  have hmk : ∀ w, (Instr.makeSlice 96 (.int .i64 0) (.int .i64 0)).run Tryz.prog w = .ok (.slice (some ⟨w.heap.size, 0, none⟩) 0 0) (w.alloc (.cells #[] 284)) := fun _ => by kernel_rfl
  go_enter Tryz.func107, Tryz.ntmps107
  go_wp2_with fail
  go_loopw [3, 4] (fun i _ wr => i = .int .i64 0 ∧ Below w.heap.size w wr) (fun _ _ _ => 0)
  case atStart => exact ⟨rfl, Below.refl _ _⟩
  case round =>
    obtain ⟨rfl, hbel⟩ := hrel
    have hb : Below w.heap.size w (wr.alloc (.cells #[] 284)) := hbel.alloc hbel.size _
    go_wp2_with fail
    generalize wr.alloc (.cells #[] 284) = w1 at hb ⊢
    go_loopw [6, 7, 8] (fun i _ _ wr => i = .int .i64 0 ∧ Below w.heap.size w wr) (fun _ _ _ _ => 0)
    case atStart => exact ⟨rfl, hb⟩
    case round =>
      clear hb hbel
      obtain ⟨rfl, hbel⟩ := hrel
      go_wp2_with fail
      go_loopw [9, 10] (fun i _ wr => i = .int .i64 0 ∧ Below w.heap.size w wr) (fun _ _ _ => 0)
      case atStart => exact ⟨rfl, hbel⟩
      case round =>
        clear hbel
        obtain ⟨rfl, hbel⟩ := hrel
        go_wp2_with fail
        go_loopw [11, 12, 13] (fun i _ _ wr => i = .int .i64 0 ∧ Below w.heap.size w wr) (fun _ _ _ _ => 0)
        case atStart => exact ⟨rfl, hbel⟩
        case round =>
          clear hbel
          obtain ⟨rfl, hbel⟩ := hrel
          go_wp2_with fail
          go_loopw [14, 15] (fun i _ wr => i = .int .i64 0 ∧ Below w.heap.size w wr) (fun _ _ _ => 0)
          case atStart => exact ⟨rfl, hbel⟩
          case round =>
            clear hbel
            obtain ⟨rfl, hbel⟩ := hrel
            go_wp2_with fail
            go_ret
            exact ⟨rfl, hbel⟩
theorem flatNil_Tales (w : World) : Calls Tryz.prog 108 #[.slice none 0 0] w fun e w' => e = .returned (.bool true) ∧ Below w.heap.size w w' := by
  have hmk : ∀ w, (Instr.makeSlice 97 (.int .i64 0) (.int .i64 0)).run Tryz.prog w = .ok (.slice (some ⟨w.heap.size, 0, none⟩) 0 0) (w.alloc (.cells #[] 290)) := fun _ => by kernel_rfl
  go_enter Tryz.func108, Tryz.ntmps108
  go_wp2_with fail
  go_loopw [3, 4] (fun i _ wr => i = .int .i64 0 ∧ Below w.heap.size w wr) (fun _ _ _ => 0)
  case atStart => exact ⟨rfl, Below.refl _ _⟩
  case round =>
    obtain ⟨rfl, hbel⟩ := hrel
    have hb : Below w.heap.size w (wr.alloc (.cells #[] 290)) := hbel.alloc hbel.size _
    go_wp2_with fail
    generalize wr.alloc (.cells #[] 290) = w1 at hb ⊢
    go_loopw [6, 7, 8] (fun i _ _ wr => i = .int .i64 0 ∧ Below w.heap.size w wr) (fun _ _ _ _ => 0)
    case atStart => exact ⟨rfl, hb⟩
    case round =>
      clear hb hbel
      obtain ⟨rfl, hbel⟩ := hrel
      go_wp2_with fail
      go_loopw [9, 10] (fun i _ wr => i = .int .i64 0 ∧ Below w.heap.size w wr) (fun _ _ _ => 0)
      case atStart => exact ⟨rfl, hbel⟩
      case round =>
        clear hbel
        obtain ⟨rfl, hbel⟩ := hrel
        go_wp2_with fail
        go_loopw [11, 12, 13] (fun i _ _ wr => i = .int .i64 0 ∧ Below w.heap.size w wr) (fun _ _ _ _ => 0)
        case atStart => exact ⟨rfl, hbel⟩
        case round =>
          clear hbel
          obtain ⟨rfl, hbel⟩ := hrel
          go_wp2_with fail
          go_loopw [14, 15] (fun i _ wr => i = .int .i64 0 ∧ Below w.heap.size w wr) (fun _ _ _ => 0)
          case atStart => exact ⟨rfl, hbel⟩
          case round =>
            clear hbel
            obtain ⟨rfl, hbel⟩ := hrel
            go_wp2_with fail
            go_ret
            exact ⟨rfl, hbel⟩
theorem flatNil_States (w : World) : Calls Tryz.prog 109 #[.slice none 0 0] w fun e w' => e = .returned (.bool true) ∧ Below w.heap.size w w' := by
  have hmk : ∀ w, (Instr.makeSlice 98 (.int .i64 0) (.int .i64 0)).run Tryz.prog w = .ok (.slice (some ⟨w.heap.size, 0, none⟩) 0 0) (w.alloc (.cells #[] 296)) := fun _ => by kernel_rfl
  go_enter Tryz.func109, Tryz.ntmps109
  go_wp2_with fail
  go_loopw [3, 4] (fun i _ wr => i = .int .i64 0 ∧ Below w.heap.size w wr) (fun _ _ _ => 0)
  case atStart => exact ⟨rfl, Below.refl _ _⟩
  case round =>
    obtain ⟨rfl, hbel⟩ := hrel
    have hb : Below w.heap.size w (wr.alloc (.cells #[] 296)) := hbel.alloc hbel.size _
    go_wp2_with fail
    generalize wr.alloc (.cells #[] 296) = w1 at hb ⊢
    go_loopw [6, 7, 8] (fun i _ _ wr => i = .int .i64 0 ∧ Below w.heap.size w wr) (fun _ _ _ _ => 0)
    case atStart => exact ⟨rfl, hb⟩
    case round =>
      clear hb hbel
      obtain ⟨rfl, hbel⟩ := hrel
      go_wp2_with fail
      go_loopw [9, 10] (fun i _ wr => i = .int .i64 0 ∧ Below w.heap.size w wr) (fun _ _ _ => 0)
      case atStart => exact ⟨rfl, hbel⟩
      case round =>
        clear hbel
        obtain ⟨rfl, hbel⟩ := hrel
        go_wp2_with fail
        go_loopw [11, 12, 13] (fun i _ _ wr => i = .int .i64 0 ∧ Below w.heap.size w wr) (fun _ _ _ _ => 0)
        case atStart => exact ⟨rfl, hbel⟩
        case round =>
          clear hbel
          obtain ⟨rfl, hbel⟩ := hrel
          go_wp2_with fail
          go_loopw [14, 15] (fun i _ wr => i = .int .i64 0 ∧ Below w.heap.size w wr) (fun _ _ _ => 0)
          case atStart => exact ⟨rfl, hbel⟩
          case round =>
            clear hbel
            obtain ⟨rfl, hbel⟩ := hrel
            go_wp2_with fail
            go_ret
            exact ⟨rfl, hbel⟩
theorem flatNil_Sessions (w : World) : Calls Tryz.prog 110 #[.slice none 0 0] w fun e w' => e = .returned (.bool true) ∧ Below w.heap.size w w' := by
  have hmk : ∀ w, (Instr.makeSlice 99 (.int .i64 0) (.int .i64 0)).run Tryz.prog w = .ok (.slice (some ⟨w.heap.size, 0, none⟩) 0 0) (w.alloc (.cells #[] 301)) := fun _ => by kernel_rfl
  go_enter Tryz.func110, Tryz.ntmps110
  go_wp2_with fail
  go_loopw [3, 4] (fun i _ wr => i = .int .i64 0 ∧ Below w.heap.size w wr) (fun _ _ _ => 0)
  case atStart => exact ⟨rfl, Below.refl _ _⟩
  case round =>
    obtain ⟨rfl, hbel⟩ := hrel
    have hb : Below w.heap.size w (wr.alloc (.cells #[] 301)) := hbel.alloc hbel.size _
    go_wp2_with fail
    generalize wr.alloc (.cells #[] 301) = w1 at hb ⊢
    go_loopw [6, 7, 8] (fun i _ _ wr => i = .int .i64 0 ∧ Below w.heap.size w wr) (fun _ _ _ _ => 0)
    case atStart => exact ⟨rfl, hb⟩
    case round =>
      clear hb hbel
      obtain ⟨rfl, hbel⟩ := hrel
      go_wp2_with fail
      go_loopw [9, 10] (fun i _ wr => i = .int .i64 0 ∧ Below w.heap.size w wr) (fun _ _ _ => 0)
      case atStart => exact ⟨rfl, hbel⟩
      case round =>
        clear hbel
        obtain ⟨rfl, hbel⟩ := hrel
        go_wp2_with fail
        go_loopw [11, 12, 13] (fun i _ _ wr => i = .int .i64 0 ∧ Below w.heap.size w wr) (fun _ _ _ _ => 0)
        case atStart => exact ⟨rfl, hbel⟩
        case round =>
          clear hbel
          obtain ⟨rfl, hbel⟩ := hrel
          go_wp2_with fail
          go_loopw [14, 15] (fun i _ wr => i = .int .i64 0 ∧ Below w.heap.size w wr) (fun _ _ _ => 0)
          case atStart => exact ⟨rfl, hbel⟩
          case round =>
            clear hbel
            obtain ⟨rfl, hbel⟩ := hrel
            go_wp2_with fail
            go_ret
            exact ⟨rfl, hbel⟩
theorem flatNil_Machines (w : World) : Calls Tryz.prog 111 #[.slice none 0 0] w fun e w' => e = .returned (.bool true) ∧ Below w.heap.size w w' := by
  have hmk : ∀ w, (Instr.makeSlice 100 (.int .i64 0) (.int .i64 0)).run Tryz.prog w = .ok (.slice (some ⟨w.heap.size, 0, none⟩) 0 0) (w.alloc (.cells #[] 306)) := fun _ => by kernel_rfl
  go_enter Tryz.func111, Tryz.ntmps111
  go_wp2_with fail
  go_loopw [3, 4] (fun i _ wr => i = .int .i64 0 ∧ Below w.heap.size w wr) (fun _ _ _ => 0)
  case atStart => exact ⟨rfl, Below.refl _ _⟩
  case round =>
    obtain ⟨rfl, hbel⟩ := hrel
    have hb : Below w.heap.size w (wr.alloc (.cells #[] 306)) := hbel.alloc hbel.size _
    go_wp2_with fail
    generalize wr.alloc (.cells #[] 306) = w1 at hb ⊢
    go_loopw [6, 7, 8] (fun i _ _ wr => i = .int .i64 0 ∧ Below w.heap.size w wr) (fun _ _ _ _ => 0)
    case atStart => exact ⟨rfl, hb⟩
    case round =>
      clear hb hbel
      obtain ⟨rfl, hbel⟩ := hrel
      go_wp2_with fail
      go_loopw [9, 10] (fun i _ wr => i = .int .i64 0 ∧ Below w.heap.size w wr) (fun _ _ _ => 0)
      case atStart => exact ⟨rfl, hbel⟩
      case round =>
        clear hbel
        obtain ⟨rfl, hbel⟩ := hrel
        go_wp2_with fail
        go_loopw [11, 12, 13] (fun i _ _ wr => i = .int .i64 0 ∧ Below w.heap.size w wr) (fun _ _ _ _ => 0)
        case atStart => exact ⟨rfl, hbel⟩
        case round =>
          clear hbel
          obtain ⟨rfl, hbel⟩ := hrel
          go_wp2_with fail
          go_loopw [14, 15] (fun i _ wr => i = .int .i64 0 ∧ Below w.heap.size w wr) (fun _ _ _ => 0)
          case atStart => exact ⟨rfl, hbel⟩
          case round =>
            clear hbel
            obtain ⟨rfl, hbel⟩ := hrel
            go_wp2_with fail
            go_ret
            exact ⟨rfl, hbel⟩
theorem flatNil_Frames (w : World) : Calls Tryz.prog 112 #[.slice none 0 0] w fun e w' => e = .returned (.bool true) ∧ Below w.heap.size w w' := by
  have hmk : ∀ w, (Instr.makeSlice 101 (.int .i64 0) (.int .i64 0)).run Tryz.prog w = .ok (.slice (some ⟨w.heap.size, 0, none⟩) 0 0) (w.alloc (.cells #[] 56)) := fun _ => by kernel_rfl
  go_enter Tryz.func112, Tryz.ntmps112
  go_wp2_with fail
  go_loopw [3, 4] (fun i _ wr => i = .int .i64 0 ∧ Below w.heap.size w wr) (fun _ _ _ => 0)
  case atStart => exact ⟨rfl, Below.refl _ _⟩
  case round =>
    obtain ⟨rfl, hbel⟩ := hrel
    have hb : Below w.heap.size w (wr.alloc (.cells #[] 56)) := hbel.alloc hbel.size _
    go_wp2_with fail
    generalize wr.alloc (.cells #[] 56) = w1 at hb ⊢
    go_loopw [6, 7, 8] (fun i _ _ wr => i = .int .i64 0 ∧ Below w.heap.size w wr) (fun _ _ _ _ => 0)
    case atStart => exact ⟨rfl, hb⟩
    case round =>
      clear hb hbel
      obtain ⟨rfl, hbel⟩ := hrel
      go_wp2_with fail
      go_loopw [9, 10] (fun i _ wr => i = .int .i64 0 ∧ Below w.heap.size w wr) (fun _ _ _ => 0)
      case atStart => exact ⟨rfl, hbel⟩
      case round =>
        clear hbel
        obtain ⟨rfl, hbel⟩ := hrel
        go_wp2_with fail
        go_loopw [11, 12, 13] (fun i _ _ wr => i = .int .i64 0 ∧ Below w.heap.size w wr) (fun _ _ _ _ => 0)
        case atStart => exact ⟨rfl, hbel⟩
        case round =>
          clear hbel
          obtain ⟨rfl, hbel⟩ := hrel
          go_wp2_with fail
          go_loopw [14, 15] (fun i _ wr => i = .int .i64 0 ∧ Below w.heap.size w wr) (fun _ _ _ => 0)
          case atStart => exact ⟨rfl, hbel⟩
          case round =>
            clear hbel
            obtain ⟨rfl, hbel⟩ := hrel
            go_wp2_with fail
            go_ret
            exact ⟨rfl, hbel⟩
end Go.Proofs.YtejgebpdipnhmaaGreatDoor
