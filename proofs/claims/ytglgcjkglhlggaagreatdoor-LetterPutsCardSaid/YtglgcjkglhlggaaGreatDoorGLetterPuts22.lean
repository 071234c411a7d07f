/- No rows at all lie apart: each kind's own look at a nil list. No condition. -/
import Derived.Test.YtglgcjkglhlggaaGreatDoorGLetterPuts0
import Derived.Test.YtglgcjkglhlggaaGreatDoorGLetterPuts12
set_option linter.unusedVariables false
set_option linter.unusedSimpArgs false
namespace Go.Proofs.YtglgcjkglhlggaaGreatDoor
open Go.RowKit
set_option maxRecDepth 20000
theorem flatNil_Limbs (w : World) : Calls Tryz.prog 79 #[.slice none 0 0] w fun e w' => e = .returned (.bool true) ∧ Below w.heap.size w w' := by
  have hmk : ∀ w, (Instr.makeSlice 78 (.int .i64 0) (.int .i64 0)).run Tryz.prog w = .ok (.slice (some ⟨w.heap.size, 0, none⟩) 0 0) (w.alloc (.cells #[] 194)) := fun _ => by kernel_rfl
  go_enter Tryz.func79, Tryz.ntmps79
  go_wp2_with fail
  go_loopw [3, 4] (fun i _ wr => i = .int .i64 0 ∧ Below w.heap.size w wr) (fun _ _ _ => 0)
  case atStart => exact ⟨rfl, Below.refl _ _⟩
  case round =>
    obtain ⟨rfl, hbel⟩ := hrel
    have hb : Below w.heap.size w (wr.alloc (.cells #[] 194)) := hbel.alloc hbel.size _
    go_wp2_with fail
    generalize wr.alloc (.cells #[] 194) = w1 at hb ⊢
    go_loopw [6, 7, 8] (fun i _ _ wr => i = .int .i64 0 ∧ Below w.heap.size w wr) (fun _ _ _ _ => 0)
    case atStart => exact ⟨rfl, hb⟩
    case round =>
      clear hb hbel
      obtain ⟨rfl, hbel⟩ := hrel
      go_wp2_with fail
      go_loopw [9, 10] (fun i _ wr => i = .int .i64 0 ∧ Below w.heap.size w wr) (fun _ _ _ => 0)
      case atStart => exact ⟨rfl, hbel⟩
      case round =>
        clear hbel
        obtain ⟨rfl, hbel⟩ := hrel
        go_wp2_with fail
        go_loopw [11, 12, 13] (fun i _ _ wr => i = .int .i64 0 ∧ Below w.heap.size w wr) (fun _ _ _ _ => 0)
        case atStart => exact ⟨rfl, hbel⟩
        case round =>
          clear hbel
          obtain ⟨rfl, hbel⟩ := hrel
          go_wp2_with fail
          go_loopw [14, 15] (fun i _ wr => i = .int .i64 0 ∧ Below w.heap.size w wr) (fun _ _ _ => 0)
          case atStart => exact ⟨rfl, hbel⟩
          case round =>
            clear hbel
            obtain ⟨rfl, hbel⟩ := hrel
            go_wp2_with fail
            go_ret
            exact ⟨rfl, hbel⟩
theorem flatNil_Words (w : World) : Calls Tryz.prog 80 #[.slice none 0 0] w fun e w' => e = .returned (.bool true) ∧ Below w.heap.size w w' := by
  have hmk : ∀ w, (Instr.makeSlice 79 (.int .i64 0) (.int .i64 0)).run Tryz.prog w = .ok (.slice (some ⟨w.heap.size, 0, none⟩) 0 0) (w.alloc (.cells #[] 196)) := fun _ => by kernel_rfl
  go_enter Tryz.func80, Tryz.ntmps80
  go_wp2_with fail
  go_loopw [3, 4] (fun i _ wr => i = .int .i64 0 ∧ Below w.heap.size w wr) (fun _ _ _ => 0)
  case atStart => exact ⟨rfl, Below.refl _ _⟩
  case round =>
    obtain ⟨rfl, hbel⟩ := hrel
    have hb : Below w.heap.size w (wr.alloc (.cells #[] 196)) := hbel.alloc hbel.size _
    go_wp2_with fail
    generalize wr.alloc (.cells #[] 196) = w1 at hb ⊢
    go_loopw [6, 7, 8] (fun i _ _ wr => i = .int .i64 0 ∧ Below w.heap.size w wr) (fun _ _ _ _ => 0)
    case atStart => exact ⟨rfl, hb⟩
    case round =>
      clear hb hbel
      obtain ⟨rfl, hbel⟩ := hrel
      go_wp2_with fail
      go_loopw [9, 10] (fun i _ wr => i = .int .i64 0 ∧ Below w.heap.size w wr) (fun _ _ _ => 0)
      case atStart => exact ⟨rfl, hbel⟩
      case round =>
        clear hbel
        obtain ⟨rfl, hbel⟩ := hrel
        go_wp2_with fail
        go_loopw [11, 12, 13] (fun i _ _ wr => i = .int .i64 0 ∧ Below w.heap.size w wr) (fun _ _ _ _ => 0)
        case atStart => exact ⟨rfl, hbel⟩
        case round =>
          clear hbel
          obtain ⟨rfl, hbel⟩ := hrel
          go_wp2_with fail
          go_loopw [14, 15] (fun i _ wr => i = .int .i64 0 ∧ Below w.heap.size w wr) (fun _ _ _ => 0)
          case atStart => exact ⟨rfl, hbel⟩
          case round =>
            clear hbel
            obtain ⟨rfl, hbel⟩ := hrel
            go_wp2_with fail
            go_ret
            exact ⟨rfl, hbel⟩
theorem flatNil_Ints (w : World) : Calls Tryz.prog 81 #[.slice none 0 0] w fun e w' => e = .returned (.bool true) ∧ Below w.heap.size w w' := by
  have hmk : ∀ w, (Instr.makeSlice 80 (.int .i64 0) (.int .i64 0)).run Tryz.prog w = .ok (.slice (some ⟨w.heap.size, 0, none⟩) 0 0) (w.alloc (.cells #[] 24)) := fun _ => by kernel_rfl
  go_enter Tryz.func81, Tryz.ntmps81
  go_wp2_with fail
  go_loopw [3, 4] (fun i _ wr => i = .int .i64 0 ∧ Below w.heap.size w wr) (fun _ _ _ => 0)
  case atStart => exact ⟨rfl, Below.refl _ _⟩
  case round =>
    obtain ⟨rfl, hbel⟩ := hrel
    have hb : Below w.heap.size w (wr.alloc (.cells #[] 24)) := hbel.alloc hbel.size _
    go_wp2_with fail
    generalize wr.alloc (.cells #[] 24) = w1 at hb ⊢
    go_loopw [6, 7, 8] (fun i _ _ wr => i = .int .i64 0 ∧ Below w.heap.size w wr) (fun _ _ _ _ => 0)
    case atStart => exact ⟨rfl, hb⟩
    case round =>
      clear hb hbel
      obtain ⟨rfl, hbel⟩ := hrel
      go_wp2_with fail
      go_loopw [9, 10] (fun i _ wr => i = .int .i64 0 ∧ Below w.heap.size w wr) (fun _ _ _ => 0)
      case atStart => exact ⟨rfl, hbel⟩
      case round =>
        clear hbel
        obtain ⟨rfl, hbel⟩ := hrel
        go_wp2_with fail
        go_loopw [11, 12, 13] (fun i _ _ wr => i = .int .i64 0 ∧ Below w.heap.size w wr) (fun _ _ _ _ => 0)
        case atStart => exact ⟨rfl, hbel⟩
        case round =>
          clear hbel
          obtain ⟨rfl, hbel⟩ := hrel
          go_wp2_with fail
          go_loopw [14, 15] (fun i _ wr => i = .int .i64 0 ∧ Below w.heap.size w wr) (fun _ _ _ => 0)
          case atStart => exact ⟨rfl, hbel⟩
          case round =>
            clear hbel
            obtain ⟨rfl, hbel⟩ := hrel
            go_wp2_with fail
            go_ret
            exact ⟨rfl, hbel⟩
theorem flatNil_Longs (w : World) : Calls Tryz.prog 82 #[.slice none 0 0] w fun e w' => e = .returned (.bool true) ∧ Below w.heap.size w w' := by
  have hmk : ∀ w, (Instr.makeSlice 81 (.int .i64 0) (.int .i64 0)).run Tryz.prog w = .ok (.slice (some ⟨w.heap.size, 0, none⟩) 0 0) (w.alloc (.cells #[] 187)) := fun _ => by kernel_rfl
  go_enter Tryz.func82, Tryz.ntmps82
  go_wp2_with fail
  go_loopw [3, 4] (fun i _ wr => i = .int .i64 0 ∧ Below w.heap.size w wr) (fun _ _ _ => 0)
  case atStart => exact ⟨rfl, Below.refl _ _⟩
  case round =>
    obtain ⟨rfl, hbel⟩ := hrel
    have hb : Below w.heap.size w (wr.alloc (.cells #[] 187)) := hbel.alloc hbel.size _
    go_wp2_with fail
    generalize wr.alloc (.cells #[] 187) = w1 at hb ⊢
    go_loopw [6, 7, 8] (fun i _ _ wr => i = .int .i64 0 ∧ Below w.heap.size w wr) (fun _ _ _ _ => 0)
    case atStart => exact ⟨rfl, hb⟩
    case round =>
      clear hb hbel
      obtain ⟨rfl, hbel⟩ := hrel
      go_wp2_with fail
      go_loopw [9, 10] (fun i _ wr => i = .int .i64 0 ∧ Below w.heap.size w wr) (fun _ _ _ => 0)
      case atStart => exact ⟨rfl, hbel⟩
      case round =>
        clear hbel
        obtain ⟨rfl, hbel⟩ := hrel
        go_wp2_with fail
        go_loopw [11, 12, 13] (fun i _ _ wr => i = .int .i64 0 ∧ Below w.heap.size w wr) (fun _ _ _ _ => 0)
        case atStart => exact ⟨rfl, hbel⟩
        case round =>
          clear hbel
          obtain ⟨rfl, hbel⟩ := hrel
          go_wp2_with fail
          go_loopw [14, 15] (fun i _ wr => i = .int .i64 0 ∧ Below w.heap.size w wr) (fun _ _ _ => 0)
          case atStart => exact ⟨rfl, hbel⟩
          case round =>
            clear hbel
            obtain ⟨rfl, hbel⟩ := hrel
            go_wp2_with fail
            go_ret
            exact ⟨rfl, hbel⟩
theorem flatNil_Texts (w : World) : Calls Tryz.prog 83 #[.slice none 0 0] w fun e w' => e = .returned (.bool true) ∧ Below w.heap.size w w' := by
  have hmk : ∀ w, (Instr.makeSlice 82 (.int .i64 0) (.int .i64 0)).run Tryz.prog w = .ok (.slice (some ⟨w.heap.size, 0, none⟩) 0 0) (w.alloc (.cells #[] 197)) := fun _ => by kernel_rfl
  go_enter Tryz.func83, Tryz.ntmps83
  go_wp2_with fail
  go_loopw [3, 4] (fun i _ wr => i = .int .i64 0 ∧ Below w.heap.size w wr) (fun _ _ _ => 0)
  case atStart => exact ⟨rfl, Below.refl _ _⟩
  case round =>
    obtain ⟨rfl, hbel⟩ := hrel
    have hb : Below w.heap.size w (wr.alloc (.cells #[] 197)) := hbel.alloc hbel.size _
    go_wp2_with fail
    generalize wr.alloc (.cells #[] 197) = w1 at hb ⊢
    go_loopw [6, 7, 8] (fun i _ _ wr => i = .int .i64 0 ∧ Below w.heap.size w wr) (fun _ _ _ _ => 0)
    case atStart => exact ⟨rfl, hb⟩
    case round =>
      clear hb hbel
      obtain ⟨rfl, hbel⟩ := hrel
      go_wp2_with fail
      go_loopw [9, 10] (fun i _ wr => i = .int .i64 0 ∧ Below w.heap.size w wr) (fun _ _ _ => 0)
      case atStart => exact ⟨rfl, hbel⟩
      case round =>
        clear hbel
        obtain ⟨rfl, hbel⟩ := hrel
        go_wp2_with fail
        go_loopw [11, 12, 13] (fun i _ _ wr => i = .int .i64 0 ∧ Below w.heap.size w wr) (fun _ _ _ _ => 0)
        case atStart => exact ⟨rfl, hbel⟩
        case round =>
          clear hbel
          obtain ⟨rfl, hbel⟩ := hrel
          go_wp2_with fail
          go_loopw [14, 15] (fun i _ wr => i = .int .i64 0 ∧ Below w.heap.size w wr) (fun _ _ _ => 0)
          case atStart => exact ⟨rfl, hbel⟩
          case round =>
            clear hbel
            obtain ⟨rfl, hbel⟩ := hrel
            go_wp2_with fail
            go_ret
            exact ⟨rfl, hbel⟩
theorem flatNil_Values (w : World) : Calls Tryz.prog 85 #[.slice none 0 0] w fun e w' => e = .returned (.bool true) ∧ Below w.heap.size w w' := by
  have hmk : ∀ w, (Instr.makeSlice 83 (.int .i64 0) (.int .i64 0)).run Tryz.prog w = .ok (.slice (some ⟨w.heap.size, 0, none⟩) 0 0) (w.alloc (.cells #[] 51)) := fun _ => by kernel_rfl
  go_enter Tryz.func85, Tryz.ntmps85
  go_wp2_with fail
  go_loopw [3, 4] (fun i _ wr => i = .int .i64 0 ∧ Below w.heap.size w wr) (fun _ _ _ => 0)
  case atStart => exact ⟨rfl, Below.refl _ _⟩
  case round =>
    obtain ⟨rfl, hbel⟩ := hrel
    have hb : Below w.heap.size w (wr.alloc (.cells #[] 51)) := hbel.alloc hbel.size _
    go_wp2_with fail
    generalize wr.alloc (.cells #[] 51) = w1 at hb ⊢
    go_loopw [6, 7, 8] (fun i _ _ wr => i = .int .i64 0 ∧ Below w.heap.size w wr) (fun _ _ _ _ => 0)
    case atStart => exact ⟨rfl, hb⟩
    case round =>
      clear hb hbel
      obtain ⟨rfl, hbel⟩ := hrel
      go_wp2_with fail
      go_loopw [9, 10] (fun i _ wr => i = .int .i64 0 ∧ Below w.heap.size w wr) (fun _ _ _ => 0)
      case atStart => exact ⟨rfl, hbel⟩
      case round =>
        clear hbel
        obtain ⟨rfl, hbel⟩ := hrel
        go_wp2_with fail
        go_loopw [11, 12, 13] (fun i _ _ wr => i = .int .i64 0 ∧ Below w.heap.size w wr) (fun _ _ _ _ => 0)
        case atStart => exact ⟨rfl, hbel⟩
        case round =>
          clear hbel
          obtain ⟨rfl, hbel⟩ := hrel
          go_wp2_with fail
          go_loopw [14, 15] (fun i _ wr => i = .int .i64 0 ∧ Below w.heap.size w wr) (fun _ _ _ => 0)
          case atStart => exact ⟨rfl, hbel⟩
          case round =>
            clear hbel
            obtain ⟨rfl, hbel⟩ := hrel
            go_wp2_with fail
            go_ret
            exact ⟨rfl, hbel⟩
theorem flatNil_Facts (w : World) : Calls Tryz.prog 86 #[.slice none 0 0] w fun e w' => e = .returned (.bool true) ∧ Below w.heap.size w w' := by
  have hmk : ∀ w, (Instr.makeSlice 84 (.int .i64 0) (.int .i64 0)).run Tryz.prog w = .ok (.slice (some ⟨w.heap.size, 0, none⟩) 0 0) (w.alloc (.cells #[] 200)) := fun _ => by kernel_rfl
  go_enter Tryz.func86, Tryz.ntmps86
  go_wp2_with fail
  go_loopw [3, 4] (fun i _ wr => i = .int .i64 0 ∧ Below w.heap.size w wr) (fun _ _ _ => 0)
  case atStart => exact ⟨rfl, Below.refl _ _⟩
  case round =>
    obtain ⟨rfl, hbel⟩ := hrel
    have hb : Below w.heap.size w (wr.alloc (.cells #[] 200)) := hbel.alloc hbel.size _
    go_wp2_with fail
    generalize wr.alloc (.cells #[] 200) = w1 at hb ⊢
    go_loopw [6, 7, 8] (fun i _ _ wr => i = .int .i64 0 ∧ Below w.heap.size w wr) (fun _ _ _ _ => 0)
    case atStart => exact ⟨rfl, hb⟩
    case round =>
      clear hb hbel
      obtain ⟨rfl, hbel⟩ := hrel
      go_wp2_with fail
      go_loopw [9, 10] (fun i _ wr => i = .int .i64 0 ∧ Below w.heap.size w wr) (fun _ _ _ => 0)
      case atStart => exact ⟨rfl, hbel⟩
      case round =>
        clear hbel
        obtain ⟨rfl, hbel⟩ := hrel
        go_wp2_with fail
        go_loopw [11, 12, 13] (fun i _ _ wr => i = .int .i64 0 ∧ Below w.heap.size w wr) (fun _ _ _ _ => 0)
        case atStart => exact ⟨rfl, hbel⟩
        case round =>
          clear hbel
          obtain ⟨rfl, hbel⟩ := hrel
          go_wp2_with fail
          go_loopw [14, 15] (fun i _ wr => i = .int .i64 0 ∧ Below w.heap.size w wr) (fun _ _ _ => 0)
          case atStart => exact ⟨rfl, hbel⟩
          case round =>
            clear hbel
            obtain ⟨rfl, hbel⟩ := hrel
            go_wp2_with fail
            go_ret
            exact ⟨rfl, hbel⟩
theorem flatNil_Lexes (w : World) : Calls Tryz.prog 87 #[.slice none 0 0] w fun e w' => e = .returned (.bool true) ∧ Below w.heap.size w w' := by
  have hmk : ∀ w, (Instr.makeSlice 85 (.int .i64 0) (.int .i64 0)).run Tryz.prog w = .ok (.slice (some ⟨w.heap.size, 0, none⟩) 0 0) (w.alloc (.cells #[] 205)) := fun _ => by kernel_rfl
  go_enter Tryz.func87, Tryz.ntmps87
  go_wp2_with fail
  go_loopw [3, 4] (fun i _ wr => i = .int .i64 0 ∧ Below w.heap.size w wr) (fun _ _ _ => 0)
  case atStart => exact ⟨rfl, Below.refl _ _⟩
  case round =>
    obtain ⟨rfl, hbel⟩ := hrel
    have hb : Below w.heap.size w (wr.alloc (.cells #[] 205)) := hbel.alloc hbel.size _
    go_wp2_with fail
    generalize wr.alloc (.cells #[] 205) = w1 at hb ⊢
    go_loopw [6, 7, 8] (fun i _ _ wr => i = .int .i64 0 ∧ Below w.heap.size w wr) (fun _ _ _ _ => 0)
    case atStart => exact ⟨rfl, hb⟩
    case round =>
      clear hb hbel
      obtain ⟨rfl, hbel⟩ := hrel
      go_wp2_with fail
      go_loopw [9, 10] (fun i _ wr => i = .int .i64 0 ∧ Below w.heap.size w wr) (fun _ _ _ => 0)
      case atStart => exact ⟨rfl, hbel⟩
      case round =>
        clear hbel
        obtain ⟨rfl, hbel⟩ := hrel
        go_wp2_with fail
        go_loopw [11, 12, 13] (fun i _ _ wr => i = .int .i64 0 ∧ Below w.heap.size w wr) (fun _ _ _ _ => 0)
        case atStart => exact ⟨rfl, hbel⟩
        case round =>
          clear hbel
          obtain ⟨rfl, hbel⟩ := hrel
          go_wp2_with fail
          go_loopw [14, 15] (fun i _ wr => i = .int .i64 0 ∧ Below w.heap.size w wr) (fun _ _ _ => 0)
          case atStart => exact ⟨rfl, hbel⟩
          case round =>
            clear hbel
            obtain ⟨rfl, hbel⟩ := hrel
            go_wp2_with fail
            go_ret
            exact ⟨rfl, hbel⟩
theorem flatNil_Nodes (w : World) : Calls Tryz.prog 88 #[.slice none 0 0] w fun e w' => e = .returned (.bool true) ∧ Below w.heap.size w w' := by
  have hmk : ∀ w, (Instr.makeSlice 86 (.int .i64 0) (.int .i64 0)).run Tryz.prog w = .ok (.slice (some ⟨w.heap.size, 0, none⟩) 0 0) (w.alloc (.cells #[] 210)) := fun _ => by kernel_rfl
  go_enter Tryz.func88, Tryz.ntmps88
  go_wp2_with fail
  go_loopw [3, 4] (fun i _ wr => i = .int .i64 0 ∧ Below w.heap.size w wr) (fun _ _ _ => 0)
  case atStart => exact ⟨rfl, Below.refl _ _⟩
  case round =>
    obtain ⟨rfl, hbel⟩ := hrel
    have hb : Below w.heap.size w (wr.alloc (.cells #[] 210)) := hbel.alloc hbel.size _
    go_wp2_with fail
    generalize wr.alloc (.cells #[] 210) = w1 at hb ⊢
    go_loopw [6, 7, 8] (fun i _ _ wr => i = .int .i64 0 ∧ Below w.heap.size w wr) (fun _ _ _ _ => 0)
    case atStart => exact ⟨rfl, hb⟩
    case round =>
      clear hb hbel
      obtain ⟨rfl, hbel⟩ := hrel
      go_wp2_with fail
      go_loopw [9, 10] (fun i _ wr => i = .int .i64 0 ∧ Below w.heap.size w wr) (fun _ _ _ => 0)
      case atStart => exact ⟨rfl, hbel⟩
      case round =>
        clear hbel
        obtain ⟨rfl, hbel⟩ := hrel
        go_wp2_with fail
        go_loopw [11, 12, 13] (fun i _ _ wr => i = .int .i64 0 ∧ Below w.heap.size w wr) (fun _ _ _ _ => 0)
        case atStart => exact ⟨rfl, hbel⟩
        case round =>
          clear hbel
          obtain ⟨rfl, hbel⟩ := hrel
          go_wp2_with fail
          go_loopw [14, 15] (fun i _ wr => i = .int .i64 0 ∧ Below w.heap.size w wr) (fun _ _ _ => 0)
          case atStart => exact ⟨rfl, hbel⟩
          case round =>
            clear hbel
            obtain ⟨rfl, hbel⟩ := hrel
            go_wp2_with fail
            go_ret
            exact ⟨rfl, hbel⟩
theorem flatNil_Exprs (w : World) : Calls Tryz.prog 89 #[.slice none 0 0] w fun e w' => e = .returned (.bool true) ∧ Below w.heap.size w w' := by
  have hmk : ∀ w, (Instr.makeSlice 87 (.int .i64 0) (.int .i64 0)).run Tryz.prog w = .ok (.slice (some ⟨w.heap.size, 0, none⟩) 0 0) (w.alloc (.cells #[] 216)) := fun _ => by kernel_rfl
  go_enter Tryz.func89, Tryz.ntmps89
  go_wp2_with fail
  go_loopw [3, 4] (fun i _ wr => i = .int .i64 0 ∧ Below w.heap.size w wr) (fun _ _ _ => 0)
  case atStart => exact ⟨rfl, Below.refl _ _⟩
  case round =>
    obtain ⟨rfl, hbel⟩ := hrel
    have hb : Below w.heap.size w (wr.alloc (.cells #[] 216)) := hbel.alloc hbel.size _
    go_wp2_with fail
    generalize wr.alloc (.cells #[] 216) = w1 at hb ⊢
    go_loopw [6, 7, 8] (fun i _ _ wr => i = .int .i64 0 ∧ Below w.heap.size w wr) (fun _ _ _ _ => 0)
    case atStart => exact ⟨rfl, hb⟩
    case round =>
      clear hb hbel
      obtain ⟨rfl, hbel⟩ := hrel
      go_wp2_with fail
      go_loopw [9, 10] (fun i _ wr => i = .int .i64 0 ∧ Below w.heap.size w wr) (fun _ _ _ => 0)
      case atStart => exact ⟨rfl, hbel⟩
      case round =>
        clear hbel
        obtain ⟨rfl, hbel⟩ := hrel
        go_wp2_with fail
        go_loopw [11, 12, 13] (fun i _ _ wr => i = .int .i64 0 ∧ Below w.heap.size w wr) (fun _ _ _ _ => 0)
        case atStart => exact ⟨rfl, hbel⟩
        case round =>
          clear hbel
          obtain ⟨rfl, hbel⟩ := hrel
          go_wp2_with fail
          go_loopw [14, 15] (fun i _ wr => i = .int .i64 0 ∧ Below w.heap.size w wr) (fun _ _ _ => 0)
          case atStart => exact ⟨rfl, hbel⟩
          case round =>
            clear hbel
            obtain ⟨rfl, hbel⟩ := hrel
            go_wp2_with fail
            go_ret
            exact ⟨rfl, hbel⟩
theorem flatNil_Args (w : World) : Calls Tryz.prog 90 #[.slice none 0 0] w fun e w' => e = .returned (.bool true) ∧ Below w.heap.size w w' := by
  have hmk : ∀ w, (Instr.makeSlice 88 (.int .i64 0) (.int .i64 0)).run Tryz.prog w = .ok (.slice (some ⟨w.heap.size, 0, none⟩) 0 0) (w.alloc (.cells #[] 223)) := fun _ => by kernel_rfl
  go_enter Tryz.func90, Tryz.ntmps90
  go_wp2_with fail
  go_loopw [3, 4] (fun i _ wr => i = .int .i64 0 ∧ Below w.heap.size w wr) (fun _ _ _ => 0)
  case atStart => exact ⟨rfl, Below.refl _ _⟩
  case round =>
    obtain ⟨rfl, hbel⟩ := hrel
    have hb : Below w.heap.size w (wr.alloc (.cells #[] 223)) := hbel.alloc hbel.size _
    go_wp2_with fail
    generalize wr.alloc (.cells #[] 223) = w1 at hb ⊢
    go_loopw [6, 7, 8] (fun i _ _ wr => i = .int .i64 0 ∧ Below w.heap.size w wr) (fun _ _ _ _ => 0)
    case atStart => exact ⟨rfl, hb⟩
    case round =>
      clear hb hbel
      obtain ⟨rfl, hbel⟩ := hrel
      go_wp2_with fail
      go_loopw [9, 10] (fun i _ wr => i = .int .i64 0 ∧ Below w.heap.size w wr) (fun _ _ _ => 0)
      case atStart => exact ⟨rfl, hbel⟩
      case round =>
        clear hbel
        obtain ⟨rfl, hbel⟩ := hrel
        go_wp2_with fail
        go_loopw [11, 12, 13] (fun i _ _ wr => i = .int .i64 0 ∧ Below w.heap.size w wr) (fun _ _ _ _ => 0)
        case atStart => exact ⟨rfl, hbel⟩
        case round =>
          clear hbel
          obtain ⟨rfl, hbel⟩ := hrel
          go_wp2_with fail
          go_loopw [14, 15] (fun i _ wr => i = .int .i64 0 ∧ Below w.heap.size w wr) (fun _ _ _ => 0)
          case atStart => exact ⟨rfl, hbel⟩
          case round =>
            clear hbel
            obtain ⟨rfl, hbel⟩ := hrel
            go_wp2_with fail
            go_ret
            exact ⟨rfl, hbel⟩
theorem flatNil_Conds (w : World) : Calls Tryz.prog 91 #[.slice none 0 0] w fun e w' => e = .returned (.bool true) ∧ Below w.heap.size w w' := by
  have hmk : ∀ w, (Instr.makeSlice 89 (.int .i64 0) (.int .i64 0)).run Tryz.prog w = .ok (.slice (some ⟨w.heap.size, 0, none⟩) 0 0) (w.alloc (.cells #[] 228)) := fun _ => by kernel_rfl
  go_enter Tryz.func91, Tryz.ntmps91
  go_wp2_with fail
  go_loopw [3, 4] (fun i _ wr => i = .int .i64 0 ∧ Below w.heap.size w wr) (fun _ _ _ => 0)
  case atStart => exact ⟨rfl, Below.refl _ _⟩
  case round =>
    obtain ⟨rfl, hbel⟩ := hrel
    have hb : Below w.heap.size w (wr.alloc (.cells #[] 228)) := hbel.alloc hbel.size _
    go_wp2_with fail
    generalize wr.alloc (.cells #[] 228) = w1 at hb ⊢
    go_loopw [6, 7, 8] (fun i _ _ wr => i = .int .i64 0 ∧ Below w.heap.size w wr) (fun _ _ _ _ => 0)
    case atStart => exact ⟨rfl, hb⟩
    case round =>
      clear hb hbel
      obtain ⟨rfl, hbel⟩ := hrel
      go_wp2_with fail
      go_loopw [9, 10] (fun i _ wr => i = .int .i64 0 ∧ Below w.heap.size w wr) (fun _ _ _ => 0)
      case atStart => exact ⟨rfl, hbel⟩
      case round =>
        clear hbel
        obtain ⟨rfl, hbel⟩ := hrel
        go_wp2_with fail
        go_loopw [11, 12, 13] (fun i _ _ wr => i = .int .i64 0 ∧ Below w.heap.size w wr) (fun _ _ _ _ => 0)
        case atStart => exact ⟨rfl, hbel⟩
        case round =>
          clear hbel
          obtain ⟨rfl, hbel⟩ := hrel
          go_wp2_with fail
          go_loopw [14, 15] (fun i _ wr => i = .int .i64 0 ∧ Below w.heap.size w wr) (fun _ _ _ => 0)
          case atStart => exact ⟨rfl, hbel⟩
          case round =>
            clear hbel
            obtain ⟨rfl, hbel⟩ := hrel
            go_wp2_with fail
            go_ret
            exact ⟨rfl, hbel⟩
theorem flatNil_Acts (w : World) : Calls Tryz.prog 92 #[.slice none 0 0] w fun e w' => e = .returned (.bool true) ∧ Below w.heap.size w w' := by
  have hmk : ∀ w, (Instr.makeSlice 90 (.int .i64 0) (.int .i64 0)).run Tryz.prog w = .ok (.slice (some ⟨w.heap.size, 0, none⟩) 0 0) (w.alloc (.cells #[] 234)) := fun _ => by kernel_rfl
  go_enter Tryz.func92, Tryz.ntmps92
  go_wp2_with fail
  go_loopw [3, 4] (fun i _ wr => i = .int .i64 0 ∧ Below w.heap.size w wr) (fun _ _ _ => 0)
  case atStart => exact ⟨rfl, Below.refl _ _⟩
  case round =>
    obtain ⟨rfl, hbel⟩ := hrel
    have hb : Below w.heap.size w (wr.alloc (.cells #[] 234)) := hbel.alloc hbel.size _
    go_wp2_with fail
    generalize wr.alloc (.cells #[] 234) = w1 at hb ⊢
    go_loopw [6, 7, 8] (fun i _ _ wr => i = .int .i64 0 ∧ Below w.heap.size w wr) (fun _ _ _ _ => 0)
    case atStart => exact ⟨rfl, hb⟩
    case round =>
      clear hb hbel
      obtain ⟨rfl, hbel⟩ := hrel
      go_wp2_with fail
      go_loopw [9, 10] (fun i _ wr => i = .int .i64 0 ∧ Below w.heap.size w wr) (fun _ _ _ => 0)
      case atStart => exact ⟨rfl, hbel⟩
      case round =>
        clear hbel
        obtain ⟨rfl, hbel⟩ := hrel
        go_wp2_with fail
        go_loopw [11, 12, 13] (fun i _ _ wr => i = .int .i64 0 ∧ Below w.heap.size w wr) (fun _ _ _ _ => 0)
        case atStart => exact ⟨rfl, hbel⟩
        case round =>
          clear hbel
          obtain ⟨rfl, hbel⟩ := hrel
          go_wp2_with fail
          go_loopw [14, 15] (fun i _ wr => i = .int .i64 0 ∧ Below w.heap.size w wr) (fun _ _ _ => 0)
          case atStart => exact ⟨rfl, hbel⟩
          case round =>
            clear hbel
            obtain ⟨rfl, hbel⟩ := hrel
            go_wp2_with fail
            go_ret
            exact ⟨rfl, hbel⟩
theorem flatNil_Types (w : World) : Calls Tryz.prog 93 #[.slice none 0 0] w fun e w' => e = .returned (.bool true) ∧ Below w.heap.size w w' := by
  have hmk : ∀ w, (Instr.makeSlice 91 (.int .i64 0) (.int .i64 0)).run Tryz.prog w = .ok (.slice (some ⟨w.heap.size, 0, none⟩) 0 0) (w.alloc (.cells #[] 240)) := fun _ => by kernel_rfl
  go_enter Tryz.func93, Tryz.ntmps93
  go_wp2_with fail
  go_loopw [3, 4] (fun i _ wr => i = .int .i64 0 ∧ Below w.heap.size w wr) (fun _ _ _ => 0)
  case atStart => exact ⟨rfl, Below.refl _ _⟩
  case round =>
    obtain ⟨rfl, hbel⟩ := hrel
    have hb : Below w.heap.size w (wr.alloc (.cells #[] 240)) := hbel.alloc hbel.size _
    go_wp2_with fail
    generalize wr.alloc (.cells #[] 240) = w1 at hb ⊢
    go_loopw [6, 7, 8] (fun i _ _ wr => i = .int .i64 0 ∧ Below w.heap.size w wr) (fun _ _ _ _ => 0)
    case atStart => exact ⟨rfl, hb⟩
    case round =>
      clear hb hbel
      obtain ⟨rfl, hbel⟩ := hrel
      go_wp2_with fail
      go_loopw [9, 10] (fun i _ wr => i = .int .i64 0 ∧ Below w.heap.size w wr) (fun _ _ _ => 0)
      case atStart => exact ⟨rfl, hbel⟩
      case round =>
        clear hbel
        obtain ⟨rfl, hbel⟩ := hrel
        go_wp2_with fail
        go_loopw [11, 12, 13] (fun i _ _ wr => i = .int .i64 0 ∧ Below w.heap.size w wr) (fun _ _ _ _ => 0)
        case atStart => exact ⟨rfl, hbel⟩
        case round =>
          clear hbel
          obtain ⟨rfl, hbel⟩ := hrel
          go_wp2_with fail
          go_loopw [14, 15] (fun i _ wr => i = .int .i64 0 ∧ Below w.heap.size w wr) (fun _ _ _ => 0)
          case atStart => exact ⟨rfl, hbel⟩
          case round =>
            clear hbel
            obtain ⟨rfl, hbel⟩ := hrel
            go_wp2_with fail
            go_ret
            exact ⟨rfl, hbel⟩
theorem flatNil_RuleRow (w : World) : Calls Tryz.prog 94 #[.slice none 0 0] w fun e w' => e = .returned (.bool true) ∧ Below w.heap.size w w' := by
  have hmk : ∀ w, (Instr.makeSlice 92 (.int .i64 0) (.int .i64 0)).run Tryz.prog w = .ok (.slice (some ⟨w.heap.size, 0, none⟩) 0 0) (w.alloc (.cells #[] 244)) := fun _ => by kernel_rfl
  go_enter Tryz.func94, Tryz.ntmps94
  go_wp2_with fail
  go_loopw [3, 4] (fun i _ wr => i = .int .i64 0 ∧ Below w.heap.size w wr) (fun _ _ _ => 0)
  case atStart => exact ⟨rfl, Below.refl _ _⟩
  case round =>
    obtain ⟨rfl, hbel⟩ := hrel
    have hb : Below w.heap.size w (wr.alloc (.cells #[] 244)) := hbel.alloc hbel.size _
    go_wp2_with fail
    generalize wr.alloc (.cells #[] 244) = w1 at hb ⊢
    go_loopw [6, 7, 8] (fun i _ _ wr => i = .int .i64 0 ∧ Below w.heap.size w wr) (fun _ _ _ _ => 0)
    case atStart => exact ⟨rfl, hb⟩
    case round =>
      clear hb hbel
      obtain ⟨rfl, hbel⟩ := hrel
      go_wp2_with fail
      go_loopw [9, 10] (fun i _ wr => i = .int .i64 0 ∧ Below w.heap.size w wr) (fun _ _ _ => 0)
      case atStart => exact ⟨rfl, hbel⟩
      case round =>
        clear hbel
        obtain ⟨rfl, hbel⟩ := hrel
        go_wp2_with fail
        go_loopw [11, 12, 13] (fun i _ _ wr => i = .int .i64 0 ∧ Below w.heap.size w wr) (fun _ _ _ _ => 0)
        case atStart => exact ⟨rfl, hbel⟩
        case round =>
          clear hbel
          obtain ⟨rfl, hbel⟩ := hrel
          go_wp2_with fail
          go_loopw [14, 15] (fun i _ wr => i = .int .i64 0 ∧ Below w.heap.size w wr) (fun _ _ _ => 0)
          case atStart => exact ⟨rfl, hbel⟩
          case round =>
            clear hbel
            obtain ⟨rfl, hbel⟩ := hrel
            go_wp2_with fail
            go_ret
            exact ⟨rfl, hbel⟩
theorem flatNil_RulesRow (w : World) : Calls Tryz.prog 95 #[.slice none 0 0] w fun e w' => e = .returned (.bool true) ∧ Below w.heap.size w w' := by
  have hmk : ∀ w, (Instr.makeSlice 93 (.int .i64 0) (.int .i64 0)).run Tryz.prog w = .ok (.slice (some ⟨w.heap.size, 0, none⟩) 0 0) (w.alloc (.cells #[] 249)) := fun _ => by kernel_rfl
  go_enter Tryz.func95, Tryz.ntmps95
  go_wp2_with fail
  go_loopw [3, 4] (fun i _ wr => i = .int .i64 0 ∧ Below w.heap.size w wr) (fun _ _ _ => 0)
  case atStart => exact ⟨rfl, Below.refl _ _⟩
  case round =>
    obtain ⟨rfl, hbel⟩ := hrel
    have hb : Below w.heap.size w (wr.alloc (.cells #[] 249)) := hbel.alloc hbel.size _
    go_wp2_with fail
    generalize wr.alloc (.cells #[] 249) = w1 at hb ⊢
    go_loopw [6, 7, 8] (fun i _ _ wr => i = .int .i64 0 ∧ Below w.heap.size w wr) (fun _ _ _ _ => 0)
    case atStart => exact ⟨rfl, hb⟩
    case round =>
      clear hb hbel
      obtain ⟨rfl, hbel⟩ := hrel
      go_wp2_with fail
      go_loopw [9, 10] (fun i _ wr => i = .int .i64 0 ∧ Below w.heap.size w wr) (fun _ _ _ => 0)
      case atStart => exact ⟨rfl, hbel⟩
      case round =>
        clear hbel
        obtain ⟨rfl, hbel⟩ := hrel
        go_wp2_with fail
        go_loopw [11, 12, 13] (fun i _ _ wr => i = .int .i64 0 ∧ Below w.heap.size w wr) (fun _ _ _ _ => 0)
        case atStart => exact ⟨rfl, hbel⟩
        case round =>
          clear hbel
          obtain ⟨rfl, hbel⟩ := hrel
          go_wp2_with fail
          go_loopw [14, 15] (fun i _ wr => i = .int .i64 0 ∧ Below w.heap.size w wr) (fun _ _ _ => 0)
          case atStart => exact ⟨rfl, hbel⟩
          case round =>
            clear hbel
            obtain ⟨rfl, hbel⟩ := hrel
            go_wp2_with fail
            go_ret
            exact ⟨rfl, hbel⟩
theorem flatNil_Tokens (w : World) : Calls Tryz.prog 96 #[.slice none 0 0] w fun e w' => e = .returned (.bool true) ∧ Below w.heap.size w w' := by
  have hmk : ∀ w, (Instr.makeSlice 94 (.int .i64 0) (.int .i64 0)).run Tryz.prog w = .ok (.slice (some ⟨w.heap.size, 0, none⟩) 0 0) (w.alloc (.cells #[] 254)) := fun _ => by kernel_rfl
  go_enter Tryz.func96, Tryz.ntmps96
  go_wp2_with fail
  go_loopw [3, 4] (fun i _ wr => i = .int .i64 0 ∧ Below w.heap.size w wr) (fun _ _ _ => 0)
  case atStart => exact ⟨rfl, Below.refl _ _⟩
  case round =>
    obtain ⟨rfl, hbel⟩ := hrel
    have hb : Below w.heap.size w (wr.alloc (.cells #[] 254)) := hbel.alloc hbel.size _
    go_wp2_with fail
    generalize wr.alloc (.cells #[] 254) = w1 at hb ⊢
    go_loopw [6, 7, 8] (fun i _ _ wr => i = .int .i64 0 ∧ Below w.heap.size w wr) (fun _ _ _ _ => 0)
    case atStart => exact ⟨rfl, hb⟩
    case round =>
      clear hb hbel
      obtain ⟨rfl, hbel⟩ := hrel
      go_wp2_with fail
      go_loopw [9, 10] (fun i _ wr => i = .int .i64 0 ∧ Below w.heap.size w wr) (fun _ _ _ => 0)
      case atStart => exact ⟨rfl, hbel⟩
      case round =>
        clear hbel
        obtain ⟨rfl, hbel⟩ := hrel
        go_wp2_with fail
        go_loopw [11, 12, 13] (fun i _ _ wr => i = .int .i64 0 ∧ Below w.heap.size w wr) (fun _ _ _ _ => 0)
        case atStart => exact ⟨rfl, hbel⟩
        case round =>
          clear hbel
          obtain ⟨rfl, hbel⟩ := hrel
          go_wp2_with fail
          go_loopw [14, 15] (fun i _ wr => i = .int .i64 0 ∧ Below w.heap.size w wr) (fun _ _ _ => 0)
          case atStart => exact ⟨rfl, hbel⟩
          case round =>
            clear hbel
            obtain ⟨rfl, hbel⟩ := hrel
            go_wp2_with fail
            go_ret
            exact ⟨rfl, hbel⟩
theorem flatNil_Commands (w : World) : Calls Tryz.prog 97 #[.slice none 0 0] w fun e w' => e = .returned (.bool true) ∧ Below w.heap.size w w' := by
  have hmk : ∀ w, (Instr.makeSlice 95 (.int .i64 0) (.int .i64 0)).run Tryz.prog w = .ok (.slice (some ⟨w.heap.size, 0, none⟩) 0 0) (w.alloc (.cells #[] 259)) := fun _ => by kernel_rfl
  go_enter Tryz.func97, Tryz.ntmps97
  go_wp2_with fail
  go_loopw [3, 4] (fun i _ wr => i = .int .i64 0 ∧ Below w.heap.size w wr) (fun _ _ _ => 0)
  case atStart => exact ⟨rfl, Below.refl _ _⟩
  case round =>
    obtain ⟨rfl, hbel⟩ := hrel
    have hb : Below w.heap.size w (wr.alloc (.cells #[] 259)) := hbel.alloc hbel.size _
    go_wp2_with fail
    generalize wr.alloc (.cells #[] 259) = w1 at hb ⊢
    go_loopw [6, 7, 8] (fun i _ _ wr => i = .int .i64 0 ∧ Below w.heap.size w wr) (fun _ _ _ _ => 0)
    case atStart => exact ⟨rfl, hb⟩
    case round =>
      clear hb hbel
      obtain ⟨rfl, hbel⟩ := hrel
      go_wp2_with fail
      go_loopw [9, 10] (fun i _ wr => i = .int .i64 0 ∧ Below w.heap.size w wr) (fun _ _ _ => 0)
      case atStart => exact ⟨rfl, hbel⟩
      case round =>
        clear hbel
        obtain ⟨rfl, hbel⟩ := hrel
        go_wp2_with fail
        go_loopw [11, 12, 13] (fun i _ _ wr => i = .int .i64 0 ∧ Below w.heap.size w wr) (fun _ _ _ _ => 0)
        case atStart => exact ⟨rfl, hbel⟩
        case round =>
          clear hbel
          obtain ⟨rfl, hbel⟩ := hrel
          go_wp2_with fail
          go_loopw [14, 15] (fun i _ wr => i = .int .i64 0 ∧ Below w.heap.size w wr) (fun _ _ _ => 0)
          case atStart => exact ⟨rfl, hbel⟩
          case round =>
            clear hbel
            obtain ⟨rfl, hbel⟩ := hrel
            go_wp2_with fail
            go_ret
            exact ⟨rfl, hbel⟩
theorem flatNil_Replies (w : World) : Calls Tryz.prog 98 #[.slice none 0 0] w fun e w' => e = .returned (.bool true) ∧ Below w.heap.size w w' := by
  have hmk : ∀ w, (Instr.makeSlice 96 (.int .i64 0) (.int .i64 0)).run Tryz.prog w = .ok (.slice (some ⟨w.heap.size, 0, none⟩) 0 0) (w.alloc (.cells #[] 261)) := fun _ => by kernel_rfl
  go_enter Tryz.func98, Tryz.ntmps98
  go_wp2_with fail
  go_loopw [3, 4] (fun i _ wr => i = .int .i64 0 ∧ Below w.heap.size w wr) (fun _ _ _ => 0)
  case atStart => exact ⟨rfl, Below.refl _ _⟩
  case round =>
    obtain ⟨rfl, hbel⟩ := hrel
    have hb : Below w.heap.size w (wr.alloc (.cells #[] 261)) := hbel.alloc hbel.size _
    go_wp2_with fail
    generalize wr.alloc (.cells #[] 261) = w1 at hb ⊢
    go_loopw [6, 7, 8] (fun i _ _ wr => i = .int .i64 0 ∧ Below w.heap.size w wr) (fun _ _ _ _ => 0)
    case atStart => exact ⟨rfl, hb⟩
    case round =>
      clear hb hbel
      obtain ⟨rfl, hbel⟩ := hrel
      go_wp2_with fail
      go_loopw [9, 10] (fun i _ wr => i = .int .i64 0 ∧ Below w.heap.size w wr) (fun _ _ _ => 0)
      case atStart => exact ⟨rfl, hbel⟩
      case round =>
        clear hbel
        obtain ⟨rfl, hbel⟩ := hrel
        go_wp2_with fail
        go_loopw [11, 12, 13] (fun i _ _ wr => i = .int .i64 0 ∧ Below w.heap.size w wr) (fun _ _ _ _ => 0)
        case atStart => exact ⟨rfl, hbel⟩
        case round =>
          clear hbel
          obtain ⟨rfl, hbel⟩ := hrel
          go_wp2_with fail
          go_loopw [14, 15] (fun i _ wr => i = .int .i64 0 ∧ Below w.heap.size w wr) (fun _ _ _ => 0)
          case atStart => exact ⟨rfl, hbel⟩
          case round =>
            clear hbel
            obtain ⟨rfl, hbel⟩ := hrel
            go_wp2_with fail
            go_ret
            exact ⟨rfl, hbel⟩
theorem flatNil_Entries (w : World) : Calls Tryz.prog 99 #[.slice none 0 0] w fun e w' => e = .returned (.bool true) ∧ Below w.heap.size w w' := by
  have hmk : ∀ w, (Instr.makeSlice 97 (.int .i64 0) (.int .i64 0)).run Tryz.prog w = .ok (.slice (some ⟨w.heap.size, 0, none⟩) 0 0) (w.alloc (.cells #[] 23)) := fun _ => by kernel_rfl
  go_enter Tryz.func99, Tryz.ntmps99
  go_wp2_with fail
  go_loopw [3, 4] (fun i _ wr => i = .int .i64 0 ∧ Below w.heap.size w wr) (fun _ _ _ => 0)
  case atStart => exact ⟨rfl, Below.refl _ _⟩
  case round =>
    obtain ⟨rfl, hbel⟩ := hrel
    have hb : Below w.heap.size w (wr.alloc (.cells #[] 23)) := hbel.alloc hbel.size _
    go_wp2_with fail
    generalize wr.alloc (.cells #[] 23) = w1 at hb ⊢
    go_loopw [6, 7, 8] (fun i _ _ wr => i = .int .i64 0 ∧ Below w.heap.size w wr) (fun _ _ _ _ => 0)
    case atStart => exact ⟨rfl, hb⟩
    case round =>
      clear hb hbel
      obtain ⟨rfl, hbel⟩ := hrel
      go_wp2_with fail
      go_loopw [9, 10] (fun i _ wr => i = .int .i64 0 ∧ Below w.heap.size w wr) (fun _ _ _ => 0)
      case atStart => exact ⟨rfl, hbel⟩
      case round =>
        clear hbel
        obtain ⟨rfl, hbel⟩ := hrel
        go_wp2_with fail
        go_loopw [11, 12, 13] (fun i _ _ wr => i = .int .i64 0 ∧ Below w.heap.size w wr) (fun _ _ _ _ => 0)
        case atStart => exact ⟨rfl, hbel⟩
        case round =>
          clear hbel
          obtain ⟨rfl, hbel⟩ := hrel
          go_wp2_with fail
          go_loopw [14, 15] (fun i _ wr => i = .int .i64 0 ∧ Below w.heap.size w wr) (fun _ _ _ => 0)
          case atStart => exact ⟨rfl, hbel⟩
          case round =>
            clear hbel
            obtain ⟨rfl, hbel⟩ := hrel
            go_wp2_with fail
            go_ret
            exact ⟨rfl, hbel⟩
theorem flatNil_Letters (w : World) : Calls Tryz.prog 100 #[.slice none 0 0] w fun e w' => e = .returned (.bool true) ∧ Below w.heap.size w w' := by
  have hmk : ∀ w, (Instr.makeSlice 45 (.int .i64 0) (.int .i64 0)).run Tryz.prog w = .ok (.slice (some ⟨w.heap.size, 0, none⟩) 0 0) (w.alloc (.cells #[] 44)) := fun _ => by kernel_rfl
  go_enter Tryz.func100, Tryz.ntmps100
  go_wp2_with fail
  go_loopw [3, 4] (fun i _ wr => i = .int .i64 0 ∧ Below w.heap.size w wr) (fun _ _ _ => 0)
  case atStart => exact ⟨rfl, Below.refl _ _⟩
  case round =>
    obtain ⟨rfl, hbel⟩ := hrel
    have hb : Below w.heap.size w (wr.alloc (.cells #[] 44)) := hbel.alloc hbel.size _
    go_wp2_with fail
    generalize wr.alloc (.cells #[] 44) = w1 at hb ⊢
    go_loopw [6, 7, 8] (fun i _ _ wr => i = .int .i64 0 ∧ Below w.heap.size w wr) (fun _ _ _ _ => 0)
    case atStart => exact ⟨rfl, hb⟩
    case round =>
      clear hb hbel
      obtain ⟨rfl, hbel⟩ := hrel
      go_wp2_with fail
      go_loopw [9, 10] (fun i _ wr => i = .int .i64 0 ∧ Below w.heap.size w wr) (fun _ _ _ => 0)
      case atStart => exact ⟨rfl, hbel⟩
      case round =>
        clear hbel
        obtain ⟨rfl, hbel⟩ := hrel
        go_wp2_with fail
        go_loopw [11, 12, 13] (fun i _ _ wr => i = .int .i64 0 ∧ Below w.heap.size w wr) (fun _ _ _ _ => 0)
        case atStart => exact ⟨rfl, hbel⟩
        case round =>
          clear hbel
          obtain ⟨rfl, hbel⟩ := hrel
          go_wp2_with fail
          go_loopw [14, 15] (fun i _ wr => i = .int .i64 0 ∧ Below w.heap.size w wr) (fun _ _ _ => 0)
          case atStart => exact ⟨rfl, hbel⟩
          case round =>
            clear hbel
            obtain ⟨rfl, hbel⟩ := hrel
            go_wp2_with fail
            go_ret
            exact ⟨rfl, hbel⟩
theorem flatNil_Snaps (w : World) : Calls Tryz.prog 101 #[.slice none 0 0] w fun e w' => e = .returned (.bool true) ∧ Below w.heap.size w w' := by
  have hmk : ∀ w, (Instr.makeSlice 98 (.int .i64 0) (.int .i64 0)).run Tryz.prog w = .ok (.slice (some ⟨w.heap.size, 0, none⟩) 0 0) (w.alloc (.cells #[] 267)) := fun _ => by kernel_rfl
  go_enter Tryz.func101, Tryz.ntmps101
  go_wp2_with fail
  go_loopw [3, 4] (fun i _ wr => i = .int .i64 0 ∧ Below w.heap.size w wr) (fun _ _ _ => 0)
  case atStart => exact ⟨rfl, Below.refl _ _⟩
  case round =>
    obtain ⟨rfl, hbel⟩ := hrel
    have hb : Below w.heap.size w (wr.alloc (.cells #[] 267)) := hbel.alloc hbel.size _
    go_wp2_with fail
    generalize wr.alloc (.cells #[] 267) = w1 at hb ⊢
    go_loopw [6, 7, 8] (fun i _ _ wr => i = .int .i64 0 ∧ Below w.heap.size w wr) (fun _ _ _ _ => 0)
    case atStart => exact ⟨rfl, hb⟩
    case round =>
      clear hb hbel
      obtain ⟨rfl, hbel⟩ := hrel
      go_wp2_with fail
      go_loopw [9, 10] (fun i _ wr => i = .int .i64 0 ∧ Below w.heap.size w wr) (fun _ _ _ => 0)
      case atStart => exact ⟨rfl, hbel⟩
      case round =>
        clear hbel
        obtain ⟨rfl, hbel⟩ := hrel
        go_wp2_with fail
        go_loopw [11, 12, 13] (fun i _ _ wr => i = .int .i64 0 ∧ Below w.heap.size w wr) (fun _ _ _ _ => 0)
        case atStart => exact ⟨rfl, hbel⟩
        case round =>
          clear hbel
          obtain ⟨rfl, hbel⟩ := hrel
          go_wp2_with fail
          go_loopw [14, 15] (fun i _ wr => i = .int .i64 0 ∧ Below w.heap.size w wr) (fun _ _ _ => 0)
          case atStart => exact ⟨rfl, hbel⟩
          case round =>
            clear hbel
            obtain ⟨rfl, hbel⟩ := hrel
            go_wp2_with fail
            go_ret
            exact ⟨rfl, hbel⟩
theorem flatNil_Steps (w : World) : Calls Tryz.prog 102 #[.slice none 0 0] w fun e w' => e = .returned (.bool true) ∧ Below w.heap.size w w' := by
  have hmk : ∀ w, (Instr.makeSlice 99 (.int .i64 0) (.int .i64 0)).run Tryz.prog w = .ok (.slice (some ⟨w.heap.size, 0, none⟩) 0 0) (w.alloc (.cells #[] 272)) := fun _ => by kernel_rfl
  go_enter Tryz.func102, Tryz.ntmps102
  go_wp2_with fail
  go_loopw [3, 4] (fun i _ wr => i = .int .i64 0 ∧ Below w.heap.size w wr) (fun _ _ _ => 0)
  case atStart => exact ⟨rfl, Below.refl _ _⟩
  case round =>
    obtain ⟨rfl, hbel⟩ := hrel
    have hb : Below w.heap.size w (wr.alloc (.cells #[] 272)) := hbel.alloc hbel.size _
    go_wp2_with fail
    generalize wr.alloc (.cells #[] 272) = w1 at hb ⊢
    go_loopw [6, 7, 8] (fun i _ _ wr => i = .int .i64 0 ∧ Below w.heap.size w wr) (fun _ _ _ _ => 0)
    case atStart => exact ⟨rfl, hb⟩
    case round =>
      clear hb hbel
      obtain ⟨rfl, hbel⟩ := hrel
      go_wp2_with fail
      go_loopw [9, 10] (fun i _ wr => i = .int .i64 0 ∧ Below w.heap.size w wr) (fun _ _ _ => 0)
      case atStart => exact ⟨rfl, hbel⟩
      case round =>
        clear hbel
        obtain ⟨rfl, hbel⟩ := hrel
        go_wp2_with fail
        go_loopw [11, 12, 13] (fun i _ _ wr => i = .int .i64 0 ∧ Below w.heap.size w wr) (fun _ _ _ _ => 0)
        case atStart => exact ⟨rfl, hbel⟩
        case round =>
          clear hbel
          obtain ⟨rfl, hbel⟩ := hrel
          go_wp2_with fail
          go_loopw [14, 15] (fun i _ wr => i = .int .i64 0 ∧ Below w.heap.size w wr) (fun _ _ _ => 0)
          case atStart => exact ⟨rfl, hbel⟩
          case round =>
            clear hbel
            obtain ⟨rfl, hbel⟩ := hrel
            go_wp2_with fail
            go_ret
            exact ⟨rfl, hbel⟩
theorem flatNil_Tales (w : World) : Calls Tryz.prog 103 #[.slice none 0 0] w fun e w' => e = .returned (.bool true) ∧ Below w.heap.size w w' := by
  have hmk : ∀ w, (Instr.makeSlice 100 (.int .i64 0) (.int .i64 0)).run Tryz.prog w = .ok (.slice (some ⟨w.heap.size, 0, none⟩) 0 0) (w.alloc (.cells #[] 278)) := fun _ => by kernel_rfl
  go_enter Tryz.func103, Tryz.ntmps103
  go_wp2_with fail
  go_loopw [3, 4] (fun i _ wr => i = .int .i64 0 ∧ Below w.heap.size w wr) (fun _ _ _ => 0)
  case atStart => exact ⟨rfl, Below.refl _ _⟩
  case round =>
    obtain ⟨rfl, hbel⟩ := hrel
    have hb : Below w.heap.size w (wr.alloc (.cells #[] 278)) := hbel.alloc hbel.size _
    go_wp2_with fail
    generalize wr.alloc (.cells #[] 278) = w1 at hb ⊢
    go_loopw [6, 7, 8] (fun i _ _ wr => i = .int .i64 0 ∧ Below w.heap.size w wr) (fun _ _ _ _ => 0)
    case atStart => exact ⟨rfl, hb⟩
    case round =>
      clear hb hbel
      obtain ⟨rfl, hbel⟩ := hrel
      go_wp2_with fail
      go_loopw [9, 10] (fun i _ wr => i = .int .i64 0 ∧ Below w.heap.size w wr) (fun _ _ _ => 0)
      case atStart => exact ⟨rfl, hbel⟩
      case round =>
        clear hbel
        obtain ⟨rfl, hbel⟩ := hrel
        go_wp2_with fail
        go_loopw [11, 12, 13] (fun i _ _ wr => i = .int .i64 0 ∧ Below w.heap.size w wr) (fun _ _ _ _ => 0)
        case atStart => exact ⟨rfl, hbel⟩
        case round =>
          clear hbel
          obtain ⟨rfl, hbel⟩ := hrel
          go_wp2_with fail
          go_loopw [14, 15] (fun i _ wr => i = .int .i64 0 ∧ Below w.heap.size w wr) (fun _ _ _ => 0)
          case atStart => exact ⟨rfl, hbel⟩
          case round =>
            clear hbel
            obtain ⟨rfl, hbel⟩ := hrel
            go_wp2_with fail
            go_ret
            exact ⟨rfl, hbel⟩
theorem flatNil_States (w : World) : Calls Tryz.prog 104 #[.slice none 0 0] w fun e w' => e = .returned (.bool true) ∧ Below w.heap.size w w' := by
  have hmk : ∀ w, (Instr.makeSlice 101 (.int .i64 0) (.int .i64 0)).run Tryz.prog w = .ok (.slice (some ⟨w.heap.size, 0, none⟩) 0 0) (w.alloc (.cells #[] 284)) := fun _ => by kernel_rfl
  go_enter Tryz.func104, Tryz.ntmps104
  go_wp2_with fail
  go_loopw [3, 4] (fun i _ wr => i = .int .i64 0 ∧ Below w.heap.size w wr) (fun _ _ _ => 0)
  case atStart => exact ⟨rfl, Below.refl _ _⟩
  case round =>
    obtain ⟨rfl, hbel⟩ := hrel
    have hb : Below w.heap.size w (wr.alloc (.cells #[] 284)) := hbel.alloc hbel.size _
    go_wp2_with fail
    generalize wr.alloc (.cells #[] 284) = w1 at hb ⊢
    go_loopw [6, 7, 8] (fun i _ _ wr => i = .int .i64 0 ∧ Below w.heap.size w wr) (fun _ _ _ _ => 0)
    case atStart => exact ⟨rfl, hb⟩
    case round =>
      clear hb hbel
      obtain ⟨rfl, hbel⟩ := hrel
      go_wp2_with fail
      go_loopw [9, 10] (fun i _ wr => i = .int .i64 0 ∧ Below w.heap.size w wr) (fun _ _ _ => 0)
      case atStart => exact ⟨rfl, hbel⟩
      case round =>
        clear hbel
        obtain ⟨rfl, hbel⟩ := hrel
        go_wp2_with fail
        go_loopw [11, 12, 13] (fun i _ _ wr => i = .int .i64 0 ∧ Below w.heap.size w wr) (fun _ _ _ _ => 0)
        case atStart => exact ⟨rfl, hbel⟩
        case round =>
          clear hbel
          obtain ⟨rfl, hbel⟩ := hrel
          go_wp2_with fail
          go_loopw [14, 15] (fun i _ wr => i = .int .i64 0 ∧ Below w.heap.size w wr) (fun _ _ _ => 0)
          case atStart => exact ⟨rfl, hbel⟩
          case round =>
            clear hbel
            obtain ⟨rfl, hbel⟩ := hrel
            go_wp2_with fail
            go_ret
            exact ⟨rfl, hbel⟩
theorem flatNil_Sessions (w : World) : Calls Tryz.prog 105 #[.slice none 0 0] w fun e w' => e = .returned (.bool true) ∧ Below w.heap.size w w' := by
  have hmk : ∀ w, (Instr.makeSlice 102 (.int .i64 0) (.int .i64 0)).run Tryz.prog w = .ok (.slice (some ⟨w.heap.size, 0, none⟩) 0 0) (w.alloc (.cells #[] 289)) := fun _ => by kernel_rfl
  go_enter Tryz.func105, Tryz.ntmps105
  go_wp2_with fail
  go_loopw [3, 4] (fun i _ wr => i = .int .i64 0 ∧ Below w.heap.size w wr) (fun _ _ _ => 0)
  case atStart => exact ⟨rfl, Below.refl _ _⟩
  case round =>
    obtain ⟨rfl, hbel⟩ := hrel
    have hb : Below w.heap.size w (wr.alloc (.cells #[] 289)) := hbel.alloc hbel.size _
    go_wp2_with fail
    generalize wr.alloc (.cells #[] 289) = w1 at hb ⊢
    go_loopw [6, 7, 8] (fun i _ _ wr => i = .int .i64 0 ∧ Below w.heap.size w wr) (fun _ _ _ _ => 0)
    case atStart => exact ⟨rfl, hb⟩
    case round =>
      clear hb hbel
      obtain ⟨rfl, hbel⟩ := hrel
      go_wp2_with fail
      go_loopw [9, 10] (fun i _ wr => i = .int .i64 0 ∧ Below w.heap.size w wr) (fun _ _ _ => 0)
      case atStart => exact ⟨rfl, hbel⟩
      case round =>
        clear hbel
        obtain ⟨rfl, hbel⟩ := hrel
        go_wp2_with fail
        go_loopw [11, 12, 13] (fun i _ _ wr => i = .int .i64 0 ∧ Below w.heap.size w wr) (fun _ _ _ _ => 0)
        case atStart => exact ⟨rfl, hbel⟩
        case round =>
          clear hbel
          obtain ⟨rfl, hbel⟩ := hrel
          go_wp2_with fail
          go_loopw [14, 15] (fun i _ wr => i = .int .i64 0 ∧ Below w.heap.size w wr) (fun _ _ _ => 0)
          case atStart => exact ⟨rfl, hbel⟩
          case round =>
            clear hbel
            obtain ⟨rfl, hbel⟩ := hrel
            go_wp2_with fail
            go_ret
            exact ⟨rfl, hbel⟩
theorem flatNil_Machines (w : World) : Calls Tryz.prog 106 #[.slice none 0 0] w fun e w' => e = .returned (.bool true) ∧ Below w.heap.size w w' := by
  have hmk : ∀ w, (Instr.makeSlice 103 (.int .i64 0) (.int .i64 0)).run Tryz.prog w = .ok (.slice (some ⟨w.heap.size, 0, none⟩) 0 0) (w.alloc (.cells #[] 294)) := fun _ => by kernel_rfl
  go_enter Tryz.func106, Tryz.ntmps106
  go_wp2_with fail
  go_loopw [3, 4] (fun i _ wr => i = .int .i64 0 ∧ Below w.heap.size w wr) (fun _ _ _ => 0)
  case atStart => exact ⟨rfl, Below.refl _ _⟩
  case round =>
    obtain ⟨rfl, hbel⟩ := hrel
    have hb : Below w.heap.size w (wr.alloc (.cells #[] 294)) := hbel.alloc hbel.size _
    go_wp2_with fail
    generalize wr.alloc (.cells #[] 294) = w1 at hb ⊢
    go_loopw [6, 7, 8] (fun i _ _ wr => i = .int .i64 0 ∧ Below w.heap.size w wr) (fun _ _ _ _ => 0)
    case atStart => exact ⟨rfl, hb⟩
    case round =>
      clear hb hbel
      obtain ⟨rfl, hbel⟩ := hrel
      go_wp2_with fail
      go_loopw [9, 10] (fun i _ wr => i = .int .i64 0 ∧ Below w.heap.size w wr) (fun _ _ _ => 0)
      case atStart => exact ⟨rfl, hbel⟩
      case round =>
        clear hbel
        obtain ⟨rfl, hbel⟩ := hrel
        go_wp2_with fail
        go_loopw [11, 12, 13] (fun i _ _ wr => i = .int .i64 0 ∧ Below w.heap.size w wr) (fun _ _ _ _ => 0)
        case atStart => exact ⟨rfl, hbel⟩
        case round =>
          clear hbel
          obtain ⟨rfl, hbel⟩ := hrel
          go_wp2_with fail
          go_loopw [14, 15] (fun i _ wr => i = .int .i64 0 ∧ Below w.heap.size w wr) (fun _ _ _ => 0)
          case atStart => exact ⟨rfl, hbel⟩
          case round =>
            clear hbel
            obtain ⟨rfl, hbel⟩ := hrel
            go_wp2_with fail
            go_ret
            exact ⟨rfl, hbel⟩
theorem flatNil_Frames (w : World) : Calls Tryz.prog 107 #[.slice none 0 0] w fun e w' => e = .returned (.bool true) ∧ Below w.heap.size w w' := by
  have hmk : ∀ w, (Instr.makeSlice 104 (.int .i64 0) (.int .i64 0)).run Tryz.prog w = .ok (.slice (some ⟨w.heap.size, 0, none⟩) 0 0) (w.alloc (.cells #[] 299)) := fun _ => by kernel_rfl
  go_enter Tryz.func107, Tryz.ntmps107
  go_wp2_with fail
  go_loopw [3, 4] (fun i _ wr => i = .int .i64 0 ∧ Below w.heap.size w wr) (fun _ _ _ => 0)
  case atStart => exact ⟨rfl, Below.refl _ _⟩
  case round =>
    obtain ⟨rfl, hbel⟩ := hrel
    have hb : Below w.heap.size w (wr.alloc (.cells #[] 299)) := hbel.alloc hbel.size _
    go_wp2_with fail
    generalize wr.alloc (.cells #[] 299) = w1 at hb ⊢
    go_loopw [6, 7, 8] (fun i _ _ wr => i = .int .i64 0 ∧ Below w.heap.size w wr) (fun _ _ _ _ => 0)
    case atStart => exact ⟨rfl, hb⟩
    case round =>
      clear hb hbel
      obtain ⟨rfl, hbel⟩ := hrel
      go_wp2_with fail
      go_loopw [9, 10] (fun i _ wr => i = .int .i64 0 ∧ Below w.heap.size w wr) (fun _ _ _ => 0)
      case atStart => exact ⟨rfl, hbel⟩
      case round =>
        clear hbel
        obtain ⟨rfl, hbel⟩ := hrel
        go_wp2_with fail
        go_loopw [11, 12, 13] (fun i _ _ wr => i = .int .i64 0 ∧ Below w.heap.size w wr) (fun _ _ _ _ => 0)
        case atStart => exact ⟨rfl, hbel⟩
        case round =>
          clear hbel
          obtain ⟨rfl, hbel⟩ := hrel
          go_wp2_with fail
          go_loopw [14, 15] (fun i _ wr => i = .int .i64 0 ∧ Below w.heap.size w wr) (fun _ _ _ => 0)
          case atStart => exact ⟨rfl, hbel⟩
          case round =>
            clear hbel
            obtain ⟨rfl, hbel⟩ := hrel
            go_wp2_with fail
            go_ret
            exact ⟨rfl, hbel⟩
end Go.Proofs.YtglgcjkglhlggaaGreatDoor
/- ApartBytes: rows of bytes that lie apart are found to do so. Conditions: each row is the caller's own, in a block of its own. -/
namespace Go.Proofs.YtglgcjkglhlggaaGreatDoor
open Go.RowKit
set_option maxRecDepth 20000
/-- The bag that holds rows of bytes alone. -/
def bagB (v : Value) : Array Value := #[.slice none 0 0, .slice none 0 0, .slice none 0 0, .slice none 0 0, .slice none 0 0, v, .slice none 0 0, .slice none 0 0, .slice none 0 0, .slice none 0 0, .slice none 0 0, .slice none 0 0, .slice none 0 0, .slice none 0 0, .slice none 0 0, .slice none 0 0, .slice none 0 0, .slice none 0 0, .slice none 0 0, .slice none 0 0, .slice none 0 0, .slice none 0 0, .slice none 0 0, .slice none 0 0, .slice none 0 0, .slice none 0 0, .slice none 0 0, .slice none 0 0, .slice none 0 0]
def BagIs (w : World) (bb : Nat) (v : Value) : Prop := w.heap[bb]? = some (.cells (bagB v) 106 (0, 0))
theorem BagIs.cell {w : World} {bb : Nat} {v : Value} (h : BagIs w bb v) (i : Nat) : w.cell? ⟨bb, i, none⟩ = (bagB v)[i]? := Go.Joins.cell_of_block h i
theorem BagIs.lt {w : World} {bb : Nat} {v : Value} (h : BagIs w bb v) : bb < w.heap.size := (Array.getElem?_eq_some_iff.1 h).1
theorem BagIs.below {w w' : World} {bb B : Nat} {v : Value} (h : BagIs w bb v) (hb : Below B w w') (hB : bb < B) : BagIs w' bb v := (hb.block bb hB).trans h
theorem BagIs.apart {w : World} {bb B E SZ n : Nat} {v u : Value} {xs : List Value} (h : BagIs w bb v) (ho : w.ownsRow B E SZ u n xs) (he : E ≠ 106) : u.ownBlock ≠ some bb := by
  intro hh
  rcases ho.2 with ⟨rfl, _⟩ | ⟨g, cap, cur, rfl, _, g1, _⟩
  · simp [Value.ownBlock] at hh
  · simp [Value.ownBlock] at hh
    subst hh
    unfold BagIs at h
    rw [g1] at h
    simp only [Option.some.injEq, Obj.cells.injEq] at h
    exact he h.2.1
theorem putB_bag (B bb : Nat) (v : Value) (m : Nat) (rows : List Value) (a : Option Addr) (n c : Nat) (w : World) (hb : BagIs w bb v) (hown : w.ownsRow B 25 1 v m rows) (hB : B ≤ w.heap.size) (hBb : B ≤ bb) (hm : m ≤ 1000) :
    Calls Tryz.prog 47 #[.pointer (some ⟨bb, 0, none⟩), .slice a n c] w fun e w' => e = .returned (.tuple #[]) ∧ ∃ v', BagIs w' bb v' ∧ w'.ownsRow B 25 1 v' (m + 1) (rows ++ [.slice a n c]) ∧ Below B w w' := by
  obtain ⟨i0, hi, hz0, hz1, hz2⟩ := info_parts infoRowB
  have c5 : w.cell? ⟨bb, 5, none⟩ = some v := hb.cell 5
  have HB := Lib.hid hb
  have HO := Lib.hid hown
  have hbl := hb.lt
  clear hb hown
  go_enter Tryz.func47, Tryz.ntmps47
  go_wp2_with (at_builtin; refine wpList_append_own _ rfl (.tmp 8) (.tmp 10) 38 rfl B 25 i0 (.slice none 0 0) 1 24 Tryz.underlying38 hi hz0 hz1 hz2 rfl (by decide) v m rows rfl (HO.out.alloc _) ⟨w.heap.size, 0, none⟩ 1 1 [.slice a n c] rfl rfl (cell_one_new _ _ _) (by simp [Value.oneCell']) (by unfold maxLen; omega) (by omega) (by simp; omega) ?_)
  intro v' w3 hown3 hg3 _
  obtain ⟨a3, c3, hv3, _, _, _⟩ := row_form hown3
  subst hv3
  have hbA : BagIs (w.alloc (.cells #[.slice a n c] 25)) bb v := HB.out.below ((Below.refl w.heap.size w).alloc (Nat.le_refl _) _) hbl
  have hb3 : BagIs w3 bb v := (hg3.block bb (by simp; omega) (fun h => HB.out.apart HO.out (by decide) h.symm)).trans hbA
  have d5 : w3.cell? ⟨bb, 5, none⟩ = some v := hb3.cell 5
  have f5 : w3.frozen? ⟨bb, 5, none⟩ = false := Go.Joins.unfrozen_of_block hb3 5
  have hbs : BagIs (w3.setCell ⟨bb, 5, none⟩ (.slice a3 (m + 1) c3)) bb (.slice a3 (m + 1) c3) := Go.Joins.block_setCell hb3 _
  have hrow : (w3.setCell ⟨bb, 5, none⟩ (.slice a3 (m + 1) c3)).ownsRow B 25 1 (.slice a3 (m + 1) c3) (m + 1) (rows ++ [.slice a n c]) := by
    refine ownsRow_setCell_other hown3 ?_ _
    have := hb3.apart hown3 (by decide)
    cases h : (Value.slice a3 (m + 1) c3).ownBlock with
    | none => simp
    | some g => rw [h] at this; simpa using this
  have hbw : Below B w (w3.setCell ⟨bb, 5, none⟩ (.slice a3 (m + 1) c3)) := ((((Below.refl B w).alloc hB _).grown hg3 (by simp; omega) (fun k hk => (HO.out.lt k hk).1)).setCell (p := ⟨bb, 5, none⟩) hBb _)
  have H1 := Lib.hid hbs
  have H2 := Lib.hid hrow
  have H3 := Lib.hid hbw
  clear hbs hrow hbw hown3 hg3 hb3 hbA
  go_wp2_with fail
  go_end0
  exact ⟨rfl, _, H1.out, H2.out, H3.out⟩
end Go.Proofs.YtglgcjkglhlggaaGreatDoor
