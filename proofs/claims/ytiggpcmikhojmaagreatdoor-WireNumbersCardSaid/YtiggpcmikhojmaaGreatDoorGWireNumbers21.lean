/- No rows at all lie apart: each kind's own look at a nil list. No condition. -/
import Derived.Test.YtiggpcmikhojmaaGreatDoorGWireNumbers0
set_option linter.unusedVariables false
namespace Go.Proofs.YtiggpcmikhojmaaGreatDoor
open Go.RowKit
set_option maxRecDepth 20000
theorem flatNil_Limbs (w : World) : Calls Tryz.prog 109 #[.slice none 0 0] w fun e w' => e = .returned (.bool true) ∧ Below w.heap.size w w' := by
  have hmk : ∀ w, (Instr.makeSlice 116 (.int .i64 0) (.int .i64 0)).run Tryz.prog w = .ok (.slice (some ⟨w.heap.size, 0, none⟩) 0 0) (w.alloc (.cells #[] 203)) := fun _ => by kernel_rfl
  go_enter Tryz.func109, Tryz.ntmps109
  go_wp2_with fail
  go_loopw [3, 4] (fun i _ wr => i = .int .i64 0 ∧ Below w.heap.size w wr) (fun _ _ _ => 0)
  case atStart => exact ⟨rfl, Below.refl _ _⟩
  case round =>
    obtain ⟨rfl, hbel⟩ := hrel
    have hb : Below w.heap.size w (wr.alloc (.cells #[] 203)) := hbel.alloc hbel.size _
    go_wp2_with fail
    generalize wr.alloc (.cells #[] 203) = w1 at hb ⊢
    go_loopw [6, 7, 8] (fun i _ _ wr => i = .int .i64 0 ∧ Below w.heap.size w wr) (fun _ _ _ _ => 0)
    case atStart => exact ⟨rfl, hb⟩
    case round =>
      clear hb hbel
      obtain ⟨rfl, hbel⟩ := hrel
      go_wp2_with fail
      go_loopw [9, 10] (fun i _ wr => i = .int .i64 0 ∧ Below w.heap.size w wr) (fun _ _ _ => 0)
      case atStart => exact ⟨rfl, hbel⟩
      case round =>
        clear hbel
        obtain ⟨rfl, hbel⟩ := hrel
        go_wp2_with fail
        go_loopw [11, 12, 13] (fun i _ _ wr => i = .int .i64 0 ∧ Below w.heap.size w wr) (fun _ _ _ _ => 0)
        case atStart => exact ⟨rfl, hbel⟩
        case round =>
          clear hbel
          obtain ⟨rfl, hbel⟩ := hrel
          go_wp2_with fail
          go_loopw [14, 15] (fun i _ wr => i = .int .i64 0 ∧ Below w.heap.size w wr) (fun _ _ _ => 0)
          case atStart => exact ⟨rfl, hbel⟩
          case round =>
            clear hbel
            obtain ⟨rfl, hbel⟩ := hrel
            go_wp2_with fail
            go_ret
            exact ⟨rfl, hbel⟩
theorem flatNil_Words (w : World) : Calls Tryz.prog 110 #[.slice none 0 0] w fun e w' => e = .returned (.bool true) ∧ Below w.heap.size w w' := by
  have hmk : ∀ w, (Instr.makeSlice 117 (.int .i64 0) (.int .i64 0)).run Tryz.prog w = .ok (.slice (some ⟨w.heap.size, 0, none⟩) 0 0) (w.alloc (.cells #[] 205)) := fun _ => by kernel_rfl
  go_enter Tryz.func110, Tryz.ntmps110
  go_wp2_with fail
  go_loopw [3, 4] (fun i _ wr => i = .int .i64 0 ∧ Below w.heap.size w wr) (fun _ _ _ => 0)
  case atStart => exact ⟨rfl, Below.refl _ _⟩
  case round =>
    obtain ⟨rfl, hbel⟩ := hrel
    have hb : Below w.heap.size w (wr.alloc (.cells #[] 205)) := hbel.alloc hbel.size _
    go_wp2_with fail
    generalize wr.alloc (.cells #[] 205) = w1 at hb ⊢
    go_loopw [6, 7, 8] (fun i _ _ wr => i = .int .i64 0 ∧ Below w.heap.size w wr) (fun _ _ _ _ => 0)
    case atStart => exact ⟨rfl, hb⟩
    case round =>
      clear hb hbel
      obtain ⟨rfl, hbel⟩ := hrel
      go_wp2_with fail
      go_loopw [9, 10] (fun i _ wr => i = .int .i64 0 ∧ Below w.heap.size w wr) (fun _ _ _ => 0)
      case atStart => exact ⟨rfl, hbel⟩
      case round =>
        clear hbel
        obtain ⟨rfl, hbel⟩ := hrel
        go_wp2_with fail
        go_loopw [11, 12, 13] (fun i _ _ wr => i = .int .i64 0 ∧ Below w.heap.size w wr) (fun _ _ _ _ => 0)
        case atStart => exact ⟨rfl, hbel⟩
        case round =>
          clear hbel
          obtain ⟨rfl, hbel⟩ := hrel
          go_wp2_with fail
          go_loopw [14, 15] (fun i _ wr => i = .int .i64 0 ∧ Below w.heap.size w wr) (fun _ _ _ => 0)
          case atStart => exact ⟨rfl, hbel⟩
          case round =>
            clear hbel
            obtain ⟨rfl, hbel⟩ := hrel
            go_wp2_with fail
            go_ret
            exact ⟨rfl, hbel⟩
theorem flatNil_Ints (w : World) : Calls Tryz.prog 111 #[.slice none 0 0] w fun e w' => e = .returned (.bool true) ∧ Below w.heap.size w w' := by
  have hmk : ∀ w, (Instr.makeSlice 118 (.int .i64 0) (.int .i64 0)).run Tryz.prog w = .ok (.slice (some ⟨w.heap.size, 0, none⟩) 0 0) (w.alloc (.cells #[] 36)) := fun _ => by kernel_rfl
  go_enter Tryz.func111, Tryz.ntmps111
  go_wp2_with fail
  go_loopw [3, 4] (fun i _ wr => i = .int .i64 0 ∧ Below w.heap.size w wr) (fun _ _ _ => 0)
  case atStart => exact ⟨rfl, Below.refl _ _⟩
  case round =>
    obtain ⟨rfl, hbel⟩ := hrel
    have hb : Below w.heap.size w (wr.alloc (.cells #[] 36)) := hbel.alloc hbel.size _
    go_wp2_with fail
    generalize wr.alloc (.cells #[] 36) = w1 at hb ⊢
    go_loopw [6, 7, 8] (fun i _ _ wr => i = .int .i64 0 ∧ Below w.heap.size w wr) (fun _ _ _ _ => 0)
    case atStart => exact ⟨rfl, hb⟩
    case round =>
      clear hb hbel
      obtain ⟨rfl, hbel⟩ := hrel
      go_wp2_with fail
      go_loopw [9, 10] (fun i _ wr => i = .int .i64 0 ∧ Below w.heap.size w wr) (fun _ _ _ => 0)
      case atStart => exact ⟨rfl, hbel⟩
      case round =>
        clear hbel
        obtain ⟨rfl, hbel⟩ := hrel
        go_wp2_with fail
        go_loopw [11, 12, 13] (fun i _ _ wr => i = .int .i64 0 ∧ Below w.heap.size w wr) (fun _ _ _ _ => 0)
        case atStart => exact ⟨rfl, hbel⟩
        case round =>
          clear hbel
          obtain ⟨rfl, hbel⟩ := hrel
          go_wp2_with fail
          go_loopw [14, 15] (fun i _ wr => i = .int .i64 0 ∧ Below w.heap.size w wr) (fun _ _ _ => 0)
          case atStart => exact ⟨rfl, hbel⟩
          case round =>
            clear hbel
            obtain ⟨rfl, hbel⟩ := hrel
            go_wp2_with fail
            go_ret
            exact ⟨rfl, hbel⟩
theorem flatNil_Longs (w : World) : Calls Tryz.prog 112 #[.slice none 0 0] w fun e w' => e = .returned (.bool true) ∧ Below w.heap.size w w' := by
  have hmk : ∀ w, (Instr.makeSlice 119 (.int .i64 0) (.int .i64 0)).run Tryz.prog w = .ok (.slice (some ⟨w.heap.size, 0, none⟩) 0 0) (w.alloc (.cells #[] 160)) := fun _ => by kernel_rfl
  go_enter Tryz.func112, Tryz.ntmps112
  go_wp2_with fail
  go_loopw [3, 4] (fun i _ wr => i = .int .i64 0 ∧ Below w.heap.size w wr) (fun _ _ _ => 0)
  case atStart => exact ⟨rfl, Below.refl _ _⟩
  case round =>
    obtain ⟨rfl, hbel⟩ := hrel
    have hb : Below w.heap.size w (wr.alloc (.cells #[] 160)) := hbel.alloc hbel.size _
    go_wp2_with fail
    generalize wr.alloc (.cells #[] 160) = w1 at hb ⊢
    go_loopw [6, 7, 8] (fun i _ _ wr => i = .int .i64 0 ∧ Below w.heap.size w wr) (fun _ _ _ _ => 0)
    case atStart => exact ⟨rfl, hb⟩
    case round =>
      clear hb hbel
      obtain ⟨rfl, hbel⟩ := hrel
      go_wp2_with fail
      go_loopw [9, 10] (fun i _ wr => i = .int .i64 0 ∧ Below w.heap.size w wr) (fun _ _ _ => 0)
      case atStart => exact ⟨rfl, hbel⟩
      case round =>
        clear hbel
        obtain ⟨rfl, hbel⟩ := hrel
        go_wp2_with fail
        go_loopw [11, 12, 13] (fun i _ _ wr => i = .int .i64 0 ∧ Below w.heap.size w wr) (fun _ _ _ _ => 0)
        case atStart => exact ⟨rfl, hbel⟩
        case round =>
          clear hbel
          obtain ⟨rfl, hbel⟩ := hrel
          go_wp2_with fail
          go_loopw [14, 15] (fun i _ wr => i = .int .i64 0 ∧ Below w.heap.size w wr) (fun _ _ _ => 0)
          case atStart => exact ⟨rfl, hbel⟩
          case round =>
            clear hbel
            obtain ⟨rfl, hbel⟩ := hrel
            go_wp2_with fail
            go_ret
            exact ⟨rfl, hbel⟩
theorem flatNil_Texts (w : World) : Calls Tryz.prog 113 #[.slice none 0 0] w fun e w' => e = .returned (.bool true) ∧ Below w.heap.size w w' := by
  have hmk : ∀ w, (Instr.makeSlice 120 (.int .i64 0) (.int .i64 0)).run Tryz.prog w = .ok (.slice (some ⟨w.heap.size, 0, none⟩) 0 0) (w.alloc (.cells #[] 206)) := fun _ => by kernel_rfl
  go_enter Tryz.func113, Tryz.ntmps113
  go_wp2_with fail
  go_loopw [3, 4] (fun i _ wr => i = .int .i64 0 ∧ Below w.heap.size w wr) (fun _ _ _ => 0)
  case atStart => exact ⟨rfl, Below.refl _ _⟩
  case round =>
    obtain ⟨rfl, hbel⟩ := hrel
    have hb : Below w.heap.size w (wr.alloc (.cells #[] 206)) := hbel.alloc hbel.size _
    go_wp2_with fail
    generalize wr.alloc (.cells #[] 206) = w1 at hb ⊢
    go_loopw [6, 7, 8] (fun i _ _ wr => i = .int .i64 0 ∧ Below w.heap.size w wr) (fun _ _ _ _ => 0)
    case atStart => exact ⟨rfl, hb⟩
    case round =>
      clear hb hbel
      obtain ⟨rfl, hbel⟩ := hrel
      go_wp2_with fail
      go_loopw [9, 10] (fun i _ wr => i = .int .i64 0 ∧ Below w.heap.size w wr) (fun _ _ _ => 0)
      case atStart => exact ⟨rfl, hbel⟩
      case round =>
        clear hbel
        obtain ⟨rfl, hbel⟩ := hrel
        go_wp2_with fail
        go_loopw [11, 12, 13] (fun i _ _ wr => i = .int .i64 0 ∧ Below w.heap.size w wr) (fun _ _ _ _ => 0)
        case atStart => exact ⟨rfl, hbel⟩
        case round =>
          clear hbel
          obtain ⟨rfl, hbel⟩ := hrel
          go_wp2_with fail
          go_loopw [14, 15] (fun i _ wr => i = .int .i64 0 ∧ Below w.heap.size w wr) (fun _ _ _ => 0)
          case atStart => exact ⟨rfl, hbel⟩
          case round =>
            clear hbel
            obtain ⟨rfl, hbel⟩ := hrel
            go_wp2_with fail
            go_ret
            exact ⟨rfl, hbel⟩
theorem flatNil_Bytes (w : World) : Calls Tryz.prog 114 #[.slice none 0 0] w fun e w' => e = .returned (.bool true) ∧ Below w.heap.size w w' := by
  have hmk : ∀ w, (Instr.makeSlice 52 (.int .i64 0) (.int .i64 0)).run Tryz.prog w = .ok (.slice (some ⟨w.heap.size, 0, none⟩) 0 0) (w.alloc (.cells #[] 43)) := fun _ => by kernel_rfl
  go_enter Tryz.func114, Tryz.ntmps114
  go_wp2_with fail
  go_loopw [3, 4] (fun i _ wr => i = .int .i64 0 ∧ Below w.heap.size w wr) (fun _ _ _ => 0)
  case atStart => exact ⟨rfl, Below.refl _ _⟩
  case round =>
    obtain ⟨rfl, hbel⟩ := hrel
    have hb : Below w.heap.size w (wr.alloc (.cells #[] 43)) := hbel.alloc hbel.size _
    go_wp2_with fail
    generalize wr.alloc (.cells #[] 43) = w1 at hb ⊢
    go_loopw [6, 7, 8] (fun i _ _ wr => i = .int .i64 0 ∧ Below w.heap.size w wr) (fun _ _ _ _ => 0)
    case atStart => exact ⟨rfl, hb⟩
    case round =>
      clear hb hbel
      obtain ⟨rfl, hbel⟩ := hrel
      go_wp2_with fail
      go_loopw [9, 10] (fun i _ wr => i = .int .i64 0 ∧ Below w.heap.size w wr) (fun _ _ _ => 0)
      case atStart => exact ⟨rfl, hbel⟩
      case round =>
        clear hbel
        obtain ⟨rfl, hbel⟩ := hrel
        go_wp2_with fail
        go_loopw [11, 12, 13] (fun i _ _ wr => i = .int .i64 0 ∧ Below w.heap.size w wr) (fun _ _ _ _ => 0)
        case atStart => exact ⟨rfl, hbel⟩
        case round =>
          clear hbel
          obtain ⟨rfl, hbel⟩ := hrel
          go_wp2_with fail
          go_loopw [14, 15] (fun i _ wr => i = .int .i64 0 ∧ Below w.heap.size w wr) (fun _ _ _ => 0)
          case atStart => exact ⟨rfl, hbel⟩
          case round =>
            clear hbel
            obtain ⟨rfl, hbel⟩ := hrel
            go_wp2_with fail
            go_ret
            exact ⟨rfl, hbel⟩
theorem flatNil_Values (w : World) : Calls Tryz.prog 115 #[.slice none 0 0] w fun e w' => e = .returned (.bool true) ∧ Below w.heap.size w w' := by
  have hmk : ∀ w, (Instr.makeSlice 121 (.int .i64 0) (.int .i64 0)).run Tryz.prog w = .ok (.slice (some ⟨w.heap.size, 0, none⟩) 0 0) (w.alloc (.cells #[] 25)) := fun _ => by kernel_rfl
  go_enter Tryz.func115, Tryz.ntmps115
  go_wp2_with fail
  go_loopw [3, 4] (fun i _ wr => i = .int .i64 0 ∧ Below w.heap.size w wr) (fun _ _ _ => 0)
  case atStart => exact ⟨rfl, Below.refl _ _⟩
  case round =>
    obtain ⟨rfl, hbel⟩ := hrel
    have hb : Below w.heap.size w (wr.alloc (.cells #[] 25)) := hbel.alloc hbel.size _
    go_wp2_with fail
    generalize wr.alloc (.cells #[] 25) = w1 at hb ⊢
    go_loopw [6, 7, 8] (fun i _ _ wr => i = .int .i64 0 ∧ Below w.heap.size w wr) (fun _ _ _ _ => 0)
    case atStart => exact ⟨rfl, hb⟩
    case round =>
      clear hb hbel
      obtain ⟨rfl, hbel⟩ := hrel
      go_wp2_with fail
      go_loopw [9, 10] (fun i _ wr => i = .int .i64 0 ∧ Below w.heap.size w wr) (fun _ _ _ => 0)
      case atStart => exact ⟨rfl, hbel⟩
      case round =>
        clear hbel
        obtain ⟨rfl, hbel⟩ := hrel
        go_wp2_with fail
        go_loopw [11, 12, 13] (fun i _ _ wr => i = .int .i64 0 ∧ Below w.heap.size w wr) (fun _ _ _ _ => 0)
        case atStart => exact ⟨rfl, hbel⟩
        case round =>
          clear hbel
          obtain ⟨rfl, hbel⟩ := hrel
          go_wp2_with fail
          go_loopw [14, 15] (fun i _ wr => i = .int .i64 0 ∧ Below w.heap.size w wr) (fun _ _ _ => 0)
          case atStart => exact ⟨rfl, hbel⟩
          case round =>
            clear hbel
            obtain ⟨rfl, hbel⟩ := hrel
            go_wp2_with fail
            go_ret
            exact ⟨rfl, hbel⟩
theorem flatNil_Facts (w : World) : Calls Tryz.prog 116 #[.slice none 0 0] w fun e w' => e = .returned (.bool true) ∧ Below w.heap.size w w' := by
  have hmk : ∀ w, (Instr.makeSlice 122 (.int .i64 0) (.int .i64 0)).run Tryz.prog w = .ok (.slice (some ⟨w.heap.size, 0, none⟩) 0 0) (w.alloc (.cells #[] 32)) := fun _ => by kernel_rfl
  go_enter Tryz.func116, Tryz.ntmps116
  go_wp2_with fail
  go_loopw [3, 4] (fun i _ wr => i = .int .i64 0 ∧ Below w.heap.size w wr) (fun _ _ _ => 0)
  case atStart => exact ⟨rfl, Below.refl _ _⟩
  case round =>
    obtain ⟨rfl, hbel⟩ := hrel
    have hb : Below w.heap.size w (wr.alloc (.cells #[] 32)) := hbel.alloc hbel.size _
    go_wp2_with fail
    generalize wr.alloc (.cells #[] 32) = w1 at hb ⊢
    go_loopw [6, 7, 8] (fun i _ _ wr => i = .int .i64 0 ∧ Below w.heap.size w wr) (fun _ _ _ _ => 0)
    case atStart => exact ⟨rfl, hb⟩
    case round =>
      clear hb hbel
      obtain ⟨rfl, hbel⟩ := hrel
      go_wp2_with fail
      go_loopw [9, 10] (fun i _ wr => i = .int .i64 0 ∧ Below w.heap.size w wr) (fun _ _ _ => 0)
      case atStart => exact ⟨rfl, hbel⟩
      case round =>
        clear hbel
        obtain ⟨rfl, hbel⟩ := hrel
        go_wp2_with fail
        go_loopw [11, 12, 13] (fun i _ _ wr => i = .int .i64 0 ∧ Below w.heap.size w wr) (fun _ _ _ _ => 0)
        case atStart => exact ⟨rfl, hbel⟩
        case round =>
          clear hbel
          obtain ⟨rfl, hbel⟩ := hrel
          go_wp2_with fail
          go_loopw [14, 15] (fun i _ wr => i = .int .i64 0 ∧ Below w.heap.size w wr) (fun _ _ _ => 0)
          case atStart => exact ⟨rfl, hbel⟩
          case round =>
            clear hbel
            obtain ⟨rfl, hbel⟩ := hrel
            go_wp2_with fail
            go_ret
            exact ⟨rfl, hbel⟩
theorem flatNil_Lexes (w : World) : Calls Tryz.prog 117 #[.slice none 0 0] w fun e w' => e = .returned (.bool true) ∧ Below w.heap.size w w' := by
  have hmk : ∀ w, (Instr.makeSlice 123 (.int .i64 0) (.int .i64 0)).run Tryz.prog w = .ok (.slice (some ⟨w.heap.size, 0, none⟩) 0 0) (w.alloc (.cells #[] 208)) := fun _ => by kernel_rfl
  go_enter Tryz.func117, Tryz.ntmps117
  go_wp2_with fail
  go_loopw [3, 4] (fun i _ wr => i = .int .i64 0 ∧ Below w.heap.size w wr) (fun _ _ _ => 0)
  case atStart => exact ⟨rfl, Below.refl _ _⟩
  case round =>
    obtain ⟨rfl, hbel⟩ := hrel
    have hb : Below w.heap.size w (wr.alloc (.cells #[] 208)) := hbel.alloc hbel.size _
    go_wp2_with fail
    generalize wr.alloc (.cells #[] 208) = w1 at hb ⊢
    go_loopw [6, 7, 8] (fun i _ _ wr => i = .int .i64 0 ∧ Below w.heap.size w wr) (fun _ _ _ _ => 0)
    case atStart => exact ⟨rfl, hb⟩
    case round =>
      clear hb hbel
      obtain ⟨rfl, hbel⟩ := hrel
      go_wp2_with fail
      go_loopw [9, 10] (fun i _ wr => i = .int .i64 0 ∧ Below w.heap.size w wr) (fun _ _ _ => 0)
      case atStart => exact ⟨rfl, hbel⟩
      case round =>
        clear hbel
        obtain ⟨rfl, hbel⟩ := hrel
        go_wp2_with fail
        go_loopw [11, 12, 13] (fun i _ _ wr => i = .int .i64 0 ∧ Below w.heap.size w wr) (fun _ _ _ _ => 0)
        case atStart => exact ⟨rfl, hbel⟩
        case round =>
          clear hbel
          obtain ⟨rfl, hbel⟩ := hrel
          go_wp2_with fail
          go_loopw [14, 15] (fun i _ wr => i = .int .i64 0 ∧ Below w.heap.size w wr) (fun _ _ _ => 0)
          case atStart => exact ⟨rfl, hbel⟩
          case round =>
            clear hbel
            obtain ⟨rfl, hbel⟩ := hrel
            go_wp2_with fail
            go_ret
            exact ⟨rfl, hbel⟩
theorem flatNil_Nodes (w : World) : Calls Tryz.prog 118 #[.slice none 0 0] w fun e w' => e = .returned (.bool true) ∧ Below w.heap.size w w' := by
  have hmk : ∀ w, (Instr.makeSlice 124 (.int .i64 0) (.int .i64 0)).run Tryz.prog w = .ok (.slice (some ⟨w.heap.size, 0, none⟩) 0 0) (w.alloc (.cells #[] 213)) := fun _ => by kernel_rfl
  go_enter Tryz.func118, Tryz.ntmps118
  go_wp2_with fail
  go_loopw [3, 4] (fun i _ wr => i = .int .i64 0 ∧ Below w.heap.size w wr) (fun _ _ _ => 0)
  case atStart => exact ⟨rfl, Below.refl _ _⟩
  case round =>
    obtain ⟨rfl, hbel⟩ := hrel
    have hb : Below w.heap.size w (wr.alloc (.cells #[] 213)) := hbel.alloc hbel.size _
    go_wp2_with fail
    generalize wr.alloc (.cells #[] 213) = w1 at hb ⊢
    go_loopw [6, 7, 8] (fun i _ _ wr => i = .int .i64 0 ∧ Below w.heap.size w wr) (fun _ _ _ _ => 0)
    case atStart => exact ⟨rfl, hb⟩
    case round =>
      clear hb hbel
      obtain ⟨rfl, hbel⟩ := hrel
      go_wp2_with fail
      go_loopw [9, 10] (fun i _ wr => i = .int .i64 0 ∧ Below w.heap.size w wr) (fun _ _ _ => 0)
      case atStart => exact ⟨rfl, hbel⟩
      case round =>
        clear hbel
        obtain ⟨rfl, hbel⟩ := hrel
        go_wp2_with fail
        go_loopw [11, 12, 13] (fun i _ _ wr => i = .int .i64 0 ∧ Below w.heap.size w wr) (fun _ _ _ _ => 0)
        case atStart => exact ⟨rfl, hbel⟩
        case round =>
          clear hbel
          obtain ⟨rfl, hbel⟩ := hrel
          go_wp2_with fail
          go_loopw [14, 15] (fun i _ wr => i = .int .i64 0 ∧ Below w.heap.size w wr) (fun _ _ _ => 0)
          case atStart => exact ⟨rfl, hbel⟩
          case round =>
            clear hbel
            obtain ⟨rfl, hbel⟩ := hrel
            go_wp2_with fail
            go_ret
            exact ⟨rfl, hbel⟩
theorem flatNil_Exprs (w : World) : Calls Tryz.prog 119 #[.slice none 0 0] w fun e w' => e = .returned (.bool true) ∧ Below w.heap.size w w' := by
  have hmk : ∀ w, (Instr.makeSlice 125 (.int .i64 0) (.int .i64 0)).run Tryz.prog w = .ok (.slice (some ⟨w.heap.size, 0, none⟩) 0 0) (w.alloc (.cells #[] 219)) := fun _ => by kernel_rfl
  go_enter Tryz.func119, Tryz.ntmps119
  go_wp2_with fail
  go_loopw [3, 4] (fun i _ wr => i = .int .i64 0 ∧ Below w.heap.size w wr) (fun _ _ _ => 0)
  case atStart => exact ⟨rfl, Below.refl _ _⟩
  case round =>
    obtain ⟨rfl, hbel⟩ := hrel
    have hb : Below w.heap.size w (wr.alloc (.cells #[] 219)) := hbel.alloc hbel.size _
    go_wp2_with fail
    generalize wr.alloc (.cells #[] 219) = w1 at hb ⊢
    go_loopw [6, 7, 8] (fun i _ _ wr => i = .int .i64 0 ∧ Below w.heap.size w wr) (fun _ _ _ _ => 0)
    case atStart => exact ⟨rfl, hb⟩
    case round =>
      clear hb hbel
      obtain ⟨rfl, hbel⟩ := hrel
      go_wp2_with fail
      go_loopw [9, 10] (fun i _ wr => i = .int .i64 0 ∧ Below w.heap.size w wr) (fun _ _ _ => 0)
      case atStart => exact ⟨rfl, hbel⟩
      case round =>
        clear hbel
        obtain ⟨rfl, hbel⟩ := hrel
        go_wp2_with fail
        go_loopw [11, 12, 13] (fun i _ _ wr => i = .int .i64 0 ∧ Below w.heap.size w wr) (fun _ _ _ _ => 0)
        case atStart => exact ⟨rfl, hbel⟩
        case round =>
          clear hbel
          obtain ⟨rfl, hbel⟩ := hrel
          go_wp2_with fail
          go_loopw [14, 15] (fun i _ wr => i = .int .i64 0 ∧ Below w.heap.size w wr) (fun _ _ _ => 0)
          case atStart => exact ⟨rfl, hbel⟩
          case round =>
            clear hbel
            obtain ⟨rfl, hbel⟩ := hrel
            go_wp2_with fail
            go_ret
            exact ⟨rfl, hbel⟩
theorem flatNil_Args (w : World) : Calls Tryz.prog 120 #[.slice none 0 0] w fun e w' => e = .returned (.bool true) ∧ Below w.heap.size w w' := by
  have hmk : ∀ w, (Instr.makeSlice 126 (.int .i64 0) (.int .i64 0)).run Tryz.prog w = .ok (.slice (some ⟨w.heap.size, 0, none⟩) 0 0) (w.alloc (.cells #[] 226)) := fun _ => by kernel_rfl
  go_enter Tryz.func120, Tryz.ntmps120
  go_wp2_with fail
  go_loopw [3, 4] (fun i _ wr => i = .int .i64 0 ∧ Below w.heap.size w wr) (fun _ _ _ => 0)
  case atStart => exact ⟨rfl, Below.refl _ _⟩
  case round =>
    obtain ⟨rfl, hbel⟩ := hrel
    have hb : Below w.heap.size w (wr.alloc (.cells #[] 226)) := hbel.alloc hbel.size _
    go_wp2_with fail
    generalize wr.alloc (.cells #[] 226) = w1 at hb ⊢
    go_loopw [6, 7, 8] (fun i _ _ wr => i = .int .i64 0 ∧ Below w.heap.size w wr) (fun _ _ _ _ => 0)
    case atStart => exact ⟨rfl, hb⟩
    case round =>
      clear hb hbel
      obtain ⟨rfl, hbel⟩ := hrel
      go_wp2_with fail
      go_loopw [9, 10] (fun i _ wr => i = .int .i64 0 ∧ Below w.heap.size w wr) (fun _ _ _ => 0)
      case atStart => exact ⟨rfl, hbel⟩
      case round =>
        clear hbel
        obtain ⟨rfl, hbel⟩ := hrel
        go_wp2_with fail
        go_loopw [11, 12, 13] (fun i _ _ wr => i = .int .i64 0 ∧ Below w.heap.size w wr) (fun _ _ _ _ => 0)
        case atStart => exact ⟨rfl, hbel⟩
        case round =>
          clear hbel
          obtain ⟨rfl, hbel⟩ := hrel
          go_wp2_with fail
          go_loopw [14, 15] (fun i _ wr => i = .int .i64 0 ∧ Below w.heap.size w wr) (fun _ _ _ => 0)
          case atStart => exact ⟨rfl, hbel⟩
          case round =>
            clear hbel
            obtain ⟨rfl, hbel⟩ := hrel
            go_wp2_with fail
            go_ret
            exact ⟨rfl, hbel⟩
theorem flatNil_Conds (w : World) : Calls Tryz.prog 121 #[.slice none 0 0] w fun e w' => e = .returned (.bool true) ∧ Below w.heap.size w w' := by
  have hmk : ∀ w, (Instr.makeSlice 127 (.int .i64 0) (.int .i64 0)).run Tryz.prog w = .ok (.slice (some ⟨w.heap.size, 0, none⟩) 0 0) (w.alloc (.cells #[] 231)) := fun _ => by kernel_rfl
  go_enter Tryz.func121, Tryz.ntmps121
  go_wp2_with fail
  go_loopw [3, 4] (fun i _ wr => i = .int .i64 0 ∧ Below w.heap.size w wr) (fun _ _ _ => 0)
  case atStart => exact ⟨rfl, Below.refl _ _⟩
  case round =>
    obtain ⟨rfl, hbel⟩ := hrel
    have hb : Below w.heap.size w (wr.alloc (.cells #[] 231)) := hbel.alloc hbel.size _
    go_wp2_with fail
    generalize wr.alloc (.cells #[] 231) = w1 at hb ⊢
    go_loopw [6, 7, 8] (fun i _ _ wr => i = .int .i64 0 ∧ Below w.heap.size w wr) (fun _ _ _ _ => 0)
    case atStart => exact ⟨rfl, hb⟩
    case round =>
      clear hb hbel
      obtain ⟨rfl, hbel⟩ := hrel
      go_wp2_with fail
      go_loopw [9, 10] (fun i _ wr => i = .int .i64 0 ∧ Below w.heap.size w wr) (fun _ _ _ => 0)
      case atStart => exact ⟨rfl, hbel⟩
      case round =>
        clear hbel
        obtain ⟨rfl, hbel⟩ := hrel
        go_wp2_with fail
        go_loopw [11, 12, 13] (fun i _ _ wr => i = .int .i64 0 ∧ Below w.heap.size w wr) (fun _ _ _ _ => 0)
        case atStart => exact ⟨rfl, hbel⟩
        case round =>
          clear hbel
          obtain ⟨rfl, hbel⟩ := hrel
          go_wp2_with fail
          go_loopw [14, 15] (fun i _ wr => i = .int .i64 0 ∧ Below w.heap.size w wr) (fun _ _ _ => 0)
          case atStart => exact ⟨rfl, hbel⟩
          case round =>
            clear hbel
            obtain ⟨rfl, hbel⟩ := hrel
            go_wp2_with fail
            go_ret
            exact ⟨rfl, hbel⟩
theorem flatNil_Acts (w : World) : Calls Tryz.prog 122 #[.slice none 0 0] w fun e w' => e = .returned (.bool true) ∧ Below w.heap.size w w' := by
  have hmk : ∀ w, (Instr.makeSlice 128 (.int .i64 0) (.int .i64 0)).run Tryz.prog w = .ok (.slice (some ⟨w.heap.size, 0, none⟩) 0 0) (w.alloc (.cells #[] 237)) := fun _ => by kernel_rfl
  go_enter Tryz.func122, Tryz.ntmps122
  go_wp2_with fail
  go_loopw [3, 4] (fun i _ wr => i = .int .i64 0 ∧ Below w.heap.size w wr) (fun _ _ _ => 0)
  case atStart => exact ⟨rfl, Below.refl _ _⟩
  case round =>
    obtain ⟨rfl, hbel⟩ := hrel
    have hb : Below w.heap.size w (wr.alloc (.cells #[] 237)) := hbel.alloc hbel.size _
    go_wp2_with fail
    generalize wr.alloc (.cells #[] 237) = w1 at hb ⊢
    go_loopw [6, 7, 8] (fun i _ _ wr => i = .int .i64 0 ∧ Below w.heap.size w wr) (fun _ _ _ _ => 0)
    case atStart => exact ⟨rfl, hb⟩
    case round =>
      clear hb hbel
      obtain ⟨rfl, hbel⟩ := hrel
      go_wp2_with fail
      go_loopw [9, 10] (fun i _ wr => i = .int .i64 0 ∧ Below w.heap.size w wr) (fun _ _ _ => 0)
      case atStart => exact ⟨rfl, hbel⟩
      case round =>
        clear hbel
        obtain ⟨rfl, hbel⟩ := hrel
        go_wp2_with fail
        go_loopw [11, 12, 13] (fun i _ _ wr => i = .int .i64 0 ∧ Below w.heap.size w wr) (fun _ _ _ _ => 0)
        case atStart => exact ⟨rfl, hbel⟩
        case round =>
          clear hbel
          obtain ⟨rfl, hbel⟩ := hrel
          go_wp2_with fail
          go_loopw [14, 15] (fun i _ wr => i = .int .i64 0 ∧ Below w.heap.size w wr) (fun _ _ _ => 0)
          case atStart => exact ⟨rfl, hbel⟩
          case round =>
            clear hbel
            obtain ⟨rfl, hbel⟩ := hrel
            go_wp2_with fail
            go_ret
            exact ⟨rfl, hbel⟩
theorem flatNil_Types (w : World) : Calls Tryz.prog 123 #[.slice none 0 0] w fun e w' => e = .returned (.bool true) ∧ Below w.heap.size w w' := by
  have hmk : ∀ w, (Instr.makeSlice 129 (.int .i64 0) (.int .i64 0)).run Tryz.prog w = .ok (.slice (some ⟨w.heap.size, 0, none⟩) 0 0) (w.alloc (.cells #[] 243)) := fun _ => by kernel_rfl
  go_enter Tryz.func123, Tryz.ntmps123
  go_wp2_with fail
  go_loopw [3, 4] (fun i _ wr => i = .int .i64 0 ∧ Below w.heap.size w wr) (fun _ _ _ => 0)
  case atStart => exact ⟨rfl, Below.refl _ _⟩
  case round =>
    obtain ⟨rfl, hbel⟩ := hrel
    have hb : Below w.heap.size w (wr.alloc (.cells #[] 243)) := hbel.alloc hbel.size _
    go_wp2_with fail
    generalize wr.alloc (.cells #[] 243) = w1 at hb ⊢
    go_loopw [6, 7, 8] (fun i _ _ wr => i = .int .i64 0 ∧ Below w.heap.size w wr) (fun _ _ _ _ => 0)
    case atStart => exact ⟨rfl, hb⟩
    case round =>
      clear hb hbel
      obtain ⟨rfl, hbel⟩ := hrel
      go_wp2_with fail
      go_loopw [9, 10] (fun i _ wr => i = .int .i64 0 ∧ Below w.heap.size w wr) (fun _ _ _ => 0)
      case atStart => exact ⟨rfl, hbel⟩
      case round =>
        clear hbel
        obtain ⟨rfl, hbel⟩ := hrel
        go_wp2_with fail
        go_loopw [11, 12, 13] (fun i _ _ wr => i = .int .i64 0 ∧ Below w.heap.size w wr) (fun _ _ _ _ => 0)
        case atStart => exact ⟨rfl, hbel⟩
        case round =>
          clear hbel
          obtain ⟨rfl, hbel⟩ := hrel
          go_wp2_with fail
          go_loopw [14, 15] (fun i _ wr => i = .int .i64 0 ∧ Below w.heap.size w wr) (fun _ _ _ => 0)
          case atStart => exact ⟨rfl, hbel⟩
          case round =>
            clear hbel
            obtain ⟨rfl, hbel⟩ := hrel
            go_wp2_with fail
            go_ret
            exact ⟨rfl, hbel⟩
theorem flatNil_RuleRow (w : World) : Calls Tryz.prog 124 #[.slice none 0 0] w fun e w' => e = .returned (.bool true) ∧ Below w.heap.size w w' := by
  have hmk : ∀ w, (Instr.makeSlice 130 (.int .i64 0) (.int .i64 0)).run Tryz.prog w = .ok (.slice (some ⟨w.heap.size, 0, none⟩) 0 0) (w.alloc (.cells #[] 247)) := fun _ => by kernel_rfl
  go_enter Tryz.func124, Tryz.ntmps124
  go_wp2_with fail
  go_loopw [3, 4] (fun i _ wr => i = .int .i64 0 ∧ Below w.heap.size w wr) (fun _ _ _ => 0)
  case atStart => exact ⟨rfl, Below.refl _ _⟩
  case round =>
    obtain ⟨rfl, hbel⟩ := hrel
    have hb : Below w.heap.size w (wr.alloc (.cells #[] 247)) := hbel.alloc hbel.size _
    go_wp2_with fail
    generalize wr.alloc (.cells #[] 247) = w1 at hb ⊢
    go_loopw [6, 7, 8] (fun i _ _ wr => i = .int .i64 0 ∧ Below w.heap.size w wr) (fun _ _ _ _ => 0)
    case atStart => exact ⟨rfl, hb⟩
    case round =>
      clear hb hbel
      obtain ⟨rfl, hbel⟩ := hrel
      go_wp2_with fail
      go_loopw [9, 10] (fun i _ wr => i = .int .i64 0 ∧ Below w.heap.size w wr) (fun _ _ _ => 0)
      case atStart => exact ⟨rfl, hbel⟩
      case round =>
        clear hbel
        obtain ⟨rfl, hbel⟩ := hrel
        go_wp2_with fail
        go_loopw [11, 12, 13] (fun i _ _ wr => i = .int .i64 0 ∧ Below w.heap.size w wr) (fun _ _ _ _ => 0)
        case atStart => exact ⟨rfl, hbel⟩
        case round =>
          clear hbel
          obtain ⟨rfl, hbel⟩ := hrel
          go_wp2_with fail
          go_loopw [14, 15] (fun i _ wr => i = .int .i64 0 ∧ Below w.heap.size w wr) (fun _ _ _ => 0)
          case atStart => exact ⟨rfl, hbel⟩
          case round =>
            clear hbel
            obtain ⟨rfl, hbel⟩ := hrel
            go_wp2_with fail
            go_ret
            exact ⟨rfl, hbel⟩
theorem flatNil_RulesRow (w : World) : Calls Tryz.prog 125 #[.slice none 0 0] w fun e w' => e = .returned (.bool true) ∧ Below w.heap.size w w' := by
  have hmk : ∀ w, (Instr.makeSlice 131 (.int .i64 0) (.int .i64 0)).run Tryz.prog w = .ok (.slice (some ⟨w.heap.size, 0, none⟩) 0 0) (w.alloc (.cells #[] 252)) := fun _ => by kernel_rfl
  go_enter Tryz.func125, Tryz.ntmps125
  go_wp2_with fail
  go_loopw [3, 4] (fun i _ wr => i = .int .i64 0 ∧ Below w.heap.size w wr) (fun _ _ _ => 0)
  case atStart => exact ⟨rfl, Below.refl _ _⟩
  case round =>
    obtain ⟨rfl, hbel⟩ := hrel
    have hb : Below w.heap.size w (wr.alloc (.cells #[] 252)) := hbel.alloc hbel.size _
    go_wp2_with fail
    generalize wr.alloc (.cells #[] 252) = w1 at hb ⊢
    go_loopw [6, 7, 8] (fun i _ _ wr => i = .int .i64 0 ∧ Below w.heap.size w wr) (fun _ _ _ _ => 0)
    case atStart => exact ⟨rfl, hb⟩
    case round =>
      clear hb hbel
      obtain ⟨rfl, hbel⟩ := hrel
      go_wp2_with fail
      go_loopw [9, 10] (fun i _ wr => i = .int .i64 0 ∧ Below w.heap.size w wr) (fun _ _ _ => 0)
      case atStart => exact ⟨rfl, hbel⟩
      case round =>
        clear hbel
        obtain ⟨rfl, hbel⟩ := hrel
        go_wp2_with fail
        go_loopw [11, 12, 13] (fun i _ _ wr => i = .int .i64 0 ∧ Below w.heap.size w wr) (fun _ _ _ _ => 0)
        case atStart => exact ⟨rfl, hbel⟩
        case round =>
          clear hbel
          obtain ⟨rfl, hbel⟩ := hrel
          go_wp2_with fail
          go_loopw [14, 15] (fun i _ wr => i = .int .i64 0 ∧ Below w.heap.size w wr) (fun _ _ _ => 0)
          case atStart => exact ⟨rfl, hbel⟩
          case round =>
            clear hbel
            obtain ⟨rfl, hbel⟩ := hrel
            go_wp2_with fail
            go_ret
            exact ⟨rfl, hbel⟩
theorem flatNil_Tokens (w : World) : Calls Tryz.prog 126 #[.slice none 0 0] w fun e w' => e = .returned (.bool true) ∧ Below w.heap.size w w' := by
  have hmk : ∀ w, (Instr.makeSlice 132 (.int .i64 0) (.int .i64 0)).run Tryz.prog w = .ok (.slice (some ⟨w.heap.size, 0, none⟩) 0 0) (w.alloc (.cells #[] 257)) := fun _ => by kernel_rfl
  go_enter Tryz.func126, Tryz.ntmps126
  go_wp2_with fail
  go_loopw [3, 4] (fun i _ wr => i = .int .i64 0 ∧ Below w.heap.size w wr) (fun _ _ _ => 0)
  case atStart => exact ⟨rfl, Below.refl _ _⟩
  case round =>
    obtain ⟨rfl, hbel⟩ := hrel
    have hb : Below w.heap.size w (wr.alloc (.cells #[] 257)) := hbel.alloc hbel.size _
    go_wp2_with fail
    generalize wr.alloc (.cells #[] 257) = w1 at hb ⊢
    go_loopw [6, 7, 8] (fun i _ _ wr => i = .int .i64 0 ∧ Below w.heap.size w wr) (fun _ _ _ _ => 0)
    case atStart => exact ⟨rfl, hb⟩
    case round =>
      clear hb hbel
      obtain ⟨rfl, hbel⟩ := hrel
      go_wp2_with fail
      go_loopw [9, 10] (fun i _ wr => i = .int .i64 0 ∧ Below w.heap.size w wr) (fun _ _ _ => 0)
      case atStart => exact ⟨rfl, hbel⟩
      case round =>
        clear hbel
        obtain ⟨rfl, hbel⟩ := hrel
        go_wp2_with fail
        go_loopw [11, 12, 13] (fun i _ _ wr => i = .int .i64 0 ∧ Below w.heap.size w wr) (fun _ _ _ _ => 0)
        case atStart => exact ⟨rfl, hbel⟩
        case round =>
          clear hbel
          obtain ⟨rfl, hbel⟩ := hrel
          go_wp2_with fail
          go_loopw [14, 15] (fun i _ wr => i = .int .i64 0 ∧ Below w.heap.size w wr) (fun _ _ _ => 0)
          case atStart => exact ⟨rfl, hbel⟩
          case round =>
            clear hbel
            obtain ⟨rfl, hbel⟩ := hrel
            go_wp2_with fail
            go_ret
            exact ⟨rfl, hbel⟩
theorem flatNil_Commands (w : World) : Calls Tryz.prog 127 #[.slice none 0 0] w fun e w' => e = .returned (.bool true) ∧ Below w.heap.size w w' := by
  have hmk : ∀ w, (Instr.makeSlice 133 (.int .i64 0) (.int .i64 0)).run Tryz.prog w = .ok (.slice (some ⟨w.heap.size, 0, none⟩) 0 0) (w.alloc (.cells #[] 262)) := fun _ => by kernel_rfl
  go_enter Tryz.func127, Tryz.ntmps127
  go_wp2_with fail
  go_loopw [3, 4] (fun i _ wr => i = .int .i64 0 ∧ Below w.heap.size w wr) (fun _ _ _ => 0)
  case atStart => exact ⟨rfl, Below.refl _ _⟩
  case round =>
    obtain ⟨rfl, hbel⟩ := hrel
    have hb : Below w.heap.size w (wr.alloc (.cells #[] 262)) := hbel.alloc hbel.size _
    go_wp2_with fail
    generalize wr.alloc (.cells #[] 262) = w1 at hb ⊢
    go_loopw [6, 7, 8] (fun i _ _ wr => i = .int .i64 0 ∧ Below w.heap.size w wr) (fun _ _ _ _ => 0)
    case atStart => exact ⟨rfl, hb⟩
    case round =>
      clear hb hbel
      obtain ⟨rfl, hbel⟩ := hrel
      go_wp2_with fail
      go_loopw [9, 10] (fun i _ wr => i = .int .i64 0 ∧ Below w.heap.size w wr) (fun _ _ _ => 0)
      case atStart => exact ⟨rfl, hbel⟩
      case round =>
        clear hbel
        obtain ⟨rfl, hbel⟩ := hrel
        go_wp2_with fail
        go_loopw [11, 12, 13] (fun i _ _ wr => i = .int .i64 0 ∧ Below w.heap.size w wr) (fun _ _ _ _ => 0)
        case atStart => exact ⟨rfl, hbel⟩
        case round =>
          clear hbel
          obtain ⟨rfl, hbel⟩ := hrel
          go_wp2_with fail
          go_loopw [14, 15] (fun i _ wr => i = .int .i64 0 ∧ Below w.heap.size w wr) (fun _ _ _ => 0)
          case atStart => exact ⟨rfl, hbel⟩
          case round =>
            clear hbel
            obtain ⟨rfl, hbel⟩ := hrel
            go_wp2_with fail
            go_ret
            exact ⟨rfl, hbel⟩
theorem flatNil_Replies (w : World) : Calls Tryz.prog 128 #[.slice none 0 0] w fun e w' => e = .returned (.bool true) ∧ Below w.heap.size w w' := by
  have hmk : ∀ w, (Instr.makeSlice 134 (.int .i64 0) (.int .i64 0)).run Tryz.prog w = .ok (.slice (some ⟨w.heap.size, 0, none⟩) 0 0) (w.alloc (.cells #[] 264)) := fun _ => by kernel_rfl
  go_enter Tryz.func128, Tryz.ntmps128
  go_wp2_with fail
  go_loopw [3, 4] (fun i _ wr => i = .int .i64 0 ∧ Below w.heap.size w wr) (fun _ _ _ => 0)
  case atStart => exact ⟨rfl, Below.refl _ _⟩
  case round =>
    obtain ⟨rfl, hbel⟩ := hrel
    have hb : Below w.heap.size w (wr.alloc (.cells #[] 264)) := hbel.alloc hbel.size _
    go_wp2_with fail
    generalize wr.alloc (.cells #[] 264) = w1 at hb ⊢
    go_loopw [6, 7, 8] (fun i _ _ wr => i = .int .i64 0 ∧ Below w.heap.size w wr) (fun _ _ _ _ => 0)
    case atStart => exact ⟨rfl, hb⟩
    case round =>
      clear hb hbel
      obtain ⟨rfl, hbel⟩ := hrel
      go_wp2_with fail
      go_loopw [9, 10] (fun i _ wr => i = .int .i64 0 ∧ Below w.heap.size w wr) (fun _ _ _ => 0)
      case atStart => exact ⟨rfl, hbel⟩
      case round =>
        clear hbel
        obtain ⟨rfl, hbel⟩ := hrel
        go_wp2_with fail
        go_loopw [11, 12, 13] (fun i _ _ wr => i = .int .i64 0 ∧ Below w.heap.size w wr) (fun _ _ _ _ => 0)
        case atStart => exact ⟨rfl, hbel⟩
        case round =>
          clear hbel
          obtain ⟨rfl, hbel⟩ := hrel
          go_wp2_with fail
          go_loopw [14, 15] (fun i _ wr => i = .int .i64 0 ∧ Below w.heap.size w wr) (fun _ _ _ => 0)
          case atStart => exact ⟨rfl, hbel⟩
          case round =>
            clear hbel
            obtain ⟨rfl, hbel⟩ := hrel
            go_wp2_with fail
            go_ret
            exact ⟨rfl, hbel⟩
theorem flatNil_Entries (w : World) : Calls Tryz.prog 129 #[.slice none 0 0] w fun e w' => e = .returned (.bool true) ∧ Below w.heap.size w w' := by
  have hmk : ∀ w, (Instr.makeSlice 135 (.int .i64 0) (.int .i64 0)).run Tryz.prog w = .ok (.slice (some ⟨w.heap.size, 0, none⟩) 0 0) (w.alloc (.cells #[] 266)) := fun _ => by kernel_rfl
  go_enter Tryz.func129, Tryz.ntmps129
  go_wp2_with fail
  go_loopw [3, 4] (fun i _ wr => i = .int .i64 0 ∧ Below w.heap.size w wr) (fun _ _ _ => 0)
  case atStart => exact ⟨rfl, Below.refl _ _⟩
  case round =>
    obtain ⟨rfl, hbel⟩ := hrel
    have hb : Below w.heap.size w (wr.alloc (.cells #[] 266)) := hbel.alloc hbel.size _
    go_wp2_with fail
    generalize wr.alloc (.cells #[] 266) = w1 at hb ⊢
    go_loopw [6, 7, 8] (fun i _ _ wr => i = .int .i64 0 ∧ Below w.heap.size w wr) (fun _ _ _ _ => 0)
    case atStart => exact ⟨rfl, hb⟩
    case round =>
      clear hb hbel
      obtain ⟨rfl, hbel⟩ := hrel
      go_wp2_with fail
      go_loopw [9, 10] (fun i _ wr => i = .int .i64 0 ∧ Below w.heap.size w wr) (fun _ _ _ => 0)
      case atStart => exact ⟨rfl, hbel⟩
      case round =>
        clear hbel
        obtain ⟨rfl, hbel⟩ := hrel
        go_wp2_with fail
        go_loopw [11, 12, 13] (fun i _ _ wr => i = .int .i64 0 ∧ Below w.heap.size w wr) (fun _ _ _ _ => 0)
        case atStart => exact ⟨rfl, hbel⟩
        case round =>
          clear hbel
          obtain ⟨rfl, hbel⟩ := hrel
          go_wp2_with fail
          go_loopw [14, 15] (fun i _ wr => i = .int .i64 0 ∧ Below w.heap.size w wr) (fun _ _ _ => 0)
          case atStart => exact ⟨rfl, hbel⟩
          case round =>
            clear hbel
            obtain ⟨rfl, hbel⟩ := hrel
            go_wp2_with fail
            go_ret
            exact ⟨rfl, hbel⟩
theorem flatNil_Letters (w : World) : Calls Tryz.prog 130 #[.slice none 0 0] w fun e w' => e = .returned (.bool true) ∧ Below w.heap.size w w' := by
  have hmk : ∀ w, (Instr.makeSlice 136 (.int .i64 0) (.int .i64 0)).run Tryz.prog w = .ok (.slice (some ⟨w.heap.size, 0, none⟩) 0 0) (w.alloc (.cells #[] 268)) := fun _ => by kernel_rfl
  go_enter Tryz.func130, Tryz.ntmps130
  go_wp2_with fail
  go_loopw [3, 4] (fun i _ wr => i = .int .i64 0 ∧ Below w.heap.size w wr) (fun _ _ _ => 0)
  case atStart => exact ⟨rfl, Below.refl _ _⟩
  case round =>
    obtain ⟨rfl, hbel⟩ := hrel
    have hb : Below w.heap.size w (wr.alloc (.cells #[] 268)) := hbel.alloc hbel.size _
    go_wp2_with fail
    generalize wr.alloc (.cells #[] 268) = w1 at hb ⊢
    go_loopw [6, 7, 8] (fun i _ _ wr => i = .int .i64 0 ∧ Below w.heap.size w wr) (fun _ _ _ _ => 0)
    case atStart => exact ⟨rfl, hb⟩
    case round =>
      clear hb hbel
      obtain ⟨rfl, hbel⟩ := hrel
      go_wp2_with fail
      go_loopw [9, 10] (fun i _ wr => i = .int .i64 0 ∧ Below w.heap.size w wr) (fun _ _ _ => 0)
      case atStart => exact ⟨rfl, hbel⟩
      case round =>
        clear hbel
        obtain ⟨rfl, hbel⟩ := hrel
        go_wp2_with fail
        go_loopw [11, 12, 13] (fun i _ _ wr => i = .int .i64 0 ∧ Below w.heap.size w wr) (fun _ _ _ _ => 0)
        case atStart => exact ⟨rfl, hbel⟩
        case round =>
          clear hbel
          obtain ⟨rfl, hbel⟩ := hrel
          go_wp2_with fail
          go_loopw [14, 15] (fun i _ wr => i = .int .i64 0 ∧ Below w.heap.size w wr) (fun _ _ _ => 0)
          case atStart => exact ⟨rfl, hbel⟩
          case round =>
            clear hbel
            obtain ⟨rfl, hbel⟩ := hrel
            go_wp2_with fail
            go_ret
            exact ⟨rfl, hbel⟩
theorem flatNil_Snaps (w : World) : Calls Tryz.prog 131 #[.slice none 0 0] w fun e w' => e = .returned (.bool true) ∧ Below w.heap.size w w' := by
  have hmk : ∀ w, (Instr.makeSlice 137 (.int .i64 0) (.int .i64 0)).run Tryz.prog w = .ok (.slice (some ⟨w.heap.size, 0, none⟩) 0 0) (w.alloc (.cells #[] 274)) := fun _ => by kernel_rfl
  go_enter Tryz.func131, Tryz.ntmps131
  go_wp2_with fail
  go_loopw [3, 4] (fun i _ wr => i = .int .i64 0 ∧ Below w.heap.size w wr) (fun _ _ _ => 0)
  case atStart => exact ⟨rfl, Below.refl _ _⟩
  case round =>
    obtain ⟨rfl, hbel⟩ := hrel
    have hb : Below w.heap.size w (wr.alloc (.cells #[] 274)) := hbel.alloc hbel.size _
    go_wp2_with fail
    generalize wr.alloc (.cells #[] 274) = w1 at hb ⊢
    go_loopw [6, 7, 8] (fun i _ _ wr => i = .int .i64 0 ∧ Below w.heap.size w wr) (fun _ _ _ _ => 0)
    case atStart => exact ⟨rfl, hb⟩
    case round =>
      clear hb hbel
      obtain ⟨rfl, hbel⟩ := hrel
      go_wp2_with fail
      go_loopw [9, 10] (fun i _ wr => i = .int .i64 0 ∧ Below w.heap.size w wr) (fun _ _ _ => 0)
      case atStart => exact ⟨rfl, hbel⟩
      case round =>
        clear hbel
        obtain ⟨rfl, hbel⟩ := hrel
        go_wp2_with fail
        go_loopw [11, 12, 13] (fun i _ _ wr => i = .int .i64 0 ∧ Below w.heap.size w wr) (fun _ _ _ _ => 0)
        case atStart => exact ⟨rfl, hbel⟩
        case round =>
          clear hbel
          obtain ⟨rfl, hbel⟩ := hrel
          go_wp2_with fail
          go_loopw [14, 15] (fun i _ wr => i = .int .i64 0 ∧ Below w.heap.size w wr) (fun _ _ _ => 0)
          case atStart => exact ⟨rfl, hbel⟩
          case round =>
            clear hbel
            obtain ⟨rfl, hbel⟩ := hrel
            go_wp2_with fail
            go_ret
            exact ⟨rfl, hbel⟩
theorem flatNil_Steps (w : World) : Calls Tryz.prog 132 #[.slice none 0 0] w fun e w' => e = .returned (.bool true) ∧ Below w.heap.size w w' := by
  have hmk : ∀ w, (Instr.makeSlice 138 (.int .i64 0) (.int .i64 0)).run Tryz.prog w = .ok (.slice (some ⟨w.heap.size, 0, none⟩) 0 0) (w.alloc (.cells #[] 279)) := fun _ => by kernel_rfl
  go_enter Tryz.func132, Tryz.ntmps132
  go_wp2_with fail
  go_loopw [3, 4] (fun i _ wr => i = .int .i64 0 ∧ Below w.heap.size w wr) (fun _ _ _ => 0)
  case atStart => exact ⟨rfl, Below.refl _ _⟩
  case round =>
    obtain ⟨rfl, hbel⟩ := hrel
    have hb : Below w.heap.size w (wr.alloc (.cells #[] 279)) := hbel.alloc hbel.size _
    go_wp2_with fail
    generalize wr.alloc (.cells #[] 279) = w1 at hb ⊢
    go_loopw [6, 7, 8] (fun i _ _ wr => i = .int .i64 0 ∧ Below w.heap.size w wr) (fun _ _ _ _ => 0)
    case atStart => exact ⟨rfl, hb⟩
    case round =>
      clear hb hbel
      obtain ⟨rfl, hbel⟩ := hrel
      go_wp2_with fail
      go_loopw [9, 10] (fun i _ wr => i = .int .i64 0 ∧ Below w.heap.size w wr) (fun _ _ _ => 0)
      case atStart => exact ⟨rfl, hbel⟩
      case round =>
        clear hbel
        obtain ⟨rfl, hbel⟩ := hrel
        go_wp2_with fail
        go_loopw [11, 12, 13] (fun i _ _ wr => i = .int .i64 0 ∧ Below w.heap.size w wr) (fun _ _ _ _ => 0)
        case atStart => exact ⟨rfl, hbel⟩
        case round =>
          clear hbel
          obtain ⟨rfl, hbel⟩ := hrel
          go_wp2_with fail
          go_loopw [14, 15] (fun i _ wr => i = .int .i64 0 ∧ Below w.heap.size w wr) (fun _ _ _ => 0)
          case atStart => exact ⟨rfl, hbel⟩
          case round =>
            clear hbel
            obtain ⟨rfl, hbel⟩ := hrel
            go_wp2_with fail
            go_ret
            exact ⟨rfl, hbel⟩
theorem flatNil_Tales (w : World) : Calls Tryz.prog 133 #[.slice none 0 0] w fun e w' => e = .returned (.bool true) ∧ Below w.heap.size w w' := by
  have hmk : ∀ w, (Instr.makeSlice 139 (.int .i64 0) (.int .i64 0)).run Tryz.prog w = .ok (.slice (some ⟨w.heap.size, 0, none⟩) 0 0) (w.alloc (.cells #[] 285)) := fun _ => by kernel_rfl
  go_enter Tryz.func133, Tryz.ntmps133
  go_wp2_with fail
  go_loopw [3, 4] (fun i _ wr => i = .int .i64 0 ∧ Below w.heap.size w wr) (fun _ _ _ => 0)
  case atStart => exact ⟨rfl, Below.refl _ _⟩
  case round =>
    obtain ⟨rfl, hbel⟩ := hrel
    have hb : Below w.heap.size w (wr.alloc (.cells #[] 285)) := hbel.alloc hbel.size _
    go_wp2_with fail
    generalize wr.alloc (.cells #[] 285) = w1 at hb ⊢
    go_loopw [6, 7, 8] (fun i _ _ wr => i = .int .i64 0 ∧ Below w.heap.size w wr) (fun _ _ _ _ => 0)
    case atStart => exact ⟨rfl, hb⟩
    case round =>
      clear hb hbel
      obtain ⟨rfl, hbel⟩ := hrel
      go_wp2_with fail
      go_loopw [9, 10] (fun i _ wr => i = .int .i64 0 ∧ Below w.heap.size w wr) (fun _ _ _ => 0)
      case atStart => exact ⟨rfl, hbel⟩
      case round =>
        clear hbel
        obtain ⟨rfl, hbel⟩ := hrel
        go_wp2_with fail
        go_loopw [11, 12, 13] (fun i _ _ wr => i = .int .i64 0 ∧ Below w.heap.size w wr) (fun _ _ _ _ => 0)
        case atStart => exact ⟨rfl, hbel⟩
        case round =>
          clear hbel
          obtain ⟨rfl, hbel⟩ := hrel
          go_wp2_with fail
          go_loopw [14, 15] (fun i _ wr => i = .int .i64 0 ∧ Below w.heap.size w wr) (fun _ _ _ => 0)
          case atStart => exact ⟨rfl, hbel⟩
          case round =>
            clear hbel
            obtain ⟨rfl, hbel⟩ := hrel
            go_wp2_with fail
            go_ret
            exact ⟨rfl, hbel⟩
theorem flatNil_States (w : World) : Calls Tryz.prog 134 #[.slice none 0 0] w fun e w' => e = .returned (.bool true) ∧ Below w.heap.size w w' := by
  have hmk : ∀ w, (Instr.makeSlice 140 (.int .i64 0) (.int .i64 0)).run Tryz.prog w = .ok (.slice (some ⟨w.heap.size, 0, none⟩) 0 0) (w.alloc (.cells #[] 291)) := fun _ => by kernel_rfl
  go_enter Tryz.func134, Tryz.ntmps134
  go_wp2_with fail
  go_loopw [3, 4] (fun i _ wr => i = .int .i64 0 ∧ Below w.heap.size w wr) (fun _ _ _ => 0)
  case atStart => exact ⟨rfl, Below.refl _ _⟩
  case round =>
    obtain ⟨rfl, hbel⟩ := hrel
    have hb : Below w.heap.size w (wr.alloc (.cells #[] 291)) := hbel.alloc hbel.size _
    go_wp2_with fail
    generalize wr.alloc (.cells #[] 291) = w1 at hb ⊢
    go_loopw [6, 7, 8] (fun i _ _ wr => i = .int .i64 0 ∧ Below w.heap.size w wr) (fun _ _ _ _ => 0)
    case atStart => exact ⟨rfl, hb⟩
    case round =>
      clear hb hbel
      obtain ⟨rfl, hbel⟩ := hrel
      go_wp2_with fail
      go_loopw [9, 10] (fun i _ wr => i = .int .i64 0 ∧ Below w.heap.size w wr) (fun _ _ _ => 0)
      case atStart => exact ⟨rfl, hbel⟩
      case round =>
        clear hbel
        obtain ⟨rfl, hbel⟩ := hrel
        go_wp2_with fail
        go_loopw [11, 12, 13] (fun i _ _ wr => i = .int .i64 0 ∧ Below w.heap.size w wr) (fun _ _ _ _ => 0)
        case atStart => exact ⟨rfl, hbel⟩
        case round =>
          clear hbel
          obtain ⟨rfl, hbel⟩ := hrel
          go_wp2_with fail
          go_loopw [14, 15] (fun i _ wr => i = .int .i64 0 ∧ Below w.heap.size w wr) (fun _ _ _ => 0)
          case atStart => exact ⟨rfl, hbel⟩
          case round =>
            clear hbel
            obtain ⟨rfl, hbel⟩ := hrel
            go_wp2_with fail
            go_ret
            exact ⟨rfl, hbel⟩
theorem flatNil_Sessions (w : World) : Calls Tryz.prog 135 #[.slice none 0 0] w fun e w' => e = .returned (.bool true) ∧ Below w.heap.size w w' := by
  have hmk : ∀ w, (Instr.makeSlice 141 (.int .i64 0) (.int .i64 0)).run Tryz.prog w = .ok (.slice (some ⟨w.heap.size, 0, none⟩) 0 0) (w.alloc (.cells #[] 296)) := fun _ => by kernel_rfl
  go_enter Tryz.func135, Tryz.ntmps135
  go_wp2_with fail
  go_loopw [3, 4] (fun i _ wr => i = .int .i64 0 ∧ Below w.heap.size w wr) (fun _ _ _ => 0)
  case atStart => exact ⟨rfl, Below.refl _ _⟩
  case round =>
    obtain ⟨rfl, hbel⟩ := hrel
    have hb : Below w.heap.size w (wr.alloc (.cells #[] 296)) := hbel.alloc hbel.size _
    go_wp2_with fail
    generalize wr.alloc (.cells #[] 296) = w1 at hb ⊢
    go_loopw [6, 7, 8] (fun i _ _ wr => i = .int .i64 0 ∧ Below w.heap.size w wr) (fun _ _ _ _ => 0)
    case atStart => exact ⟨rfl, hb⟩
    case round =>
      clear hb hbel
      obtain ⟨rfl, hbel⟩ := hrel
      go_wp2_with fail
      go_loopw [9, 10] (fun i _ wr => i = .int .i64 0 ∧ Below w.heap.size w wr) (fun _ _ _ => 0)
      case atStart => exact ⟨rfl, hbel⟩
      case round =>
        clear hbel
        obtain ⟨rfl, hbel⟩ := hrel
        go_wp2_with fail
        go_loopw [11, 12, 13] (fun i _ _ wr => i = .int .i64 0 ∧ Below w.heap.size w wr) (fun _ _ _ _ => 0)
        case atStart => exact ⟨rfl, hbel⟩
        case round =>
          clear hbel
          obtain ⟨rfl, hbel⟩ := hrel
          go_wp2_with fail
          go_loopw [14, 15] (fun i _ wr => i = .int .i64 0 ∧ Below w.heap.size w wr) (fun _ _ _ => 0)
          case atStart => exact ⟨rfl, hbel⟩
          case round =>
            clear hbel
            obtain ⟨rfl, hbel⟩ := hrel
            go_wp2_with fail
            go_ret
            exact ⟨rfl, hbel⟩
theorem flatNil_Machines (w : World) : Calls Tryz.prog 136 #[.slice none 0 0] w fun e w' => e = .returned (.bool true) ∧ Below w.heap.size w w' := by
  have hmk : ∀ w, (Instr.makeSlice 142 (.int .i64 0) (.int .i64 0)).run Tryz.prog w = .ok (.slice (some ⟨w.heap.size, 0, none⟩) 0 0) (w.alloc (.cells #[] 301)) := fun _ => by kernel_rfl
  go_enter Tryz.func136, Tryz.ntmps136
  go_wp2_with fail
  go_loopw [3, 4] (fun i _ wr => i = .int .i64 0 ∧ Below w.heap.size w wr) (fun _ _ _ => 0)
  case atStart => exact ⟨rfl, Below.refl _ _⟩
  case round =>
    obtain ⟨rfl, hbel⟩ := hrel
    have hb : Below w.heap.size w (wr.alloc (.cells #[] 301)) := hbel.alloc hbel.size _
    go_wp2_with fail
    generalize wr.alloc (.cells #[] 301) = w1 at hb ⊢
    go_loopw [6, 7, 8] (fun i _ _ wr => i = .int .i64 0 ∧ Below w.heap.size w wr) (fun _ _ _ _ => 0)
    case atStart => exact ⟨rfl, hb⟩
    case round =>
      clear hb hbel
      obtain ⟨rfl, hbel⟩ := hrel
      go_wp2_with fail
      go_loopw [9, 10] (fun i _ wr => i = .int .i64 0 ∧ Below w.heap.size w wr) (fun _ _ _ => 0)
      case atStart => exact ⟨rfl, hbel⟩
      case round =>
        clear hbel
        obtain ⟨rfl, hbel⟩ := hrel
        go_wp2_with fail
        go_loopw [11, 12, 13] (fun i _ _ wr => i = .int .i64 0 ∧ Below w.heap.size w wr) (fun _ _ _ _ => 0)
        case atStart => exact ⟨rfl, hbel⟩
        case round =>
          clear hbel
          obtain ⟨rfl, hbel⟩ := hrel
          go_wp2_with fail
          go_loopw [14, 15] (fun i _ wr => i = .int .i64 0 ∧ Below w.heap.size w wr) (fun _ _ _ => 0)
          case atStart => exact ⟨rfl, hbel⟩
          case round =>
            clear hbel
            obtain ⟨rfl, hbel⟩ := hrel
            go_wp2_with fail
            go_ret
            exact ⟨rfl, hbel⟩
theorem flatNil_Frames (w : World) : Calls Tryz.prog 137 #[.slice none 0 0] w fun e w' => e = .returned (.bool true) ∧ Below w.heap.size w w' := by
  have hmk : ∀ w, (Instr.makeSlice 143 (.int .i64 0) (.int .i64 0)).run Tryz.prog w = .ok (.slice (some ⟨w.heap.size, 0, none⟩) 0 0) (w.alloc (.cells #[] 306)) := fun _ => by kernel_rfl
  go_enter Tryz.func137, Tryz.ntmps137
  go_wp2_with fail
  go_loopw [3, 4] (fun i _ wr => i = .int .i64 0 ∧ Below w.heap.size w wr) (fun _ _ _ => 0)
  case atStart => exact ⟨rfl, Below.refl _ _⟩
  case round =>
    obtain ⟨rfl, hbel⟩ := hrel
    have hb : Below w.heap.size w (wr.alloc (.cells #[] 306)) := hbel.alloc hbel.size _
    go_wp2_with fail
    generalize wr.alloc (.cells #[] 306) = w1 at hb ⊢
    go_loopw [6, 7, 8] (fun i _ _ wr => i = .int .i64 0 ∧ Below w.heap.size w wr) (fun _ _ _ _ => 0)
    case atStart => exact ⟨rfl, hb⟩
    case round =>
      clear hb hbel
      obtain ⟨rfl, hbel⟩ := hrel
      go_wp2_with fail
      go_loopw [9, 10] (fun i _ wr => i = .int .i64 0 ∧ Below w.heap.size w wr) (fun _ _ _ => 0)
      case atStart => exact ⟨rfl, hbel⟩
      case round =>
        clear hbel
        obtain ⟨rfl, hbel⟩ := hrel
        go_wp2_with fail
        go_loopw [11, 12, 13] (fun i _ _ wr => i = .int .i64 0 ∧ Below w.heap.size w wr) (fun _ _ _ _ => 0)
        case atStart => exact ⟨rfl, hbel⟩
        case round =>
          clear hbel
          obtain ⟨rfl, hbel⟩ := hrel
          go_wp2_with fail
          go_loopw [14, 15] (fun i _ wr => i = .int .i64 0 ∧ Below w.heap.size w wr) (fun _ _ _ => 0)
          case atStart => exact ⟨rfl, hbel⟩
          case round =>
            clear hbel
            obtain ⟨rfl, hbel⟩ := hrel
            go_wp2_with fail
            go_ret
            exact ⟨rfl, hbel⟩
end Go.Proofs.YtiggpcmikhojmaaGreatDoor
