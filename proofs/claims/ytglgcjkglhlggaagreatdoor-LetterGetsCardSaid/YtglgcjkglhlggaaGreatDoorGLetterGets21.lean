/- Parts that are lent, one by one, and the bytes that are wanted of them: what is kept from one to the next. No program. Conditions: as each says. -/
import Derived.Test.YtglgcjkglhlggaaGreatDoorGLetterGets0
import Derived.Test.YtglgcjkglhlggaaGreatDoorGLetterGets15
import Derived.Test.YtglgcjkglhlggaaGreatDoorGLetterGets2
import Derived.Test.YtglgcjkglhlggaaGreatDoorGLetterGets4
import Derived.Test.YtglgcjkglhlggaaGreatDoorGLetterGets14
set_option linter.unusedVariables false
set_option linter.unusedSimpArgs false
namespace Go.Proofs.YtglgcjkglhlggaaGreatDoor
open Go.RowKit
set_option maxRecDepth 20000
end Go.Proofs.YtglgcjkglhlggaaGreatDoor
/- The example of the laws of layer 2: it is as it must be, and nothing that was there is changed. No condition. -/
namespace Go.Proofs.YtglgcjkglhlggaaGreatDoor
open Go.RowKit
set_option maxRecDepth 20000
end Go.Proofs.YtglgcjkglhlggaaGreatDoor
/- The law WireJoins, walked: it returns true, and nothing that was there is changed. Conditions: the argument is read as the row reads it. -/
namespace Go.Proofs.YtglgcjkglhlggaaGreatDoor
open Go.RowKit
set_option maxRecDepth 20000
theorem lentB_at (ao:Option Addr)(n cap:Nat)(xs:List Int)(w:World)(B:Nat)(hn:xs.length=n)(hx:BytesIn w B ao xs)(hB:B≤w.heap.size)(hao:ao=none→cap=0)(hl:n≤1099511627776) :
  Calls Tryz.prog 17 #[.slice ao n cap] w fun e w'=>∃ g,e=.returned (.slice (some ⟨g,0,none⟩) n (n+12))∧w.heap.size≤g∧g<w'.heap.size∧LentB w' w.heap.size g xs∧Below w.heap.size w w':=by
 subst hn
 exact lentB_any ao cap xs w (hx.mono hB) hao hl
theorem keptB_at (ao:Option Addr)(n cap c2 g B:Nat)(xs:List Int)(w:World)(hn:xs.length=n)(hc:c2=n+12)(hx:BytesIn w w.heap.size ao xs)(hL:LentB w B g xs)(hl:n≤1099511627776) :
  Calls Tryz.prog 19 #[.slice (some ⟨g,0,none⟩) n c2,.slice ao n cap] w fun e w'=>e=.returned (.bool true)∧Below w.heap.size w w':=by
 subst hn hc
 exact keptB_any ao cap g B xs w hx hL hl
theorem overB_at (B g n c2:Nat)(xs:List Int)(w:World)(hn:xs.length=n)(hc:c2=n+12)(h:LentB w B g xs)(hl:n≤1099511627776) :
  Calls Tryz.prog 20 #[.slice (some ⟨g,0,none⟩) n c2] w fun e w'=>e=.returned (.tuple #[])∧w.grownBy w' (some g):=by
 subst hn hc
 exact (overB_any B g xs.length _ w h hl).mono fun e w' h=>⟨h.1,h.2.1⟩
end Go.Proofs.YtglgcjkglhlggaaGreatDoor
/- No rows at all lie apart: each kind's own look at a nil list. No condition. -/
namespace Go.Proofs.YtglgcjkglhlggaaGreatDoor
open Go.RowKit
set_option maxRecDepth 20000
theorem flatNil_Limbs (w:World):Calls Tryz.prog 79 #[.slice none 0 0] w fun e w'=>e=.returned (.bool true)∧Below w.heap.size w w':=by
 have hmk:∀ w,(Instr.makeSlice 78 (.int .i64 0) (.int .i64 0)).run Tryz.prog w=.ok (.slice (some ⟨w.heap.size,0,none⟩) 0 0) (w.alloc (.cells #[] 194)):=fun _=>by kernel_rfl
 go_enter Tryz.func79,Tryz.ntmps79
 go_wp2_with fail
 go_loopw [3,4] (fun i _ wr=>i=.int .i64 0∧Below w.heap.size w wr) (fun _ _ _=>0)
 case atStart=>exact ⟨rfl,Below.refl _ _⟩
 case round =>
  obtain ⟨rfl,hbel⟩:=hrel
  have hb:Below w.heap.size w (wr.alloc (.cells #[] 194)):=hbel.alloc hbel.size _
  go_wp2_with fail
  generalize wr.alloc (.cells #[] 194)=w1 at hb ⊢
  go_loopw [6,7,8] (fun i _ _ wr=>i=.int .i64 0∧Below w.heap.size w wr) (fun _ _ _ _=>0)
  case atStart=>exact ⟨rfl,hb⟩
  case round =>
   clear hb hbel
   obtain ⟨rfl,hbel⟩:=hrel
   go_wp2_with fail
   go_loopw [9,10] (fun i _ wr=>i=.int .i64 0∧Below w.heap.size w wr) (fun _ _ _=>0)
   case atStart=>exact ⟨rfl,hbel⟩
   case round =>
    clear hbel
    obtain ⟨rfl,hbel⟩:=hrel
    go_wp2_with fail
    go_loopw [11,12,13] (fun i _ _ wr=>i=.int .i64 0∧Below w.heap.size w wr) (fun _ _ _ _=>0)
    case atStart=>exact ⟨rfl,hbel⟩
    case round =>
     clear hbel
     obtain ⟨rfl,hbel⟩:=hrel
     go_wp2_with fail
     go_loopw [14,15] (fun i _ wr=>i=.int .i64 0∧Below w.heap.size w wr) (fun _ _ _=>0)
     case atStart=>exact ⟨rfl,hbel⟩
     case round =>
      clear hbel
      obtain ⟨rfl,hbel⟩:=hrel
      go_wp2_with fail
      go_ret
      exact ⟨rfl,hbel⟩
theorem flatNil_Words (w:World):Calls Tryz.prog 80 #[.slice none 0 0] w fun e w'=>e=.returned (.bool true)∧Below w.heap.size w w':=by
 have hmk:∀ w,(Instr.makeSlice 79 (.int .i64 0) (.int .i64 0)).run Tryz.prog w=.ok (.slice (some ⟨w.heap.size,0,none⟩) 0 0) (w.alloc (.cells #[] 196)):=fun _=>by kernel_rfl
 go_enter Tryz.func80,Tryz.ntmps80
 go_wp2_with fail
 go_loopw [3,4] (fun i _ wr=>i=.int .i64 0∧Below w.heap.size w wr) (fun _ _ _=>0)
 case atStart=>exact ⟨rfl,Below.refl _ _⟩
 case round =>
  obtain ⟨rfl,hbel⟩:=hrel
  have hb:Below w.heap.size w (wr.alloc (.cells #[] 196)):=hbel.alloc hbel.size _
  go_wp2_with fail
  generalize wr.alloc (.cells #[] 196)=w1 at hb ⊢
  go_loopw [6,7,8] (fun i _ _ wr=>i=.int .i64 0∧Below w.heap.size w wr) (fun _ _ _ _=>0)
  case atStart=>exact ⟨rfl,hb⟩
  case round =>
   clear hb hbel
   obtain ⟨rfl,hbel⟩:=hrel
   go_wp2_with fail
   go_loopw [9,10] (fun i _ wr=>i=.int .i64 0∧Below w.heap.size w wr) (fun _ _ _=>0)
   case atStart=>exact ⟨rfl,hbel⟩
   case round =>
    clear hbel
    obtain ⟨rfl,hbel⟩:=hrel
    go_wp2_with fail
    go_loopw [11,12,13] (fun i _ _ wr=>i=.int .i64 0∧Below w.heap.size w wr) (fun _ _ _ _=>0)
    case atStart=>exact ⟨rfl,hbel⟩
    case round =>
     clear hbel
     obtain ⟨rfl,hbel⟩:=hrel
     go_wp2_with fail
     go_loopw [14,15] (fun i _ wr=>i=.int .i64 0∧Below w.heap.size w wr) (fun _ _ _=>0)
     case atStart=>exact ⟨rfl,hbel⟩
     case round =>
      clear hbel
      obtain ⟨rfl,hbel⟩:=hrel
      go_wp2_with fail
      go_ret
      exact ⟨rfl,hbel⟩
theorem flatNil_Longs (w:World):Calls Tryz.prog 82 #[.slice none 0 0] w fun e w'=>e=.returned (.bool true)∧Below w.heap.size w w':=by
 have hmk:∀ w,(Instr.makeSlice 81 (.int .i64 0) (.int .i64 0)).run Tryz.prog w=.ok (.slice (some ⟨w.heap.size,0,none⟩) 0 0) (w.alloc (.cells #[] 187)):=fun _=>by kernel_rfl
 go_enter Tryz.func82,Tryz.ntmps82
 go_wp2_with fail
 go_loopw [3,4] (fun i _ wr=>i=.int .i64 0∧Below w.heap.size w wr) (fun _ _ _=>0)
 case atStart=>exact ⟨rfl,Below.refl _ _⟩
 case round =>
  obtain ⟨rfl,hbel⟩:=hrel
  have hb:Below w.heap.size w (wr.alloc (.cells #[] 187)):=hbel.alloc hbel.size _
  go_wp2_with fail
  generalize wr.alloc (.cells #[] 187)=w1 at hb ⊢
  go_loopw [6,7,8] (fun i _ _ wr=>i=.int .i64 0∧Below w.heap.size w wr) (fun _ _ _ _=>0)
  case atStart=>exact ⟨rfl,hb⟩
  case round =>
   clear hb hbel
   obtain ⟨rfl,hbel⟩:=hrel
   go_wp2_with fail
   go_loopw [9,10] (fun i _ wr=>i=.int .i64 0∧Below w.heap.size w wr) (fun _ _ _=>0)
   case atStart=>exact ⟨rfl,hbel⟩
   case round =>
    clear hbel
    obtain ⟨rfl,hbel⟩:=hrel
    go_wp2_with fail
    go_loopw [11,12,13] (fun i _ _ wr=>i=.int .i64 0∧Below w.heap.size w wr) (fun _ _ _ _=>0)
    case atStart=>exact ⟨rfl,hbel⟩
    case round =>
     clear hbel
     obtain ⟨rfl,hbel⟩:=hrel
     go_wp2_with fail
     go_loopw [14,15] (fun i _ wr=>i=.int .i64 0∧Below w.heap.size w wr) (fun _ _ _=>0)
     case atStart=>exact ⟨rfl,hbel⟩
     case round =>
      clear hbel
      obtain ⟨rfl,hbel⟩:=hrel
      go_wp2_with fail
      go_ret
      exact ⟨rfl,hbel⟩
theorem flatNil_Texts (w:World):Calls Tryz.prog 83 #[.slice none 0 0] w fun e w'=>e=.returned (.bool true)∧Below w.heap.size w w':=by
 have hmk:∀ w,(Instr.makeSlice 82 (.int .i64 0) (.int .i64 0)).run Tryz.prog w=.ok (.slice (some ⟨w.heap.size,0,none⟩) 0 0) (w.alloc (.cells #[] 197)):=fun _=>by kernel_rfl
 go_enter Tryz.func83,Tryz.ntmps83
 go_wp2_with fail
 go_loopw [3,4] (fun i _ wr=>i=.int .i64 0∧Below w.heap.size w wr) (fun _ _ _=>0)
 case atStart=>exact ⟨rfl,Below.refl _ _⟩
 case round =>
  obtain ⟨rfl,hbel⟩:=hrel
  have hb:Below w.heap.size w (wr.alloc (.cells #[] 197)):=hbel.alloc hbel.size _
  go_wp2_with fail
  generalize wr.alloc (.cells #[] 197)=w1 at hb ⊢
  go_loopw [6,7,8] (fun i _ _ wr=>i=.int .i64 0∧Below w.heap.size w wr) (fun _ _ _ _=>0)
  case atStart=>exact ⟨rfl,hb⟩
  case round =>
   clear hb hbel
   obtain ⟨rfl,hbel⟩:=hrel
   go_wp2_with fail
   go_loopw [9,10] (fun i _ wr=>i=.int .i64 0∧Below w.heap.size w wr) (fun _ _ _=>0)
   case atStart=>exact ⟨rfl,hbel⟩
   case round =>
    clear hbel
    obtain ⟨rfl,hbel⟩:=hrel
    go_wp2_with fail
    go_loopw [11,12,13] (fun i _ _ wr=>i=.int .i64 0∧Below w.heap.size w wr) (fun _ _ _ _=>0)
    case atStart=>exact ⟨rfl,hbel⟩
    case round =>
     clear hbel
     obtain ⟨rfl,hbel⟩:=hrel
     go_wp2_with fail
     go_loopw [14,15] (fun i _ wr=>i=.int .i64 0∧Below w.heap.size w wr) (fun _ _ _=>0)
     case atStart=>exact ⟨rfl,hbel⟩
     case round =>
      clear hbel
      obtain ⟨rfl,hbel⟩:=hrel
      go_wp2_with fail
      go_ret
      exact ⟨rfl,hbel⟩
theorem flatNil_Facts (w:World):Calls Tryz.prog 86 #[.slice none 0 0] w fun e w'=>e=.returned (.bool true)∧Below w.heap.size w w':=by
 have hmk:∀ w,(Instr.makeSlice 84 (.int .i64 0) (.int .i64 0)).run Tryz.prog w=.ok (.slice (some ⟨w.heap.size,0,none⟩) 0 0) (w.alloc (.cells #[] 200)):=fun _=>by kernel_rfl
 go_enter Tryz.func86,Tryz.ntmps86
 go_wp2_with fail
 go_loopw [3,4] (fun i _ wr=>i=.int .i64 0∧Below w.heap.size w wr) (fun _ _ _=>0)
 case atStart=>exact ⟨rfl,Below.refl _ _⟩
 case round =>
  obtain ⟨rfl,hbel⟩:=hrel
  have hb:Below w.heap.size w (wr.alloc (.cells #[] 200)):=hbel.alloc hbel.size _
  go_wp2_with fail
  generalize wr.alloc (.cells #[] 200)=w1 at hb ⊢
  go_loopw [6,7,8] (fun i _ _ wr=>i=.int .i64 0∧Below w.heap.size w wr) (fun _ _ _ _=>0)
  case atStart=>exact ⟨rfl,hb⟩
  case round =>
   clear hb hbel
   obtain ⟨rfl,hbel⟩:=hrel
   go_wp2_with fail
   go_loopw [9,10] (fun i _ wr=>i=.int .i64 0∧Below w.heap.size w wr) (fun _ _ _=>0)
   case atStart=>exact ⟨rfl,hbel⟩
   case round =>
    clear hbel
    obtain ⟨rfl,hbel⟩:=hrel
    go_wp2_with fail
    go_loopw [11,12,13] (fun i _ _ wr=>i=.int .i64 0∧Below w.heap.size w wr) (fun _ _ _ _=>0)
    case atStart=>exact ⟨rfl,hbel⟩
    case round =>
     clear hbel
     obtain ⟨rfl,hbel⟩:=hrel
     go_wp2_with fail
     go_loopw [14,15] (fun i _ wr=>i=.int .i64 0∧Below w.heap.size w wr) (fun _ _ _=>0)
     case atStart=>exact ⟨rfl,hbel⟩
     case round =>
      clear hbel
      obtain ⟨rfl,hbel⟩:=hrel
      go_wp2_with fail
      go_ret
      exact ⟨rfl,hbel⟩
theorem flatNil_Lexes (w:World):Calls Tryz.prog 87 #[.slice none 0 0] w fun e w'=>e=.returned (.bool true)∧Below w.heap.size w w':=by
 have hmk:∀ w,(Instr.makeSlice 85 (.int .i64 0) (.int .i64 0)).run Tryz.prog w=.ok (.slice (some ⟨w.heap.size,0,none⟩) 0 0) (w.alloc (.cells #[] 205)):=fun _=>by kernel_rfl
 go_enter Tryz.func87,Tryz.ntmps87
 go_wp2_with fail
 go_loopw [3,4] (fun i _ wr=>i=.int .i64 0∧Below w.heap.size w wr) (fun _ _ _=>0)
 case atStart=>exact ⟨rfl,Below.refl _ _⟩
 case round =>
  obtain ⟨rfl,hbel⟩:=hrel
  have hb:Below w.heap.size w (wr.alloc (.cells #[] 205)):=hbel.alloc hbel.size _
  go_wp2_with fail
  generalize wr.alloc (.cells #[] 205)=w1 at hb ⊢
  go_loopw [6,7,8] (fun i _ _ wr=>i=.int .i64 0∧Below w.heap.size w wr) (fun _ _ _ _=>0)
  case atStart=>exact ⟨rfl,hb⟩
  case round =>
   clear hb hbel
   obtain ⟨rfl,hbel⟩:=hrel
   go_wp2_with fail
   go_loopw [9,10] (fun i _ wr=>i=.int .i64 0∧Below w.heap.size w wr) (fun _ _ _=>0)
   case atStart=>exact ⟨rfl,hbel⟩
   case round =>
    clear hbel
    obtain ⟨rfl,hbel⟩:=hrel
    go_wp2_with fail
    go_loopw [11,12,13] (fun i _ _ wr=>i=.int .i64 0∧Below w.heap.size w wr) (fun _ _ _ _=>0)
    case atStart=>exact ⟨rfl,hbel⟩
    case round =>
     clear hbel
     obtain ⟨rfl,hbel⟩:=hrel
     go_wp2_with fail
     go_loopw [14,15] (fun i _ wr=>i=.int .i64 0∧Below w.heap.size w wr) (fun _ _ _=>0)
     case atStart=>exact ⟨rfl,hbel⟩
     case round =>
      clear hbel
      obtain ⟨rfl,hbel⟩:=hrel
      go_wp2_with fail
      go_ret
      exact ⟨rfl,hbel⟩
theorem flatNil_Nodes (w:World):Calls Tryz.prog 88 #[.slice none 0 0] w fun e w'=>e=.returned (.bool true)∧Below w.heap.size w w':=by
 have hmk:∀ w,(Instr.makeSlice 86 (.int .i64 0) (.int .i64 0)).run Tryz.prog w=.ok (.slice (some ⟨w.heap.size,0,none⟩) 0 0) (w.alloc (.cells #[] 210)):=fun _=>by kernel_rfl
 go_enter Tryz.func88,Tryz.ntmps88
 go_wp2_with fail
 go_loopw [3,4] (fun i _ wr=>i=.int .i64 0∧Below w.heap.size w wr) (fun _ _ _=>0)
 case atStart=>exact ⟨rfl,Below.refl _ _⟩
 case round =>
  obtain ⟨rfl,hbel⟩:=hrel
  have hb:Below w.heap.size w (wr.alloc (.cells #[] 210)):=hbel.alloc hbel.size _
  go_wp2_with fail
  generalize wr.alloc (.cells #[] 210)=w1 at hb ⊢
  go_loopw [6,7,8] (fun i _ _ wr=>i=.int .i64 0∧Below w.heap.size w wr) (fun _ _ _ _=>0)
  case atStart=>exact ⟨rfl,hb⟩
  case round =>
   clear hb hbel
   obtain ⟨rfl,hbel⟩:=hrel
   go_wp2_with fail
   go_loopw [9,10] (fun i _ wr=>i=.int .i64 0∧Below w.heap.size w wr) (fun _ _ _=>0)
   case atStart=>exact ⟨rfl,hbel⟩
   case round =>
    clear hbel
    obtain ⟨rfl,hbel⟩:=hrel
    go_wp2_with fail
    go_loopw [11,12,13] (fun i _ _ wr=>i=.int .i64 0∧Below w.heap.size w wr) (fun _ _ _ _=>0)
    case atStart=>exact ⟨rfl,hbel⟩
    case round =>
     clear hbel
     obtain ⟨rfl,hbel⟩:=hrel
     go_wp2_with fail
     go_loopw [14,15] (fun i _ wr=>i=.int .i64 0∧Below w.heap.size w wr) (fun _ _ _=>0)
     case atStart=>exact ⟨rfl,hbel⟩
     case round =>
      clear hbel
      obtain ⟨rfl,hbel⟩:=hrel
      go_wp2_with fail
      go_ret
      exact ⟨rfl,hbel⟩
theorem flatNil_Exprs (w:World):Calls Tryz.prog 89 #[.slice none 0 0] w fun e w'=>e=.returned (.bool true)∧Below w.heap.size w w':=by
 have hmk:∀ w,(Instr.makeSlice 87 (.int .i64 0) (.int .i64 0)).run Tryz.prog w=.ok (.slice (some ⟨w.heap.size,0,none⟩) 0 0) (w.alloc (.cells #[] 216)):=fun _=>by kernel_rfl
 go_enter Tryz.func89,Tryz.ntmps89
 go_wp2_with fail
 go_loopw [3,4] (fun i _ wr=>i=.int .i64 0∧Below w.heap.size w wr) (fun _ _ _=>0)
 case atStart=>exact ⟨rfl,Below.refl _ _⟩
 case round =>
  obtain ⟨rfl,hbel⟩:=hrel
  have hb:Below w.heap.size w (wr.alloc (.cells #[] 216)):=hbel.alloc hbel.size _
  go_wp2_with fail
  generalize wr.alloc (.cells #[] 216)=w1 at hb ⊢
  go_loopw [6,7,8] (fun i _ _ wr=>i=.int .i64 0∧Below w.heap.size w wr) (fun _ _ _ _=>0)
  case atStart=>exact ⟨rfl,hb⟩
  case round =>
   clear hb hbel
   obtain ⟨rfl,hbel⟩:=hrel
   go_wp2_with fail
   go_loopw [9,10] (fun i _ wr=>i=.int .i64 0∧Below w.heap.size w wr) (fun _ _ _=>0)
   case atStart=>exact ⟨rfl,hbel⟩
   case round =>
    clear hbel
    obtain ⟨rfl,hbel⟩:=hrel
    go_wp2_with fail
    go_loopw [11,12,13] (fun i _ _ wr=>i=.int .i64 0∧Below w.heap.size w wr) (fun _ _ _ _=>0)
    case atStart=>exact ⟨rfl,hbel⟩
    case round =>
     clear hbel
     obtain ⟨rfl,hbel⟩:=hrel
     go_wp2_with fail
     go_loopw [14,15] (fun i _ wr=>i=.int .i64 0∧Below w.heap.size w wr) (fun _ _ _=>0)
     case atStart=>exact ⟨rfl,hbel⟩
     case round =>
      clear hbel
      obtain ⟨rfl,hbel⟩:=hrel
      go_wp2_with fail
      go_ret
      exact ⟨rfl,hbel⟩
theorem flatNil_Args (w:World):Calls Tryz.prog 90 #[.slice none 0 0] w fun e w'=>e=.returned (.bool true)∧Below w.heap.size w w':=by
 have hmk:∀ w,(Instr.makeSlice 88 (.int .i64 0) (.int .i64 0)).run Tryz.prog w=.ok (.slice (some ⟨w.heap.size,0,none⟩) 0 0) (w.alloc (.cells #[] 223)):=fun _=>by kernel_rfl
 go_enter Tryz.func90,Tryz.ntmps90
 go_wp2_with fail
 go_loopw [3,4] (fun i _ wr=>i=.int .i64 0∧Below w.heap.size w wr) (fun _ _ _=>0)
 case atStart=>exact ⟨rfl,Below.refl _ _⟩
 case round =>
  obtain ⟨rfl,hbel⟩:=hrel
  have hb:Below w.heap.size w (wr.alloc (.cells #[] 223)):=hbel.alloc hbel.size _
  go_wp2_with fail
  generalize wr.alloc (.cells #[] 223)=w1 at hb ⊢
  go_loopw [6,7,8] (fun i _ _ wr=>i=.int .i64 0∧Below w.heap.size w wr) (fun _ _ _ _=>0)
  case atStart=>exact ⟨rfl,hb⟩
  case round =>
   clear hb hbel
   obtain ⟨rfl,hbel⟩:=hrel
   go_wp2_with fail
   go_loopw [9,10] (fun i _ wr=>i=.int .i64 0∧Below w.heap.size w wr) (fun _ _ _=>0)
   case atStart=>exact ⟨rfl,hbel⟩
   case round =>
    clear hbel
    obtain ⟨rfl,hbel⟩:=hrel
    go_wp2_with fail
    go_loopw [11,12,13] (fun i _ _ wr=>i=.int .i64 0∧Below w.heap.size w wr) (fun _ _ _ _=>0)
    case atStart=>exact ⟨rfl,hbel⟩
    case round =>
     clear hbel
     obtain ⟨rfl,hbel⟩:=hrel
     go_wp2_with fail
     go_loopw [14,15] (fun i _ wr=>i=.int .i64 0∧Below w.heap.size w wr) (fun _ _ _=>0)
     case atStart=>exact ⟨rfl,hbel⟩
     case round =>
      clear hbel
      obtain ⟨rfl,hbel⟩:=hrel
      go_wp2_with fail
      go_ret
      exact ⟨rfl,hbel⟩
theorem flatNil_Conds (w:World):Calls Tryz.prog 91 #[.slice none 0 0] w fun e w'=>e=.returned (.bool true)∧Below w.heap.size w w':=by
 have hmk:∀ w,(Instr.makeSlice 89 (.int .i64 0) (.int .i64 0)).run Tryz.prog w=.ok (.slice (some ⟨w.heap.size,0,none⟩) 0 0) (w.alloc (.cells #[] 228)):=fun _=>by kernel_rfl
 go_enter Tryz.func91,Tryz.ntmps91
 go_wp2_with fail
 go_loopw [3,4] (fun i _ wr=>i=.int .i64 0∧Below w.heap.size w wr) (fun _ _ _=>0)
 case atStart=>exact ⟨rfl,Below.refl _ _⟩
 case round =>
  obtain ⟨rfl,hbel⟩:=hrel
  have hb:Below w.heap.size w (wr.alloc (.cells #[] 228)):=hbel.alloc hbel.size _
  go_wp2_with fail
  generalize wr.alloc (.cells #[] 228)=w1 at hb ⊢
  go_loopw [6,7,8] (fun i _ _ wr=>i=.int .i64 0∧Below w.heap.size w wr) (fun _ _ _ _=>0)
  case atStart=>exact ⟨rfl,hb⟩
  case round =>
   clear hb hbel
   obtain ⟨rfl,hbel⟩:=hrel
   go_wp2_with fail
   go_loopw [9,10] (fun i _ wr=>i=.int .i64 0∧Below w.heap.size w wr) (fun _ _ _=>0)
   case atStart=>exact ⟨rfl,hbel⟩
   case round =>
    clear hbel
    obtain ⟨rfl,hbel⟩:=hrel
    go_wp2_with fail
    go_loopw [11,12,13] (fun i _ _ wr=>i=.int .i64 0∧Below w.heap.size w wr) (fun _ _ _ _=>0)
    case atStart=>exact ⟨rfl,hbel⟩
    case round =>
     clear hbel
     obtain ⟨rfl,hbel⟩:=hrel
     go_wp2_with fail
     go_loopw [14,15] (fun i _ wr=>i=.int .i64 0∧Below w.heap.size w wr) (fun _ _ _=>0)
     case atStart=>exact ⟨rfl,hbel⟩
     case round =>
      clear hbel
      obtain ⟨rfl,hbel⟩:=hrel
      go_wp2_with fail
      go_ret
      exact ⟨rfl,hbel⟩
theorem flatNil_Acts (w:World):Calls Tryz.prog 92 #[.slice none 0 0] w fun e w'=>e=.returned (.bool true)∧Below w.heap.size w w':=by
 have hmk:∀ w,(Instr.makeSlice 90 (.int .i64 0) (.int .i64 0)).run Tryz.prog w=.ok (.slice (some ⟨w.heap.size,0,none⟩) 0 0) (w.alloc (.cells #[] 234)):=fun _=>by kernel_rfl
 go_enter Tryz.func92,Tryz.ntmps92
 go_wp2_with fail
 go_loopw [3,4] (fun i _ wr=>i=.int .i64 0∧Below w.heap.size w wr) (fun _ _ _=>0)
 case atStart=>exact ⟨rfl,Below.refl _ _⟩
 case round =>
  obtain ⟨rfl,hbel⟩:=hrel
  have hb:Below w.heap.size w (wr.alloc (.cells #[] 234)):=hbel.alloc hbel.size _
  go_wp2_with fail
  generalize wr.alloc (.cells #[] 234)=w1 at hb ⊢
  go_loopw [6,7,8] (fun i _ _ wr=>i=.int .i64 0∧Below w.heap.size w wr) (fun _ _ _ _=>0)
  case atStart=>exact ⟨rfl,hb⟩
  case round =>
   clear hb hbel
   obtain ⟨rfl,hbel⟩:=hrel
   go_wp2_with fail
   go_loopw [9,10] (fun i _ wr=>i=.int .i64 0∧Below w.heap.size w wr) (fun _ _ _=>0)
   case atStart=>exact ⟨rfl,hbel⟩
   case round =>
    clear hbel
    obtain ⟨rfl,hbel⟩:=hrel
    go_wp2_with fail
    go_loopw [11,12,13] (fun i _ _ wr=>i=.int .i64 0∧Below w.heap.size w wr) (fun _ _ _ _=>0)
    case atStart=>exact ⟨rfl,hbel⟩
    case round =>
     clear hbel
     obtain ⟨rfl,hbel⟩:=hrel
     go_wp2_with fail
     go_loopw [14,15] (fun i _ wr=>i=.int .i64 0∧Below w.heap.size w wr) (fun _ _ _=>0)
     case atStart=>exact ⟨rfl,hbel⟩
     case round =>
      clear hbel
      obtain ⟨rfl,hbel⟩:=hrel
      go_wp2_with fail
      go_ret
      exact ⟨rfl,hbel⟩
theorem flatNil_Types (w:World):Calls Tryz.prog 93 #[.slice none 0 0] w fun e w'=>e=.returned (.bool true)∧Below w.heap.size w w':=by
 have hmk:∀ w,(Instr.makeSlice 91 (.int .i64 0) (.int .i64 0)).run Tryz.prog w=.ok (.slice (some ⟨w.heap.size,0,none⟩) 0 0) (w.alloc (.cells #[] 240)):=fun _=>by kernel_rfl
 go_enter Tryz.func93,Tryz.ntmps93
 go_wp2_with fail
 go_loopw [3,4] (fun i _ wr=>i=.int .i64 0∧Below w.heap.size w wr) (fun _ _ _=>0)
 case atStart=>exact ⟨rfl,Below.refl _ _⟩
 case round =>
  obtain ⟨rfl,hbel⟩:=hrel
  have hb:Below w.heap.size w (wr.alloc (.cells #[] 240)):=hbel.alloc hbel.size _
  go_wp2_with fail
  generalize wr.alloc (.cells #[] 240)=w1 at hb ⊢
  go_loopw [6,7,8] (fun i _ _ wr=>i=.int .i64 0∧Below w.heap.size w wr) (fun _ _ _ _=>0)
  case atStart=>exact ⟨rfl,hb⟩
  case round =>
   clear hb hbel
   obtain ⟨rfl,hbel⟩:=hrel
   go_wp2_with fail
   go_loopw [9,10] (fun i _ wr=>i=.int .i64 0∧Below w.heap.size w wr) (fun _ _ _=>0)
   case atStart=>exact ⟨rfl,hbel⟩
   case round =>
    clear hbel
    obtain ⟨rfl,hbel⟩:=hrel
    go_wp2_with fail
    go_loopw [11,12,13] (fun i _ _ wr=>i=.int .i64 0∧Below w.heap.size w wr) (fun _ _ _ _=>0)
    case atStart=>exact ⟨rfl,hbel⟩
    case round =>
     clear hbel
     obtain ⟨rfl,hbel⟩:=hrel
     go_wp2_with fail
     go_loopw [14,15] (fun i _ wr=>i=.int .i64 0∧Below w.heap.size w wr) (fun _ _ _=>0)
     case atStart=>exact ⟨rfl,hbel⟩
     case round =>
      clear hbel
      obtain ⟨rfl,hbel⟩:=hrel
      go_wp2_with fail
      go_ret
      exact ⟨rfl,hbel⟩
theorem flatNil_RuleRow (w:World):Calls Tryz.prog 94 #[.slice none 0 0] w fun e w'=>e=.returned (.bool true)∧Below w.heap.size w w':=by
 have hmk:∀ w,(Instr.makeSlice 92 (.int .i64 0) (.int .i64 0)).run Tryz.prog w=.ok (.slice (some ⟨w.heap.size,0,none⟩) 0 0) (w.alloc (.cells #[] 244)):=fun _=>by kernel_rfl
 go_enter Tryz.func94,Tryz.ntmps94
 go_wp2_with fail
 go_loopw [3,4] (fun i _ wr=>i=.int .i64 0∧Below w.heap.size w wr) (fun _ _ _=>0)
 case atStart=>exact ⟨rfl,Below.refl _ _⟩
 case round =>
  obtain ⟨rfl,hbel⟩:=hrel
  have hb:Below w.heap.size w (wr.alloc (.cells #[] 244)):=hbel.alloc hbel.size _
  go_wp2_with fail
  generalize wr.alloc (.cells #[] 244)=w1 at hb ⊢
  go_loopw [6,7,8] (fun i _ _ wr=>i=.int .i64 0∧Below w.heap.size w wr) (fun _ _ _ _=>0)
  case atStart=>exact ⟨rfl,hb⟩
  case round =>
   clear hb hbel
   obtain ⟨rfl,hbel⟩:=hrel
   go_wp2_with fail
   go_loopw [9,10] (fun i _ wr=>i=.int .i64 0∧Below w.heap.size w wr) (fun _ _ _=>0)
   case atStart=>exact ⟨rfl,hbel⟩
   case round =>
    clear hbel
    obtain ⟨rfl,hbel⟩:=hrel
    go_wp2_with fail
    go_loopw [11,12,13] (fun i _ _ wr=>i=.int .i64 0∧Below w.heap.size w wr) (fun _ _ _ _=>0)
    case atStart=>exact ⟨rfl,hbel⟩
    case round =>
     clear hbel
     obtain ⟨rfl,hbel⟩:=hrel
     go_wp2_with fail
     go_loopw [14,15] (fun i _ wr=>i=.int .i64 0∧Below w.heap.size w wr) (fun _ _ _=>0)
     case atStart=>exact ⟨rfl,hbel⟩
     case round =>
      clear hbel
      obtain ⟨rfl,hbel⟩:=hrel
      go_wp2_with fail
      go_ret
      exact ⟨rfl,hbel⟩
theorem flatNil_RulesRow (w:World):Calls Tryz.prog 95 #[.slice none 0 0] w fun e w'=>e=.returned (.bool true)∧Below w.heap.size w w':=by
 have hmk:∀ w,(Instr.makeSlice 93 (.int .i64 0) (.int .i64 0)).run Tryz.prog w=.ok (.slice (some ⟨w.heap.size,0,none⟩) 0 0) (w.alloc (.cells #[] 249)):=fun _=>by kernel_rfl
 go_enter Tryz.func95,Tryz.ntmps95
 go_wp2_with fail
 go_loopw [3,4] (fun i _ wr=>i=.int .i64 0∧Below w.heap.size w wr) (fun _ _ _=>0)
 case atStart=>exact ⟨rfl,Below.refl _ _⟩
 case round =>
  obtain ⟨rfl,hbel⟩:=hrel
  have hb:Below w.heap.size w (wr.alloc (.cells #[] 249)):=hbel.alloc hbel.size _
  go_wp2_with fail
  generalize wr.alloc (.cells #[] 249)=w1 at hb ⊢
  go_loopw [6,7,8] (fun i _ _ wr=>i=.int .i64 0∧Below w.heap.size w wr) (fun _ _ _ _=>0)
  case atStart=>exact ⟨rfl,hb⟩
  case round =>
   clear hb hbel
   obtain ⟨rfl,hbel⟩:=hrel
   go_wp2_with fail
   go_loopw [9,10] (fun i _ wr=>i=.int .i64 0∧Below w.heap.size w wr) (fun _ _ _=>0)
   case atStart=>exact ⟨rfl,hbel⟩
   case round =>
    clear hbel
    obtain ⟨rfl,hbel⟩:=hrel
    go_wp2_with fail
    go_loopw [11,12,13] (fun i _ _ wr=>i=.int .i64 0∧Below w.heap.size w wr) (fun _ _ _ _=>0)
    case atStart=>exact ⟨rfl,hbel⟩
    case round =>
     clear hbel
     obtain ⟨rfl,hbel⟩:=hrel
     go_wp2_with fail
     go_loopw [14,15] (fun i _ wr=>i=.int .i64 0∧Below w.heap.size w wr) (fun _ _ _=>0)
     case atStart=>exact ⟨rfl,hbel⟩
     case round =>
      clear hbel
      obtain ⟨rfl,hbel⟩:=hrel
      go_wp2_with fail
      go_ret
      exact ⟨rfl,hbel⟩
theorem flatNil_Tokens (w:World):Calls Tryz.prog 96 #[.slice none 0 0] w fun e w'=>e=.returned (.bool true)∧Below w.heap.size w w':=by
 have hmk:∀ w,(Instr.makeSlice 94 (.int .i64 0) (.int .i64 0)).run Tryz.prog w=.ok (.slice (some ⟨w.heap.size,0,none⟩) 0 0) (w.alloc (.cells #[] 254)):=fun _=>by kernel_rfl
 go_enter Tryz.func96,Tryz.ntmps96
 go_wp2_with fail
 go_loopw [3,4] (fun i _ wr=>i=.int .i64 0∧Below w.heap.size w wr) (fun _ _ _=>0)
 case atStart=>exact ⟨rfl,Below.refl _ _⟩
 case round =>
  obtain ⟨rfl,hbel⟩:=hrel
  have hb:Below w.heap.size w (wr.alloc (.cells #[] 254)):=hbel.alloc hbel.size _
  go_wp2_with fail
  generalize wr.alloc (.cells #[] 254)=w1 at hb ⊢
  go_loopw [6,7,8] (fun i _ _ wr=>i=.int .i64 0∧Below w.heap.size w wr) (fun _ _ _ _=>0)
  case atStart=>exact ⟨rfl,hb⟩
  case round =>
   clear hb hbel
   obtain ⟨rfl,hbel⟩:=hrel
   go_wp2_with fail
   go_loopw [9,10] (fun i _ wr=>i=.int .i64 0∧Below w.heap.size w wr) (fun _ _ _=>0)
   case atStart=>exact ⟨rfl,hbel⟩
   case round =>
    clear hbel
    obtain ⟨rfl,hbel⟩:=hrel
    go_wp2_with fail
    go_loopw [11,12,13] (fun i _ _ wr=>i=.int .i64 0∧Below w.heap.size w wr) (fun _ _ _ _=>0)
    case atStart=>exact ⟨rfl,hbel⟩
    case round =>
     clear hbel
     obtain ⟨rfl,hbel⟩:=hrel
     go_wp2_with fail
     go_loopw [14,15] (fun i _ wr=>i=.int .i64 0∧Below w.heap.size w wr) (fun _ _ _=>0)
     case atStart=>exact ⟨rfl,hbel⟩
     case round =>
      clear hbel
      obtain ⟨rfl,hbel⟩:=hrel
      go_wp2_with fail
      go_ret
      exact ⟨rfl,hbel⟩
theorem flatNil_Commands (w:World):Calls Tryz.prog 97 #[.slice none 0 0] w fun e w'=>e=.returned (.bool true)∧Below w.heap.size w w':=by
 have hmk:∀ w,(Instr.makeSlice 95 (.int .i64 0) (.int .i64 0)).run Tryz.prog w=.ok (.slice (some ⟨w.heap.size,0,none⟩) 0 0) (w.alloc (.cells #[] 259)):=fun _=>by kernel_rfl
 go_enter Tryz.func97,Tryz.ntmps97
 go_wp2_with fail
 go_loopw [3,4] (fun i _ wr=>i=.int .i64 0∧Below w.heap.size w wr) (fun _ _ _=>0)
 case atStart=>exact ⟨rfl,Below.refl _ _⟩
 case round =>
  obtain ⟨rfl,hbel⟩:=hrel
  have hb:Below w.heap.size w (wr.alloc (.cells #[] 259)):=hbel.alloc hbel.size _
  go_wp2_with fail
  generalize wr.alloc (.cells #[] 259)=w1 at hb ⊢
  go_loopw [6,7,8] (fun i _ _ wr=>i=.int .i64 0∧Below w.heap.size w wr) (fun _ _ _ _=>0)
  case atStart=>exact ⟨rfl,hb⟩
  case round =>
   clear hb hbel
   obtain ⟨rfl,hbel⟩:=hrel
   go_wp2_with fail
   go_loopw [9,10] (fun i _ wr=>i=.int .i64 0∧Below w.heap.size w wr) (fun _ _ _=>0)
   case atStart=>exact ⟨rfl,hbel⟩
   case round =>
    clear hbel
    obtain ⟨rfl,hbel⟩:=hrel
    go_wp2_with fail
    go_loopw [11,12,13] (fun i _ _ wr=>i=.int .i64 0∧Below w.heap.size w wr) (fun _ _ _ _=>0)
    case atStart=>exact ⟨rfl,hbel⟩
    case round =>
     clear hbel
     obtain ⟨rfl,hbel⟩:=hrel
     go_wp2_with fail
     go_loopw [14,15] (fun i _ wr=>i=.int .i64 0∧Below w.heap.size w wr) (fun _ _ _=>0)
     case atStart=>exact ⟨rfl,hbel⟩
     case round =>
      clear hbel
      obtain ⟨rfl,hbel⟩:=hrel
      go_wp2_with fail
      go_ret
      exact ⟨rfl,hbel⟩
theorem flatNil_Replies (w:World):Calls Tryz.prog 98 #[.slice none 0 0] w fun e w'=>e=.returned (.bool true)∧Below w.heap.size w w':=by
 have hmk:∀ w,(Instr.makeSlice 96 (.int .i64 0) (.int .i64 0)).run Tryz.prog w=.ok (.slice (some ⟨w.heap.size,0,none⟩) 0 0) (w.alloc (.cells #[] 261)):=fun _=>by kernel_rfl
 go_enter Tryz.func98,Tryz.ntmps98
 go_wp2_with fail
 go_loopw [3,4] (fun i _ wr=>i=.int .i64 0∧Below w.heap.size w wr) (fun _ _ _=>0)
 case atStart=>exact ⟨rfl,Below.refl _ _⟩
 case round =>
  obtain ⟨rfl,hbel⟩:=hrel
  have hb:Below w.heap.size w (wr.alloc (.cells #[] 261)):=hbel.alloc hbel.size _
  go_wp2_with fail
  generalize wr.alloc (.cells #[] 261)=w1 at hb ⊢
  go_loopw [6,7,8] (fun i _ _ wr=>i=.int .i64 0∧Below w.heap.size w wr) (fun _ _ _ _=>0)
  case atStart=>exact ⟨rfl,hb⟩
  case round =>
   clear hb hbel
   obtain ⟨rfl,hbel⟩:=hrel
   go_wp2_with fail
   go_loopw [9,10] (fun i _ wr=>i=.int .i64 0∧Below w.heap.size w wr) (fun _ _ _=>0)
   case atStart=>exact ⟨rfl,hbel⟩
   case round =>
    clear hbel
    obtain ⟨rfl,hbel⟩:=hrel
    go_wp2_with fail
    go_loopw [11,12,13] (fun i _ _ wr=>i=.int .i64 0∧Below w.heap.size w wr) (fun _ _ _ _=>0)
    case atStart=>exact ⟨rfl,hbel⟩
    case round =>
     clear hbel
     obtain ⟨rfl,hbel⟩:=hrel
     go_wp2_with fail
     go_loopw [14,15] (fun i _ wr=>i=.int .i64 0∧Below w.heap.size w wr) (fun _ _ _=>0)
     case atStart=>exact ⟨rfl,hbel⟩
     case round =>
      clear hbel
      obtain ⟨rfl,hbel⟩:=hrel
      go_wp2_with fail
      go_ret
      exact ⟨rfl,hbel⟩
theorem flatNil_Snaps (w:World):Calls Tryz.prog 101 #[.slice none 0 0] w fun e w'=>e=.returned (.bool true)∧Below w.heap.size w w':=by
 have hmk:∀ w,(Instr.makeSlice 98 (.int .i64 0) (.int .i64 0)).run Tryz.prog w=.ok (.slice (some ⟨w.heap.size,0,none⟩) 0 0) (w.alloc (.cells #[] 267)):=fun _=>by kernel_rfl
 go_enter Tryz.func101,Tryz.ntmps101
 go_wp2_with fail
 go_loopw [3,4] (fun i _ wr=>i=.int .i64 0∧Below w.heap.size w wr) (fun _ _ _=>0)
 case atStart=>exact ⟨rfl,Below.refl _ _⟩
 case round =>
  obtain ⟨rfl,hbel⟩:=hrel
  have hb:Below w.heap.size w (wr.alloc (.cells #[] 267)):=hbel.alloc hbel.size _
  go_wp2_with fail
  generalize wr.alloc (.cells #[] 267)=w1 at hb ⊢
  go_loopw [6,7,8] (fun i _ _ wr=>i=.int .i64 0∧Below w.heap.size w wr) (fun _ _ _ _=>0)
  case atStart=>exact ⟨rfl,hb⟩
  case round =>
   clear hb hbel
   obtain ⟨rfl,hbel⟩:=hrel
   go_wp2_with fail
   go_loopw [9,10] (fun i _ wr=>i=.int .i64 0∧Below w.heap.size w wr) (fun _ _ _=>0)
   case atStart=>exact ⟨rfl,hbel⟩
   case round =>
    clear hbel
    obtain ⟨rfl,hbel⟩:=hrel
    go_wp2_with fail
    go_loopw [11,12,13] (fun i _ _ wr=>i=.int .i64 0∧Below w.heap.size w wr) (fun _ _ _ _=>0)
    case atStart=>exact ⟨rfl,hbel⟩
    case round =>
     clear hbel
     obtain ⟨rfl,hbel⟩:=hrel
     go_wp2_with fail
     go_loopw [14,15] (fun i _ wr=>i=.int .i64 0∧Below w.heap.size w wr) (fun _ _ _=>0)
     case atStart=>exact ⟨rfl,hbel⟩
     case round =>
      clear hbel
      obtain ⟨rfl,hbel⟩:=hrel
      go_wp2_with fail
      go_ret
      exact ⟨rfl,hbel⟩
theorem flatNil_Steps (w:World):Calls Tryz.prog 102 #[.slice none 0 0] w fun e w'=>e=.returned (.bool true)∧Below w.heap.size w w':=by
 have hmk:∀ w,(Instr.makeSlice 99 (.int .i64 0) (.int .i64 0)).run Tryz.prog w=.ok (.slice (some ⟨w.heap.size,0,none⟩) 0 0) (w.alloc (.cells #[] 272)):=fun _=>by kernel_rfl
 go_enter Tryz.func102,Tryz.ntmps102
 go_wp2_with fail
 go_loopw [3,4] (fun i _ wr=>i=.int .i64 0∧Below w.heap.size w wr) (fun _ _ _=>0)
 case atStart=>exact ⟨rfl,Below.refl _ _⟩
 case round =>
  obtain ⟨rfl,hbel⟩:=hrel
  have hb:Below w.heap.size w (wr.alloc (.cells #[] 272)):=hbel.alloc hbel.size _
  go_wp2_with fail
  generalize wr.alloc (.cells #[] 272)=w1 at hb ⊢
  go_loopw [6,7,8] (fun i _ _ wr=>i=.int .i64 0∧Below w.heap.size w wr) (fun _ _ _ _=>0)
  case atStart=>exact ⟨rfl,hb⟩
  case round =>
   clear hb hbel
   obtain ⟨rfl,hbel⟩:=hrel
   go_wp2_with fail
   go_loopw [9,10] (fun i _ wr=>i=.int .i64 0∧Below w.heap.size w wr) (fun _ _ _=>0)
   case atStart=>exact ⟨rfl,hbel⟩
   case round =>
    clear hbel
    obtain ⟨rfl,hbel⟩:=hrel
    go_wp2_with fail
    go_loopw [11,12,13] (fun i _ _ wr=>i=.int .i64 0∧Below w.heap.size w wr) (fun _ _ _ _=>0)
    case atStart=>exact ⟨rfl,hbel⟩
    case round =>
     clear hbel
     obtain ⟨rfl,hbel⟩:=hrel
     go_wp2_with fail
     go_loopw [14,15] (fun i _ wr=>i=.int .i64 0∧Below w.heap.size w wr) (fun _ _ _=>0)
     case atStart=>exact ⟨rfl,hbel⟩
     case round =>
      clear hbel
      obtain ⟨rfl,hbel⟩:=hrel
      go_wp2_with fail
      go_ret
      exact ⟨rfl,hbel⟩
theorem flatNil_Tales (w:World):Calls Tryz.prog 103 #[.slice none 0 0] w fun e w'=>e=.returned (.bool true)∧Below w.heap.size w w':=by
 have hmk:∀ w,(Instr.makeSlice 100 (.int .i64 0) (.int .i64 0)).run Tryz.prog w=.ok (.slice (some ⟨w.heap.size,0,none⟩) 0 0) (w.alloc (.cells #[] 278)):=fun _=>by kernel_rfl
 go_enter Tryz.func103,Tryz.ntmps103
 go_wp2_with fail
 go_loopw [3,4] (fun i _ wr=>i=.int .i64 0∧Below w.heap.size w wr) (fun _ _ _=>0)
 case atStart=>exact ⟨rfl,Below.refl _ _⟩
 case round =>
  obtain ⟨rfl,hbel⟩:=hrel
  have hb:Below w.heap.size w (wr.alloc (.cells #[] 278)):=hbel.alloc hbel.size _
  go_wp2_with fail
  generalize wr.alloc (.cells #[] 278)=w1 at hb ⊢
  go_loopw [6,7,8] (fun i _ _ wr=>i=.int .i64 0∧Below w.heap.size w wr) (fun _ _ _ _=>0)
  case atStart=>exact ⟨rfl,hb⟩
  case round =>
   clear hb hbel
   obtain ⟨rfl,hbel⟩:=hrel
   go_wp2_with fail
   go_loopw [9,10] (fun i _ wr=>i=.int .i64 0∧Below w.heap.size w wr) (fun _ _ _=>0)
   case atStart=>exact ⟨rfl,hbel⟩
   case round =>
    clear hbel
    obtain ⟨rfl,hbel⟩:=hrel
    go_wp2_with fail
    go_loopw [11,12,13] (fun i _ _ wr=>i=.int .i64 0∧Below w.heap.size w wr) (fun _ _ _ _=>0)
    case atStart=>exact ⟨rfl,hbel⟩
    case round =>
     clear hbel
     obtain ⟨rfl,hbel⟩:=hrel
     go_wp2_with fail
     go_loopw [14,15] (fun i _ wr=>i=.int .i64 0∧Below w.heap.size w wr) (fun _ _ _=>0)
     case atStart=>exact ⟨rfl,hbel⟩
     case round =>
      clear hbel
      obtain ⟨rfl,hbel⟩:=hrel
      go_wp2_with fail
      go_ret
      exact ⟨rfl,hbel⟩
theorem flatNil_States (w:World):Calls Tryz.prog 104 #[.slice none 0 0] w fun e w'=>e=.returned (.bool true)∧Below w.heap.size w w':=by
 have hmk:∀ w,(Instr.makeSlice 101 (.int .i64 0) (.int .i64 0)).run Tryz.prog w=.ok (.slice (some ⟨w.heap.size,0,none⟩) 0 0) (w.alloc (.cells #[] 284)):=fun _=>by kernel_rfl
 go_enter Tryz.func104,Tryz.ntmps104
 go_wp2_with fail
 go_loopw [3,4] (fun i _ wr=>i=.int .i64 0∧Below w.heap.size w wr) (fun _ _ _=>0)
 case atStart=>exact ⟨rfl,Below.refl _ _⟩
 case round =>
  obtain ⟨rfl,hbel⟩:=hrel
  have hb:Below w.heap.size w (wr.alloc (.cells #[] 284)):=hbel.alloc hbel.size _
  go_wp2_with fail
  generalize wr.alloc (.cells #[] 284)=w1 at hb ⊢
  go_loopw [6,7,8] (fun i _ _ wr=>i=.int .i64 0∧Below w.heap.size w wr) (fun _ _ _ _=>0)
  case atStart=>exact ⟨rfl,hb⟩
  case round =>
   clear hb hbel
   obtain ⟨rfl,hbel⟩:=hrel
   go_wp2_with fail
   go_loopw [9,10] (fun i _ wr=>i=.int .i64 0∧Below w.heap.size w wr) (fun _ _ _=>0)
   case atStart=>exact ⟨rfl,hbel⟩
   case round =>
    clear hbel
    obtain ⟨rfl,hbel⟩:=hrel
    go_wp2_with fail
    go_loopw [11,12,13] (fun i _ _ wr=>i=.int .i64 0∧Below w.heap.size w wr) (fun _ _ _ _=>0)
    case atStart=>exact ⟨rfl,hbel⟩
    case round =>
     clear hbel
     obtain ⟨rfl,hbel⟩:=hrel
     go_wp2_with fail
     go_loopw [14,15] (fun i _ wr=>i=.int .i64 0∧Below w.heap.size w wr) (fun _ _ _=>0)
     case atStart=>exact ⟨rfl,hbel⟩
     case round =>
      clear hbel
      obtain ⟨rfl,hbel⟩:=hrel
      go_wp2_with fail
      go_ret
      exact ⟨rfl,hbel⟩
theorem flatNil_Sessions (w:World):Calls Tryz.prog 105 #[.slice none 0 0] w fun e w'=>e=.returned (.bool true)∧Below w.heap.size w w':=by
 have hmk:∀ w,(Instr.makeSlice 102 (.int .i64 0) (.int .i64 0)).run Tryz.prog w=.ok (.slice (some ⟨w.heap.size,0,none⟩) 0 0) (w.alloc (.cells #[] 289)):=fun _=>by kernel_rfl
 go_enter Tryz.func105,Tryz.ntmps105
 go_wp2_with fail
 go_loopw [3,4] (fun i _ wr=>i=.int .i64 0∧Below w.heap.size w wr) (fun _ _ _=>0)
 case atStart=>exact ⟨rfl,Below.refl _ _⟩
 case round =>
  obtain ⟨rfl,hbel⟩:=hrel
  have hb:Below w.heap.size w (wr.alloc (.cells #[] 289)):=hbel.alloc hbel.size _
  go_wp2_with fail
  generalize wr.alloc (.cells #[] 289)=w1 at hb ⊢
  go_loopw [6,7,8] (fun i _ _ wr=>i=.int .i64 0∧Below w.heap.size w wr) (fun _ _ _ _=>0)
  case atStart=>exact ⟨rfl,hb⟩
  case round =>
   clear hb hbel
   obtain ⟨rfl,hbel⟩:=hrel
   go_wp2_with fail
   go_loopw [9,10] (fun i _ wr=>i=.int .i64 0∧Below w.heap.size w wr) (fun _ _ _=>0)
   case atStart=>exact ⟨rfl,hbel⟩
   case round =>
    clear hbel
    obtain ⟨rfl,hbel⟩:=hrel
    go_wp2_with fail
    go_loopw [11,12,13] (fun i _ _ wr=>i=.int .i64 0∧Below w.heap.size w wr) (fun _ _ _ _=>0)
    case atStart=>exact ⟨rfl,hbel⟩
    case round =>
     clear hbel
     obtain ⟨rfl,hbel⟩:=hrel
     go_wp2_with fail
     go_loopw [14,15] (fun i _ wr=>i=.int .i64 0∧Below w.heap.size w wr) (fun _ _ _=>0)
     case atStart=>exact ⟨rfl,hbel⟩
     case round =>
      clear hbel
      obtain ⟨rfl,hbel⟩:=hrel
      go_wp2_with fail
      go_ret
      exact ⟨rfl,hbel⟩
theorem flatNil_Machines (w:World):Calls Tryz.prog 106 #[.slice none 0 0] w fun e w'=>e=.returned (.bool true)∧Below w.heap.size w w':=by
 have hmk:∀ w,(Instr.makeSlice 103 (.int .i64 0) (.int .i64 0)).run Tryz.prog w=.ok (.slice (some ⟨w.heap.size,0,none⟩) 0 0) (w.alloc (.cells #[] 294)):=fun _=>by kernel_rfl
 go_enter Tryz.func106,Tryz.ntmps106
 go_wp2_with fail
 go_loopw [3,4] (fun i _ wr=>i=.int .i64 0∧Below w.heap.size w wr) (fun _ _ _=>0)
 case atStart=>exact ⟨rfl,Below.refl _ _⟩
 case round =>
  obtain ⟨rfl,hbel⟩:=hrel
  have hb:Below w.heap.size w (wr.alloc (.cells #[] 294)):=hbel.alloc hbel.size _
  go_wp2_with fail
  generalize wr.alloc (.cells #[] 294)=w1 at hb ⊢
  go_loopw [6,7,8] (fun i _ _ wr=>i=.int .i64 0∧Below w.heap.size w wr) (fun _ _ _ _=>0)
  case atStart=>exact ⟨rfl,hb⟩
  case round =>
   clear hb hbel
   obtain ⟨rfl,hbel⟩:=hrel
   go_wp2_with fail
   go_loopw [9,10] (fun i _ wr=>i=.int .i64 0∧Below w.heap.size w wr) (fun _ _ _=>0)
   case atStart=>exact ⟨rfl,hbel⟩
   case round =>
    clear hbel
    obtain ⟨rfl,hbel⟩:=hrel
    go_wp2_with fail
    go_loopw [11,12,13] (fun i _ _ wr=>i=.int .i64 0∧Below w.heap.size w wr) (fun _ _ _ _=>0)
    case atStart=>exact ⟨rfl,hbel⟩
    case round =>
     clear hbel
     obtain ⟨rfl,hbel⟩:=hrel
     go_wp2_with fail
     go_loopw [14,15] (fun i _ wr=>i=.int .i64 0∧Below w.heap.size w wr) (fun _ _ _=>0)
     case atStart=>exact ⟨rfl,hbel⟩
     case round =>
      clear hbel
      obtain ⟨rfl,hbel⟩:=hrel
      go_wp2_with fail
      go_ret
      exact ⟨rfl,hbel⟩
theorem flatNil_Frames (w:World):Calls Tryz.prog 107 #[.slice none 0 0] w fun e w'=>e=.returned (.bool true)∧Below w.heap.size w w':=by
 have hmk:∀ w,(Instr.makeSlice 104 (.int .i64 0) (.int .i64 0)).run Tryz.prog w=.ok (.slice (some ⟨w.heap.size,0,none⟩) 0 0) (w.alloc (.cells #[] 299)):=fun _=>by kernel_rfl
 go_enter Tryz.func107,Tryz.ntmps107
 go_wp2_with fail
 go_loopw [3,4] (fun i _ wr=>i=.int .i64 0∧Below w.heap.size w wr) (fun _ _ _=>0)
 case atStart=>exact ⟨rfl,Below.refl _ _⟩
 case round =>
  obtain ⟨rfl,hbel⟩:=hrel
  have hb:Below w.heap.size w (wr.alloc (.cells #[] 299)):=hbel.alloc hbel.size _
  go_wp2_with fail
  generalize wr.alloc (.cells #[] 299)=w1 at hb ⊢
  go_loopw [6,7,8] (fun i _ _ wr=>i=.int .i64 0∧Below w.heap.size w wr) (fun _ _ _ _=>0)
  case atStart=>exact ⟨rfl,hb⟩
  case round =>
   clear hb hbel
   obtain ⟨rfl,hbel⟩:=hrel
   go_wp2_with fail
   go_loopw [9,10] (fun i _ wr=>i=.int .i64 0∧Below w.heap.size w wr) (fun _ _ _=>0)
   case atStart=>exact ⟨rfl,hbel⟩
   case round =>
    clear hbel
    obtain ⟨rfl,hbel⟩:=hrel
    go_wp2_with fail
    go_loopw [11,12,13] (fun i _ _ wr=>i=.int .i64 0∧Below w.heap.size w wr) (fun _ _ _ _=>0)
    case atStart=>exact ⟨rfl,hbel⟩
    case round =>
     clear hbel
     obtain ⟨rfl,hbel⟩:=hrel
     go_wp2_with fail
     go_loopw [14,15] (fun i _ wr=>i=.int .i64 0∧Below w.heap.size w wr) (fun _ _ _=>0)
     case atStart=>exact ⟨rfl,hbel⟩
     case round =>
      clear hbel
      obtain ⟨rfl,hbel⟩:=hrel
      go_wp2_with fail
      go_ret
      exact ⟨rfl,hbel⟩
end Go.Proofs.YtglgcjkglhlggaaGreatDoor
/- The bag of lists of lists: what it holds, kind by kind, and what is put in. Conditions: the bag is one of the call's own. -/
namespace Go.Proofs.YtglgcjkglhlggaaGreatDoor
open Go.RowKit
set_option maxRecDepth 20000
/-- The type of the lists of the i-th kind; 0: there are none of it. -/
def bagE (i:Nat):TypeId:=if i=2 then 24 else if i=5 then 25 else if i=6 then 51 else if i=20 then 23 else if i=21 then 44 else 0
theorem bagE_ne (i:Nat):bagE i ≠ 106:=by
 unfold bagE
 repeat' split
 all_goals decide
theorem bagE_inj {i j:Nat}(h:bagE i ≠ 0)(e:bagE i=bagE j):i=j:=by
 unfold bagE at h e
 repeat' split at h
 all_goals (repeat' split at e)
 all_goals first | omega | (exfalso;revert e;decide) | (exfalso;revert h;decide)
/-- Block bb is a bag whose lists hold these rows. -/
structure Bag (w:World) (B bb:Nat) (f:Nat→Value) (rows:Nat→List Value):Prop where
 is:w.heap[bb]?=some (.cells ((List.range 29).map f).toArray 106 (0,0))
 own:∀ i,w.ownsRow B (bagE i) 1 (f i) (rows i).length (rows i)
 nil:∀ i,rows i=[]→f i=.slice none 0 0
 unused:∀ i,bagE i=0→rows i=[]
 base:B≤bb
theorem Bag.lt {w:World}{B bb:Nat}{f:Nat→Value}{rows:Nat→List Value}(h:Bag w B bb f rows):bb<w.heap.size:=(Array.getElem?_eq_some_iff.1 h.is).1
theorem Bag.cell {w:World}{B bb:Nat}{f:Nat→Value}{rows:Nat→List Value}(h:Bag w B bb f rows)(i:Nat)(hi:i<29):w.cell? ⟨bb,i,none⟩=some (f i):=by
 rw [cob h.is i,List.getElem?_toArray,List.getElem?_map,List.getElem?_range hi];rfl
theorem Bag.below {w w':World}{B bb B':Nat}{f:Nat→Value}{rows:Nat→List Value}(h:Bag w B bb f rows)(hb:Below B' w w')(hB:w.heap.size≤B'):Bag w' B bb f rows :=
 ⟨(hb.block bb (Nat.lt_of_lt_of_le h.lt hB)).trans h.is,fun i=>own_below (h.own i) hb hB,h.nil,h.unused,h.base⟩
theorem Bag.apart {w:World}{B bb:Nat}{f:Nat→Value}{rows:Nat→List Value}(h:Bag w B bb f rows)(i:Nat):(f i).ownBlock ≠ some bb:=by
 intro hh
 rcases (h.own i).2 with ⟨h1,_⟩ | ⟨g,cap,cur,h1,_,g1,_⟩
 · rw [h1] at hh;simp [Value.ownBlock] at hh
 ·
  rw [h1] at hh
  simp [Value.ownBlock] at hh
  subst hh
  rw [h.is] at g1
  simp only [Option.some.injEq,Obj.cells.injEq] at g1
  exact bagE_ne i g1.2.1.symm
theorem Bag.sep {w:World}{B bb:Nat}{f:Nat→Value}{rows:Nat→List Value}(h:Bag w B bb f rows)(i j:Nat)(hij:i ≠ j):(f i).ownBlock=.none∨(f i).ownBlock ≠ (f j).ownBlock:=by
 by_cases h0:bagE i=0
 · left;rw [h.nil i (h.unused i h0)];rfl
 · exact own_apart (h.own i) (h.own j) (fun e=>hij (bagE_inj h0 e))
def upd {α:Type} (rows:Nat→α) (i:Nat) (x:α):Nat→α:=fun j=>if j=i then x else rows j
theorem upd_at {α:Type}(rows:Nat→α)(i:Nat)(x:α):upd rows i x i=x:=if_pos rfl
theorem upd_ne {α:Type}(rows:Nat→α){i j:Nat}(x:α)(h:j ≠ i):upd rows i x j=rows j:=if_neg h
/-- A bag as it is made. -/
theorem Bag.made (w:World):Bag (w.alloc (.cells ((List.range 29).map fun _=>Value.slice .none 0 0).toArray 106)) w.heap.size w.heap.size (fun _=>.slice .none 0 0) (fun _=>[]) :=
 ⟨heap_alloc_new w _,fun _=>World.ownsRow_nil _ _ _ _,fun _ _=>rfl,fun _ _=>rfl,nlr _⟩
/-- One list more of a kind. -/
theorem Bag.put {w w3:World}{B bb:Nat}{f:Nat→Value}{rows:Nat→List Value}(h:Bag w B bb f rows)(i:Nat)(hi:i<29)(h0:bagE i ≠ 0){v x:Value}(hown:w3.ownsRow B (bagE i) 1 v ((rows i).length+1) (rows i ++ [x]))(hg:w.grownBy w3 (f i).ownBlock) :
  Bag (w3.setCell ⟨bb,i,.none⟩ v) B bb (upd f i v) (upd rows i (rows i ++ [x])):=by
 have hb3:w3.heap[bb]?=some (.cells ((List.range 29).map f).toArray 106 (0,0)):=(hg.block bb h.lt (fun e=>h.apart i e.symm)).trans h.is
 have hvb:v.ownBlock ≠ some bb:=by
  intro hh
  rcases hown.2 with ⟨h1,_⟩ | ⟨g,cap,cur,h1,_,g1,_⟩
  · rw [h1] at hh;simp [Value.ownBlock] at hh
  ·
   rw [h1] at hh
   simp [Value.ownBlock] at hh
   subst hh
   rw [hb3] at g1
   simp only [Option.some.injEq,Obj.cells.injEq] at g1
   exact bagE_ne i g1.2.1.symm
 refine ⟨?_,fun j=>?_,fun j hj=>?_,fun j hj=>?_,h.base⟩
 ·
  rw [Go.Joins.block_setCell hb3 v]
  congr 2
  rw [List.setIfInBounds_toArray,range_set]
  rfl
 ·
  by_cases e:j=i
  ·
   subst e
   rw [upd_at,upd_at,List.length_append]
   exact ownsRow_setCell_other hown hvb v
  ·
   rw [upd_ne f v e,upd_ne rows _ e]
   exact ownsRow_setCell_other (World.ownsRow.kept (h.own j) hg (h.sep j i e)) (h.apart j) v
 ·
  by_cases e:j=i
  ·
   subst e
   rw [upd_at] at hj
   simp at hj
  ·
   rw [upd_ne f v e]
   rw [upd_ne rows _ e] at hj
   exact h.nil j hj
 ·
  by_cases e:j=i
  · subst e;exact absurd hj h0
  · rw [upd_ne rows _ e];exact h.unused j hj
/-- Blocks that are no bag's are as they were. -/
def BagKeeps (w w':World):Prop:=∀ (b:Nat) (cs:Array Value) (T:TypeId) (fz:Nat × Nat),w.heap[b]?=some (Obj.cells cs T fz)→T ≠ 106→(∀ i,T ≠ bagE i)→w'.heap[b]?=some (Obj.cells cs T fz)
theorem BagKeeps.trans {w w' w'':World}(h:BagKeeps w w')(h2:BagKeeps w' w''):BagKeeps w w'':=fun b cs T fz hb h3 h4=>h2 b cs T fz (h b cs T fz hb h3 h4) h3 h4
theorem BagKeeps.alloc (w:World)(o:Obj):BagKeeps w (w.alloc o):=fun b cs T fz h _ _=>by
 rw [(World.grownBy_alloc w o .none).block b (Array.getElem?_eq_some_iff.1 h).1 (by simp)];exact h
theorem Bag.keeps {w w3:World}{B bb:Nat}{f:Nat→Value}{rows:Nat→List Value}(h:Bag w B bb f rows)(i:Nat)(hg:w.grownBy w3 (f i).ownBlock)(v:Value):BagKeeps w (w3.setCell ⟨bb,i,.none⟩ v):=fun b cs T fz hb h3 h4=>by
 have hne:b ≠ bb:=by
  intro e
  subst e
  rw [h.is] at hb
  simp only [Option.some.injEq,Obj.cells.injEq] at hb
  exact h3 hb.2.1.symm
 have hnb:(f i).ownBlock ≠ some b:=by
  intro hh
  rcases (h.own i).2 with ⟨h1,_⟩ | ⟨g,cap,cur,h1,_,g1,_⟩
  · rw [h1] at hh;simp [Value.ownBlock] at hh
  ·
   rw [h1] at hh
   simp [Value.ownBlock] at hh
   subst hh
   rw [hb] at g1
   simp only [Option.some.injEq,Obj.cells.injEq] at g1
   exact h4 i g1.2.1
 rw [heap_setCell_other _ _ _ _ hne,hg.block b (Array.getElem?_eq_some_iff.1 hb).1 (fun e=>hnb e.symm)]
 exact hb
theorem info24 {P:Program}{e:TypeId}(h:(P.info? e).map (fun i=>(i.zero,i.size,i.bytes))=some (some (.slice .none 0 0),1,24)):∃ i0,P.info? e=some i0∧i0.zero=some (.slice .none 0 0)∧i0.size=1∧i0.bytes=24:=info_parts h
theorem putInts_bag (B bb:Nat)(f:Nat→Value)(rows:Nat→List Value)(a:Option Addr)(n c:Nat)(w:World)(hb:Bag w B bb f rows)(hB:B≤w.heap.size)(hm:(rows 2).length≤1000000) :
  Calls Tryz.prog 185 #[.pointer (some ⟨bb,0,none⟩),.slice a n c] w fun e w'=>e=.returned (.tuple #[])∧(∃ f',Bag w' B bb f' (upd rows 2 (rows 2 ++ [.slice a n c])))∧Below B w w'∧BagKeeps w w':=by
 obtain ⟨i0,hi,hz0,hz1,hz2⟩:=info24 (show (Tryz.prog.info? 24).map (fun i=>(i.zero,i.size,i.bytes))=some (some (.slice none 0 0),1,24) by kernel_rfl)
 have c5:w.cell? ⟨bb,2,none⟩=some (f 2):=hb.cell 2 (by decide)
 have HB:=Hd hb
 have hbl:=hb.lt
 clear hb
 obtain ⟨v,hv⟩:∃ v,v=f 2:=⟨_,rfl⟩
 obtain ⟨R,hR⟩:∃ R,R=rows 2:=⟨_,rfl⟩
 rw [← hv] at c5
 rw [← hR] at hm
 have HO:=Hd (show w.ownsRow B 24 1 v R.length R by rw [hv,hR];exact HB.out.own 2)
 have HV:=Hd hv
 have HR:=Hd hR
 clear hv hR
 go_enter Tryz.func185,Tryz.ntmps185
 go_wp2_with (at_builtin;refine wpList_append_own _ rfl (.tmp 8) (.tmp 10) 80 rfl B 24 i0 (.slice none 0 0) 1 24 Tryz.underlying80 hi hz0 hz1 hz2 rfl (by decide) v R.length R rfl (HO.out.alloc _) ⟨w.heap.size,0,none⟩ 1 1 [.slice a n c] rfl rfl (cell_one_new _ _ _) (by simp [Value.oneCell']) (by unfold maxLen;omega) (by omega) (by simp;omega) ?_)
 intro v' w3 hown3 hg3 _
 obtain ⟨a3,c3,hv3,_,_,_⟩:=row_form hown3
 subst hv3
 have hga:w.grownBy w3 (f 2).ownBlock:=by
  rw [← HV.out]
  exact (World.grownBy_alloc w _ _).trans hg3
 have hB2:=HB.out.put 2 (by decide) (by decide) (v:=.slice a3 (R.length+1) c3) (x:=.slice a n c) (by rw [← HR.out];exact hown3) hga
 have hb3:w3.heap[bb]?=some (.cells ((List.range 29).map f).toArray 106 (0,0)):=(hga.block bb hbl (fun e=>HB.out.apart 2 e.symm)).trans HB.out.is
 have d5:w3.cell? ⟨bb,2,none⟩=some v:=by
  rw [cob hb3 2,List.getElem?_toArray,List.getElem?_map,List.getElem?_range (by decide),HV.out];rfl
 have f5:w3.frozen? ⟨bb,2,none⟩=false:=ufb hb3 2
 have hbw:Below B w (w3.setCell ⟨bb,2,none⟩ (.slice a3 (R.length+1) c3)):=(((Below.refl B w).grown hga hB (fun k hk=>((HB.out.own 2).lt k hk).1)).setCell (p:=⟨bb,2,none⟩) HB.out.base _)
 have H1:=Hd hB2
 have H3:=Hd hbw
 have H4:=Hd (HB.out.keeps 2 hga (.slice a3 (R.length+1) c3))
 clear hB2 hbw hown3 hg3 hb3 hga
 go_wp2_with fail
 go_end0
 exact ⟨rfl,⟨_,H1.out⟩,H3.out,H4.out⟩
theorem putBytes_bag (B bb:Nat)(f:Nat→Value)(rows:Nat→List Value)(a:Option Addr)(n c:Nat)(w:World)(hb:Bag w B bb f rows)(hB:B≤w.heap.size)(hm:(rows 5).length≤1000000) :
  Calls Tryz.prog 47 #[.pointer (some ⟨bb,0,none⟩),.slice a n c] w fun e w'=>e=.returned (.tuple #[])∧(∃ f',Bag w' B bb f' (upd rows 5 (rows 5 ++ [.slice a n c])))∧Below B w w'∧BagKeeps w w':=by
 obtain ⟨i0,hi,hz0,hz1,hz2⟩:=info24 (show (Tryz.prog.info? 25).map (fun i=>(i.zero,i.size,i.bytes))=some (some (.slice none 0 0),1,24) by kernel_rfl)
 have c5:w.cell? ⟨bb,5,none⟩=some (f 5):=hb.cell 5 (by decide)
 have HB:=Hd hb
 have hbl:=hb.lt
 clear hb
 obtain ⟨v,hv⟩:∃ v,v=f 5:=⟨_,rfl⟩
 obtain ⟨R,hR⟩:∃ R,R=rows 5:=⟨_,rfl⟩
 rw [← hv] at c5
 rw [← hR] at hm
 have HO:=Hd (show w.ownsRow B 25 1 v R.length R by rw [hv,hR];exact HB.out.own 5)
 have HV:=Hd hv
 have HR:=Hd hR
 clear hv hR
 go_enter Tryz.func47,Tryz.ntmps47
 go_wp2_with (at_builtin;refine wpList_append_own _ rfl (.tmp 8) (.tmp 10) 38 rfl B 25 i0 (.slice none 0 0) 1 24 Tryz.underlying38 hi hz0 hz1 hz2 rfl (by decide) v R.length R rfl (HO.out.alloc _) ⟨w.heap.size,0,none⟩ 1 1 [.slice a n c] rfl rfl (cell_one_new _ _ _) (by simp [Value.oneCell']) (by unfold maxLen;omega) (by omega) (by simp;omega) ?_)
 intro v' w3 hown3 hg3 _
 obtain ⟨a3,c3,hv3,_,_,_⟩:=row_form hown3
 subst hv3
 have hga:w.grownBy w3 (f 5).ownBlock:=by
  rw [← HV.out]
  exact (World.grownBy_alloc w _ _).trans hg3
 have hB2:=HB.out.put 5 (by decide) (by decide) (v:=.slice a3 (R.length+1) c3) (x:=.slice a n c) (by rw [← HR.out];exact hown3) hga
 have hb3:w3.heap[bb]?=some (.cells ((List.range 29).map f).toArray 106 (0,0)):=(hga.block bb hbl (fun e=>HB.out.apart 5 e.symm)).trans HB.out.is
 have d5:w3.cell? ⟨bb,5,none⟩=some v:=by
  rw [cob hb3 5,List.getElem?_toArray,List.getElem?_map,List.getElem?_range (by decide),HV.out];rfl
 have f5:w3.frozen? ⟨bb,5,none⟩=false:=ufb hb3 5
 have hbw:Below B w (w3.setCell ⟨bb,5,none⟩ (.slice a3 (R.length+1) c3)):=(((Below.refl B w).grown hga hB (fun k hk=>((HB.out.own 5).lt k hk).1)).setCell (p:=⟨bb,5,none⟩) HB.out.base _)
 have H1:=Hd hB2
 have H3:=Hd hbw
 have H4:=Hd (HB.out.keeps 5 hga (.slice a3 (R.length+1) c3))
 clear hB2 hbw hown3 hg3 hb3 hga
 go_wp2_with fail
 go_end0
 exact ⟨rfl,⟨_,H1.out⟩,H3.out,H4.out⟩
theorem putValues_bag (B bb:Nat)(f:Nat→Value)(rows:Nat→List Value)(a:Option Addr)(n c:Nat)(w:World)(hb:Bag w B bb f rows)(hB:B≤w.heap.size)(hm:(rows 6).length≤1000000) :
  Calls Tryz.prog 225 #[.pointer (some ⟨bb,0,none⟩),.slice a n c] w fun e w'=>e=.returned (.tuple #[])∧(∃ f',Bag w' B bb f' (upd rows 6 (rows 6 ++ [.slice a n c])))∧Below B w w'∧BagKeeps w w':=by
 obtain ⟨i0,hi,hz0,hz1,hz2⟩:=info24 (show (Tryz.prog.info? 51).map (fun i=>(i.zero,i.size,i.bytes))=some (some (.slice none 0 0),1,24) by kernel_rfl)
 have c5:w.cell? ⟨bb,6,none⟩=some (f 6):=hb.cell 6 (by decide)
 have HB:=Hd hb
 have hbl:=hb.lt
 clear hb
 obtain ⟨v,hv⟩:∃ v,v=f 6:=⟨_,rfl⟩
 obtain ⟨R,hR⟩:∃ R,R=rows 6:=⟨_,rfl⟩
 rw [← hv] at c5
 rw [← hR] at hm
 have HO:=Hd (show w.ownsRow B 51 1 v R.length R by rw [hv,hR];exact HB.out.own 6)
 have HV:=Hd hv
 have HR:=Hd hR
 clear hv hR
 go_enter Tryz.func225,Tryz.ntmps225
 go_wp2_with (at_builtin;refine wpList_append_own _ rfl (.tmp 8) (.tmp 10) 83 rfl B 51 i0 (.slice none 0 0) 1 24 Tryz.underlying83 hi hz0 hz1 hz2 rfl (by decide) v R.length R rfl (HO.out.alloc _) ⟨w.heap.size,0,none⟩ 1 1 [.slice a n c] rfl rfl (cell_one_new _ _ _) (by simp [Value.oneCell']) (by unfold maxLen;omega) (by omega) (by simp;omega) ?_)
 intro v' w3 hown3 hg3 _
 obtain ⟨a3,c3,hv3,_,_,_⟩:=row_form hown3
 subst hv3
 have hga:w.grownBy w3 (f 6).ownBlock:=by
  rw [← HV.out]
  exact (World.grownBy_alloc w _ _).trans hg3
 have hB2:=HB.out.put 6 (by decide) (by decide) (v:=.slice a3 (R.length+1) c3) (x:=.slice a n c) (by rw [← HR.out];exact hown3) hga
 have hb3:w3.heap[bb]?=some (.cells ((List.range 29).map f).toArray 106 (0,0)):=(hga.block bb hbl (fun e=>HB.out.apart 6 e.symm)).trans HB.out.is
 have d5:w3.cell? ⟨bb,6,none⟩=some v:=by
  rw [cob hb3 6,List.getElem?_toArray,List.getElem?_map,List.getElem?_range (by decide),HV.out];rfl
 have f5:w3.frozen? ⟨bb,6,none⟩=false:=ufb hb3 6
 have hbw:Below B w (w3.setCell ⟨bb,6,none⟩ (.slice a3 (R.length+1) c3)):=(((Below.refl B w).grown hga hB (fun k hk=>((HB.out.own 6).lt k hk).1)).setCell (p:=⟨bb,6,none⟩) HB.out.base _)
 have H1:=Hd hB2
 have H3:=Hd hbw
 have H4:=Hd (HB.out.keeps 6 hga (.slice a3 (R.length+1) c3))
 clear hB2 hbw hown3 hg3 hb3 hga
 go_wp2_with fail
 go_end0
 exact ⟨rfl,⟨_,H1.out⟩,H3.out,H4.out⟩
end Go.Proofs.YtglgcjkglhlggaaGreatDoor
