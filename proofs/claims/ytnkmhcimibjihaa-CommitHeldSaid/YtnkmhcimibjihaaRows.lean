/-
  No cell of these rows narrows 'for every input' (looked for: loops, veiled, ifaces, maps, wideKeys, modest, calm, conditions, laid).
  DERIVED. THE GIVEN ROWS OF THIS SEAT. 7 by the template 'for every input the law returns true; each argument reads behind the call as it read before'; 0 by the template 'total and deterministic' (their statements: YtnkmhcimibjihaaTotals.lean).
  GIVEN WITH THE SEED: the statements are not yours to turn. If you find one false, say at which input.
  Laid BY PROGRAM, IN A SANDBOX (cutbox-rows.mjs): the forced cells as the released guide's own fill.sh prints them over the translation df2f967fb91585fd… (all of the seat's roots in one cut). By AI agents, Wed Nov 11 2026. No macro, syntax, notation, axiom, sorry.
-/
import Derived.Test.YtnkmhcimibjihaaChecked
import GoSem.Claim
import GoSem.ClaimJoined
import GoSem.ClaimMapViews
import Derived.JoinedTies
import Derived.KernelRfl
namespace Go.Proofs.Ytnkmhcimibjihaa
/- THE CELL 'sum', in the pinned program and in every row, IS THE sha256 OF THE DUMP (.gsa) THAT YtnkmhcimibjihaaProg.lean LOADS. Nothing in Lean hashes anything: it is a label: what it is worth is what the hold of that sum in a sandbox is worth. -/
noncomputable def Try.pinned : Pinned := { name := "ytnkmhcimibjihaa", sum := "df2f967fb91585fdbb28e49296fe10da56097f0675da537a2f2119d7d22ee89b", checked := Try.checked }
namespace Rows
def none {H : Type} : Left H := { results := [], args := [] }

/-- 'ropewalklaw22.QuorumTells': WHATEVER THE INPUT: true; the input reads as it did. -/
def quorumTellsSpec : ChangeSpec := { name := "quorumTells", fn := fun _ => fun
  | [d1, d2, d3] => { results := [.lit (.bool true)], args := [d1, d2, d3] }
  | _ => none }
def quorumTellsRow : OpenClaim := { program := "ytnkmhcimibjihaa", sum := "df2f967fb91585fdbb28e49296fe10da56097f0675da537a2f2119d7d22ee89b", func := "ropewalk/ropewalklaw22.QuorumTells", spec := "quorumTells", unfollowed := true, recurses := true, apart := false }
def QuorumTellsSaid : Prop := quorumTellsRow.holds Try.pinned (OpenSpec.ofChange quorumTellsSpec)

/-- ITS FALSE NEIGHBOUR: 'it returns false'. Refute it at one input. -/
def quorumTellsWrong : ChangeSpec := { name := "quorumTells", fn := fun _ => fun
  | [d1, d2, d3] => { results := [.lit (.bool false)], args := [d1, d2, d3] }
  | _ => none }
def QuorumTellsWrongFalsely : Prop := quorumTellsRow.holds Try.pinned (OpenSpec.ofChange quorumTellsWrong)

/-- 'ropewalklaw22.QuorumMeets': WHATEVER THE INPUT: true; the input reads as it did. -/
def quorumMeetsSpec : ChangeSpec := { name := "quorumMeets", fn := fun _ => fun
  | [d1, d2, d3, d4] => { results := [.lit (.bool true)], args := [d1, d2, d3, d4] }
  | _ => none }
def quorumMeetsRow : OpenClaim := { program := "ytnkmhcimibjihaa", sum := "df2f967fb91585fdbb28e49296fe10da56097f0675da537a2f2119d7d22ee89b", func := "ropewalk/ropewalklaw22.QuorumMeets", spec := "quorumMeets", unfollowed := true, recurses := true, apart := false }
def QuorumMeetsSaid : Prop := quorumMeetsRow.holds Try.pinned (OpenSpec.ofChange quorumMeetsSpec)

/-- ITS FALSE NEIGHBOUR: 'it returns false'. Refute it at one input. -/
def quorumMeetsWrong : ChangeSpec := { name := "quorumMeets", fn := fun _ => fun
  | [d1, d2, d3, d4] => { results := [.lit (.bool false)], args := [d1, d2, d3, d4] }
  | _ => none }
def QuorumMeetsWrongFalsely : Prop := quorumMeetsRow.holds Try.pinned (OpenSpec.ofChange quorumMeetsWrong)

/-- 'ropewalklaw22.QuorumGrows': WHATEVER THE INPUT: true; the input reads as it did. -/
def quorumGrowsSpec : ChangeSpec := { name := "quorumGrows", fn := fun _ => fun
  | [d1, d2, d3] => { results := [.lit (.bool true)], args := [d1, d2, d3] }
  | _ => none }
def quorumGrowsRow : OpenClaim := { program := "ytnkmhcimibjihaa", sum := "df2f967fb91585fdbb28e49296fe10da56097f0675da537a2f2119d7d22ee89b", func := "ropewalk/ropewalklaw22.QuorumGrows", spec := "quorumGrows", unfollowed := true, recurses := true, apart := false }
def QuorumGrowsSaid : Prop := quorumGrowsRow.holds Try.pinned (OpenSpec.ofChange quorumGrowsSpec)

/-- ITS FALSE NEIGHBOUR: 'it returns false'. Refute it at one input. -/
def quorumGrowsWrong : ChangeSpec := { name := "quorumGrows", fn := fun _ => fun
  | [d1, d2, d3] => { results := [.lit (.bool false)], args := [d1, d2, d3] }
  | _ => none }
def QuorumGrowsWrongFalsely : Prop := quorumGrowsRow.holds Try.pinned (OpenSpec.ofChange quorumGrowsWrong)

/-- 'ropewalklaw25.CommitIndex': WHATEVER THE INPUT: true; the input reads as it did. -/
def commitIndexSpec : ChangeSpec := { name := "commitIndex", fn := fun _ => fun
  | [d1, d2] => { results := [.lit (.bool true)], args := [d1, d2] }
  | _ => none }
def commitIndexRow : OpenClaim := { program := "ytnkmhcimibjihaa", sum := "df2f967fb91585fdbb28e49296fe10da56097f0675da537a2f2119d7d22ee89b", func := "ropewalk/ropewalklaw25.CommitIndex", spec := "commitIndex", unfollowed := true, recurses := true, apart := false }
def CommitIndexSaid : Prop := commitIndexRow.holds Try.pinned (OpenSpec.ofChange commitIndexSpec)

/-- ITS FALSE NEIGHBOUR: 'it returns false'. Refute it at one input. -/
def commitIndexWrong : ChangeSpec := { name := "commitIndex", fn := fun _ => fun
  | [d1, d2] => { results := [.lit (.bool false)], args := [d1, d2] }
  | _ => none }
def CommitIndexWrongFalsely : Prop := commitIndexRow.holds Try.pinned (OpenSpec.ofChange commitIndexWrong)

/-- 'ropewalklaw25.CommitNext': WHATEVER THE INPUT: true; the input reads as it did. -/
def commitNextSpec : ChangeSpec := { name := "commitNext", fn := fun _ => fun
  | [d1, d2, d3, d4] => { results := [.lit (.bool true)], args := [d1, d2, d3, d4] }
  | _ => none }
def commitNextRow : OpenClaim := { program := "ytnkmhcimibjihaa", sum := "df2f967fb91585fdbb28e49296fe10da56097f0675da537a2f2119d7d22ee89b", func := "ropewalk/ropewalklaw25.CommitNext", spec := "commitNext", unfollowed := true, recurses := true, apart := false }
def CommitNextSaid : Prop := commitNextRow.holds Try.pinned (OpenSpec.ofChange commitNextSpec)

/-- ITS FALSE NEIGHBOUR: 'it returns false'. Refute it at one input. -/
def commitNextWrong : ChangeSpec := { name := "commitNext", fn := fun _ => fun
  | [d1, d2, d3, d4] => { results := [.lit (.bool false)], args := [d1, d2, d3, d4] }
  | _ => none }
def CommitNextWrongFalsely : Prop := commitNextRow.holds Try.pinned (OpenSpec.ofChange commitNextWrong)

/-- 'ropewalklaw25.CommitNumbers': WHATEVER THE INPUT: true; the input reads as it did. -/
def commitNumbersSpec : ChangeSpec := { name := "commitNumbers", fn := fun _ => fun
  | [] => { results := [.lit (.bool true)], args := [] }
  | _ => none }
def commitNumbersRow : OpenClaim := { program := "ytnkmhcimibjihaa", sum := "df2f967fb91585fdbb28e49296fe10da56097f0675da537a2f2119d7d22ee89b", func := "ropewalk/ropewalklaw25.CommitNumbers", spec := "commitNumbers", unfollowed := true, recurses := true, apart := false }
def CommitNumbersSaid : Prop := commitNumbersRow.holds Try.pinned (OpenSpec.ofChange commitNumbersSpec)

/-- ITS FALSE NEIGHBOUR: 'it returns false'. Refute it at one input. -/
def commitNumbersWrong : ChangeSpec := { name := "commitNumbers", fn := fun _ => fun
  | [] => { results := [.lit (.bool false)], args := [] }
  | _ => none }
def CommitNumbersWrongFalsely : Prop := commitNumbersRow.holds Try.pinned (OpenSpec.ofChange commitNumbersWrong)

/-- 'ropewalklaw25.CommitHeld': WHATEVER THE INPUT: true; the input reads as it did. -/
def commitHeldSpec : ChangeSpec := { name := "commitHeld", fn := fun _ => fun
  | [d1, d2, d3, d4] => { results := [.lit (.bool true)], args := [d1, d2, d3, d4] }
  | _ => none }
def commitHeldRow : OpenClaim := { program := "ytnkmhcimibjihaa", sum := "df2f967fb91585fdbb28e49296fe10da56097f0675da537a2f2119d7d22ee89b", func := "ropewalk/ropewalklaw25.CommitHeld", spec := "commitHeld", unfollowed := true, recurses := true, apart := false }
def CommitHeldSaid : Prop := commitHeldRow.holds Try.pinned (OpenSpec.ofChange commitHeldSpec)

/-- ITS FALSE NEIGHBOUR: 'it returns false'. Refute it at one input. -/
def commitHeldWrong : ChangeSpec := { name := "commitHeld", fn := fun _ => fun
  | [d1, d2, d3, d4] => { results := [.lit (.bool false)], args := [d1, d2, d3, d4] }
  | _ => none }
def CommitHeldWrongFalsely : Prop := commitHeldRow.holds Try.pinned (OpenSpec.ofChange commitHeldWrong)

/- THE SECOND FORM. 'bulk': how many values and letters a reading holds, each counted each time it is reached (what is shared counts as often as it is met; a slice's spare places count too). A statement '..UptoSaid' is the law's where the arguments, and the package variables that the reading takes, are together of bulk at most 1048576: NARROWER than '..Said'. Prove '..Said' where nothing that the law and all that it calls make is longer than what came in: it says more and counts as full. Else prove '..UptoSaid'. A law counts once. -/
mutual
def uptoBulk {H : Type} : DataW H → Nat
  | .lit (.string bytes) => bytes.length + 1
  | .lit _ => 1
  | .nil => 1
  | .ptr d => uptoBulk d + 1
  | .slice elems spare => uptoBulkAll elems + uptoBulkAll spare + 1
  | .agg parts => uptoBulkAll parts + 1
  | .iface _ d => uptoBulk d + 1
  | .map entries => uptoBulkEntries entries + 1
  | .held _ => 1
def uptoBulkAll {H : Type} : List (DataW H) → Nat
  | [] => 0
  | d :: r => uptoBulk d + uptoBulkAll r
def uptoBulkEntries {H : Type} : List (Lit × DataW H) → Nat
  | [] => 0
  | x :: r => uptoBulkEntry x + uptoBulkEntries r
def uptoBulkEntry {H : Type} : Lit × DataW H → Nat
  | (.string bytes, d) => bytes.length + uptoBulk d + 1
  | (_, d) => uptoBulk d + 1
 end
def uptoSmall : (H : Type) → List (DataW H) → Bool := fun _ ds => decide (uptoBulkAll ds ≤ 1048576)
def OpenSpec.upto (s : _root_.Go.ChangeSpec) : _root_.Go.OpenSpec := { _root_.Go.OpenSpec.ofChange s with cond := some uptoSmall }

/-- 'ropewalklaw22.QuorumTells', WHERE WHAT IT READS IS OF BULK AT MOST 1048576: true; the input reads as it did. -/
def quorumTellsUptoRow : OpenClaim := { program := "ytnkmhcimibjihaa", sum := "df2f967fb91585fdbb28e49296fe10da56097f0675da537a2f2119d7d22ee89b", func := "ropewalk/ropewalklaw22.QuorumTells", spec := "quorumTells", unfollowed := true, recurses := true, apart := false, narrowed := true }
def QuorumTellsUptoSaid : Prop := quorumTellsUptoRow.holds Try.pinned (OpenSpec.upto quorumTellsSpec)

/-- 'ropewalklaw22.QuorumMeets', WHERE WHAT IT READS IS OF BULK AT MOST 1048576: true; the input reads as it did. -/
def quorumMeetsUptoRow : OpenClaim := { program := "ytnkmhcimibjihaa", sum := "df2f967fb91585fdbb28e49296fe10da56097f0675da537a2f2119d7d22ee89b", func := "ropewalk/ropewalklaw22.QuorumMeets", spec := "quorumMeets", unfollowed := true, recurses := true, apart := false, narrowed := true }
def QuorumMeetsUptoSaid : Prop := quorumMeetsUptoRow.holds Try.pinned (OpenSpec.upto quorumMeetsSpec)

/-- 'ropewalklaw22.QuorumGrows', WHERE WHAT IT READS IS OF BULK AT MOST 1048576: true; the input reads as it did. -/
def quorumGrowsUptoRow : OpenClaim := { program := "ytnkmhcimibjihaa", sum := "df2f967fb91585fdbb28e49296fe10da56097f0675da537a2f2119d7d22ee89b", func := "ropewalk/ropewalklaw22.QuorumGrows", spec := "quorumGrows", unfollowed := true, recurses := true, apart := false, narrowed := true }
def QuorumGrowsUptoSaid : Prop := quorumGrowsUptoRow.holds Try.pinned (OpenSpec.upto quorumGrowsSpec)

/-- 'ropewalklaw25.CommitIndex', WHERE WHAT IT READS IS OF BULK AT MOST 1048576: true; the input reads as it did. -/
def commitIndexUptoRow : OpenClaim := { program := "ytnkmhcimibjihaa", sum := "df2f967fb91585fdbb28e49296fe10da56097f0675da537a2f2119d7d22ee89b", func := "ropewalk/ropewalklaw25.CommitIndex", spec := "commitIndex", unfollowed := true, recurses := true, apart := false, narrowed := true }
def CommitIndexUptoSaid : Prop := commitIndexUptoRow.holds Try.pinned (OpenSpec.upto commitIndexSpec)

/-- 'ropewalklaw25.CommitNext', WHERE WHAT IT READS IS OF BULK AT MOST 1048576: true; the input reads as it did. -/
def commitNextUptoRow : OpenClaim := { program := "ytnkmhcimibjihaa", sum := "df2f967fb91585fdbb28e49296fe10da56097f0675da537a2f2119d7d22ee89b", func := "ropewalk/ropewalklaw25.CommitNext", spec := "commitNext", unfollowed := true, recurses := true, apart := false, narrowed := true }
def CommitNextUptoSaid : Prop := commitNextUptoRow.holds Try.pinned (OpenSpec.upto commitNextSpec)

/-- 'ropewalklaw25.CommitNumbers', WHERE WHAT IT READS IS OF BULK AT MOST 1048576: true; the input reads as it did. -/
def commitNumbersUptoRow : OpenClaim := { program := "ytnkmhcimibjihaa", sum := "df2f967fb91585fdbb28e49296fe10da56097f0675da537a2f2119d7d22ee89b", func := "ropewalk/ropewalklaw25.CommitNumbers", spec := "commitNumbers", unfollowed := true, recurses := true, apart := false, narrowed := true }
def CommitNumbersUptoSaid : Prop := commitNumbersUptoRow.holds Try.pinned (OpenSpec.upto commitNumbersSpec)

/-- 'ropewalklaw25.CommitHeld', WHERE WHAT IT READS IS OF BULK AT MOST 1048576: true; the input reads as it did. -/
def commitHeldUptoRow : OpenClaim := { program := "ytnkmhcimibjihaa", sum := "df2f967fb91585fdbb28e49296fe10da56097f0675da537a2f2119d7d22ee89b", func := "ropewalk/ropewalklaw25.CommitHeld", spec := "commitHeld", unfollowed := true, recurses := true, apart := false, narrowed := true }
def CommitHeldUptoSaid : Prop := commitHeldUptoRow.holds Try.pinned (OpenSpec.upto commitHeldSpec)

end Rows
end Go.Proofs.Ytnkmhcimibjihaa
