/-
  No cell of these rows narrows 'for every input' (looked for: loops, veiled, ifaces, maps, wideKeys, modest, calm, conditions, laid).
  DERIVED. THE GIVEN ROWS OF THIS SEAT. 5 by the template 'for every input the law returns true; each argument reads behind the call as it read before'; 0 by the template 'total and deterministic' (their statements: YthokoihgbionmaaTotals.lean).
  GIVEN WITH THE SEED: the statements are not yours to turn. If you find one false, say at which input.
  Laid BY PROGRAM, IN A SANDBOX (cutbox-rows.mjs): the forced cells as the released guide's own fill.sh prints them over the translation 72720cece204ec8c… (all of the seat's roots in one cut). By AI agents, Wed Nov 11 2026. No macro, syntax, notation, axiom, sorry.
-/
import Derived.Test.YthokoihgbionmaaChecked
import GoSem.Claim
import GoSem.ClaimJoined
import GoSem.ClaimMapViews
import Derived.JoinedTies
import Derived.KernelRfl
namespace Go.Proofs.Ythokoihgbionmaa
/- THE CELL 'sum', in the pinned program and in every row, IS THE sha256 OF THE DUMP (.gsa) THAT YthokoihgbionmaaProg.lean LOADS. Nothing in Lean hashes anything: it is a label: what it is worth is what the hold of that sum in a sandbox is worth. -/
noncomputable def Try.pinned : Pinned := { name := "ythokoihgbionmaa", sum := "72720cece204ec8cbdfc4696b34b8f48fe6c752e335f07db9b1f2a3a03da2d56", checked := Try.checked }
namespace Rows
def none {H : Type} : Left H := { results := [], args := [] }

/-- 'ropewalklaw24.VoteNewer': WHATEVER THE INPUT: true; the input reads as it did. -/
def voteNewerSpec : ChangeSpec := { name := "voteNewer", fn := fun _ => fun
  | [d1, d2, d3, d4] => { results := [.lit (.bool true)], args := [d1, d2, d3, d4] }
  | _ => none }
def voteNewerRow : OpenClaim := { program := "ythokoihgbionmaa", sum := "72720cece204ec8cbdfc4696b34b8f48fe6c752e335f07db9b1f2a3a03da2d56", func := "ropewalk/ropewalklaw24.VoteNewer", spec := "voteNewer", apart := false }
def VoteNewerSaid : Prop := voteNewerRow.holds Try.pinned (OpenSpec.ofChange voteNewerSpec)

/-- ITS FALSE NEIGHBOUR: 'it returns false'. Refute it at one input. -/
def voteNewerWrong : ChangeSpec := { name := "voteNewer", fn := fun _ => fun
  | [d1, d2, d3, d4] => { results := [.lit (.bool false)], args := [d1, d2, d3, d4] }
  | _ => none }
def VoteNewerWrongFalsely : Prop := voteNewerRow.holds Try.pinned (OpenSpec.ofChange voteNewerWrong)

/-- 'ropewalklaw24.VoteGrants': WHATEVER THE INPUT: true; the input reads as it did. -/
def voteGrantsSpec : ChangeSpec := { name := "voteGrants", fn := fun _ => fun
  | [d1, d2, d3, d4, d5] => { results := [.lit (.bool true)], args := [d1, d2, d3, d4, d5] }
  | _ => none }
def voteGrantsRow : OpenClaim := { program := "ythokoihgbionmaa", sum := "72720cece204ec8cbdfc4696b34b8f48fe6c752e335f07db9b1f2a3a03da2d56", func := "ropewalk/ropewalklaw24.VoteGrants", spec := "voteGrants", apart := false }
def VoteGrantsSaid : Prop := voteGrantsRow.holds Try.pinned (OpenSpec.ofChange voteGrantsSpec)

/-- ITS FALSE NEIGHBOUR: 'it returns false'. Refute it at one input. -/
def voteGrantsWrong : ChangeSpec := { name := "voteGrants", fn := fun _ => fun
  | [d1, d2, d3, d4, d5] => { results := [.lit (.bool false)], args := [d1, d2, d3, d4, d5] }
  | _ => none }
def VoteGrantsWrongFalsely : Prop := voteGrantsRow.holds Try.pinned (OpenSpec.ofChange voteGrantsWrong)

/-- 'ropewalklaw24.VoteNumbers': WHATEVER THE INPUT: true; the input reads as it did. -/
def voteNumbersSpec : ChangeSpec := { name := "voteNumbers", fn := fun _ => fun
  | [] => { results := [.lit (.bool true)], args := [] }
  | _ => none }
def voteNumbersRow : OpenClaim := { program := "ythokoihgbionmaa", sum := "72720cece204ec8cbdfc4696b34b8f48fe6c752e335f07db9b1f2a3a03da2d56", func := "ropewalk/ropewalklaw24.VoteNumbers", spec := "voteNumbers", apart := false }
def VoteNumbersSaid : Prop := voteNumbersRow.holds Try.pinned (OpenSpec.ofChange voteNumbersSpec)

/-- ITS FALSE NEIGHBOUR: 'it returns false'. Refute it at one input. -/
def voteNumbersWrong : ChangeSpec := { name := "voteNumbers", fn := fun _ => fun
  | [] => { results := [.lit (.bool false)], args := [] }
  | _ => none }
def VoteNumbersWrongFalsely : Prop := voteNumbersRow.holds Try.pinned (OpenSpec.ofChange voteNumbersWrong)

/-- 'ropewalklaw24.VoteOnce': WHATEVER THE INPUT: true; the input reads as it did. -/
def voteOnceSpec : ChangeSpec := { name := "voteOnce", fn := fun _ => fun
  | [d] => { results := [.lit (.bool true)], args := [d] }
  | _ => none }
def voteOnceRow : OpenClaim := { program := "ythokoihgbionmaa", sum := "72720cece204ec8cbdfc4696b34b8f48fe6c752e335f07db9b1f2a3a03da2d56", func := "ropewalk/ropewalklaw24.VoteOnce", spec := "voteOnce", apart := false }
def VoteOnceSaid : Prop := voteOnceRow.holds Try.pinned (OpenSpec.ofChange voteOnceSpec)

/-- ITS FALSE NEIGHBOUR: 'it returns false'. Refute it at one input. -/
def voteOnceWrong : ChangeSpec := { name := "voteOnce", fn := fun _ => fun
  | [d] => { results := [.lit (.bool false)], args := [d] }
  | _ => none }
def VoteOnceWrongFalsely : Prop := voteOnceRow.holds Try.pinned (OpenSpec.ofChange voteOnceWrong)

/-- 'ropewalklaw24.VoteOrder': WHATEVER THE INPUT: true; the input reads as it did. -/
def voteOrderSpec : ChangeSpec := { name := "voteOrder", fn := fun _ => fun
  | [d1, d2, d3] => { results := [.lit (.bool true)], args := [d1, d2, d3] }
  | _ => none }
def voteOrderRow : OpenClaim := { program := "ythokoihgbionmaa", sum := "72720cece204ec8cbdfc4696b34b8f48fe6c752e335f07db9b1f2a3a03da2d56", func := "ropewalk/ropewalklaw24.VoteOrder", spec := "voteOrder", apart := false }
def VoteOrderSaid : Prop := voteOrderRow.holds Try.pinned (OpenSpec.ofChange voteOrderSpec)

/-- ITS FALSE NEIGHBOUR: 'it returns false'. Refute it at one input. -/
def voteOrderWrong : ChangeSpec := { name := "voteOrder", fn := fun _ => fun
  | [d1, d2, d3] => { results := [.lit (.bool false)], args := [d1, d2, d3] }
  | _ => none }
def VoteOrderWrongFalsely : Prop := voteOrderRow.holds Try.pinned (OpenSpec.ofChange voteOrderWrong)

/- THE SECOND FORM. 'bulk': how many values and letters a reading holds, each counted each time it is reached (what is shared counts as often as it is met; a slice's spare places count too). A statement '..UptoSaid' is the law's where the arguments, and the package variables that the reading takes, are together of bulk at most 1048576: NARROWER than '..Said'. Prove '..Said' where nothing that the law and all that it calls make is longer than what came in: it says more and counts as full. Else prove '..UptoSaid'. A law counts once. -/
mutual
def uptoBulk {H : Type} : DataW H → Nat
  | .lit (.string bytes) => bytes.length + 1
  | .lit _ => 1
  | .nil => 1
  | .ptr d => uptoBulk d + 1
  | .slice elems spare => uptoBulkAll elems + uptoBulkAll spare + 1
  | .agg parts => uptoBulkAll parts + 1
  | .iface _ d => uptoBulk d + 1
  | .map entries => uptoBulkEntries entries + 1
  | .held _ => 1
def uptoBulkAll {H : Type} : List (DataW H) → Nat
  | [] => 0
  | d :: r => uptoBulk d + uptoBulkAll r
def uptoBulkEntries {H : Type} : List (Lit × DataW H) → Nat
  | [] => 0
  | x :: r => uptoBulkEntry x + uptoBulkEntries r
def uptoBulkEntry {H : Type} : Lit × DataW H → Nat
  | (.string bytes, d) => bytes.length + uptoBulk d + 1
  | (_, d) => uptoBulk d + 1
 end
def uptoSmall : (H : Type) → List (DataW H) → Bool := fun _ ds => decide (uptoBulkAll ds ≤ 1048576)
def OpenSpec.upto (s : _root_.Go.ChangeSpec) : _root_.Go.OpenSpec := { _root_.Go.OpenSpec.ofChange s with cond := some uptoSmall }

/-- 'ropewalklaw24.VoteNewer', WHERE WHAT IT READS IS OF BULK AT MOST 1048576: true; the input reads as it did. -/
def voteNewerUptoRow : OpenClaim := { program := "ythokoihgbionmaa", sum := "72720cece204ec8cbdfc4696b34b8f48fe6c752e335f07db9b1f2a3a03da2d56", func := "ropewalk/ropewalklaw24.VoteNewer", spec := "voteNewer", apart := false, narrowed := true }
def VoteNewerUptoSaid : Prop := voteNewerUptoRow.holds Try.pinned (OpenSpec.upto voteNewerSpec)

/-- 'ropewalklaw24.VoteGrants', WHERE WHAT IT READS IS OF BULK AT MOST 1048576: true; the input reads as it did. -/
def voteGrantsUptoRow : OpenClaim := { program := "ythokoihgbionmaa", sum := "72720cece204ec8cbdfc4696b34b8f48fe6c752e335f07db9b1f2a3a03da2d56", func := "ropewalk/ropewalklaw24.VoteGrants", spec := "voteGrants", apart := false, narrowed := true }
def VoteGrantsUptoSaid : Prop := voteGrantsUptoRow.holds Try.pinned (OpenSpec.upto voteGrantsSpec)

/-- 'ropewalklaw24.VoteNumbers', WHERE WHAT IT READS IS OF BULK AT MOST 1048576: true; the input reads as it did. -/
def voteNumbersUptoRow : OpenClaim := { program := "ythokoihgbionmaa", sum := "72720cece204ec8cbdfc4696b34b8f48fe6c752e335f07db9b1f2a3a03da2d56", func := "ropewalk/ropewalklaw24.VoteNumbers", spec := "voteNumbers", apart := false, narrowed := true }
def VoteNumbersUptoSaid : Prop := voteNumbersUptoRow.holds Try.pinned (OpenSpec.upto voteNumbersSpec)

/-- 'ropewalklaw24.VoteOnce', WHERE WHAT IT READS IS OF BULK AT MOST 1048576: true; the input reads as it did. -/
def voteOnceUptoRow : OpenClaim := { program := "ythokoihgbionmaa", sum := "72720cece204ec8cbdfc4696b34b8f48fe6c752e335f07db9b1f2a3a03da2d56", func := "ropewalk/ropewalklaw24.VoteOnce", spec := "voteOnce", apart := false, narrowed := true }
def VoteOnceUptoSaid : Prop := voteOnceUptoRow.holds Try.pinned (OpenSpec.upto voteOnceSpec)

/-- 'ropewalklaw24.VoteOrder', WHERE WHAT IT READS IS OF BULK AT MOST 1048576: true; the input reads as it did. -/
def voteOrderUptoRow : OpenClaim := { program := "ythokoihgbionmaa", sum := "72720cece204ec8cbdfc4696b34b8f48fe6c752e335f07db9b1f2a3a03da2d56", func := "ropewalk/ropewalklaw24.VoteOrder", spec := "voteOrder", apart := false, narrowed := true }
def VoteOrderUptoSaid : Prop := voteOrderUptoRow.holds Try.pinned (OpenSpec.upto voteOrderSpec)

end Rows
end Go.Proofs.Ythokoihgbionmaa
