/-
  No cell of these rows narrows 'for every input' (looked for: loops, veiled, ifaces, maps, wideKeys, modest, calm, conditions, laid).
  DERIVED. THE GIVEN ROWS OF THIS SEAT. 4 by the template 'for every input the law returns true; each argument reads behind the call as it read before'; 0 by the template 'total and deterministic' (their statements: YtknnbnmogjkcnaaTotals.lean).
  GIVEN WITH THE SEED: the statements are not yours to turn. If you find one false, say at which input.
  Laid BY PROGRAM, IN A SANDBOX (cutbox-rows.mjs): the forced cells as the released guide's own fill.sh prints them over the translation d0745be12cca92fd… (all of the seat's roots in one cut). By AI agents, Wed Nov 11 2026. No macro, syntax, notation, axiom, sorry.
-/
import Derived.Test.YtknnbnmogjkcnaaChecked
import GoSem.Claim
import GoSem.ClaimJoined
import GoSem.ClaimMapViews
import Derived.JoinedTies
import Derived.KernelRfl
namespace Go.Proofs.Ytknnbnmogjkcnaa
/- THE CELL 'sum', in the pinned program and in every row, IS THE sha256 OF THE DUMP (.gsa) THAT YtknnbnmogjkcnaaProg.lean LOADS. Nothing in Lean hashes anything: it is a label: what it is worth is what the hold of that sum in a sandbox is worth. -/
noncomputable def Try.pinned : Pinned := { name := "ytknnbnmogjkcnaa", sum := "d0745be12cca92fdd11e5ab042e7197b5904f968c094b2159b23d6da44f0ff66", checked := Try.checked }
namespace Rows
def none {H : Type} : Left H := { results := [], args := [] }

/-- 'ropewalklaw23.LogFits': WHATEVER THE INPUT: true; the input reads as it did. -/
def logFitsSpec : ChangeSpec := { name := "logFits", fn := fun _ => fun
  | [d1, d2, d3, d4] => { results := [.lit (.bool true)], args := [d1, d2, d3, d4] }
  | _ => none }
def logFitsRow : OpenClaim := { program := "ytknnbnmogjkcnaa", sum := "d0745be12cca92fdd11e5ab042e7197b5904f968c094b2159b23d6da44f0ff66", func := "ropewalk/ropewalklaw23.LogFits", spec := "logFits", apart := false }
def LogFitsSaid : Prop := logFitsRow.holds Try.pinned (OpenSpec.ofChange logFitsSpec)

/-- ITS FALSE NEIGHBOUR: 'it returns false'. Refute it at one input. -/
def logFitsWrong : ChangeSpec := { name := "logFits", fn := fun _ => fun
  | [d1, d2, d3, d4] => { results := [.lit (.bool false)], args := [d1, d2, d3, d4] }
  | _ => none }
def LogFitsWrongFalsely : Prop := logFitsRow.holds Try.pinned (OpenSpec.ofChange logFitsWrong)

/-- 'ropewalklaw23.LogCompacts': WHATEVER THE INPUT: true; the input reads as it did. -/
def logCompactsSpec : ChangeSpec := { name := "logCompacts", fn := fun _ => fun
  | [d1, d2] => { results := [.lit (.bool true)], args := [d1, d2] }
  | _ => none }
def logCompactsRow : OpenClaim := { program := "ytknnbnmogjkcnaa", sum := "d0745be12cca92fdd11e5ab042e7197b5904f968c094b2159b23d6da44f0ff66", func := "ropewalk/ropewalklaw23.LogCompacts", spec := "logCompacts", apart := false }
def LogCompactsSaid : Prop := logCompactsRow.holds Try.pinned (OpenSpec.ofChange logCompactsSpec)

/-- ITS FALSE NEIGHBOUR: 'it returns false'. Refute it at one input. -/
def logCompactsWrong : ChangeSpec := { name := "logCompacts", fn := fun _ => fun
  | [d1, d2] => { results := [.lit (.bool false)], args := [d1, d2] }
  | _ => none }
def LogCompactsWrongFalsely : Prop := logCompactsRow.holds Try.pinned (OpenSpec.ofChange logCompactsWrong)

/-- 'ropewalklaw23.LogDoes': WHATEVER THE INPUT: true; the input reads as it did. -/
def logDoesSpec : ChangeSpec := { name := "logDoes", fn := fun _ => fun
  | [d1, d2, d3, d4, d5] => { results := [.lit (.bool true)], args := [d1, d2, d3, d4, d5] }
  | _ => none }
def logDoesRow : OpenClaim := { program := "ytknnbnmogjkcnaa", sum := "d0745be12cca92fdd11e5ab042e7197b5904f968c094b2159b23d6da44f0ff66", func := "ropewalk/ropewalklaw23.LogDoes", spec := "logDoes", unfollowed := true, recurses := true, apart := false }
def LogDoesSaid : Prop := logDoesRow.holds Try.pinned (OpenSpec.ofChange logDoesSpec)

/-- ITS FALSE NEIGHBOUR: 'it returns false'. Refute it at one input. -/
def logDoesWrong : ChangeSpec := { name := "logDoes", fn := fun _ => fun
  | [d1, d2, d3, d4, d5] => { results := [.lit (.bool false)], args := [d1, d2, d3, d4, d5] }
  | _ => none }
def LogDoesWrongFalsely : Prop := logDoesRow.holds Try.pinned (OpenSpec.ofChange logDoesWrong)

/-- 'ropewalklaw23.LogNone': WHATEVER THE INPUT: true; the input reads as it did. -/
def logNoneSpec : ChangeSpec := { name := "logNone", fn := fun _ => fun
  | [d1, d2] => { results := [.lit (.bool true)], args := [d1, d2] }
  | _ => none }
def logNoneRow : OpenClaim := { program := "ytknnbnmogjkcnaa", sum := "d0745be12cca92fdd11e5ab042e7197b5904f968c094b2159b23d6da44f0ff66", func := "ropewalk/ropewalklaw23.LogNone", spec := "logNone", unfollowed := true, recurses := true, apart := false }
def LogNoneSaid : Prop := logNoneRow.holds Try.pinned (OpenSpec.ofChange logNoneSpec)

/-- ITS FALSE NEIGHBOUR: 'it returns false'. Refute it at one input. -/
def logNoneWrong : ChangeSpec := { name := "logNone", fn := fun _ => fun
  | [d1, d2] => { results := [.lit (.bool false)], args := [d1, d2] }
  | _ => none }
def LogNoneWrongFalsely : Prop := logNoneRow.holds Try.pinned (OpenSpec.ofChange logNoneWrong)

/- THE SECOND FORM. 'bulk': how many values and letters a reading holds, each counted each time it is reached (what is shared counts as often as it is met; a slice's spare places count too). A statement '..UptoSaid' is the law's where the arguments, and the package variables that the reading takes, are together of bulk at most 1048576: NARROWER than '..Said'. Prove '..Said' where nothing that the law and all that it calls make is longer than what came in: it says more and counts as full. Else prove '..UptoSaid'. A law counts once. -/
mutual
def uptoBulk {H : Type} : DataW H → Nat
  | .lit (.string bytes) => bytes.length + 1
  | .lit _ => 1
  | .nil => 1
  | .ptr d => uptoBulk d + 1
  | .slice elems spare => uptoBulkAll elems + uptoBulkAll spare + 1
  | .agg parts => uptoBulkAll parts + 1
  | .iface _ d => uptoBulk d + 1
  | .map entries => uptoBulkEntries entries + 1
  | .held _ => 1
def uptoBulkAll {H : Type} : List (DataW H) → Nat
  | [] => 0
  | d :: r => uptoBulk d + uptoBulkAll r
def uptoBulkEntries {H : Type} : List (Lit × DataW H) → Nat
  | [] => 0
  | x :: r => uptoBulkEntry x + uptoBulkEntries r
def uptoBulkEntry {H : Type} : Lit × DataW H → Nat
  | (.string bytes, d) => bytes.length + uptoBulk d + 1
  | (_, d) => uptoBulk d + 1
 end
def uptoSmall : (H : Type) → List (DataW H) → Bool := fun _ ds => decide (uptoBulkAll ds ≤ 1048576)
def OpenSpec.upto (s : _root_.Go.ChangeSpec) : _root_.Go.OpenSpec := { _root_.Go.OpenSpec.ofChange s with cond := some uptoSmall }

/-- 'ropewalklaw23.LogFits', WHERE WHAT IT READS IS OF BULK AT MOST 1048576: true; the input reads as it did. -/
def logFitsUptoRow : OpenClaim := { program := "ytknnbnmogjkcnaa", sum := "d0745be12cca92fdd11e5ab042e7197b5904f968c094b2159b23d6da44f0ff66", func := "ropewalk/ropewalklaw23.LogFits", spec := "logFits", apart := false, narrowed := true }
def LogFitsUptoSaid : Prop := logFitsUptoRow.holds Try.pinned (OpenSpec.upto logFitsSpec)

/-- 'ropewalklaw23.LogCompacts', WHERE WHAT IT READS IS OF BULK AT MOST 1048576: true; the input reads as it did. -/
def logCompactsUptoRow : OpenClaim := { program := "ytknnbnmogjkcnaa", sum := "d0745be12cca92fdd11e5ab042e7197b5904f968c094b2159b23d6da44f0ff66", func := "ropewalk/ropewalklaw23.LogCompacts", spec := "logCompacts", apart := false, narrowed := true }
def LogCompactsUptoSaid : Prop := logCompactsUptoRow.holds Try.pinned (OpenSpec.upto logCompactsSpec)

/-- 'ropewalklaw23.LogDoes', WHERE WHAT IT READS IS OF BULK AT MOST 1048576: true; the input reads as it did. -/
def logDoesUptoRow : OpenClaim := { program := "ytknnbnmogjkcnaa", sum := "d0745be12cca92fdd11e5ab042e7197b5904f968c094b2159b23d6da44f0ff66", func := "ropewalk/ropewalklaw23.LogDoes", spec := "logDoes", unfollowed := true, recurses := true, apart := false, narrowed := true }
def LogDoesUptoSaid : Prop := logDoesUptoRow.holds Try.pinned (OpenSpec.upto logDoesSpec)

/-- 'ropewalklaw23.LogNone', WHERE WHAT IT READS IS OF BULK AT MOST 1048576: true; the input reads as it did. -/
def logNoneUptoRow : OpenClaim := { program := "ytknnbnmogjkcnaa", sum := "d0745be12cca92fdd11e5ab042e7197b5904f968c094b2159b23d6da44f0ff66", func := "ropewalk/ropewalklaw23.LogNone", spec := "logNone", unfollowed := true, recurses := true, apart := false, narrowed := true }
def LogNoneUptoSaid : Prop := logNoneUptoRow.holds Try.pinned (OpenSpec.upto logNoneSpec)

end Rows
end Go.Proofs.Ytknnbnmogjkcnaa
