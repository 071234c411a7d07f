/-
  NARROWER THAN 'FOR EVERY INPUT', by the rows' own cells (each row's printed sentence says how): SnapPuts: laid · SnapGets: laid.
  DERIVED. THE GIVEN ROWS OF THIS SEAT. 2 by the template 'for every input the law returns true; each argument reads behind the call as it read before'; 0 by the template 'total and deterministic' (their statements: YtnkjoihnniiidaaGreatDoorTotals.lean).
  GIVEN WITH THE SEED: the statements are not yours to turn. If you find one false, say at which input.
  Laid BY PROGRAM, IN A SANDBOX (cutbox-rows.mjs): the forced cells as the released guide's own fill.sh prints them over the translation 4d46acbabae44d33… (all of the seat's roots in one cut). By AI agents, Wed Nov 11 2026. No macro, syntax, notation, axiom, sorry.
-/
import Derived.Test.YtnkjoihnniiidaaGreatDoorChecked
import GoSem.Claim
import GoSem.ClaimJoined
import GoSem.ClaimMapViews
import Derived.JoinedTies
import Derived.KernelRfl
namespace Go.Proofs.YtnkjoihnniiidaaGreatDoor
/- THE CELL 'sum', in the pinned program and in every row, IS THE sha256 OF THE DUMP (.gsa) THAT YtnkjoihnniiidaaGreatDoorProg.lean LOADS. Nothing in Lean hashes anything: it is a label: what it is worth is what the hold of that sum in a sandbox is worth. -/
noncomputable def Tryz.pinned : Pinned := { name := "ytnkjoihnniiidaagreatdoor", sum := "4d46acbabae44d33819abd7cad7602bd96a593cb842ad93fee8e0e1b9ea66333", checked := Tryz.checked }
namespace Rows
def none {H : Type} : Left H := { results := [], args := [] }

/- WHAT THE LISTED PACKAGE-LEVEL VARIABLES READ AS WHEN THE CALL BEGINS. Each datum BY PROGRAM (the guide's laid-datum.mjs) off the statement by which the dump's own 'gosem.cut.vars' lays the variable. In a bare row this is a premise. The card (YtnkjoihnniiidaaGreatDoorCards.lean) ties it to the program's text. -/
def laid_bytes_ErrTooLarge {H : Type} : DataW H := .iface "*errors.errorString" (.ptr (.agg [.lit (.string [98, 121, 116, 101, 115, 46, 66, 117, 102, 102, 101, 114, 58, 32, 116, 111, 111, 32, 108, 97, 114, 103, 101])]))

/-- 'ropewalklaw19.SnapPuts': WHATEVER THE INPUT: true; the input reads as it did. -/
def snapPutsSpec : ChangeSpec := { name := "snapPuts", fn := fun _ => fun
  | [d] => { results := [.lit (.bool true)], args := [d] }
  | _ => none }
def snapPutsRow : OpenClaim := { program := "ytnkjoihnniiidaagreatdoor", sum := "4d46acbabae44d33819abd7cad7602bd96a593cb842ad93fee8e0e1b9ea66333", func := "ropewalk/ropewalklaw19.SnapPuts", spec := "snapPuts", inPlace := ["internal/bytealg.MakeNoZero"], unfollowed := true, recurses := true, named := ["bytes.ErrTooLarge"], apart := false, laid := [("bytes.ErrTooLarge", laid_bytes_ErrTooLarge)] }
def SnapPutsSaid : Prop := snapPutsRow.holds Tryz.pinned (OpenSpec.ofChange snapPutsSpec)

/-- ITS FALSE NEIGHBOUR: 'it returns false'. Refute it at one input. -/
def snapPutsWrong : ChangeSpec := { name := "snapPuts", fn := fun _ => fun
  | [d] => { results := [.lit (.bool false)], args := [d] }
  | _ => none }
def SnapPutsWrongFalsely : Prop := snapPutsRow.holds Tryz.pinned (OpenSpec.ofChange snapPutsWrong)

/-- 'ropewalklaw19.SnapGets': WHATEVER THE INPUT: true; the input reads as it did. -/
def snapGetsSpec : ChangeSpec := { name := "snapGets", fn := fun _ => fun
  | [d] => { results := [.lit (.bool true)], args := [d] }
  | _ => none }
def snapGetsRow : OpenClaim := { program := "ytnkjoihnniiidaagreatdoor", sum := "4d46acbabae44d33819abd7cad7602bd96a593cb842ad93fee8e0e1b9ea66333", func := "ropewalk/ropewalklaw19.SnapGets", spec := "snapGets", inPlace := ["internal/bytealg.MakeNoZero"], unfollowed := true, recurses := true, named := ["bytes.ErrTooLarge"], apart := false, laid := [("bytes.ErrTooLarge", laid_bytes_ErrTooLarge)] }
def SnapGetsSaid : Prop := snapGetsRow.holds Tryz.pinned (OpenSpec.ofChange snapGetsSpec)

/-- ITS FALSE NEIGHBOUR: 'it returns false'. Refute it at one input. -/
def snapGetsWrong : ChangeSpec := { name := "snapGets", fn := fun _ => fun
  | [d] => { results := [.lit (.bool false)], args := [d] }
  | _ => none }
def SnapGetsWrongFalsely : Prop := snapGetsRow.holds Tryz.pinned (OpenSpec.ofChange snapGetsWrong)

/- THE SECOND FORM. 'bulk': how many values and letters a reading holds, each counted each time it is reached (what is shared counts as often as it is met; a slice's spare places count too). A statement '..UptoSaid' is the law's where the arguments, and the package variables that the reading takes, are together of bulk at most 1048576: NARROWER than '..Said'. Prove '..Said' where nothing that the law and all that it calls make is longer than what came in: it says more and counts as full. Else prove '..UptoSaid'. A law counts once. -/
mutual
def uptoBulk {H : Type} : DataW H → Nat
  | .lit (.string bytes) => bytes.length + 1
  | .lit _ => 1
  | .nil => 1
  | .ptr d => uptoBulk d + 1
  | .slice elems spare => uptoBulkAll elems + uptoBulkAll spare + 1
  | .agg parts => uptoBulkAll parts + 1
  | .iface _ d => uptoBulk d + 1
  | .map entries => uptoBulkEntries entries + 1
  | .held _ => 1
def uptoBulkAll {H : Type} : List (DataW H) → Nat
  | [] => 0
  | d :: r => uptoBulk d + uptoBulkAll r
def uptoBulkEntries {H : Type} : List (Lit × DataW H) → Nat
  | [] => 0
  | x :: r => uptoBulkEntry x + uptoBulkEntries r
def uptoBulkEntry {H : Type} : Lit × DataW H → Nat
  | (.string bytes, d) => bytes.length + uptoBulk d + 1
  | (_, d) => uptoBulk d + 1
 end
def uptoSmall : (H : Type) → List (DataW H) → Bool := fun _ ds => decide (uptoBulkAll ds ≤ 1048576)
def OpenSpec.upto (s : _root_.Go.ChangeSpec) : _root_.Go.OpenSpec := { _root_.Go.OpenSpec.ofChange s with cond := some uptoSmall }

/-- 'ropewalklaw19.SnapPuts', WHERE WHAT IT READS IS OF BULK AT MOST 1048576: true; the input reads as it did. -/
def snapPutsUptoRow : OpenClaim := { program := "ytnkjoihnniiidaagreatdoor", sum := "4d46acbabae44d33819abd7cad7602bd96a593cb842ad93fee8e0e1b9ea66333", func := "ropewalk/ropewalklaw19.SnapPuts", spec := "snapPuts", inPlace := ["internal/bytealg.MakeNoZero"], unfollowed := true, recurses := true, named := ["bytes.ErrTooLarge"], apart := false, laid := [("bytes.ErrTooLarge", laid_bytes_ErrTooLarge)], narrowed := true }
def SnapPutsUptoSaid : Prop := snapPutsUptoRow.holds Tryz.pinned (OpenSpec.upto snapPutsSpec)

/-- 'ropewalklaw19.SnapGets', WHERE WHAT IT READS IS OF BULK AT MOST 1048576: true; the input reads as it did. -/
def snapGetsUptoRow : OpenClaim := { program := "ytnkjoihnniiidaagreatdoor", sum := "4d46acbabae44d33819abd7cad7602bd96a593cb842ad93fee8e0e1b9ea66333", func := "ropewalk/ropewalklaw19.SnapGets", spec := "snapGets", inPlace := ["internal/bytealg.MakeNoZero"], unfollowed := true, recurses := true, named := ["bytes.ErrTooLarge"], apart := false, laid := [("bytes.ErrTooLarge", laid_bytes_ErrTooLarge)], narrowed := true }
def SnapGetsUptoSaid : Prop := snapGetsUptoRow.holds Tryz.pinned (OpenSpec.upto snapGetsSpec)

end Rows
end Go.Proofs.YtnkjoihnniiidaaGreatDoor
