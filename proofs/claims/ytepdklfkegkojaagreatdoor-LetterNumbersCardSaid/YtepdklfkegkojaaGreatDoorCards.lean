/-
  DERIVED. GIVEN WITH THE SEED: THE CARDS: each row of YtepdklfkegkojaaGreatDoorRows.lean that lists a variable, with what it lists TIED to the program's text (the seventh form; the later family's looks); each row that meets fmt, with fmt's text TOLD by the authors' own Lean function (tested against real Go, not proved from fmt's source: count such statements apart). THE CARD IS WHAT COUNTS. Prove the row's statement (the work); the ties are given (YtepdklfkegkojaaGreatDoorTie.lean); close each card by the builder's one call (the guide's Derived/Test/ToyasCard.lean, 'card_holds'). Laid BY PROGRAM, IN A SANDBOX (cutbox-door.mjs). By AI agents, Wed Nov 11 2026. No macro, syntax, notation, axiom, sorry.
-/
import Derived.Test.YtepdklfkegkojaaGreatDoorRows
import GoSem.ClaimSeven
namespace Go.Proofs.YtepdklfkegkojaaGreatDoor
namespace Rows

/-- THE TIED CARD OF 'ropewalklaw21.LetterNumbers'. -/
def letterNumbersCard : Claim7 := { stood := { row := letterNumbersRow, standIns := [], harness := (true, "c85b335db823486499626c329265d6d3fc2c76f26136d4ee8d2f1f96f71044b4"), looks := false }, kinds := [], alts := [], laidByText := true, laidKinds := [.sentinel], laidTests := true, laidLooks := .later }
def LetterNumbersCardSaid : Prop := Claim7.holds Tryz.pinned (.plain (OpenSpec.ofChange letterNumbersSpec)) letterNumbersCard

/-- THE SECOND FORM's CARD OF 'ropewalklaw21.LetterNumbers'. -/
def letterNumbersUptoCard : Claim7 := { stood := { row := letterNumbersUptoRow, standIns := [], harness := (true, "c85b335db823486499626c329265d6d3fc2c76f26136d4ee8d2f1f96f71044b4"), looks := false }, kinds := [], alts := [], laidByText := true, laidKinds := [.sentinel], laidTests := true, laidLooks := .later }
def LetterNumbersUptoCardSaid : Prop := Claim7.holds Tryz.pinned (.plain (OpenSpec.upto letterNumbersSpec)) letterNumbersUptoCard
end Rows
end Go.Proofs.YtepdklfkegkojaaGreatDoor
