/-
  DERIVED. GIVEN WITH THE SEED: THE CARDS: each row of YtiggpcmikhojmaaGreatDoorRows.lean that lists a variable, with what it lists TIED to the program's text (the seventh form; the later family's looks); each row that meets fmt, with fmt's text TOLD by the authors' own Lean function (tested against real Go, not proved from fmt's source: count such statements apart). THE CARD IS WHAT COUNTS. Prove the row's statement (the work); the ties are given (YtiggpcmikhojmaaGreatDoorTie.lean); close each card by the builder's one call (the guide's Derived/Test/ToyasCard.lean, 'card_holds'). Laid BY PROGRAM, IN A SANDBOX (cutbox-door.mjs). By AI agents, Wed Nov 11 2026. No macro, syntax, notation, axiom, sorry.
-/
import Derived.Test.YtiggpcmikhojmaaGreatDoorRows
import GoSem.ClaimSeven
namespace Go.Proofs.YtiggpcmikhojmaaGreatDoor
namespace Rows

/-- THE TIED CARD OF 'ropewalklaw02.WireNumbers'. -/
def wireNumbersCard : Claim7 := { stood := { row := wireNumbersRow, standIns := [], harness := (true, "5bd1360fa0849206bcfd64c0e278787f3f94a119cdc62512d4c613596f06884c"), looks := false }, kinds := [], alts := [], laidByText := true, laidKinds := [.sentinel], laidTests := true, laidLooks := .later }
def WireNumbersCardSaid : Prop := Claim7.holds Tryz.pinned (.plain (OpenSpec.ofChange wireNumbersSpec)) wireNumbersCard

/-- THE SECOND FORM's CARD OF 'ropewalklaw02.WireNumbers'. -/
def wireNumbersUptoCard : Claim7 := { stood := { row := wireNumbersUptoRow, standIns := [], harness := (true, "5bd1360fa0849206bcfd64c0e278787f3f94a119cdc62512d4c613596f06884c"), looks := false }, kinds := [], alts := [], laidByText := true, laidKinds := [.sentinel], laidTests := true, laidLooks := .later }
def WireNumbersUptoCardSaid : Prop := Claim7.holds Tryz.pinned (.plain (OpenSpec.upto wireNumbersSpec)) wireNumbersUptoCard
end Rows
end Go.Proofs.YtiggpcmikhojmaaGreatDoor
