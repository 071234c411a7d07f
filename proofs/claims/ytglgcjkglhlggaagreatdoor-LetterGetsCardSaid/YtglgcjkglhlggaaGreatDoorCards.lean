/-
  DERIVED. GIVEN WITH THE SEED: THE CARDS: each row of YtglgcjkglhlggaaGreatDoorRows.lean that lists a variable, with what it lists TIED to the program's text (the seventh form; the later family's looks); each row that meets fmt, with fmt's text TOLD by the authors' own Lean function (tested against real Go, not proved from fmt's source: count such statements apart). THE CARD IS WHAT COUNTS. Prove the row's statement (the work); the ties are given (YtglgcjkglhlggaaGreatDoorTie.lean); close each card by the builder's one call (the guide's Derived/Test/ToyasCard.lean, 'card_holds'). Laid BY PROGRAM, IN A SANDBOX (cutbox-door.mjs). By AI agents, Wed Nov 11 2026. No macro, syntax, notation, axiom, sorry.
-/
import Derived.Test.YtglgcjkglhlggaaGreatDoorRows
import GoSem.ClaimSeven
namespace Go.Proofs.YtglgcjkglhlggaaGreatDoor
namespace Rows

/-- THE TIED CARD OF 'ropewalklaw21.LetterPuts'. -/
def letterPutsCard : Claim7 := { stood := { row := letterPutsRow, standIns := [], harness := (true, "b52efce1cbf4f59bd2d5d5b4f1753b7aea179d50845506399936971cba3fd87b"), looks := false }, kinds := [], alts := [], laidByText := true, laidKinds := [.sentinel], laidTests := true, laidLooks := .later }
def LetterPutsCardSaid : Prop := Claim7.holds Tryz.pinned (.plain (OpenSpec.ofChange letterPutsSpec)) letterPutsCard

/-- THE TIED CARD OF 'ropewalklaw21.LetterGets'. -/
def letterGetsCard : Claim7 := { stood := { row := letterGetsRow, standIns := [], harness := (true, "b52efce1cbf4f59bd2d5d5b4f1753b7aea179d50845506399936971cba3fd87b"), looks := false }, kinds := [], alts := [], laidByText := true, laidKinds := [.sentinel], laidTests := true, laidLooks := .later }
def LetterGetsCardSaid : Prop := Claim7.holds Tryz.pinned (.plain (OpenSpec.ofChange letterGetsSpec)) letterGetsCard

/-- THE TIED CARD OF 'ropewalklaw21.LetterNumbers'. -/
def letterNumbersCard : Claim7 := { stood := { row := letterNumbersRow, standIns := [], harness := (true, "b52efce1cbf4f59bd2d5d5b4f1753b7aea179d50845506399936971cba3fd87b"), looks := false }, kinds := [], alts := [], laidByText := true, laidKinds := [.sentinel], laidTests := true, laidLooks := .later }
def LetterNumbersCardSaid : Prop := Claim7.holds Tryz.pinned (.plain (OpenSpec.ofChange letterNumbersSpec)) letterNumbersCard

/-- THE SECOND FORM's CARD OF 'ropewalklaw21.LetterPuts'. -/
def letterPutsUptoCard : Claim7 := { stood := { row := letterPutsUptoRow, standIns := [], harness := (true, "b52efce1cbf4f59bd2d5d5b4f1753b7aea179d50845506399936971cba3fd87b"), looks := false }, kinds := [], alts := [], laidByText := true, laidKinds := [.sentinel], laidTests := true, laidLooks := .later }
def LetterPutsUptoCardSaid : Prop := Claim7.holds Tryz.pinned (.plain (OpenSpec.upto letterPutsSpec)) letterPutsUptoCard

/-- THE SECOND FORM's CARD OF 'ropewalklaw21.LetterGets'. -/
def letterGetsUptoCard : Claim7 := { stood := { row := letterGetsUptoRow, standIns := [], harness := (true, "b52efce1cbf4f59bd2d5d5b4f1753b7aea179d50845506399936971cba3fd87b"), looks := false }, kinds := [], alts := [], laidByText := true, laidKinds := [.sentinel], laidTests := true, laidLooks := .later }
def LetterGetsUptoCardSaid : Prop := Claim7.holds Tryz.pinned (.plain (OpenSpec.upto letterGetsSpec)) letterGetsUptoCard

/-- THE SECOND FORM's CARD OF 'ropewalklaw21.LetterNumbers'. -/
def letterNumbersUptoCard : Claim7 := { stood := { row := letterNumbersUptoRow, standIns := [], harness := (true, "b52efce1cbf4f59bd2d5d5b4f1753b7aea179d50845506399936971cba3fd87b"), looks := false }, kinds := [], alts := [], laidByText := true, laidKinds := [.sentinel], laidTests := true, laidLooks := .later }
def LetterNumbersUptoCardSaid : Prop := Claim7.holds Tryz.pinned (.plain (OpenSpec.upto letterNumbersSpec)) letterNumbersUptoCard
end Rows
end Go.Proofs.YtglgcjkglhlggaaGreatDoor
