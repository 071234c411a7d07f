/-
  DERIVED. GIVEN WITH THE SEED: THE CARDS: each row of YthdpfchbomaigaaDoorRows.lean that lists a variable, with what it lists TIED to the program's text (the seventh form; the later family's looks); each row that meets fmt, with fmt's text TOLD by the authors' own Lean function (tested against real Go, not proved from fmt's source: count such statements apart). THE CARD IS WHAT COUNTS. Prove the row's statement (the work); the ties are given (YthdpfchbomaigaaDoorTie.lean); close each card by the builder's one call (the guide's Derived/Test/ToyasCard.lean, 'card_holds'). Laid BY PROGRAM, IN A SANDBOX (cutbox-door.mjs). By AI agents, Wed Nov 11 2026. No macro, syntax, notation, axiom, sorry.
-/
import Derived.Test.YthdpfchbomaigaaDoorRows
import GoSem.ClaimSeven
namespace Go.Proofs.YthdpfchbomaigaaDoor
namespace Rows

/-- THE TIED CARD OF 'ropewalklaw21.LetterBack'. -/
def letterBackCard : Claim7 := { stood := { row := letterBackRow, standIns := [], harness := (true, "32d9e97c63841fe366719445d7b3652f34357ab7c81812b51fabaa129a2f41aa"), looks := false }, kinds := [], alts := [], laidByText := true, laidKinds := [.sentinel], laidTests := true, laidLooks := .later }
def LetterBackCardSaid : Prop := Claim7.holds Tryd.pinned (.plain (OpenSpec.ofChange letterBackSpec)) letterBackCard

/-- THE TIED CARD OF 'ropewalklaw21.LetterOne'. -/
def letterOneCard : Claim7 := { stood := { row := letterOneRow, standIns := [], harness := (true, "32d9e97c63841fe366719445d7b3652f34357ab7c81812b51fabaa129a2f41aa"), looks := false }, kinds := [], alts := [], laidByText := true, laidKinds := [.sentinel], laidTests := true, laidLooks := .later }
def LetterOneCardSaid : Prop := Claim7.holds Tryd.pinned (.plain (OpenSpec.ofChange letterOneSpec)) letterOneCard

/-- THE SECOND FORM's CARD OF 'ropewalklaw21.LetterBack'. -/
def letterBackUptoCard : Claim7 := { stood := { row := letterBackUptoRow, standIns := [], harness := (true, "32d9e97c63841fe366719445d7b3652f34357ab7c81812b51fabaa129a2f41aa"), looks := false }, kinds := [], alts := [], laidByText := true, laidKinds := [.sentinel], laidTests := true, laidLooks := .later }
def LetterBackUptoCardSaid : Prop := Claim7.holds Tryd.pinned (.plain (OpenSpec.upto letterBackSpec)) letterBackUptoCard

/-- THE SECOND FORM's CARD OF 'ropewalklaw21.LetterOne'. -/
def letterOneUptoCard : Claim7 := { stood := { row := letterOneUptoRow, standIns := [], harness := (true, "32d9e97c63841fe366719445d7b3652f34357ab7c81812b51fabaa129a2f41aa"), looks := false }, kinds := [], alts := [], laidByText := true, laidKinds := [.sentinel], laidTests := true, laidLooks := .later }
def LetterOneUptoCardSaid : Prop := Claim7.holds Tryd.pinned (.plain (OpenSpec.upto letterOneSpec)) letterOneUptoCard
end Rows
end Go.Proofs.YthdpfchbomaigaaDoor
