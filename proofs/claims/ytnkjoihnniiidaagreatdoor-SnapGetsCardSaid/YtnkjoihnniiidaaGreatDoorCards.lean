/-
  DERIVED. GIVEN WITH THE SEED: THE CARDS: each row of YtnkjoihnniiidaaGreatDoorRows.lean that lists a variable, with what it lists TIED to the program's text (the seventh form; the later family's looks); each row that meets fmt, with fmt's text TOLD by the authors' own Lean function (tested against real Go, not proved from fmt's source: count such statements apart). THE CARD IS WHAT COUNTS. Prove the row's statement (the work); the ties are given (YtnkjoihnniiidaaGreatDoorTie.lean); close each card by the builder's one call (the guide's Derived/Test/ToyasCard.lean, 'card_holds'). Laid BY PROGRAM, IN A SANDBOX (cutbox-door.mjs). By AI agents, Wed Nov 11 2026. No macro, syntax, notation, axiom, sorry.
-/
import Derived.Test.YtnkjoihnniiidaaGreatDoorRows
import GoSem.ClaimSeven
namespace Go.Proofs.YtnkjoihnniiidaaGreatDoor
namespace Rows

/-- THE TIED CARD OF 'ropewalklaw19.SnapPuts'. -/
def snapPutsCard : Claim7 := { stood := { row := snapPutsRow, standIns := [], harness := (true, "119bfcdaad8fdd3e7fbbbffdd1faf1f923c36ef17e1a65a62d7bdd2da24cb155"), looks := false }, kinds := [], alts := [], laidByText := true, laidKinds := [.sentinel], laidTests := true, laidLooks := .later }
def SnapPutsCardSaid : Prop := Claim7.holds Tryz.pinned (.plain (OpenSpec.ofChange snapPutsSpec)) snapPutsCard

/-- THE TIED CARD OF 'ropewalklaw19.SnapGets'. -/
def snapGetsCard : Claim7 := { stood := { row := snapGetsRow, standIns := [], harness := (true, "119bfcdaad8fdd3e7fbbbffdd1faf1f923c36ef17e1a65a62d7bdd2da24cb155"), looks := false }, kinds := [], alts := [], laidByText := true, laidKinds := [.sentinel], laidTests := true, laidLooks := .later }
def SnapGetsCardSaid : Prop := Claim7.holds Tryz.pinned (.plain (OpenSpec.ofChange snapGetsSpec)) snapGetsCard

/-- THE SECOND FORM's CARD OF 'ropewalklaw19.SnapPuts'. -/
def snapPutsUptoCard : Claim7 := { stood := { row := snapPutsUptoRow, standIns := [], harness := (true, "119bfcdaad8fdd3e7fbbbffdd1faf1f923c36ef17e1a65a62d7bdd2da24cb155"), looks := false }, kinds := [], alts := [], laidByText := true, laidKinds := [.sentinel], laidTests := true, laidLooks := .later }
def SnapPutsUptoCardSaid : Prop := Claim7.holds Tryz.pinned (.plain (OpenSpec.upto snapPutsSpec)) snapPutsUptoCard

/-- THE SECOND FORM's CARD OF 'ropewalklaw19.SnapGets'. -/
def snapGetsUptoCard : Claim7 := { stood := { row := snapGetsUptoRow, standIns := [], harness := (true, "119bfcdaad8fdd3e7fbbbffdd1faf1f923c36ef17e1a65a62d7bdd2da24cb155"), looks := false }, kinds := [], alts := [], laidByText := true, laidKinds := [.sentinel], laidTests := true, laidLooks := .later }
def SnapGetsUptoCardSaid : Prop := Claim7.holds Tryz.pinned (.plain (OpenSpec.upto snapGetsSpec)) snapGetsUptoCard
end Rows
end Go.Proofs.YtnkjoihnniiidaaGreatDoor
