/-
  DERIVED. GIVEN WITH THE SEED: THE CARDS: each row of YtejgebpdipnhmaaGreatDoorRows.lean that lists a variable, with what it lists TIED to the program's text (the seventh form; the later family's looks); each row that meets fmt, with fmt's text TOLD by the authors' own Lean function (tested against real Go, not proved from fmt's source: count such statements apart). THE CARD IS WHAT COUNTS. Prove the row's statement (the work); the ties are given (YtejgebpdipnhmaaGreatDoorTie.lean); close each card by the builder's one call (the guide's Derived/Test/ToyasCard.lean, 'card_holds'). Laid BY PROGRAM, IN A SANDBOX (cutbox-door.mjs). By AI agents, Wed Nov 11 2026. No macro, syntax, notation, axiom, sorry.
-/
import Derived.Test.YtejgebpdipnhmaaGreatDoorRows
import GoSem.ClaimSeven
namespace Go.Proofs.YtejgebpdipnhmaaGreatDoor
namespace Rows

/-- THE TIED CARD OF 'ropewalklaw19.SnapNumbers'. -/
def snapNumbersCard : Claim7 := { stood := { row := snapNumbersRow, standIns := [], harness := (true, "ccb08b6cdf9e5cc8e06d31c74498e39472305c4ef25630887a180e81ce71702a"), looks := false }, kinds := [], alts := [], laidByText := true, laidKinds := [.sentinel], laidTests := true, laidLooks := .later }
def SnapNumbersCardSaid : Prop := Claim7.holds Tryz.pinned (.plain (OpenSpec.ofChange snapNumbersSpec)) snapNumbersCard

/-- THE SECOND FORM's CARD OF 'ropewalklaw19.SnapNumbers'. -/
def snapNumbersUptoCard : Claim7 := { stood := { row := snapNumbersUptoRow, standIns := [], harness := (true, "ccb08b6cdf9e5cc8e06d31c74498e39472305c4ef25630887a180e81ce71702a"), looks := false }, kinds := [], alts := [], laidByText := true, laidKinds := [.sentinel], laidTests := true, laidLooks := .later }
def SnapNumbersUptoCardSaid : Prop := Claim7.holds Tryz.pinned (.plain (OpenSpec.upto snapNumbersSpec)) snapNumbersUptoCard
end Rows
end Go.Proofs.YtejgebpdipnhmaaGreatDoor
