/-
  DERIVED. GIVEN WITH THE SEED: THE CARDS: each row of YtbimjggkiiadmaaGreatDoorRows.lean that lists a variable, with what it lists TIED to the program's text (the seventh form; the later family's looks); each row that meets fmt, with fmt's text TOLD by the authors' own Lean function (tested against real Go, not proved from fmt's source: count such statements apart). THE CARD IS WHAT COUNTS. Prove the row's statement (the work); the ties are given (YtbimjggkiiadmaaGreatDoorTie.lean); close each card by the builder's one call (the guide's Derived/Test/ToyasCard.lean, 'card_holds'). Laid BY PROGRAM, IN A SANDBOX (cutbox-door.mjs). By AI agents, Wed Nov 11 2026. No macro, syntax, notation, axiom, sorry.
-/
import Derived.Test.YtbimjggkiiadmaaGreatDoorRows
import GoSem.ClaimSeven
namespace Go.Proofs.YtbimjggkiiadmaaGreatDoor
namespace Rows

/-- THE TIED CARD OF 'ropewalklaw26.RaftNone'. -/
def raftNoneCard : Claim7 := { stood := { row := raftNoneRow, standIns := [], harness := (true, "09ca79c9bfa1dd3d049b648dc60cc70cab9b862136d8105e0d776c7c4470ce2c"), looks := false }, kinds := [], alts := [], laidByText := true, laidKinds := [.sentinel], laidTests := true, laidLooks := .later }
def RaftNoneCardSaid : Prop := Claim7.holds Tryz.pinned (.plain (OpenSpec.ofChange raftNoneSpec)) raftNoneCard

/-- THE SECOND FORM's CARD OF 'ropewalklaw26.RaftNone'. -/
def raftNoneUptoCard : Claim7 := { stood := { row := raftNoneUptoRow, standIns := [], harness := (true, "09ca79c9bfa1dd3d049b648dc60cc70cab9b862136d8105e0d776c7c4470ce2c"), looks := false }, kinds := [], alts := [], laidByText := true, laidKinds := [.sentinel], laidTests := true, laidLooks := .later }
def RaftNoneUptoCardSaid : Prop := Claim7.holds Tryz.pinned (.plain (OpenSpec.upto raftNoneSpec)) raftNoneUptoCard
end Rows
end Go.Proofs.YtbimjggkiiadmaaGreatDoor
