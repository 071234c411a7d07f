/-
  DERIVED. GIVEN WITH THE SEED: THE CARDS: each row of YtpjaghaapmbanaaDoorRows.lean that lists a variable, with what it lists TIED to the program's text (the seventh form; the later family's looks); each row that meets fmt, with fmt's text TOLD by the authors' own Lean function (tested against real Go, not proved from fmt's source: count such statements apart). THE CARD IS WHAT COUNTS. Prove the row's statement (the work); the ties are given (YtpjaghaapmbanaaDoorTie.lean); close each card by the builder's one call (the guide's Derived/Test/ToyasCard.lean, 'card_holds'). Laid BY PROGRAM, IN A SANDBOX (cutbox-door.mjs). By AI agents, Wed Nov 11 2026. No macro, syntax, notation, axiom, sorry.
-/
import Derived.Test.YtpjaghaapmbanaaDoorRows
import GoSem.ClaimSeven
namespace Go.Proofs.YtpjaghaapmbanaaDoor
namespace Rows

/-- THE TIED CARD OF 'ropewalklaw02.WireJoins'. -/
def wireJoinsCard : Claim7 := { stood := { row := wireJoinsRow, standIns := [], harness := (true, "e3dc62fe45192ebe30289071d3385bd093223d8085f494e8c043f8fc61d75066"), looks := false }, kinds := [], alts := [], laidByText := true, laidKinds := [.sentinel], laidTests := true, laidLooks := .later }
def WireJoinsCardSaid : Prop := Claim7.holds Tryd.pinned (.plain (OpenSpec.ofChange wireJoinsSpec)) wireJoinsCard

/-- THE TIED CARD OF 'ropewalklaw02.WireReads'. -/
def wireReadsCard : Claim7 := { stood := { row := wireReadsRow, standIns := [], harness := (true, "e3dc62fe45192ebe30289071d3385bd093223d8085f494e8c043f8fc61d75066"), looks := false }, kinds := [], alts := [], laidByText := true, laidKinds := [.sentinel], laidTests := true, laidLooks := .later }
def WireReadsCardSaid : Prop := Claim7.holds Tryd.pinned (.plain (OpenSpec.ofChange wireReadsSpec)) wireReadsCard

/-- THE TIED CARD OF 'ropewalklaw02.WireNil'. -/
def wireNilCard : Claim7 := { stood := { row := wireNilRow, standIns := [], harness := (true, "e3dc62fe45192ebe30289071d3385bd093223d8085f494e8c043f8fc61d75066"), looks := false }, kinds := [], alts := [], laidByText := true, laidKinds := [.sentinel], laidTests := true, laidLooks := .later }
def WireNilCardSaid : Prop := Claim7.holds Tryd.pinned (.plain (OpenSpec.ofChange wireNilSpec)) wireNilCard

/-- THE TIED CARD OF 'ropewalklaw02.WireBack'. -/
def wireBackCard : Claim7 := { stood := { row := wireBackRow, standIns := [], harness := (true, "e3dc62fe45192ebe30289071d3385bd093223d8085f494e8c043f8fc61d75066"), looks := false }, kinds := [], alts := [], laidByText := true, laidKinds := [.sentinel], laidTests := true, laidLooks := .later }
def WireBackCardSaid : Prop := Claim7.holds Tryd.pinned (.plain (OpenSpec.ofChange wireBackSpec)) wireBackCard

/-- THE SECOND FORM's CARD OF 'ropewalklaw02.WireJoins'. -/
def wireJoinsUptoCard : Claim7 := { stood := { row := wireJoinsUptoRow, standIns := [], harness := (true, "e3dc62fe45192ebe30289071d3385bd093223d8085f494e8c043f8fc61d75066"), looks := false }, kinds := [], alts := [], laidByText := true, laidKinds := [.sentinel], laidTests := true, laidLooks := .later }
def WireJoinsUptoCardSaid : Prop := Claim7.holds Tryd.pinned (.plain (OpenSpec.upto wireJoinsSpec)) wireJoinsUptoCard

/-- THE SECOND FORM's CARD OF 'ropewalklaw02.WireReads'. -/
def wireReadsUptoCard : Claim7 := { stood := { row := wireReadsUptoRow, standIns := [], harness := (true, "e3dc62fe45192ebe30289071d3385bd093223d8085f494e8c043f8fc61d75066"), looks := false }, kinds := [], alts := [], laidByText := true, laidKinds := [.sentinel], laidTests := true, laidLooks := .later }
def WireReadsUptoCardSaid : Prop := Claim7.holds Tryd.pinned (.plain (OpenSpec.upto wireReadsSpec)) wireReadsUptoCard

/-- THE SECOND FORM's CARD OF 'ropewalklaw02.WireNil'. -/
def wireNilUptoCard : Claim7 := { stood := { row := wireNilUptoRow, standIns := [], harness := (true, "e3dc62fe45192ebe30289071d3385bd093223d8085f494e8c043f8fc61d75066"), looks := false }, kinds := [], alts := [], laidByText := true, laidKinds := [.sentinel], laidTests := true, laidLooks := .later }
def WireNilUptoCardSaid : Prop := Claim7.holds Tryd.pinned (.plain (OpenSpec.upto wireNilSpec)) wireNilUptoCard

/-- THE SECOND FORM's CARD OF 'ropewalklaw02.WireBack'. -/
def wireBackUptoCard : Claim7 := { stood := { row := wireBackUptoRow, standIns := [], harness := (true, "e3dc62fe45192ebe30289071d3385bd093223d8085f494e8c043f8fc61d75066"), looks := false }, kinds := [], alts := [], laidByText := true, laidKinds := [.sentinel], laidTests := true, laidLooks := .later }
def WireBackUptoCardSaid : Prop := Claim7.holds Tryd.pinned (.plain (OpenSpec.upto wireBackSpec)) wireBackUptoCard
end Rows
end Go.Proofs.YtpjaghaapmbanaaDoor
