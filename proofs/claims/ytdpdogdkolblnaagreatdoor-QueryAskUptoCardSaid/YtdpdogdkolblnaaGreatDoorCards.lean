/-
  DERIVED. GIVEN WITH THE SEED: THE CARDS: each row of YtdpdogdkolblnaaGreatDoorRows.lean that lists a variable, with what it lists TIED to the program's text (the seventh form; the later family's looks); each row that meets fmt, with fmt's text TOLD by the authors' own Lean function (tested against real Go, not proved from fmt's source: count such statements apart). THE CARD IS WHAT COUNTS. Prove the row's statement (the work); the ties are given (YtdpdogdkolblnaaGreatDoorTie.lean); close each card by the builder's one call (the guide's Derived/Test/ToyasCard.lean, 'card_holds'). Laid BY PROGRAM, IN A SANDBOX (cutbox-door.mjs). By AI agents, Wed Nov 11 2026. No macro, syntax, notation, axiom, sorry.
-/
import Derived.Test.YtdpdogdkolblnaaGreatDoorRows
import GoSem.ClaimSeven
namespace Go.Proofs.YtdpdogdkolblnaaGreatDoor
namespace Rows

/-- THE TIED CARD OF 'credencelaw23.QueryNames'. -/
def queryNamesCard : Claim7 := { stood := { row := queryNamesRow, standIns := [], harness := (true, "508a89b42747003660cbb356b7405090e14394dcb1e9d51800aa0a00dbb0ea6f"), looks := true }, kinds := [], alts := [], laidByText := true, laidKinds := [.data, .handle, .pinned], laidTests := true, laidLooks := .later }
def QueryNamesCardSaid : Prop := Claim7.holds Tryz.pinned (.plain (OpenSpec.ofChange queryNamesSpec)) queryNamesCard

/-- THE TIED CARD OF 'credencelaw23.QueryBack'. -/
def queryBackCard : Claim7 := { stood := { row := queryBackRow, standIns := [], harness := (true, "508a89b42747003660cbb356b7405090e14394dcb1e9d51800aa0a00dbb0ea6f"), looks := true }, kinds := [], alts := [], laidByText := true, laidKinds := [.data, .handle, .pinned], laidTests := true, laidLooks := .later }
def QueryBackCardSaid : Prop := Claim7.holds Tryz.pinned (.plain (OpenSpec.ofChange queryBackSpec)) queryBackCard

/-- THE TIED CARD OF 'credencelaw23.QueryAgain'. -/
def queryAgainCard : Claim7 := { stood := { row := queryAgainRow, standIns := [], harness := (true, "508a89b42747003660cbb356b7405090e14394dcb1e9d51800aa0a00dbb0ea6f"), looks := true }, kinds := [], alts := [], laidByText := true, laidKinds := [.data, .handle, .pinned], laidTests := true, laidLooks := .later }
def QueryAgainCardSaid : Prop := Claim7.holds Tryz.pinned (.plain (OpenSpec.ofChange queryAgainSpec)) queryAgainCard

/-- THE TIED CARD OF 'credencelaw23.QueryAsk'. -/
def queryAskCard : Claim7 := { stood := { row := queryAskRow, standIns := [], harness := (true, "508a89b42747003660cbb356b7405090e14394dcb1e9d51800aa0a00dbb0ea6f"), looks := true }, kinds := [], alts := [], laidByText := true, laidKinds := [.data, .handle, .pinned], laidTests := true, laidLooks := .later }
def QueryAskCardSaid : Prop := Claim7.holds Tryz.pinned (.plain (OpenSpec.ofChange queryAskSpec)) queryAskCard

/-- THE TIED CARD OF 'credencelaw23.QueryBlanks'. -/
def queryBlanksCard : Claim7 := { stood := { row := queryBlanksRow, standIns := [], harness := (true, "508a89b42747003660cbb356b7405090e14394dcb1e9d51800aa0a00dbb0ea6f"), looks := true }, kinds := [], alts := [], laidByText := true, laidKinds := [.data, .handle, .pinned], laidTests := true, laidLooks := .later }
def QueryBlanksCardSaid : Prop := Claim7.holds Tryz.pinned (.plain (OpenSpec.ofChange queryBlanksSpec)) queryBlanksCard

/-- THE SECOND FORM's CARD OF 'credencelaw23.QueryNames'. -/
def queryNamesUptoCard : Claim7 := { stood := { row := queryNamesUptoRow, standIns := [], harness := (true, "508a89b42747003660cbb356b7405090e14394dcb1e9d51800aa0a00dbb0ea6f"), looks := true }, kinds := [], alts := [], laidByText := true, laidKinds := [.data, .handle, .pinned], laidTests := true, laidLooks := .later }
def QueryNamesUptoCardSaid : Prop := Claim7.holds Tryz.pinned (.plain (OpenSpec.upto queryNamesSpec)) queryNamesUptoCard

/-- THE SECOND FORM's CARD OF 'credencelaw23.QueryBack'. -/
def queryBackUptoCard : Claim7 := { stood := { row := queryBackUptoRow, standIns := [], harness := (true, "508a89b42747003660cbb356b7405090e14394dcb1e9d51800aa0a00dbb0ea6f"), looks := true }, kinds := [], alts := [], laidByText := true, laidKinds := [.data, .handle, .pinned], laidTests := true, laidLooks := .later }
def QueryBackUptoCardSaid : Prop := Claim7.holds Tryz.pinned (.plain (OpenSpec.upto queryBackSpec)) queryBackUptoCard

/-- THE SECOND FORM's CARD OF 'credencelaw23.QueryAgain'. -/
def queryAgainUptoCard : Claim7 := { stood := { row := queryAgainUptoRow, standIns := [], harness := (true, "508a89b42747003660cbb356b7405090e14394dcb1e9d51800aa0a00dbb0ea6f"), looks := true }, kinds := [], alts := [], laidByText := true, laidKinds := [.data, .handle, .pinned], laidTests := true, laidLooks := .later }
def QueryAgainUptoCardSaid : Prop := Claim7.holds Tryz.pinned (.plain (OpenSpec.upto queryAgainSpec)) queryAgainUptoCard

/-- THE SECOND FORM's CARD OF 'credencelaw23.QueryAsk'. -/
def queryAskUptoCard : Claim7 := { stood := { row := queryAskUptoRow, standIns := [], harness := (true, "508a89b42747003660cbb356b7405090e14394dcb1e9d51800aa0a00dbb0ea6f"), looks := true }, kinds := [], alts := [], laidByText := true, laidKinds := [.data, .handle, .pinned], laidTests := true, laidLooks := .later }
def QueryAskUptoCardSaid : Prop := Claim7.holds Tryz.pinned (.plain (OpenSpec.upto queryAskSpec)) queryAskUptoCard

/-- THE SECOND FORM's CARD OF 'credencelaw23.QueryBlanks'. -/
def queryBlanksUptoCard : Claim7 := { stood := { row := queryBlanksUptoRow, standIns := [], harness := (true, "508a89b42747003660cbb356b7405090e14394dcb1e9d51800aa0a00dbb0ea6f"), looks := true }, kinds := [], alts := [], laidByText := true, laidKinds := [.data, .handle, .pinned], laidTests := true, laidLooks := .later }
def QueryBlanksUptoCardSaid : Prop := Claim7.holds Tryz.pinned (.plain (OpenSpec.upto queryBlanksSpec)) queryBlanksUptoCard
end Rows
end Go.Proofs.YtdpdogdkolblnaaGreatDoor
