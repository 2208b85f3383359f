/-
  DERIVED. GIVEN WITH THE SEED: THE CARDS: each row of YtnfegieaaaigmaaGreatDoorRows.lean that lists a variable, with what it lists TIED to the program's text (the seventh form; the later family's looks); each row that meets fmt, with fmt's text TOLD by the authors' own Lean function (tested against real Go, not proved from fmt's source: count such statements apart). THE CARD IS WHAT COUNTS. Prove the row's statement (the work); the ties are given (YtnfegieaaaigmaaGreatDoorTie.lean); close each card by the builder's one call (the guide's Derived/Test/ToyasCard.lean, 'card_holds'). Laid BY PROGRAM, IN A SANDBOX (cutbox-door.mjs). By AI agents, Wed Nov 11 2026. No macro, syntax, notation, axiom, sorry.
-/
import Derived.Test.YtnfegieaaaigmaaGreatDoorRows
import GoSem.ClaimSeven
namespace Go.Proofs.YtnfegieaaaigmaaGreatDoor
namespace Rows

/-- THE TIED CARD OF 'credencelaw06.LexScan'. -/
def lexScanCard : Claim7 := { stood := { row := lexScanRow, standIns := [], harness := (true, "59bf8b1a578d79f4b2a4d2687aab7c35e971425e85e3e2b7c850d7da474ce9d0"), looks := true }, kinds := [], alts := [], laidByText := true, laidKinds := [.data, .handle, .pinned], laidTests := true, laidLooks := .later }
def LexScanCardSaid : Prop := Claim7.holds Tryz.pinned (.plain (OpenSpec.ofChange lexScanSpec)) lexScanCard

/-- THE TIED CARD OF 'credencelaw06.LexEach'. -/
def lexEachCard : Claim7 := { stood := { row := lexEachRow, standIns := [], harness := (true, "59bf8b1a578d79f4b2a4d2687aab7c35e971425e85e3e2b7c850d7da474ce9d0"), looks := true }, kinds := [], alts := [], laidByText := true, laidKinds := [.data, .handle, .pinned], laidTests := true, laidLooks := .later }
def LexEachCardSaid : Prop := Claim7.holds Tryz.pinned (.plain (OpenSpec.ofChange lexEachSpec)) lexEachCard

/-- THE TIED CARD OF 'credencelaw06.LexName'. -/
def lexNameCard : Claim7 := { stood := { row := lexNameRow, standIns := [], harness := (true, "59bf8b1a578d79f4b2a4d2687aab7c35e971425e85e3e2b7c850d7da474ce9d0"), looks := true }, kinds := [], alts := [], laidByText := true, laidKinds := [.data, .handle, .pinned], laidTests := true, laidLooks := .later }
def LexNameCardSaid : Prop := Claim7.holds Tryz.pinned (.plain (OpenSpec.ofChange lexNameSpec)) lexNameCard

/-- THE TIED CARD OF 'credencelaw06.LexApart'. -/
def lexApartCard : Claim7 := { stood := { row := lexApartRow, standIns := [], harness := (true, "59bf8b1a578d79f4b2a4d2687aab7c35e971425e85e3e2b7c850d7da474ce9d0"), looks := true }, kinds := [], alts := [], laidByText := true, laidKinds := [.data, .handle, .pinned], laidTests := true, laidLooks := .later }
def LexApartCardSaid : Prop := Claim7.holds Tryz.pinned (.plain (OpenSpec.ofChange lexApartSpec)) lexApartCard

/-- THE TIED CARD OF 'credencelaw06.LexQuoted'. -/
def lexQuotedCard : Claim7 := { stood := { row := lexQuotedRow, standIns := [], harness := (true, "59bf8b1a578d79f4b2a4d2687aab7c35e971425e85e3e2b7c850d7da474ce9d0"), looks := true }, kinds := [], alts := [], laidByText := true, laidKinds := [.data, .handle, .pinned], laidTests := true, laidLooks := .later }
def LexQuotedCardSaid : Prop := Claim7.holds Tryz.pinned (.plain (OpenSpec.ofChange lexQuotedSpec)) lexQuotedCard

/-- THE TIED CARD OF 'credencelaw06.LexNamed'. -/
def lexNamedCard : Claim7 := { stood := { row := lexNamedRow, standIns := [], harness := (true, "59bf8b1a578d79f4b2a4d2687aab7c35e971425e85e3e2b7c850d7da474ce9d0"), looks := true }, kinds := [], alts := [], laidByText := true, laidKinds := [.data, .handle, .pinned], laidTests := true, laidLooks := .later }
def LexNamedCardSaid : Prop := Claim7.holds Tryz.pinned (.plain (OpenSpec.ofChange lexNamedSpec)) lexNamedCard

/-- THE TIED CARD OF 'credencelaw23.QueryParse'. -/
def queryParseCard : Claim7 := { stood := { row := queryParseRow, standIns := [], harness := (true, "59bf8b1a578d79f4b2a4d2687aab7c35e971425e85e3e2b7c850d7da474ce9d0"), looks := true }, kinds := [], alts := [], laidByText := true, laidKinds := [.data, .handle, .pinned], laidTests := true, laidLooks := .later }
def QueryParseCardSaid : Prop := Claim7.holds Tryz.pinned (.plain (OpenSpec.ofChange queryParseSpec)) queryParseCard

/-- THE SECOND FORM's CARD OF 'credencelaw06.LexScan'. -/
def lexScanUptoCard : Claim7 := { stood := { row := lexScanUptoRow, standIns := [], harness := (true, "59bf8b1a578d79f4b2a4d2687aab7c35e971425e85e3e2b7c850d7da474ce9d0"), looks := true }, kinds := [], alts := [], laidByText := true, laidKinds := [.data, .handle, .pinned], laidTests := true, laidLooks := .later }
def LexScanUptoCardSaid : Prop := Claim7.holds Tryz.pinned (.plain (OpenSpec.upto lexScanSpec)) lexScanUptoCard

/-- THE SECOND FORM's CARD OF 'credencelaw06.LexEach'. -/
def lexEachUptoCard : Claim7 := { stood := { row := lexEachUptoRow, standIns := [], harness := (true, "59bf8b1a578d79f4b2a4d2687aab7c35e971425e85e3e2b7c850d7da474ce9d0"), looks := true }, kinds := [], alts := [], laidByText := true, laidKinds := [.data, .handle, .pinned], laidTests := true, laidLooks := .later }
def LexEachUptoCardSaid : Prop := Claim7.holds Tryz.pinned (.plain (OpenSpec.upto lexEachSpec)) lexEachUptoCard

/-- THE SECOND FORM's CARD OF 'credencelaw06.LexName'. -/
def lexNameUptoCard : Claim7 := { stood := { row := lexNameUptoRow, standIns := [], harness := (true, "59bf8b1a578d79f4b2a4d2687aab7c35e971425e85e3e2b7c850d7da474ce9d0"), looks := true }, kinds := [], alts := [], laidByText := true, laidKinds := [.data, .handle, .pinned], laidTests := true, laidLooks := .later }
def LexNameUptoCardSaid : Prop := Claim7.holds Tryz.pinned (.plain (OpenSpec.upto lexNameSpec)) lexNameUptoCard

/-- THE SECOND FORM's CARD OF 'credencelaw06.LexApart'. -/
def lexApartUptoCard : Claim7 := { stood := { row := lexApartUptoRow, standIns := [], harness := (true, "59bf8b1a578d79f4b2a4d2687aab7c35e971425e85e3e2b7c850d7da474ce9d0"), looks := true }, kinds := [], alts := [], laidByText := true, laidKinds := [.data, .handle, .pinned], laidTests := true, laidLooks := .later }
def LexApartUptoCardSaid : Prop := Claim7.holds Tryz.pinned (.plain (OpenSpec.upto lexApartSpec)) lexApartUptoCard

/-- THE SECOND FORM's CARD OF 'credencelaw06.LexQuoted'. -/
def lexQuotedUptoCard : Claim7 := { stood := { row := lexQuotedUptoRow, standIns := [], harness := (true, "59bf8b1a578d79f4b2a4d2687aab7c35e971425e85e3e2b7c850d7da474ce9d0"), looks := true }, kinds := [], alts := [], laidByText := true, laidKinds := [.data, .handle, .pinned], laidTests := true, laidLooks := .later }
def LexQuotedUptoCardSaid : Prop := Claim7.holds Tryz.pinned (.plain (OpenSpec.upto lexQuotedSpec)) lexQuotedUptoCard

/-- THE SECOND FORM's CARD OF 'credencelaw06.LexNamed'. -/
def lexNamedUptoCard : Claim7 := { stood := { row := lexNamedUptoRow, standIns := [], harness := (true, "59bf8b1a578d79f4b2a4d2687aab7c35e971425e85e3e2b7c850d7da474ce9d0"), looks := true }, kinds := [], alts := [], laidByText := true, laidKinds := [.data, .handle, .pinned], laidTests := true, laidLooks := .later }
def LexNamedUptoCardSaid : Prop := Claim7.holds Tryz.pinned (.plain (OpenSpec.upto lexNamedSpec)) lexNamedUptoCard

/-- THE SECOND FORM's CARD OF 'credencelaw23.QueryParse'. -/
def queryParseUptoCard : Claim7 := { stood := { row := queryParseUptoRow, standIns := [], harness := (true, "59bf8b1a578d79f4b2a4d2687aab7c35e971425e85e3e2b7c850d7da474ce9d0"), looks := true }, kinds := [], alts := [], laidByText := true, laidKinds := [.data, .handle, .pinned], laidTests := true, laidLooks := .later }
def QueryParseUptoCardSaid : Prop := Claim7.holds Tryz.pinned (.plain (OpenSpec.upto queryParseSpec)) queryParseUptoCard
end Rows
end Go.Proofs.YtnfegieaaaigmaaGreatDoor
