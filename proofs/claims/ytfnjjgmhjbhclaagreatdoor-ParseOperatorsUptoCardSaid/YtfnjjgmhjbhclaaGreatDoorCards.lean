/-
  DERIVED. GIVEN WITH THE SEED: THE CARDS: each row of YtfnjjgmhjbhclaaGreatDoorRows.lean that lists a variable, with what it lists TIED to the program's text (the seventh form; the later family's looks); each row that meets fmt, with fmt's text TOLD by the authors' own Lean function (tested against real Go, not proved from fmt's source: count such statements apart). THE CARD IS WHAT COUNTS. Prove the row's statement (the work); the ties are given (YtfnjjgmhjbhclaaGreatDoorTie.lean); close each card by the builder's one call (the guide's Derived/Test/ToyasCard.lean, 'card_holds'). Laid BY PROGRAM, IN A SANDBOX (cutbox-door.mjs). By AI agents, Wed Nov 11 2026. No macro, syntax, notation, axiom, sorry.
-/
import Derived.Test.YtfnjjgmhjbhclaaGreatDoorRows
import GoSem.ClaimSeven
namespace Go.Proofs.YtfnjjgmhjbhclaaGreatDoor
namespace Rows

/-- THE TIED CARD OF 'platenlaw10.ParseOperators'. -/
def parseOperatorsCard : Claim7 := { stood := { row := parseOperatorsRow, standIns := [], harness := (true, "a9e45972a860e0f960d40098f8e246c40230b88feffc2c7917215cdc0b7e1658"), looks := true }, kinds := [], alts := [], laidByText := true, laidKinds := [.data, .handle, .listed, .data, .pinned], laidTests := true, laidLooks := .later }
def ParseOperatorsCardSaid : Prop := Claim7.holds Tryz.pinned (.plain (OpenSpec.ofChange parseOperatorsSpec)) parseOperatorsCard

/-- THE TIED CARD OF 'platenlaw10.ParseAssigns'. -/
def parseAssignsCard : Claim7 := { stood := { row := parseAssignsRow, standIns := [], harness := (true, "a9e45972a860e0f960d40098f8e246c40230b88feffc2c7917215cdc0b7e1658"), looks := true }, kinds := [], alts := [], laidByText := true, laidKinds := [.data, .handle, .listed, .data, .pinned], laidTests := true, laidLooks := .later }
def ParseAssignsCardSaid : Prop := Claim7.holds Tryz.pinned (.plain (OpenSpec.ofChange parseAssignsSpec)) parseAssignsCard

/-- THE TIED CARD OF 'platenlaw10.ParseSigns'. -/
def parseSignsCard : Claim7 := { stood := { row := parseSignsRow, standIns := [], harness := (true, "a9e45972a860e0f960d40098f8e246c40230b88feffc2c7917215cdc0b7e1658"), looks := true }, kinds := [], alts := [], laidByText := true, laidKinds := [.data, .handle, .listed, .data, .pinned], laidTests := true, laidLooks := .later }
def ParseSignsCardSaid : Prop := Claim7.holds Tryz.pinned (.plain (OpenSpec.ofChange parseSignsSpec)) parseSignsCard

/-- THE TIED CARD OF 'platenlaw10.ParseLinks'. -/
def parseLinksCard : Claim7 := { stood := { row := parseLinksRow, standIns := [], harness := (true, "a9e45972a860e0f960d40098f8e246c40230b88feffc2c7917215cdc0b7e1658"), looks := true }, kinds := [], alts := [], laidByText := true, laidKinds := [.data, .handle, .listed, .data, .pinned], laidTests := true, laidLooks := .later }
def ParseLinksCardSaid : Prop := Claim7.holds Tryz.pinned (.plain (OpenSpec.ofChange parseLinksSpec)) parseLinksCard

/-- THE TIED CARD OF 'platenlaw10.ParseNews'. -/
def parseNewsCard : Claim7 := { stood := { row := parseNewsRow, standIns := [], harness := (true, "a9e45972a860e0f960d40098f8e246c40230b88feffc2c7917215cdc0b7e1658"), looks := true }, kinds := [], alts := [], laidByText := true, laidKinds := [.data, .handle, .listed, .data, .pinned], laidTests := true, laidLooks := .later }
def ParseNewsCardSaid : Prop := Claim7.holds Tryz.pinned (.plain (OpenSpec.ofChange parseNewsSpec)) parseNewsCard

/-- THE SECOND FORM's CARD OF 'platenlaw10.ParseOperators'. -/
def parseOperatorsUptoCard : Claim7 := { stood := { row := parseOperatorsUptoRow, standIns := [], harness := (true, "a9e45972a860e0f960d40098f8e246c40230b88feffc2c7917215cdc0b7e1658"), looks := true }, kinds := [], alts := [], laidByText := true, laidKinds := [.data, .handle, .listed, .data, .pinned], laidTests := true, laidLooks := .later }
def ParseOperatorsUptoCardSaid : Prop := Claim7.holds Tryz.pinned (.plain (OpenSpec.upto parseOperatorsSpec)) parseOperatorsUptoCard

/-- THE SECOND FORM's CARD OF 'platenlaw10.ParseAssigns'. -/
def parseAssignsUptoCard : Claim7 := { stood := { row := parseAssignsUptoRow, standIns := [], harness := (true, "a9e45972a860e0f960d40098f8e246c40230b88feffc2c7917215cdc0b7e1658"), looks := true }, kinds := [], alts := [], laidByText := true, laidKinds := [.data, .handle, .listed, .data, .pinned], laidTests := true, laidLooks := .later }
def ParseAssignsUptoCardSaid : Prop := Claim7.holds Tryz.pinned (.plain (OpenSpec.upto parseAssignsSpec)) parseAssignsUptoCard

/-- THE SECOND FORM's CARD OF 'platenlaw10.ParseSigns'. -/
def parseSignsUptoCard : Claim7 := { stood := { row := parseSignsUptoRow, standIns := [], harness := (true, "a9e45972a860e0f960d40098f8e246c40230b88feffc2c7917215cdc0b7e1658"), looks := true }, kinds := [], alts := [], laidByText := true, laidKinds := [.data, .handle, .listed, .data, .pinned], laidTests := true, laidLooks := .later }
def ParseSignsUptoCardSaid : Prop := Claim7.holds Tryz.pinned (.plain (OpenSpec.upto parseSignsSpec)) parseSignsUptoCard

/-- THE SECOND FORM's CARD OF 'platenlaw10.ParseLinks'. -/
def parseLinksUptoCard : Claim7 := { stood := { row := parseLinksUptoRow, standIns := [], harness := (true, "a9e45972a860e0f960d40098f8e246c40230b88feffc2c7917215cdc0b7e1658"), looks := true }, kinds := [], alts := [], laidByText := true, laidKinds := [.data, .handle, .listed, .data, .pinned], laidTests := true, laidLooks := .later }
def ParseLinksUptoCardSaid : Prop := Claim7.holds Tryz.pinned (.plain (OpenSpec.upto parseLinksSpec)) parseLinksUptoCard

/-- THE SECOND FORM's CARD OF 'platenlaw10.ParseNews'. -/
def parseNewsUptoCard : Claim7 := { stood := { row := parseNewsUptoRow, standIns := [], harness := (true, "a9e45972a860e0f960d40098f8e246c40230b88feffc2c7917215cdc0b7e1658"), looks := true }, kinds := [], alts := [], laidByText := true, laidKinds := [.data, .handle, .listed, .data, .pinned], laidTests := true, laidLooks := .later }
def ParseNewsUptoCardSaid : Prop := Claim7.holds Tryz.pinned (.plain (OpenSpec.upto parseNewsSpec)) parseNewsUptoCard
end Rows
end Go.Proofs.YtfnjjgmhjbhclaaGreatDoor
