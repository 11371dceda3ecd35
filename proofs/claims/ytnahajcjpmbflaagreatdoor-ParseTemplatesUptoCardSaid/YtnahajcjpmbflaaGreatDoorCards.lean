/-
  DERIVED. GIVEN WITH THE SEED: THE CARDS: each row of YtnahajcjpmbflaaGreatDoorRows.lean that lists a variable, with what it lists TIED to the program's text (the seventh form; the later family's looks); each row that meets fmt, with fmt's text TOLD by the authors' own Lean function (tested against real Go, not proved from fmt's source: count such statements apart). THE CARD IS WHAT COUNTS. Prove the row's statement (the work); the ties are given (YtnahajcjpmbflaaGreatDoorTie.lean); close each card by the builder's one call (the guide's Derived/Test/ToyasCard.lean, 'card_holds'). Laid BY PROGRAM, IN A SANDBOX (cutbox-door.mjs). By AI agents, Wed Nov 11 2026. No macro, syntax, notation, axiom, sorry.
-/
import Derived.Test.YtnahajcjpmbflaaGreatDoorRows
import GoSem.ClaimSeven
namespace Go.Proofs.YtnahajcjpmbflaaGreatDoor
namespace Rows

/-- THE TIED CARD OF 'platenlaw10.ParseDirectives'. -/
def parseDirectivesCard : Claim7 := { stood := { row := parseDirectivesRow, standIns := [], harness := (true, "fd4af745bc5b6898d22404b80a27807c85a63d325babab0c14bffbd375cc0ce8"), looks := true }, kinds := [], alts := [], laidByText := true, laidKinds := [.data, .handle, .listed, .data, .pinned], laidTests := true, laidLooks := .later }
def ParseDirectivesCardSaid : Prop := Claim7.holds Tryz.pinned (.plain (OpenSpec.ofChange parseDirectivesSpec)) parseDirectivesCard

/-- THE TIED CARD OF 'platenlaw10.ParseSwitches'. -/
def parseSwitchesCard : Claim7 := { stood := { row := parseSwitchesRow, standIns := [], harness := (true, "fd4af745bc5b6898d22404b80a27807c85a63d325babab0c14bffbd375cc0ce8"), looks := true }, kinds := [], alts := [], laidByText := true, laidKinds := [.data, .handle, .listed, .data, .pinned], laidTests := true, laidLooks := .later }
def ParseSwitchesCardSaid : Prop := Claim7.holds Tryz.pinned (.plain (OpenSpec.ofChange parseSwitchesSpec)) parseSwitchesCard

/-- THE TIED CARD OF 'platenlaw10.ParseLists'. -/
def parseListsCard : Claim7 := { stood := { row := parseListsRow, standIns := [], harness := (true, "fd4af745bc5b6898d22404b80a27807c85a63d325babab0c14bffbd375cc0ce8"), looks := true }, kinds := [], alts := [], laidByText := true, laidKinds := [.data, .handle, .listed, .data, .pinned], laidTests := true, laidLooks := .later }
def ParseListsCardSaid : Prop := Claim7.holds Tryz.pinned (.plain (OpenSpec.ofChange parseListsSpec)) parseListsCard

/-- THE TIED CARD OF 'platenlaw10.ParseTemplates'. -/
def parseTemplatesCard : Claim7 := { stood := { row := parseTemplatesRow, standIns := [], harness := (true, "fd4af745bc5b6898d22404b80a27807c85a63d325babab0c14bffbd375cc0ce8"), looks := true }, kinds := [], alts := [], laidByText := true, laidKinds := [.data, .handle, .listed, .data, .pinned], laidTests := true, laidLooks := .later }
def ParseTemplatesCardSaid : Prop := Claim7.holds Tryz.pinned (.plain (OpenSpec.ofChange parseTemplatesSpec)) parseTemplatesCard

/-- THE SECOND FORM's CARD OF 'platenlaw10.ParseDirectives'. -/
def parseDirectivesUptoCard : Claim7 := { stood := { row := parseDirectivesUptoRow, standIns := [], harness := (true, "fd4af745bc5b6898d22404b80a27807c85a63d325babab0c14bffbd375cc0ce8"), looks := true }, kinds := [], alts := [], laidByText := true, laidKinds := [.data, .handle, .listed, .data, .pinned], laidTests := true, laidLooks := .later }
def ParseDirectivesUptoCardSaid : Prop := Claim7.holds Tryz.pinned (.plain (OpenSpec.upto parseDirectivesSpec)) parseDirectivesUptoCard

/-- THE SECOND FORM's CARD OF 'platenlaw10.ParseSwitches'. -/
def parseSwitchesUptoCard : Claim7 := { stood := { row := parseSwitchesUptoRow, standIns := [], harness := (true, "fd4af745bc5b6898d22404b80a27807c85a63d325babab0c14bffbd375cc0ce8"), looks := true }, kinds := [], alts := [], laidByText := true, laidKinds := [.data, .handle, .listed, .data, .pinned], laidTests := true, laidLooks := .later }
def ParseSwitchesUptoCardSaid : Prop := Claim7.holds Tryz.pinned (.plain (OpenSpec.upto parseSwitchesSpec)) parseSwitchesUptoCard

/-- THE SECOND FORM's CARD OF 'platenlaw10.ParseLists'. -/
def parseListsUptoCard : Claim7 := { stood := { row := parseListsUptoRow, standIns := [], harness := (true, "fd4af745bc5b6898d22404b80a27807c85a63d325babab0c14bffbd375cc0ce8"), looks := true }, kinds := [], alts := [], laidByText := true, laidKinds := [.data, .handle, .listed, .data, .pinned], laidTests := true, laidLooks := .later }
def ParseListsUptoCardSaid : Prop := Claim7.holds Tryz.pinned (.plain (OpenSpec.upto parseListsSpec)) parseListsUptoCard

/-- THE SECOND FORM's CARD OF 'platenlaw10.ParseTemplates'. -/
def parseTemplatesUptoCard : Claim7 := { stood := { row := parseTemplatesUptoRow, standIns := [], harness := (true, "fd4af745bc5b6898d22404b80a27807c85a63d325babab0c14bffbd375cc0ce8"), looks := true }, kinds := [], alts := [], laidByText := true, laidKinds := [.data, .handle, .listed, .data, .pinned], laidTests := true, laidLooks := .later }
def ParseTemplatesUptoCardSaid : Prop := Claim7.holds Tryz.pinned (.plain (OpenSpec.upto parseTemplatesSpec)) parseTemplatesUptoCard
end Rows
end Go.Proofs.YtnahajcjpmbflaaGreatDoor
