/-
  DERIVED. GIVEN WITH THE SEED: THE CARDS: each row of YtokfgpjclmdllaaGreatDoorRows.lean that lists a variable, with what it lists TIED to the program's text (the seventh form; the later family's looks); each row that meets fmt, with fmt's text TOLD by the authors' own Lean function (tested against real Go, not proved from fmt's source: count such statements apart). THE CARD IS WHAT COUNTS. Prove the row's statement (the work); the ties are given (YtokfgpjclmdllaaGreatDoorTie.lean); close each card by the builder's one call (the guide's Derived/Test/ToyasCard.lean, 'card_holds'). Laid BY PROGRAM, IN A SANDBOX (cutbox-door.mjs). By AI agents, Wed Nov 11 2026. No macro, syntax, notation, axiom, sorry.
-/
import Derived.Test.YtokfgpjclmdllaaGreatDoorRows
import GoSem.ClaimSeven
namespace Go.Proofs.YtokfgpjclmdllaaGreatDoor
namespace Rows

/-- THE TIED CARD OF 'platenlaw10.ParseLists'. -/
def parseListsCard : Claim7 := { stood := { row := parseListsRow, standIns := [], harness := (true, "20ccd9c77cef4089d7dc69ba91acba9e3ede4945416b633eaea1b66d9bbbab66"), looks := true }, kinds := [], alts := [], laidByText := true, laidKinds := [.data, .handle, .listed, .data, .pinned], laidTests := true, laidLooks := .later }
def ParseListsCardSaid : Prop := Claim7.holds Tryz.pinned (.plain (OpenSpec.ofChange parseListsSpec)) parseListsCard

/-- THE TIED CARD OF 'platenlaw10.ParseArrows'. -/
def parseArrowsCard : Claim7 := { stood := { row := parseArrowsRow, standIns := [], harness := (true, "20ccd9c77cef4089d7dc69ba91acba9e3ede4945416b633eaea1b66d9bbbab66"), looks := true }, kinds := [], alts := [], laidByText := true, laidKinds := [.data, .handle, .listed, .data, .pinned], laidTests := true, laidLooks := .later }
def ParseArrowsCardSaid : Prop := Claim7.holds Tryz.pinned (.plain (OpenSpec.ofChange parseArrowsSpec)) parseArrowsCard

/-- THE TIED CARD OF 'platenlaw10.ParseLines'. -/
def parseLinesCard : Claim7 := { stood := { row := parseLinesRow, standIns := [], harness := (true, "20ccd9c77cef4089d7dc69ba91acba9e3ede4945416b633eaea1b66d9bbbab66"), looks := true }, kinds := [], alts := [], laidByText := true, laidKinds := [.data, .handle, .listed, .data, .pinned], laidTests := true, laidLooks := .later }
def ParseLinesCardSaid : Prop := Claim7.holds Tryz.pinned (.plain (OpenSpec.ofChange parseLinesSpec)) parseLinesCard

/-- THE TIED CARD OF 'platenlaw10.ParseJsx'. -/
def parseJsxCard : Claim7 := { stood := { row := parseJsxRow, standIns := [], harness := (true, "20ccd9c77cef4089d7dc69ba91acba9e3ede4945416b633eaea1b66d9bbbab66"), looks := true }, kinds := [], alts := [], laidByText := true, laidKinds := [.data, .handle, .listed, .data, .pinned], laidTests := true, laidLooks := .later }
def ParseJsxCardSaid : Prop := Claim7.holds Tryz.pinned (.plain (OpenSpec.ofChange parseJsxSpec)) parseJsxCard

/-- THE SECOND FORM's CARD OF 'platenlaw10.ParseLists'. -/
def parseListsUptoCard : Claim7 := { stood := { row := parseListsUptoRow, standIns := [], harness := (true, "20ccd9c77cef4089d7dc69ba91acba9e3ede4945416b633eaea1b66d9bbbab66"), looks := true }, kinds := [], alts := [], laidByText := true, laidKinds := [.data, .handle, .listed, .data, .pinned], laidTests := true, laidLooks := .later }
def ParseListsUptoCardSaid : Prop := Claim7.holds Tryz.pinned (.plain (OpenSpec.upto parseListsSpec)) parseListsUptoCard

/-- THE SECOND FORM's CARD OF 'platenlaw10.ParseArrows'. -/
def parseArrowsUptoCard : Claim7 := { stood := { row := parseArrowsUptoRow, standIns := [], harness := (true, "20ccd9c77cef4089d7dc69ba91acba9e3ede4945416b633eaea1b66d9bbbab66"), looks := true }, kinds := [], alts := [], laidByText := true, laidKinds := [.data, .handle, .listed, .data, .pinned], laidTests := true, laidLooks := .later }
def ParseArrowsUptoCardSaid : Prop := Claim7.holds Tryz.pinned (.plain (OpenSpec.upto parseArrowsSpec)) parseArrowsUptoCard

/-- THE SECOND FORM's CARD OF 'platenlaw10.ParseLines'. -/
def parseLinesUptoCard : Claim7 := { stood := { row := parseLinesUptoRow, standIns := [], harness := (true, "20ccd9c77cef4089d7dc69ba91acba9e3ede4945416b633eaea1b66d9bbbab66"), looks := true }, kinds := [], alts := [], laidByText := true, laidKinds := [.data, .handle, .listed, .data, .pinned], laidTests := true, laidLooks := .later }
def ParseLinesUptoCardSaid : Prop := Claim7.holds Tryz.pinned (.plain (OpenSpec.upto parseLinesSpec)) parseLinesUptoCard

/-- THE SECOND FORM's CARD OF 'platenlaw10.ParseJsx'. -/
def parseJsxUptoCard : Claim7 := { stood := { row := parseJsxUptoRow, standIns := [], harness := (true, "20ccd9c77cef4089d7dc69ba91acba9e3ede4945416b633eaea1b66d9bbbab66"), looks := true }, kinds := [], alts := [], laidByText := true, laidKinds := [.data, .handle, .listed, .data, .pinned], laidTests := true, laidLooks := .later }
def ParseJsxUptoCardSaid : Prop := Claim7.holds Tryz.pinned (.plain (OpenSpec.upto parseJsxSpec)) parseJsxUptoCard
end Rows
end Go.Proofs.YtokfgpjclmdllaaGreatDoor
