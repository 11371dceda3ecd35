/-
  DERIVED. GIVEN WITH THE SEED: THE CARDS: each row of YtcgbkjhoifhnnaaGreatDoorRows.lean that lists a variable, with what it lists TIED to the program's text (the seventh form; the later family's looks); each row that meets fmt, with fmt's text TOLD by the authors' own Lean function (tested against real Go, not proved from fmt's source: count such statements apart). THE CARD IS WHAT COUNTS. Prove the row's statement (the work); the ties are given (YtcgbkjhoifhnnaaGreatDoorTie.lean); close each card by the builder's one call (the guide's Derived/Test/ToyasCard.lean, 'card_holds'). Laid BY PROGRAM, IN A SANDBOX (cutbox-door.mjs). By AI agents, Wed Nov 11 2026. No macro, syntax, notation, axiom, sorry.
-/
import Derived.Test.YtcgbkjhoifhnnaaGreatDoorRows
import GoSem.ClaimSeven
namespace Go.Proofs.YtcgbkjhoifhnnaaGreatDoor
namespace Rows

/-- THE TIED CARD OF 'platenlaw10.ParseLists'. -/
def parseListsCard : Claim7 := { stood := { row := parseListsRow, standIns := [], harness := (true, "9c1ed250d203e1fcc56ee18f7c0ae5de2e00ffed5b10a402f884d5be15e81de2"), looks := true }, kinds := [], alts := [], laidByText := true, laidKinds := [.data, .handle, .listed, .data, .pinned], laidTests := true, laidLooks := .later }
def ParseListsCardSaid : Prop := Claim7.holds Tryz.pinned (.plain (OpenSpec.ofChange parseListsSpec)) parseListsCard

/-- THE TIED CARD OF 'platenlaw10.ParseLines'. -/
def parseLinesCard : Claim7 := { stood := { row := parseLinesRow, standIns := [], harness := (true, "9c1ed250d203e1fcc56ee18f7c0ae5de2e00ffed5b10a402f884d5be15e81de2"), looks := true }, kinds := [], alts := [], laidByText := true, laidKinds := [.data, .handle, .listed, .data, .pinned], laidTests := true, laidLooks := .later }
def ParseLinesCardSaid : Prop := Claim7.holds Tryz.pinned (.plain (OpenSpec.ofChange parseLinesSpec)) parseLinesCard

/-- THE SECOND FORM's CARD OF 'platenlaw10.ParseLists'. -/
def parseListsUptoCard : Claim7 := { stood := { row := parseListsUptoRow, standIns := [], harness := (true, "9c1ed250d203e1fcc56ee18f7c0ae5de2e00ffed5b10a402f884d5be15e81de2"), looks := true }, kinds := [], alts := [], laidByText := true, laidKinds := [.data, .handle, .listed, .data, .pinned], laidTests := true, laidLooks := .later }
def ParseListsUptoCardSaid : Prop := Claim7.holds Tryz.pinned (.plain (OpenSpec.upto parseListsSpec)) parseListsUptoCard

/-- THE SECOND FORM's CARD OF 'platenlaw10.ParseLines'. -/
def parseLinesUptoCard : Claim7 := { stood := { row := parseLinesUptoRow, standIns := [], harness := (true, "9c1ed250d203e1fcc56ee18f7c0ae5de2e00ffed5b10a402f884d5be15e81de2"), looks := true }, kinds := [], alts := [], laidByText := true, laidKinds := [.data, .handle, .listed, .data, .pinned], laidTests := true, laidLooks := .later }
def ParseLinesUptoCardSaid : Prop := Claim7.holds Tryz.pinned (.plain (OpenSpec.upto parseLinesSpec)) parseLinesUptoCard
end Rows
end Go.Proofs.YtcgbkjhoifhnnaaGreatDoor
