/-
  DERIVED. GIVEN WITH THE SEED: THE CARDS: each row of YtibpjkkgfgmkmaaGreatDoorRows.lean that lists a variable, with what it lists TIED to the program's text (the seventh form; the later family's looks); each row that meets fmt, with fmt's text TOLD by the authors' own Lean function (tested against real Go, not proved from fmt's source: count such statements apart). THE CARD IS WHAT COUNTS. Prove the row's statement (the work); the ties are given (YtibpjkkgfgmkmaaGreatDoorTie.lean); close each card by the builder's one call (the guide's Derived/Test/ToyasCard.lean, 'card_holds'). Laid BY PROGRAM, IN A SANDBOX (cutbox-door.mjs). By AI agents, Wed Nov 11 2026. No macro, syntax, notation, axiom, sorry.
-/
import Derived.Test.YtibpjkkgfgmkmaaGreatDoorRows
import GoSem.ClaimSeven
namespace Go.Proofs.YtibpjkkgfgmkmaaGreatDoor
namespace Rows

/-- THE TIED CARD OF 'platenlaw13.CanonValues'. -/
def canonValuesCard : Claim7 := { stood := { row := canonValuesRow, standIns := [], harness := (true, "7bdcafed717f26635c610f2c9afcce547d8c73b86561e7f371a9cee84f49289c"), looks := true }, kinds := [], alts := [], laidByText := true, laidKinds := [.data, .handle, .listed, .data, .pinned, .pinned], laidTests := true, laidLooks := .later }
def CanonValuesCardSaid : Prop := Claim7.holds Tryz.pinned (.plain (OpenSpec.ofChange canonValuesSpec)) canonValuesCard

/-- THE TIED CARD OF 'platenlaw13.CanonTexts'. -/
def canonTextsCard : Claim7 := { stood := { row := canonTextsRow, standIns := [], harness := (true, "7bdcafed717f26635c610f2c9afcce547d8c73b86561e7f371a9cee84f49289c"), looks := true }, kinds := [], alts := [], laidByText := true, laidKinds := [.data, .handle, .listed, .data, .pinned, .pinned], laidTests := true, laidLooks := .later }
def CanonTextsCardSaid : Prop := Claim7.holds Tryz.pinned (.plain (OpenSpec.ofChange canonTextsSpec)) canonTextsCard

/-- THE SECOND FORM's CARD OF 'platenlaw13.CanonValues'. -/
def canonValuesUptoCard : Claim7 := { stood := { row := canonValuesUptoRow, standIns := [], harness := (true, "7bdcafed717f26635c610f2c9afcce547d8c73b86561e7f371a9cee84f49289c"), looks := true }, kinds := [], alts := [], laidByText := true, laidKinds := [.data, .handle, .listed, .data, .pinned, .pinned], laidTests := true, laidLooks := .later }
def CanonValuesUptoCardSaid : Prop := Claim7.holds Tryz.pinned (.plain (OpenSpec.upto canonValuesSpec)) canonValuesUptoCard

/-- THE SECOND FORM's CARD OF 'platenlaw13.CanonTexts'. -/
def canonTextsUptoCard : Claim7 := { stood := { row := canonTextsUptoRow, standIns := [], harness := (true, "7bdcafed717f26635c610f2c9afcce547d8c73b86561e7f371a9cee84f49289c"), looks := true }, kinds := [], alts := [], laidByText := true, laidKinds := [.data, .handle, .listed, .data, .pinned, .pinned], laidTests := true, laidLooks := .later }
def CanonTextsUptoCardSaid : Prop := Claim7.holds Tryz.pinned (.plain (OpenSpec.upto canonTextsSpec)) canonTextsUptoCard
end Rows
end Go.Proofs.YtibpjkkgfgmkmaaGreatDoor
