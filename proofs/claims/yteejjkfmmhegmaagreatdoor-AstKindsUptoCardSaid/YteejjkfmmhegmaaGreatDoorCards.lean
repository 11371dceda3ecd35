/-
  DERIVED. GIVEN WITH THE SEED: THE CARDS: each row of YteejjkfmmhegmaaGreatDoorRows.lean that lists a variable, with what it lists TIED to the program's text (the seventh form; the later family's looks); each row that meets fmt, with fmt's text TOLD by the authors' own Lean function (tested against real Go, not proved from fmt's source: count such statements apart). THE CARD IS WHAT COUNTS. Prove the row's statement (the work); the ties are given (YteejjkfmmhegmaaGreatDoorTie.lean); close each card by the builder's one call (the guide's Derived/Test/ToyasCard.lean, 'card_holds'). Laid BY PROGRAM, IN A SANDBOX (cutbox-door.mjs). By AI agents, Wed Nov 11 2026. No macro, syntax, notation, axiom, sorry.
-/
import Derived.Test.YteejjkfmmhegmaaGreatDoorRows
import GoSem.ClaimSeven
namespace Go.Proofs.YteejjkfmmhegmaaGreatDoor
namespace Rows

/-- THE TIED CARD OF 'platenlaw8.AstSames'. -/
def astSamesCard : Claim7 := { stood := { row := astSamesRow, standIns := [], harness := (true, "e920525db91c536ed22456b4df2b252c0a0860f25975cb823e0d9123ff364b17"), looks := false }, kinds := [], alts := [], laidByText := true, laidKinds := [.data, .listed, .data, .pinned], laidTests := true, laidLooks := .later }
def AstSamesCardSaid : Prop := Claim7.holds Tryz.pinned (.plain (OpenSpec.ofChange astSamesSpec)) astSamesCard

/-- THE TIED CARD OF 'platenlaw8.AstBares'. -/
def astBaresCard : Claim7 := { stood := { row := astBaresRow, standIns := [], harness := (true, "e920525db91c536ed22456b4df2b252c0a0860f25975cb823e0d9123ff364b17"), looks := false }, kinds := [], alts := [], laidByText := true, laidKinds := [.data, .listed, .data, .pinned], laidTests := true, laidLooks := .later }
def AstBaresCardSaid : Prop := Claim7.holds Tryz.pinned (.plain (OpenSpec.ofChange astBaresSpec)) astBaresCard

/-- THE TIED CARD OF 'platenlaw8.AstDepths'. -/
def astDepthsCard : Claim7 := { stood := { row := astDepthsRow, standIns := [], harness := (true, "e920525db91c536ed22456b4df2b252c0a0860f25975cb823e0d9123ff364b17"), looks := false }, kinds := [], alts := [], laidByText := true, laidKinds := [.data, .listed, .data, .pinned], laidTests := true, laidLooks := .later }
def AstDepthsCardSaid : Prop := Claim7.holds Tryz.pinned (.plain (OpenSpec.ofChange astDepthsSpec)) astDepthsCard

/-- THE TIED CARD OF 'platenlaw8.AstKinds'. -/
def astKindsCard : Claim7 := { stood := { row := astKindsRow, standIns := [], harness := (true, "e920525db91c536ed22456b4df2b252c0a0860f25975cb823e0d9123ff364b17"), looks := false }, kinds := [], alts := [], laidByText := true, laidKinds := [.data, .listed, .data, .pinned], laidTests := true, laidLooks := .later }
def AstKindsCardSaid : Prop := Claim7.holds Tryz.pinned (.plain (OpenSpec.ofChange astKindsSpec)) astKindsCard

/-- THE SECOND FORM's CARD OF 'platenlaw8.AstSames'. -/
def astSamesUptoCard : Claim7 := { stood := { row := astSamesUptoRow, standIns := [], harness := (true, "e920525db91c536ed22456b4df2b252c0a0860f25975cb823e0d9123ff364b17"), looks := false }, kinds := [], alts := [], laidByText := true, laidKinds := [.data, .listed, .data, .pinned], laidTests := true, laidLooks := .later }
def AstSamesUptoCardSaid : Prop := Claim7.holds Tryz.pinned (.plain (OpenSpec.upto astSamesSpec)) astSamesUptoCard

/-- THE SECOND FORM's CARD OF 'platenlaw8.AstBares'. -/
def astBaresUptoCard : Claim7 := { stood := { row := astBaresUptoRow, standIns := [], harness := (true, "e920525db91c536ed22456b4df2b252c0a0860f25975cb823e0d9123ff364b17"), looks := false }, kinds := [], alts := [], laidByText := true, laidKinds := [.data, .listed, .data, .pinned], laidTests := true, laidLooks := .later }
def AstBaresUptoCardSaid : Prop := Claim7.holds Tryz.pinned (.plain (OpenSpec.upto astBaresSpec)) astBaresUptoCard

/-- THE SECOND FORM's CARD OF 'platenlaw8.AstDepths'. -/
def astDepthsUptoCard : Claim7 := { stood := { row := astDepthsUptoRow, standIns := [], harness := (true, "e920525db91c536ed22456b4df2b252c0a0860f25975cb823e0d9123ff364b17"), looks := false }, kinds := [], alts := [], laidByText := true, laidKinds := [.data, .listed, .data, .pinned], laidTests := true, laidLooks := .later }
def AstDepthsUptoCardSaid : Prop := Claim7.holds Tryz.pinned (.plain (OpenSpec.upto astDepthsSpec)) astDepthsUptoCard

/-- THE SECOND FORM's CARD OF 'platenlaw8.AstKinds'. -/
def astKindsUptoCard : Claim7 := { stood := { row := astKindsUptoRow, standIns := [], harness := (true, "e920525db91c536ed22456b4df2b252c0a0860f25975cb823e0d9123ff364b17"), looks := false }, kinds := [], alts := [], laidByText := true, laidKinds := [.data, .listed, .data, .pinned], laidTests := true, laidLooks := .later }
def AstKindsUptoCardSaid : Prop := Claim7.holds Tryz.pinned (.plain (OpenSpec.upto astKindsSpec)) astKindsUptoCard
end Rows
end Go.Proofs.YteejjkfmmhegmaaGreatDoor
