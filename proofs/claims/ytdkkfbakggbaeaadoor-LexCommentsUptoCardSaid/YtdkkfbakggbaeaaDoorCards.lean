/-
  DERIVED. GIVEN WITH THE SEED: THE CARDS: each row of YtdkkfbakggbaeaaDoorRows.lean that lists a variable, with what it lists TIED to the program's text (the seventh form; the later family's looks); each row that meets fmt, with fmt's text TOLD by the authors' own Lean function (tested against real Go, not proved from fmt's source: count such statements apart). THE CARD IS WHAT COUNTS. Prove the row's statement (the work); the ties are given (YtdkkfbakggbaeaaDoorTie.lean); close each card by the builder's one call (the guide's Derived/Test/ToyasCard.lean, 'card_holds'). Laid BY PROGRAM, IN A SANDBOX (cutbox-door.mjs). By AI agents, Wed Nov 11 2026. No macro, syntax, notation, axiom, sorry.
-/
import Derived.Test.YtdkkfbakggbaeaaDoorRows
import GoSem.ClaimSeven
namespace Go.Proofs.YtdkkfbakggbaeaaDoor
namespace Rows

/-- THE TIED CARD OF 'platenlaw5.LexPieces'. -/
def lexPiecesCard : Claim7 := { stood := { row := lexPiecesRow, standIns := [], harness := (true, "7e6d86f40768609e8e27faeb8d5463498d1c59d286f4b5778d808adb70524e3c"), looks := false }, kinds := [], alts := [], laidByText := true, laidKinds := [.data, .listed, .data, .pinned], laidTests := true, laidLooks := .later }
def LexPiecesCardSaid : Prop := Claim7.holds Tryd.pinned (.plain (OpenSpec.ofChange lexPiecesSpec)) lexPiecesCard

/-- THE TIED CARD OF 'platenlaw5.LexBlanks'. -/
def lexBlanksCard : Claim7 := { stood := { row := lexBlanksRow, standIns := [], harness := (true, "7e6d86f40768609e8e27faeb8d5463498d1c59d286f4b5778d808adb70524e3c"), looks := false }, kinds := [], alts := [], laidByText := true, laidKinds := [.data, .listed, .data, .pinned], laidTests := true, laidLooks := .later }
def LexBlanksCardSaid : Prop := Claim7.holds Tryd.pinned (.plain (OpenSpec.ofChange lexBlanksSpec)) lexBlanksCard

/-- THE TIED CARD OF 'platenlaw5.LexEnds'. -/
def lexEndsCard : Claim7 := { stood := { row := lexEndsRow, standIns := [], harness := (true, "7e6d86f40768609e8e27faeb8d5463498d1c59d286f4b5778d808adb70524e3c"), looks := false }, kinds := [], alts := [], laidByText := true, laidKinds := [.data, .listed, .data, .pinned], laidTests := true, laidLooks := .later }
def LexEndsCardSaid : Prop := Claim7.holds Tryd.pinned (.plain (OpenSpec.ofChange lexEndsSpec)) lexEndsCard

/-- THE TIED CARD OF 'platenlaw5.LexPuncts'. -/
def lexPunctsCard : Claim7 := { stood := { row := lexPunctsRow, standIns := [], harness := (true, "7e6d86f40768609e8e27faeb8d5463498d1c59d286f4b5778d808adb70524e3c"), looks := false }, kinds := [], alts := [], laidByText := true, laidKinds := [.data, .listed, .data, .pinned], laidTests := true, laidLooks := .later }
def LexPunctsCardSaid : Prop := Claim7.holds Tryd.pinned (.plain (OpenSpec.ofChange lexPunctsSpec)) lexPunctsCard

/-- THE TIED CARD OF 'platenlaw5.LexStrings'. -/
def lexStringsCard : Claim7 := { stood := { row := lexStringsRow, standIns := [], harness := (true, "7e6d86f40768609e8e27faeb8d5463498d1c59d286f4b5778d808adb70524e3c"), looks := false }, kinds := [], alts := [], laidByText := true, laidKinds := [.data, .listed, .data, .pinned], laidTests := true, laidLooks := .later }
def LexStringsCardSaid : Prop := Claim7.holds Tryd.pinned (.plain (OpenSpec.ofChange lexStringsSpec)) lexStringsCard

/-- THE TIED CARD OF 'platenlaw5.LexTemplates'. -/
def lexTemplatesCard : Claim7 := { stood := { row := lexTemplatesRow, standIns := [], harness := (true, "7e6d86f40768609e8e27faeb8d5463498d1c59d286f4b5778d808adb70524e3c"), looks := false }, kinds := [], alts := [], laidByText := true, laidKinds := [.data, .listed, .data, .pinned], laidTests := true, laidLooks := .later }
def LexTemplatesCardSaid : Prop := Claim7.holds Tryd.pinned (.plain (OpenSpec.ofChange lexTemplatesSpec)) lexTemplatesCard

/-- THE TIED CARD OF 'platenlaw5.LexComments'. -/
def lexCommentsCard : Claim7 := { stood := { row := lexCommentsRow, standIns := [], harness := (true, "7e6d86f40768609e8e27faeb8d5463498d1c59d286f4b5778d808adb70524e3c"), looks := false }, kinds := [], alts := [], laidByText := true, laidKinds := [.data, .listed, .data, .pinned], laidTests := true, laidLooks := .later }
def LexCommentsCardSaid : Prop := Claim7.holds Tryd.pinned (.plain (OpenSpec.ofChange lexCommentsSpec)) lexCommentsCard

/-- THE TIED CARD OF 'platenlaw5.LexRegexes'. -/
def lexRegexesCard : Claim7 := { stood := { row := lexRegexesRow, standIns := [], harness := (true, "7e6d86f40768609e8e27faeb8d5463498d1c59d286f4b5778d808adb70524e3c"), looks := false }, kinds := [], alts := [], laidByText := true, laidKinds := [.data, .listed, .data, .pinned], laidTests := true, laidLooks := .later }
def LexRegexesCardSaid : Prop := Claim7.holds Tryd.pinned (.plain (OpenSpec.ofChange lexRegexesSpec)) lexRegexesCard

/-- THE TIED CARD OF 'platenlaw5.LexNames'. -/
def lexNamesCard : Claim7 := { stood := { row := lexNamesRow, standIns := [], harness := (true, "7e6d86f40768609e8e27faeb8d5463498d1c59d286f4b5778d808adb70524e3c"), looks := false }, kinds := [], alts := [], laidByText := true, laidKinds := [.data, .listed, .data, .pinned], laidTests := true, laidLooks := .later }
def LexNamesCardSaid : Prop := Claim7.holds Tryd.pinned (.plain (OpenSpec.ofChange lexNamesSpec)) lexNamesCard

/-- THE TIED CARD OF 'platenlaw5.LexNumbers'. -/
def lexNumbersCard : Claim7 := { stood := { row := lexNumbersRow, standIns := [], harness := (true, "7e6d86f40768609e8e27faeb8d5463498d1c59d286f4b5778d808adb70524e3c"), looks := false }, kinds := [], alts := [], laidByText := true, laidKinds := [.data, .listed, .data, .pinned], laidTests := true, laidLooks := .later }
def LexNumbersCardSaid : Prop := Claim7.holds Tryd.pinned (.plain (OpenSpec.ofChange lexNumbersSpec)) lexNumbersCard

/-- THE SECOND FORM's CARD OF 'platenlaw5.LexPieces'. -/
def lexPiecesUptoCard : Claim7 := { stood := { row := lexPiecesUptoRow, standIns := [], harness := (true, "7e6d86f40768609e8e27faeb8d5463498d1c59d286f4b5778d808adb70524e3c"), looks := false }, kinds := [], alts := [], laidByText := true, laidKinds := [.data, .listed, .data, .pinned], laidTests := true, laidLooks := .later }
def LexPiecesUptoCardSaid : Prop := Claim7.holds Tryd.pinned (.plain (OpenSpec.upto lexPiecesSpec)) lexPiecesUptoCard

/-- THE SECOND FORM's CARD OF 'platenlaw5.LexBlanks'. -/
def lexBlanksUptoCard : Claim7 := { stood := { row := lexBlanksUptoRow, standIns := [], harness := (true, "7e6d86f40768609e8e27faeb8d5463498d1c59d286f4b5778d808adb70524e3c"), looks := false }, kinds := [], alts := [], laidByText := true, laidKinds := [.data, .listed, .data, .pinned], laidTests := true, laidLooks := .later }
def LexBlanksUptoCardSaid : Prop := Claim7.holds Tryd.pinned (.plain (OpenSpec.upto lexBlanksSpec)) lexBlanksUptoCard

/-- THE SECOND FORM's CARD OF 'platenlaw5.LexEnds'. -/
def lexEndsUptoCard : Claim7 := { stood := { row := lexEndsUptoRow, standIns := [], harness := (true, "7e6d86f40768609e8e27faeb8d5463498d1c59d286f4b5778d808adb70524e3c"), looks := false }, kinds := [], alts := [], laidByText := true, laidKinds := [.data, .listed, .data, .pinned], laidTests := true, laidLooks := .later }
def LexEndsUptoCardSaid : Prop := Claim7.holds Tryd.pinned (.plain (OpenSpec.upto lexEndsSpec)) lexEndsUptoCard

/-- THE SECOND FORM's CARD OF 'platenlaw5.LexPuncts'. -/
def lexPunctsUptoCard : Claim7 := { stood := { row := lexPunctsUptoRow, standIns := [], harness := (true, "7e6d86f40768609e8e27faeb8d5463498d1c59d286f4b5778d808adb70524e3c"), looks := false }, kinds := [], alts := [], laidByText := true, laidKinds := [.data, .listed, .data, .pinned], laidTests := true, laidLooks := .later }
def LexPunctsUptoCardSaid : Prop := Claim7.holds Tryd.pinned (.plain (OpenSpec.upto lexPunctsSpec)) lexPunctsUptoCard

/-- THE SECOND FORM's CARD OF 'platenlaw5.LexStrings'. -/
def lexStringsUptoCard : Claim7 := { stood := { row := lexStringsUptoRow, standIns := [], harness := (true, "7e6d86f40768609e8e27faeb8d5463498d1c59d286f4b5778d808adb70524e3c"), looks := false }, kinds := [], alts := [], laidByText := true, laidKinds := [.data, .listed, .data, .pinned], laidTests := true, laidLooks := .later }
def LexStringsUptoCardSaid : Prop := Claim7.holds Tryd.pinned (.plain (OpenSpec.upto lexStringsSpec)) lexStringsUptoCard

/-- THE SECOND FORM's CARD OF 'platenlaw5.LexTemplates'. -/
def lexTemplatesUptoCard : Claim7 := { stood := { row := lexTemplatesUptoRow, standIns := [], harness := (true, "7e6d86f40768609e8e27faeb8d5463498d1c59d286f4b5778d808adb70524e3c"), looks := false }, kinds := [], alts := [], laidByText := true, laidKinds := [.data, .listed, .data, .pinned], laidTests := true, laidLooks := .later }
def LexTemplatesUptoCardSaid : Prop := Claim7.holds Tryd.pinned (.plain (OpenSpec.upto lexTemplatesSpec)) lexTemplatesUptoCard

/-- THE SECOND FORM's CARD OF 'platenlaw5.LexComments'. -/
def lexCommentsUptoCard : Claim7 := { stood := { row := lexCommentsUptoRow, standIns := [], harness := (true, "7e6d86f40768609e8e27faeb8d5463498d1c59d286f4b5778d808adb70524e3c"), looks := false }, kinds := [], alts := [], laidByText := true, laidKinds := [.data, .listed, .data, .pinned], laidTests := true, laidLooks := .later }
def LexCommentsUptoCardSaid : Prop := Claim7.holds Tryd.pinned (.plain (OpenSpec.upto lexCommentsSpec)) lexCommentsUptoCard

/-- THE SECOND FORM's CARD OF 'platenlaw5.LexRegexes'. -/
def lexRegexesUptoCard : Claim7 := { stood := { row := lexRegexesUptoRow, standIns := [], harness := (true, "7e6d86f40768609e8e27faeb8d5463498d1c59d286f4b5778d808adb70524e3c"), looks := false }, kinds := [], alts := [], laidByText := true, laidKinds := [.data, .listed, .data, .pinned], laidTests := true, laidLooks := .later }
def LexRegexesUptoCardSaid : Prop := Claim7.holds Tryd.pinned (.plain (OpenSpec.upto lexRegexesSpec)) lexRegexesUptoCard

/-- THE SECOND FORM's CARD OF 'platenlaw5.LexNames'. -/
def lexNamesUptoCard : Claim7 := { stood := { row := lexNamesUptoRow, standIns := [], harness := (true, "7e6d86f40768609e8e27faeb8d5463498d1c59d286f4b5778d808adb70524e3c"), looks := false }, kinds := [], alts := [], laidByText := true, laidKinds := [.data, .listed, .data, .pinned], laidTests := true, laidLooks := .later }
def LexNamesUptoCardSaid : Prop := Claim7.holds Tryd.pinned (.plain (OpenSpec.upto lexNamesSpec)) lexNamesUptoCard

/-- THE SECOND FORM's CARD OF 'platenlaw5.LexNumbers'. -/
def lexNumbersUptoCard : Claim7 := { stood := { row := lexNumbersUptoRow, standIns := [], harness := (true, "7e6d86f40768609e8e27faeb8d5463498d1c59d286f4b5778d808adb70524e3c"), looks := false }, kinds := [], alts := [], laidByText := true, laidKinds := [.data, .listed, .data, .pinned], laidTests := true, laidLooks := .later }
def LexNumbersUptoCardSaid : Prop := Claim7.holds Tryd.pinned (.plain (OpenSpec.upto lexNumbersSpec)) lexNumbersUptoCard
end Rows
end Go.Proofs.YtdkkfbakggbaeaaDoor
