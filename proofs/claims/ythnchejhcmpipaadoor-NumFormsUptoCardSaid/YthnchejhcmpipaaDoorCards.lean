/-
  DERIVED. GIVEN WITH THE SEED: THE CARDS: each row of YthnchejhcmpipaaDoorRows.lean that lists a variable, with what it lists TIED to the program's text (the seventh form; the later family's looks); each row that meets fmt, with fmt's text TOLD by the authors' own Lean function (tested against real Go, not proved from fmt's source: count such statements apart). THE CARD IS WHAT COUNTS. Prove the row's statement (the work); the ties are given (YthnchejhcmpipaaDoorTie.lean); close each card by the builder's one call (the guide's Derived/Test/ToyasCard.lean, 'card_holds'). Laid BY PROGRAM, IN A SANDBOX (cutbox-door.mjs). By AI agents, Wed Nov 11 2026. No macro, syntax, notation, axiom, sorry.
-/
import Derived.Test.YthnchejhcmpipaaDoorRows
import GoSem.ClaimSeven
namespace Go.Proofs.YthnchejhcmpipaaDoor
namespace Rows

/-- THE TIED CARD OF 'platenlaw2.NumForms'. -/
def numFormsCard : Claim7 := { stood := { row := numFormsRow, standIns := [], harness := (true, "f4f420fa5dc51632cb4599efe9765f4ddde35ee195628b248a7babb492b7490a"), looks := false }, kinds := [], alts := [], laidByText := true, laidKinds := [.data, .pinned, .pinned], laidTests := true, laidLooks := .later }
def NumFormsCardSaid : Prop := Claim7.holds Tryd.pinned (.plain (OpenSpec.ofChange numFormsSpec)) numFormsCard

/-- THE TIED CARD OF 'platenlaw2.NumPrints'. -/
def numPrintsCard : Claim7 := { stood := { row := numPrintsRow, standIns := [], harness := (true, "f4f420fa5dc51632cb4599efe9765f4ddde35ee195628b248a7babb492b7490a"), looks := false }, kinds := [], alts := [], laidByText := true, laidKinds := [.data, .pinned, .pinned], laidTests := true, laidLooks := .later }
def NumPrintsCardSaid : Prop := Claim7.holds Tryd.pinned (.plain (OpenSpec.ofChange numPrintsSpec)) numPrintsCard

/-- THE TIED CARD OF 'platenlaw2.NumRuns'. -/
def numRunsCard : Claim7 := { stood := { row := numRunsRow, standIns := [], harness := (true, "f4f420fa5dc51632cb4599efe9765f4ddde35ee195628b248a7babb492b7490a"), looks := false }, kinds := [], alts := [], laidByText := true, laidKinds := [.data, .pinned, .pinned], laidTests := true, laidLooks := .later }
def NumRunsCardSaid : Prop := Claim7.holds Tryd.pinned (.plain (OpenSpec.ofChange numRunsSpec)) numRunsCard

/-- THE TIED CARD OF 'platenlaw2.NumOthers'. -/
def numOthersCard : Claim7 := { stood := { row := numOthersRow, standIns := [], harness := (true, "f4f420fa5dc51632cb4599efe9765f4ddde35ee195628b248a7babb492b7490a"), looks := false }, kinds := [], alts := [], laidByText := true, laidKinds := [.data, .pinned, .pinned], laidTests := true, laidLooks := .later }
def NumOthersCardSaid : Prop := Claim7.holds Tryd.pinned (.plain (OpenSpec.ofChange numOthersSpec)) numOthersCard

/-- THE SECOND FORM's CARD OF 'platenlaw2.NumForms'. -/
def numFormsUptoCard : Claim7 := { stood := { row := numFormsUptoRow, standIns := [], harness := (true, "f4f420fa5dc51632cb4599efe9765f4ddde35ee195628b248a7babb492b7490a"), looks := false }, kinds := [], alts := [], laidByText := true, laidKinds := [.data, .pinned, .pinned], laidTests := true, laidLooks := .later }
def NumFormsUptoCardSaid : Prop := Claim7.holds Tryd.pinned (.plain (OpenSpec.upto numFormsSpec)) numFormsUptoCard

/-- THE SECOND FORM's CARD OF 'platenlaw2.NumPrints'. -/
def numPrintsUptoCard : Claim7 := { stood := { row := numPrintsUptoRow, standIns := [], harness := (true, "f4f420fa5dc51632cb4599efe9765f4ddde35ee195628b248a7babb492b7490a"), looks := false }, kinds := [], alts := [], laidByText := true, laidKinds := [.data, .pinned, .pinned], laidTests := true, laidLooks := .later }
def NumPrintsUptoCardSaid : Prop := Claim7.holds Tryd.pinned (.plain (OpenSpec.upto numPrintsSpec)) numPrintsUptoCard

/-- THE SECOND FORM's CARD OF 'platenlaw2.NumRuns'. -/
def numRunsUptoCard : Claim7 := { stood := { row := numRunsUptoRow, standIns := [], harness := (true, "f4f420fa5dc51632cb4599efe9765f4ddde35ee195628b248a7babb492b7490a"), looks := false }, kinds := [], alts := [], laidByText := true, laidKinds := [.data, .pinned, .pinned], laidTests := true, laidLooks := .later }
def NumRunsUptoCardSaid : Prop := Claim7.holds Tryd.pinned (.plain (OpenSpec.upto numRunsSpec)) numRunsUptoCard

/-- THE SECOND FORM's CARD OF 'platenlaw2.NumOthers'. -/
def numOthersUptoCard : Claim7 := { stood := { row := numOthersUptoRow, standIns := [], harness := (true, "f4f420fa5dc51632cb4599efe9765f4ddde35ee195628b248a7babb492b7490a"), looks := false }, kinds := [], alts := [], laidByText := true, laidKinds := [.data, .pinned, .pinned], laidTests := true, laidLooks := .later }
def NumOthersUptoCardSaid : Prop := Claim7.holds Tryd.pinned (.plain (OpenSpec.upto numOthersSpec)) numOthersUptoCard
end Rows
end Go.Proofs.YthnchejhcmpipaaDoor
