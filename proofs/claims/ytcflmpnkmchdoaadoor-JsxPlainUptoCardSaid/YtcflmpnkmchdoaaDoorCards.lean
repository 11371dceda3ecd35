/-
  DERIVED. GIVEN WITH THE SEED: THE CARDS: each row of YtcflmpnkmchdoaaDoorRows.lean that lists a variable, with what it lists TIED to the program's text (the seventh form; the later family's looks); each row that meets fmt, with fmt's text TOLD by the authors' own Lean function (tested against real Go, not proved from fmt's source: count such statements apart). THE CARD IS WHAT COUNTS. Prove the row's statement (the work); the ties are given (YtcflmpnkmchdoaaDoorTie.lean); close each card by the builder's one call (the guide's Derived/Test/ToyasCard.lean, 'card_holds'). Laid BY PROGRAM, IN A SANDBOX (cutbox-door.mjs). By AI agents, Wed Nov 11 2026. No macro, syntax, notation, axiom, sorry.
-/
import Derived.Test.YtcflmpnkmchdoaaDoorRows
import GoSem.ClaimSeven
namespace Go.Proofs.YtcflmpnkmchdoaaDoor
namespace Rows

/-- THE TIED CARD OF 'platenlaw7.JsxEntities'. -/
def jsxEntitiesCard : Claim7 := { stood := { row := jsxEntitiesRow, standIns := [], harness := (true, "95293f02b1962656d4c9694676a4aa06c8f765eaa35c3787361162e43a52df7f"), looks := false }, kinds := [], alts := [], laidByText := true, laidKinds := [.data, .pinned], laidTests := true, laidLooks := .later }
def JsxEntitiesCardSaid : Prop := Claim7.holds Tryd.pinned (.plain (OpenSpec.ofChange jsxEntitiesSpec)) jsxEntitiesCard

/-- THE TIED CARD OF 'platenlaw7.JsxShows'. -/
def jsxShowsCard : Claim7 := { stood := { row := jsxShowsRow, standIns := [], harness := (true, "95293f02b1962656d4c9694676a4aa06c8f765eaa35c3787361162e43a52df7f"), looks := false }, kinds := [], alts := [], laidByText := true, laidKinds := [.data, .pinned], laidTests := true, laidLooks := .later }
def JsxShowsCardSaid : Prop := Claim7.holds Tryd.pinned (.plain (OpenSpec.ofChange jsxShowsSpec)) jsxShowsCard

/-- THE TIED CARD OF 'platenlaw7.JsxStays'. -/
def jsxStaysCard : Claim7 := { stood := { row := jsxStaysRow, standIns := [], harness := (true, "95293f02b1962656d4c9694676a4aa06c8f765eaa35c3787361162e43a52df7f"), looks := false }, kinds := [], alts := [], laidByText := true, laidKinds := [.data, .pinned], laidTests := true, laidLooks := .later }
def JsxStaysCardSaid : Prop := Claim7.holds Tryd.pinned (.plain (OpenSpec.ofChange jsxStaysSpec)) jsxStaysCard

/-- THE TIED CARD OF 'platenlaw7.JsxNumbers'. -/
def jsxNumbersCard : Claim7 := { stood := { row := jsxNumbersRow, standIns := [], harness := (true, "95293f02b1962656d4c9694676a4aa06c8f765eaa35c3787361162e43a52df7f"), looks := false }, kinds := [], alts := [], laidByText := true, laidKinds := [.data, .pinned], laidTests := true, laidLooks := .later }
def JsxNumbersCardSaid : Prop := Claim7.holds Tryd.pinned (.plain (OpenSpec.ofChange jsxNumbersSpec)) jsxNumbersCard

/-- THE TIED CARD OF 'platenlaw7.JsxLines'. -/
def jsxLinesCard : Claim7 := { stood := { row := jsxLinesRow, standIns := [], harness := (true, "95293f02b1962656d4c9694676a4aa06c8f765eaa35c3787361162e43a52df7f"), looks := false }, kinds := [], alts := [], laidByText := true, laidKinds := [.data, .pinned], laidTests := true, laidLooks := .later }
def JsxLinesCardSaid : Prop := Claim7.holds Tryd.pinned (.plain (OpenSpec.ofChange jsxLinesSpec)) jsxLinesCard

/-- THE TIED CARD OF 'platenlaw7.JsxPlain'. -/
def jsxPlainCard : Claim7 := { stood := { row := jsxPlainRow, standIns := [], harness := (true, "95293f02b1962656d4c9694676a4aa06c8f765eaa35c3787361162e43a52df7f"), looks := false }, kinds := [], alts := [], laidByText := true, laidKinds := [.data, .pinned], laidTests := true, laidLooks := .later }
def JsxPlainCardSaid : Prop := Claim7.holds Tryd.pinned (.plain (OpenSpec.ofChange jsxPlainSpec)) jsxPlainCard

/-- THE SECOND FORM's CARD OF 'platenlaw7.JsxEntities'. -/
def jsxEntitiesUptoCard : Claim7 := { stood := { row := jsxEntitiesUptoRow, standIns := [], harness := (true, "95293f02b1962656d4c9694676a4aa06c8f765eaa35c3787361162e43a52df7f"), looks := false }, kinds := [], alts := [], laidByText := true, laidKinds := [.data, .pinned], laidTests := true, laidLooks := .later }
def JsxEntitiesUptoCardSaid : Prop := Claim7.holds Tryd.pinned (.plain (OpenSpec.upto jsxEntitiesSpec)) jsxEntitiesUptoCard

/-- THE SECOND FORM's CARD OF 'platenlaw7.JsxShows'. -/
def jsxShowsUptoCard : Claim7 := { stood := { row := jsxShowsUptoRow, standIns := [], harness := (true, "95293f02b1962656d4c9694676a4aa06c8f765eaa35c3787361162e43a52df7f"), looks := false }, kinds := [], alts := [], laidByText := true, laidKinds := [.data, .pinned], laidTests := true, laidLooks := .later }
def JsxShowsUptoCardSaid : Prop := Claim7.holds Tryd.pinned (.plain (OpenSpec.upto jsxShowsSpec)) jsxShowsUptoCard

/-- THE SECOND FORM's CARD OF 'platenlaw7.JsxStays'. -/
def jsxStaysUptoCard : Claim7 := { stood := { row := jsxStaysUptoRow, standIns := [], harness := (true, "95293f02b1962656d4c9694676a4aa06c8f765eaa35c3787361162e43a52df7f"), looks := false }, kinds := [], alts := [], laidByText := true, laidKinds := [.data, .pinned], laidTests := true, laidLooks := .later }
def JsxStaysUptoCardSaid : Prop := Claim7.holds Tryd.pinned (.plain (OpenSpec.upto jsxStaysSpec)) jsxStaysUptoCard

/-- THE SECOND FORM's CARD OF 'platenlaw7.JsxNumbers'. -/
def jsxNumbersUptoCard : Claim7 := { stood := { row := jsxNumbersUptoRow, standIns := [], harness := (true, "95293f02b1962656d4c9694676a4aa06c8f765eaa35c3787361162e43a52df7f"), looks := false }, kinds := [], alts := [], laidByText := true, laidKinds := [.data, .pinned], laidTests := true, laidLooks := .later }
def JsxNumbersUptoCardSaid : Prop := Claim7.holds Tryd.pinned (.plain (OpenSpec.upto jsxNumbersSpec)) jsxNumbersUptoCard

/-- THE SECOND FORM's CARD OF 'platenlaw7.JsxLines'. -/
def jsxLinesUptoCard : Claim7 := { stood := { row := jsxLinesUptoRow, standIns := [], harness := (true, "95293f02b1962656d4c9694676a4aa06c8f765eaa35c3787361162e43a52df7f"), looks := false }, kinds := [], alts := [], laidByText := true, laidKinds := [.data, .pinned], laidTests := true, laidLooks := .later }
def JsxLinesUptoCardSaid : Prop := Claim7.holds Tryd.pinned (.plain (OpenSpec.upto jsxLinesSpec)) jsxLinesUptoCard

/-- THE SECOND FORM's CARD OF 'platenlaw7.JsxPlain'. -/
def jsxPlainUptoCard : Claim7 := { stood := { row := jsxPlainUptoRow, standIns := [], harness := (true, "95293f02b1962656d4c9694676a4aa06c8f765eaa35c3787361162e43a52df7f"), looks := false }, kinds := [], alts := [], laidByText := true, laidKinds := [.data, .pinned], laidTests := true, laidLooks := .later }
def JsxPlainUptoCardSaid : Prop := Claim7.holds Tryd.pinned (.plain (OpenSpec.upto jsxPlainSpec)) jsxPlainUptoCard
end Rows
end Go.Proofs.YtcflmpnkmchdoaaDoor
