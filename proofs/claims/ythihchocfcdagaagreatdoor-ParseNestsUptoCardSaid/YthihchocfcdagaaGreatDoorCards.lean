/-
  DERIVED. GIVEN WITH THE SEED: THE CARDS: each row of YthihchocfcdagaaGreatDoorRows.lean that lists a variable, with what it lists TIED to the program's text (the seventh form; the later family's looks); each row that meets fmt, with fmt's text TOLD by the authors' own Lean function (tested against real Go, not proved from fmt's source: count such statements apart). THE CARD IS WHAT COUNTS. Prove the row's statement (the work); the ties are given (YthihchocfcdagaaGreatDoorTie.lean); close each card by the builder's one call (the guide's Derived/Test/ToyasCard.lean, 'card_holds'). Laid BY PROGRAM, IN A SANDBOX (cutbox-door.mjs). By AI agents, Wed Nov 11 2026. No macro, syntax, notation, axiom, sorry.
-/
import Derived.Test.YthihchocfcdagaaGreatDoorRows
import GoSem.ClaimSeven
namespace Go.Proofs.YthihchocfcdagaaGreatDoor
namespace Rows

/-- THE TIED CARD OF 'platenlaw10.ParseNests'. -/
def parseNestsCard : Claim7 := { stood := { row := parseNestsRow, standIns := [], harness := (true, "4115f556babd57fbd34be551bfb9a92efa8837523ac90d6381abe984d1ff6f8e"), looks := true }, kinds := [], alts := [], laidByText := true, laidKinds := [.data, .handle, .listed, .data, .pinned], laidTests := true, laidLooks := .later }
def ParseNestsCardSaid : Prop := Claim7.holds Tryz.pinned (.plain (OpenSpec.ofChange parseNestsSpec)) parseNestsCard

/-- THE TIED CARD OF 'platenlaw10.ParseRestricted'. -/
def parseRestrictedCard : Claim7 := { stood := { row := parseRestrictedRow, standIns := [], harness := (true, "4115f556babd57fbd34be551bfb9a92efa8837523ac90d6381abe984d1ff6f8e"), looks := true }, kinds := [], alts := [], laidByText := true, laidKinds := [.data, .handle, .listed, .data, .pinned], laidTests := true, laidLooks := .later }
def ParseRestrictedCardSaid : Prop := Claim7.holds Tryz.pinned (.plain (OpenSpec.ofChange parseRestrictedSpec)) parseRestrictedCard

/-- THE TIED CARD OF 'platenlaw10.ParseGoesOn'. -/
def parseGoesOnCard : Claim7 := { stood := { row := parseGoesOnRow, standIns := [], harness := (true, "4115f556babd57fbd34be551bfb9a92efa8837523ac90d6381abe984d1ff6f8e"), looks := true }, kinds := [], alts := [], laidByText := true, laidKinds := [.data, .handle, .listed, .data, .pinned], laidTests := true, laidLooks := .later }
def ParseGoesOnCardSaid : Prop := Claim7.holds Tryz.pinned (.plain (OpenSpec.ofChange parseGoesOnSpec)) parseGoesOnCard

/-- THE TIED CARD OF 'platenlaw10.ParseBlanks'. -/
def parseBlanksCard : Claim7 := { stood := { row := parseBlanksRow, standIns := [], harness := (true, "4115f556babd57fbd34be551bfb9a92efa8837523ac90d6381abe984d1ff6f8e"), looks := true }, kinds := [], alts := [], laidByText := true, laidKinds := [.data, .handle, .listed, .data, .pinned], laidTests := true, laidLooks := .later }
def ParseBlanksCardSaid : Prop := Claim7.holds Tryz.pinned (.plain (OpenSpec.ofChange parseBlanksSpec)) parseBlanksCard

/-- THE SECOND FORM's CARD OF 'platenlaw10.ParseNests'. -/
def parseNestsUptoCard : Claim7 := { stood := { row := parseNestsUptoRow, standIns := [], harness := (true, "4115f556babd57fbd34be551bfb9a92efa8837523ac90d6381abe984d1ff6f8e"), looks := true }, kinds := [], alts := [], laidByText := true, laidKinds := [.data, .handle, .listed, .data, .pinned], laidTests := true, laidLooks := .later }
def ParseNestsUptoCardSaid : Prop := Claim7.holds Tryz.pinned (.plain (OpenSpec.upto parseNestsSpec)) parseNestsUptoCard

/-- THE SECOND FORM's CARD OF 'platenlaw10.ParseRestricted'. -/
def parseRestrictedUptoCard : Claim7 := { stood := { row := parseRestrictedUptoRow, standIns := [], harness := (true, "4115f556babd57fbd34be551bfb9a92efa8837523ac90d6381abe984d1ff6f8e"), looks := true }, kinds := [], alts := [], laidByText := true, laidKinds := [.data, .handle, .listed, .data, .pinned], laidTests := true, laidLooks := .later }
def ParseRestrictedUptoCardSaid : Prop := Claim7.holds Tryz.pinned (.plain (OpenSpec.upto parseRestrictedSpec)) parseRestrictedUptoCard

/-- THE SECOND FORM's CARD OF 'platenlaw10.ParseGoesOn'. -/
def parseGoesOnUptoCard : Claim7 := { stood := { row := parseGoesOnUptoRow, standIns := [], harness := (true, "4115f556babd57fbd34be551bfb9a92efa8837523ac90d6381abe984d1ff6f8e"), looks := true }, kinds := [], alts := [], laidByText := true, laidKinds := [.data, .handle, .listed, .data, .pinned], laidTests := true, laidLooks := .later }
def ParseGoesOnUptoCardSaid : Prop := Claim7.holds Tryz.pinned (.plain (OpenSpec.upto parseGoesOnSpec)) parseGoesOnUptoCard

/-- THE SECOND FORM's CARD OF 'platenlaw10.ParseBlanks'. -/
def parseBlanksUptoCard : Claim7 := { stood := { row := parseBlanksUptoRow, standIns := [], harness := (true, "4115f556babd57fbd34be551bfb9a92efa8837523ac90d6381abe984d1ff6f8e"), looks := true }, kinds := [], alts := [], laidByText := true, laidKinds := [.data, .handle, .listed, .data, .pinned], laidTests := true, laidLooks := .later }
def ParseBlanksUptoCardSaid : Prop := Claim7.holds Tryz.pinned (.plain (OpenSpec.upto parseBlanksSpec)) parseBlanksUptoCard
end Rows
end Go.Proofs.YthihchocfcdagaaGreatDoor
