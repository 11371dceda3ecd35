/-
  DERIVED. GIVEN WITH THE SEED: THE CARDS: each row of YtpfbnmjhkedgfaaGreatDoorRows.lean that lists a variable, with what it lists TIED to the program's text (the seventh form; the later family's looks); each row that meets fmt, with fmt's text TOLD by the authors' own Lean function (tested against real Go, not proved from fmt's source: count such statements apart). THE CARD IS WHAT COUNTS. Prove the row's statement (the work); the ties are given (YtpfbnmjhkedgfaaGreatDoorTie.lean); close each card by the builder's one call (the guide's Derived/Test/ToyasCard.lean, 'card_holds'). Laid BY PROGRAM, IN A SANDBOX (cutbox-door.mjs). By AI agents, Wed Nov 11 2026. No macro, syntax, notation, axiom, sorry.
-/
import Derived.Test.YtpfbnmjhkedgfaaGreatDoorRows
import GoSem.ClaimSeven
namespace Go.Proofs.YtpfbnmjhkedgfaaGreatDoor
namespace Rows

/-- THE TIED CARD OF 'platenlaw10.ParseNests'. -/
def parseNestsCard : Claim7 := { stood := { row := parseNestsRow, standIns := [], harness := (true, "69cda562aaa9953118c1405c549c05a89962e445a04cd8df21214b8a4ba00099"), looks := true }, kinds := [], alts := [], laidByText := true, laidKinds := [.data, .handle, .listed, .data, .pinned], laidTests := true, laidLooks := .later }
def ParseNestsCardSaid : Prop := Claim7.holds Tryz.pinned (.plain (OpenSpec.ofChange parseNestsSpec)) parseNestsCard

/-- THE TIED CARD OF 'platenlaw10.ParseMixes'. -/
def parseMixesCard : Claim7 := { stood := { row := parseMixesRow, standIns := [], harness := (true, "69cda562aaa9953118c1405c549c05a89962e445a04cd8df21214b8a4ba00099"), looks := true }, kinds := [], alts := [], laidByText := true, laidKinds := [.data, .handle, .listed, .data, .pinned], laidTests := true, laidLooks := .later }
def ParseMixesCardSaid : Prop := Claim7.holds Tryz.pinned (.plain (OpenSpec.ofChange parseMixesSpec)) parseMixesCard

/-- THE TIED CARD OF 'platenlaw10.ParseRestricted'. -/
def parseRestrictedCard : Claim7 := { stood := { row := parseRestrictedRow, standIns := [], harness := (true, "69cda562aaa9953118c1405c549c05a89962e445a04cd8df21214b8a4ba00099"), looks := true }, kinds := [], alts := [], laidByText := true, laidKinds := [.data, .handle, .listed, .data, .pinned], laidTests := true, laidLooks := .later }
def ParseRestrictedCardSaid : Prop := Claim7.holds Tryz.pinned (.plain (OpenSpec.ofChange parseRestrictedSpec)) parseRestrictedCard

/-- THE TIED CARD OF 'platenlaw10.ParseDirectives'. -/
def parseDirectivesCard : Claim7 := { stood := { row := parseDirectivesRow, standIns := [], harness := (true, "69cda562aaa9953118c1405c549c05a89962e445a04cd8df21214b8a4ba00099"), looks := true }, kinds := [], alts := [], laidByText := true, laidKinds := [.data, .handle, .listed, .data, .pinned], laidTests := true, laidLooks := .later }
def ParseDirectivesCardSaid : Prop := Claim7.holds Tryz.pinned (.plain (OpenSpec.ofChange parseDirectivesSpec)) parseDirectivesCard

/-- THE TIED CARD OF 'platenlaw10.ParseOperators'. -/
def parseOperatorsCard : Claim7 := { stood := { row := parseOperatorsRow, standIns := [], harness := (true, "69cda562aaa9953118c1405c549c05a89962e445a04cd8df21214b8a4ba00099"), looks := true }, kinds := [], alts := [], laidByText := true, laidKinds := [.data, .handle, .listed, .data, .pinned], laidTests := true, laidLooks := .later }
def ParseOperatorsCardSaid : Prop := Claim7.holds Tryz.pinned (.plain (OpenSpec.ofChange parseOperatorsSpec)) parseOperatorsCard

/-- THE TIED CARD OF 'platenlaw10.ParseAssigns'. -/
def parseAssignsCard : Claim7 := { stood := { row := parseAssignsRow, standIns := [], harness := (true, "69cda562aaa9953118c1405c549c05a89962e445a04cd8df21214b8a4ba00099"), looks := true }, kinds := [], alts := [], laidByText := true, laidKinds := [.data, .handle, .listed, .data, .pinned], laidTests := true, laidLooks := .later }
def ParseAssignsCardSaid : Prop := Claim7.holds Tryz.pinned (.plain (OpenSpec.ofChange parseAssignsSpec)) parseAssignsCard

/-- THE TIED CARD OF 'platenlaw10.ParseSigns'. -/
def parseSignsCard : Claim7 := { stood := { row := parseSignsRow, standIns := [], harness := (true, "69cda562aaa9953118c1405c549c05a89962e445a04cd8df21214b8a4ba00099"), looks := true }, kinds := [], alts := [], laidByText := true, laidKinds := [.data, .handle, .listed, .data, .pinned], laidTests := true, laidLooks := .later }
def ParseSignsCardSaid : Prop := Claim7.holds Tryz.pinned (.plain (OpenSpec.ofChange parseSignsSpec)) parseSignsCard

/-- THE TIED CARD OF 'platenlaw10.ParseLinks'. -/
def parseLinksCard : Claim7 := { stood := { row := parseLinksRow, standIns := [], harness := (true, "69cda562aaa9953118c1405c549c05a89962e445a04cd8df21214b8a4ba00099"), looks := true }, kinds := [], alts := [], laidByText := true, laidKinds := [.data, .handle, .listed, .data, .pinned], laidTests := true, laidLooks := .later }
def ParseLinksCardSaid : Prop := Claim7.holds Tryz.pinned (.plain (OpenSpec.ofChange parseLinksSpec)) parseLinksCard

/-- THE TIED CARD OF 'platenlaw10.ParseNews'. -/
def parseNewsCard : Claim7 := { stood := { row := parseNewsRow, standIns := [], harness := (true, "69cda562aaa9953118c1405c549c05a89962e445a04cd8df21214b8a4ba00099"), looks := true }, kinds := [], alts := [], laidByText := true, laidKinds := [.data, .handle, .listed, .data, .pinned], laidTests := true, laidLooks := .later }
def ParseNewsCardSaid : Prop := Claim7.holds Tryz.pinned (.plain (OpenSpec.ofChange parseNewsSpec)) parseNewsCard

/-- THE TIED CARD OF 'platenlaw10.ParseLists'. -/
def parseListsCard : Claim7 := { stood := { row := parseListsRow, standIns := [], harness := (true, "69cda562aaa9953118c1405c549c05a89962e445a04cd8df21214b8a4ba00099"), looks := true }, kinds := [], alts := [], laidByText := true, laidKinds := [.data, .handle, .listed, .data, .pinned], laidTests := true, laidLooks := .later }
def ParseListsCardSaid : Prop := Claim7.holds Tryz.pinned (.plain (OpenSpec.ofChange parseListsSpec)) parseListsCard

/-- THE TIED CARD OF 'platenlaw10.ParseGoesOn'. -/
def parseGoesOnCard : Claim7 := { stood := { row := parseGoesOnRow, standIns := [], harness := (true, "69cda562aaa9953118c1405c549c05a89962e445a04cd8df21214b8a4ba00099"), looks := true }, kinds := [], alts := [], laidByText := true, laidKinds := [.data, .handle, .listed, .data, .pinned], laidTests := true, laidLooks := .later }
def ParseGoesOnCardSaid : Prop := Claim7.holds Tryz.pinned (.plain (OpenSpec.ofChange parseGoesOnSpec)) parseGoesOnCard

/-- THE TIED CARD OF 'platenlaw10.ParseBlanks'. -/
def parseBlanksCard : Claim7 := { stood := { row := parseBlanksRow, standIns := [], harness := (true, "69cda562aaa9953118c1405c549c05a89962e445a04cd8df21214b8a4ba00099"), looks := true }, kinds := [], alts := [], laidByText := true, laidKinds := [.data, .handle, .listed, .data, .pinned], laidTests := true, laidLooks := .later }
def ParseBlanksCardSaid : Prop := Claim7.holds Tryz.pinned (.plain (OpenSpec.ofChange parseBlanksSpec)) parseBlanksCard

/-- THE SECOND FORM's CARD OF 'platenlaw10.ParseNests'. -/
def parseNestsUptoCard : Claim7 := { stood := { row := parseNestsUptoRow, standIns := [], harness := (true, "69cda562aaa9953118c1405c549c05a89962e445a04cd8df21214b8a4ba00099"), looks := true }, kinds := [], alts := [], laidByText := true, laidKinds := [.data, .handle, .listed, .data, .pinned], laidTests := true, laidLooks := .later }
def ParseNestsUptoCardSaid : Prop := Claim7.holds Tryz.pinned (.plain (OpenSpec.upto parseNestsSpec)) parseNestsUptoCard

/-- THE SECOND FORM's CARD OF 'platenlaw10.ParseMixes'. -/
def parseMixesUptoCard : Claim7 := { stood := { row := parseMixesUptoRow, standIns := [], harness := (true, "69cda562aaa9953118c1405c549c05a89962e445a04cd8df21214b8a4ba00099"), looks := true }, kinds := [], alts := [], laidByText := true, laidKinds := [.data, .handle, .listed, .data, .pinned], laidTests := true, laidLooks := .later }
def ParseMixesUptoCardSaid : Prop := Claim7.holds Tryz.pinned (.plain (OpenSpec.upto parseMixesSpec)) parseMixesUptoCard

/-- THE SECOND FORM's CARD OF 'platenlaw10.ParseRestricted'. -/
def parseRestrictedUptoCard : Claim7 := { stood := { row := parseRestrictedUptoRow, standIns := [], harness := (true, "69cda562aaa9953118c1405c549c05a89962e445a04cd8df21214b8a4ba00099"), looks := true }, kinds := [], alts := [], laidByText := true, laidKinds := [.data, .handle, .listed, .data, .pinned], laidTests := true, laidLooks := .later }
def ParseRestrictedUptoCardSaid : Prop := Claim7.holds Tryz.pinned (.plain (OpenSpec.upto parseRestrictedSpec)) parseRestrictedUptoCard

/-- THE SECOND FORM's CARD OF 'platenlaw10.ParseDirectives'. -/
def parseDirectivesUptoCard : Claim7 := { stood := { row := parseDirectivesUptoRow, standIns := [], harness := (true, "69cda562aaa9953118c1405c549c05a89962e445a04cd8df21214b8a4ba00099"), looks := true }, kinds := [], alts := [], laidByText := true, laidKinds := [.data, .handle, .listed, .data, .pinned], laidTests := true, laidLooks := .later }
def ParseDirectivesUptoCardSaid : Prop := Claim7.holds Tryz.pinned (.plain (OpenSpec.upto parseDirectivesSpec)) parseDirectivesUptoCard

/-- THE SECOND FORM's CARD OF 'platenlaw10.ParseOperators'. -/
def parseOperatorsUptoCard : Claim7 := { stood := { row := parseOperatorsUptoRow, standIns := [], harness := (true, "69cda562aaa9953118c1405c549c05a89962e445a04cd8df21214b8a4ba00099"), looks := true }, kinds := [], alts := [], laidByText := true, laidKinds := [.data, .handle, .listed, .data, .pinned], laidTests := true, laidLooks := .later }
def ParseOperatorsUptoCardSaid : Prop := Claim7.holds Tryz.pinned (.plain (OpenSpec.upto parseOperatorsSpec)) parseOperatorsUptoCard

/-- THE SECOND FORM's CARD OF 'platenlaw10.ParseAssigns'. -/
def parseAssignsUptoCard : Claim7 := { stood := { row := parseAssignsUptoRow, standIns := [], harness := (true, "69cda562aaa9953118c1405c549c05a89962e445a04cd8df21214b8a4ba00099"), looks := true }, kinds := [], alts := [], laidByText := true, laidKinds := [.data, .handle, .listed, .data, .pinned], laidTests := true, laidLooks := .later }
def ParseAssignsUptoCardSaid : Prop := Claim7.holds Tryz.pinned (.plain (OpenSpec.upto parseAssignsSpec)) parseAssignsUptoCard

/-- THE SECOND FORM's CARD OF 'platenlaw10.ParseSigns'. -/
def parseSignsUptoCard : Claim7 := { stood := { row := parseSignsUptoRow, standIns := [], harness := (true, "69cda562aaa9953118c1405c549c05a89962e445a04cd8df21214b8a4ba00099"), looks := true }, kinds := [], alts := [], laidByText := true, laidKinds := [.data, .handle, .listed, .data, .pinned], laidTests := true, laidLooks := .later }
def ParseSignsUptoCardSaid : Prop := Claim7.holds Tryz.pinned (.plain (OpenSpec.upto parseSignsSpec)) parseSignsUptoCard

/-- THE SECOND FORM's CARD OF 'platenlaw10.ParseLinks'. -/
def parseLinksUptoCard : Claim7 := { stood := { row := parseLinksUptoRow, standIns := [], harness := (true, "69cda562aaa9953118c1405c549c05a89962e445a04cd8df21214b8a4ba00099"), looks := true }, kinds := [], alts := [], laidByText := true, laidKinds := [.data, .handle, .listed, .data, .pinned], laidTests := true, laidLooks := .later }
def ParseLinksUptoCardSaid : Prop := Claim7.holds Tryz.pinned (.plain (OpenSpec.upto parseLinksSpec)) parseLinksUptoCard

/-- THE SECOND FORM's CARD OF 'platenlaw10.ParseNews'. -/
def parseNewsUptoCard : Claim7 := { stood := { row := parseNewsUptoRow, standIns := [], harness := (true, "69cda562aaa9953118c1405c549c05a89962e445a04cd8df21214b8a4ba00099"), looks := true }, kinds := [], alts := [], laidByText := true, laidKinds := [.data, .handle, .listed, .data, .pinned], laidTests := true, laidLooks := .later }
def ParseNewsUptoCardSaid : Prop := Claim7.holds Tryz.pinned (.plain (OpenSpec.upto parseNewsSpec)) parseNewsUptoCard

/-- THE SECOND FORM's CARD OF 'platenlaw10.ParseLists'. -/
def parseListsUptoCard : Claim7 := { stood := { row := parseListsUptoRow, standIns := [], harness := (true, "69cda562aaa9953118c1405c549c05a89962e445a04cd8df21214b8a4ba00099"), looks := true }, kinds := [], alts := [], laidByText := true, laidKinds := [.data, .handle, .listed, .data, .pinned], laidTests := true, laidLooks := .later }
def ParseListsUptoCardSaid : Prop := Claim7.holds Tryz.pinned (.plain (OpenSpec.upto parseListsSpec)) parseListsUptoCard

/-- THE SECOND FORM's CARD OF 'platenlaw10.ParseGoesOn'. -/
def parseGoesOnUptoCard : Claim7 := { stood := { row := parseGoesOnUptoRow, standIns := [], harness := (true, "69cda562aaa9953118c1405c549c05a89962e445a04cd8df21214b8a4ba00099"), looks := true }, kinds := [], alts := [], laidByText := true, laidKinds := [.data, .handle, .listed, .data, .pinned], laidTests := true, laidLooks := .later }
def ParseGoesOnUptoCardSaid : Prop := Claim7.holds Tryz.pinned (.plain (OpenSpec.upto parseGoesOnSpec)) parseGoesOnUptoCard

/-- THE SECOND FORM's CARD OF 'platenlaw10.ParseBlanks'. -/
def parseBlanksUptoCard : Claim7 := { stood := { row := parseBlanksUptoRow, standIns := [], harness := (true, "69cda562aaa9953118c1405c549c05a89962e445a04cd8df21214b8a4ba00099"), looks := true }, kinds := [], alts := [], laidByText := true, laidKinds := [.data, .handle, .listed, .data, .pinned], laidTests := true, laidLooks := .later }
def ParseBlanksUptoCardSaid : Prop := Claim7.holds Tryz.pinned (.plain (OpenSpec.upto parseBlanksSpec)) parseBlanksUptoCard
end Rows
end Go.Proofs.YtpfbnmjhkedgfaaGreatDoor
