/-
  NARROWER THAN 'FOR EVERY INPUT', by the rows' own cells (each row's printed sentence says how): JsxEntities: laid · JsxShows: laid · JsxStays: laid · JsxNumbers: laid · JsxLines: laid · JsxPlain: laid.
  DERIVED. THE GIVEN ROWS OF THIS SEAT. 6 by the template 'for every input the law returns true; each argument reads behind the call as it read before'; 0 by the template 'total and deterministic' (their statements: YtcflmpnkmchdoaaDoorTotals.lean).
  GIVEN WITH THE SEED: the statements are not yours to turn. If you find one false, say at which input.
  Laid BY PROGRAM, IN A SANDBOX (cutbox-rows.mjs): the forced cells as the released guide's own fill.sh prints them over the translation 5e17b287ac161b0b… (all of the seat's roots in one cut). By AI agents, Wed Nov 11 2026. No macro, syntax, notation, axiom, sorry.
-/
import Derived.Test.YtcflmpnkmchdoaaDoorChecked
import GoSem.PinnedTables
import GoSem.Claim
import GoSem.ClaimJoined
import GoSem.ClaimMapViews
import Derived.JoinedTies
import Derived.KernelRfl
namespace Go.Proofs.YtcflmpnkmchdoaaDoor
/- THE CELL 'sum', in the pinned program and in every row, IS THE sha256 OF THE DUMP (.gsa) THAT YtcflmpnkmchdoaaDoorProg.lean LOADS. Nothing in Lean hashes anything: it is a label: what it is worth is what the hold of that sum in a sandbox is worth. -/
noncomputable def Tryd.pinned : Pinned := { name := "ytcflmpnkmchdoaadoor", sum := "5e17b287ac161b0baf03f8918f463d0eaf105617c73d4c0fab9cf9cbf25e7d10", checked := Tryd.checked }
namespace Rows
def none {H : Type} : Left H := { results := [], args := [] }

/- WHAT THE LISTED PACKAGE-LEVEL VARIABLES READ AS WHEN THE CALL BEGINS. Each datum BY PROGRAM (the guide's laid-datum.mjs) off the statement by which the dump's own 'gosem.cut.vars' lays the variable. In a bare row this is a premise. The card (YtcflmpnkmchdoaaDoorCards.lean) ties it to the program's text. -/
def laid_unicode_utf8_acceptRanges {H : Type} : DataW H := .agg [.agg [.lit (.int .u8 128), .lit (.int .u8 191)], .agg [.lit (.int .u8 160), .lit (.int .u8 191)], .agg [.lit (.int .u8 128), .lit (.int .u8 159)], .agg [.lit (.int .u8 144), .lit (.int .u8 191)], .agg [.lit (.int .u8 128), .lit (.int .u8 143)], .agg [.lit (.int .u8 0), .lit (.int .u8 0)], .agg [.lit (.int .u8 0), .lit (.int .u8 0)], .agg [.lit (.int .u8 0), .lit (.int .u8 0)], .agg [.lit (.int .u8 0), .lit (.int .u8 0)], .agg [.lit (.int .u8 0), .lit (.int .u8 0)], .agg [.lit (.int .u8 0), .lit (.int .u8 0)], .agg [.lit (.int .u8 0), .lit (.int .u8 0)], .agg [.lit (.int .u8 0), .lit (.int .u8 0)], .agg [.lit (.int .u8 0), .lit (.int .u8 0)], .agg [.lit (.int .u8 0), .lit (.int .u8 0)], .agg [.lit (.int .u8 0), .lit (.int .u8 0)]]
/-- One of Go's own tables, pinned by name: the form's constant. -/
def laid_unicode_utf8_first : DataW Unit := Go.Pinned.utf8First

/-- 'platenlaw7.JsxEntities': WHATEVER THE INPUT: true; the input reads as it did. -/
def jsxEntitiesSpec : ChangeSpec := { name := "jsxEntities", fn := fun _ => fun
  | [d] => { results := [.lit (.bool true)], args := [d] }
  | _ => none }
def jsxEntitiesRow : OpenClaim := { program := "ytcflmpnkmchdoaadoor", sum := "5e17b287ac161b0baf03f8918f463d0eaf105617c73d4c0fab9cf9cbf25e7d10", func := "platen/platenlaw7.JsxEntities", spec := "jsxEntities", inPlace := ["internal/abi.NoEscape", "internal/bytealg.IndexByteString", "internal/bytealg.IndexString", "internal/bytealg.MakeNoZero"], unfollowed := true, recurses := true, named := ["unicode/utf8.first", "unicode/utf8.acceptRanges", "internal/bytealg.MaxLen"], apart := false, laid := [("unicode/utf8.acceptRanges", laid_unicode_utf8_acceptRanges), ("unicode/utf8.first", laid_unicode_utf8_first)] }
def JsxEntitiesSaid : Prop := jsxEntitiesRow.holds Tryd.pinned (OpenSpec.ofChange jsxEntitiesSpec)

/-- ITS FALSE NEIGHBOUR: 'it returns false'. Refute it at one input. -/
def jsxEntitiesWrong : ChangeSpec := { name := "jsxEntities", fn := fun _ => fun
  | [d] => { results := [.lit (.bool false)], args := [d] }
  | _ => none }
def JsxEntitiesWrongFalsely : Prop := jsxEntitiesRow.holds Tryd.pinned (OpenSpec.ofChange jsxEntitiesWrong)

/-- 'platenlaw7.JsxShows': WHATEVER THE INPUT: true; the input reads as it did. -/
def jsxShowsSpec : ChangeSpec := { name := "jsxShows", fn := fun _ => fun
  | [d] => { results := [.lit (.bool true)], args := [d] }
  | _ => none }
def jsxShowsRow : OpenClaim := { program := "ytcflmpnkmchdoaadoor", sum := "5e17b287ac161b0baf03f8918f463d0eaf105617c73d4c0fab9cf9cbf25e7d10", func := "platen/platenlaw7.JsxShows", spec := "jsxShows", inPlace := ["internal/bytealg.IndexByteString", "internal/bytealg.IndexString", "internal/abi.NoEscape", "internal/bytealg.MakeNoZero"], unfollowed := true, recurses := true, named := ["unicode/utf8.first", "unicode/utf8.acceptRanges", "internal/bytealg.MaxLen"], apart := false, laid := [("unicode/utf8.acceptRanges", laid_unicode_utf8_acceptRanges), ("unicode/utf8.first", laid_unicode_utf8_first)] }
def JsxShowsSaid : Prop := jsxShowsRow.holds Tryd.pinned (OpenSpec.ofChange jsxShowsSpec)

/-- ITS FALSE NEIGHBOUR: 'it returns false'. Refute it at one input. -/
def jsxShowsWrong : ChangeSpec := { name := "jsxShows", fn := fun _ => fun
  | [d] => { results := [.lit (.bool false)], args := [d] }
  | _ => none }
def JsxShowsWrongFalsely : Prop := jsxShowsRow.holds Tryd.pinned (OpenSpec.ofChange jsxShowsWrong)

/-- 'platenlaw7.JsxStays': WHATEVER THE INPUT: true; the input reads as it did. -/
def jsxStaysSpec : ChangeSpec := { name := "jsxStays", fn := fun _ => fun
  | [d] => { results := [.lit (.bool true)], args := [d] }
  | _ => none }
def jsxStaysRow : OpenClaim := { program := "ytcflmpnkmchdoaadoor", sum := "5e17b287ac161b0baf03f8918f463d0eaf105617c73d4c0fab9cf9cbf25e7d10", func := "platen/platenlaw7.JsxStays", spec := "jsxStays", inPlace := ["internal/abi.NoEscape", "internal/bytealg.IndexByteString", "internal/bytealg.IndexString", "internal/bytealg.MakeNoZero"], unfollowed := true, recurses := true, named := ["unicode/utf8.first", "unicode/utf8.acceptRanges", "internal/bytealg.MaxLen"], apart := false, laid := [("unicode/utf8.acceptRanges", laid_unicode_utf8_acceptRanges), ("unicode/utf8.first", laid_unicode_utf8_first)] }
def JsxStaysSaid : Prop := jsxStaysRow.holds Tryd.pinned (OpenSpec.ofChange jsxStaysSpec)

/-- ITS FALSE NEIGHBOUR: 'it returns false'. Refute it at one input. -/
def jsxStaysWrong : ChangeSpec := { name := "jsxStays", fn := fun _ => fun
  | [d] => { results := [.lit (.bool false)], args := [d] }
  | _ => none }
def JsxStaysWrongFalsely : Prop := jsxStaysRow.holds Tryd.pinned (OpenSpec.ofChange jsxStaysWrong)

/-- 'platenlaw7.JsxNumbers': WHATEVER THE INPUT: true; the input reads as it did. -/
def jsxNumbersSpec : ChangeSpec := { name := "jsxNumbers", fn := fun _ => fun
  | [d1, d2] => { results := [.lit (.bool true)], args := [d1, d2] }
  | _ => none }
def jsxNumbersRow : OpenClaim := { program := "ytcflmpnkmchdoaadoor", sum := "5e17b287ac161b0baf03f8918f463d0eaf105617c73d4c0fab9cf9cbf25e7d10", func := "platen/platenlaw7.JsxNumbers", spec := "jsxNumbers", inPlace := ["internal/abi.NoEscape", "internal/bytealg.IndexByteString", "internal/bytealg.IndexString", "internal/bytealg.MakeNoZero"], unfollowed := true, recurses := true, named := ["unicode/utf8.first", "unicode/utf8.acceptRanges", "internal/bytealg.MaxLen"], apart := false, laid := [("unicode/utf8.acceptRanges", laid_unicode_utf8_acceptRanges), ("unicode/utf8.first", laid_unicode_utf8_first)] }
def JsxNumbersSaid : Prop := jsxNumbersRow.holds Tryd.pinned (OpenSpec.ofChange jsxNumbersSpec)

/-- ITS FALSE NEIGHBOUR: 'it returns false'. Refute it at one input. -/
def jsxNumbersWrong : ChangeSpec := { name := "jsxNumbers", fn := fun _ => fun
  | [d1, d2] => { results := [.lit (.bool false)], args := [d1, d2] }
  | _ => none }
def JsxNumbersWrongFalsely : Prop := jsxNumbersRow.holds Tryd.pinned (OpenSpec.ofChange jsxNumbersWrong)

/-- 'platenlaw7.JsxLines': WHATEVER THE INPUT: true; the input reads as it did. -/
def jsxLinesSpec : ChangeSpec := { name := "jsxLines", fn := fun _ => fun
  | [d] => { results := [.lit (.bool true)], args := [d] }
  | _ => none }
def jsxLinesRow : OpenClaim := { program := "ytcflmpnkmchdoaadoor", sum := "5e17b287ac161b0baf03f8918f463d0eaf105617c73d4c0fab9cf9cbf25e7d10", func := "platen/platenlaw7.JsxLines", spec := "jsxLines", inPlace := ["internal/abi.NoEscape", "internal/bytealg.IndexByteString", "internal/bytealg.IndexString", "internal/bytealg.MakeNoZero"], unfollowed := true, recurses := true, named := ["unicode/utf8.first", "unicode/utf8.acceptRanges", "internal/bytealg.MaxLen"], apart := false, laid := [("unicode/utf8.acceptRanges", laid_unicode_utf8_acceptRanges), ("unicode/utf8.first", laid_unicode_utf8_first)] }
def JsxLinesSaid : Prop := jsxLinesRow.holds Tryd.pinned (OpenSpec.ofChange jsxLinesSpec)

/-- ITS FALSE NEIGHBOUR: 'it returns false'. Refute it at one input. -/
def jsxLinesWrong : ChangeSpec := { name := "jsxLines", fn := fun _ => fun
  | [d] => { results := [.lit (.bool false)], args := [d] }
  | _ => none }
def JsxLinesWrongFalsely : Prop := jsxLinesRow.holds Tryd.pinned (OpenSpec.ofChange jsxLinesWrong)

/-- 'platenlaw7.JsxPlain': WHATEVER THE INPUT: true; the input reads as it did. -/
def jsxPlainSpec : ChangeSpec := { name := "jsxPlain", fn := fun _ => fun
  | [d1, d2] => { results := [.lit (.bool true)], args := [d1, d2] }
  | _ => none }
def jsxPlainRow : OpenClaim := { program := "ytcflmpnkmchdoaadoor", sum := "5e17b287ac161b0baf03f8918f463d0eaf105617c73d4c0fab9cf9cbf25e7d10", func := "platen/platenlaw7.JsxPlain", spec := "jsxPlain", inPlace := ["internal/abi.NoEscape", "internal/bytealg.IndexByteString", "internal/bytealg.IndexString", "internal/bytealg.MakeNoZero"], unfollowed := true, recurses := true, named := ["unicode/utf8.first", "unicode/utf8.acceptRanges", "internal/bytealg.MaxLen"], apart := false, laid := [("unicode/utf8.acceptRanges", laid_unicode_utf8_acceptRanges), ("unicode/utf8.first", laid_unicode_utf8_first)] }
def JsxPlainSaid : Prop := jsxPlainRow.holds Tryd.pinned (OpenSpec.ofChange jsxPlainSpec)

/-- ITS FALSE NEIGHBOUR: 'it returns false'. Refute it at one input. -/
def jsxPlainWrong : ChangeSpec := { name := "jsxPlain", fn := fun _ => fun
  | [d1, d2] => { results := [.lit (.bool false)], args := [d1, d2] }
  | _ => none }
def JsxPlainWrongFalsely : Prop := jsxPlainRow.holds Tryd.pinned (OpenSpec.ofChange jsxPlainWrong)

/- THE SECOND FORM. 'bulk': how many values and letters a reading holds, each counted each time it is reached (what is shared counts as often as it is met; a slice's spare places count too). A statement '..UptoSaid' is the law's where the arguments, and the package variables that the reading takes, are together of bulk at most 1048576: NARROWER than '..Said'. Prove '..Said' where nothing that the law and all that it calls make is longer than what came in: it says more and counts as full. Else prove '..UptoSaid'. A law counts once. -/
mutual
def uptoBulk {H : Type} : DataW H → Nat
  | .lit (.string bytes) => bytes.length + 1
  | .lit _ => 1
  | .nil => 1
  | .ptr d => uptoBulk d + 1
  | .slice elems spare => uptoBulkAll elems + uptoBulkAll spare + 1
  | .agg parts => uptoBulkAll parts + 1
  | .iface _ d => uptoBulk d + 1
  | .map entries => uptoBulkEntries entries + 1
  | .held _ => 1
def uptoBulkAll {H : Type} : List (DataW H) → Nat
  | [] => 0
  | d :: r => uptoBulk d + uptoBulkAll r
def uptoBulkEntries {H : Type} : List (Lit × DataW H) → Nat
  | [] => 0
  | x :: r => uptoBulkEntry x + uptoBulkEntries r
def uptoBulkEntry {H : Type} : Lit × DataW H → Nat
  | (.string bytes, d) => bytes.length + uptoBulk d + 1
  | (_, d) => uptoBulk d + 1
 end
def uptoSmall : (H : Type) → List (DataW H) → Bool := fun _ ds => decide (uptoBulkAll ds ≤ 1048576)
def OpenSpec.upto (s : _root_.Go.ChangeSpec) : _root_.Go.OpenSpec := { _root_.Go.OpenSpec.ofChange s with cond := some uptoSmall }

/-- 'platenlaw7.JsxEntities', WHERE WHAT IT READS IS OF BULK AT MOST 1048576: true; the input reads as it did. -/
def jsxEntitiesUptoRow : OpenClaim := { program := "ytcflmpnkmchdoaadoor", sum := "5e17b287ac161b0baf03f8918f463d0eaf105617c73d4c0fab9cf9cbf25e7d10", func := "platen/platenlaw7.JsxEntities", spec := "jsxEntities", inPlace := ["internal/abi.NoEscape", "internal/bytealg.IndexByteString", "internal/bytealg.IndexString", "internal/bytealg.MakeNoZero"], unfollowed := true, recurses := true, named := ["unicode/utf8.first", "unicode/utf8.acceptRanges", "internal/bytealg.MaxLen"], apart := false, laid := [("unicode/utf8.acceptRanges", laid_unicode_utf8_acceptRanges), ("unicode/utf8.first", laid_unicode_utf8_first)], narrowed := true }
def JsxEntitiesUptoSaid : Prop := jsxEntitiesUptoRow.holds Tryd.pinned (OpenSpec.upto jsxEntitiesSpec)

/-- 'platenlaw7.JsxShows', WHERE WHAT IT READS IS OF BULK AT MOST 1048576: true; the input reads as it did. -/
def jsxShowsUptoRow : OpenClaim := { program := "ytcflmpnkmchdoaadoor", sum := "5e17b287ac161b0baf03f8918f463d0eaf105617c73d4c0fab9cf9cbf25e7d10", func := "platen/platenlaw7.JsxShows", spec := "jsxShows", inPlace := ["internal/bytealg.IndexByteString", "internal/bytealg.IndexString", "internal/abi.NoEscape", "internal/bytealg.MakeNoZero"], unfollowed := true, recurses := true, named := ["unicode/utf8.first", "unicode/utf8.acceptRanges", "internal/bytealg.MaxLen"], apart := false, laid := [("unicode/utf8.acceptRanges", laid_unicode_utf8_acceptRanges), ("unicode/utf8.first", laid_unicode_utf8_first)], narrowed := true }
def JsxShowsUptoSaid : Prop := jsxShowsUptoRow.holds Tryd.pinned (OpenSpec.upto jsxShowsSpec)

/-- 'platenlaw7.JsxStays', WHERE WHAT IT READS IS OF BULK AT MOST 1048576: true; the input reads as it did. -/
def jsxStaysUptoRow : OpenClaim := { program := "ytcflmpnkmchdoaadoor", sum := "5e17b287ac161b0baf03f8918f463d0eaf105617c73d4c0fab9cf9cbf25e7d10", func := "platen/platenlaw7.JsxStays", spec := "jsxStays", inPlace := ["internal/abi.NoEscape", "internal/bytealg.IndexByteString", "internal/bytealg.IndexString", "internal/bytealg.MakeNoZero"], unfollowed := true, recurses := true, named := ["unicode/utf8.first", "unicode/utf8.acceptRanges", "internal/bytealg.MaxLen"], apart := false, laid := [("unicode/utf8.acceptRanges", laid_unicode_utf8_acceptRanges), ("unicode/utf8.first", laid_unicode_utf8_first)], narrowed := true }
def JsxStaysUptoSaid : Prop := jsxStaysUptoRow.holds Tryd.pinned (OpenSpec.upto jsxStaysSpec)

/-- 'platenlaw7.JsxNumbers', WHERE WHAT IT READS IS OF BULK AT MOST 1048576: true; the input reads as it did. -/
def jsxNumbersUptoRow : OpenClaim := { program := "ytcflmpnkmchdoaadoor", sum := "5e17b287ac161b0baf03f8918f463d0eaf105617c73d4c0fab9cf9cbf25e7d10", func := "platen/platenlaw7.JsxNumbers", spec := "jsxNumbers", inPlace := ["internal/abi.NoEscape", "internal/bytealg.IndexByteString", "internal/bytealg.IndexString", "internal/bytealg.MakeNoZero"], unfollowed := true, recurses := true, named := ["unicode/utf8.first", "unicode/utf8.acceptRanges", "internal/bytealg.MaxLen"], apart := false, laid := [("unicode/utf8.acceptRanges", laid_unicode_utf8_acceptRanges), ("unicode/utf8.first", laid_unicode_utf8_first)], narrowed := true }
def JsxNumbersUptoSaid : Prop := jsxNumbersUptoRow.holds Tryd.pinned (OpenSpec.upto jsxNumbersSpec)

/-- 'platenlaw7.JsxLines', WHERE WHAT IT READS IS OF BULK AT MOST 1048576: true; the input reads as it did. -/
def jsxLinesUptoRow : OpenClaim := { program := "ytcflmpnkmchdoaadoor", sum := "5e17b287ac161b0baf03f8918f463d0eaf105617c73d4c0fab9cf9cbf25e7d10", func := "platen/platenlaw7.JsxLines", spec := "jsxLines", inPlace := ["internal/abi.NoEscape", "internal/bytealg.IndexByteString", "internal/bytealg.IndexString", "internal/bytealg.MakeNoZero"], unfollowed := true, recurses := true, named := ["unicode/utf8.first", "unicode/utf8.acceptRanges", "internal/bytealg.MaxLen"], apart := false, laid := [("unicode/utf8.acceptRanges", laid_unicode_utf8_acceptRanges), ("unicode/utf8.first", laid_unicode_utf8_first)], narrowed := true }
def JsxLinesUptoSaid : Prop := jsxLinesUptoRow.holds Tryd.pinned (OpenSpec.upto jsxLinesSpec)

/-- 'platenlaw7.JsxPlain', WHERE WHAT IT READS IS OF BULK AT MOST 1048576: true; the input reads as it did. -/
def jsxPlainUptoRow : OpenClaim := { program := "ytcflmpnkmchdoaadoor", sum := "5e17b287ac161b0baf03f8918f463d0eaf105617c73d4c0fab9cf9cbf25e7d10", func := "platen/platenlaw7.JsxPlain", spec := "jsxPlain", inPlace := ["internal/abi.NoEscape", "internal/bytealg.IndexByteString", "internal/bytealg.IndexString", "internal/bytealg.MakeNoZero"], unfollowed := true, recurses := true, named := ["unicode/utf8.first", "unicode/utf8.acceptRanges", "internal/bytealg.MaxLen"], apart := false, laid := [("unicode/utf8.acceptRanges", laid_unicode_utf8_acceptRanges), ("unicode/utf8.first", laid_unicode_utf8_first)], narrowed := true }
def JsxPlainUptoSaid : Prop := jsxPlainUptoRow.holds Tryd.pinned (OpenSpec.upto jsxPlainSpec)

end Rows
end Go.Proofs.YtcflmpnkmchdoaaDoor
