/-
  NARROWER THAN 'FOR EVERY INPUT', by the rows' own cells (each row's printed sentence says how): NeutralSettles: laid · NeutralLevels: laid · NeutralLeaves: laid · NeutralParts: laid · NeutralTurns: laid · NeutralEven: laid · ClassOf: laid · ClassPrints: laid · ClassReads: laid · ClassBack: laid · ClassAll: laid · WeakRules: laid · WeakSettles: laid · WeakParts: laid · ClassJoins: laid.
  DERIVED. THE GIVEN ROWS OF THIS SEAT. 15 by the template 'for every input the law returns true; each argument reads behind the call as it read before'; 0 by the template 'total and deterministic' (their statements: YtfpibigfhhoiiaaDoorTotals.lean).
  GIVEN WITH THE SEED: the statements are not yours to turn. If you find one false, say at which input.
  Laid BY PROGRAM, IN A SANDBOX (cutbox-rows.mjs): the forced cells as the released guide's own fill.sh prints them over the translation 0bc418bd67ff0c35… (all of the seat's roots in one cut). By AI agents, Wed Nov 11 2026. No macro, syntax, notation, axiom, sorry.
-/
import Derived.Test.YtfpibigfhhoiiaaDoorChecked
import GoSem.PinnedTables
import GoSem.Claim
import GoSem.ClaimJoined
import GoSem.ClaimMapViews
import Derived.JoinedTies
import Derived.KernelRfl
namespace Go.Proofs.YtfpibigfhhoiiaaDoor
/- THE CELL 'sum', in the pinned program and in every row, IS THE sha256 OF THE DUMP (.gsa) THAT YtfpibigfhhoiiaaDoorProg.lean LOADS. Nothing in Lean hashes anything: it is a label: what it is worth is what the hold of that sum in a sandbox is worth. -/
noncomputable def Tryd.pinned : Pinned := { name := "ytfpibigfhhoiiaadoor", sum := "0bc418bd67ff0c351a096f96ebdc37de4a11eb30da39af574d2cf837b427052f", checked := Tryd.checked }
namespace Rows
def none {H : Type} : Left H := { results := [], args := [] }

/- WHAT THE LISTED PACKAGE-LEVEL VARIABLES READ AS WHEN THE CALL BEGINS. Each datum BY PROGRAM (the guide's laid-datum.mjs) off the statement by which the dump's own 'gosem.cut.vars' lays the variable. In a bare row this is a premise. The card (YtfpibigfhhoiiaaDoorCards.lean) ties it to the program's text. -/
def laid_unicode_utf8_acceptRanges {H : Type} : DataW H := .agg [.agg [.lit (.int .u8 128), .lit (.int .u8 191)], .agg [.lit (.int .u8 160), .lit (.int .u8 191)], .agg [.lit (.int .u8 128), .lit (.int .u8 159)], .agg [.lit (.int .u8 144), .lit (.int .u8 191)], .agg [.lit (.int .u8 128), .lit (.int .u8 143)], .agg [.lit (.int .u8 0), .lit (.int .u8 0)], .agg [.lit (.int .u8 0), .lit (.int .u8 0)], .agg [.lit (.int .u8 0), .lit (.int .u8 0)], .agg [.lit (.int .u8 0), .lit (.int .u8 0)], .agg [.lit (.int .u8 0), .lit (.int .u8 0)], .agg [.lit (.int .u8 0), .lit (.int .u8 0)], .agg [.lit (.int .u8 0), .lit (.int .u8 0)], .agg [.lit (.int .u8 0), .lit (.int .u8 0)], .agg [.lit (.int .u8 0), .lit (.int .u8 0)], .agg [.lit (.int .u8 0), .lit (.int .u8 0)], .agg [.lit (.int .u8 0), .lit (.int .u8 0)]]
/-- One of Go's own tables, pinned by name: the form's constant. -/
def laid_unicode_utf8_first : DataW Unit := Go.Pinned.utf8First

/-- 'parquetrylaw15.NeutralSettles': WHATEVER THE INPUT: true; the input reads as it did. -/
def neutralSettlesSpec : ChangeSpec := { name := "neutralSettles", fn := fun _ => fun
  | [d1, d2, d3, d4] => { results := [.lit (.bool true)], args := [d1, d2, d3, d4] }
  | _ => none }
def neutralSettlesRow : OpenClaim := { program := "ytfpibigfhhoiiaadoor", sum := "0bc418bd67ff0c351a096f96ebdc37de4a11eb30da39af574d2cf837b427052f", func := "parquetry/parquetrylaw15.NeutralSettles", spec := "neutralSettles", inPlace := ["internal/bytealg.CountString", "internal/bytealg.IndexByteString", "internal/bytealg.IndexString", "internal/abi.NoEscape", "internal/bytealg.MakeNoZero"], unfollowed := true, recurses := true, named := ["unicode/utf8.first", "unicode/utf8.acceptRanges", "internal/bytealg.MaxLen"], apart := false, laid := [("unicode/utf8.acceptRanges", laid_unicode_utf8_acceptRanges), ("unicode/utf8.first", laid_unicode_utf8_first)] }
def NeutralSettlesSaid : Prop := neutralSettlesRow.holds Tryd.pinned (OpenSpec.ofChange neutralSettlesSpec)

/-- ITS FALSE NEIGHBOUR: 'it returns false'. Refute it at one input. -/
def neutralSettlesWrong : ChangeSpec := { name := "neutralSettles", fn := fun _ => fun
  | [d1, d2, d3, d4] => { results := [.lit (.bool false)], args := [d1, d2, d3, d4] }
  | _ => none }
def NeutralSettlesWrongFalsely : Prop := neutralSettlesRow.holds Tryd.pinned (OpenSpec.ofChange neutralSettlesWrong)

/-- 'parquetrylaw15.NeutralLevels': WHATEVER THE INPUT: true; the input reads as it did. -/
def neutralLevelsSpec : ChangeSpec := { name := "neutralLevels", fn := fun _ => fun
  | [d1, d2] => { results := [.lit (.bool true)], args := [d1, d2] }
  | _ => none }
def neutralLevelsRow : OpenClaim := { program := "ytfpibigfhhoiiaadoor", sum := "0bc418bd67ff0c351a096f96ebdc37de4a11eb30da39af574d2cf837b427052f", func := "parquetry/parquetrylaw15.NeutralLevels", spec := "neutralLevels", inPlace := ["internal/bytealg.CountString", "internal/bytealg.IndexByteString", "internal/bytealg.IndexString", "internal/abi.NoEscape", "internal/bytealg.MakeNoZero"], unfollowed := true, recurses := true, named := ["unicode/utf8.first", "unicode/utf8.acceptRanges", "internal/bytealg.MaxLen"], apart := false, laid := [("unicode/utf8.acceptRanges", laid_unicode_utf8_acceptRanges), ("unicode/utf8.first", laid_unicode_utf8_first)] }
def NeutralLevelsSaid : Prop := neutralLevelsRow.holds Tryd.pinned (OpenSpec.ofChange neutralLevelsSpec)

/-- ITS FALSE NEIGHBOUR: 'it returns false'. Refute it at one input. -/
def neutralLevelsWrong : ChangeSpec := { name := "neutralLevels", fn := fun _ => fun
  | [d1, d2] => { results := [.lit (.bool false)], args := [d1, d2] }
  | _ => none }
def NeutralLevelsWrongFalsely : Prop := neutralLevelsRow.holds Tryd.pinned (OpenSpec.ofChange neutralLevelsWrong)

/-- 'parquetrylaw15.NeutralLeaves': WHATEVER THE INPUT: true; the input reads as it did. -/
def neutralLeavesSpec : ChangeSpec := { name := "neutralLeaves", fn := fun _ => fun
  | [d1, d2, d3, d4] => { results := [.lit (.bool true)], args := [d1, d2, d3, d4] }
  | _ => none }
def neutralLeavesRow : OpenClaim := { program := "ytfpibigfhhoiiaadoor", sum := "0bc418bd67ff0c351a096f96ebdc37de4a11eb30da39af574d2cf837b427052f", func := "parquetry/parquetrylaw15.NeutralLeaves", spec := "neutralLeaves", inPlace := ["internal/bytealg.CountString", "internal/bytealg.IndexByteString", "internal/bytealg.IndexString", "internal/abi.NoEscape", "internal/bytealg.MakeNoZero"], unfollowed := true, recurses := true, named := ["unicode/utf8.first", "unicode/utf8.acceptRanges", "internal/bytealg.MaxLen"], apart := false, laid := [("unicode/utf8.acceptRanges", laid_unicode_utf8_acceptRanges), ("unicode/utf8.first", laid_unicode_utf8_first)] }
def NeutralLeavesSaid : Prop := neutralLeavesRow.holds Tryd.pinned (OpenSpec.ofChange neutralLeavesSpec)

/-- ITS FALSE NEIGHBOUR: 'it returns false'. Refute it at one input. -/
def neutralLeavesWrong : ChangeSpec := { name := "neutralLeaves", fn := fun _ => fun
  | [d1, d2, d3, d4] => { results := [.lit (.bool false)], args := [d1, d2, d3, d4] }
  | _ => none }
def NeutralLeavesWrongFalsely : Prop := neutralLeavesRow.holds Tryd.pinned (OpenSpec.ofChange neutralLeavesWrong)

/-- 'parquetrylaw15.NeutralParts': WHATEVER THE INPUT: true; the input reads as it did. -/
def neutralPartsSpec : ChangeSpec := { name := "neutralParts", fn := fun _ => fun
  | [d1, d2, d3, d4, d5, d6] => { results := [.lit (.bool true)], args := [d1, d2, d3, d4, d5, d6] }
  | _ => none }
def neutralPartsRow : OpenClaim := { program := "ytfpibigfhhoiiaadoor", sum := "0bc418bd67ff0c351a096f96ebdc37de4a11eb30da39af574d2cf837b427052f", func := "parquetry/parquetrylaw15.NeutralParts", spec := "neutralParts", inPlace := ["internal/bytealg.CountString", "internal/bytealg.IndexByteString", "internal/bytealg.IndexString", "internal/abi.NoEscape", "internal/bytealg.MakeNoZero"], unfollowed := true, recurses := true, named := ["unicode/utf8.first", "unicode/utf8.acceptRanges", "internal/bytealg.MaxLen"], apart := false, laid := [("unicode/utf8.acceptRanges", laid_unicode_utf8_acceptRanges), ("unicode/utf8.first", laid_unicode_utf8_first)] }
def NeutralPartsSaid : Prop := neutralPartsRow.holds Tryd.pinned (OpenSpec.ofChange neutralPartsSpec)

/-- ITS FALSE NEIGHBOUR: 'it returns false'. Refute it at one input. -/
def neutralPartsWrong : ChangeSpec := { name := "neutralParts", fn := fun _ => fun
  | [d1, d2, d3, d4, d5, d6] => { results := [.lit (.bool false)], args := [d1, d2, d3, d4, d5, d6] }
  | _ => none }
def NeutralPartsWrongFalsely : Prop := neutralPartsRow.holds Tryd.pinned (OpenSpec.ofChange neutralPartsWrong)

/-- 'parquetrylaw15.NeutralTurns': WHATEVER THE INPUT: true; the input reads as it did. -/
def neutralTurnsSpec : ChangeSpec := { name := "neutralTurns", fn := fun _ => fun
  | [d1, d2, d3, d4] => { results := [.lit (.bool true)], args := [d1, d2, d3, d4] }
  | _ => none }
def neutralTurnsRow : OpenClaim := { program := "ytfpibigfhhoiiaadoor", sum := "0bc418bd67ff0c351a096f96ebdc37de4a11eb30da39af574d2cf837b427052f", func := "parquetry/parquetrylaw15.NeutralTurns", spec := "neutralTurns", inPlace := ["internal/bytealg.CountString", "internal/bytealg.IndexByteString", "internal/bytealg.IndexString", "internal/abi.NoEscape", "internal/bytealg.MakeNoZero"], unfollowed := true, recurses := true, named := ["unicode/utf8.first", "unicode/utf8.acceptRanges", "internal/bytealg.MaxLen"], apart := false, laid := [("unicode/utf8.acceptRanges", laid_unicode_utf8_acceptRanges), ("unicode/utf8.first", laid_unicode_utf8_first)] }
def NeutralTurnsSaid : Prop := neutralTurnsRow.holds Tryd.pinned (OpenSpec.ofChange neutralTurnsSpec)

/-- ITS FALSE NEIGHBOUR: 'it returns false'. Refute it at one input. -/
def neutralTurnsWrong : ChangeSpec := { name := "neutralTurns", fn := fun _ => fun
  | [d1, d2, d3, d4] => { results := [.lit (.bool false)], args := [d1, d2, d3, d4] }
  | _ => none }
def NeutralTurnsWrongFalsely : Prop := neutralTurnsRow.holds Tryd.pinned (OpenSpec.ofChange neutralTurnsWrong)

/-- 'parquetrylaw15.NeutralEven': WHATEVER THE INPUT: true; the input reads as it did. -/
def neutralEvenSpec : ChangeSpec := { name := "neutralEven", fn := fun _ => fun
  | [d1, d2] => { results := [.lit (.bool true)], args := [d1, d2] }
  | _ => none }
def neutralEvenRow : OpenClaim := { program := "ytfpibigfhhoiiaadoor", sum := "0bc418bd67ff0c351a096f96ebdc37de4a11eb30da39af574d2cf837b427052f", func := "parquetry/parquetrylaw15.NeutralEven", spec := "neutralEven", inPlace := ["internal/bytealg.CountString", "internal/bytealg.IndexByteString", "internal/bytealg.IndexString", "internal/abi.NoEscape", "internal/bytealg.MakeNoZero"], unfollowed := true, recurses := true, named := ["unicode/utf8.first", "unicode/utf8.acceptRanges", "internal/bytealg.MaxLen"], apart := false, laid := [("unicode/utf8.acceptRanges", laid_unicode_utf8_acceptRanges), ("unicode/utf8.first", laid_unicode_utf8_first)] }
def NeutralEvenSaid : Prop := neutralEvenRow.holds Tryd.pinned (OpenSpec.ofChange neutralEvenSpec)

/-- ITS FALSE NEIGHBOUR: 'it returns false'. Refute it at one input. -/
def neutralEvenWrong : ChangeSpec := { name := "neutralEven", fn := fun _ => fun
  | [d1, d2] => { results := [.lit (.bool false)], args := [d1, d2] }
  | _ => none }
def NeutralEvenWrongFalsely : Prop := neutralEvenRow.holds Tryd.pinned (OpenSpec.ofChange neutralEvenWrong)

/-- 'parquetrylaw02.ClassOf': WHATEVER THE INPUT: true; the input reads as it did. -/
def classOfSpec : ChangeSpec := { name := "classOf", fn := fun _ => fun
  | [d] => { results := [.lit (.bool true)], args := [d] }
  | _ => none }
def classOfRow : OpenClaim := { program := "ytfpibigfhhoiiaadoor", sum := "0bc418bd67ff0c351a096f96ebdc37de4a11eb30da39af574d2cf837b427052f", func := "parquetry/parquetrylaw02.ClassOf", spec := "classOf", inPlace := ["internal/abi.NoEscape", "internal/bytealg.MakeNoZero", "internal/bytealg.CountString", "internal/bytealg.IndexByteString", "internal/bytealg.IndexString"], unfollowed := true, recurses := true, named := ["unicode/utf8.first", "unicode/utf8.acceptRanges", "internal/bytealg.MaxLen"], apart := false, laid := [("unicode/utf8.acceptRanges", laid_unicode_utf8_acceptRanges), ("unicode/utf8.first", laid_unicode_utf8_first)] }
def ClassOfSaid : Prop := classOfRow.holds Tryd.pinned (OpenSpec.ofChange classOfSpec)

/-- ITS FALSE NEIGHBOUR: 'it returns false'. Refute it at one input. -/
def classOfWrong : ChangeSpec := { name := "classOf", fn := fun _ => fun
  | [d] => { results := [.lit (.bool false)], args := [d] }
  | _ => none }
def ClassOfWrongFalsely : Prop := classOfRow.holds Tryd.pinned (OpenSpec.ofChange classOfWrong)

/-- 'parquetrylaw02.ClassPrints': WHATEVER THE INPUT: true; the input reads as it did. -/
def classPrintsSpec : ChangeSpec := { name := "classPrints", fn := fun _ => fun
  | [d] => { results := [.lit (.bool true)], args := [d] }
  | _ => none }
def classPrintsRow : OpenClaim := { program := "ytfpibigfhhoiiaadoor", sum := "0bc418bd67ff0c351a096f96ebdc37de4a11eb30da39af574d2cf837b427052f", func := "parquetry/parquetrylaw02.ClassPrints", spec := "classPrints", inPlace := ["internal/abi.NoEscape", "internal/bytealg.MakeNoZero", "internal/bytealg.CountString", "internal/bytealg.IndexByteString", "internal/bytealg.IndexString"], unfollowed := true, recurses := true, named := ["unicode/utf8.first", "unicode/utf8.acceptRanges", "internal/bytealg.MaxLen"], apart := false, laid := [("unicode/utf8.acceptRanges", laid_unicode_utf8_acceptRanges), ("unicode/utf8.first", laid_unicode_utf8_first)] }
def ClassPrintsSaid : Prop := classPrintsRow.holds Tryd.pinned (OpenSpec.ofChange classPrintsSpec)

/-- ITS FALSE NEIGHBOUR: 'it returns false'. Refute it at one input. -/
def classPrintsWrong : ChangeSpec := { name := "classPrints", fn := fun _ => fun
  | [d] => { results := [.lit (.bool false)], args := [d] }
  | _ => none }
def ClassPrintsWrongFalsely : Prop := classPrintsRow.holds Tryd.pinned (OpenSpec.ofChange classPrintsWrong)

/-- 'parquetrylaw02.ClassReads': WHATEVER THE INPUT: true; the input reads as it did. -/
def classReadsSpec : ChangeSpec := { name := "classReads", fn := fun _ => fun
  | [d] => { results := [.lit (.bool true)], args := [d] }
  | _ => none }
def classReadsRow : OpenClaim := { program := "ytfpibigfhhoiiaadoor", sum := "0bc418bd67ff0c351a096f96ebdc37de4a11eb30da39af574d2cf837b427052f", func := "parquetry/parquetrylaw02.ClassReads", spec := "classReads", inPlace := ["internal/abi.NoEscape", "internal/bytealg.MakeNoZero", "internal/bytealg.CountString", "internal/bytealg.IndexByteString", "internal/bytealg.IndexString"], unfollowed := true, recurses := true, named := ["unicode/utf8.first", "unicode/utf8.acceptRanges", "internal/bytealg.MaxLen"], apart := false, laid := [("unicode/utf8.acceptRanges", laid_unicode_utf8_acceptRanges), ("unicode/utf8.first", laid_unicode_utf8_first)] }
def ClassReadsSaid : Prop := classReadsRow.holds Tryd.pinned (OpenSpec.ofChange classReadsSpec)

/-- ITS FALSE NEIGHBOUR: 'it returns false'. Refute it at one input. -/
def classReadsWrong : ChangeSpec := { name := "classReads", fn := fun _ => fun
  | [d] => { results := [.lit (.bool false)], args := [d] }
  | _ => none }
def ClassReadsWrongFalsely : Prop := classReadsRow.holds Tryd.pinned (OpenSpec.ofChange classReadsWrong)

/-- 'parquetrylaw02.ClassBack': WHATEVER THE INPUT: true; the input reads as it did. -/
def classBackSpec : ChangeSpec := { name := "classBack", fn := fun _ => fun
  | [d1, d2] => { results := [.lit (.bool true)], args := [d1, d2] }
  | _ => none }
def classBackRow : OpenClaim := { program := "ytfpibigfhhoiiaadoor", sum := "0bc418bd67ff0c351a096f96ebdc37de4a11eb30da39af574d2cf837b427052f", func := "parquetry/parquetrylaw02.ClassBack", spec := "classBack", inPlace := ["internal/abi.NoEscape", "internal/bytealg.MakeNoZero", "internal/bytealg.CountString", "internal/bytealg.IndexByteString", "internal/bytealg.IndexString"], unfollowed := true, recurses := true, named := ["unicode/utf8.first", "unicode/utf8.acceptRanges", "internal/bytealg.MaxLen"], apart := false, laid := [("unicode/utf8.acceptRanges", laid_unicode_utf8_acceptRanges), ("unicode/utf8.first", laid_unicode_utf8_first)] }
def ClassBackSaid : Prop := classBackRow.holds Tryd.pinned (OpenSpec.ofChange classBackSpec)

/-- ITS FALSE NEIGHBOUR: 'it returns false'. Refute it at one input. -/
def classBackWrong : ChangeSpec := { name := "classBack", fn := fun _ => fun
  | [d1, d2] => { results := [.lit (.bool false)], args := [d1, d2] }
  | _ => none }
def ClassBackWrongFalsely : Prop := classBackRow.holds Tryd.pinned (OpenSpec.ofChange classBackWrong)

/-- 'parquetrylaw02.ClassAll': WHATEVER THE INPUT: true; the input reads as it did. -/
def classAllSpec : ChangeSpec := { name := "classAll", fn := fun _ => fun
  | [d] => { results := [.lit (.bool true)], args := [d] }
  | _ => none }
def classAllRow : OpenClaim := { program := "ytfpibigfhhoiiaadoor", sum := "0bc418bd67ff0c351a096f96ebdc37de4a11eb30da39af574d2cf837b427052f", func := "parquetry/parquetrylaw02.ClassAll", spec := "classAll", inPlace := ["internal/abi.NoEscape", "internal/bytealg.MakeNoZero", "internal/bytealg.CountString", "internal/bytealg.IndexByteString", "internal/bytealg.IndexString"], unfollowed := true, recurses := true, named := ["unicode/utf8.first", "unicode/utf8.acceptRanges", "internal/bytealg.MaxLen"], apart := false, laid := [("unicode/utf8.acceptRanges", laid_unicode_utf8_acceptRanges), ("unicode/utf8.first", laid_unicode_utf8_first)] }
def ClassAllSaid : Prop := classAllRow.holds Tryd.pinned (OpenSpec.ofChange classAllSpec)

/-- ITS FALSE NEIGHBOUR: 'it returns false'. Refute it at one input. -/
def classAllWrong : ChangeSpec := { name := "classAll", fn := fun _ => fun
  | [d] => { results := [.lit (.bool false)], args := [d] }
  | _ => none }
def ClassAllWrongFalsely : Prop := classAllRow.holds Tryd.pinned (OpenSpec.ofChange classAllWrong)

/-- 'parquetrylaw13.WeakRules': WHATEVER THE INPUT: true; the input reads as it did. -/
def weakRulesSpec : ChangeSpec := { name := "weakRules", fn := fun _ => fun
  | [d1, d2] => { results := [.lit (.bool true)], args := [d1, d2] }
  | _ => none }
def weakRulesRow : OpenClaim := { program := "ytfpibigfhhoiiaadoor", sum := "0bc418bd67ff0c351a096f96ebdc37de4a11eb30da39af574d2cf837b427052f", func := "parquetry/parquetrylaw13.WeakRules", spec := "weakRules", inPlace := ["internal/bytealg.CountString", "internal/bytealg.IndexByteString", "internal/bytealg.IndexString", "internal/abi.NoEscape", "internal/bytealg.MakeNoZero"], unfollowed := true, recurses := true, named := ["unicode/utf8.first", "unicode/utf8.acceptRanges", "internal/bytealg.MaxLen"], apart := false, laid := [("unicode/utf8.acceptRanges", laid_unicode_utf8_acceptRanges), ("unicode/utf8.first", laid_unicode_utf8_first)] }
def WeakRulesSaid : Prop := weakRulesRow.holds Tryd.pinned (OpenSpec.ofChange weakRulesSpec)

/-- ITS FALSE NEIGHBOUR: 'it returns false'. Refute it at one input. -/
def weakRulesWrong : ChangeSpec := { name := "weakRules", fn := fun _ => fun
  | [d1, d2] => { results := [.lit (.bool false)], args := [d1, d2] }
  | _ => none }
def WeakRulesWrongFalsely : Prop := weakRulesRow.holds Tryd.pinned (OpenSpec.ofChange weakRulesWrong)

/-- 'parquetrylaw13.WeakSettles': WHATEVER THE INPUT: true; the input reads as it did. -/
def weakSettlesSpec : ChangeSpec := { name := "weakSettles", fn := fun _ => fun
  | [d1, d2] => { results := [.lit (.bool true)], args := [d1, d2] }
  | _ => none }
def weakSettlesRow : OpenClaim := { program := "ytfpibigfhhoiiaadoor", sum := "0bc418bd67ff0c351a096f96ebdc37de4a11eb30da39af574d2cf837b427052f", func := "parquetry/parquetrylaw13.WeakSettles", spec := "weakSettles", inPlace := ["internal/bytealg.CountString", "internal/bytealg.IndexByteString", "internal/bytealg.IndexString", "internal/abi.NoEscape", "internal/bytealg.MakeNoZero"], unfollowed := true, recurses := true, named := ["unicode/utf8.first", "unicode/utf8.acceptRanges", "internal/bytealg.MaxLen"], apart := false, laid := [("unicode/utf8.acceptRanges", laid_unicode_utf8_acceptRanges), ("unicode/utf8.first", laid_unicode_utf8_first)] }
def WeakSettlesSaid : Prop := weakSettlesRow.holds Tryd.pinned (OpenSpec.ofChange weakSettlesSpec)

/-- ITS FALSE NEIGHBOUR: 'it returns false'. Refute it at one input. -/
def weakSettlesWrong : ChangeSpec := { name := "weakSettles", fn := fun _ => fun
  | [d1, d2] => { results := [.lit (.bool false)], args := [d1, d2] }
  | _ => none }
def WeakSettlesWrongFalsely : Prop := weakSettlesRow.holds Tryd.pinned (OpenSpec.ofChange weakSettlesWrong)

/-- 'parquetrylaw13.WeakParts': WHATEVER THE INPUT: true; the input reads as it did. -/
def weakPartsSpec : ChangeSpec := { name := "weakParts", fn := fun _ => fun
  | [d1, d2, d3, d4] => { results := [.lit (.bool true)], args := [d1, d2, d3, d4] }
  | _ => none }
def weakPartsRow : OpenClaim := { program := "ytfpibigfhhoiiaadoor", sum := "0bc418bd67ff0c351a096f96ebdc37de4a11eb30da39af574d2cf837b427052f", func := "parquetry/parquetrylaw13.WeakParts", spec := "weakParts", inPlace := ["internal/bytealg.CountString", "internal/bytealg.IndexByteString", "internal/bytealg.IndexString", "internal/abi.NoEscape", "internal/bytealg.MakeNoZero"], unfollowed := true, recurses := true, named := ["unicode/utf8.first", "unicode/utf8.acceptRanges", "internal/bytealg.MaxLen"], apart := false, laid := [("unicode/utf8.acceptRanges", laid_unicode_utf8_acceptRanges), ("unicode/utf8.first", laid_unicode_utf8_first)] }
def WeakPartsSaid : Prop := weakPartsRow.holds Tryd.pinned (OpenSpec.ofChange weakPartsSpec)

/-- ITS FALSE NEIGHBOUR: 'it returns false'. Refute it at one input. -/
def weakPartsWrong : ChangeSpec := { name := "weakParts", fn := fun _ => fun
  | [d1, d2, d3, d4] => { results := [.lit (.bool false)], args := [d1, d2, d3, d4] }
  | _ => none }
def WeakPartsWrongFalsely : Prop := weakPartsRow.holds Tryd.pinned (OpenSpec.ofChange weakPartsWrong)

/-- 'parquetrylaw02.ClassJoins': WHATEVER THE INPUT: true; the input reads as it did. -/
def classJoinsSpec : ChangeSpec := { name := "classJoins", fn := fun _ => fun
  | [d1, d2] => { results := [.lit (.bool true)], args := [d1, d2] }
  | _ => none }
def classJoinsRow : OpenClaim := { program := "ytfpibigfhhoiiaadoor", sum := "0bc418bd67ff0c351a096f96ebdc37de4a11eb30da39af574d2cf837b427052f", func := "parquetry/parquetrylaw02.ClassJoins", spec := "classJoins", inPlace := ["internal/abi.NoEscape", "internal/bytealg.MakeNoZero", "internal/bytealg.CountString", "internal/bytealg.IndexByteString", "internal/bytealg.IndexString"], unfollowed := true, recurses := true, named := ["unicode/utf8.first", "unicode/utf8.acceptRanges", "internal/bytealg.MaxLen"], apart := false, laid := [("unicode/utf8.acceptRanges", laid_unicode_utf8_acceptRanges), ("unicode/utf8.first", laid_unicode_utf8_first)] }
def ClassJoinsSaid : Prop := classJoinsRow.holds Tryd.pinned (OpenSpec.ofChange classJoinsSpec)

/-- ITS FALSE NEIGHBOUR: 'it returns false'. Refute it at one input. -/
def classJoinsWrong : ChangeSpec := { name := "classJoins", fn := fun _ => fun
  | [d1, d2] => { results := [.lit (.bool false)], args := [d1, d2] }
  | _ => none }
def ClassJoinsWrongFalsely : Prop := classJoinsRow.holds Tryd.pinned (OpenSpec.ofChange classJoinsWrong)

/- THE SECOND FORM. 'bulk': how many values and letters a reading holds, each counted each time it is reached (what is shared counts as often as it is met; a slice's spare places count too). A statement '..UptoSaid' is the law's where the arguments, and the package variables that the reading takes, are together of bulk at most 1048576: NARROWER than '..Said'. Prove '..Said' where nothing that the law and all that it calls make is longer than what came in: it says more and counts as full. Else prove '..UptoSaid'. A law counts once. -/
mutual
def uptoBulk {H : Type} : DataW H → Nat
  | .lit (.string bytes) => bytes.length + 1
  | .lit _ => 1
  | .nil => 1
  | .ptr d => uptoBulk d + 1
  | .slice elems spare => uptoBulkAll elems + uptoBulkAll spare + 1
  | .agg parts => uptoBulkAll parts + 1
  | .iface _ d => uptoBulk d + 1
  | .map entries => uptoBulkEntries entries + 1
  | .held _ => 1
def uptoBulkAll {H : Type} : List (DataW H) → Nat
  | [] => 0
  | d :: r => uptoBulk d + uptoBulkAll r
def uptoBulkEntries {H : Type} : List (Lit × DataW H) → Nat
  | [] => 0
  | x :: r => uptoBulkEntry x + uptoBulkEntries r
def uptoBulkEntry {H : Type} : Lit × DataW H → Nat
  | (.string bytes, d) => bytes.length + uptoBulk d + 1
  | (_, d) => uptoBulk d + 1
 end
def uptoSmall : (H : Type) → List (DataW H) → Bool := fun _ ds => decide (uptoBulkAll ds ≤ 1048576)
def OpenSpec.upto (s : _root_.Go.ChangeSpec) : _root_.Go.OpenSpec := { _root_.Go.OpenSpec.ofChange s with cond := some uptoSmall }

/-- 'parquetrylaw15.NeutralSettles', WHERE WHAT IT READS IS OF BULK AT MOST 1048576: true; the input reads as it did. -/
def neutralSettlesUptoRow : OpenClaim := { program := "ytfpibigfhhoiiaadoor", sum := "0bc418bd67ff0c351a096f96ebdc37de4a11eb30da39af574d2cf837b427052f", func := "parquetry/parquetrylaw15.NeutralSettles", spec := "neutralSettles", inPlace := ["internal/bytealg.CountString", "internal/bytealg.IndexByteString", "internal/bytealg.IndexString", "internal/abi.NoEscape", "internal/bytealg.MakeNoZero"], unfollowed := true, recurses := true, named := ["unicode/utf8.first", "unicode/utf8.acceptRanges", "internal/bytealg.MaxLen"], apart := false, laid := [("unicode/utf8.acceptRanges", laid_unicode_utf8_acceptRanges), ("unicode/utf8.first", laid_unicode_utf8_first)], narrowed := true }
def NeutralSettlesUptoSaid : Prop := neutralSettlesUptoRow.holds Tryd.pinned (OpenSpec.upto neutralSettlesSpec)

/-- 'parquetrylaw15.NeutralLevels', WHERE WHAT IT READS IS OF BULK AT MOST 1048576: true; the input reads as it did. -/
def neutralLevelsUptoRow : OpenClaim := { program := "ytfpibigfhhoiiaadoor", sum := "0bc418bd67ff0c351a096f96ebdc37de4a11eb30da39af574d2cf837b427052f", func := "parquetry/parquetrylaw15.NeutralLevels", spec := "neutralLevels", inPlace := ["internal/bytealg.CountString", "internal/bytealg.IndexByteString", "internal/bytealg.IndexString", "internal/abi.NoEscape", "internal/bytealg.MakeNoZero"], unfollowed := true, recurses := true, named := ["unicode/utf8.first", "unicode/utf8.acceptRanges", "internal/bytealg.MaxLen"], apart := false, laid := [("unicode/utf8.acceptRanges", laid_unicode_utf8_acceptRanges), ("unicode/utf8.first", laid_unicode_utf8_first)], narrowed := true }
def NeutralLevelsUptoSaid : Prop := neutralLevelsUptoRow.holds Tryd.pinned (OpenSpec.upto neutralLevelsSpec)

/-- 'parquetrylaw15.NeutralLeaves', WHERE WHAT IT READS IS OF BULK AT MOST 1048576: true; the input reads as it did. -/
def neutralLeavesUptoRow : OpenClaim := { program := "ytfpibigfhhoiiaadoor", sum := "0bc418bd67ff0c351a096f96ebdc37de4a11eb30da39af574d2cf837b427052f", func := "parquetry/parquetrylaw15.NeutralLeaves", spec := "neutralLeaves", inPlace := ["internal/bytealg.CountString", "internal/bytealg.IndexByteString", "internal/bytealg.IndexString", "internal/abi.NoEscape", "internal/bytealg.MakeNoZero"], unfollowed := true, recurses := true, named := ["unicode/utf8.first", "unicode/utf8.acceptRanges", "internal/bytealg.MaxLen"], apart := false, laid := [("unicode/utf8.acceptRanges", laid_unicode_utf8_acceptRanges), ("unicode/utf8.first", laid_unicode_utf8_first)], narrowed := true }
def NeutralLeavesUptoSaid : Prop := neutralLeavesUptoRow.holds Tryd.pinned (OpenSpec.upto neutralLeavesSpec)

/-- 'parquetrylaw15.NeutralParts', WHERE WHAT IT READS IS OF BULK AT MOST 1048576: true; the input reads as it did. -/
def neutralPartsUptoRow : OpenClaim := { program := "ytfpibigfhhoiiaadoor", sum := "0bc418bd67ff0c351a096f96ebdc37de4a11eb30da39af574d2cf837b427052f", func := "parquetry/parquetrylaw15.NeutralParts", spec := "neutralParts", inPlace := ["internal/bytealg.CountString", "internal/bytealg.IndexByteString", "internal/bytealg.IndexString", "internal/abi.NoEscape", "internal/bytealg.MakeNoZero"], unfollowed := true, recurses := true, named := ["unicode/utf8.first", "unicode/utf8.acceptRanges", "internal/bytealg.MaxLen"], apart := false, laid := [("unicode/utf8.acceptRanges", laid_unicode_utf8_acceptRanges), ("unicode/utf8.first", laid_unicode_utf8_first)], narrowed := true }
def NeutralPartsUptoSaid : Prop := neutralPartsUptoRow.holds Tryd.pinned (OpenSpec.upto neutralPartsSpec)

/-- 'parquetrylaw15.NeutralTurns', WHERE WHAT IT READS IS OF BULK AT MOST 1048576: true; the input reads as it did. -/
def neutralTurnsUptoRow : OpenClaim := { program := "ytfpibigfhhoiiaadoor", sum := "0bc418bd67ff0c351a096f96ebdc37de4a11eb30da39af574d2cf837b427052f", func := "parquetry/parquetrylaw15.NeutralTurns", spec := "neutralTurns", inPlace := ["internal/bytealg.CountString", "internal/bytealg.IndexByteString", "internal/bytealg.IndexString", "internal/abi.NoEscape", "internal/bytealg.MakeNoZero"], unfollowed := true, recurses := true, named := ["unicode/utf8.first", "unicode/utf8.acceptRanges", "internal/bytealg.MaxLen"], apart := false, laid := [("unicode/utf8.acceptRanges", laid_unicode_utf8_acceptRanges), ("unicode/utf8.first", laid_unicode_utf8_first)], narrowed := true }
def NeutralTurnsUptoSaid : Prop := neutralTurnsUptoRow.holds Tryd.pinned (OpenSpec.upto neutralTurnsSpec)

/-- 'parquetrylaw15.NeutralEven', WHERE WHAT IT READS IS OF BULK AT MOST 1048576: true; the input reads as it did. -/
def neutralEvenUptoRow : OpenClaim := { program := "ytfpibigfhhoiiaadoor", sum := "0bc418bd67ff0c351a096f96ebdc37de4a11eb30da39af574d2cf837b427052f", func := "parquetry/parquetrylaw15.NeutralEven", spec := "neutralEven", inPlace := ["internal/bytealg.CountString", "internal/bytealg.IndexByteString", "internal/bytealg.IndexString", "internal/abi.NoEscape", "internal/bytealg.MakeNoZero"], unfollowed := true, recurses := true, named := ["unicode/utf8.first", "unicode/utf8.acceptRanges", "internal/bytealg.MaxLen"], apart := false, laid := [("unicode/utf8.acceptRanges", laid_unicode_utf8_acceptRanges), ("unicode/utf8.first", laid_unicode_utf8_first)], narrowed := true }
def NeutralEvenUptoSaid : Prop := neutralEvenUptoRow.holds Tryd.pinned (OpenSpec.upto neutralEvenSpec)

/-- 'parquetrylaw02.ClassOf', WHERE WHAT IT READS IS OF BULK AT MOST 1048576: true; the input reads as it did. -/
def classOfUptoRow : OpenClaim := { program := "ytfpibigfhhoiiaadoor", sum := "0bc418bd67ff0c351a096f96ebdc37de4a11eb30da39af574d2cf837b427052f", func := "parquetry/parquetrylaw02.ClassOf", spec := "classOf", inPlace := ["internal/abi.NoEscape", "internal/bytealg.MakeNoZero", "internal/bytealg.CountString", "internal/bytealg.IndexByteString", "internal/bytealg.IndexString"], unfollowed := true, recurses := true, named := ["unicode/utf8.first", "unicode/utf8.acceptRanges", "internal/bytealg.MaxLen"], apart := false, laid := [("unicode/utf8.acceptRanges", laid_unicode_utf8_acceptRanges), ("unicode/utf8.first", laid_unicode_utf8_first)], narrowed := true }
def ClassOfUptoSaid : Prop := classOfUptoRow.holds Tryd.pinned (OpenSpec.upto classOfSpec)

/-- 'parquetrylaw02.ClassPrints', WHERE WHAT IT READS IS OF BULK AT MOST 1048576: true; the input reads as it did. -/
def classPrintsUptoRow : OpenClaim := { program := "ytfpibigfhhoiiaadoor", sum := "0bc418bd67ff0c351a096f96ebdc37de4a11eb30da39af574d2cf837b427052f", func := "parquetry/parquetrylaw02.ClassPrints", spec := "classPrints", inPlace := ["internal/abi.NoEscape", "internal/bytealg.MakeNoZero", "internal/bytealg.CountString", "internal/bytealg.IndexByteString", "internal/bytealg.IndexString"], unfollowed := true, recurses := true, named := ["unicode/utf8.first", "unicode/utf8.acceptRanges", "internal/bytealg.MaxLen"], apart := false, laid := [("unicode/utf8.acceptRanges", laid_unicode_utf8_acceptRanges), ("unicode/utf8.first", laid_unicode_utf8_first)], narrowed := true }
def ClassPrintsUptoSaid : Prop := classPrintsUptoRow.holds Tryd.pinned (OpenSpec.upto classPrintsSpec)

/-- 'parquetrylaw02.ClassReads', WHERE WHAT IT READS IS OF BULK AT MOST 1048576: true; the input reads as it did. -/
def classReadsUptoRow : OpenClaim := { program := "ytfpibigfhhoiiaadoor", sum := "0bc418bd67ff0c351a096f96ebdc37de4a11eb30da39af574d2cf837b427052f", func := "parquetry/parquetrylaw02.ClassReads", spec := "classReads", inPlace := ["internal/abi.NoEscape", "internal/bytealg.MakeNoZero", "internal/bytealg.CountString", "internal/bytealg.IndexByteString", "internal/bytealg.IndexString"], unfollowed := true, recurses := true, named := ["unicode/utf8.first", "unicode/utf8.acceptRanges", "internal/bytealg.MaxLen"], apart := false, laid := [("unicode/utf8.acceptRanges", laid_unicode_utf8_acceptRanges), ("unicode/utf8.first", laid_unicode_utf8_first)], narrowed := true }
def ClassReadsUptoSaid : Prop := classReadsUptoRow.holds Tryd.pinned (OpenSpec.upto classReadsSpec)

/-- 'parquetrylaw02.ClassBack', WHERE WHAT IT READS IS OF BULK AT MOST 1048576: true; the input reads as it did. -/
def classBackUptoRow : OpenClaim := { program := "ytfpibigfhhoiiaadoor", sum := "0bc418bd67ff0c351a096f96ebdc37de4a11eb30da39af574d2cf837b427052f", func := "parquetry/parquetrylaw02.ClassBack", spec := "classBack", inPlace := ["internal/abi.NoEscape", "internal/bytealg.MakeNoZero", "internal/bytealg.CountString", "internal/bytealg.IndexByteString", "internal/bytealg.IndexString"], unfollowed := true, recurses := true, named := ["unicode/utf8.first", "unicode/utf8.acceptRanges", "internal/bytealg.MaxLen"], apart := false, laid := [("unicode/utf8.acceptRanges", laid_unicode_utf8_acceptRanges), ("unicode/utf8.first", laid_unicode_utf8_first)], narrowed := true }
def ClassBackUptoSaid : Prop := classBackUptoRow.holds Tryd.pinned (OpenSpec.upto classBackSpec)

/-- 'parquetrylaw02.ClassAll', WHERE WHAT IT READS IS OF BULK AT MOST 1048576: true; the input reads as it did. -/
def classAllUptoRow : OpenClaim := { program := "ytfpibigfhhoiiaadoor", sum := "0bc418bd67ff0c351a096f96ebdc37de4a11eb30da39af574d2cf837b427052f", func := "parquetry/parquetrylaw02.ClassAll", spec := "classAll", inPlace := ["internal/abi.NoEscape", "internal/bytealg.MakeNoZero", "internal/bytealg.CountString", "internal/bytealg.IndexByteString", "internal/bytealg.IndexString"], unfollowed := true, recurses := true, named := ["unicode/utf8.first", "unicode/utf8.acceptRanges", "internal/bytealg.MaxLen"], apart := false, laid := [("unicode/utf8.acceptRanges", laid_unicode_utf8_acceptRanges), ("unicode/utf8.first", laid_unicode_utf8_first)], narrowed := true }
def ClassAllUptoSaid : Prop := classAllUptoRow.holds Tryd.pinned (OpenSpec.upto classAllSpec)

/-- 'parquetrylaw13.WeakRules', WHERE WHAT IT READS IS OF BULK AT MOST 1048576: true; the input reads as it did. -/
def weakRulesUptoRow : OpenClaim := { program := "ytfpibigfhhoiiaadoor", sum := "0bc418bd67ff0c351a096f96ebdc37de4a11eb30da39af574d2cf837b427052f", func := "parquetry/parquetrylaw13.WeakRules", spec := "weakRules", inPlace := ["internal/bytealg.CountString", "internal/bytealg.IndexByteString", "internal/bytealg.IndexString", "internal/abi.NoEscape", "internal/bytealg.MakeNoZero"], unfollowed := true, recurses := true, named := ["unicode/utf8.first", "unicode/utf8.acceptRanges", "internal/bytealg.MaxLen"], apart := false, laid := [("unicode/utf8.acceptRanges", laid_unicode_utf8_acceptRanges), ("unicode/utf8.first", laid_unicode_utf8_first)], narrowed := true }
def WeakRulesUptoSaid : Prop := weakRulesUptoRow.holds Tryd.pinned (OpenSpec.upto weakRulesSpec)

/-- 'parquetrylaw13.WeakSettles', WHERE WHAT IT READS IS OF BULK AT MOST 1048576: true; the input reads as it did. -/
def weakSettlesUptoRow : OpenClaim := { program := "ytfpibigfhhoiiaadoor", sum := "0bc418bd67ff0c351a096f96ebdc37de4a11eb30da39af574d2cf837b427052f", func := "parquetry/parquetrylaw13.WeakSettles", spec := "weakSettles", inPlace := ["internal/bytealg.CountString", "internal/bytealg.IndexByteString", "internal/bytealg.IndexString", "internal/abi.NoEscape", "internal/bytealg.MakeNoZero"], unfollowed := true, recurses := true, named := ["unicode/utf8.first", "unicode/utf8.acceptRanges", "internal/bytealg.MaxLen"], apart := false, laid := [("unicode/utf8.acceptRanges", laid_unicode_utf8_acceptRanges), ("unicode/utf8.first", laid_unicode_utf8_first)], narrowed := true }
def WeakSettlesUptoSaid : Prop := weakSettlesUptoRow.holds Tryd.pinned (OpenSpec.upto weakSettlesSpec)

/-- 'parquetrylaw13.WeakParts', WHERE WHAT IT READS IS OF BULK AT MOST 1048576: true; the input reads as it did. -/
def weakPartsUptoRow : OpenClaim := { program := "ytfpibigfhhoiiaadoor", sum := "0bc418bd67ff0c351a096f96ebdc37de4a11eb30da39af574d2cf837b427052f", func := "parquetry/parquetrylaw13.WeakParts", spec := "weakParts", inPlace := ["internal/bytealg.CountString", "internal/bytealg.IndexByteString", "internal/bytealg.IndexString", "internal/abi.NoEscape", "internal/bytealg.MakeNoZero"], unfollowed := true, recurses := true, named := ["unicode/utf8.first", "unicode/utf8.acceptRanges", "internal/bytealg.MaxLen"], apart := false, laid := [("unicode/utf8.acceptRanges", laid_unicode_utf8_acceptRanges), ("unicode/utf8.first", laid_unicode_utf8_first)], narrowed := true }
def WeakPartsUptoSaid : Prop := weakPartsUptoRow.holds Tryd.pinned (OpenSpec.upto weakPartsSpec)

/-- 'parquetrylaw02.ClassJoins', WHERE WHAT IT READS IS OF BULK AT MOST 1048576: true; the input reads as it did. -/
def classJoinsUptoRow : OpenClaim := { program := "ytfpibigfhhoiiaadoor", sum := "0bc418bd67ff0c351a096f96ebdc37de4a11eb30da39af574d2cf837b427052f", func := "parquetry/parquetrylaw02.ClassJoins", spec := "classJoins", inPlace := ["internal/abi.NoEscape", "internal/bytealg.MakeNoZero", "internal/bytealg.CountString", "internal/bytealg.IndexByteString", "internal/bytealg.IndexString"], unfollowed := true, recurses := true, named := ["unicode/utf8.first", "unicode/utf8.acceptRanges", "internal/bytealg.MaxLen"], apart := false, laid := [("unicode/utf8.acceptRanges", laid_unicode_utf8_acceptRanges), ("unicode/utf8.first", laid_unicode_utf8_first)], narrowed := true }
def ClassJoinsUptoSaid : Prop := classJoinsUptoRow.holds Tryd.pinned (OpenSpec.upto classJoinsSpec)

end Rows
end Go.Proofs.YtfpibigfhhoiiaaDoor
