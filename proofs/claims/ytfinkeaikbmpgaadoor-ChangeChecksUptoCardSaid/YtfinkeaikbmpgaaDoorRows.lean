/-
  NARROWER THAN 'FOR EVERY INPUT', by the rows' own cells (each row's printed sentence says how): TreeTells: loops, laid · DocMakes: loops, laid · DocTells: laid · MarkBack: loops, laid · MarkOnce: laid · MarkContent: loops, laid · MarkParses: laid · MarkParts: laid · ChangeChecks: loops, laid · MarkPrints: loops, laid · PathRises: laid · PathPicks: laid · PathAll: laid · PathParses: laid.
  DERIVED. THE GIVEN ROWS OF THIS SEAT. 14 by the template 'for every input the law returns true; each argument reads behind the call as it read before'; 0 by the template 'total and deterministic' (their statements: YtfinkeaikbmpgaaDoorTotals.lean).
  GIVEN WITH THE SEED: the statements are not yours to turn. If you find one false, say at which input.
  Laid BY PROGRAM, IN A SANDBOX (cutbox-rows.mjs): the forced cells as the released guide's own fill.sh prints them over the translation 9c8ccb4d92bdf024… (all of the seat's roots in one cut). By AI agents, Wed Nov 11 2026. No macro, syntax, notation, axiom, sorry.
-/
import Derived.Test.YtfinkeaikbmpgaaDoorChecked
import GoSem.PinnedTables
import GoSem.Claim
import GoSem.ClaimJoined
import GoSem.ClaimMapViews
import Derived.JoinedTies
import Derived.KernelRfl
namespace Go.Proofs.YtfinkeaikbmpgaaDoor
/- THE CELL 'sum', in the pinned program and in every row, IS THE sha256 OF THE DUMP (.gsa) THAT YtfinkeaikbmpgaaDoorProg.lean LOADS. Nothing in Lean hashes anything: it is a label: what it is worth is what the hold of that sum in a sandbox is worth. -/
noncomputable def Tryd.pinned : Pinned := { name := "ytfinkeaikbmpgaadoor", sum := "9c8ccb4d92bdf02451f10b66b2ee82e05f8eb66b93e76b2193ed7ed04a8a2604", checked := Tryd.checked }
namespace Rows
def none {H : Type} : Left H := { results := [], args := [] }

/- WHAT THE LISTED PACKAGE-LEVEL VARIABLES READ AS WHEN THE CALL BEGINS. Each datum BY PROGRAM (the guide's laid-datum.mjs) off the statement by which the dump's own 'gosem.cut.vars' lays the variable. In a bare row this is a premise. The card (YtfinkeaikbmpgaaDoorCards.lean) ties it to the program's text. -/
def laid_unicode_utf8_acceptRanges {H : Type} : DataW H := .agg [.agg [.lit (.int .u8 128), .lit (.int .u8 191)], .agg [.lit (.int .u8 160), .lit (.int .u8 191)], .agg [.lit (.int .u8 128), .lit (.int .u8 159)], .agg [.lit (.int .u8 144), .lit (.int .u8 191)], .agg [.lit (.int .u8 128), .lit (.int .u8 143)], .agg [.lit (.int .u8 0), .lit (.int .u8 0)], .agg [.lit (.int .u8 0), .lit (.int .u8 0)], .agg [.lit (.int .u8 0), .lit (.int .u8 0)], .agg [.lit (.int .u8 0), .lit (.int .u8 0)], .agg [.lit (.int .u8 0), .lit (.int .u8 0)], .agg [.lit (.int .u8 0), .lit (.int .u8 0)], .agg [.lit (.int .u8 0), .lit (.int .u8 0)], .agg [.lit (.int .u8 0), .lit (.int .u8 0)], .agg [.lit (.int .u8 0), .lit (.int .u8 0)], .agg [.lit (.int .u8 0), .lit (.int .u8 0)], .agg [.lit (.int .u8 0), .lit (.int .u8 0)]]
/-- One of Go's own tables, pinned by name: the form's constant. -/
def laid_unicode_utf8_first : DataW Unit := Go.Pinned.utf8First
def laid_topiary_mark_entities {H : Type} : DataW H := .agg [.lit (.string [38, 108, 116, 59]), .lit (.string [38, 103, 116, 59]), .lit (.string [38, 97, 109, 112, 59]), .lit (.string [38, 113, 117, 111, 116, 59])]
def laid_math_bits_deBruijn32tab {H : Type} : DataW H := .agg [.lit (.int .u8 0), .lit (.int .u8 1), .lit (.int .u8 28), .lit (.int .u8 2), .lit (.int .u8 29), .lit (.int .u8 14), .lit (.int .u8 24), .lit (.int .u8 3), .lit (.int .u8 30), .lit (.int .u8 22), .lit (.int .u8 20), .lit (.int .u8 15), .lit (.int .u8 25), .lit (.int .u8 17), .lit (.int .u8 4), .lit (.int .u8 8), .lit (.int .u8 31), .lit (.int .u8 27), .lit (.int .u8 13), .lit (.int .u8 23), .lit (.int .u8 21), .lit (.int .u8 19), .lit (.int .u8 16), .lit (.int .u8 7), .lit (.int .u8 26), .lit (.int .u8 12), .lit (.int .u8 18), .lit (.int .u8 6), .lit (.int .u8 11), .lit (.int .u8 5), .lit (.int .u8 10), .lit (.int .u8 9)]
def laid_math_bits_deBruijn64tab {H : Type} : DataW H := .agg [.lit (.int .u8 0), .lit (.int .u8 1), .lit (.int .u8 56), .lit (.int .u8 2), .lit (.int .u8 57), .lit (.int .u8 49), .lit (.int .u8 28), .lit (.int .u8 3), .lit (.int .u8 61), .lit (.int .u8 58), .lit (.int .u8 42), .lit (.int .u8 50), .lit (.int .u8 38), .lit (.int .u8 29), .lit (.int .u8 17), .lit (.int .u8 4), .lit (.int .u8 62), .lit (.int .u8 47), .lit (.int .u8 59), .lit (.int .u8 36), .lit (.int .u8 45), .lit (.int .u8 43), .lit (.int .u8 51), .lit (.int .u8 22), .lit (.int .u8 53), .lit (.int .u8 39), .lit (.int .u8 33), .lit (.int .u8 30), .lit (.int .u8 24), .lit (.int .u8 18), .lit (.int .u8 12), .lit (.int .u8 5), .lit (.int .u8 63), .lit (.int .u8 55), .lit (.int .u8 48), .lit (.int .u8 27), .lit (.int .u8 60), .lit (.int .u8 41), .lit (.int .u8 37), .lit (.int .u8 16), .lit (.int .u8 46), .lit (.int .u8 35), .lit (.int .u8 44), .lit (.int .u8 21), .lit (.int .u8 52), .lit (.int .u8 32), .lit (.int .u8 23), .lit (.int .u8 11), .lit (.int .u8 54), .lit (.int .u8 26), .lit (.int .u8 40), .lit (.int .u8 15), .lit (.int .u8 34), .lit (.int .u8 20), .lit (.int .u8 31), .lit (.int .u8 10), .lit (.int .u8 25), .lit (.int .u8 14), .lit (.int .u8 19), .lit (.int .u8 9), .lit (.int .u8 13), .lit (.int .u8 8), .lit (.int .u8 7), .lit (.int .u8 6)]
def laid_internal_strconv_uint64pow10 {H : Type} : DataW H := .agg [.lit (.int .u64 1), .lit (.int .u64 10), .lit (.int .u64 100), .lit (.int .u64 1000), .lit (.int .u64 10000), .lit (.int .u64 100000), .lit (.int .u64 1000000), .lit (.int .u64 10000000), .lit (.int .u64 100000000), .lit (.int .u64 1000000000), .lit (.int .u64 10000000000), .lit (.int .u64 100000000000), .lit (.int .u64 1000000000000), .lit (.int .u64 10000000000000), .lit (.int .u64 100000000000000), .lit (.int .u64 1000000000000000), .lit (.int .u64 10000000000000000), .lit (.int .u64 100000000000000000), .lit (.int .u64 1000000000000000000), .lit (.int .u64 10000000000000000000)]
def laid_strconv_ErrRange {H : Type} : DataW H := .iface "*errors.errorString" (.ptr (.agg [.lit (.string [118, 97, 108, 117, 101, 32, 111, 117, 116, 32, 111, 102, 32, 114, 97, 110, 103, 101])]))
def laid_strconv_ErrSyntax {H : Type} : DataW H := .iface "*errors.errorString" (.ptr (.agg [.lit (.string [105, 110, 118, 97, 108, 105, 100, 32, 115, 121, 110, 116, 97, 120])]))

/-- 'topiarylaw.TreeTells': WHATEVER THE INPUT: true; the input reads as it did. -/
def treeTellsSpec : ChangeSpec := { name := "treeTells", fn := fun _ => fun
  | [d1, d2, d3] => { results := [.lit (.bool true)], args := [d1, d2, d3] }
  | _ => none }
def treeTellsRow : OpenClaim := { program := "ytfinkeaikbmpgaadoor", sum := "9c8ccb4d92bdf02451f10b66b2ee82e05f8eb66b93e76b2193ed7ed04a8a2604", func := "topiary/topiarylaw.TreeTells", spec := "treeTells", inPlace := ["internal/bytealg.IndexByteString", "internal/bytealg.IndexString"], recurses := true, named := ["unicode/utf8.first", "unicode/utf8.acceptRanges", "internal/bytealg.MaxLen"], loops := true, apart := false, laid := [("unicode/utf8.acceptRanges", laid_unicode_utf8_acceptRanges), ("unicode/utf8.first", laid_unicode_utf8_first)] }
def TreeTellsSaid : Prop := treeTellsRow.holds Tryd.pinned (OpenSpec.ofChange treeTellsSpec)

/-- ITS FALSE NEIGHBOUR: 'it returns false'. Refute it at one input. -/
def treeTellsWrong : ChangeSpec := { name := "treeTells", fn := fun _ => fun
  | [d1, d2, d3] => { results := [.lit (.bool false)], args := [d1, d2, d3] }
  | _ => none }
def TreeTellsWrongFalsely : Prop := treeTellsRow.holds Tryd.pinned (OpenSpec.ofChange treeTellsWrong)

/-- 'topiarylaw.DocMakes': WHATEVER THE INPUT: true; the input reads as it did. -/
def docMakesSpec : ChangeSpec := { name := "docMakes", fn := fun _ => fun
  | [d] => { results := [.lit (.bool true)], args := [d] }
  | _ => none }
def docMakesRow : OpenClaim := { program := "ytfinkeaikbmpgaadoor", sum := "9c8ccb4d92bdf02451f10b66b2ee82e05f8eb66b93e76b2193ed7ed04a8a2604", func := "topiary/topiarylaw.DocMakes", spec := "docMakes", inPlace := ["internal/bytealg.IndexByteString", "internal/bytealg.IndexString"], recurses := true, named := ["unicode/utf8.first", "unicode/utf8.acceptRanges", "internal/bytealg.MaxLen"], loops := true, apart := false, laid := [("unicode/utf8.acceptRanges", laid_unicode_utf8_acceptRanges), ("unicode/utf8.first", laid_unicode_utf8_first)] }
def DocMakesSaid : Prop := docMakesRow.holds Tryd.pinned (OpenSpec.ofChange docMakesSpec)

/-- ITS FALSE NEIGHBOUR: 'it returns false'. Refute it at one input. -/
def docMakesWrong : ChangeSpec := { name := "docMakes", fn := fun _ => fun
  | [d] => { results := [.lit (.bool false)], args := [d] }
  | _ => none }
def DocMakesWrongFalsely : Prop := docMakesRow.holds Tryd.pinned (OpenSpec.ofChange docMakesWrong)

/-- 'topiarylaw.DocTells': WHATEVER THE INPUT: true; the input reads as it did. -/
def docTellsSpec : ChangeSpec := { name := "docTells", fn := fun _ => fun
  | [d1, d2, d3] => { results := [.lit (.bool true)], args := [d1, d2, d3] }
  | _ => none }
def docTellsRow : OpenClaim := { program := "ytfinkeaikbmpgaadoor", sum := "9c8ccb4d92bdf02451f10b66b2ee82e05f8eb66b93e76b2193ed7ed04a8a2604", func := "topiary/topiarylaw.DocTells", spec := "docTells", inPlace := ["internal/bytealg.IndexByteString", "internal/bytealg.IndexString"], recurses := true, named := ["unicode/utf8.first", "unicode/utf8.acceptRanges", "internal/bytealg.MaxLen"], apart := false, laid := [("unicode/utf8.acceptRanges", laid_unicode_utf8_acceptRanges), ("unicode/utf8.first", laid_unicode_utf8_first)] }
def DocTellsSaid : Prop := docTellsRow.holds Tryd.pinned (OpenSpec.ofChange docTellsSpec)

/-- ITS FALSE NEIGHBOUR: 'it returns false'. Refute it at one input. -/
def docTellsWrong : ChangeSpec := { name := "docTells", fn := fun _ => fun
  | [d1, d2, d3] => { results := [.lit (.bool false)], args := [d1, d2, d3] }
  | _ => none }
def DocTellsWrongFalsely : Prop := docTellsRow.holds Tryd.pinned (OpenSpec.ofChange docTellsWrong)

/-- 'topiarykeep.MarkBack': WHATEVER THE INPUT: true; the input reads as it did. -/
def markBackSpec : ChangeSpec := { name := "markBack", fn := fun _ => fun
  | [d] => { results := [.lit (.bool true)], args := [d] }
  | _ => none }
def markBackRow : OpenClaim := { program := "ytfinkeaikbmpgaadoor", sum := "9c8ccb4d92bdf02451f10b66b2ee82e05f8eb66b93e76b2193ed7ed04a8a2604", func := "topiary/topiarykeep.MarkBack", spec := "markBack", inPlace := ["internal/bytealg.IndexByteString", "internal/bytealg.IndexString", "internal/bytealg.abigen_runtime_cmpstring"], unfollowed := true, recurses := true, named := ["unicode/utf8.first", "unicode/utf8.acceptRanges", "topiary/mark.entities", "internal/bytealg.MaxLen"], loops := true, apart := false, laid := [("unicode/utf8.acceptRanges", laid_unicode_utf8_acceptRanges), ("topiary/mark.entities", laid_topiary_mark_entities), ("unicode/utf8.first", laid_unicode_utf8_first)] }
def MarkBackSaid : Prop := markBackRow.holds Tryd.pinned (OpenSpec.ofChange markBackSpec)

/-- ITS FALSE NEIGHBOUR: 'it returns false'. Refute it at one input. -/
def markBackWrong : ChangeSpec := { name := "markBack", fn := fun _ => fun
  | [d] => { results := [.lit (.bool false)], args := [d] }
  | _ => none }
def MarkBackWrongFalsely : Prop := markBackRow.holds Tryd.pinned (OpenSpec.ofChange markBackWrong)

/-- 'topiarykeep.MarkOnce': WHATEVER THE INPUT: true; the input reads as it did. -/
def markOnceSpec : ChangeSpec := { name := "markOnce", fn := fun _ => fun
  | [d] => { results := [.lit (.bool true)], args := [d] }
  | _ => none }
def markOnceRow : OpenClaim := { program := "ytfinkeaikbmpgaadoor", sum := "9c8ccb4d92bdf02451f10b66b2ee82e05f8eb66b93e76b2193ed7ed04a8a2604", func := "topiary/topiarykeep.MarkOnce", spec := "markOnce", inPlace := ["internal/bytealg.IndexByteString", "internal/bytealg.IndexString", "internal/bytealg.abigen_runtime_cmpstring"], unfollowed := true, recurses := true, named := ["unicode/utf8.first", "unicode/utf8.acceptRanges", "topiary/mark.entities", "internal/bytealg.MaxLen"], apart := false, laid := [("unicode/utf8.acceptRanges", laid_unicode_utf8_acceptRanges), ("topiary/mark.entities", laid_topiary_mark_entities), ("unicode/utf8.first", laid_unicode_utf8_first)] }
def MarkOnceSaid : Prop := markOnceRow.holds Tryd.pinned (OpenSpec.ofChange markOnceSpec)

/-- ITS FALSE NEIGHBOUR: 'it returns false'. Refute it at one input. -/
def markOnceWrong : ChangeSpec := { name := "markOnce", fn := fun _ => fun
  | [d] => { results := [.lit (.bool false)], args := [d] }
  | _ => none }
def MarkOnceWrongFalsely : Prop := markOnceRow.holds Tryd.pinned (OpenSpec.ofChange markOnceWrong)

/-- 'topiarykeep.MarkContent': WHATEVER THE INPUT: true; the input reads as it did. -/
def markContentSpec : ChangeSpec := { name := "markContent", fn := fun _ => fun
  | [d] => { results := [.lit (.bool true)], args := [d] }
  | _ => none }
def markContentRow : OpenClaim := { program := "ytfinkeaikbmpgaadoor", sum := "9c8ccb4d92bdf02451f10b66b2ee82e05f8eb66b93e76b2193ed7ed04a8a2604", func := "topiary/topiarykeep.MarkContent", spec := "markContent", inPlace := ["internal/bytealg.IndexByteString", "internal/bytealg.IndexString", "internal/bytealg.abigen_runtime_cmpstring"], unfollowed := true, recurses := true, named := ["unicode/utf8.first", "unicode/utf8.acceptRanges", "topiary/mark.entities", "internal/bytealg.MaxLen"], loops := true, apart := false, laid := [("unicode/utf8.acceptRanges", laid_unicode_utf8_acceptRanges), ("topiary/mark.entities", laid_topiary_mark_entities), ("unicode/utf8.first", laid_unicode_utf8_first)] }
def MarkContentSaid : Prop := markContentRow.holds Tryd.pinned (OpenSpec.ofChange markContentSpec)

/-- ITS FALSE NEIGHBOUR: 'it returns false'. Refute it at one input. -/
def markContentWrong : ChangeSpec := { name := "markContent", fn := fun _ => fun
  | [d] => { results := [.lit (.bool false)], args := [d] }
  | _ => none }
def MarkContentWrongFalsely : Prop := markContentRow.holds Tryd.pinned (OpenSpec.ofChange markContentWrong)

/-- 'topiarylaw.MarkParses': WHATEVER THE INPUT: true; the input reads as it did. -/
def markParsesSpec : ChangeSpec := { name := "markParses", fn := fun _ => fun
  | [d] => { results := [.lit (.bool true)], args := [d] }
  | _ => none }
def markParsesRow : OpenClaim := { program := "ytfinkeaikbmpgaadoor", sum := "9c8ccb4d92bdf02451f10b66b2ee82e05f8eb66b93e76b2193ed7ed04a8a2604", func := "topiary/topiarylaw.MarkParses", spec := "markParses", inPlace := ["internal/bytealg.IndexByteString", "internal/bytealg.IndexString", "internal/bytealg.abigen_runtime_cmpstring"], unfollowed := true, recurses := true, named := ["unicode/utf8.first", "unicode/utf8.acceptRanges", "topiary/mark.entities", "internal/bytealg.MaxLen"], apart := false, laid := [("unicode/utf8.acceptRanges", laid_unicode_utf8_acceptRanges), ("topiary/mark.entities", laid_topiary_mark_entities), ("unicode/utf8.first", laid_unicode_utf8_first)] }
def MarkParsesSaid : Prop := markParsesRow.holds Tryd.pinned (OpenSpec.ofChange markParsesSpec)

/-- ITS FALSE NEIGHBOUR: 'it returns false'. Refute it at one input. -/
def markParsesWrong : ChangeSpec := { name := "markParses", fn := fun _ => fun
  | [d] => { results := [.lit (.bool false)], args := [d] }
  | _ => none }
def MarkParsesWrongFalsely : Prop := markParsesRow.holds Tryd.pinned (OpenSpec.ofChange markParsesWrong)

/-- 'topiarylaw.MarkParts': WHATEVER THE INPUT: true; the input reads as it did. -/
def markPartsSpec : ChangeSpec := { name := "markParts", fn := fun _ => fun
  | [d] => { results := [.lit (.bool true)], args := [d] }
  | _ => none }
def markPartsRow : OpenClaim := { program := "ytfinkeaikbmpgaadoor", sum := "9c8ccb4d92bdf02451f10b66b2ee82e05f8eb66b93e76b2193ed7ed04a8a2604", func := "topiary/topiarylaw.MarkParts", spec := "markParts", inPlace := ["internal/bytealg.IndexByteString", "internal/bytealg.IndexString", "internal/bytealg.abigen_runtime_cmpstring"], unfollowed := true, recurses := true, named := ["unicode/utf8.first", "unicode/utf8.acceptRanges", "topiary/mark.entities", "internal/bytealg.MaxLen"], apart := false, laid := [("unicode/utf8.acceptRanges", laid_unicode_utf8_acceptRanges), ("topiary/mark.entities", laid_topiary_mark_entities), ("unicode/utf8.first", laid_unicode_utf8_first)] }
def MarkPartsSaid : Prop := markPartsRow.holds Tryd.pinned (OpenSpec.ofChange markPartsSpec)

/-- ITS FALSE NEIGHBOUR: 'it returns false'. Refute it at one input. -/
def markPartsWrong : ChangeSpec := { name := "markParts", fn := fun _ => fun
  | [d] => { results := [.lit (.bool false)], args := [d] }
  | _ => none }
def MarkPartsWrongFalsely : Prop := markPartsRow.holds Tryd.pinned (OpenSpec.ofChange markPartsWrong)

/-- 'topiarylaw.ChangeChecks': WHATEVER THE INPUT: true; the input reads as it did. -/
def changeChecksSpec : ChangeSpec := { name := "changeChecks", fn := fun _ => fun
  | [d1, d2] => { results := [.lit (.bool true)], args := [d1, d2] }
  | _ => none }
def changeChecksRow : OpenClaim := { program := "ytfinkeaikbmpgaadoor", sum := "9c8ccb4d92bdf02451f10b66b2ee82e05f8eb66b93e76b2193ed7ed04a8a2604", func := "topiary/topiarylaw.ChangeChecks", spec := "changeChecks", inPlace := ["internal/bytealg.IndexByteString", "internal/bytealg.IndexString", "slices.overlaps[int]", "internal/bytealg.abigen_runtime_cmpstring", "slices.overlaps[topiary/api.Attr]"], unfollowed := true, recurses := true, named := ["unicode/utf8.first", "unicode/utf8.acceptRanges", "internal/bytealg.MaxLen"], loops := true, apart := false, laid := [("unicode/utf8.acceptRanges", laid_unicode_utf8_acceptRanges), ("unicode/utf8.first", laid_unicode_utf8_first)] }
def ChangeChecksSaid : Prop := changeChecksRow.holds Tryd.pinned (OpenSpec.ofChange changeChecksSpec)

/-- ITS FALSE NEIGHBOUR: 'it returns false'. Refute it at one input. -/
def changeChecksWrong : ChangeSpec := { name := "changeChecks", fn := fun _ => fun
  | [d1, d2] => { results := [.lit (.bool false)], args := [d1, d2] }
  | _ => none }
def ChangeChecksWrongFalsely : Prop := changeChecksRow.holds Tryd.pinned (OpenSpec.ofChange changeChecksWrong)

/-- 'topiarylaw.MarkPrints': WHATEVER THE INPUT: true; the input reads as it did. -/
def markPrintsSpec : ChangeSpec := { name := "markPrints", fn := fun _ => fun
  | [d] => { results := [.lit (.bool true)], args := [d] }
  | _ => none }
def markPrintsRow : OpenClaim := { program := "ytfinkeaikbmpgaadoor", sum := "9c8ccb4d92bdf02451f10b66b2ee82e05f8eb66b93e76b2193ed7ed04a8a2604", func := "topiary/topiarylaw.MarkPrints", spec := "markPrints", inPlace := ["internal/bytealg.IndexByteString", "internal/bytealg.IndexString", "internal/bytealg.CountString", "internal/abi.NoEscape", "internal/bytealg.MakeNoZero", "internal/bytealg.abigen_runtime_cmpstring"], unfollowed := true, recurses := true, named := ["unicode/utf8.first", "unicode/utf8.acceptRanges", "internal/bytealg.MaxLen", "topiary/mark.entities"], loops := true, apart := false, laid := [("unicode/utf8.acceptRanges", laid_unicode_utf8_acceptRanges), ("topiary/mark.entities", laid_topiary_mark_entities), ("unicode/utf8.first", laid_unicode_utf8_first)] }
def MarkPrintsSaid : Prop := markPrintsRow.holds Tryd.pinned (OpenSpec.ofChange markPrintsSpec)

/-- ITS FALSE NEIGHBOUR: 'it returns false'. Refute it at one input. -/
def markPrintsWrong : ChangeSpec := { name := "markPrints", fn := fun _ => fun
  | [d] => { results := [.lit (.bool false)], args := [d] }
  | _ => none }
def MarkPrintsWrongFalsely : Prop := markPrintsRow.holds Tryd.pinned (OpenSpec.ofChange markPrintsWrong)

/-- 'topiarykeep.PathRises': WHATEVER THE INPUT: true; the input reads as it did. -/
def pathRisesSpec : ChangeSpec := { name := "pathRises", fn := fun _ => fun
  | [d1, d2] => { results := [.lit (.bool true)], args := [d1, d2] }
  | _ => none }
def pathRisesRow : OpenClaim := { program := "ytfinkeaikbmpgaadoor", sum := "9c8ccb4d92bdf02451f10b66b2ee82e05f8eb66b93e76b2193ed7ed04a8a2604", func := "topiary/topiarykeep.PathRises", spec := "pathRises", inPlace := ["internal/bytealg.CountString", "internal/bytealg.IndexByteString", "internal/bytealg.IndexString"], recurses := true, named := ["unicode/utf8.first", "unicode/utf8.acceptRanges", "internal/bytealg.MaxLen", "strconv.ErrSyntax", "strconv.ErrRange", "internal/strconv.uint64pow10", "math/bits.deBruijn32tab", "math/bits.deBruijn64tab"], apart := false, laid := [("math/bits.deBruijn32tab", laid_math_bits_deBruijn32tab), ("math/bits.deBruijn64tab", laid_math_bits_deBruijn64tab), ("internal/strconv.uint64pow10", laid_internal_strconv_uint64pow10), ("unicode/utf8.acceptRanges", laid_unicode_utf8_acceptRanges), ("strconv.ErrRange", laid_strconv_ErrRange), ("strconv.ErrSyntax", laid_strconv_ErrSyntax), ("unicode/utf8.first", laid_unicode_utf8_first)] }
def PathRisesSaid : Prop := pathRisesRow.holds Tryd.pinned (OpenSpec.ofChange pathRisesSpec)

/-- ITS FALSE NEIGHBOUR: 'it returns false'. Refute it at one input. -/
def pathRisesWrong : ChangeSpec := { name := "pathRises", fn := fun _ => fun
  | [d1, d2] => { results := [.lit (.bool false)], args := [d1, d2] }
  | _ => none }
def PathRisesWrongFalsely : Prop := pathRisesRow.holds Tryd.pinned (OpenSpec.ofChange pathRisesWrong)

/-- 'topiarykeep.PathPicks': WHATEVER THE INPUT: true; the input reads as it did. -/
def pathPicksSpec : ChangeSpec := { name := "pathPicks", fn := fun _ => fun
  | [d1, d2, d3, d4] => { results := [.lit (.bool true)], args := [d1, d2, d3, d4] }
  | _ => none }
def pathPicksRow : OpenClaim := { program := "ytfinkeaikbmpgaadoor", sum := "9c8ccb4d92bdf02451f10b66b2ee82e05f8eb66b93e76b2193ed7ed04a8a2604", func := "topiary/topiarykeep.PathPicks", spec := "pathPicks", inPlace := ["internal/bytealg.CountString", "internal/bytealg.IndexByteString", "internal/bytealg.IndexString"], recurses := true, named := ["unicode/utf8.first", "unicode/utf8.acceptRanges", "internal/bytealg.MaxLen", "strconv.ErrSyntax", "strconv.ErrRange", "internal/strconv.uint64pow10", "math/bits.deBruijn32tab", "math/bits.deBruijn64tab"], apart := false, laid := [("math/bits.deBruijn32tab", laid_math_bits_deBruijn32tab), ("math/bits.deBruijn64tab", laid_math_bits_deBruijn64tab), ("internal/strconv.uint64pow10", laid_internal_strconv_uint64pow10), ("unicode/utf8.acceptRanges", laid_unicode_utf8_acceptRanges), ("strconv.ErrRange", laid_strconv_ErrRange), ("strconv.ErrSyntax", laid_strconv_ErrSyntax), ("unicode/utf8.first", laid_unicode_utf8_first)] }
def PathPicksSaid : Prop := pathPicksRow.holds Tryd.pinned (OpenSpec.ofChange pathPicksSpec)

/-- ITS FALSE NEIGHBOUR: 'it returns false'. Refute it at one input. -/
def pathPicksWrong : ChangeSpec := { name := "pathPicks", fn := fun _ => fun
  | [d1, d2, d3, d4] => { results := [.lit (.bool false)], args := [d1, d2, d3, d4] }
  | _ => none }
def PathPicksWrongFalsely : Prop := pathPicksRow.holds Tryd.pinned (OpenSpec.ofChange pathPicksWrong)

/-- 'topiarykeep.PathAll': WHATEVER THE INPUT: true; the input reads as it did. -/
def pathAllSpec : ChangeSpec := { name := "pathAll", fn := fun _ => fun
  | [d1, d2] => { results := [.lit (.bool true)], args := [d1, d2] }
  | _ => none }
def pathAllRow : OpenClaim := { program := "ytfinkeaikbmpgaadoor", sum := "9c8ccb4d92bdf02451f10b66b2ee82e05f8eb66b93e76b2193ed7ed04a8a2604", func := "topiary/topiarykeep.PathAll", spec := "pathAll", inPlace := ["internal/bytealg.CountString", "internal/bytealg.IndexByteString", "internal/bytealg.IndexString"], recurses := true, named := ["unicode/utf8.first", "unicode/utf8.acceptRanges", "internal/bytealg.MaxLen", "strconv.ErrSyntax", "strconv.ErrRange", "internal/strconv.uint64pow10", "math/bits.deBruijn32tab", "math/bits.deBruijn64tab"], apart := false, laid := [("math/bits.deBruijn32tab", laid_math_bits_deBruijn32tab), ("math/bits.deBruijn64tab", laid_math_bits_deBruijn64tab), ("internal/strconv.uint64pow10", laid_internal_strconv_uint64pow10), ("unicode/utf8.acceptRanges", laid_unicode_utf8_acceptRanges), ("strconv.ErrRange", laid_strconv_ErrRange), ("strconv.ErrSyntax", laid_strconv_ErrSyntax), ("unicode/utf8.first", laid_unicode_utf8_first)] }
def PathAllSaid : Prop := pathAllRow.holds Tryd.pinned (OpenSpec.ofChange pathAllSpec)

/-- ITS FALSE NEIGHBOUR: 'it returns false'. Refute it at one input. -/
def pathAllWrong : ChangeSpec := { name := "pathAll", fn := fun _ => fun
  | [d1, d2] => { results := [.lit (.bool false)], args := [d1, d2] }
  | _ => none }
def PathAllWrongFalsely : Prop := pathAllRow.holds Tryd.pinned (OpenSpec.ofChange pathAllWrong)

/-- 'topiarylaw.PathParses': WHATEVER THE INPUT: true; the input reads as it did. -/
def pathParsesSpec : ChangeSpec := { name := "pathParses", fn := fun _ => fun
  | [d] => { results := [.lit (.bool true)], args := [d] }
  | _ => none }
def pathParsesRow : OpenClaim := { program := "ytfinkeaikbmpgaadoor", sum := "9c8ccb4d92bdf02451f10b66b2ee82e05f8eb66b93e76b2193ed7ed04a8a2604", func := "topiary/topiarylaw.PathParses", spec := "pathParses", inPlace := ["internal/bytealg.CountString", "internal/bytealg.IndexByteString", "internal/bytealg.IndexString"], unfollowed := true, recurses := true, named := ["unicode/utf8.first", "unicode/utf8.acceptRanges", "internal/bytealg.MaxLen", "strconv.ErrSyntax", "strconv.ErrRange", "internal/strconv.uint64pow10", "math/bits.deBruijn32tab", "math/bits.deBruijn64tab"], apart := false, laid := [("math/bits.deBruijn32tab", laid_math_bits_deBruijn32tab), ("math/bits.deBruijn64tab", laid_math_bits_deBruijn64tab), ("internal/strconv.uint64pow10", laid_internal_strconv_uint64pow10), ("unicode/utf8.acceptRanges", laid_unicode_utf8_acceptRanges), ("strconv.ErrRange", laid_strconv_ErrRange), ("strconv.ErrSyntax", laid_strconv_ErrSyntax), ("unicode/utf8.first", laid_unicode_utf8_first)] }
def PathParsesSaid : Prop := pathParsesRow.holds Tryd.pinned (OpenSpec.ofChange pathParsesSpec)

/-- ITS FALSE NEIGHBOUR: 'it returns false'. Refute it at one input. -/
def pathParsesWrong : ChangeSpec := { name := "pathParses", fn := fun _ => fun
  | [d] => { results := [.lit (.bool false)], args := [d] }
  | _ => none }
def PathParsesWrongFalsely : Prop := pathParsesRow.holds Tryd.pinned (OpenSpec.ofChange pathParsesWrong)

/- THE SECOND FORM. 'bulk': how many values and letters a reading holds, each counted each time it is reached (what is shared counts as often as it is met; a slice's spare places count too). A statement '..UptoSaid' is the law's where the arguments, and the package variables that the reading takes, are together of bulk at most 1048576: NARROWER than '..Said'. Prove '..Said' where nothing that the law and all that it calls make is longer than what came in: it says more and counts as full. Else prove '..UptoSaid'. A law counts once. -/
mutual
def uptoBulk {H : Type} : DataW H → Nat
  | .lit (.string bytes) => bytes.length + 1
  | .lit _ => 1
  | .nil => 1
  | .ptr d => uptoBulk d + 1
  | .slice elems spare => uptoBulkAll elems + uptoBulkAll spare + 1
  | .agg parts => uptoBulkAll parts + 1
  | .iface _ d => uptoBulk d + 1
  | .map entries => uptoBulkEntries entries + 1
  | .held _ => 1
def uptoBulkAll {H : Type} : List (DataW H) → Nat
  | [] => 0
  | d :: r => uptoBulk d + uptoBulkAll r
def uptoBulkEntries {H : Type} : List (Lit × DataW H) → Nat
  | [] => 0
  | x :: r => uptoBulkEntry x + uptoBulkEntries r
def uptoBulkEntry {H : Type} : Lit × DataW H → Nat
  | (.string bytes, d) => bytes.length + uptoBulk d + 1
  | (_, d) => uptoBulk d + 1
 end
def uptoSmall : (H : Type) → List (DataW H) → Bool := fun _ ds => decide (uptoBulkAll ds ≤ 1048576)
def OpenSpec.upto (s : _root_.Go.ChangeSpec) : _root_.Go.OpenSpec := { _root_.Go.OpenSpec.ofChange s with cond := some uptoSmall }

/-- 'topiarylaw.TreeTells', WHERE WHAT IT READS IS OF BULK AT MOST 1048576: true; the input reads as it did. -/
def treeTellsUptoRow : OpenClaim := { program := "ytfinkeaikbmpgaadoor", sum := "9c8ccb4d92bdf02451f10b66b2ee82e05f8eb66b93e76b2193ed7ed04a8a2604", func := "topiary/topiarylaw.TreeTells", spec := "treeTells", inPlace := ["internal/bytealg.IndexByteString", "internal/bytealg.IndexString"], recurses := true, named := ["unicode/utf8.first", "unicode/utf8.acceptRanges", "internal/bytealg.MaxLen"], loops := true, apart := false, laid := [("unicode/utf8.acceptRanges", laid_unicode_utf8_acceptRanges), ("unicode/utf8.first", laid_unicode_utf8_first)], narrowed := true }
def TreeTellsUptoSaid : Prop := treeTellsUptoRow.holds Tryd.pinned (OpenSpec.upto treeTellsSpec)

/-- 'topiarylaw.DocMakes', WHERE WHAT IT READS IS OF BULK AT MOST 1048576: true; the input reads as it did. -/
def docMakesUptoRow : OpenClaim := { program := "ytfinkeaikbmpgaadoor", sum := "9c8ccb4d92bdf02451f10b66b2ee82e05f8eb66b93e76b2193ed7ed04a8a2604", func := "topiary/topiarylaw.DocMakes", spec := "docMakes", inPlace := ["internal/bytealg.IndexByteString", "internal/bytealg.IndexString"], recurses := true, named := ["unicode/utf8.first", "unicode/utf8.acceptRanges", "internal/bytealg.MaxLen"], loops := true, apart := false, laid := [("unicode/utf8.acceptRanges", laid_unicode_utf8_acceptRanges), ("unicode/utf8.first", laid_unicode_utf8_first)], narrowed := true }
def DocMakesUptoSaid : Prop := docMakesUptoRow.holds Tryd.pinned (OpenSpec.upto docMakesSpec)

/-- 'topiarylaw.DocTells', WHERE WHAT IT READS IS OF BULK AT MOST 1048576: true; the input reads as it did. -/
def docTellsUptoRow : OpenClaim := { program := "ytfinkeaikbmpgaadoor", sum := "9c8ccb4d92bdf02451f10b66b2ee82e05f8eb66b93e76b2193ed7ed04a8a2604", func := "topiary/topiarylaw.DocTells", spec := "docTells", inPlace := ["internal/bytealg.IndexByteString", "internal/bytealg.IndexString"], recurses := true, named := ["unicode/utf8.first", "unicode/utf8.acceptRanges", "internal/bytealg.MaxLen"], apart := false, laid := [("unicode/utf8.acceptRanges", laid_unicode_utf8_acceptRanges), ("unicode/utf8.first", laid_unicode_utf8_first)], narrowed := true }
def DocTellsUptoSaid : Prop := docTellsUptoRow.holds Tryd.pinned (OpenSpec.upto docTellsSpec)

/-- 'topiarykeep.MarkBack', WHERE WHAT IT READS IS OF BULK AT MOST 1048576: true; the input reads as it did. -/
def markBackUptoRow : OpenClaim := { program := "ytfinkeaikbmpgaadoor", sum := "9c8ccb4d92bdf02451f10b66b2ee82e05f8eb66b93e76b2193ed7ed04a8a2604", func := "topiary/topiarykeep.MarkBack", spec := "markBack", inPlace := ["internal/bytealg.IndexByteString", "internal/bytealg.IndexString", "internal/bytealg.abigen_runtime_cmpstring"], unfollowed := true, recurses := true, named := ["unicode/utf8.first", "unicode/utf8.acceptRanges", "topiary/mark.entities", "internal/bytealg.MaxLen"], loops := true, apart := false, laid := [("unicode/utf8.acceptRanges", laid_unicode_utf8_acceptRanges), ("topiary/mark.entities", laid_topiary_mark_entities), ("unicode/utf8.first", laid_unicode_utf8_first)], narrowed := true }
def MarkBackUptoSaid : Prop := markBackUptoRow.holds Tryd.pinned (OpenSpec.upto markBackSpec)

/-- 'topiarykeep.MarkOnce', WHERE WHAT IT READS IS OF BULK AT MOST 1048576: true; the input reads as it did. -/
def markOnceUptoRow : OpenClaim := { program := "ytfinkeaikbmpgaadoor", sum := "9c8ccb4d92bdf02451f10b66b2ee82e05f8eb66b93e76b2193ed7ed04a8a2604", func := "topiary/topiarykeep.MarkOnce", spec := "markOnce", inPlace := ["internal/bytealg.IndexByteString", "internal/bytealg.IndexString", "internal/bytealg.abigen_runtime_cmpstring"], unfollowed := true, recurses := true, named := ["unicode/utf8.first", "unicode/utf8.acceptRanges", "topiary/mark.entities", "internal/bytealg.MaxLen"], apart := false, laid := [("unicode/utf8.acceptRanges", laid_unicode_utf8_acceptRanges), ("topiary/mark.entities", laid_topiary_mark_entities), ("unicode/utf8.first", laid_unicode_utf8_first)], narrowed := true }
def MarkOnceUptoSaid : Prop := markOnceUptoRow.holds Tryd.pinned (OpenSpec.upto markOnceSpec)

/-- 'topiarykeep.MarkContent', WHERE WHAT IT READS IS OF BULK AT MOST 1048576: true; the input reads as it did. -/
def markContentUptoRow : OpenClaim := { program := "ytfinkeaikbmpgaadoor", sum := "9c8ccb4d92bdf02451f10b66b2ee82e05f8eb66b93e76b2193ed7ed04a8a2604", func := "topiary/topiarykeep.MarkContent", spec := "markContent", inPlace := ["internal/bytealg.IndexByteString", "internal/bytealg.IndexString", "internal/bytealg.abigen_runtime_cmpstring"], unfollowed := true, recurses := true, named := ["unicode/utf8.first", "unicode/utf8.acceptRanges", "topiary/mark.entities", "internal/bytealg.MaxLen"], loops := true, apart := false, laid := [("unicode/utf8.acceptRanges", laid_unicode_utf8_acceptRanges), ("topiary/mark.entities", laid_topiary_mark_entities), ("unicode/utf8.first", laid_unicode_utf8_first)], narrowed := true }
def MarkContentUptoSaid : Prop := markContentUptoRow.holds Tryd.pinned (OpenSpec.upto markContentSpec)

/-- 'topiarylaw.MarkParses', WHERE WHAT IT READS IS OF BULK AT MOST 1048576: true; the input reads as it did. -/
def markParsesUptoRow : OpenClaim := { program := "ytfinkeaikbmpgaadoor", sum := "9c8ccb4d92bdf02451f10b66b2ee82e05f8eb66b93e76b2193ed7ed04a8a2604", func := "topiary/topiarylaw.MarkParses", spec := "markParses", inPlace := ["internal/bytealg.IndexByteString", "internal/bytealg.IndexString", "internal/bytealg.abigen_runtime_cmpstring"], unfollowed := true, recurses := true, named := ["unicode/utf8.first", "unicode/utf8.acceptRanges", "topiary/mark.entities", "internal/bytealg.MaxLen"], apart := false, laid := [("unicode/utf8.acceptRanges", laid_unicode_utf8_acceptRanges), ("topiary/mark.entities", laid_topiary_mark_entities), ("unicode/utf8.first", laid_unicode_utf8_first)], narrowed := true }
def MarkParsesUptoSaid : Prop := markParsesUptoRow.holds Tryd.pinned (OpenSpec.upto markParsesSpec)

/-- 'topiarylaw.MarkParts', WHERE WHAT IT READS IS OF BULK AT MOST 1048576: true; the input reads as it did. -/
def markPartsUptoRow : OpenClaim := { program := "ytfinkeaikbmpgaadoor", sum := "9c8ccb4d92bdf02451f10b66b2ee82e05f8eb66b93e76b2193ed7ed04a8a2604", func := "topiary/topiarylaw.MarkParts", spec := "markParts", inPlace := ["internal/bytealg.IndexByteString", "internal/bytealg.IndexString", "internal/bytealg.abigen_runtime_cmpstring"], unfollowed := true, recurses := true, named := ["unicode/utf8.first", "unicode/utf8.acceptRanges", "topiary/mark.entities", "internal/bytealg.MaxLen"], apart := false, laid := [("unicode/utf8.acceptRanges", laid_unicode_utf8_acceptRanges), ("topiary/mark.entities", laid_topiary_mark_entities), ("unicode/utf8.first", laid_unicode_utf8_first)], narrowed := true }
def MarkPartsUptoSaid : Prop := markPartsUptoRow.holds Tryd.pinned (OpenSpec.upto markPartsSpec)

/-- 'topiarylaw.ChangeChecks', WHERE WHAT IT READS IS OF BULK AT MOST 1048576: true; the input reads as it did. -/
def changeChecksUptoRow : OpenClaim := { program := "ytfinkeaikbmpgaadoor", sum := "9c8ccb4d92bdf02451f10b66b2ee82e05f8eb66b93e76b2193ed7ed04a8a2604", func := "topiary/topiarylaw.ChangeChecks", spec := "changeChecks", inPlace := ["internal/bytealg.IndexByteString", "internal/bytealg.IndexString", "slices.overlaps[int]", "internal/bytealg.abigen_runtime_cmpstring", "slices.overlaps[topiary/api.Attr]"], unfollowed := true, recurses := true, named := ["unicode/utf8.first", "unicode/utf8.acceptRanges", "internal/bytealg.MaxLen"], loops := true, apart := false, laid := [("unicode/utf8.acceptRanges", laid_unicode_utf8_acceptRanges), ("unicode/utf8.first", laid_unicode_utf8_first)], narrowed := true }
def ChangeChecksUptoSaid : Prop := changeChecksUptoRow.holds Tryd.pinned (OpenSpec.upto changeChecksSpec)

/-- 'topiarylaw.MarkPrints', WHERE WHAT IT READS IS OF BULK AT MOST 1048576: true; the input reads as it did. -/
def markPrintsUptoRow : OpenClaim := { program := "ytfinkeaikbmpgaadoor", sum := "9c8ccb4d92bdf02451f10b66b2ee82e05f8eb66b93e76b2193ed7ed04a8a2604", func := "topiary/topiarylaw.MarkPrints", spec := "markPrints", inPlace := ["internal/bytealg.IndexByteString", "internal/bytealg.IndexString", "internal/bytealg.CountString", "internal/abi.NoEscape", "internal/bytealg.MakeNoZero", "internal/bytealg.abigen_runtime_cmpstring"], unfollowed := true, recurses := true, named := ["unicode/utf8.first", "unicode/utf8.acceptRanges", "internal/bytealg.MaxLen", "topiary/mark.entities"], loops := true, apart := false, laid := [("unicode/utf8.acceptRanges", laid_unicode_utf8_acceptRanges), ("topiary/mark.entities", laid_topiary_mark_entities), ("unicode/utf8.first", laid_unicode_utf8_first)], narrowed := true }
def MarkPrintsUptoSaid : Prop := markPrintsUptoRow.holds Tryd.pinned (OpenSpec.upto markPrintsSpec)

/-- 'topiarykeep.PathRises', WHERE WHAT IT READS IS OF BULK AT MOST 1048576: true; the input reads as it did. -/
def pathRisesUptoRow : OpenClaim := { program := "ytfinkeaikbmpgaadoor", sum := "9c8ccb4d92bdf02451f10b66b2ee82e05f8eb66b93e76b2193ed7ed04a8a2604", func := "topiary/topiarykeep.PathRises", spec := "pathRises", inPlace := ["internal/bytealg.CountString", "internal/bytealg.IndexByteString", "internal/bytealg.IndexString"], recurses := true, named := ["unicode/utf8.first", "unicode/utf8.acceptRanges", "internal/bytealg.MaxLen", "strconv.ErrSyntax", "strconv.ErrRange", "internal/strconv.uint64pow10", "math/bits.deBruijn32tab", "math/bits.deBruijn64tab"], apart := false, laid := [("math/bits.deBruijn32tab", laid_math_bits_deBruijn32tab), ("math/bits.deBruijn64tab", laid_math_bits_deBruijn64tab), ("internal/strconv.uint64pow10", laid_internal_strconv_uint64pow10), ("unicode/utf8.acceptRanges", laid_unicode_utf8_acceptRanges), ("strconv.ErrRange", laid_strconv_ErrRange), ("strconv.ErrSyntax", laid_strconv_ErrSyntax), ("unicode/utf8.first", laid_unicode_utf8_first)], narrowed := true }
def PathRisesUptoSaid : Prop := pathRisesUptoRow.holds Tryd.pinned (OpenSpec.upto pathRisesSpec)

/-- 'topiarykeep.PathPicks', WHERE WHAT IT READS IS OF BULK AT MOST 1048576: true; the input reads as it did. -/
def pathPicksUptoRow : OpenClaim := { program := "ytfinkeaikbmpgaadoor", sum := "9c8ccb4d92bdf02451f10b66b2ee82e05f8eb66b93e76b2193ed7ed04a8a2604", func := "topiary/topiarykeep.PathPicks", spec := "pathPicks", inPlace := ["internal/bytealg.CountString", "internal/bytealg.IndexByteString", "internal/bytealg.IndexString"], recurses := true, named := ["unicode/utf8.first", "unicode/utf8.acceptRanges", "internal/bytealg.MaxLen", "strconv.ErrSyntax", "strconv.ErrRange", "internal/strconv.uint64pow10", "math/bits.deBruijn32tab", "math/bits.deBruijn64tab"], apart := false, laid := [("math/bits.deBruijn32tab", laid_math_bits_deBruijn32tab), ("math/bits.deBruijn64tab", laid_math_bits_deBruijn64tab), ("internal/strconv.uint64pow10", laid_internal_strconv_uint64pow10), ("unicode/utf8.acceptRanges", laid_unicode_utf8_acceptRanges), ("strconv.ErrRange", laid_strconv_ErrRange), ("strconv.ErrSyntax", laid_strconv_ErrSyntax), ("unicode/utf8.first", laid_unicode_utf8_first)], narrowed := true }
def PathPicksUptoSaid : Prop := pathPicksUptoRow.holds Tryd.pinned (OpenSpec.upto pathPicksSpec)

/-- 'topiarykeep.PathAll', WHERE WHAT IT READS IS OF BULK AT MOST 1048576: true; the input reads as it did. -/
def pathAllUptoRow : OpenClaim := { program := "ytfinkeaikbmpgaadoor", sum := "9c8ccb4d92bdf02451f10b66b2ee82e05f8eb66b93e76b2193ed7ed04a8a2604", func := "topiary/topiarykeep.PathAll", spec := "pathAll", inPlace := ["internal/bytealg.CountString", "internal/bytealg.IndexByteString", "internal/bytealg.IndexString"], recurses := true, named := ["unicode/utf8.first", "unicode/utf8.acceptRanges", "internal/bytealg.MaxLen", "strconv.ErrSyntax", "strconv.ErrRange", "internal/strconv.uint64pow10", "math/bits.deBruijn32tab", "math/bits.deBruijn64tab"], apart := false, laid := [("math/bits.deBruijn32tab", laid_math_bits_deBruijn32tab), ("math/bits.deBruijn64tab", laid_math_bits_deBruijn64tab), ("internal/strconv.uint64pow10", laid_internal_strconv_uint64pow10), ("unicode/utf8.acceptRanges", laid_unicode_utf8_acceptRanges), ("strconv.ErrRange", laid_strconv_ErrRange), ("strconv.ErrSyntax", laid_strconv_ErrSyntax), ("unicode/utf8.first", laid_unicode_utf8_first)], narrowed := true }
def PathAllUptoSaid : Prop := pathAllUptoRow.holds Tryd.pinned (OpenSpec.upto pathAllSpec)

/-- 'topiarylaw.PathParses', WHERE WHAT IT READS IS OF BULK AT MOST 1048576: true; the input reads as it did. -/
def pathParsesUptoRow : OpenClaim := { program := "ytfinkeaikbmpgaadoor", sum := "9c8ccb4d92bdf02451f10b66b2ee82e05f8eb66b93e76b2193ed7ed04a8a2604", func := "topiary/topiarylaw.PathParses", spec := "pathParses", inPlace := ["internal/bytealg.CountString", "internal/bytealg.IndexByteString", "internal/bytealg.IndexString"], unfollowed := true, recurses := true, named := ["unicode/utf8.first", "unicode/utf8.acceptRanges", "internal/bytealg.MaxLen", "strconv.ErrSyntax", "strconv.ErrRange", "internal/strconv.uint64pow10", "math/bits.deBruijn32tab", "math/bits.deBruijn64tab"], apart := false, laid := [("math/bits.deBruijn32tab", laid_math_bits_deBruijn32tab), ("math/bits.deBruijn64tab", laid_math_bits_deBruijn64tab), ("internal/strconv.uint64pow10", laid_internal_strconv_uint64pow10), ("unicode/utf8.acceptRanges", laid_unicode_utf8_acceptRanges), ("strconv.ErrRange", laid_strconv_ErrRange), ("strconv.ErrSyntax", laid_strconv_ErrSyntax), ("unicode/utf8.first", laid_unicode_utf8_first)], narrowed := true }
def PathParsesUptoSaid : Prop := pathParsesUptoRow.holds Tryd.pinned (OpenSpec.upto pathParsesSpec)

end Rows
end Go.Proofs.YtfinkeaikbmpgaaDoor
