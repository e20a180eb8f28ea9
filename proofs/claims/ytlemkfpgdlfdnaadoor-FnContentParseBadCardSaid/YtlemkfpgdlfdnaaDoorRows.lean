/-
  NARROWER THAN 'FOR EVERY INPUT', by the rows' own cells (each row's printed sentence says how): FnExactContentText: laid · FnExactPathValid: laid · FnExactPathDepth: laid · FnExactContentParse: laid · FnContentTextBad: laid · FnExactPathUnder: laid · FnContentText: laid · FnExactPathParent: laid · FnPathDepth: laid · FnPathDepthBad: laid · FnContentParse: laid · FnContentParseBad: laid.
  DERIVED. THE GIVEN ROWS OF THIS SEAT. 12 by the template 'for every input the law returns true; each argument reads behind the call as it read before'; 0 by the template 'total and deterministic' (their statements: YtlemkfpgdlfdnaaDoorTotals.lean).
  GIVEN WITH THE SEED: the statements are not yours to turn. If you find one false, say at which input.
  Laid BY PROGRAM, IN A SANDBOX (cutbox-rows.mjs): the forced cells as the released guide's own fill.sh prints them over the translation 0ad917af380568db… (all of the seat's roots in one cut). By AI agents, Wed Nov 11 2026. No macro, syntax, notation, axiom, sorry.
-/
import Derived.Test.YtlemkfpgdlfdnaaDoorChecked
import GoSem.PinnedTables
import GoSem.Claim
import GoSem.ClaimJoined
import GoSem.ClaimMapViews
import Derived.JoinedTies
import Derived.KernelRfl
namespace Go.Proofs.YtlemkfpgdlfdnaaDoor
/- THE CELL 'sum', in the pinned program and in every row, IS THE sha256 OF THE DUMP (.gsa) THAT YtlemkfpgdlfdnaaDoorProg.lean LOADS. Nothing in Lean hashes anything: it is a label: what it is worth is what the hold of that sum in a sandbox is worth. -/
noncomputable def Tryd.pinned : Pinned := { name := "ytlemkfpgdlfdnaadoor", sum := "0ad917af380568dbf2fda7f7569fc8142005ae32b536d318870d79db6196211b", checked := Tryd.checked }
namespace Rows
def none {H : Type} : Left H := { results := [], args := [] }

/- WHAT THE LISTED PACKAGE-LEVEL VARIABLES READ AS WHEN THE CALL BEGINS. Each datum BY PROGRAM (the guide's laid-datum.mjs) off the statement by which the dump's own 'gosem.cut.vars' lays the variable. In a bare row this is a premise. The card (YtlemkfpgdlfdnaaDoorCards.lean) ties it to the program's text. -/
def laid_math_bits_deBruijn32tab {H : Type} : DataW H := .agg [.lit (.int .u8 0), .lit (.int .u8 1), .lit (.int .u8 28), .lit (.int .u8 2), .lit (.int .u8 29), .lit (.int .u8 14), .lit (.int .u8 24), .lit (.int .u8 3), .lit (.int .u8 30), .lit (.int .u8 22), .lit (.int .u8 20), .lit (.int .u8 15), .lit (.int .u8 25), .lit (.int .u8 17), .lit (.int .u8 4), .lit (.int .u8 8), .lit (.int .u8 31), .lit (.int .u8 27), .lit (.int .u8 13), .lit (.int .u8 23), .lit (.int .u8 21), .lit (.int .u8 19), .lit (.int .u8 16), .lit (.int .u8 7), .lit (.int .u8 26), .lit (.int .u8 12), .lit (.int .u8 18), .lit (.int .u8 6), .lit (.int .u8 11), .lit (.int .u8 5), .lit (.int .u8 10), .lit (.int .u8 9)]
def laid_math_bits_deBruijn64tab {H : Type} : DataW H := .agg [.lit (.int .u8 0), .lit (.int .u8 1), .lit (.int .u8 56), .lit (.int .u8 2), .lit (.int .u8 57), .lit (.int .u8 49), .lit (.int .u8 28), .lit (.int .u8 3), .lit (.int .u8 61), .lit (.int .u8 58), .lit (.int .u8 42), .lit (.int .u8 50), .lit (.int .u8 38), .lit (.int .u8 29), .lit (.int .u8 17), .lit (.int .u8 4), .lit (.int .u8 62), .lit (.int .u8 47), .lit (.int .u8 59), .lit (.int .u8 36), .lit (.int .u8 45), .lit (.int .u8 43), .lit (.int .u8 51), .lit (.int .u8 22), .lit (.int .u8 53), .lit (.int .u8 39), .lit (.int .u8 33), .lit (.int .u8 30), .lit (.int .u8 24), .lit (.int .u8 18), .lit (.int .u8 12), .lit (.int .u8 5), .lit (.int .u8 63), .lit (.int .u8 55), .lit (.int .u8 48), .lit (.int .u8 27), .lit (.int .u8 60), .lit (.int .u8 41), .lit (.int .u8 37), .lit (.int .u8 16), .lit (.int .u8 46), .lit (.int .u8 35), .lit (.int .u8 44), .lit (.int .u8 21), .lit (.int .u8 52), .lit (.int .u8 32), .lit (.int .u8 23), .lit (.int .u8 11), .lit (.int .u8 54), .lit (.int .u8 26), .lit (.int .u8 40), .lit (.int .u8 15), .lit (.int .u8 34), .lit (.int .u8 20), .lit (.int .u8 31), .lit (.int .u8 10), .lit (.int .u8 25), .lit (.int .u8 14), .lit (.int .u8 19), .lit (.int .u8 9), .lit (.int .u8 13), .lit (.int .u8 8), .lit (.int .u8 7), .lit (.int .u8 6)]
def laid_internal_strconv_uint64pow10 {H : Type} : DataW H := .agg [.lit (.int .u64 1), .lit (.int .u64 10), .lit (.int .u64 100), .lit (.int .u64 1000), .lit (.int .u64 10000), .lit (.int .u64 100000), .lit (.int .u64 1000000), .lit (.int .u64 10000000), .lit (.int .u64 100000000), .lit (.int .u64 1000000000), .lit (.int .u64 10000000000), .lit (.int .u64 100000000000), .lit (.int .u64 1000000000000), .lit (.int .u64 10000000000000), .lit (.int .u64 100000000000000), .lit (.int .u64 1000000000000000), .lit (.int .u64 10000000000000000), .lit (.int .u64 100000000000000000), .lit (.int .u64 1000000000000000000), .lit (.int .u64 10000000000000000000)]
def laid_unicode_utf8_acceptRanges {H : Type} : DataW H := .agg [.agg [.lit (.int .u8 128), .lit (.int .u8 191)], .agg [.lit (.int .u8 160), .lit (.int .u8 191)], .agg [.lit (.int .u8 128), .lit (.int .u8 159)], .agg [.lit (.int .u8 144), .lit (.int .u8 191)], .agg [.lit (.int .u8 128), .lit (.int .u8 143)], .agg [.lit (.int .u8 0), .lit (.int .u8 0)], .agg [.lit (.int .u8 0), .lit (.int .u8 0)], .agg [.lit (.int .u8 0), .lit (.int .u8 0)], .agg [.lit (.int .u8 0), .lit (.int .u8 0)], .agg [.lit (.int .u8 0), .lit (.int .u8 0)], .agg [.lit (.int .u8 0), .lit (.int .u8 0)], .agg [.lit (.int .u8 0), .lit (.int .u8 0)], .agg [.lit (.int .u8 0), .lit (.int .u8 0)], .agg [.lit (.int .u8 0), .lit (.int .u8 0)], .agg [.lit (.int .u8 0), .lit (.int .u8 0)], .agg [.lit (.int .u8 0), .lit (.int .u8 0)]]
/-- One of Go's own tables, pinned by name: the form's constant. -/
def laid_unicode_utf8_first : DataW Unit := Go.Pinned.utf8First

/-- 'laws.FnExactContentText': WHATEVER THE INPUT: true; the input reads as it did. -/
def fnExactContentTextSpec : ChangeSpec := { name := "fnExactContentText", fn := fun _ => fun
  | [d] => { results := [.lit (.bool true)], args := [d] }
  | _ => none }
def fnExactContentTextRow : OpenClaim := { program := "ytlemkfpgdlfdnaadoor", sum := "0ad917af380568dbf2fda7f7569fc8142005ae32b536d318870d79db6196211b", func := "loop.example/filereconciler/laws.FnExactContentText", spec := "fnExactContentText", recurses := true, named := ["internal/strconv.uint64pow10", "math/bits.deBruijn32tab", "math/bits.deBruijn64tab"], apart := false, laid := [("math/bits.deBruijn32tab", laid_math_bits_deBruijn32tab), ("math/bits.deBruijn64tab", laid_math_bits_deBruijn64tab), ("internal/strconv.uint64pow10", laid_internal_strconv_uint64pow10)] }
def FnExactContentTextSaid : Prop := fnExactContentTextRow.holds Tryd.pinned (OpenSpec.ofChange fnExactContentTextSpec)

/-- ITS FALSE NEIGHBOUR: 'it returns false'. Refute it at one input. -/
def fnExactContentTextWrong : ChangeSpec := { name := "fnExactContentText", fn := fun _ => fun
  | [d] => { results := [.lit (.bool false)], args := [d] }
  | _ => none }
def FnExactContentTextWrongFalsely : Prop := fnExactContentTextRow.holds Tryd.pinned (OpenSpec.ofChange fnExactContentTextWrong)

/-- 'laws.FnExactPathValid': WHATEVER THE INPUT: true; the input reads as it did. -/
def fnExactPathValidSpec : ChangeSpec := { name := "fnExactPathValid", fn := fun _ => fun
  | [d] => { results := [.lit (.bool true)], args := [d] }
  | _ => none }
def fnExactPathValidRow : OpenClaim := { program := "ytlemkfpgdlfdnaadoor", sum := "0ad917af380568dbf2fda7f7569fc8142005ae32b536d318870d79db6196211b", func := "loop.example/filereconciler/laws.FnExactPathValid", spec := "fnExactPathValid", inPlace := ["internal/bytealg.CountString", "internal/bytealg.IndexByteString", "internal/bytealg.IndexString"], named := ["unicode/utf8.first", "unicode/utf8.acceptRanges", "internal/bytealg.MaxLen"], apart := false, laid := [("unicode/utf8.acceptRanges", laid_unicode_utf8_acceptRanges), ("unicode/utf8.first", laid_unicode_utf8_first)] }
def FnExactPathValidSaid : Prop := fnExactPathValidRow.holds Tryd.pinned (OpenSpec.ofChange fnExactPathValidSpec)

/-- ITS FALSE NEIGHBOUR: 'it returns false'. Refute it at one input. -/
def fnExactPathValidWrong : ChangeSpec := { name := "fnExactPathValid", fn := fun _ => fun
  | [d] => { results := [.lit (.bool false)], args := [d] }
  | _ => none }
def FnExactPathValidWrongFalsely : Prop := fnExactPathValidRow.holds Tryd.pinned (OpenSpec.ofChange fnExactPathValidWrong)

/-- 'laws.FnExactPathDepth': WHATEVER THE INPUT: true; the input reads as it did. -/
def fnExactPathDepthSpec : ChangeSpec := { name := "fnExactPathDepth", fn := fun _ => fun
  | [d] => { results := [.lit (.bool true)], args := [d] }
  | _ => none }
def fnExactPathDepthRow : OpenClaim := { program := "ytlemkfpgdlfdnaadoor", sum := "0ad917af380568dbf2fda7f7569fc8142005ae32b536d318870d79db6196211b", func := "loop.example/filereconciler/laws.FnExactPathDepth", spec := "fnExactPathDepth", inPlace := ["internal/bytealg.CountString", "internal/bytealg.IndexByteString", "internal/bytealg.IndexString"], named := ["unicode/utf8.first", "unicode/utf8.acceptRanges", "internal/bytealg.MaxLen"], apart := false, laid := [("unicode/utf8.acceptRanges", laid_unicode_utf8_acceptRanges), ("unicode/utf8.first", laid_unicode_utf8_first)] }
def FnExactPathDepthSaid : Prop := fnExactPathDepthRow.holds Tryd.pinned (OpenSpec.ofChange fnExactPathDepthSpec)

/-- ITS FALSE NEIGHBOUR: 'it returns false'. Refute it at one input. -/
def fnExactPathDepthWrong : ChangeSpec := { name := "fnExactPathDepth", fn := fun _ => fun
  | [d] => { results := [.lit (.bool false)], args := [d] }
  | _ => none }
def FnExactPathDepthWrongFalsely : Prop := fnExactPathDepthRow.holds Tryd.pinned (OpenSpec.ofChange fnExactPathDepthWrong)

/-- 'laws.FnExactContentParse': WHATEVER THE INPUT: true; the input reads as it did. -/
def fnExactContentParseSpec : ChangeSpec := { name := "fnExactContentParse", fn := fun _ => fun
  | [d] => { results := [.lit (.bool true)], args := [d] }
  | _ => none }
def fnExactContentParseRow : OpenClaim := { program := "ytlemkfpgdlfdnaadoor", sum := "0ad917af380568dbf2fda7f7569fc8142005ae32b536d318870d79db6196211b", func := "loop.example/filereconciler/laws.FnExactContentParse", spec := "fnExactContentParse", recurses := true, named := ["internal/strconv.uint64pow10", "math/bits.deBruijn32tab", "math/bits.deBruijn64tab"], apart := false, laid := [("math/bits.deBruijn32tab", laid_math_bits_deBruijn32tab), ("math/bits.deBruijn64tab", laid_math_bits_deBruijn64tab), ("internal/strconv.uint64pow10", laid_internal_strconv_uint64pow10)] }
def FnExactContentParseSaid : Prop := fnExactContentParseRow.holds Tryd.pinned (OpenSpec.ofChange fnExactContentParseSpec)

/-- ITS FALSE NEIGHBOUR: 'it returns false'. Refute it at one input. -/
def fnExactContentParseWrong : ChangeSpec := { name := "fnExactContentParse", fn := fun _ => fun
  | [d] => { results := [.lit (.bool false)], args := [d] }
  | _ => none }
def FnExactContentParseWrongFalsely : Prop := fnExactContentParseRow.holds Tryd.pinned (OpenSpec.ofChange fnExactContentParseWrong)

/-- 'laws.FnContentTextBad': WHATEVER THE INPUT: true; the input reads as it did. -/
def fnContentTextBadSpec : ChangeSpec := { name := "fnContentTextBad", fn := fun _ => fun
  | [d] => { results := [.lit (.bool true)], args := [d] }
  | _ => none }
def fnContentTextBadRow : OpenClaim := { program := "ytlemkfpgdlfdnaadoor", sum := "0ad917af380568dbf2fda7f7569fc8142005ae32b536d318870d79db6196211b", func := "loop.example/filereconciler/laws.FnContentTextBad", spec := "fnContentTextBad", recurses := true, named := ["internal/strconv.uint64pow10", "math/bits.deBruijn32tab", "math/bits.deBruijn64tab"], apart := false, laid := [("math/bits.deBruijn32tab", laid_math_bits_deBruijn32tab), ("math/bits.deBruijn64tab", laid_math_bits_deBruijn64tab), ("internal/strconv.uint64pow10", laid_internal_strconv_uint64pow10)] }
def FnContentTextBadSaid : Prop := fnContentTextBadRow.holds Tryd.pinned (OpenSpec.ofChange fnContentTextBadSpec)

/-- ITS FALSE NEIGHBOUR: 'it returns false'. Refute it at one input. -/
def fnContentTextBadWrong : ChangeSpec := { name := "fnContentTextBad", fn := fun _ => fun
  | [d] => { results := [.lit (.bool false)], args := [d] }
  | _ => none }
def FnContentTextBadWrongFalsely : Prop := fnContentTextBadRow.holds Tryd.pinned (OpenSpec.ofChange fnContentTextBadWrong)

/-- 'laws.FnExactPathUnder': WHATEVER THE INPUT: true; the input reads as it did. -/
def fnExactPathUnderSpec : ChangeSpec := { name := "fnExactPathUnder", fn := fun _ => fun
  | [d1, d2] => { results := [.lit (.bool true)], args := [d1, d2] }
  | _ => none }
def fnExactPathUnderRow : OpenClaim := { program := "ytlemkfpgdlfdnaadoor", sum := "0ad917af380568dbf2fda7f7569fc8142005ae32b536d318870d79db6196211b", func := "loop.example/filereconciler/laws.FnExactPathUnder", spec := "fnExactPathUnder", inPlace := ["internal/bytealg.CountString", "internal/bytealg.IndexByteString", "internal/bytealg.IndexString"], named := ["unicode/utf8.first", "unicode/utf8.acceptRanges", "internal/bytealg.MaxLen"], apart := false, laid := [("unicode/utf8.acceptRanges", laid_unicode_utf8_acceptRanges), ("unicode/utf8.first", laid_unicode_utf8_first)] }
def FnExactPathUnderSaid : Prop := fnExactPathUnderRow.holds Tryd.pinned (OpenSpec.ofChange fnExactPathUnderSpec)

/-- ITS FALSE NEIGHBOUR: 'it returns false'. Refute it at one input. -/
def fnExactPathUnderWrong : ChangeSpec := { name := "fnExactPathUnder", fn := fun _ => fun
  | [d1, d2] => { results := [.lit (.bool false)], args := [d1, d2] }
  | _ => none }
def FnExactPathUnderWrongFalsely : Prop := fnExactPathUnderRow.holds Tryd.pinned (OpenSpec.ofChange fnExactPathUnderWrong)

/-- 'laws.FnContentText': WHATEVER THE INPUT: true; the input reads as it did. -/
def fnContentTextSpec : ChangeSpec := { name := "fnContentText", fn := fun _ => fun
  | [d] => { results := [.lit (.bool true)], args := [d] }
  | _ => none }
def fnContentTextRow : OpenClaim := { program := "ytlemkfpgdlfdnaadoor", sum := "0ad917af380568dbf2fda7f7569fc8142005ae32b536d318870d79db6196211b", func := "loop.example/filereconciler/laws.FnContentText", spec := "fnContentText", recurses := true, named := ["internal/strconv.uint64pow10", "math/bits.deBruijn32tab", "math/bits.deBruijn64tab"], apart := false, laid := [("math/bits.deBruijn32tab", laid_math_bits_deBruijn32tab), ("math/bits.deBruijn64tab", laid_math_bits_deBruijn64tab), ("internal/strconv.uint64pow10", laid_internal_strconv_uint64pow10)] }
def FnContentTextSaid : Prop := fnContentTextRow.holds Tryd.pinned (OpenSpec.ofChange fnContentTextSpec)

/-- ITS FALSE NEIGHBOUR: 'it returns false'. Refute it at one input. -/
def fnContentTextWrong : ChangeSpec := { name := "fnContentText", fn := fun _ => fun
  | [d] => { results := [.lit (.bool false)], args := [d] }
  | _ => none }
def FnContentTextWrongFalsely : Prop := fnContentTextRow.holds Tryd.pinned (OpenSpec.ofChange fnContentTextWrong)

/-- 'laws.FnExactPathParent': WHATEVER THE INPUT: true; the input reads as it did. -/
def fnExactPathParentSpec : ChangeSpec := { name := "fnExactPathParent", fn := fun _ => fun
  | [d] => { results := [.lit (.bool true)], args := [d] }
  | _ => none }
def fnExactPathParentRow : OpenClaim := { program := "ytlemkfpgdlfdnaadoor", sum := "0ad917af380568dbf2fda7f7569fc8142005ae32b536d318870d79db6196211b", func := "loop.example/filereconciler/laws.FnExactPathParent", spec := "fnExactPathParent", inPlace := ["internal/bytealg.CountString", "internal/bytealg.IndexByteString", "internal/bytealg.IndexString"], named := ["unicode/utf8.first", "unicode/utf8.acceptRanges", "internal/bytealg.MaxLen"], apart := false, laid := [("unicode/utf8.acceptRanges", laid_unicode_utf8_acceptRanges), ("unicode/utf8.first", laid_unicode_utf8_first)] }
def FnExactPathParentSaid : Prop := fnExactPathParentRow.holds Tryd.pinned (OpenSpec.ofChange fnExactPathParentSpec)

/-- ITS FALSE NEIGHBOUR: 'it returns false'. Refute it at one input. -/
def fnExactPathParentWrong : ChangeSpec := { name := "fnExactPathParent", fn := fun _ => fun
  | [d] => { results := [.lit (.bool false)], args := [d] }
  | _ => none }
def FnExactPathParentWrongFalsely : Prop := fnExactPathParentRow.holds Tryd.pinned (OpenSpec.ofChange fnExactPathParentWrong)

/-- 'laws.FnPathDepth': WHATEVER THE INPUT: true; the input reads as it did. -/
def fnPathDepthSpec : ChangeSpec := { name := "fnPathDepth", fn := fun _ => fun
  | [d] => { results := [.lit (.bool true)], args := [d] }
  | _ => none }
def fnPathDepthRow : OpenClaim := { program := "ytlemkfpgdlfdnaadoor", sum := "0ad917af380568dbf2fda7f7569fc8142005ae32b536d318870d79db6196211b", func := "loop.example/filereconciler/laws.FnPathDepth", spec := "fnPathDepth", inPlace := ["internal/bytealg.CountString", "internal/bytealg.IndexByteString", "internal/bytealg.IndexString"], named := ["unicode/utf8.first", "unicode/utf8.acceptRanges", "internal/bytealg.MaxLen"], apart := false, laid := [("unicode/utf8.acceptRanges", laid_unicode_utf8_acceptRanges), ("unicode/utf8.first", laid_unicode_utf8_first)] }
def FnPathDepthSaid : Prop := fnPathDepthRow.holds Tryd.pinned (OpenSpec.ofChange fnPathDepthSpec)

/-- ITS FALSE NEIGHBOUR: 'it returns false'. Refute it at one input. -/
def fnPathDepthWrong : ChangeSpec := { name := "fnPathDepth", fn := fun _ => fun
  | [d] => { results := [.lit (.bool false)], args := [d] }
  | _ => none }
def FnPathDepthWrongFalsely : Prop := fnPathDepthRow.holds Tryd.pinned (OpenSpec.ofChange fnPathDepthWrong)

/-- 'laws.FnPathDepthBad': WHATEVER THE INPUT: true; the input reads as it did. -/
def fnPathDepthBadSpec : ChangeSpec := { name := "fnPathDepthBad", fn := fun _ => fun
  | [d] => { results := [.lit (.bool true)], args := [d] }
  | _ => none }
def fnPathDepthBadRow : OpenClaim := { program := "ytlemkfpgdlfdnaadoor", sum := "0ad917af380568dbf2fda7f7569fc8142005ae32b536d318870d79db6196211b", func := "loop.example/filereconciler/laws.FnPathDepthBad", spec := "fnPathDepthBad", inPlace := ["internal/bytealg.CountString", "internal/bytealg.IndexByteString", "internal/bytealg.IndexString"], named := ["unicode/utf8.first", "unicode/utf8.acceptRanges", "internal/bytealg.MaxLen"], apart := false, laid := [("unicode/utf8.acceptRanges", laid_unicode_utf8_acceptRanges), ("unicode/utf8.first", laid_unicode_utf8_first)] }
def FnPathDepthBadSaid : Prop := fnPathDepthBadRow.holds Tryd.pinned (OpenSpec.ofChange fnPathDepthBadSpec)

/-- ITS FALSE NEIGHBOUR: 'it returns false'. Refute it at one input. -/
def fnPathDepthBadWrong : ChangeSpec := { name := "fnPathDepthBad", fn := fun _ => fun
  | [d] => { results := [.lit (.bool false)], args := [d] }
  | _ => none }
def FnPathDepthBadWrongFalsely : Prop := fnPathDepthBadRow.holds Tryd.pinned (OpenSpec.ofChange fnPathDepthBadWrong)

/-- 'laws.FnContentParse': WHATEVER THE INPUT: true; the input reads as it did. -/
def fnContentParseSpec : ChangeSpec := { name := "fnContentParse", fn := fun _ => fun
  | [d] => { results := [.lit (.bool true)], args := [d] }
  | _ => none }
def fnContentParseRow : OpenClaim := { program := "ytlemkfpgdlfdnaadoor", sum := "0ad917af380568dbf2fda7f7569fc8142005ae32b536d318870d79db6196211b", func := "loop.example/filereconciler/laws.FnContentParse", spec := "fnContentParse", recurses := true, named := ["internal/strconv.uint64pow10", "math/bits.deBruijn32tab", "math/bits.deBruijn64tab"], apart := false, laid := [("math/bits.deBruijn32tab", laid_math_bits_deBruijn32tab), ("math/bits.deBruijn64tab", laid_math_bits_deBruijn64tab), ("internal/strconv.uint64pow10", laid_internal_strconv_uint64pow10)] }
def FnContentParseSaid : Prop := fnContentParseRow.holds Tryd.pinned (OpenSpec.ofChange fnContentParseSpec)

/-- ITS FALSE NEIGHBOUR: 'it returns false'. Refute it at one input. -/
def fnContentParseWrong : ChangeSpec := { name := "fnContentParse", fn := fun _ => fun
  | [d] => { results := [.lit (.bool false)], args := [d] }
  | _ => none }
def FnContentParseWrongFalsely : Prop := fnContentParseRow.holds Tryd.pinned (OpenSpec.ofChange fnContentParseWrong)

/-- 'laws.FnContentParseBad': WHATEVER THE INPUT: true; the input reads as it did. -/
def fnContentParseBadSpec : ChangeSpec := { name := "fnContentParseBad", fn := fun _ => fun
  | [d] => { results := [.lit (.bool true)], args := [d] }
  | _ => none }
def fnContentParseBadRow : OpenClaim := { program := "ytlemkfpgdlfdnaadoor", sum := "0ad917af380568dbf2fda7f7569fc8142005ae32b536d318870d79db6196211b", func := "loop.example/filereconciler/laws.FnContentParseBad", spec := "fnContentParseBad", recurses := true, named := ["internal/strconv.uint64pow10", "math/bits.deBruijn32tab", "math/bits.deBruijn64tab"], apart := false, laid := [("math/bits.deBruijn32tab", laid_math_bits_deBruijn32tab), ("math/bits.deBruijn64tab", laid_math_bits_deBruijn64tab), ("internal/strconv.uint64pow10", laid_internal_strconv_uint64pow10)] }
def FnContentParseBadSaid : Prop := fnContentParseBadRow.holds Tryd.pinned (OpenSpec.ofChange fnContentParseBadSpec)

/-- ITS FALSE NEIGHBOUR: 'it returns false'. Refute it at one input. -/
def fnContentParseBadWrong : ChangeSpec := { name := "fnContentParseBad", fn := fun _ => fun
  | [d] => { results := [.lit (.bool false)], args := [d] }
  | _ => none }
def FnContentParseBadWrongFalsely : Prop := fnContentParseBadRow.holds Tryd.pinned (OpenSpec.ofChange fnContentParseBadWrong)

/- THE SECOND FORM. 'bulk': how many values and letters a reading holds, each counted each time it is reached (what is shared counts as often as it is met; a slice's spare places count too). A statement '..UptoSaid' is the law's where the arguments, and the package variables that the reading takes, are together of bulk at most 1048576: NARROWER than '..Said'. Prove '..Said' where nothing that the law and all that it calls make is longer than what came in: it says more and counts as full. Else prove '..UptoSaid'. A law counts once. -/
mutual
def uptoBulk {H : Type} : DataW H → Nat
  | .lit (.string bytes) => bytes.length + 1
  | .lit _ => 1
  | .nil => 1
  | .ptr d => uptoBulk d + 1
  | .slice elems spare => uptoBulkAll elems + uptoBulkAll spare + 1
  | .agg parts => uptoBulkAll parts + 1
  | .iface _ d => uptoBulk d + 1
  | .map entries => uptoBulkEntries entries + 1
  | .held _ => 1
def uptoBulkAll {H : Type} : List (DataW H) → Nat
  | [] => 0
  | d :: r => uptoBulk d + uptoBulkAll r
def uptoBulkEntries {H : Type} : List (Lit × DataW H) → Nat
  | [] => 0
  | x :: r => uptoBulkEntry x + uptoBulkEntries r
def uptoBulkEntry {H : Type} : Lit × DataW H → Nat
  | (.string bytes, d) => bytes.length + uptoBulk d + 1
  | (_, d) => uptoBulk d + 1
 end
def uptoSmall : (H : Type) → List (DataW H) → Bool := fun _ ds => decide (uptoBulkAll ds ≤ 1048576)
def OpenSpec.upto (s : _root_.Go.ChangeSpec) : _root_.Go.OpenSpec := { _root_.Go.OpenSpec.ofChange s with cond := some uptoSmall }

/-- 'laws.FnExactContentText', WHERE WHAT IT READS IS OF BULK AT MOST 1048576: true; the input reads as it did. -/
def fnExactContentTextUptoRow : OpenClaim := { program := "ytlemkfpgdlfdnaadoor", sum := "0ad917af380568dbf2fda7f7569fc8142005ae32b536d318870d79db6196211b", func := "loop.example/filereconciler/laws.FnExactContentText", spec := "fnExactContentText", recurses := true, named := ["internal/strconv.uint64pow10", "math/bits.deBruijn32tab", "math/bits.deBruijn64tab"], apart := false, laid := [("math/bits.deBruijn32tab", laid_math_bits_deBruijn32tab), ("math/bits.deBruijn64tab", laid_math_bits_deBruijn64tab), ("internal/strconv.uint64pow10", laid_internal_strconv_uint64pow10)], narrowed := true }
def FnExactContentTextUptoSaid : Prop := fnExactContentTextUptoRow.holds Tryd.pinned (OpenSpec.upto fnExactContentTextSpec)

/-- 'laws.FnExactPathValid', WHERE WHAT IT READS IS OF BULK AT MOST 1048576: true; the input reads as it did. -/
def fnExactPathValidUptoRow : OpenClaim := { program := "ytlemkfpgdlfdnaadoor", sum := "0ad917af380568dbf2fda7f7569fc8142005ae32b536d318870d79db6196211b", func := "loop.example/filereconciler/laws.FnExactPathValid", spec := "fnExactPathValid", inPlace := ["internal/bytealg.CountString", "internal/bytealg.IndexByteString", "internal/bytealg.IndexString"], named := ["unicode/utf8.first", "unicode/utf8.acceptRanges", "internal/bytealg.MaxLen"], apart := false, laid := [("unicode/utf8.acceptRanges", laid_unicode_utf8_acceptRanges), ("unicode/utf8.first", laid_unicode_utf8_first)], narrowed := true }
def FnExactPathValidUptoSaid : Prop := fnExactPathValidUptoRow.holds Tryd.pinned (OpenSpec.upto fnExactPathValidSpec)

/-- 'laws.FnExactPathDepth', WHERE WHAT IT READS IS OF BULK AT MOST 1048576: true; the input reads as it did. -/
def fnExactPathDepthUptoRow : OpenClaim := { program := "ytlemkfpgdlfdnaadoor", sum := "0ad917af380568dbf2fda7f7569fc8142005ae32b536d318870d79db6196211b", func := "loop.example/filereconciler/laws.FnExactPathDepth", spec := "fnExactPathDepth", inPlace := ["internal/bytealg.CountString", "internal/bytealg.IndexByteString", "internal/bytealg.IndexString"], named := ["unicode/utf8.first", "unicode/utf8.acceptRanges", "internal/bytealg.MaxLen"], apart := false, laid := [("unicode/utf8.acceptRanges", laid_unicode_utf8_acceptRanges), ("unicode/utf8.first", laid_unicode_utf8_first)], narrowed := true }
def FnExactPathDepthUptoSaid : Prop := fnExactPathDepthUptoRow.holds Tryd.pinned (OpenSpec.upto fnExactPathDepthSpec)

/-- 'laws.FnExactContentParse', WHERE WHAT IT READS IS OF BULK AT MOST 1048576: true; the input reads as it did. -/
def fnExactContentParseUptoRow : OpenClaim := { program := "ytlemkfpgdlfdnaadoor", sum := "0ad917af380568dbf2fda7f7569fc8142005ae32b536d318870d79db6196211b", func := "loop.example/filereconciler/laws.FnExactContentParse", spec := "fnExactContentParse", recurses := true, named := ["internal/strconv.uint64pow10", "math/bits.deBruijn32tab", "math/bits.deBruijn64tab"], apart := false, laid := [("math/bits.deBruijn32tab", laid_math_bits_deBruijn32tab), ("math/bits.deBruijn64tab", laid_math_bits_deBruijn64tab), ("internal/strconv.uint64pow10", laid_internal_strconv_uint64pow10)], narrowed := true }
def FnExactContentParseUptoSaid : Prop := fnExactContentParseUptoRow.holds Tryd.pinned (OpenSpec.upto fnExactContentParseSpec)

/-- 'laws.FnContentTextBad', WHERE WHAT IT READS IS OF BULK AT MOST 1048576: true; the input reads as it did. -/
def fnContentTextBadUptoRow : OpenClaim := { program := "ytlemkfpgdlfdnaadoor", sum := "0ad917af380568dbf2fda7f7569fc8142005ae32b536d318870d79db6196211b", func := "loop.example/filereconciler/laws.FnContentTextBad", spec := "fnContentTextBad", recurses := true, named := ["internal/strconv.uint64pow10", "math/bits.deBruijn32tab", "math/bits.deBruijn64tab"], apart := false, laid := [("math/bits.deBruijn32tab", laid_math_bits_deBruijn32tab), ("math/bits.deBruijn64tab", laid_math_bits_deBruijn64tab), ("internal/strconv.uint64pow10", laid_internal_strconv_uint64pow10)], narrowed := true }
def FnContentTextBadUptoSaid : Prop := fnContentTextBadUptoRow.holds Tryd.pinned (OpenSpec.upto fnContentTextBadSpec)

/-- 'laws.FnExactPathUnder', WHERE WHAT IT READS IS OF BULK AT MOST 1048576: true; the input reads as it did. -/
def fnExactPathUnderUptoRow : OpenClaim := { program := "ytlemkfpgdlfdnaadoor", sum := "0ad917af380568dbf2fda7f7569fc8142005ae32b536d318870d79db6196211b", func := "loop.example/filereconciler/laws.FnExactPathUnder", spec := "fnExactPathUnder", inPlace := ["internal/bytealg.CountString", "internal/bytealg.IndexByteString", "internal/bytealg.IndexString"], named := ["unicode/utf8.first", "unicode/utf8.acceptRanges", "internal/bytealg.MaxLen"], apart := false, laid := [("unicode/utf8.acceptRanges", laid_unicode_utf8_acceptRanges), ("unicode/utf8.first", laid_unicode_utf8_first)], narrowed := true }
def FnExactPathUnderUptoSaid : Prop := fnExactPathUnderUptoRow.holds Tryd.pinned (OpenSpec.upto fnExactPathUnderSpec)

/-- 'laws.FnContentText', WHERE WHAT IT READS IS OF BULK AT MOST 1048576: true; the input reads as it did. -/
def fnContentTextUptoRow : OpenClaim := { program := "ytlemkfpgdlfdnaadoor", sum := "0ad917af380568dbf2fda7f7569fc8142005ae32b536d318870d79db6196211b", func := "loop.example/filereconciler/laws.FnContentText", spec := "fnContentText", recurses := true, named := ["internal/strconv.uint64pow10", "math/bits.deBruijn32tab", "math/bits.deBruijn64tab"], apart := false, laid := [("math/bits.deBruijn32tab", laid_math_bits_deBruijn32tab), ("math/bits.deBruijn64tab", laid_math_bits_deBruijn64tab), ("internal/strconv.uint64pow10", laid_internal_strconv_uint64pow10)], narrowed := true }
def FnContentTextUptoSaid : Prop := fnContentTextUptoRow.holds Tryd.pinned (OpenSpec.upto fnContentTextSpec)

/-- 'laws.FnExactPathParent', WHERE WHAT IT READS IS OF BULK AT MOST 1048576: true; the input reads as it did. -/
def fnExactPathParentUptoRow : OpenClaim := { program := "ytlemkfpgdlfdnaadoor", sum := "0ad917af380568dbf2fda7f7569fc8142005ae32b536d318870d79db6196211b", func := "loop.example/filereconciler/laws.FnExactPathParent", spec := "fnExactPathParent", inPlace := ["internal/bytealg.CountString", "internal/bytealg.IndexByteString", "internal/bytealg.IndexString"], named := ["unicode/utf8.first", "unicode/utf8.acceptRanges", "internal/bytealg.MaxLen"], apart := false, laid := [("unicode/utf8.acceptRanges", laid_unicode_utf8_acceptRanges), ("unicode/utf8.first", laid_unicode_utf8_first)], narrowed := true }
def FnExactPathParentUptoSaid : Prop := fnExactPathParentUptoRow.holds Tryd.pinned (OpenSpec.upto fnExactPathParentSpec)

/-- 'laws.FnPathDepth', WHERE WHAT IT READS IS OF BULK AT MOST 1048576: true; the input reads as it did. -/
def fnPathDepthUptoRow : OpenClaim := { program := "ytlemkfpgdlfdnaadoor", sum := "0ad917af380568dbf2fda7f7569fc8142005ae32b536d318870d79db6196211b", func := "loop.example/filereconciler/laws.FnPathDepth", spec := "fnPathDepth", inPlace := ["internal/bytealg.CountString", "internal/bytealg.IndexByteString", "internal/bytealg.IndexString"], named := ["unicode/utf8.first", "unicode/utf8.acceptRanges", "internal/bytealg.MaxLen"], apart := false, laid := [("unicode/utf8.acceptRanges", laid_unicode_utf8_acceptRanges), ("unicode/utf8.first", laid_unicode_utf8_first)], narrowed := true }
def FnPathDepthUptoSaid : Prop := fnPathDepthUptoRow.holds Tryd.pinned (OpenSpec.upto fnPathDepthSpec)

/-- 'laws.FnPathDepthBad', WHERE WHAT IT READS IS OF BULK AT MOST 1048576: true; the input reads as it did. -/
def fnPathDepthBadUptoRow : OpenClaim := { program := "ytlemkfpgdlfdnaadoor", sum := "0ad917af380568dbf2fda7f7569fc8142005ae32b536d318870d79db6196211b", func := "loop.example/filereconciler/laws.FnPathDepthBad", spec := "fnPathDepthBad", inPlace := ["internal/bytealg.CountString", "internal/bytealg.IndexByteString", "internal/bytealg.IndexString"], named := ["unicode/utf8.first", "unicode/utf8.acceptRanges", "internal/bytealg.MaxLen"], apart := false, laid := [("unicode/utf8.acceptRanges", laid_unicode_utf8_acceptRanges), ("unicode/utf8.first", laid_unicode_utf8_first)], narrowed := true }
def FnPathDepthBadUptoSaid : Prop := fnPathDepthBadUptoRow.holds Tryd.pinned (OpenSpec.upto fnPathDepthBadSpec)

/-- 'laws.FnContentParse', WHERE WHAT IT READS IS OF BULK AT MOST 1048576: true; the input reads as it did. -/
def fnContentParseUptoRow : OpenClaim := { program := "ytlemkfpgdlfdnaadoor", sum := "0ad917af380568dbf2fda7f7569fc8142005ae32b536d318870d79db6196211b", func := "loop.example/filereconciler/laws.FnContentParse", spec := "fnContentParse", recurses := true, named := ["internal/strconv.uint64pow10", "math/bits.deBruijn32tab", "math/bits.deBruijn64tab"], apart := false, laid := [("math/bits.deBruijn32tab", laid_math_bits_deBruijn32tab), ("math/bits.deBruijn64tab", laid_math_bits_deBruijn64tab), ("internal/strconv.uint64pow10", laid_internal_strconv_uint64pow10)], narrowed := true }
def FnContentParseUptoSaid : Prop := fnContentParseUptoRow.holds Tryd.pinned (OpenSpec.upto fnContentParseSpec)

/-- 'laws.FnContentParseBad', WHERE WHAT IT READS IS OF BULK AT MOST 1048576: true; the input reads as it did. -/
def fnContentParseBadUptoRow : OpenClaim := { program := "ytlemkfpgdlfdnaadoor", sum := "0ad917af380568dbf2fda7f7569fc8142005ae32b536d318870d79db6196211b", func := "loop.example/filereconciler/laws.FnContentParseBad", spec := "fnContentParseBad", recurses := true, named := ["internal/strconv.uint64pow10", "math/bits.deBruijn32tab", "math/bits.deBruijn64tab"], apart := false, laid := [("math/bits.deBruijn32tab", laid_math_bits_deBruijn32tab), ("math/bits.deBruijn64tab", laid_math_bits_deBruijn64tab), ("internal/strconv.uint64pow10", laid_internal_strconv_uint64pow10)], narrowed := true }
def FnContentParseBadUptoSaid : Prop := fnContentParseBadUptoRow.holds Tryd.pinned (OpenSpec.upto fnContentParseBadSpec)

end Rows
end Go.Proofs.YtlemkfpgdlfdnaaDoor
