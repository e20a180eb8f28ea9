/-
  NARROWER THAN 'FOR EVERY INPUT', by the rows' own cells (each row's printed sentence says how): FnPathUnderRoot: laid · FnPathUnder: laid · FnPathParent: laid · FnExactPathNormal: laid · FnPathNormalSame: laid · FnPathNormal: laid · FnPathNormalDots: laid · FnExactCommandValid: laid · FnExactCommandUndo: laid · FnCommandSame: laid · FnExactCommandText: laid · FnExactCommandParse: laid.
  DERIVED. THE GIVEN ROWS OF THIS SEAT. 12 by the template 'for every input the law returns true; each argument reads behind the call as it read before'; 0 by the template 'total and deterministic' (their statements: YtokapkpebadcaaaDoorTotals.lean).
  GIVEN WITH THE SEED: the statements are not yours to turn. If you find one false, say at which input.
  Laid BY PROGRAM, IN A SANDBOX (cutbox-rows.mjs): the forced cells as the released guide's own fill.sh prints them over the translation 0b8a7e0bf66f6b2c… (all of the seat's roots in one cut). By AI agents, Wed Nov 11 2026. No macro, syntax, notation, axiom, sorry.
-/
import Derived.Test.YtokapkpebadcaaaDoorChecked
import GoSem.PinnedTables
import GoSem.Claim
import GoSem.ClaimJoined
import GoSem.ClaimMapViews
import Derived.JoinedTies
import Derived.KernelRfl
namespace Go.Proofs.YtokapkpebadcaaaDoor
/- THE CELL 'sum', in the pinned program and in every row, IS THE sha256 OF THE DUMP (.gsa) THAT YtokapkpebadcaaaDoorProg.lean LOADS. Nothing in Lean hashes anything: it is a label: what it is worth is what the hold of that sum in a sandbox is worth. -/
noncomputable def Tryd.pinned : Pinned := { name := "ytokapkpebadcaaadoor", sum := "0b8a7e0bf66f6b2cf46c406fd17d1ac0c5e46821e1d03f3ed30b5f48962921cf", checked := Tryd.checked }
namespace Rows
def none {H : Type} : Left H := { results := [], args := [] }

/- WHAT THE LISTED PACKAGE-LEVEL VARIABLES READ AS WHEN THE CALL BEGINS. Each datum BY PROGRAM (the guide's laid-datum.mjs) off the statement by which the dump's own 'gosem.cut.vars' lays the variable. In a bare row this is a premise. The card (YtokapkpebadcaaaDoorCards.lean) ties it to the program's text. -/
def laid_unicode_utf8_acceptRanges {H : Type} : DataW H := .agg [.agg [.lit (.int .u8 128), .lit (.int .u8 191)], .agg [.lit (.int .u8 160), .lit (.int .u8 191)], .agg [.lit (.int .u8 128), .lit (.int .u8 159)], .agg [.lit (.int .u8 144), .lit (.int .u8 191)], .agg [.lit (.int .u8 128), .lit (.int .u8 143)], .agg [.lit (.int .u8 0), .lit (.int .u8 0)], .agg [.lit (.int .u8 0), .lit (.int .u8 0)], .agg [.lit (.int .u8 0), .lit (.int .u8 0)], .agg [.lit (.int .u8 0), .lit (.int .u8 0)], .agg [.lit (.int .u8 0), .lit (.int .u8 0)], .agg [.lit (.int .u8 0), .lit (.int .u8 0)], .agg [.lit (.int .u8 0), .lit (.int .u8 0)], .agg [.lit (.int .u8 0), .lit (.int .u8 0)], .agg [.lit (.int .u8 0), .lit (.int .u8 0)], .agg [.lit (.int .u8 0), .lit (.int .u8 0)], .agg [.lit (.int .u8 0), .lit (.int .u8 0)]]
/-- One of Go's own tables, pinned by name: the form's constant. -/
def laid_unicode_utf8_first : DataW Unit := Go.Pinned.utf8First
def laid_math_bits_deBruijn32tab {H : Type} : DataW H := .agg [.lit (.int .u8 0), .lit (.int .u8 1), .lit (.int .u8 28), .lit (.int .u8 2), .lit (.int .u8 29), .lit (.int .u8 14), .lit (.int .u8 24), .lit (.int .u8 3), .lit (.int .u8 30), .lit (.int .u8 22), .lit (.int .u8 20), .lit (.int .u8 15), .lit (.int .u8 25), .lit (.int .u8 17), .lit (.int .u8 4), .lit (.int .u8 8), .lit (.int .u8 31), .lit (.int .u8 27), .lit (.int .u8 13), .lit (.int .u8 23), .lit (.int .u8 21), .lit (.int .u8 19), .lit (.int .u8 16), .lit (.int .u8 7), .lit (.int .u8 26), .lit (.int .u8 12), .lit (.int .u8 18), .lit (.int .u8 6), .lit (.int .u8 11), .lit (.int .u8 5), .lit (.int .u8 10), .lit (.int .u8 9)]
def laid_math_bits_deBruijn64tab {H : Type} : DataW H := .agg [.lit (.int .u8 0), .lit (.int .u8 1), .lit (.int .u8 56), .lit (.int .u8 2), .lit (.int .u8 57), .lit (.int .u8 49), .lit (.int .u8 28), .lit (.int .u8 3), .lit (.int .u8 61), .lit (.int .u8 58), .lit (.int .u8 42), .lit (.int .u8 50), .lit (.int .u8 38), .lit (.int .u8 29), .lit (.int .u8 17), .lit (.int .u8 4), .lit (.int .u8 62), .lit (.int .u8 47), .lit (.int .u8 59), .lit (.int .u8 36), .lit (.int .u8 45), .lit (.int .u8 43), .lit (.int .u8 51), .lit (.int .u8 22), .lit (.int .u8 53), .lit (.int .u8 39), .lit (.int .u8 33), .lit (.int .u8 30), .lit (.int .u8 24), .lit (.int .u8 18), .lit (.int .u8 12), .lit (.int .u8 5), .lit (.int .u8 63), .lit (.int .u8 55), .lit (.int .u8 48), .lit (.int .u8 27), .lit (.int .u8 60), .lit (.int .u8 41), .lit (.int .u8 37), .lit (.int .u8 16), .lit (.int .u8 46), .lit (.int .u8 35), .lit (.int .u8 44), .lit (.int .u8 21), .lit (.int .u8 52), .lit (.int .u8 32), .lit (.int .u8 23), .lit (.int .u8 11), .lit (.int .u8 54), .lit (.int .u8 26), .lit (.int .u8 40), .lit (.int .u8 15), .lit (.int .u8 34), .lit (.int .u8 20), .lit (.int .u8 31), .lit (.int .u8 10), .lit (.int .u8 25), .lit (.int .u8 14), .lit (.int .u8 19), .lit (.int .u8 9), .lit (.int .u8 13), .lit (.int .u8 8), .lit (.int .u8 7), .lit (.int .u8 6)]
def laid_internal_strconv_uint64pow10 {H : Type} : DataW H := .agg [.lit (.int .u64 1), .lit (.int .u64 10), .lit (.int .u64 100), .lit (.int .u64 1000), .lit (.int .u64 10000), .lit (.int .u64 100000), .lit (.int .u64 1000000), .lit (.int .u64 10000000), .lit (.int .u64 100000000), .lit (.int .u64 1000000000), .lit (.int .u64 10000000000), .lit (.int .u64 100000000000), .lit (.int .u64 1000000000000), .lit (.int .u64 10000000000000), .lit (.int .u64 100000000000000), .lit (.int .u64 1000000000000000), .lit (.int .u64 10000000000000000), .lit (.int .u64 100000000000000000), .lit (.int .u64 1000000000000000000), .lit (.int .u64 10000000000000000000)]

/-- 'laws.FnPathUnderRoot': WHATEVER THE INPUT: true; the input reads as it did. -/
def fnPathUnderRootSpec : ChangeSpec := { name := "fnPathUnderRoot", fn := fun _ => fun
  | [d] => { results := [.lit (.bool true)], args := [d] }
  | _ => none }
def fnPathUnderRootRow : OpenClaim := { program := "ytokapkpebadcaaadoor", sum := "0b8a7e0bf66f6b2cf46c406fd17d1ac0c5e46821e1d03f3ed30b5f48962921cf", func := "loop.example/filereconciler/laws.FnPathUnderRoot", spec := "fnPathUnderRoot", inPlace := ["internal/bytealg.CountString", "internal/bytealg.IndexByteString", "internal/bytealg.IndexString"], named := ["unicode/utf8.first", "unicode/utf8.acceptRanges", "internal/bytealg.MaxLen"], apart := false, laid := [("unicode/utf8.acceptRanges", laid_unicode_utf8_acceptRanges), ("unicode/utf8.first", laid_unicode_utf8_first)] }
def FnPathUnderRootSaid : Prop := fnPathUnderRootRow.holds Tryd.pinned (OpenSpec.ofChange fnPathUnderRootSpec)

/-- ITS FALSE NEIGHBOUR: 'it returns false'. Refute it at one input. -/
def fnPathUnderRootWrong : ChangeSpec := { name := "fnPathUnderRoot", fn := fun _ => fun
  | [d] => { results := [.lit (.bool false)], args := [d] }
  | _ => none }
def FnPathUnderRootWrongFalsely : Prop := fnPathUnderRootRow.holds Tryd.pinned (OpenSpec.ofChange fnPathUnderRootWrong)

/-- 'laws.FnPathUnder': WHATEVER THE INPUT: true; the input reads as it did. -/
def fnPathUnderSpec : ChangeSpec := { name := "fnPathUnder", fn := fun _ => fun
  | [d] => { results := [.lit (.bool true)], args := [d] }
  | _ => none }
def fnPathUnderRow : OpenClaim := { program := "ytokapkpebadcaaadoor", sum := "0b8a7e0bf66f6b2cf46c406fd17d1ac0c5e46821e1d03f3ed30b5f48962921cf", func := "loop.example/filereconciler/laws.FnPathUnder", spec := "fnPathUnder", inPlace := ["internal/bytealg.CountString", "internal/bytealg.IndexByteString", "internal/bytealg.IndexString"], named := ["unicode/utf8.first", "unicode/utf8.acceptRanges", "internal/bytealg.MaxLen"], apart := false, laid := [("unicode/utf8.acceptRanges", laid_unicode_utf8_acceptRanges), ("unicode/utf8.first", laid_unicode_utf8_first)] }
def FnPathUnderSaid : Prop := fnPathUnderRow.holds Tryd.pinned (OpenSpec.ofChange fnPathUnderSpec)

/-- ITS FALSE NEIGHBOUR: 'it returns false'. Refute it at one input. -/
def fnPathUnderWrong : ChangeSpec := { name := "fnPathUnder", fn := fun _ => fun
  | [d] => { results := [.lit (.bool false)], args := [d] }
  | _ => none }
def FnPathUnderWrongFalsely : Prop := fnPathUnderRow.holds Tryd.pinned (OpenSpec.ofChange fnPathUnderWrong)

/-- 'laws.FnPathParent': WHATEVER THE INPUT: true; the input reads as it did. -/
def fnPathParentSpec : ChangeSpec := { name := "fnPathParent", fn := fun _ => fun
  | [d] => { results := [.lit (.bool true)], args := [d] }
  | _ => none }
def fnPathParentRow : OpenClaim := { program := "ytokapkpebadcaaadoor", sum := "0b8a7e0bf66f6b2cf46c406fd17d1ac0c5e46821e1d03f3ed30b5f48962921cf", func := "loop.example/filereconciler/laws.FnPathParent", spec := "fnPathParent", inPlace := ["internal/bytealg.CountString", "internal/bytealg.IndexByteString", "internal/bytealg.IndexString"], named := ["unicode/utf8.first", "unicode/utf8.acceptRanges", "internal/bytealg.MaxLen"], apart := false, laid := [("unicode/utf8.acceptRanges", laid_unicode_utf8_acceptRanges), ("unicode/utf8.first", laid_unicode_utf8_first)] }
def FnPathParentSaid : Prop := fnPathParentRow.holds Tryd.pinned (OpenSpec.ofChange fnPathParentSpec)

/-- ITS FALSE NEIGHBOUR: 'it returns false'. Refute it at one input. -/
def fnPathParentWrong : ChangeSpec := { name := "fnPathParent", fn := fun _ => fun
  | [d] => { results := [.lit (.bool false)], args := [d] }
  | _ => none }
def FnPathParentWrongFalsely : Prop := fnPathParentRow.holds Tryd.pinned (OpenSpec.ofChange fnPathParentWrong)

/-- 'laws.FnExactPathNormal': WHATEVER THE INPUT: true; the input reads as it did. -/
def fnExactPathNormalSpec : ChangeSpec := { name := "fnExactPathNormal", fn := fun _ => fun
  | [d] => { results := [.lit (.bool true)], args := [d] }
  | _ => none }
def fnExactPathNormalRow : OpenClaim := { program := "ytokapkpebadcaaadoor", sum := "0b8a7e0bf66f6b2cf46c406fd17d1ac0c5e46821e1d03f3ed30b5f48962921cf", func := "loop.example/filereconciler/laws.FnExactPathNormal", spec := "fnExactPathNormal", inPlace := ["internal/bytealg.CountString", "internal/bytealg.IndexByteString", "internal/bytealg.IndexString", "internal/abi.NoEscape", "internal/bytealg.MakeNoZero"], named := ["unicode/utf8.first", "unicode/utf8.acceptRanges", "internal/bytealg.MaxLen"], apart := false, laid := [("unicode/utf8.acceptRanges", laid_unicode_utf8_acceptRanges), ("unicode/utf8.first", laid_unicode_utf8_first)] }
def FnExactPathNormalSaid : Prop := fnExactPathNormalRow.holds Tryd.pinned (OpenSpec.ofChange fnExactPathNormalSpec)

/-- ITS FALSE NEIGHBOUR: 'it returns false'. Refute it at one input. -/
def fnExactPathNormalWrong : ChangeSpec := { name := "fnExactPathNormal", fn := fun _ => fun
  | [d] => { results := [.lit (.bool false)], args := [d] }
  | _ => none }
def FnExactPathNormalWrongFalsely : Prop := fnExactPathNormalRow.holds Tryd.pinned (OpenSpec.ofChange fnExactPathNormalWrong)

/-- 'laws.FnPathNormalSame': WHATEVER THE INPUT: true; the input reads as it did. -/
def fnPathNormalSameSpec : ChangeSpec := { name := "fnPathNormalSame", fn := fun _ => fun
  | [d] => { results := [.lit (.bool true)], args := [d] }
  | _ => none }
def fnPathNormalSameRow : OpenClaim := { program := "ytokapkpebadcaaadoor", sum := "0b8a7e0bf66f6b2cf46c406fd17d1ac0c5e46821e1d03f3ed30b5f48962921cf", func := "loop.example/filereconciler/laws.FnPathNormalSame", spec := "fnPathNormalSame", inPlace := ["internal/bytealg.CountString", "internal/bytealg.IndexByteString", "internal/bytealg.IndexString", "internal/abi.NoEscape", "internal/bytealg.MakeNoZero"], named := ["unicode/utf8.first", "unicode/utf8.acceptRanges", "internal/bytealg.MaxLen"], apart := false, laid := [("unicode/utf8.acceptRanges", laid_unicode_utf8_acceptRanges), ("unicode/utf8.first", laid_unicode_utf8_first)] }
def FnPathNormalSameSaid : Prop := fnPathNormalSameRow.holds Tryd.pinned (OpenSpec.ofChange fnPathNormalSameSpec)

/-- ITS FALSE NEIGHBOUR: 'it returns false'. Refute it at one input. -/
def fnPathNormalSameWrong : ChangeSpec := { name := "fnPathNormalSame", fn := fun _ => fun
  | [d] => { results := [.lit (.bool false)], args := [d] }
  | _ => none }
def FnPathNormalSameWrongFalsely : Prop := fnPathNormalSameRow.holds Tryd.pinned (OpenSpec.ofChange fnPathNormalSameWrong)

/-- 'laws.FnPathNormal': WHATEVER THE INPUT: true; the input reads as it did. -/
def fnPathNormalSpec : ChangeSpec := { name := "fnPathNormal", fn := fun _ => fun
  | [d] => { results := [.lit (.bool true)], args := [d] }
  | _ => none }
def fnPathNormalRow : OpenClaim := { program := "ytokapkpebadcaaadoor", sum := "0b8a7e0bf66f6b2cf46c406fd17d1ac0c5e46821e1d03f3ed30b5f48962921cf", func := "loop.example/filereconciler/laws.FnPathNormal", spec := "fnPathNormal", inPlace := ["internal/bytealg.CountString", "internal/bytealg.IndexByteString", "internal/bytealg.IndexString", "internal/abi.NoEscape", "internal/bytealg.MakeNoZero"], named := ["unicode/utf8.first", "unicode/utf8.acceptRanges", "internal/bytealg.MaxLen"], apart := false, laid := [("unicode/utf8.acceptRanges", laid_unicode_utf8_acceptRanges), ("unicode/utf8.first", laid_unicode_utf8_first)] }
def FnPathNormalSaid : Prop := fnPathNormalRow.holds Tryd.pinned (OpenSpec.ofChange fnPathNormalSpec)

/-- ITS FALSE NEIGHBOUR: 'it returns false'. Refute it at one input. -/
def fnPathNormalWrong : ChangeSpec := { name := "fnPathNormal", fn := fun _ => fun
  | [d] => { results := [.lit (.bool false)], args := [d] }
  | _ => none }
def FnPathNormalWrongFalsely : Prop := fnPathNormalRow.holds Tryd.pinned (OpenSpec.ofChange fnPathNormalWrong)

/-- 'laws.FnPathNormalDots': WHATEVER THE INPUT: true; the input reads as it did. -/
def fnPathNormalDotsSpec : ChangeSpec := { name := "fnPathNormalDots", fn := fun _ => fun
  | [d] => { results := [.lit (.bool true)], args := [d] }
  | _ => none }
def fnPathNormalDotsRow : OpenClaim := { program := "ytokapkpebadcaaadoor", sum := "0b8a7e0bf66f6b2cf46c406fd17d1ac0c5e46821e1d03f3ed30b5f48962921cf", func := "loop.example/filereconciler/laws.FnPathNormalDots", spec := "fnPathNormalDots", inPlace := ["internal/bytealg.CountString", "internal/bytealg.IndexByteString", "internal/bytealg.IndexString", "internal/abi.NoEscape", "internal/bytealg.MakeNoZero"], named := ["unicode/utf8.first", "unicode/utf8.acceptRanges", "internal/bytealg.MaxLen"], apart := false, laid := [("unicode/utf8.acceptRanges", laid_unicode_utf8_acceptRanges), ("unicode/utf8.first", laid_unicode_utf8_first)] }
def FnPathNormalDotsSaid : Prop := fnPathNormalDotsRow.holds Tryd.pinned (OpenSpec.ofChange fnPathNormalDotsSpec)

/-- ITS FALSE NEIGHBOUR: 'it returns false'. Refute it at one input. -/
def fnPathNormalDotsWrong : ChangeSpec := { name := "fnPathNormalDots", fn := fun _ => fun
  | [d] => { results := [.lit (.bool false)], args := [d] }
  | _ => none }
def FnPathNormalDotsWrongFalsely : Prop := fnPathNormalDotsRow.holds Tryd.pinned (OpenSpec.ofChange fnPathNormalDotsWrong)

/-- 'laws.FnExactCommandValid': WHATEVER THE INPUT: true; the input reads as it did. -/
def fnExactCommandValidSpec : ChangeSpec := { name := "fnExactCommandValid", fn := fun _ => fun
  | [d] => { results := [.lit (.bool true)], args := [d] }
  | _ => none }
def fnExactCommandValidRow : OpenClaim := { program := "ytokapkpebadcaaadoor", sum := "0b8a7e0bf66f6b2cf46c406fd17d1ac0c5e46821e1d03f3ed30b5f48962921cf", func := "loop.example/filereconciler/laws.FnExactCommandValid", spec := "fnExactCommandValid", inPlace := ["internal/bytealg.CountString", "internal/bytealg.IndexByteString", "internal/bytealg.IndexString"], named := ["unicode/utf8.first", "unicode/utf8.acceptRanges", "internal/bytealg.MaxLen"], apart := false, laid := [("unicode/utf8.acceptRanges", laid_unicode_utf8_acceptRanges), ("unicode/utf8.first", laid_unicode_utf8_first)] }
def FnExactCommandValidSaid : Prop := fnExactCommandValidRow.holds Tryd.pinned (OpenSpec.ofChange fnExactCommandValidSpec)

/-- ITS FALSE NEIGHBOUR: 'it returns false'. Refute it at one input. -/
def fnExactCommandValidWrong : ChangeSpec := { name := "fnExactCommandValid", fn := fun _ => fun
  | [d] => { results := [.lit (.bool false)], args := [d] }
  | _ => none }
def FnExactCommandValidWrongFalsely : Prop := fnExactCommandValidRow.holds Tryd.pinned (OpenSpec.ofChange fnExactCommandValidWrong)

/-- 'laws.FnExactCommandUndo': WHATEVER THE INPUT: true; the input reads as it did. -/
def fnExactCommandUndoSpec : ChangeSpec := { name := "fnExactCommandUndo", fn := fun _ => fun
  | [d] => { results := [.lit (.bool true)], args := [d] }
  | _ => none }
def fnExactCommandUndoRow : OpenClaim := { program := "ytokapkpebadcaaadoor", sum := "0b8a7e0bf66f6b2cf46c406fd17d1ac0c5e46821e1d03f3ed30b5f48962921cf", func := "loop.example/filereconciler/laws.FnExactCommandUndo", spec := "fnExactCommandUndo", inPlace := ["internal/bytealg.CountString", "internal/bytealg.IndexByteString", "internal/bytealg.IndexString"], named := ["unicode/utf8.first", "unicode/utf8.acceptRanges", "internal/bytealg.MaxLen"], apart := false, laid := [("unicode/utf8.acceptRanges", laid_unicode_utf8_acceptRanges), ("unicode/utf8.first", laid_unicode_utf8_first)] }
def FnExactCommandUndoSaid : Prop := fnExactCommandUndoRow.holds Tryd.pinned (OpenSpec.ofChange fnExactCommandUndoSpec)

/-- ITS FALSE NEIGHBOUR: 'it returns false'. Refute it at one input. -/
def fnExactCommandUndoWrong : ChangeSpec := { name := "fnExactCommandUndo", fn := fun _ => fun
  | [d] => { results := [.lit (.bool false)], args := [d] }
  | _ => none }
def FnExactCommandUndoWrongFalsely : Prop := fnExactCommandUndoRow.holds Tryd.pinned (OpenSpec.ofChange fnExactCommandUndoWrong)

/-- 'laws.FnCommandSame': WHATEVER THE INPUT: true; the input reads as it did. -/
def fnCommandSameSpec : ChangeSpec := { name := "fnCommandSame", fn := fun _ => fun
  | [d] => { results := [.lit (.bool true)], args := [d] }
  | _ => none }
def fnCommandSameRow : OpenClaim := { program := "ytokapkpebadcaaadoor", sum := "0b8a7e0bf66f6b2cf46c406fd17d1ac0c5e46821e1d03f3ed30b5f48962921cf", func := "loop.example/filereconciler/laws.FnCommandSame", spec := "fnCommandSame", inPlace := ["internal/bytealg.CountString", "internal/bytealg.IndexByteString", "internal/bytealg.IndexString"], named := ["unicode/utf8.first", "unicode/utf8.acceptRanges", "internal/bytealg.MaxLen"], apart := false, laid := [("unicode/utf8.acceptRanges", laid_unicode_utf8_acceptRanges), ("unicode/utf8.first", laid_unicode_utf8_first)] }
def FnCommandSameSaid : Prop := fnCommandSameRow.holds Tryd.pinned (OpenSpec.ofChange fnCommandSameSpec)

/-- ITS FALSE NEIGHBOUR: 'it returns false'. Refute it at one input. -/
def fnCommandSameWrong : ChangeSpec := { name := "fnCommandSame", fn := fun _ => fun
  | [d] => { results := [.lit (.bool false)], args := [d] }
  | _ => none }
def FnCommandSameWrongFalsely : Prop := fnCommandSameRow.holds Tryd.pinned (OpenSpec.ofChange fnCommandSameWrong)

/-- 'laws.FnExactCommandText': WHATEVER THE INPUT: true; the input reads as it did. -/
def fnExactCommandTextSpec : ChangeSpec := { name := "fnExactCommandText", fn := fun _ => fun
  | [d] => { results := [.lit (.bool true)], args := [d] }
  | _ => none }
def fnExactCommandTextRow : OpenClaim := { program := "ytokapkpebadcaaadoor", sum := "0b8a7e0bf66f6b2cf46c406fd17d1ac0c5e46821e1d03f3ed30b5f48962921cf", func := "loop.example/filereconciler/laws.FnExactCommandText", spec := "fnExactCommandText", inPlace := ["internal/bytealg.CountString", "internal/bytealg.IndexByteString", "internal/bytealg.IndexString"], recurses := true, named := ["unicode/utf8.first", "unicode/utf8.acceptRanges", "internal/bytealg.MaxLen", "internal/strconv.uint64pow10", "math/bits.deBruijn32tab", "math/bits.deBruijn64tab"], apart := false, laid := [("math/bits.deBruijn32tab", laid_math_bits_deBruijn32tab), ("math/bits.deBruijn64tab", laid_math_bits_deBruijn64tab), ("internal/strconv.uint64pow10", laid_internal_strconv_uint64pow10), ("unicode/utf8.acceptRanges", laid_unicode_utf8_acceptRanges), ("unicode/utf8.first", laid_unicode_utf8_first)] }
def FnExactCommandTextSaid : Prop := fnExactCommandTextRow.holds Tryd.pinned (OpenSpec.ofChange fnExactCommandTextSpec)

/-- ITS FALSE NEIGHBOUR: 'it returns false'. Refute it at one input. -/
def fnExactCommandTextWrong : ChangeSpec := { name := "fnExactCommandText", fn := fun _ => fun
  | [d] => { results := [.lit (.bool false)], args := [d] }
  | _ => none }
def FnExactCommandTextWrongFalsely : Prop := fnExactCommandTextRow.holds Tryd.pinned (OpenSpec.ofChange fnExactCommandTextWrong)

/-- 'laws.FnExactCommandParse': WHATEVER THE INPUT: true; the input reads as it did. -/
def fnExactCommandParseSpec : ChangeSpec := { name := "fnExactCommandParse", fn := fun _ => fun
  | [d] => { results := [.lit (.bool true)], args := [d] }
  | _ => none }
def fnExactCommandParseRow : OpenClaim := { program := "ytokapkpebadcaaadoor", sum := "0b8a7e0bf66f6b2cf46c406fd17d1ac0c5e46821e1d03f3ed30b5f48962921cf", func := "loop.example/filereconciler/laws.FnExactCommandParse", spec := "fnExactCommandParse", inPlace := ["internal/bytealg.CountString", "internal/bytealg.IndexByteString", "internal/bytealg.IndexString"], recurses := true, named := ["unicode/utf8.first", "unicode/utf8.acceptRanges", "internal/bytealg.MaxLen", "internal/strconv.uint64pow10", "math/bits.deBruijn32tab", "math/bits.deBruijn64tab"], apart := false, laid := [("math/bits.deBruijn32tab", laid_math_bits_deBruijn32tab), ("math/bits.deBruijn64tab", laid_math_bits_deBruijn64tab), ("internal/strconv.uint64pow10", laid_internal_strconv_uint64pow10), ("unicode/utf8.acceptRanges", laid_unicode_utf8_acceptRanges), ("unicode/utf8.first", laid_unicode_utf8_first)] }
def FnExactCommandParseSaid : Prop := fnExactCommandParseRow.holds Tryd.pinned (OpenSpec.ofChange fnExactCommandParseSpec)

/-- ITS FALSE NEIGHBOUR: 'it returns false'. Refute it at one input. -/
def fnExactCommandParseWrong : ChangeSpec := { name := "fnExactCommandParse", fn := fun _ => fun
  | [d] => { results := [.lit (.bool false)], args := [d] }
  | _ => none }
def FnExactCommandParseWrongFalsely : Prop := fnExactCommandParseRow.holds Tryd.pinned (OpenSpec.ofChange fnExactCommandParseWrong)

/- THE SECOND FORM. 'bulk': how many values and letters a reading holds, each counted each time it is reached (what is shared counts as often as it is met; a slice's spare places count too). A statement '..UptoSaid' is the law's where the arguments, and the package variables that the reading takes, are together of bulk at most 1048576: NARROWER than '..Said'. Prove '..Said' where nothing that the law and all that it calls make is longer than what came in: it says more and counts as full. Else prove '..UptoSaid'. A law counts once. -/
mutual
def uptoBulk {H : Type} : DataW H → Nat
  | .lit (.string bytes) => bytes.length + 1
  | .lit _ => 1
  | .nil => 1
  | .ptr d => uptoBulk d + 1
  | .slice elems spare => uptoBulkAll elems + uptoBulkAll spare + 1
  | .agg parts => uptoBulkAll parts + 1
  | .iface _ d => uptoBulk d + 1
  | .map entries => uptoBulkEntries entries + 1
  | .held _ => 1
def uptoBulkAll {H : Type} : List (DataW H) → Nat
  | [] => 0
  | d :: r => uptoBulk d + uptoBulkAll r
def uptoBulkEntries {H : Type} : List (Lit × DataW H) → Nat
  | [] => 0
  | x :: r => uptoBulkEntry x + uptoBulkEntries r
def uptoBulkEntry {H : Type} : Lit × DataW H → Nat
  | (.string bytes, d) => bytes.length + uptoBulk d + 1
  | (_, d) => uptoBulk d + 1
 end
def uptoSmall : (H : Type) → List (DataW H) → Bool := fun _ ds => decide (uptoBulkAll ds ≤ 1048576)
def OpenSpec.upto (s : _root_.Go.ChangeSpec) : _root_.Go.OpenSpec := { _root_.Go.OpenSpec.ofChange s with cond := some uptoSmall }

/-- 'laws.FnPathUnderRoot', WHERE WHAT IT READS IS OF BULK AT MOST 1048576: true; the input reads as it did. -/
def fnPathUnderRootUptoRow : OpenClaim := { program := "ytokapkpebadcaaadoor", sum := "0b8a7e0bf66f6b2cf46c406fd17d1ac0c5e46821e1d03f3ed30b5f48962921cf", func := "loop.example/filereconciler/laws.FnPathUnderRoot", spec := "fnPathUnderRoot", inPlace := ["internal/bytealg.CountString", "internal/bytealg.IndexByteString", "internal/bytealg.IndexString"], named := ["unicode/utf8.first", "unicode/utf8.acceptRanges", "internal/bytealg.MaxLen"], apart := false, laid := [("unicode/utf8.acceptRanges", laid_unicode_utf8_acceptRanges), ("unicode/utf8.first", laid_unicode_utf8_first)], narrowed := true }
def FnPathUnderRootUptoSaid : Prop := fnPathUnderRootUptoRow.holds Tryd.pinned (OpenSpec.upto fnPathUnderRootSpec)

/-- 'laws.FnPathUnder', WHERE WHAT IT READS IS OF BULK AT MOST 1048576: true; the input reads as it did. -/
def fnPathUnderUptoRow : OpenClaim := { program := "ytokapkpebadcaaadoor", sum := "0b8a7e0bf66f6b2cf46c406fd17d1ac0c5e46821e1d03f3ed30b5f48962921cf", func := "loop.example/filereconciler/laws.FnPathUnder", spec := "fnPathUnder", inPlace := ["internal/bytealg.CountString", "internal/bytealg.IndexByteString", "internal/bytealg.IndexString"], named := ["unicode/utf8.first", "unicode/utf8.acceptRanges", "internal/bytealg.MaxLen"], apart := false, laid := [("unicode/utf8.acceptRanges", laid_unicode_utf8_acceptRanges), ("unicode/utf8.first", laid_unicode_utf8_first)], narrowed := true }
def FnPathUnderUptoSaid : Prop := fnPathUnderUptoRow.holds Tryd.pinned (OpenSpec.upto fnPathUnderSpec)

/-- 'laws.FnPathParent', WHERE WHAT IT READS IS OF BULK AT MOST 1048576: true; the input reads as it did. -/
def fnPathParentUptoRow : OpenClaim := { program := "ytokapkpebadcaaadoor", sum := "0b8a7e0bf66f6b2cf46c406fd17d1ac0c5e46821e1d03f3ed30b5f48962921cf", func := "loop.example/filereconciler/laws.FnPathParent", spec := "fnPathParent", inPlace := ["internal/bytealg.CountString", "internal/bytealg.IndexByteString", "internal/bytealg.IndexString"], named := ["unicode/utf8.first", "unicode/utf8.acceptRanges", "internal/bytealg.MaxLen"], apart := false, laid := [("unicode/utf8.acceptRanges", laid_unicode_utf8_acceptRanges), ("unicode/utf8.first", laid_unicode_utf8_first)], narrowed := true }
def FnPathParentUptoSaid : Prop := fnPathParentUptoRow.holds Tryd.pinned (OpenSpec.upto fnPathParentSpec)

/-- 'laws.FnExactPathNormal', WHERE WHAT IT READS IS OF BULK AT MOST 1048576: true; the input reads as it did. -/
def fnExactPathNormalUptoRow : OpenClaim := { program := "ytokapkpebadcaaadoor", sum := "0b8a7e0bf66f6b2cf46c406fd17d1ac0c5e46821e1d03f3ed30b5f48962921cf", func := "loop.example/filereconciler/laws.FnExactPathNormal", spec := "fnExactPathNormal", inPlace := ["internal/bytealg.CountString", "internal/bytealg.IndexByteString", "internal/bytealg.IndexString", "internal/abi.NoEscape", "internal/bytealg.MakeNoZero"], named := ["unicode/utf8.first", "unicode/utf8.acceptRanges", "internal/bytealg.MaxLen"], apart := false, laid := [("unicode/utf8.acceptRanges", laid_unicode_utf8_acceptRanges), ("unicode/utf8.first", laid_unicode_utf8_first)], narrowed := true }
def FnExactPathNormalUptoSaid : Prop := fnExactPathNormalUptoRow.holds Tryd.pinned (OpenSpec.upto fnExactPathNormalSpec)

/-- 'laws.FnPathNormalSame', WHERE WHAT IT READS IS OF BULK AT MOST 1048576: true; the input reads as it did. -/
def fnPathNormalSameUptoRow : OpenClaim := { program := "ytokapkpebadcaaadoor", sum := "0b8a7e0bf66f6b2cf46c406fd17d1ac0c5e46821e1d03f3ed30b5f48962921cf", func := "loop.example/filereconciler/laws.FnPathNormalSame", spec := "fnPathNormalSame", inPlace := ["internal/bytealg.CountString", "internal/bytealg.IndexByteString", "internal/bytealg.IndexString", "internal/abi.NoEscape", "internal/bytealg.MakeNoZero"], named := ["unicode/utf8.first", "unicode/utf8.acceptRanges", "internal/bytealg.MaxLen"], apart := false, laid := [("unicode/utf8.acceptRanges", laid_unicode_utf8_acceptRanges), ("unicode/utf8.first", laid_unicode_utf8_first)], narrowed := true }
def FnPathNormalSameUptoSaid : Prop := fnPathNormalSameUptoRow.holds Tryd.pinned (OpenSpec.upto fnPathNormalSameSpec)

/-- 'laws.FnPathNormal', WHERE WHAT IT READS IS OF BULK AT MOST 1048576: true; the input reads as it did. -/
def fnPathNormalUptoRow : OpenClaim := { program := "ytokapkpebadcaaadoor", sum := "0b8a7e0bf66f6b2cf46c406fd17d1ac0c5e46821e1d03f3ed30b5f48962921cf", func := "loop.example/filereconciler/laws.FnPathNormal", spec := "fnPathNormal", inPlace := ["internal/bytealg.CountString", "internal/bytealg.IndexByteString", "internal/bytealg.IndexString", "internal/abi.NoEscape", "internal/bytealg.MakeNoZero"], named := ["unicode/utf8.first", "unicode/utf8.acceptRanges", "internal/bytealg.MaxLen"], apart := false, laid := [("unicode/utf8.acceptRanges", laid_unicode_utf8_acceptRanges), ("unicode/utf8.first", laid_unicode_utf8_first)], narrowed := true }
def FnPathNormalUptoSaid : Prop := fnPathNormalUptoRow.holds Tryd.pinned (OpenSpec.upto fnPathNormalSpec)

/-- 'laws.FnPathNormalDots', WHERE WHAT IT READS IS OF BULK AT MOST 1048576: true; the input reads as it did. -/
def fnPathNormalDotsUptoRow : OpenClaim := { program := "ytokapkpebadcaaadoor", sum := "0b8a7e0bf66f6b2cf46c406fd17d1ac0c5e46821e1d03f3ed30b5f48962921cf", func := "loop.example/filereconciler/laws.FnPathNormalDots", spec := "fnPathNormalDots", inPlace := ["internal/bytealg.CountString", "internal/bytealg.IndexByteString", "internal/bytealg.IndexString", "internal/abi.NoEscape", "internal/bytealg.MakeNoZero"], named := ["unicode/utf8.first", "unicode/utf8.acceptRanges", "internal/bytealg.MaxLen"], apart := false, laid := [("unicode/utf8.acceptRanges", laid_unicode_utf8_acceptRanges), ("unicode/utf8.first", laid_unicode_utf8_first)], narrowed := true }
def FnPathNormalDotsUptoSaid : Prop := fnPathNormalDotsUptoRow.holds Tryd.pinned (OpenSpec.upto fnPathNormalDotsSpec)

/-- 'laws.FnExactCommandValid', WHERE WHAT IT READS IS OF BULK AT MOST 1048576: true; the input reads as it did. -/
def fnExactCommandValidUptoRow : OpenClaim := { program := "ytokapkpebadcaaadoor", sum := "0b8a7e0bf66f6b2cf46c406fd17d1ac0c5e46821e1d03f3ed30b5f48962921cf", func := "loop.example/filereconciler/laws.FnExactCommandValid", spec := "fnExactCommandValid", inPlace := ["internal/bytealg.CountString", "internal/bytealg.IndexByteString", "internal/bytealg.IndexString"], named := ["unicode/utf8.first", "unicode/utf8.acceptRanges", "internal/bytealg.MaxLen"], apart := false, laid := [("unicode/utf8.acceptRanges", laid_unicode_utf8_acceptRanges), ("unicode/utf8.first", laid_unicode_utf8_first)], narrowed := true }
def FnExactCommandValidUptoSaid : Prop := fnExactCommandValidUptoRow.holds Tryd.pinned (OpenSpec.upto fnExactCommandValidSpec)

/-- 'laws.FnExactCommandUndo', WHERE WHAT IT READS IS OF BULK AT MOST 1048576: true; the input reads as it did. -/
def fnExactCommandUndoUptoRow : OpenClaim := { program := "ytokapkpebadcaaadoor", sum := "0b8a7e0bf66f6b2cf46c406fd17d1ac0c5e46821e1d03f3ed30b5f48962921cf", func := "loop.example/filereconciler/laws.FnExactCommandUndo", spec := "fnExactCommandUndo", inPlace := ["internal/bytealg.CountString", "internal/bytealg.IndexByteString", "internal/bytealg.IndexString"], named := ["unicode/utf8.first", "unicode/utf8.acceptRanges", "internal/bytealg.MaxLen"], apart := false, laid := [("unicode/utf8.acceptRanges", laid_unicode_utf8_acceptRanges), ("unicode/utf8.first", laid_unicode_utf8_first)], narrowed := true }
def FnExactCommandUndoUptoSaid : Prop := fnExactCommandUndoUptoRow.holds Tryd.pinned (OpenSpec.upto fnExactCommandUndoSpec)

/-- 'laws.FnCommandSame', WHERE WHAT IT READS IS OF BULK AT MOST 1048576: true; the input reads as it did. -/
def fnCommandSameUptoRow : OpenClaim := { program := "ytokapkpebadcaaadoor", sum := "0b8a7e0bf66f6b2cf46c406fd17d1ac0c5e46821e1d03f3ed30b5f48962921cf", func := "loop.example/filereconciler/laws.FnCommandSame", spec := "fnCommandSame", inPlace := ["internal/bytealg.CountString", "internal/bytealg.IndexByteString", "internal/bytealg.IndexString"], named := ["unicode/utf8.first", "unicode/utf8.acceptRanges", "internal/bytealg.MaxLen"], apart := false, laid := [("unicode/utf8.acceptRanges", laid_unicode_utf8_acceptRanges), ("unicode/utf8.first", laid_unicode_utf8_first)], narrowed := true }
def FnCommandSameUptoSaid : Prop := fnCommandSameUptoRow.holds Tryd.pinned (OpenSpec.upto fnCommandSameSpec)

/-- 'laws.FnExactCommandText', WHERE WHAT IT READS IS OF BULK AT MOST 1048576: true; the input reads as it did. -/
def fnExactCommandTextUptoRow : OpenClaim := { program := "ytokapkpebadcaaadoor", sum := "0b8a7e0bf66f6b2cf46c406fd17d1ac0c5e46821e1d03f3ed30b5f48962921cf", func := "loop.example/filereconciler/laws.FnExactCommandText", spec := "fnExactCommandText", inPlace := ["internal/bytealg.CountString", "internal/bytealg.IndexByteString", "internal/bytealg.IndexString"], recurses := true, named := ["unicode/utf8.first", "unicode/utf8.acceptRanges", "internal/bytealg.MaxLen", "internal/strconv.uint64pow10", "math/bits.deBruijn32tab", "math/bits.deBruijn64tab"], apart := false, laid := [("math/bits.deBruijn32tab", laid_math_bits_deBruijn32tab), ("math/bits.deBruijn64tab", laid_math_bits_deBruijn64tab), ("internal/strconv.uint64pow10", laid_internal_strconv_uint64pow10), ("unicode/utf8.acceptRanges", laid_unicode_utf8_acceptRanges), ("unicode/utf8.first", laid_unicode_utf8_first)], narrowed := true }
def FnExactCommandTextUptoSaid : Prop := fnExactCommandTextUptoRow.holds Tryd.pinned (OpenSpec.upto fnExactCommandTextSpec)

/-- 'laws.FnExactCommandParse', WHERE WHAT IT READS IS OF BULK AT MOST 1048576: true; the input reads as it did. -/
def fnExactCommandParseUptoRow : OpenClaim := { program := "ytokapkpebadcaaadoor", sum := "0b8a7e0bf66f6b2cf46c406fd17d1ac0c5e46821e1d03f3ed30b5f48962921cf", func := "loop.example/filereconciler/laws.FnExactCommandParse", spec := "fnExactCommandParse", inPlace := ["internal/bytealg.CountString", "internal/bytealg.IndexByteString", "internal/bytealg.IndexString"], recurses := true, named := ["unicode/utf8.first", "unicode/utf8.acceptRanges", "internal/bytealg.MaxLen", "internal/strconv.uint64pow10", "math/bits.deBruijn32tab", "math/bits.deBruijn64tab"], apart := false, laid := [("math/bits.deBruijn32tab", laid_math_bits_deBruijn32tab), ("math/bits.deBruijn64tab", laid_math_bits_deBruijn64tab), ("internal/strconv.uint64pow10", laid_internal_strconv_uint64pow10), ("unicode/utf8.acceptRanges", laid_unicode_utf8_acceptRanges), ("unicode/utf8.first", laid_unicode_utf8_first)], narrowed := true }
def FnExactCommandParseUptoSaid : Prop := fnExactCommandParseUptoRow.holds Tryd.pinned (OpenSpec.upto fnExactCommandParseSpec)

end Rows
end Go.Proofs.YtokapkpebadcaaaDoor
