/-
  NARROWER THAN 'FOR EVERY INPUT', by the rows' own cells (each row's printed sentence says how): FnExactTreeValid: laid · FnExactTreeGet: laid · FnExactTreeSum: laid · FnExactTreeUnder: laid · FnExactTreeSums: laid · FnExactTreeChanged: laid · FnExactRemoveAll: laid · FnExactTreePut: laid.
  DERIVED. THE GIVEN ROWS OF THIS SEAT. 8 by the template 'for every input the law returns true; each argument reads behind the call as it read before'; 0 by the template 'total and deterministic' (their statements: YtehdoambbeddpaaDoorTotals.lean).
  GIVEN WITH THE SEED: the statements are not yours to turn. If you find one false, say at which input.
  Laid BY PROGRAM, IN A SANDBOX (cutbox-rows.mjs): the forced cells as the released guide's own fill.sh prints them over the translation e836ca84a8bb9e29… (all of the seat's roots in one cut). By AI agents, Wed Nov 11 2026. No macro, syntax, notation, axiom, sorry.
-/
import Derived.Test.YtehdoambbeddpaaDoorChecked
import GoSem.PinnedTables
import GoSem.Claim
import GoSem.ClaimJoined
import GoSem.ClaimMapViews
import Derived.JoinedTies
import Derived.KernelRfl
namespace Go.Proofs.YtehdoambbeddpaaDoor
/- THE CELL 'sum', in the pinned program and in every row, IS THE sha256 OF THE DUMP (.gsa) THAT YtehdoambbeddpaaDoorProg.lean LOADS. Nothing in Lean hashes anything: it is a label: what it is worth is what the hold of that sum in a sandbox is worth. -/
noncomputable def Tryd.pinned : Pinned := { name := "ytehdoambbeddpaadoor", sum := "e836ca84a8bb9e290dd8fc375dc9894cbd292a9d52361790b2ec4b1e965b6a65", checked := Tryd.checked }
namespace Rows
def none {H : Type} : Left H := { results := [], args := [] }

/- WHAT THE LISTED PACKAGE-LEVEL VARIABLES READ AS WHEN THE CALL BEGINS. Each datum BY PROGRAM (the guide's laid-datum.mjs) off the statement by which the dump's own 'gosem.cut.vars' lays the variable. In a bare row this is a premise. The card (YtehdoambbeddpaaDoorCards.lean) ties it to the program's text. -/
def laid_unicode_utf8_acceptRanges {H : Type} : DataW H := .agg [.agg [.lit (.int .u8 128), .lit (.int .u8 191)], .agg [.lit (.int .u8 160), .lit (.int .u8 191)], .agg [.lit (.int .u8 128), .lit (.int .u8 159)], .agg [.lit (.int .u8 144), .lit (.int .u8 191)], .agg [.lit (.int .u8 128), .lit (.int .u8 143)], .agg [.lit (.int .u8 0), .lit (.int .u8 0)], .agg [.lit (.int .u8 0), .lit (.int .u8 0)], .agg [.lit (.int .u8 0), .lit (.int .u8 0)], .agg [.lit (.int .u8 0), .lit (.int .u8 0)], .agg [.lit (.int .u8 0), .lit (.int .u8 0)], .agg [.lit (.int .u8 0), .lit (.int .u8 0)], .agg [.lit (.int .u8 0), .lit (.int .u8 0)], .agg [.lit (.int .u8 0), .lit (.int .u8 0)], .agg [.lit (.int .u8 0), .lit (.int .u8 0)], .agg [.lit (.int .u8 0), .lit (.int .u8 0)], .agg [.lit (.int .u8 0), .lit (.int .u8 0)]]
/-- One of Go's own tables, pinned by name: the form's constant. -/
def laid_unicode_utf8_first : DataW Unit := Go.Pinned.utf8First

/-- 'laws.FnExactTreeValid': WHATEVER THE INPUT: true; the input reads as it did. -/
def fnExactTreeValidSpec : ChangeSpec := { name := "fnExactTreeValid", fn := fun _ => fun
  | [d] => { results := [.lit (.bool true)], args := [d] }
  | _ => none }
def fnExactTreeValidRow : OpenClaim := { program := "ytehdoambbeddpaadoor", sum := "e836ca84a8bb9e290dd8fc375dc9894cbd292a9d52361790b2ec4b1e965b6a65", func := "loop.example/filereconciler/laws.FnExactTreeValid", spec := "fnExactTreeValid", inPlace := ["internal/bytealg.CountString", "internal/bytealg.IndexByteString", "internal/bytealg.IndexString"], unfollowed := true, recurses := true, named := ["unicode/utf8.first", "unicode/utf8.acceptRanges", "internal/bytealg.MaxLen"], apart := false, laid := [("unicode/utf8.acceptRanges", laid_unicode_utf8_acceptRanges), ("unicode/utf8.first", laid_unicode_utf8_first)] }
def FnExactTreeValidSaid : Prop := fnExactTreeValidRow.holds Tryd.pinned (OpenSpec.ofChange fnExactTreeValidSpec)

/-- ITS FALSE NEIGHBOUR: 'it returns false'. Refute it at one input. -/
def fnExactTreeValidWrong : ChangeSpec := { name := "fnExactTreeValid", fn := fun _ => fun
  | [d] => { results := [.lit (.bool false)], args := [d] }
  | _ => none }
def FnExactTreeValidWrongFalsely : Prop := fnExactTreeValidRow.holds Tryd.pinned (OpenSpec.ofChange fnExactTreeValidWrong)

/-- 'laws.FnExactTreeGet': WHATEVER THE INPUT: true; the input reads as it did. -/
def fnExactTreeGetSpec : ChangeSpec := { name := "fnExactTreeGet", fn := fun _ => fun
  | [d1, d2] => { results := [.lit (.bool true)], args := [d1, d2] }
  | _ => none }
def fnExactTreeGetRow : OpenClaim := { program := "ytehdoambbeddpaadoor", sum := "e836ca84a8bb9e290dd8fc375dc9894cbd292a9d52361790b2ec4b1e965b6a65", func := "loop.example/filereconciler/laws.FnExactTreeGet", spec := "fnExactTreeGet", inPlace := ["internal/bytealg.CountString", "internal/bytealg.IndexByteString", "internal/bytealg.IndexString"], unfollowed := true, recurses := true, named := ["unicode/utf8.first", "unicode/utf8.acceptRanges", "internal/bytealg.MaxLen"], apart := false, laid := [("unicode/utf8.acceptRanges", laid_unicode_utf8_acceptRanges), ("unicode/utf8.first", laid_unicode_utf8_first)] }
def FnExactTreeGetSaid : Prop := fnExactTreeGetRow.holds Tryd.pinned (OpenSpec.ofChange fnExactTreeGetSpec)

/-- ITS FALSE NEIGHBOUR: 'it returns false'. Refute it at one input. -/
def fnExactTreeGetWrong : ChangeSpec := { name := "fnExactTreeGet", fn := fun _ => fun
  | [d1, d2] => { results := [.lit (.bool false)], args := [d1, d2] }
  | _ => none }
def FnExactTreeGetWrongFalsely : Prop := fnExactTreeGetRow.holds Tryd.pinned (OpenSpec.ofChange fnExactTreeGetWrong)

/-- 'laws.FnExactTreeSum': WHATEVER THE INPUT: true; the input reads as it did. -/
def fnExactTreeSumSpec : ChangeSpec := { name := "fnExactTreeSum", fn := fun _ => fun
  | [d1, d2] => { results := [.lit (.bool true)], args := [d1, d2] }
  | _ => none }
def fnExactTreeSumRow : OpenClaim := { program := "ytehdoambbeddpaadoor", sum := "e836ca84a8bb9e290dd8fc375dc9894cbd292a9d52361790b2ec4b1e965b6a65", func := "loop.example/filereconciler/laws.FnExactTreeSum", spec := "fnExactTreeSum", inPlace := ["internal/bytealg.CountString", "internal/bytealg.IndexByteString", "internal/bytealg.IndexString"], unfollowed := true, recurses := true, named := ["unicode/utf8.first", "unicode/utf8.acceptRanges", "internal/bytealg.MaxLen"], apart := false, laid := [("unicode/utf8.acceptRanges", laid_unicode_utf8_acceptRanges), ("unicode/utf8.first", laid_unicode_utf8_first)] }
def FnExactTreeSumSaid : Prop := fnExactTreeSumRow.holds Tryd.pinned (OpenSpec.ofChange fnExactTreeSumSpec)

/-- ITS FALSE NEIGHBOUR: 'it returns false'. Refute it at one input. -/
def fnExactTreeSumWrong : ChangeSpec := { name := "fnExactTreeSum", fn := fun _ => fun
  | [d1, d2] => { results := [.lit (.bool false)], args := [d1, d2] }
  | _ => none }
def FnExactTreeSumWrongFalsely : Prop := fnExactTreeSumRow.holds Tryd.pinned (OpenSpec.ofChange fnExactTreeSumWrong)

/-- 'laws.FnExactTreeUnder': WHATEVER THE INPUT: true; the input reads as it did. -/
def fnExactTreeUnderSpec : ChangeSpec := { name := "fnExactTreeUnder", fn := fun _ => fun
  | [d1, d2] => { results := [.lit (.bool true)], args := [d1, d2] }
  | _ => none }
def fnExactTreeUnderRow : OpenClaim := { program := "ytehdoambbeddpaadoor", sum := "e836ca84a8bb9e290dd8fc375dc9894cbd292a9d52361790b2ec4b1e965b6a65", func := "loop.example/filereconciler/laws.FnExactTreeUnder", spec := "fnExactTreeUnder", inPlace := ["internal/bytealg.CountString", "internal/bytealg.IndexByteString", "internal/bytealg.IndexString"], unfollowed := true, recurses := true, named := ["unicode/utf8.first", "unicode/utf8.acceptRanges", "internal/bytealg.MaxLen"], apart := false, laid := [("unicode/utf8.acceptRanges", laid_unicode_utf8_acceptRanges), ("unicode/utf8.first", laid_unicode_utf8_first)] }
def FnExactTreeUnderSaid : Prop := fnExactTreeUnderRow.holds Tryd.pinned (OpenSpec.ofChange fnExactTreeUnderSpec)

/-- ITS FALSE NEIGHBOUR: 'it returns false'. Refute it at one input. -/
def fnExactTreeUnderWrong : ChangeSpec := { name := "fnExactTreeUnder", fn := fun _ => fun
  | [d1, d2] => { results := [.lit (.bool false)], args := [d1, d2] }
  | _ => none }
def FnExactTreeUnderWrongFalsely : Prop := fnExactTreeUnderRow.holds Tryd.pinned (OpenSpec.ofChange fnExactTreeUnderWrong)

/-- 'laws.FnExactTreeSums': WHATEVER THE INPUT: true; the input reads as it did. -/
def fnExactTreeSumsSpec : ChangeSpec := { name := "fnExactTreeSums", fn := fun _ => fun
  | [d] => { results := [.lit (.bool true)], args := [d] }
  | _ => none }
def fnExactTreeSumsRow : OpenClaim := { program := "ytehdoambbeddpaadoor", sum := "e836ca84a8bb9e290dd8fc375dc9894cbd292a9d52361790b2ec4b1e965b6a65", func := "loop.example/filereconciler/laws.FnExactTreeSums", spec := "fnExactTreeSums", inPlace := ["internal/bytealg.CountString", "internal/bytealg.IndexByteString", "internal/bytealg.IndexString"], unfollowed := true, recurses := true, named := ["unicode/utf8.first", "unicode/utf8.acceptRanges", "internal/bytealg.MaxLen"], apart := false, laid := [("unicode/utf8.acceptRanges", laid_unicode_utf8_acceptRanges), ("unicode/utf8.first", laid_unicode_utf8_first)] }
def FnExactTreeSumsSaid : Prop := fnExactTreeSumsRow.holds Tryd.pinned (OpenSpec.ofChange fnExactTreeSumsSpec)

/-- ITS FALSE NEIGHBOUR: 'it returns false'. Refute it at one input. -/
def fnExactTreeSumsWrong : ChangeSpec := { name := "fnExactTreeSums", fn := fun _ => fun
  | [d] => { results := [.lit (.bool false)], args := [d] }
  | _ => none }
def FnExactTreeSumsWrongFalsely : Prop := fnExactTreeSumsRow.holds Tryd.pinned (OpenSpec.ofChange fnExactTreeSumsWrong)

/-- 'laws.FnExactTreeChanged': WHATEVER THE INPUT: true; the input reads as it did. -/
def fnExactTreeChangedSpec : ChangeSpec := { name := "fnExactTreeChanged", fn := fun _ => fun
  | [d1, d2] => { results := [.lit (.bool true)], args := [d1, d2] }
  | _ => none }
def fnExactTreeChangedRow : OpenClaim := { program := "ytehdoambbeddpaadoor", sum := "e836ca84a8bb9e290dd8fc375dc9894cbd292a9d52361790b2ec4b1e965b6a65", func := "loop.example/filereconciler/laws.FnExactTreeChanged", spec := "fnExactTreeChanged", inPlace := ["internal/bytealg.CountString", "internal/bytealg.IndexByteString", "internal/bytealg.IndexString"], unfollowed := true, recurses := true, named := ["unicode/utf8.first", "unicode/utf8.acceptRanges", "internal/bytealg.MaxLen"], apart := false, laid := [("unicode/utf8.acceptRanges", laid_unicode_utf8_acceptRanges), ("unicode/utf8.first", laid_unicode_utf8_first)] }
def FnExactTreeChangedSaid : Prop := fnExactTreeChangedRow.holds Tryd.pinned (OpenSpec.ofChange fnExactTreeChangedSpec)

/-- ITS FALSE NEIGHBOUR: 'it returns false'. Refute it at one input. -/
def fnExactTreeChangedWrong : ChangeSpec := { name := "fnExactTreeChanged", fn := fun _ => fun
  | [d1, d2] => { results := [.lit (.bool false)], args := [d1, d2] }
  | _ => none }
def FnExactTreeChangedWrongFalsely : Prop := fnExactTreeChangedRow.holds Tryd.pinned (OpenSpec.ofChange fnExactTreeChangedWrong)

/-- 'laws.FnExactRemoveAll': WHATEVER THE INPUT: true; the input reads as it did. -/
def fnExactRemoveAllSpec : ChangeSpec := { name := "fnExactRemoveAll", fn := fun _ => fun
  | [d1, d2] => { results := [.lit (.bool true)], args := [d1, d2] }
  | _ => none }
def fnExactRemoveAllRow : OpenClaim := { program := "ytehdoambbeddpaadoor", sum := "e836ca84a8bb9e290dd8fc375dc9894cbd292a9d52361790b2ec4b1e965b6a65", func := "loop.example/filereconciler/laws.FnExactRemoveAll", spec := "fnExactRemoveAll", inPlace := ["internal/bytealg.CountString", "internal/bytealg.IndexByteString", "internal/bytealg.IndexString"], unfollowed := true, recurses := true, named := ["unicode/utf8.first", "unicode/utf8.acceptRanges", "internal/bytealg.MaxLen"], apart := false, laid := [("unicode/utf8.acceptRanges", laid_unicode_utf8_acceptRanges), ("unicode/utf8.first", laid_unicode_utf8_first)] }
def FnExactRemoveAllSaid : Prop := fnExactRemoveAllRow.holds Tryd.pinned (OpenSpec.ofChange fnExactRemoveAllSpec)

/-- ITS FALSE NEIGHBOUR: 'it returns false'. Refute it at one input. -/
def fnExactRemoveAllWrong : ChangeSpec := { name := "fnExactRemoveAll", fn := fun _ => fun
  | [d1, d2] => { results := [.lit (.bool false)], args := [d1, d2] }
  | _ => none }
def FnExactRemoveAllWrongFalsely : Prop := fnExactRemoveAllRow.holds Tryd.pinned (OpenSpec.ofChange fnExactRemoveAllWrong)

/-- 'laws.FnExactTreePut': WHATEVER THE INPUT: true; the input reads as it did. -/
def fnExactTreePutSpec : ChangeSpec := { name := "fnExactTreePut", fn := fun _ => fun
  | [d1, d2, d3] => { results := [.lit (.bool true)], args := [d1, d2, d3] }
  | _ => none }
def fnExactTreePutRow : OpenClaim := { program := "ytehdoambbeddpaadoor", sum := "e836ca84a8bb9e290dd8fc375dc9894cbd292a9d52361790b2ec4b1e965b6a65", func := "loop.example/filereconciler/laws.FnExactTreePut", spec := "fnExactTreePut", inPlace := ["internal/bytealg.CountString", "internal/bytealg.IndexByteString", "internal/bytealg.IndexString", "slices.overlaps[loop.example/filereconciler/impl.Node]"], unfollowed := true, recurses := true, named := ["unicode/utf8.first", "unicode/utf8.acceptRanges", "internal/bytealg.MaxLen"], apart := false, laid := [("unicode/utf8.acceptRanges", laid_unicode_utf8_acceptRanges), ("unicode/utf8.first", laid_unicode_utf8_first)] }
def FnExactTreePutSaid : Prop := fnExactTreePutRow.holds Tryd.pinned (OpenSpec.ofChange fnExactTreePutSpec)

/-- ITS FALSE NEIGHBOUR: 'it returns false'. Refute it at one input. -/
def fnExactTreePutWrong : ChangeSpec := { name := "fnExactTreePut", fn := fun _ => fun
  | [d1, d2, d3] => { results := [.lit (.bool false)], args := [d1, d2, d3] }
  | _ => none }
def FnExactTreePutWrongFalsely : Prop := fnExactTreePutRow.holds Tryd.pinned (OpenSpec.ofChange fnExactTreePutWrong)

/- THE SECOND FORM. 'bulk': how many values and letters a reading holds, each counted each time it is reached (what is shared counts as often as it is met; a slice's spare places count too). A statement '..UptoSaid' is the law's where the arguments, and the package variables that the reading takes, are together of bulk at most 1048576: NARROWER than '..Said'. Prove '..Said' where nothing that the law and all that it calls make is longer than what came in: it says more and counts as full. Else prove '..UptoSaid'. A law counts once. -/
mutual
def uptoBulk {H : Type} : DataW H → Nat
  | .lit (.string bytes) => bytes.length + 1
  | .lit _ => 1
  | .nil => 1
  | .ptr d => uptoBulk d + 1
  | .slice elems spare => uptoBulkAll elems + uptoBulkAll spare + 1
  | .agg parts => uptoBulkAll parts + 1
  | .iface _ d => uptoBulk d + 1
  | .map entries => uptoBulkEntries entries + 1
  | .held _ => 1
def uptoBulkAll {H : Type} : List (DataW H) → Nat
  | [] => 0
  | d :: r => uptoBulk d + uptoBulkAll r
def uptoBulkEntries {H : Type} : List (Lit × DataW H) → Nat
  | [] => 0
  | x :: r => uptoBulkEntry x + uptoBulkEntries r
def uptoBulkEntry {H : Type} : Lit × DataW H → Nat
  | (.string bytes, d) => bytes.length + uptoBulk d + 1
  | (_, d) => uptoBulk d + 1
 end
def uptoSmall : (H : Type) → List (DataW H) → Bool := fun _ ds => decide (uptoBulkAll ds ≤ 1048576)
def OpenSpec.upto (s : _root_.Go.ChangeSpec) : _root_.Go.OpenSpec := { _root_.Go.OpenSpec.ofChange s with cond := some uptoSmall }

/-- 'laws.FnExactTreeValid', WHERE WHAT IT READS IS OF BULK AT MOST 1048576: true; the input reads as it did. -/
def fnExactTreeValidUptoRow : OpenClaim := { program := "ytehdoambbeddpaadoor", sum := "e836ca84a8bb9e290dd8fc375dc9894cbd292a9d52361790b2ec4b1e965b6a65", func := "loop.example/filereconciler/laws.FnExactTreeValid", spec := "fnExactTreeValid", inPlace := ["internal/bytealg.CountString", "internal/bytealg.IndexByteString", "internal/bytealg.IndexString"], unfollowed := true, recurses := true, named := ["unicode/utf8.first", "unicode/utf8.acceptRanges", "internal/bytealg.MaxLen"], apart := false, laid := [("unicode/utf8.acceptRanges", laid_unicode_utf8_acceptRanges), ("unicode/utf8.first", laid_unicode_utf8_first)], narrowed := true }
def FnExactTreeValidUptoSaid : Prop := fnExactTreeValidUptoRow.holds Tryd.pinned (OpenSpec.upto fnExactTreeValidSpec)

/-- 'laws.FnExactTreeGet', WHERE WHAT IT READS IS OF BULK AT MOST 1048576: true; the input reads as it did. -/
def fnExactTreeGetUptoRow : OpenClaim := { program := "ytehdoambbeddpaadoor", sum := "e836ca84a8bb9e290dd8fc375dc9894cbd292a9d52361790b2ec4b1e965b6a65", func := "loop.example/filereconciler/laws.FnExactTreeGet", spec := "fnExactTreeGet", inPlace := ["internal/bytealg.CountString", "internal/bytealg.IndexByteString", "internal/bytealg.IndexString"], unfollowed := true, recurses := true, named := ["unicode/utf8.first", "unicode/utf8.acceptRanges", "internal/bytealg.MaxLen"], apart := false, laid := [("unicode/utf8.acceptRanges", laid_unicode_utf8_acceptRanges), ("unicode/utf8.first", laid_unicode_utf8_first)], narrowed := true }
def FnExactTreeGetUptoSaid : Prop := fnExactTreeGetUptoRow.holds Tryd.pinned (OpenSpec.upto fnExactTreeGetSpec)

/-- 'laws.FnExactTreeSum', WHERE WHAT IT READS IS OF BULK AT MOST 1048576: true; the input reads as it did. -/
def fnExactTreeSumUptoRow : OpenClaim := { program := "ytehdoambbeddpaadoor", sum := "e836ca84a8bb9e290dd8fc375dc9894cbd292a9d52361790b2ec4b1e965b6a65", func := "loop.example/filereconciler/laws.FnExactTreeSum", spec := "fnExactTreeSum", inPlace := ["internal/bytealg.CountString", "internal/bytealg.IndexByteString", "internal/bytealg.IndexString"], unfollowed := true, recurses := true, named := ["unicode/utf8.first", "unicode/utf8.acceptRanges", "internal/bytealg.MaxLen"], apart := false, laid := [("unicode/utf8.acceptRanges", laid_unicode_utf8_acceptRanges), ("unicode/utf8.first", laid_unicode_utf8_first)], narrowed := true }
def FnExactTreeSumUptoSaid : Prop := fnExactTreeSumUptoRow.holds Tryd.pinned (OpenSpec.upto fnExactTreeSumSpec)

/-- 'laws.FnExactTreeUnder', WHERE WHAT IT READS IS OF BULK AT MOST 1048576: true; the input reads as it did. -/
def fnExactTreeUnderUptoRow : OpenClaim := { program := "ytehdoambbeddpaadoor", sum := "e836ca84a8bb9e290dd8fc375dc9894cbd292a9d52361790b2ec4b1e965b6a65", func := "loop.example/filereconciler/laws.FnExactTreeUnder", spec := "fnExactTreeUnder", inPlace := ["internal/bytealg.CountString", "internal/bytealg.IndexByteString", "internal/bytealg.IndexString"], unfollowed := true, recurses := true, named := ["unicode/utf8.first", "unicode/utf8.acceptRanges", "internal/bytealg.MaxLen"], apart := false, laid := [("unicode/utf8.acceptRanges", laid_unicode_utf8_acceptRanges), ("unicode/utf8.first", laid_unicode_utf8_first)], narrowed := true }
def FnExactTreeUnderUptoSaid : Prop := fnExactTreeUnderUptoRow.holds Tryd.pinned (OpenSpec.upto fnExactTreeUnderSpec)

/-- 'laws.FnExactTreeSums', WHERE WHAT IT READS IS OF BULK AT MOST 1048576: true; the input reads as it did. -/
def fnExactTreeSumsUptoRow : OpenClaim := { program := "ytehdoambbeddpaadoor", sum := "e836ca84a8bb9e290dd8fc375dc9894cbd292a9d52361790b2ec4b1e965b6a65", func := "loop.example/filereconciler/laws.FnExactTreeSums", spec := "fnExactTreeSums", inPlace := ["internal/bytealg.CountString", "internal/bytealg.IndexByteString", "internal/bytealg.IndexString"], unfollowed := true, recurses := true, named := ["unicode/utf8.first", "unicode/utf8.acceptRanges", "internal/bytealg.MaxLen"], apart := false, laid := [("unicode/utf8.acceptRanges", laid_unicode_utf8_acceptRanges), ("unicode/utf8.first", laid_unicode_utf8_first)], narrowed := true }
def FnExactTreeSumsUptoSaid : Prop := fnExactTreeSumsUptoRow.holds Tryd.pinned (OpenSpec.upto fnExactTreeSumsSpec)

/-- 'laws.FnExactTreeChanged', WHERE WHAT IT READS IS OF BULK AT MOST 1048576: true; the input reads as it did. -/
def fnExactTreeChangedUptoRow : OpenClaim := { program := "ytehdoambbeddpaadoor", sum := "e836ca84a8bb9e290dd8fc375dc9894cbd292a9d52361790b2ec4b1e965b6a65", func := "loop.example/filereconciler/laws.FnExactTreeChanged", spec := "fnExactTreeChanged", inPlace := ["internal/bytealg.CountString", "internal/bytealg.IndexByteString", "internal/bytealg.IndexString"], unfollowed := true, recurses := true, named := ["unicode/utf8.first", "unicode/utf8.acceptRanges", "internal/bytealg.MaxLen"], apart := false, laid := [("unicode/utf8.acceptRanges", laid_unicode_utf8_acceptRanges), ("unicode/utf8.first", laid_unicode_utf8_first)], narrowed := true }
def FnExactTreeChangedUptoSaid : Prop := fnExactTreeChangedUptoRow.holds Tryd.pinned (OpenSpec.upto fnExactTreeChangedSpec)

/-- 'laws.FnExactRemoveAll', WHERE WHAT IT READS IS OF BULK AT MOST 1048576: true; the input reads as it did. -/
def fnExactRemoveAllUptoRow : OpenClaim := { program := "ytehdoambbeddpaadoor", sum := "e836ca84a8bb9e290dd8fc375dc9894cbd292a9d52361790b2ec4b1e965b6a65", func := "loop.example/filereconciler/laws.FnExactRemoveAll", spec := "fnExactRemoveAll", inPlace := ["internal/bytealg.CountString", "internal/bytealg.IndexByteString", "internal/bytealg.IndexString"], unfollowed := true, recurses := true, named := ["unicode/utf8.first", "unicode/utf8.acceptRanges", "internal/bytealg.MaxLen"], apart := false, laid := [("unicode/utf8.acceptRanges", laid_unicode_utf8_acceptRanges), ("unicode/utf8.first", laid_unicode_utf8_first)], narrowed := true }
def FnExactRemoveAllUptoSaid : Prop := fnExactRemoveAllUptoRow.holds Tryd.pinned (OpenSpec.upto fnExactRemoveAllSpec)

/-- 'laws.FnExactTreePut', WHERE WHAT IT READS IS OF BULK AT MOST 1048576: true; the input reads as it did. -/
def fnExactTreePutUptoRow : OpenClaim := { program := "ytehdoambbeddpaadoor", sum := "e836ca84a8bb9e290dd8fc375dc9894cbd292a9d52361790b2ec4b1e965b6a65", func := "loop.example/filereconciler/laws.FnExactTreePut", spec := "fnExactTreePut", inPlace := ["internal/bytealg.CountString", "internal/bytealg.IndexByteString", "internal/bytealg.IndexString", "slices.overlaps[loop.example/filereconciler/impl.Node]"], unfollowed := true, recurses := true, named := ["unicode/utf8.first", "unicode/utf8.acceptRanges", "internal/bytealg.MaxLen"], apart := false, laid := [("unicode/utf8.acceptRanges", laid_unicode_utf8_acceptRanges), ("unicode/utf8.first", laid_unicode_utf8_first)], narrowed := true }
def FnExactTreePutUptoSaid : Prop := fnExactTreePutUptoRow.holds Tryd.pinned (OpenSpec.upto fnExactTreePutSpec)

end Rows
end Go.Proofs.YtehdoambbeddpaaDoor
