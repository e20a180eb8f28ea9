/-
  NARROWER THAN 'FOR EVERY INPUT', by the rows' own cells (each row's printed sentence says how): FnExactLogCanon: laid · FnExactCanonJoin: laid · FnExactMustPrecede: laid · FnExactCommandsClash: laid · FnExactLogValid: laid · FnExactOrderFits: laid · FnExactCanonValid: laid · FnExactLogUndo: laid · FnExactOrdersCount: laid · FnExactOrderSwap: laid.
  DERIVED. THE GIVEN ROWS OF THIS SEAT. 10 by the template 'for every input the law returns true; each argument reads behind the call as it read before'; 0 by the template 'total and deterministic' (their statements: YtkbebgpafjopnaaDoorTotals.lean).
  GIVEN WITH THE SEED: the statements are not yours to turn. If you find one false, say at which input.
  Laid BY PROGRAM, IN A SANDBOX (cutbox-rows.mjs): the forced cells as the released guide's own fill.sh prints them over the translation 477883361d7acb79… (all of the seat's roots in one cut). By AI agents, Wed Nov 11 2026. No macro, syntax, notation, axiom, sorry.
-/
import Derived.Test.YtkbebgpafjopnaaDoorChecked
import GoSem.PinnedTables
import GoSem.Claim
import GoSem.ClaimJoined
import GoSem.ClaimMapViews
import Derived.JoinedTies
import Derived.KernelRfl
namespace Go.Proofs.YtkbebgpafjopnaaDoor
/- THE CELL 'sum', in the pinned program and in every row, IS THE sha256 OF THE DUMP (.gsa) THAT YtkbebgpafjopnaaDoorProg.lean LOADS. Nothing in Lean hashes anything: it is a label: what it is worth is what the hold of that sum in a sandbox is worth. -/
noncomputable def Tryd.pinned : Pinned := { name := "ytkbebgpafjopnaadoor", sum := "477883361d7acb795d54f0037fe94d0c35e961b01b6a34b703f2807fe6d36277", checked := Tryd.checked }
namespace Rows
def none {H : Type} : Left H := { results := [], args := [] }

/- WHAT THE LISTED PACKAGE-LEVEL VARIABLES READ AS WHEN THE CALL BEGINS. Each datum BY PROGRAM (the guide's laid-datum.mjs) off the statement by which the dump's own 'gosem.cut.vars' lays the variable. In a bare row this is a premise. The card (YtkbebgpafjopnaaDoorCards.lean) ties it to the program's text. -/
def laid_unicode_utf8_acceptRanges {H : Type} : DataW H := .agg [.agg [.lit (.int .u8 128), .lit (.int .u8 191)], .agg [.lit (.int .u8 160), .lit (.int .u8 191)], .agg [.lit (.int .u8 128), .lit (.int .u8 159)], .agg [.lit (.int .u8 144), .lit (.int .u8 191)], .agg [.lit (.int .u8 128), .lit (.int .u8 143)], .agg [.lit (.int .u8 0), .lit (.int .u8 0)], .agg [.lit (.int .u8 0), .lit (.int .u8 0)], .agg [.lit (.int .u8 0), .lit (.int .u8 0)], .agg [.lit (.int .u8 0), .lit (.int .u8 0)], .agg [.lit (.int .u8 0), .lit (.int .u8 0)], .agg [.lit (.int .u8 0), .lit (.int .u8 0)], .agg [.lit (.int .u8 0), .lit (.int .u8 0)], .agg [.lit (.int .u8 0), .lit (.int .u8 0)], .agg [.lit (.int .u8 0), .lit (.int .u8 0)], .agg [.lit (.int .u8 0), .lit (.int .u8 0)], .agg [.lit (.int .u8 0), .lit (.int .u8 0)]]
/-- One of Go's own tables, pinned by name: the form's constant. -/
def laid_unicode_utf8_first : DataW Unit := Go.Pinned.utf8First

/-- 'laws.FnExactLogCanon': WHATEVER THE INPUT: true; the input reads as it did. -/
def fnExactLogCanonSpec : ChangeSpec := { name := "fnExactLogCanon", fn := fun _ => fun
  | [d] => { results := [.lit (.bool true)], args := [d] }
  | _ => none }
def fnExactLogCanonRow : OpenClaim := { program := "ytkbebgpafjopnaadoor", sum := "477883361d7acb795d54f0037fe94d0c35e961b01b6a34b703f2807fe6d36277", func := "loop.example/filereconciler/laws.FnExactLogCanon", spec := "fnExactLogCanon", inPlace := ["internal/bytealg.CountString", "internal/bytealg.IndexByteString", "internal/bytealg.IndexString"], unfollowed := true, recurses := true, named := ["unicode/utf8.first", "unicode/utf8.acceptRanges", "internal/bytealg.MaxLen"], apart := false, laid := [("unicode/utf8.acceptRanges", laid_unicode_utf8_acceptRanges), ("unicode/utf8.first", laid_unicode_utf8_first)] }
def FnExactLogCanonSaid : Prop := fnExactLogCanonRow.holds Tryd.pinned (OpenSpec.ofChange fnExactLogCanonSpec)

/-- ITS FALSE NEIGHBOUR: 'it returns false'. Refute it at one input. -/
def fnExactLogCanonWrong : ChangeSpec := { name := "fnExactLogCanon", fn := fun _ => fun
  | [d] => { results := [.lit (.bool false)], args := [d] }
  | _ => none }
def FnExactLogCanonWrongFalsely : Prop := fnExactLogCanonRow.holds Tryd.pinned (OpenSpec.ofChange fnExactLogCanonWrong)

/-- 'laws.FnExactCanonJoin': WHATEVER THE INPUT: true; the input reads as it did. -/
def fnExactCanonJoinSpec : ChangeSpec := { name := "fnExactCanonJoin", fn := fun _ => fun
  | [d1, d2] => { results := [.lit (.bool true)], args := [d1, d2] }
  | _ => none }
def fnExactCanonJoinRow : OpenClaim := { program := "ytkbebgpafjopnaadoor", sum := "477883361d7acb795d54f0037fe94d0c35e961b01b6a34b703f2807fe6d36277", func := "loop.example/filereconciler/laws.FnExactCanonJoin", spec := "fnExactCanonJoin", inPlace := ["internal/bytealg.CountString", "internal/bytealg.IndexByteString", "internal/bytealg.IndexString"], unfollowed := true, recurses := true, named := ["unicode/utf8.first", "unicode/utf8.acceptRanges", "internal/bytealg.MaxLen"], apart := false, laid := [("unicode/utf8.acceptRanges", laid_unicode_utf8_acceptRanges), ("unicode/utf8.first", laid_unicode_utf8_first)] }
def FnExactCanonJoinSaid : Prop := fnExactCanonJoinRow.holds Tryd.pinned (OpenSpec.ofChange fnExactCanonJoinSpec)

/-- ITS FALSE NEIGHBOUR: 'it returns false'. Refute it at one input. -/
def fnExactCanonJoinWrong : ChangeSpec := { name := "fnExactCanonJoin", fn := fun _ => fun
  | [d1, d2] => { results := [.lit (.bool false)], args := [d1, d2] }
  | _ => none }
def FnExactCanonJoinWrongFalsely : Prop := fnExactCanonJoinRow.holds Tryd.pinned (OpenSpec.ofChange fnExactCanonJoinWrong)

/-- 'laws.FnExactMustPrecede': WHATEVER THE INPUT: true; the input reads as it did. -/
def fnExactMustPrecedeSpec : ChangeSpec := { name := "fnExactMustPrecede", fn := fun _ => fun
  | [d1, d2] => { results := [.lit (.bool true)], args := [d1, d2] }
  | _ => none }
def fnExactMustPrecedeRow : OpenClaim := { program := "ytkbebgpafjopnaadoor", sum := "477883361d7acb795d54f0037fe94d0c35e961b01b6a34b703f2807fe6d36277", func := "loop.example/filereconciler/laws.FnExactMustPrecede", spec := "fnExactMustPrecede", inPlace := ["internal/bytealg.CountString", "internal/bytealg.IndexByteString", "internal/bytealg.IndexString"], named := ["unicode/utf8.first", "unicode/utf8.acceptRanges", "internal/bytealg.MaxLen"], apart := false, laid := [("unicode/utf8.acceptRanges", laid_unicode_utf8_acceptRanges), ("unicode/utf8.first", laid_unicode_utf8_first)] }
def FnExactMustPrecedeSaid : Prop := fnExactMustPrecedeRow.holds Tryd.pinned (OpenSpec.ofChange fnExactMustPrecedeSpec)

/-- ITS FALSE NEIGHBOUR: 'it returns false'. Refute it at one input. -/
def fnExactMustPrecedeWrong : ChangeSpec := { name := "fnExactMustPrecede", fn := fun _ => fun
  | [d1, d2] => { results := [.lit (.bool false)], args := [d1, d2] }
  | _ => none }
def FnExactMustPrecedeWrongFalsely : Prop := fnExactMustPrecedeRow.holds Tryd.pinned (OpenSpec.ofChange fnExactMustPrecedeWrong)

/-- 'laws.FnExactCommandsClash': WHATEVER THE INPUT: true; the input reads as it did. -/
def fnExactCommandsClashSpec : ChangeSpec := { name := "fnExactCommandsClash", fn := fun _ => fun
  | [d1, d2] => { results := [.lit (.bool true)], args := [d1, d2] }
  | _ => none }
def fnExactCommandsClashRow : OpenClaim := { program := "ytkbebgpafjopnaadoor", sum := "477883361d7acb795d54f0037fe94d0c35e961b01b6a34b703f2807fe6d36277", func := "loop.example/filereconciler/laws.FnExactCommandsClash", spec := "fnExactCommandsClash", inPlace := ["internal/bytealg.CountString", "internal/bytealg.IndexByteString", "internal/bytealg.IndexString"], named := ["unicode/utf8.first", "unicode/utf8.acceptRanges", "internal/bytealg.MaxLen"], apart := false, laid := [("unicode/utf8.acceptRanges", laid_unicode_utf8_acceptRanges), ("unicode/utf8.first", laid_unicode_utf8_first)] }
def FnExactCommandsClashSaid : Prop := fnExactCommandsClashRow.holds Tryd.pinned (OpenSpec.ofChange fnExactCommandsClashSpec)

/-- ITS FALSE NEIGHBOUR: 'it returns false'. Refute it at one input. -/
def fnExactCommandsClashWrong : ChangeSpec := { name := "fnExactCommandsClash", fn := fun _ => fun
  | [d1, d2] => { results := [.lit (.bool false)], args := [d1, d2] }
  | _ => none }
def FnExactCommandsClashWrongFalsely : Prop := fnExactCommandsClashRow.holds Tryd.pinned (OpenSpec.ofChange fnExactCommandsClashWrong)

/-- 'laws.FnExactLogValid': WHATEVER THE INPUT: true; the input reads as it did. -/
def fnExactLogValidSpec : ChangeSpec := { name := "fnExactLogValid", fn := fun _ => fun
  | [d] => { results := [.lit (.bool true)], args := [d] }
  | _ => none }
def fnExactLogValidRow : OpenClaim := { program := "ytkbebgpafjopnaadoor", sum := "477883361d7acb795d54f0037fe94d0c35e961b01b6a34b703f2807fe6d36277", func := "loop.example/filereconciler/laws.FnExactLogValid", spec := "fnExactLogValid", inPlace := ["internal/bytealg.CountString", "internal/bytealg.IndexByteString", "internal/bytealg.IndexString"], unfollowed := true, recurses := true, named := ["unicode/utf8.first", "unicode/utf8.acceptRanges", "internal/bytealg.MaxLen"], apart := false, laid := [("unicode/utf8.acceptRanges", laid_unicode_utf8_acceptRanges), ("unicode/utf8.first", laid_unicode_utf8_first)] }
def FnExactLogValidSaid : Prop := fnExactLogValidRow.holds Tryd.pinned (OpenSpec.ofChange fnExactLogValidSpec)

/-- ITS FALSE NEIGHBOUR: 'it returns false'. Refute it at one input. -/
def fnExactLogValidWrong : ChangeSpec := { name := "fnExactLogValid", fn := fun _ => fun
  | [d] => { results := [.lit (.bool false)], args := [d] }
  | _ => none }
def FnExactLogValidWrongFalsely : Prop := fnExactLogValidRow.holds Tryd.pinned (OpenSpec.ofChange fnExactLogValidWrong)

/-- 'laws.FnExactOrderFits': WHATEVER THE INPUT: true; the input reads as it did. -/
def fnExactOrderFitsSpec : ChangeSpec := { name := "fnExactOrderFits", fn := fun _ => fun
  | [d] => { results := [.lit (.bool true)], args := [d] }
  | _ => none }
def fnExactOrderFitsRow : OpenClaim := { program := "ytkbebgpafjopnaadoor", sum := "477883361d7acb795d54f0037fe94d0c35e961b01b6a34b703f2807fe6d36277", func := "loop.example/filereconciler/laws.FnExactOrderFits", spec := "fnExactOrderFits", inPlace := ["internal/bytealg.CountString", "internal/bytealg.IndexByteString", "internal/bytealg.IndexString"], unfollowed := true, recurses := true, named := ["unicode/utf8.first", "unicode/utf8.acceptRanges", "internal/bytealg.MaxLen"], apart := false, laid := [("unicode/utf8.acceptRanges", laid_unicode_utf8_acceptRanges), ("unicode/utf8.first", laid_unicode_utf8_first)] }
def FnExactOrderFitsSaid : Prop := fnExactOrderFitsRow.holds Tryd.pinned (OpenSpec.ofChange fnExactOrderFitsSpec)

/-- ITS FALSE NEIGHBOUR: 'it returns false'. Refute it at one input. -/
def fnExactOrderFitsWrong : ChangeSpec := { name := "fnExactOrderFits", fn := fun _ => fun
  | [d] => { results := [.lit (.bool false)], args := [d] }
  | _ => none }
def FnExactOrderFitsWrongFalsely : Prop := fnExactOrderFitsRow.holds Tryd.pinned (OpenSpec.ofChange fnExactOrderFitsWrong)

/-- 'laws.FnExactCanonValid': WHATEVER THE INPUT: true; the input reads as it did. -/
def fnExactCanonValidSpec : ChangeSpec := { name := "fnExactCanonValid", fn := fun _ => fun
  | [d] => { results := [.lit (.bool true)], args := [d] }
  | _ => none }
def fnExactCanonValidRow : OpenClaim := { program := "ytkbebgpafjopnaadoor", sum := "477883361d7acb795d54f0037fe94d0c35e961b01b6a34b703f2807fe6d36277", func := "loop.example/filereconciler/laws.FnExactCanonValid", spec := "fnExactCanonValid", inPlace := ["internal/bytealg.CountString", "internal/bytealg.IndexByteString", "internal/bytealg.IndexString"], unfollowed := true, recurses := true, named := ["unicode/utf8.first", "unicode/utf8.acceptRanges", "internal/bytealg.MaxLen"], apart := false, laid := [("unicode/utf8.acceptRanges", laid_unicode_utf8_acceptRanges), ("unicode/utf8.first", laid_unicode_utf8_first)] }
def FnExactCanonValidSaid : Prop := fnExactCanonValidRow.holds Tryd.pinned (OpenSpec.ofChange fnExactCanonValidSpec)

/-- ITS FALSE NEIGHBOUR: 'it returns false'. Refute it at one input. -/
def fnExactCanonValidWrong : ChangeSpec := { name := "fnExactCanonValid", fn := fun _ => fun
  | [d] => { results := [.lit (.bool false)], args := [d] }
  | _ => none }
def FnExactCanonValidWrongFalsely : Prop := fnExactCanonValidRow.holds Tryd.pinned (OpenSpec.ofChange fnExactCanonValidWrong)

/-- 'laws.FnExactLogUndo': WHATEVER THE INPUT: true; the input reads as it did. -/
def fnExactLogUndoSpec : ChangeSpec := { name := "fnExactLogUndo", fn := fun _ => fun
  | [d] => { results := [.lit (.bool true)], args := [d] }
  | _ => none }
def fnExactLogUndoRow : OpenClaim := { program := "ytkbebgpafjopnaadoor", sum := "477883361d7acb795d54f0037fe94d0c35e961b01b6a34b703f2807fe6d36277", func := "loop.example/filereconciler/laws.FnExactLogUndo", spec := "fnExactLogUndo", inPlace := ["internal/bytealg.CountString", "internal/bytealg.IndexByteString", "internal/bytealg.IndexString"], unfollowed := true, recurses := true, named := ["unicode/utf8.first", "unicode/utf8.acceptRanges", "internal/bytealg.MaxLen"], apart := false, laid := [("unicode/utf8.acceptRanges", laid_unicode_utf8_acceptRanges), ("unicode/utf8.first", laid_unicode_utf8_first)] }
def FnExactLogUndoSaid : Prop := fnExactLogUndoRow.holds Tryd.pinned (OpenSpec.ofChange fnExactLogUndoSpec)

/-- ITS FALSE NEIGHBOUR: 'it returns false'. Refute it at one input. -/
def fnExactLogUndoWrong : ChangeSpec := { name := "fnExactLogUndo", fn := fun _ => fun
  | [d] => { results := [.lit (.bool false)], args := [d] }
  | _ => none }
def FnExactLogUndoWrongFalsely : Prop := fnExactLogUndoRow.holds Tryd.pinned (OpenSpec.ofChange fnExactLogUndoWrong)

/-- 'laws.FnExactOrdersCount': WHATEVER THE INPUT: true; the input reads as it did. -/
def fnExactOrdersCountSpec : ChangeSpec := { name := "fnExactOrdersCount", fn := fun _ => fun
  | [d] => { results := [.lit (.bool true)], args := [d] }
  | _ => none }
def fnExactOrdersCountRow : OpenClaim := { program := "ytkbebgpafjopnaadoor", sum := "477883361d7acb795d54f0037fe94d0c35e961b01b6a34b703f2807fe6d36277", func := "loop.example/filereconciler/laws.FnExactOrdersCount", spec := "fnExactOrdersCount", inPlace := ["internal/bytealg.CountString", "internal/bytealg.IndexByteString", "internal/bytealg.IndexString"], unfollowed := true, recurses := true, named := ["unicode/utf8.first", "unicode/utf8.acceptRanges", "internal/bytealg.MaxLen"], apart := false, laid := [("unicode/utf8.acceptRanges", laid_unicode_utf8_acceptRanges), ("unicode/utf8.first", laid_unicode_utf8_first)] }
def FnExactOrdersCountSaid : Prop := fnExactOrdersCountRow.holds Tryd.pinned (OpenSpec.ofChange fnExactOrdersCountSpec)

/-- ITS FALSE NEIGHBOUR: 'it returns false'. Refute it at one input. -/
def fnExactOrdersCountWrong : ChangeSpec := { name := "fnExactOrdersCount", fn := fun _ => fun
  | [d] => { results := [.lit (.bool false)], args := [d] }
  | _ => none }
def FnExactOrdersCountWrongFalsely : Prop := fnExactOrdersCountRow.holds Tryd.pinned (OpenSpec.ofChange fnExactOrdersCountWrong)

/-- 'laws.FnExactOrderSwap': WHATEVER THE INPUT: true; the input reads as it did. -/
def fnExactOrderSwapSpec : ChangeSpec := { name := "fnExactOrderSwap", fn := fun _ => fun
  | [d1, d2] => { results := [.lit (.bool true)], args := [d1, d2] }
  | _ => none }
def fnExactOrderSwapRow : OpenClaim := { program := "ytkbebgpafjopnaadoor", sum := "477883361d7acb795d54f0037fe94d0c35e961b01b6a34b703f2807fe6d36277", func := "loop.example/filereconciler/laws.FnExactOrderSwap", spec := "fnExactOrderSwap", inPlace := ["internal/bytealg.CountString", "internal/bytealg.IndexByteString", "internal/bytealg.IndexString"], unfollowed := true, recurses := true, named := ["unicode/utf8.first", "unicode/utf8.acceptRanges", "internal/bytealg.MaxLen"], apart := false, laid := [("unicode/utf8.acceptRanges", laid_unicode_utf8_acceptRanges), ("unicode/utf8.first", laid_unicode_utf8_first)] }
def FnExactOrderSwapSaid : Prop := fnExactOrderSwapRow.holds Tryd.pinned (OpenSpec.ofChange fnExactOrderSwapSpec)

/-- ITS FALSE NEIGHBOUR: 'it returns false'. Refute it at one input. -/
def fnExactOrderSwapWrong : ChangeSpec := { name := "fnExactOrderSwap", fn := fun _ => fun
  | [d1, d2] => { results := [.lit (.bool false)], args := [d1, d2] }
  | _ => none }
def FnExactOrderSwapWrongFalsely : Prop := fnExactOrderSwapRow.holds Tryd.pinned (OpenSpec.ofChange fnExactOrderSwapWrong)

/- THE SECOND FORM. 'bulk': how many values and letters a reading holds, each counted each time it is reached (what is shared counts as often as it is met; a slice's spare places count too). A statement '..UptoSaid' is the law's where the arguments, and the package variables that the reading takes, are together of bulk at most 1048576: NARROWER than '..Said'. Prove '..Said' where nothing that the law and all that it calls make is longer than what came in: it says more and counts as full. Else prove '..UptoSaid'. A law counts once. -/
mutual
def uptoBulk {H : Type} : DataW H → Nat
  | .lit (.string bytes) => bytes.length + 1
  | .lit _ => 1
  | .nil => 1
  | .ptr d => uptoBulk d + 1
  | .slice elems spare => uptoBulkAll elems + uptoBulkAll spare + 1
  | .agg parts => uptoBulkAll parts + 1
  | .iface _ d => uptoBulk d + 1
  | .map entries => uptoBulkEntries entries + 1
  | .held _ => 1
def uptoBulkAll {H : Type} : List (DataW H) → Nat
  | [] => 0
  | d :: r => uptoBulk d + uptoBulkAll r
def uptoBulkEntries {H : Type} : List (Lit × DataW H) → Nat
  | [] => 0
  | x :: r => uptoBulkEntry x + uptoBulkEntries r
def uptoBulkEntry {H : Type} : Lit × DataW H → Nat
  | (.string bytes, d) => bytes.length + uptoBulk d + 1
  | (_, d) => uptoBulk d + 1
 end
def uptoSmall : (H : Type) → List (DataW H) → Bool := fun _ ds => decide (uptoBulkAll ds ≤ 1048576)
def OpenSpec.upto (s : _root_.Go.ChangeSpec) : _root_.Go.OpenSpec := { _root_.Go.OpenSpec.ofChange s with cond := some uptoSmall }

/-- 'laws.FnExactLogCanon', WHERE WHAT IT READS IS OF BULK AT MOST 1048576: true; the input reads as it did. -/
def fnExactLogCanonUptoRow : OpenClaim := { program := "ytkbebgpafjopnaadoor", sum := "477883361d7acb795d54f0037fe94d0c35e961b01b6a34b703f2807fe6d36277", func := "loop.example/filereconciler/laws.FnExactLogCanon", spec := "fnExactLogCanon", inPlace := ["internal/bytealg.CountString", "internal/bytealg.IndexByteString", "internal/bytealg.IndexString"], unfollowed := true, recurses := true, named := ["unicode/utf8.first", "unicode/utf8.acceptRanges", "internal/bytealg.MaxLen"], apart := false, laid := [("unicode/utf8.acceptRanges", laid_unicode_utf8_acceptRanges), ("unicode/utf8.first", laid_unicode_utf8_first)], narrowed := true }
def FnExactLogCanonUptoSaid : Prop := fnExactLogCanonUptoRow.holds Tryd.pinned (OpenSpec.upto fnExactLogCanonSpec)

/-- 'laws.FnExactCanonJoin', WHERE WHAT IT READS IS OF BULK AT MOST 1048576: true; the input reads as it did. -/
def fnExactCanonJoinUptoRow : OpenClaim := { program := "ytkbebgpafjopnaadoor", sum := "477883361d7acb795d54f0037fe94d0c35e961b01b6a34b703f2807fe6d36277", func := "loop.example/filereconciler/laws.FnExactCanonJoin", spec := "fnExactCanonJoin", inPlace := ["internal/bytealg.CountString", "internal/bytealg.IndexByteString", "internal/bytealg.IndexString"], unfollowed := true, recurses := true, named := ["unicode/utf8.first", "unicode/utf8.acceptRanges", "internal/bytealg.MaxLen"], apart := false, laid := [("unicode/utf8.acceptRanges", laid_unicode_utf8_acceptRanges), ("unicode/utf8.first", laid_unicode_utf8_first)], narrowed := true }
def FnExactCanonJoinUptoSaid : Prop := fnExactCanonJoinUptoRow.holds Tryd.pinned (OpenSpec.upto fnExactCanonJoinSpec)

/-- 'laws.FnExactMustPrecede', WHERE WHAT IT READS IS OF BULK AT MOST 1048576: true; the input reads as it did. -/
def fnExactMustPrecedeUptoRow : OpenClaim := { program := "ytkbebgpafjopnaadoor", sum := "477883361d7acb795d54f0037fe94d0c35e961b01b6a34b703f2807fe6d36277", func := "loop.example/filereconciler/laws.FnExactMustPrecede", spec := "fnExactMustPrecede", inPlace := ["internal/bytealg.CountString", "internal/bytealg.IndexByteString", "internal/bytealg.IndexString"], named := ["unicode/utf8.first", "unicode/utf8.acceptRanges", "internal/bytealg.MaxLen"], apart := false, laid := [("unicode/utf8.acceptRanges", laid_unicode_utf8_acceptRanges), ("unicode/utf8.first", laid_unicode_utf8_first)], narrowed := true }
def FnExactMustPrecedeUptoSaid : Prop := fnExactMustPrecedeUptoRow.holds Tryd.pinned (OpenSpec.upto fnExactMustPrecedeSpec)

/-- 'laws.FnExactCommandsClash', WHERE WHAT IT READS IS OF BULK AT MOST 1048576: true; the input reads as it did. -/
def fnExactCommandsClashUptoRow : OpenClaim := { program := "ytkbebgpafjopnaadoor", sum := "477883361d7acb795d54f0037fe94d0c35e961b01b6a34b703f2807fe6d36277", func := "loop.example/filereconciler/laws.FnExactCommandsClash", spec := "fnExactCommandsClash", inPlace := ["internal/bytealg.CountString", "internal/bytealg.IndexByteString", "internal/bytealg.IndexString"], named := ["unicode/utf8.first", "unicode/utf8.acceptRanges", "internal/bytealg.MaxLen"], apart := false, laid := [("unicode/utf8.acceptRanges", laid_unicode_utf8_acceptRanges), ("unicode/utf8.first", laid_unicode_utf8_first)], narrowed := true }
def FnExactCommandsClashUptoSaid : Prop := fnExactCommandsClashUptoRow.holds Tryd.pinned (OpenSpec.upto fnExactCommandsClashSpec)

/-- 'laws.FnExactLogValid', WHERE WHAT IT READS IS OF BULK AT MOST 1048576: true; the input reads as it did. -/
def fnExactLogValidUptoRow : OpenClaim := { program := "ytkbebgpafjopnaadoor", sum := "477883361d7acb795d54f0037fe94d0c35e961b01b6a34b703f2807fe6d36277", func := "loop.example/filereconciler/laws.FnExactLogValid", spec := "fnExactLogValid", inPlace := ["internal/bytealg.CountString", "internal/bytealg.IndexByteString", "internal/bytealg.IndexString"], unfollowed := true, recurses := true, named := ["unicode/utf8.first", "unicode/utf8.acceptRanges", "internal/bytealg.MaxLen"], apart := false, laid := [("unicode/utf8.acceptRanges", laid_unicode_utf8_acceptRanges), ("unicode/utf8.first", laid_unicode_utf8_first)], narrowed := true }
def FnExactLogValidUptoSaid : Prop := fnExactLogValidUptoRow.holds Tryd.pinned (OpenSpec.upto fnExactLogValidSpec)

/-- 'laws.FnExactOrderFits', WHERE WHAT IT READS IS OF BULK AT MOST 1048576: true; the input reads as it did. -/
def fnExactOrderFitsUptoRow : OpenClaim := { program := "ytkbebgpafjopnaadoor", sum := "477883361d7acb795d54f0037fe94d0c35e961b01b6a34b703f2807fe6d36277", func := "loop.example/filereconciler/laws.FnExactOrderFits", spec := "fnExactOrderFits", inPlace := ["internal/bytealg.CountString", "internal/bytealg.IndexByteString", "internal/bytealg.IndexString"], unfollowed := true, recurses := true, named := ["unicode/utf8.first", "unicode/utf8.acceptRanges", "internal/bytealg.MaxLen"], apart := false, laid := [("unicode/utf8.acceptRanges", laid_unicode_utf8_acceptRanges), ("unicode/utf8.first", laid_unicode_utf8_first)], narrowed := true }
def FnExactOrderFitsUptoSaid : Prop := fnExactOrderFitsUptoRow.holds Tryd.pinned (OpenSpec.upto fnExactOrderFitsSpec)

/-- 'laws.FnExactCanonValid', WHERE WHAT IT READS IS OF BULK AT MOST 1048576: true; the input reads as it did. -/
def fnExactCanonValidUptoRow : OpenClaim := { program := "ytkbebgpafjopnaadoor", sum := "477883361d7acb795d54f0037fe94d0c35e961b01b6a34b703f2807fe6d36277", func := "loop.example/filereconciler/laws.FnExactCanonValid", spec := "fnExactCanonValid", inPlace := ["internal/bytealg.CountString", "internal/bytealg.IndexByteString", "internal/bytealg.IndexString"], unfollowed := true, recurses := true, named := ["unicode/utf8.first", "unicode/utf8.acceptRanges", "internal/bytealg.MaxLen"], apart := false, laid := [("unicode/utf8.acceptRanges", laid_unicode_utf8_acceptRanges), ("unicode/utf8.first", laid_unicode_utf8_first)], narrowed := true }
def FnExactCanonValidUptoSaid : Prop := fnExactCanonValidUptoRow.holds Tryd.pinned (OpenSpec.upto fnExactCanonValidSpec)

/-- 'laws.FnExactLogUndo', WHERE WHAT IT READS IS OF BULK AT MOST 1048576: true; the input reads as it did. -/
def fnExactLogUndoUptoRow : OpenClaim := { program := "ytkbebgpafjopnaadoor", sum := "477883361d7acb795d54f0037fe94d0c35e961b01b6a34b703f2807fe6d36277", func := "loop.example/filereconciler/laws.FnExactLogUndo", spec := "fnExactLogUndo", inPlace := ["internal/bytealg.CountString", "internal/bytealg.IndexByteString", "internal/bytealg.IndexString"], unfollowed := true, recurses := true, named := ["unicode/utf8.first", "unicode/utf8.acceptRanges", "internal/bytealg.MaxLen"], apart := false, laid := [("unicode/utf8.acceptRanges", laid_unicode_utf8_acceptRanges), ("unicode/utf8.first", laid_unicode_utf8_first)], narrowed := true }
def FnExactLogUndoUptoSaid : Prop := fnExactLogUndoUptoRow.holds Tryd.pinned (OpenSpec.upto fnExactLogUndoSpec)

/-- 'laws.FnExactOrdersCount', WHERE WHAT IT READS IS OF BULK AT MOST 1048576: true; the input reads as it did. -/
def fnExactOrdersCountUptoRow : OpenClaim := { program := "ytkbebgpafjopnaadoor", sum := "477883361d7acb795d54f0037fe94d0c35e961b01b6a34b703f2807fe6d36277", func := "loop.example/filereconciler/laws.FnExactOrdersCount", spec := "fnExactOrdersCount", inPlace := ["internal/bytealg.CountString", "internal/bytealg.IndexByteString", "internal/bytealg.IndexString"], unfollowed := true, recurses := true, named := ["unicode/utf8.first", "unicode/utf8.acceptRanges", "internal/bytealg.MaxLen"], apart := false, laid := [("unicode/utf8.acceptRanges", laid_unicode_utf8_acceptRanges), ("unicode/utf8.first", laid_unicode_utf8_first)], narrowed := true }
def FnExactOrdersCountUptoSaid : Prop := fnExactOrdersCountUptoRow.holds Tryd.pinned (OpenSpec.upto fnExactOrdersCountSpec)

/-- 'laws.FnExactOrderSwap', WHERE WHAT IT READS IS OF BULK AT MOST 1048576: true; the input reads as it did. -/
def fnExactOrderSwapUptoRow : OpenClaim := { program := "ytkbebgpafjopnaadoor", sum := "477883361d7acb795d54f0037fe94d0c35e961b01b6a34b703f2807fe6d36277", func := "loop.example/filereconciler/laws.FnExactOrderSwap", spec := "fnExactOrderSwap", inPlace := ["internal/bytealg.CountString", "internal/bytealg.IndexByteString", "internal/bytealg.IndexString"], unfollowed := true, recurses := true, named := ["unicode/utf8.first", "unicode/utf8.acceptRanges", "internal/bytealg.MaxLen"], apart := false, laid := [("unicode/utf8.acceptRanges", laid_unicode_utf8_acceptRanges), ("unicode/utf8.first", laid_unicode_utf8_first)], narrowed := true }
def FnExactOrderSwapUptoSaid : Prop := fnExactOrderSwapUptoRow.holds Tryd.pinned (OpenSpec.upto fnExactOrderSwapSpec)

end Rows
end Go.Proofs.YtkbebgpafjopnaaDoor
