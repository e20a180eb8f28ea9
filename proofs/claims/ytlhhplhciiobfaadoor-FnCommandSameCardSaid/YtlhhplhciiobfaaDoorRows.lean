/-
  NARROWER THAN 'FOR EVERY INPUT', by the rows' own cells (each row's printed sentence says how): FnExactCommandApply: laid · FnExactLogFits: laid · FnExactLogApply: laid · FnExactCopyAll: laid · FnExactMoveAll: laid · FnExactCanonDiff: laid · FnCommandSame: laid · FnExactRemoveAll: laid · FnExactLogCanon: laid · FnExactCanonJoin: laid · FnExactLogUndo: laid.
  DERIVED. THE GIVEN ROWS OF THIS SEAT. 11 by the template 'for every input the law returns true; each argument reads behind the call as it read before'; 0 by the template 'total and deterministic' (their statements: YtlhhplhciiobfaaDoorTotals.lean).
  GIVEN WITH THE SEED: the statements are not yours to turn. If you find one false, say at which input.
  Laid BY PROGRAM, IN A SANDBOX (cutbox-rows.mjs): the forced cells as the released guide's own fill.sh prints them over the translation 8a3ce74e80e9723d… (all of the seat's roots in one cut). By AI agents, Wed Nov 11 2026. No macro, syntax, notation, axiom, sorry.
-/
import Derived.Test.YtlhhplhciiobfaaDoorChecked
import GoSem.PinnedTables
import GoSem.Claim
import GoSem.ClaimJoined
import GoSem.ClaimMapViews
import Derived.JoinedTies
import Derived.KernelRfl
namespace Go.Proofs.YtlhhplhciiobfaaDoor
/- THE CELL 'sum', in the pinned program and in every row, IS THE sha256 OF THE DUMP (.gsa) THAT YtlhhplhciiobfaaDoorProg.lean LOADS. Nothing in Lean hashes anything: it is a label: what it is worth is what the hold of that sum in a sandbox is worth. -/
noncomputable def Tryd.pinned : Pinned := { name := "ytlhhplhciiobfaadoor", sum := "8a3ce74e80e9723dfccbdebe59b3e01b0d8266fe601dea41dd692b3d2ae5c976", checked := Tryd.checked }
namespace Rows
def none {H : Type} : Left H := { results := [], args := [] }

/- WHAT THE LISTED PACKAGE-LEVEL VARIABLES READ AS WHEN THE CALL BEGINS. Each datum BY PROGRAM (the guide's laid-datum.mjs) off the statement by which the dump's own 'gosem.cut.vars' lays the variable. In a bare row this is a premise. The card (YtlhhplhciiobfaaDoorCards.lean) ties it to the program's text. -/
def laid_unicode_utf8_acceptRanges {H : Type} : DataW H := .agg [.agg [.lit (.int .u8 128), .lit (.int .u8 191)], .agg [.lit (.int .u8 160), .lit (.int .u8 191)], .agg [.lit (.int .u8 128), .lit (.int .u8 159)], .agg [.lit (.int .u8 144), .lit (.int .u8 191)], .agg [.lit (.int .u8 128), .lit (.int .u8 143)], .agg [.lit (.int .u8 0), .lit (.int .u8 0)], .agg [.lit (.int .u8 0), .lit (.int .u8 0)], .agg [.lit (.int .u8 0), .lit (.int .u8 0)], .agg [.lit (.int .u8 0), .lit (.int .u8 0)], .agg [.lit (.int .u8 0), .lit (.int .u8 0)], .agg [.lit (.int .u8 0), .lit (.int .u8 0)], .agg [.lit (.int .u8 0), .lit (.int .u8 0)], .agg [.lit (.int .u8 0), .lit (.int .u8 0)], .agg [.lit (.int .u8 0), .lit (.int .u8 0)], .agg [.lit (.int .u8 0), .lit (.int .u8 0)], .agg [.lit (.int .u8 0), .lit (.int .u8 0)]]
/-- One of Go's own tables, pinned by name: the form's constant. -/
def laid_unicode_utf8_first : DataW Unit := Go.Pinned.utf8First

/-- 'laws.FnExactCommandApply': WHATEVER THE INPUT: true; the input reads as it did. -/
def fnExactCommandApplySpec : ChangeSpec := { name := "fnExactCommandApply", fn := fun _ => fun
  | [d1, d2] => { results := [.lit (.bool true)], args := [d1, d2] }
  | _ => none }
def fnExactCommandApplyRow : OpenClaim := { program := "ytlhhplhciiobfaadoor", sum := "8a3ce74e80e9723dfccbdebe59b3e01b0d8266fe601dea41dd692b3d2ae5c976", func := "loop.example/filereconciler/laws.FnExactCommandApply", spec := "fnExactCommandApply", inPlace := ["internal/bytealg.CountString", "internal/bytealg.IndexByteString", "internal/bytealg.IndexString", "slices.overlaps[loop.example/filereconciler/impl.Node]"], unfollowed := true, recurses := true, named := ["unicode/utf8.first", "unicode/utf8.acceptRanges", "internal/bytealg.MaxLen"], apart := false, laid := [("unicode/utf8.acceptRanges", laid_unicode_utf8_acceptRanges), ("unicode/utf8.first", laid_unicode_utf8_first)] }
def FnExactCommandApplySaid : Prop := fnExactCommandApplyRow.holds Tryd.pinned (OpenSpec.ofChange fnExactCommandApplySpec)

/-- ITS FALSE NEIGHBOUR: 'it returns false'. Refute it at one input. -/
def fnExactCommandApplyWrong : ChangeSpec := { name := "fnExactCommandApply", fn := fun _ => fun
  | [d1, d2] => { results := [.lit (.bool false)], args := [d1, d2] }
  | _ => none }
def FnExactCommandApplyWrongFalsely : Prop := fnExactCommandApplyRow.holds Tryd.pinned (OpenSpec.ofChange fnExactCommandApplyWrong)

/-- 'laws.FnExactLogFits': WHATEVER THE INPUT: true; the input reads as it did. -/
def fnExactLogFitsSpec : ChangeSpec := { name := "fnExactLogFits", fn := fun _ => fun
  | [d1, d2] => { results := [.lit (.bool true)], args := [d1, d2] }
  | _ => none }
def fnExactLogFitsRow : OpenClaim := { program := "ytlhhplhciiobfaadoor", sum := "8a3ce74e80e9723dfccbdebe59b3e01b0d8266fe601dea41dd692b3d2ae5c976", func := "loop.example/filereconciler/laws.FnExactLogFits", spec := "fnExactLogFits", inPlace := ["internal/bytealg.CountString", "internal/bytealg.IndexByteString", "internal/bytealg.IndexString", "slices.overlaps[loop.example/filereconciler/impl.Node]"], unfollowed := true, recurses := true, named := ["unicode/utf8.first", "unicode/utf8.acceptRanges", "internal/bytealg.MaxLen"], apart := false, laid := [("unicode/utf8.acceptRanges", laid_unicode_utf8_acceptRanges), ("unicode/utf8.first", laid_unicode_utf8_first)] }
def FnExactLogFitsSaid : Prop := fnExactLogFitsRow.holds Tryd.pinned (OpenSpec.ofChange fnExactLogFitsSpec)

/-- ITS FALSE NEIGHBOUR: 'it returns false'. Refute it at one input. -/
def fnExactLogFitsWrong : ChangeSpec := { name := "fnExactLogFits", fn := fun _ => fun
  | [d1, d2] => { results := [.lit (.bool false)], args := [d1, d2] }
  | _ => none }
def FnExactLogFitsWrongFalsely : Prop := fnExactLogFitsRow.holds Tryd.pinned (OpenSpec.ofChange fnExactLogFitsWrong)

/-- 'laws.FnExactLogApply': WHATEVER THE INPUT: true; the input reads as it did. -/
def fnExactLogApplySpec : ChangeSpec := { name := "fnExactLogApply", fn := fun _ => fun
  | [d1, d2] => { results := [.lit (.bool true)], args := [d1, d2] }
  | _ => none }
def fnExactLogApplyRow : OpenClaim := { program := "ytlhhplhciiobfaadoor", sum := "8a3ce74e80e9723dfccbdebe59b3e01b0d8266fe601dea41dd692b3d2ae5c976", func := "loop.example/filereconciler/laws.FnExactLogApply", spec := "fnExactLogApply", inPlace := ["internal/bytealg.CountString", "internal/bytealg.IndexByteString", "internal/bytealg.IndexString", "slices.overlaps[loop.example/filereconciler/impl.Node]"], unfollowed := true, recurses := true, named := ["unicode/utf8.first", "unicode/utf8.acceptRanges", "internal/bytealg.MaxLen"], apart := false, laid := [("unicode/utf8.acceptRanges", laid_unicode_utf8_acceptRanges), ("unicode/utf8.first", laid_unicode_utf8_first)] }
def FnExactLogApplySaid : Prop := fnExactLogApplyRow.holds Tryd.pinned (OpenSpec.ofChange fnExactLogApplySpec)

/-- ITS FALSE NEIGHBOUR: 'it returns false'. Refute it at one input. -/
def fnExactLogApplyWrong : ChangeSpec := { name := "fnExactLogApply", fn := fun _ => fun
  | [d1, d2] => { results := [.lit (.bool false)], args := [d1, d2] }
  | _ => none }
def FnExactLogApplyWrongFalsely : Prop := fnExactLogApplyRow.holds Tryd.pinned (OpenSpec.ofChange fnExactLogApplyWrong)

/-- 'laws.FnExactCopyAll': WHATEVER THE INPUT: true; the input reads as it did. -/
def fnExactCopyAllSpec : ChangeSpec := { name := "fnExactCopyAll", fn := fun _ => fun
  | [d1, d2, d3] => { results := [.lit (.bool true)], args := [d1, d2, d3] }
  | _ => none }
def fnExactCopyAllRow : OpenClaim := { program := "ytlhhplhciiobfaadoor", sum := "8a3ce74e80e9723dfccbdebe59b3e01b0d8266fe601dea41dd692b3d2ae5c976", func := "loop.example/filereconciler/laws.FnExactCopyAll", spec := "fnExactCopyAll", inPlace := ["internal/bytealg.CountString", "internal/bytealg.IndexByteString", "internal/bytealg.IndexString", "slices.overlaps[loop.example/filereconciler/impl.Node]"], unfollowed := true, recurses := true, named := ["unicode/utf8.first", "unicode/utf8.acceptRanges", "internal/bytealg.MaxLen"], apart := false, laid := [("unicode/utf8.acceptRanges", laid_unicode_utf8_acceptRanges), ("unicode/utf8.first", laid_unicode_utf8_first)] }
def FnExactCopyAllSaid : Prop := fnExactCopyAllRow.holds Tryd.pinned (OpenSpec.ofChange fnExactCopyAllSpec)

/-- ITS FALSE NEIGHBOUR: 'it returns false'. Refute it at one input. -/
def fnExactCopyAllWrong : ChangeSpec := { name := "fnExactCopyAll", fn := fun _ => fun
  | [d1, d2, d3] => { results := [.lit (.bool false)], args := [d1, d2, d3] }
  | _ => none }
def FnExactCopyAllWrongFalsely : Prop := fnExactCopyAllRow.holds Tryd.pinned (OpenSpec.ofChange fnExactCopyAllWrong)

/-- 'laws.FnExactMoveAll': WHATEVER THE INPUT: true; the input reads as it did. -/
def fnExactMoveAllSpec : ChangeSpec := { name := "fnExactMoveAll", fn := fun _ => fun
  | [d1, d2, d3] => { results := [.lit (.bool true)], args := [d1, d2, d3] }
  | _ => none }
def fnExactMoveAllRow : OpenClaim := { program := "ytlhhplhciiobfaadoor", sum := "8a3ce74e80e9723dfccbdebe59b3e01b0d8266fe601dea41dd692b3d2ae5c976", func := "loop.example/filereconciler/laws.FnExactMoveAll", spec := "fnExactMoveAll", inPlace := ["internal/bytealg.CountString", "internal/bytealg.IndexByteString", "internal/bytealg.IndexString", "slices.overlaps[loop.example/filereconciler/impl.Node]"], unfollowed := true, recurses := true, named := ["unicode/utf8.first", "unicode/utf8.acceptRanges", "internal/bytealg.MaxLen"], apart := false, laid := [("unicode/utf8.acceptRanges", laid_unicode_utf8_acceptRanges), ("unicode/utf8.first", laid_unicode_utf8_first)] }
def FnExactMoveAllSaid : Prop := fnExactMoveAllRow.holds Tryd.pinned (OpenSpec.ofChange fnExactMoveAllSpec)

/-- ITS FALSE NEIGHBOUR: 'it returns false'. Refute it at one input. -/
def fnExactMoveAllWrong : ChangeSpec := { name := "fnExactMoveAll", fn := fun _ => fun
  | [d1, d2, d3] => { results := [.lit (.bool false)], args := [d1, d2, d3] }
  | _ => none }
def FnExactMoveAllWrongFalsely : Prop := fnExactMoveAllRow.holds Tryd.pinned (OpenSpec.ofChange fnExactMoveAllWrong)

/-- 'laws.FnExactCanonDiff': WHATEVER THE INPUT: true; the input reads as it did. -/
def fnExactCanonDiffSpec : ChangeSpec := { name := "fnExactCanonDiff", fn := fun _ => fun
  | [d1, d2] => { results := [.lit (.bool true)], args := [d1, d2] }
  | _ => none }
def fnExactCanonDiffRow : OpenClaim := { program := "ytlhhplhciiobfaadoor", sum := "8a3ce74e80e9723dfccbdebe59b3e01b0d8266fe601dea41dd692b3d2ae5c976", func := "loop.example/filereconciler/laws.FnExactCanonDiff", spec := "fnExactCanonDiff", inPlace := ["internal/bytealg.CountString", "internal/bytealg.IndexByteString", "internal/bytealg.IndexString"], unfollowed := true, recurses := true, named := ["unicode/utf8.first", "unicode/utf8.acceptRanges", "internal/bytealg.MaxLen"], apart := false, laid := [("unicode/utf8.acceptRanges", laid_unicode_utf8_acceptRanges), ("unicode/utf8.first", laid_unicode_utf8_first)] }
def FnExactCanonDiffSaid : Prop := fnExactCanonDiffRow.holds Tryd.pinned (OpenSpec.ofChange fnExactCanonDiffSpec)

/-- ITS FALSE NEIGHBOUR: 'it returns false'. Refute it at one input. -/
def fnExactCanonDiffWrong : ChangeSpec := { name := "fnExactCanonDiff", fn := fun _ => fun
  | [d1, d2] => { results := [.lit (.bool false)], args := [d1, d2] }
  | _ => none }
def FnExactCanonDiffWrongFalsely : Prop := fnExactCanonDiffRow.holds Tryd.pinned (OpenSpec.ofChange fnExactCanonDiffWrong)

/-- 'laws.FnCommandSame': WHATEVER THE INPUT: true; the input reads as it did. -/
def fnCommandSameSpec : ChangeSpec := { name := "fnCommandSame", fn := fun _ => fun
  | [d] => { results := [.lit (.bool true)], args := [d] }
  | _ => none }
def fnCommandSameRow : OpenClaim := { program := "ytlhhplhciiobfaadoor", sum := "8a3ce74e80e9723dfccbdebe59b3e01b0d8266fe601dea41dd692b3d2ae5c976", func := "loop.example/filereconciler/laws.FnCommandSame", spec := "fnCommandSame", inPlace := ["internal/bytealg.CountString", "internal/bytealg.IndexByteString", "internal/bytealg.IndexString"], named := ["unicode/utf8.first", "unicode/utf8.acceptRanges", "internal/bytealg.MaxLen"], apart := false, laid := [("unicode/utf8.acceptRanges", laid_unicode_utf8_acceptRanges), ("unicode/utf8.first", laid_unicode_utf8_first)] }
def FnCommandSameSaid : Prop := fnCommandSameRow.holds Tryd.pinned (OpenSpec.ofChange fnCommandSameSpec)

/-- ITS FALSE NEIGHBOUR: 'it returns false'. Refute it at one input. -/
def fnCommandSameWrong : ChangeSpec := { name := "fnCommandSame", fn := fun _ => fun
  | [d] => { results := [.lit (.bool false)], args := [d] }
  | _ => none }
def FnCommandSameWrongFalsely : Prop := fnCommandSameRow.holds Tryd.pinned (OpenSpec.ofChange fnCommandSameWrong)

/-- 'laws.FnExactRemoveAll': WHATEVER THE INPUT: true; the input reads as it did. -/
def fnExactRemoveAllSpec : ChangeSpec := { name := "fnExactRemoveAll", fn := fun _ => fun
  | [d1, d2] => { results := [.lit (.bool true)], args := [d1, d2] }
  | _ => none }
def fnExactRemoveAllRow : OpenClaim := { program := "ytlhhplhciiobfaadoor", sum := "8a3ce74e80e9723dfccbdebe59b3e01b0d8266fe601dea41dd692b3d2ae5c976", func := "loop.example/filereconciler/laws.FnExactRemoveAll", spec := "fnExactRemoveAll", inPlace := ["internal/bytealg.CountString", "internal/bytealg.IndexByteString", "internal/bytealg.IndexString"], unfollowed := true, recurses := true, named := ["unicode/utf8.first", "unicode/utf8.acceptRanges", "internal/bytealg.MaxLen"], apart := false, laid := [("unicode/utf8.acceptRanges", laid_unicode_utf8_acceptRanges), ("unicode/utf8.first", laid_unicode_utf8_first)] }
def FnExactRemoveAllSaid : Prop := fnExactRemoveAllRow.holds Tryd.pinned (OpenSpec.ofChange fnExactRemoveAllSpec)

/-- ITS FALSE NEIGHBOUR: 'it returns false'. Refute it at one input. -/
def fnExactRemoveAllWrong : ChangeSpec := { name := "fnExactRemoveAll", fn := fun _ => fun
  | [d1, d2] => { results := [.lit (.bool false)], args := [d1, d2] }
  | _ => none }
def FnExactRemoveAllWrongFalsely : Prop := fnExactRemoveAllRow.holds Tryd.pinned (OpenSpec.ofChange fnExactRemoveAllWrong)

/-- 'laws.FnExactLogCanon': WHATEVER THE INPUT: true; the input reads as it did. -/
def fnExactLogCanonSpec : ChangeSpec := { name := "fnExactLogCanon", fn := fun _ => fun
  | [d] => { results := [.lit (.bool true)], args := [d] }
  | _ => none }
def fnExactLogCanonRow : OpenClaim := { program := "ytlhhplhciiobfaadoor", sum := "8a3ce74e80e9723dfccbdebe59b3e01b0d8266fe601dea41dd692b3d2ae5c976", func := "loop.example/filereconciler/laws.FnExactLogCanon", spec := "fnExactLogCanon", inPlace := ["internal/bytealg.CountString", "internal/bytealg.IndexByteString", "internal/bytealg.IndexString"], unfollowed := true, recurses := true, named := ["unicode/utf8.first", "unicode/utf8.acceptRanges", "internal/bytealg.MaxLen"], apart := false, laid := [("unicode/utf8.acceptRanges", laid_unicode_utf8_acceptRanges), ("unicode/utf8.first", laid_unicode_utf8_first)] }
def FnExactLogCanonSaid : Prop := fnExactLogCanonRow.holds Tryd.pinned (OpenSpec.ofChange fnExactLogCanonSpec)

/-- ITS FALSE NEIGHBOUR: 'it returns false'. Refute it at one input. -/
def fnExactLogCanonWrong : ChangeSpec := { name := "fnExactLogCanon", fn := fun _ => fun
  | [d] => { results := [.lit (.bool false)], args := [d] }
  | _ => none }
def FnExactLogCanonWrongFalsely : Prop := fnExactLogCanonRow.holds Tryd.pinned (OpenSpec.ofChange fnExactLogCanonWrong)

/-- 'laws.FnExactCanonJoin': WHATEVER THE INPUT: true; the input reads as it did. -/
def fnExactCanonJoinSpec : ChangeSpec := { name := "fnExactCanonJoin", fn := fun _ => fun
  | [d1, d2] => { results := [.lit (.bool true)], args := [d1, d2] }
  | _ => none }
def fnExactCanonJoinRow : OpenClaim := { program := "ytlhhplhciiobfaadoor", sum := "8a3ce74e80e9723dfccbdebe59b3e01b0d8266fe601dea41dd692b3d2ae5c976", func := "loop.example/filereconciler/laws.FnExactCanonJoin", spec := "fnExactCanonJoin", inPlace := ["internal/bytealg.CountString", "internal/bytealg.IndexByteString", "internal/bytealg.IndexString"], unfollowed := true, recurses := true, named := ["unicode/utf8.first", "unicode/utf8.acceptRanges", "internal/bytealg.MaxLen"], apart := false, laid := [("unicode/utf8.acceptRanges", laid_unicode_utf8_acceptRanges), ("unicode/utf8.first", laid_unicode_utf8_first)] }
def FnExactCanonJoinSaid : Prop := fnExactCanonJoinRow.holds Tryd.pinned (OpenSpec.ofChange fnExactCanonJoinSpec)

/-- ITS FALSE NEIGHBOUR: 'it returns false'. Refute it at one input. -/
def fnExactCanonJoinWrong : ChangeSpec := { name := "fnExactCanonJoin", fn := fun _ => fun
  | [d1, d2] => { results := [.lit (.bool false)], args := [d1, d2] }
  | _ => none }
def FnExactCanonJoinWrongFalsely : Prop := fnExactCanonJoinRow.holds Tryd.pinned (OpenSpec.ofChange fnExactCanonJoinWrong)

/-- 'laws.FnExactLogUndo': WHATEVER THE INPUT: true; the input reads as it did. -/
def fnExactLogUndoSpec : ChangeSpec := { name := "fnExactLogUndo", fn := fun _ => fun
  | [d] => { results := [.lit (.bool true)], args := [d] }
  | _ => none }
def fnExactLogUndoRow : OpenClaim := { program := "ytlhhplhciiobfaadoor", sum := "8a3ce74e80e9723dfccbdebe59b3e01b0d8266fe601dea41dd692b3d2ae5c976", func := "loop.example/filereconciler/laws.FnExactLogUndo", spec := "fnExactLogUndo", inPlace := ["internal/bytealg.CountString", "internal/bytealg.IndexByteString", "internal/bytealg.IndexString"], unfollowed := true, recurses := true, named := ["unicode/utf8.first", "unicode/utf8.acceptRanges", "internal/bytealg.MaxLen"], apart := false, laid := [("unicode/utf8.acceptRanges", laid_unicode_utf8_acceptRanges), ("unicode/utf8.first", laid_unicode_utf8_first)] }
def FnExactLogUndoSaid : Prop := fnExactLogUndoRow.holds Tryd.pinned (OpenSpec.ofChange fnExactLogUndoSpec)

/-- ITS FALSE NEIGHBOUR: 'it returns false'. Refute it at one input. -/
def fnExactLogUndoWrong : ChangeSpec := { name := "fnExactLogUndo", fn := fun _ => fun
  | [d] => { results := [.lit (.bool false)], args := [d] }
  | _ => none }
def FnExactLogUndoWrongFalsely : Prop := fnExactLogUndoRow.holds Tryd.pinned (OpenSpec.ofChange fnExactLogUndoWrong)

/- THE SECOND FORM. 'bulk': how many values and letters a reading holds, each counted each time it is reached (what is shared counts as often as it is met; a slice's spare places count too). A statement '..UptoSaid' is the law's where the arguments, and the package variables that the reading takes, are together of bulk at most 1048576: NARROWER than '..Said'. Prove '..Said' where nothing that the law and all that it calls make is longer than what came in: it says more and counts as full. Else prove '..UptoSaid'. A law counts once. -/
mutual
def uptoBulk {H : Type} : DataW H → Nat
  | .lit (.string bytes) => bytes.length + 1
  | .lit _ => 1
  | .nil => 1
  | .ptr d => uptoBulk d + 1
  | .slice elems spare => uptoBulkAll elems + uptoBulkAll spare + 1
  | .agg parts => uptoBulkAll parts + 1
  | .iface _ d => uptoBulk d + 1
  | .map entries => uptoBulkEntries entries + 1
  | .held _ => 1
def uptoBulkAll {H : Type} : List (DataW H) → Nat
  | [] => 0
  | d :: r => uptoBulk d + uptoBulkAll r
def uptoBulkEntries {H : Type} : List (Lit × DataW H) → Nat
  | [] => 0
  | x :: r => uptoBulkEntry x + uptoBulkEntries r
def uptoBulkEntry {H : Type} : Lit × DataW H → Nat
  | (.string bytes, d) => bytes.length + uptoBulk d + 1
  | (_, d) => uptoBulk d + 1
 end
def uptoSmall : (H : Type) → List (DataW H) → Bool := fun _ ds => decide (uptoBulkAll ds ≤ 1048576)
def OpenSpec.upto (s : _root_.Go.ChangeSpec) : _root_.Go.OpenSpec := { _root_.Go.OpenSpec.ofChange s with cond := some uptoSmall }

/-- 'laws.FnExactCommandApply', WHERE WHAT IT READS IS OF BULK AT MOST 1048576: true; the input reads as it did. -/
def fnExactCommandApplyUptoRow : OpenClaim := { program := "ytlhhplhciiobfaadoor", sum := "8a3ce74e80e9723dfccbdebe59b3e01b0d8266fe601dea41dd692b3d2ae5c976", func := "loop.example/filereconciler/laws.FnExactCommandApply", spec := "fnExactCommandApply", inPlace := ["internal/bytealg.CountString", "internal/bytealg.IndexByteString", "internal/bytealg.IndexString", "slices.overlaps[loop.example/filereconciler/impl.Node]"], unfollowed := true, recurses := true, named := ["unicode/utf8.first", "unicode/utf8.acceptRanges", "internal/bytealg.MaxLen"], apart := false, laid := [("unicode/utf8.acceptRanges", laid_unicode_utf8_acceptRanges), ("unicode/utf8.first", laid_unicode_utf8_first)], narrowed := true }
def FnExactCommandApplyUptoSaid : Prop := fnExactCommandApplyUptoRow.holds Tryd.pinned (OpenSpec.upto fnExactCommandApplySpec)

/-- 'laws.FnExactLogFits', WHERE WHAT IT READS IS OF BULK AT MOST 1048576: true; the input reads as it did. -/
def fnExactLogFitsUptoRow : OpenClaim := { program := "ytlhhplhciiobfaadoor", sum := "8a3ce74e80e9723dfccbdebe59b3e01b0d8266fe601dea41dd692b3d2ae5c976", func := "loop.example/filereconciler/laws.FnExactLogFits", spec := "fnExactLogFits", inPlace := ["internal/bytealg.CountString", "internal/bytealg.IndexByteString", "internal/bytealg.IndexString", "slices.overlaps[loop.example/filereconciler/impl.Node]"], unfollowed := true, recurses := true, named := ["unicode/utf8.first", "unicode/utf8.acceptRanges", "internal/bytealg.MaxLen"], apart := false, laid := [("unicode/utf8.acceptRanges", laid_unicode_utf8_acceptRanges), ("unicode/utf8.first", laid_unicode_utf8_first)], narrowed := true }
def FnExactLogFitsUptoSaid : Prop := fnExactLogFitsUptoRow.holds Tryd.pinned (OpenSpec.upto fnExactLogFitsSpec)

/-- 'laws.FnExactLogApply', WHERE WHAT IT READS IS OF BULK AT MOST 1048576: true; the input reads as it did. -/
def fnExactLogApplyUptoRow : OpenClaim := { program := "ytlhhplhciiobfaadoor", sum := "8a3ce74e80e9723dfccbdebe59b3e01b0d8266fe601dea41dd692b3d2ae5c976", func := "loop.example/filereconciler/laws.FnExactLogApply", spec := "fnExactLogApply", inPlace := ["internal/bytealg.CountString", "internal/bytealg.IndexByteString", "internal/bytealg.IndexString", "slices.overlaps[loop.example/filereconciler/impl.Node]"], unfollowed := true, recurses := true, named := ["unicode/utf8.first", "unicode/utf8.acceptRanges", "internal/bytealg.MaxLen"], apart := false, laid := [("unicode/utf8.acceptRanges", laid_unicode_utf8_acceptRanges), ("unicode/utf8.first", laid_unicode_utf8_first)], narrowed := true }
def FnExactLogApplyUptoSaid : Prop := fnExactLogApplyUptoRow.holds Tryd.pinned (OpenSpec.upto fnExactLogApplySpec)

/-- 'laws.FnExactCopyAll', WHERE WHAT IT READS IS OF BULK AT MOST 1048576: true; the input reads as it did. -/
def fnExactCopyAllUptoRow : OpenClaim := { program := "ytlhhplhciiobfaadoor", sum := "8a3ce74e80e9723dfccbdebe59b3e01b0d8266fe601dea41dd692b3d2ae5c976", func := "loop.example/filereconciler/laws.FnExactCopyAll", spec := "fnExactCopyAll", inPlace := ["internal/bytealg.CountString", "internal/bytealg.IndexByteString", "internal/bytealg.IndexString", "slices.overlaps[loop.example/filereconciler/impl.Node]"], unfollowed := true, recurses := true, named := ["unicode/utf8.first", "unicode/utf8.acceptRanges", "internal/bytealg.MaxLen"], apart := false, laid := [("unicode/utf8.acceptRanges", laid_unicode_utf8_acceptRanges), ("unicode/utf8.first", laid_unicode_utf8_first)], narrowed := true }
def FnExactCopyAllUptoSaid : Prop := fnExactCopyAllUptoRow.holds Tryd.pinned (OpenSpec.upto fnExactCopyAllSpec)

/-- 'laws.FnExactMoveAll', WHERE WHAT IT READS IS OF BULK AT MOST 1048576: true; the input reads as it did. -/
def fnExactMoveAllUptoRow : OpenClaim := { program := "ytlhhplhciiobfaadoor", sum := "8a3ce74e80e9723dfccbdebe59b3e01b0d8266fe601dea41dd692b3d2ae5c976", func := "loop.example/filereconciler/laws.FnExactMoveAll", spec := "fnExactMoveAll", inPlace := ["internal/bytealg.CountString", "internal/bytealg.IndexByteString", "internal/bytealg.IndexString", "slices.overlaps[loop.example/filereconciler/impl.Node]"], unfollowed := true, recurses := true, named := ["unicode/utf8.first", "unicode/utf8.acceptRanges", "internal/bytealg.MaxLen"], apart := false, laid := [("unicode/utf8.acceptRanges", laid_unicode_utf8_acceptRanges), ("unicode/utf8.first", laid_unicode_utf8_first)], narrowed := true }
def FnExactMoveAllUptoSaid : Prop := fnExactMoveAllUptoRow.holds Tryd.pinned (OpenSpec.upto fnExactMoveAllSpec)

/-- 'laws.FnExactCanonDiff', WHERE WHAT IT READS IS OF BULK AT MOST 1048576: true; the input reads as it did. -/
def fnExactCanonDiffUptoRow : OpenClaim := { program := "ytlhhplhciiobfaadoor", sum := "8a3ce74e80e9723dfccbdebe59b3e01b0d8266fe601dea41dd692b3d2ae5c976", func := "loop.example/filereconciler/laws.FnExactCanonDiff", spec := "fnExactCanonDiff", inPlace := ["internal/bytealg.CountString", "internal/bytealg.IndexByteString", "internal/bytealg.IndexString"], unfollowed := true, recurses := true, named := ["unicode/utf8.first", "unicode/utf8.acceptRanges", "internal/bytealg.MaxLen"], apart := false, laid := [("unicode/utf8.acceptRanges", laid_unicode_utf8_acceptRanges), ("unicode/utf8.first", laid_unicode_utf8_first)], narrowed := true }
def FnExactCanonDiffUptoSaid : Prop := fnExactCanonDiffUptoRow.holds Tryd.pinned (OpenSpec.upto fnExactCanonDiffSpec)

/-- 'laws.FnCommandSame', WHERE WHAT IT READS IS OF BULK AT MOST 1048576: true; the input reads as it did. -/
def fnCommandSameUptoRow : OpenClaim := { program := "ytlhhplhciiobfaadoor", sum := "8a3ce74e80e9723dfccbdebe59b3e01b0d8266fe601dea41dd692b3d2ae5c976", func := "loop.example/filereconciler/laws.FnCommandSame", spec := "fnCommandSame", inPlace := ["internal/bytealg.CountString", "internal/bytealg.IndexByteString", "internal/bytealg.IndexString"], named := ["unicode/utf8.first", "unicode/utf8.acceptRanges", "internal/bytealg.MaxLen"], apart := false, laid := [("unicode/utf8.acceptRanges", laid_unicode_utf8_acceptRanges), ("unicode/utf8.first", laid_unicode_utf8_first)], narrowed := true }
def FnCommandSameUptoSaid : Prop := fnCommandSameUptoRow.holds Tryd.pinned (OpenSpec.upto fnCommandSameSpec)

/-- 'laws.FnExactRemoveAll', WHERE WHAT IT READS IS OF BULK AT MOST 1048576: true; the input reads as it did. -/
def fnExactRemoveAllUptoRow : OpenClaim := { program := "ytlhhplhciiobfaadoor", sum := "8a3ce74e80e9723dfccbdebe59b3e01b0d8266fe601dea41dd692b3d2ae5c976", func := "loop.example/filereconciler/laws.FnExactRemoveAll", spec := "fnExactRemoveAll", inPlace := ["internal/bytealg.CountString", "internal/bytealg.IndexByteString", "internal/bytealg.IndexString"], unfollowed := true, recurses := true, named := ["unicode/utf8.first", "unicode/utf8.acceptRanges", "internal/bytealg.MaxLen"], apart := false, laid := [("unicode/utf8.acceptRanges", laid_unicode_utf8_acceptRanges), ("unicode/utf8.first", laid_unicode_utf8_first)], narrowed := true }
def FnExactRemoveAllUptoSaid : Prop := fnExactRemoveAllUptoRow.holds Tryd.pinned (OpenSpec.upto fnExactRemoveAllSpec)

/-- 'laws.FnExactLogCanon', WHERE WHAT IT READS IS OF BULK AT MOST 1048576: true; the input reads as it did. -/
def fnExactLogCanonUptoRow : OpenClaim := { program := "ytlhhplhciiobfaadoor", sum := "8a3ce74e80e9723dfccbdebe59b3e01b0d8266fe601dea41dd692b3d2ae5c976", func := "loop.example/filereconciler/laws.FnExactLogCanon", spec := "fnExactLogCanon", inPlace := ["internal/bytealg.CountString", "internal/bytealg.IndexByteString", "internal/bytealg.IndexString"], unfollowed := true, recurses := true, named := ["unicode/utf8.first", "unicode/utf8.acceptRanges", "internal/bytealg.MaxLen"], apart := false, laid := [("unicode/utf8.acceptRanges", laid_unicode_utf8_acceptRanges), ("unicode/utf8.first", laid_unicode_utf8_first)], narrowed := true }
def FnExactLogCanonUptoSaid : Prop := fnExactLogCanonUptoRow.holds Tryd.pinned (OpenSpec.upto fnExactLogCanonSpec)

/-- 'laws.FnExactCanonJoin', WHERE WHAT IT READS IS OF BULK AT MOST 1048576: true; the input reads as it did. -/
def fnExactCanonJoinUptoRow : OpenClaim := { program := "ytlhhplhciiobfaadoor", sum := "8a3ce74e80e9723dfccbdebe59b3e01b0d8266fe601dea41dd692b3d2ae5c976", func := "loop.example/filereconciler/laws.FnExactCanonJoin", spec := "fnExactCanonJoin", inPlace := ["internal/bytealg.CountString", "internal/bytealg.IndexByteString", "internal/bytealg.IndexString"], unfollowed := true, recurses := true, named := ["unicode/utf8.first", "unicode/utf8.acceptRanges", "internal/bytealg.MaxLen"], apart := false, laid := [("unicode/utf8.acceptRanges", laid_unicode_utf8_acceptRanges), ("unicode/utf8.first", laid_unicode_utf8_first)], narrowed := true }
def FnExactCanonJoinUptoSaid : Prop := fnExactCanonJoinUptoRow.holds Tryd.pinned (OpenSpec.upto fnExactCanonJoinSpec)

/-- 'laws.FnExactLogUndo', WHERE WHAT IT READS IS OF BULK AT MOST 1048576: true; the input reads as it did. -/
def fnExactLogUndoUptoRow : OpenClaim := { program := "ytlhhplhciiobfaadoor", sum := "8a3ce74e80e9723dfccbdebe59b3e01b0d8266fe601dea41dd692b3d2ae5c976", func := "loop.example/filereconciler/laws.FnExactLogUndo", spec := "fnExactLogUndo", inPlace := ["internal/bytealg.CountString", "internal/bytealg.IndexByteString", "internal/bytealg.IndexString"], unfollowed := true, recurses := true, named := ["unicode/utf8.first", "unicode/utf8.acceptRanges", "internal/bytealg.MaxLen"], apart := false, laid := [("unicode/utf8.acceptRanges", laid_unicode_utf8_acceptRanges), ("unicode/utf8.first", laid_unicode_utf8_first)], narrowed := true }
def FnExactLogUndoUptoSaid : Prop := fnExactLogUndoUptoRow.holds Tryd.pinned (OpenSpec.upto fnExactLogUndoSpec)

end Rows
end Go.Proofs.YtlhhplhciiobfaaDoor
