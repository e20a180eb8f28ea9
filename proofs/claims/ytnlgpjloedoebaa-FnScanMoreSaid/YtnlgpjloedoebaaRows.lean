/-
  No cell of these rows narrows 'for every input' (looked for: loops, veiled, ifaces, maps, wideKeys, modest, calm, conditions, laid).
  DERIVED. THE GIVEN ROWS OF THIS SEAT. 15 by the template 'for every input the law returns true; each argument reads behind the call as it read before'; 0 by the template 'total and deterministic' (their statements: YtnlgpjloedoebaaTotals.lean).
  GIVEN WITH THE SEED: the statements are not yours to turn. If you find one false, say at which input.
  Laid BY PROGRAM, IN A SANDBOX (cutbox-rows.mjs): the forced cells as the released guide's own fill.sh prints them over the translation 59596896007ced28… (all of the seat's roots in one cut). By AI agents, Wed Nov 11 2026. No macro, syntax, notation, axiom, sorry.
-/
import Derived.Test.YtnlgpjloedoebaaChecked
import GoSem.Claim
import GoSem.ClaimJoined
import GoSem.ClaimMapViews
import Derived.JoinedTies
import Derived.KernelRfl
namespace Go.Proofs.Ytnlgpjloedoebaa
/- THE CELL 'sum', in the pinned program and in every row, IS THE sha256 OF THE DUMP (.gsa) THAT YtnlgpjloedoebaaProg.lean LOADS. Nothing in Lean hashes anything: it is a label: what it is worth is what the hold of that sum in a sandbox is worth. -/
noncomputable def Try.pinned : Pinned := { name := "ytnlgpjloedoebaa", sum := "59596896007ced2835839b55b68a8ec578187d670d1d384346afdcf5d2626d75", checked := Try.checked }
namespace Rows
def none {H : Type} : Left H := { results := [], args := [] }

/-- 'laws.FnExactConstants': WHATEVER THE INPUT: true; the input reads as it did. -/
def fnExactConstantsSpec : ChangeSpec := { name := "fnExactConstants", fn := fun _ => fun
  | [] => { results := [.lit (.bool true)], args := [] }
  | _ => none }
def fnExactConstantsRow : OpenClaim := { program := "ytnlgpjloedoebaa", sum := "59596896007ced2835839b55b68a8ec578187d670d1d384346afdcf5d2626d75", func := "loop.example/filereconciler/laws.FnExactConstants", spec := "fnExactConstants", apart := false }
def FnExactConstantsSaid : Prop := fnExactConstantsRow.holds Try.pinned (OpenSpec.ofChange fnExactConstantsSpec)

/-- ITS FALSE NEIGHBOUR: 'it returns false'. Refute it at one input. -/
def fnExactConstantsWrong : ChangeSpec := { name := "fnExactConstants", fn := fun _ => fun
  | [] => { results := [.lit (.bool false)], args := [] }
  | _ => none }
def FnExactConstantsWrongFalsely : Prop := fnExactConstantsRow.holds Try.pinned (OpenSpec.ofChange fnExactConstantsWrong)

/-- 'laws.FnExactContentValid': WHATEVER THE INPUT: true; the input reads as it did. -/
def fnExactContentValidSpec : ChangeSpec := { name := "fnExactContentValid", fn := fun _ => fun
  | [d] => { results := [.lit (.bool true)], args := [d] }
  | _ => none }
def fnExactContentValidRow : OpenClaim := { program := "ytnlgpjloedoebaa", sum := "59596896007ced2835839b55b68a8ec578187d670d1d384346afdcf5d2626d75", func := "loop.example/filereconciler/laws.FnExactContentValid", spec := "fnExactContentValid", apart := false }
def FnExactContentValidSaid : Prop := fnExactContentValidRow.holds Try.pinned (OpenSpec.ofChange fnExactContentValidSpec)

/-- ITS FALSE NEIGHBOUR: 'it returns false'. Refute it at one input. -/
def fnExactContentValidWrong : ChangeSpec := { name := "fnExactContentValid", fn := fun _ => fun
  | [d] => { results := [.lit (.bool false)], args := [d] }
  | _ => none }
def FnExactContentValidWrongFalsely : Prop := fnExactContentValidRow.holds Try.pinned (OpenSpec.ofChange fnExactContentValidWrong)

/-- 'laws.FnContentValue': WHATEVER THE INPUT: true; the input reads as it did. -/
def fnContentValueSpec : ChangeSpec := { name := "fnContentValue", fn := fun _ => fun
  | [d1, d2] => { results := [.lit (.bool true)], args := [d1, d2] }
  | _ => none }
def fnContentValueRow : OpenClaim := { program := "ytnlgpjloedoebaa", sum := "59596896007ced2835839b55b68a8ec578187d670d1d384346afdcf5d2626d75", func := "loop.example/filereconciler/laws.FnContentValue", spec := "fnContentValue", apart := false }
def FnContentValueSaid : Prop := fnContentValueRow.holds Try.pinned (OpenSpec.ofChange fnContentValueSpec)

/-- ITS FALSE NEIGHBOUR: 'it returns false'. Refute it at one input. -/
def fnContentValueWrong : ChangeSpec := { name := "fnContentValue", fn := fun _ => fun
  | [d1, d2] => { results := [.lit (.bool false)], args := [d1, d2] }
  | _ => none }
def FnContentValueWrongFalsely : Prop := fnContentValueRow.holds Try.pinned (OpenSpec.ofChange fnContentValueWrong)

/-- 'laws.FnExactBodySum': WHATEVER THE INPUT: true; the input reads as it did. -/
def fnExactBodySumSpec : ChangeSpec := { name := "fnExactBodySum", fn := fun _ => fun
  | [d] => { results := [.lit (.bool true)], args := [d] }
  | _ => none }
def fnExactBodySumRow : OpenClaim := { program := "ytnlgpjloedoebaa", sum := "59596896007ced2835839b55b68a8ec578187d670d1d384346afdcf5d2626d75", func := "loop.example/filereconciler/laws.FnExactBodySum", spec := "fnExactBodySum", unfollowed := true, recurses := true, apart := false }
def FnExactBodySumSaid : Prop := fnExactBodySumRow.holds Try.pinned (OpenSpec.ofChange fnExactBodySumSpec)

/-- ITS FALSE NEIGHBOUR: 'it returns false'. Refute it at one input. -/
def fnExactBodySumWrong : ChangeSpec := { name := "fnExactBodySum", fn := fun _ => fun
  | [d] => { results := [.lit (.bool false)], args := [d] }
  | _ => none }
def FnExactBodySumWrongFalsely : Prop := fnExactBodySumRow.holds Try.pinned (OpenSpec.ofChange fnExactBodySumWrong)

/-- 'laws.FnSum': WHATEVER THE INPUT: true; the input reads as it did. -/
def fnSumSpec : ChangeSpec := { name := "fnSum", fn := fun _ => fun
  | [d1, d2] => { results := [.lit (.bool true)], args := [d1, d2] }
  | _ => none }
def fnSumRow : OpenClaim := { program := "ytnlgpjloedoebaa", sum := "59596896007ced2835839b55b68a8ec578187d670d1d384346afdcf5d2626d75", func := "loop.example/filereconciler/laws.FnSum", spec := "fnSum", unfollowed := true, recurses := true, apart := false }
def FnSumSaid : Prop := fnSumRow.holds Try.pinned (OpenSpec.ofChange fnSumSpec)

/-- ITS FALSE NEIGHBOUR: 'it returns false'. Refute it at one input. -/
def fnSumWrong : ChangeSpec := { name := "fnSum", fn := fun _ => fun
  | [d1, d2] => { results := [.lit (.bool false)], args := [d1, d2] }
  | _ => none }
def FnSumWrongFalsely : Prop := fnSumRow.holds Try.pinned (OpenSpec.ofChange fnSumWrong)

/-- 'laws.FnExactFrameOf': WHATEVER THE INPUT: true; the input reads as it did. -/
def fnExactFrameOfSpec : ChangeSpec := { name := "fnExactFrameOf", fn := fun _ => fun
  | [d] => { results := [.lit (.bool true)], args := [d] }
  | _ => none }
def fnExactFrameOfRow : OpenClaim := { program := "ytnlgpjloedoebaa", sum := "59596896007ced2835839b55b68a8ec578187d670d1d384346afdcf5d2626d75", func := "loop.example/filereconciler/laws.FnExactFrameOf", spec := "fnExactFrameOf", unfollowed := true, recurses := true, apart := false }
def FnExactFrameOfSaid : Prop := fnExactFrameOfRow.holds Try.pinned (OpenSpec.ofChange fnExactFrameOfSpec)

/-- ITS FALSE NEIGHBOUR: 'it returns false'. Refute it at one input. -/
def fnExactFrameOfWrong : ChangeSpec := { name := "fnExactFrameOf", fn := fun _ => fun
  | [d] => { results := [.lit (.bool false)], args := [d] }
  | _ => none }
def FnExactFrameOfWrongFalsely : Prop := fnExactFrameOfRow.holds Try.pinned (OpenSpec.ofChange fnExactFrameOfWrong)

/-- 'laws.FnFrame': WHATEVER THE INPUT: true; the input reads as it did. -/
def fnFrameSpec : ChangeSpec := { name := "fnFrame", fn := fun _ => fun
  | [d] => { results := [.lit (.bool true)], args := [d] }
  | _ => none }
def fnFrameRow : OpenClaim := { program := "ytnlgpjloedoebaa", sum := "59596896007ced2835839b55b68a8ec578187d670d1d384346afdcf5d2626d75", func := "loop.example/filereconciler/laws.FnFrame", spec := "fnFrame", unfollowed := true, recurses := true, apart := false }
def FnFrameSaid : Prop := fnFrameRow.holds Try.pinned (OpenSpec.ofChange fnFrameSpec)

/-- ITS FALSE NEIGHBOUR: 'it returns false'. Refute it at one input. -/
def fnFrameWrong : ChangeSpec := { name := "fnFrame", fn := fun _ => fun
  | [d] => { results := [.lit (.bool false)], args := [d] }
  | _ => none }
def FnFrameWrongFalsely : Prop := fnFrameRow.holds Try.pinned (OpenSpec.ofChange fnFrameWrong)

/-- 'laws.FnFramesMany': WHATEVER THE INPUT: true; the input reads as it did. -/
def fnFramesManySpec : ChangeSpec := { name := "fnFramesMany", fn := fun _ => fun
  | [d1, d2] => { results := [.lit (.bool true)], args := [d1, d2] }
  | _ => none }
def fnFramesManyRow : OpenClaim := { program := "ytnlgpjloedoebaa", sum := "59596896007ced2835839b55b68a8ec578187d670d1d384346afdcf5d2626d75", func := "loop.example/filereconciler/laws.FnFramesMany", spec := "fnFramesMany", unfollowed := true, recurses := true, apart := false }
def FnFramesManySaid : Prop := fnFramesManyRow.holds Try.pinned (OpenSpec.ofChange fnFramesManySpec)

/-- ITS FALSE NEIGHBOUR: 'it returns false'. Refute it at one input. -/
def fnFramesManyWrong : ChangeSpec := { name := "fnFramesMany", fn := fun _ => fun
  | [d1, d2] => { results := [.lit (.bool false)], args := [d1, d2] }
  | _ => none }
def FnFramesManyWrongFalsely : Prop := fnFramesManyRow.holds Try.pinned (OpenSpec.ofChange fnFramesManyWrong)

/-- 'laws.FnExactFramesScan': WHATEVER THE INPUT: true; the input reads as it did. -/
def fnExactFramesScanSpec : ChangeSpec := { name := "fnExactFramesScan", fn := fun _ => fun
  | [d] => { results := [.lit (.bool true)], args := [d] }
  | _ => none }
def fnExactFramesScanRow : OpenClaim := { program := "ytnlgpjloedoebaa", sum := "59596896007ced2835839b55b68a8ec578187d670d1d384346afdcf5d2626d75", func := "loop.example/filereconciler/laws.FnExactFramesScan", spec := "fnExactFramesScan", unfollowed := true, recurses := true, apart := false }
def FnExactFramesScanSaid : Prop := fnExactFramesScanRow.holds Try.pinned (OpenSpec.ofChange fnExactFramesScanSpec)

/-- ITS FALSE NEIGHBOUR: 'it returns false'. Refute it at one input. -/
def fnExactFramesScanWrong : ChangeSpec := { name := "fnExactFramesScan", fn := fun _ => fun
  | [d] => { results := [.lit (.bool false)], args := [d] }
  | _ => none }
def FnExactFramesScanWrongFalsely : Prop := fnExactFramesScanRow.holds Try.pinned (OpenSpec.ofChange fnExactFramesScanWrong)

/-- 'laws.FnExactFramesOf': WHATEVER THE INPUT: true; the input reads as it did. -/
def fnExactFramesOfSpec : ChangeSpec := { name := "fnExactFramesOf", fn := fun _ => fun
  | [d] => { results := [.lit (.bool true)], args := [d] }
  | _ => none }
def fnExactFramesOfRow : OpenClaim := { program := "ytnlgpjloedoebaa", sum := "59596896007ced2835839b55b68a8ec578187d670d1d384346afdcf5d2626d75", func := "loop.example/filereconciler/laws.FnExactFramesOf", spec := "fnExactFramesOf", unfollowed := true, recurses := true, apart := false }
def FnExactFramesOfSaid : Prop := fnExactFramesOfRow.holds Try.pinned (OpenSpec.ofChange fnExactFramesOfSpec)

/-- ITS FALSE NEIGHBOUR: 'it returns false'. Refute it at one input. -/
def fnExactFramesOfWrong : ChangeSpec := { name := "fnExactFramesOf", fn := fun _ => fun
  | [d] => { results := [.lit (.bool false)], args := [d] }
  | _ => none }
def FnExactFramesOfWrongFalsely : Prop := fnExactFramesOfRow.holds Try.pinned (OpenSpec.ofChange fnExactFramesOfWrong)

/-- 'laws.FnFrames': WHATEVER THE INPUT: true; the input reads as it did. -/
def fnFramesSpec : ChangeSpec := { name := "fnFrames", fn := fun _ => fun
  | [d] => { results := [.lit (.bool true)], args := [d] }
  | _ => none }
def fnFramesRow : OpenClaim := { program := "ytnlgpjloedoebaa", sum := "59596896007ced2835839b55b68a8ec578187d670d1d384346afdcf5d2626d75", func := "loop.example/filereconciler/laws.FnFrames", spec := "fnFrames", unfollowed := true, recurses := true, apart := false }
def FnFramesSaid : Prop := fnFramesRow.holds Try.pinned (OpenSpec.ofChange fnFramesSpec)

/-- ITS FALSE NEIGHBOUR: 'it returns false'. Refute it at one input. -/
def fnFramesWrong : ChangeSpec := { name := "fnFrames", fn := fun _ => fun
  | [d] => { results := [.lit (.bool false)], args := [d] }
  | _ => none }
def FnFramesWrongFalsely : Prop := fnFramesRow.holds Try.pinned (OpenSpec.ofChange fnFramesWrong)

/-- 'laws.FnFramesTorn': WHATEVER THE INPUT: true; the input reads as it did. -/
def fnFramesTornSpec : ChangeSpec := { name := "fnFramesTorn", fn := fun _ => fun
  | [d] => { results := [.lit (.bool true)], args := [d] }
  | _ => none }
def fnFramesTornRow : OpenClaim := { program := "ytnlgpjloedoebaa", sum := "59596896007ced2835839b55b68a8ec578187d670d1d384346afdcf5d2626d75", func := "loop.example/filereconciler/laws.FnFramesTorn", spec := "fnFramesTorn", unfollowed := true, recurses := true, apart := false }
def FnFramesTornSaid : Prop := fnFramesTornRow.holds Try.pinned (OpenSpec.ofChange fnFramesTornSpec)

/-- ITS FALSE NEIGHBOUR: 'it returns false'. Refute it at one input. -/
def fnFramesTornWrong : ChangeSpec := { name := "fnFramesTorn", fn := fun _ => fun
  | [d] => { results := [.lit (.bool false)], args := [d] }
  | _ => none }
def FnFramesTornWrongFalsely : Prop := fnFramesTornRow.holds Try.pinned (OpenSpec.ofChange fnFramesTornWrong)

/-- 'laws.FnScanPart': WHATEVER THE INPUT: true; the input reads as it did. -/
def fnScanPartSpec : ChangeSpec := { name := "fnScanPart", fn := fun _ => fun
  | [d1, d2] => { results := [.lit (.bool true)], args := [d1, d2] }
  | _ => none }
def fnScanPartRow : OpenClaim := { program := "ytnlgpjloedoebaa", sum := "59596896007ced2835839b55b68a8ec578187d670d1d384346afdcf5d2626d75", func := "loop.example/filereconciler/laws.FnScanPart", spec := "fnScanPart", unfollowed := true, recurses := true, apart := false }
def FnScanPartSaid : Prop := fnScanPartRow.holds Try.pinned (OpenSpec.ofChange fnScanPartSpec)

/-- ITS FALSE NEIGHBOUR: 'it returns false'. Refute it at one input. -/
def fnScanPartWrong : ChangeSpec := { name := "fnScanPart", fn := fun _ => fun
  | [d1, d2] => { results := [.lit (.bool false)], args := [d1, d2] }
  | _ => none }
def FnScanPartWrongFalsely : Prop := fnScanPartRow.holds Try.pinned (OpenSpec.ofChange fnScanPartWrong)

/-- 'laws.FnScan': WHATEVER THE INPUT: true; the input reads as it did. -/
def fnScanSpec : ChangeSpec := { name := "fnScan", fn := fun _ => fun
  | [d] => { results := [.lit (.bool true)], args := [d] }
  | _ => none }
def fnScanRow : OpenClaim := { program := "ytnlgpjloedoebaa", sum := "59596896007ced2835839b55b68a8ec578187d670d1d384346afdcf5d2626d75", func := "loop.example/filereconciler/laws.FnScan", spec := "fnScan", unfollowed := true, recurses := true, apart := false }
def FnScanSaid : Prop := fnScanRow.holds Try.pinned (OpenSpec.ofChange fnScanSpec)

/-- ITS FALSE NEIGHBOUR: 'it returns false'. Refute it at one input. -/
def fnScanWrong : ChangeSpec := { name := "fnScan", fn := fun _ => fun
  | [d] => { results := [.lit (.bool false)], args := [d] }
  | _ => none }
def FnScanWrongFalsely : Prop := fnScanRow.holds Try.pinned (OpenSpec.ofChange fnScanWrong)

/-- 'laws.FnScanMore': WHATEVER THE INPUT: true; the input reads as it did. -/
def fnScanMoreSpec : ChangeSpec := { name := "fnScanMore", fn := fun _ => fun
  | [d] => { results := [.lit (.bool true)], args := [d] }
  | _ => none }
def fnScanMoreRow : OpenClaim := { program := "ytnlgpjloedoebaa", sum := "59596896007ced2835839b55b68a8ec578187d670d1d384346afdcf5d2626d75", func := "loop.example/filereconciler/laws.FnScanMore", spec := "fnScanMore", unfollowed := true, recurses := true, apart := false }
def FnScanMoreSaid : Prop := fnScanMoreRow.holds Try.pinned (OpenSpec.ofChange fnScanMoreSpec)

/-- ITS FALSE NEIGHBOUR: 'it returns false'. Refute it at one input. -/
def fnScanMoreWrong : ChangeSpec := { name := "fnScanMore", fn := fun _ => fun
  | [d] => { results := [.lit (.bool false)], args := [d] }
  | _ => none }
def FnScanMoreWrongFalsely : Prop := fnScanMoreRow.holds Try.pinned (OpenSpec.ofChange fnScanMoreWrong)

/- THE SECOND FORM. 'bulk': how many values and letters a reading holds, each counted each time it is reached (what is shared counts as often as it is met; a slice's spare places count too). A statement '..UptoSaid' is the law's where the arguments, and the package variables that the reading takes, are together of bulk at most 1048576: NARROWER than '..Said'. Prove '..Said' where nothing that the law and all that it calls make is longer than what came in: it says more and counts as full. Else prove '..UptoSaid'. A law counts once. -/
mutual
def uptoBulk {H : Type} : DataW H → Nat
  | .lit (.string bytes) => bytes.length + 1
  | .lit _ => 1
  | .nil => 1
  | .ptr d => uptoBulk d + 1
  | .slice elems spare => uptoBulkAll elems + uptoBulkAll spare + 1
  | .agg parts => uptoBulkAll parts + 1
  | .iface _ d => uptoBulk d + 1
  | .map entries => uptoBulkEntries entries + 1
  | .held _ => 1
def uptoBulkAll {H : Type} : List (DataW H) → Nat
  | [] => 0
  | d :: r => uptoBulk d + uptoBulkAll r
def uptoBulkEntries {H : Type} : List (Lit × DataW H) → Nat
  | [] => 0
  | x :: r => uptoBulkEntry x + uptoBulkEntries r
def uptoBulkEntry {H : Type} : Lit × DataW H → Nat
  | (.string bytes, d) => bytes.length + uptoBulk d + 1
  | (_, d) => uptoBulk d + 1
 end
def uptoSmall : (H : Type) → List (DataW H) → Bool := fun _ ds => decide (uptoBulkAll ds ≤ 1048576)
def OpenSpec.upto (s : _root_.Go.ChangeSpec) : _root_.Go.OpenSpec := { _root_.Go.OpenSpec.ofChange s with cond := some uptoSmall }

/-- 'laws.FnExactConstants', WHERE WHAT IT READS IS OF BULK AT MOST 1048576: true; the input reads as it did. -/
def fnExactConstantsUptoRow : OpenClaim := { program := "ytnlgpjloedoebaa", sum := "59596896007ced2835839b55b68a8ec578187d670d1d384346afdcf5d2626d75", func := "loop.example/filereconciler/laws.FnExactConstants", spec := "fnExactConstants", apart := false, narrowed := true }
def FnExactConstantsUptoSaid : Prop := fnExactConstantsUptoRow.holds Try.pinned (OpenSpec.upto fnExactConstantsSpec)

/-- 'laws.FnExactContentValid', WHERE WHAT IT READS IS OF BULK AT MOST 1048576: true; the input reads as it did. -/
def fnExactContentValidUptoRow : OpenClaim := { program := "ytnlgpjloedoebaa", sum := "59596896007ced2835839b55b68a8ec578187d670d1d384346afdcf5d2626d75", func := "loop.example/filereconciler/laws.FnExactContentValid", spec := "fnExactContentValid", apart := false, narrowed := true }
def FnExactContentValidUptoSaid : Prop := fnExactContentValidUptoRow.holds Try.pinned (OpenSpec.upto fnExactContentValidSpec)

/-- 'laws.FnContentValue', WHERE WHAT IT READS IS OF BULK AT MOST 1048576: true; the input reads as it did. -/
def fnContentValueUptoRow : OpenClaim := { program := "ytnlgpjloedoebaa", sum := "59596896007ced2835839b55b68a8ec578187d670d1d384346afdcf5d2626d75", func := "loop.example/filereconciler/laws.FnContentValue", spec := "fnContentValue", apart := false, narrowed := true }
def FnContentValueUptoSaid : Prop := fnContentValueUptoRow.holds Try.pinned (OpenSpec.upto fnContentValueSpec)

/-- 'laws.FnExactBodySum', WHERE WHAT IT READS IS OF BULK AT MOST 1048576: true; the input reads as it did. -/
def fnExactBodySumUptoRow : OpenClaim := { program := "ytnlgpjloedoebaa", sum := "59596896007ced2835839b55b68a8ec578187d670d1d384346afdcf5d2626d75", func := "loop.example/filereconciler/laws.FnExactBodySum", spec := "fnExactBodySum", unfollowed := true, recurses := true, apart := false, narrowed := true }
def FnExactBodySumUptoSaid : Prop := fnExactBodySumUptoRow.holds Try.pinned (OpenSpec.upto fnExactBodySumSpec)

/-- 'laws.FnSum', WHERE WHAT IT READS IS OF BULK AT MOST 1048576: true; the input reads as it did. -/
def fnSumUptoRow : OpenClaim := { program := "ytnlgpjloedoebaa", sum := "59596896007ced2835839b55b68a8ec578187d670d1d384346afdcf5d2626d75", func := "loop.example/filereconciler/laws.FnSum", spec := "fnSum", unfollowed := true, recurses := true, apart := false, narrowed := true }
def FnSumUptoSaid : Prop := fnSumUptoRow.holds Try.pinned (OpenSpec.upto fnSumSpec)

/-- 'laws.FnExactFrameOf', WHERE WHAT IT READS IS OF BULK AT MOST 1048576: true; the input reads as it did. -/
def fnExactFrameOfUptoRow : OpenClaim := { program := "ytnlgpjloedoebaa", sum := "59596896007ced2835839b55b68a8ec578187d670d1d384346afdcf5d2626d75", func := "loop.example/filereconciler/laws.FnExactFrameOf", spec := "fnExactFrameOf", unfollowed := true, recurses := true, apart := false, narrowed := true }
def FnExactFrameOfUptoSaid : Prop := fnExactFrameOfUptoRow.holds Try.pinned (OpenSpec.upto fnExactFrameOfSpec)

/-- 'laws.FnFrame', WHERE WHAT IT READS IS OF BULK AT MOST 1048576: true; the input reads as it did. -/
def fnFrameUptoRow : OpenClaim := { program := "ytnlgpjloedoebaa", sum := "59596896007ced2835839b55b68a8ec578187d670d1d384346afdcf5d2626d75", func := "loop.example/filereconciler/laws.FnFrame", spec := "fnFrame", unfollowed := true, recurses := true, apart := false, narrowed := true }
def FnFrameUptoSaid : Prop := fnFrameUptoRow.holds Try.pinned (OpenSpec.upto fnFrameSpec)

/-- 'laws.FnFramesMany', WHERE WHAT IT READS IS OF BULK AT MOST 1048576: true; the input reads as it did. -/
def fnFramesManyUptoRow : OpenClaim := { program := "ytnlgpjloedoebaa", sum := "59596896007ced2835839b55b68a8ec578187d670d1d384346afdcf5d2626d75", func := "loop.example/filereconciler/laws.FnFramesMany", spec := "fnFramesMany", unfollowed := true, recurses := true, apart := false, narrowed := true }
def FnFramesManyUptoSaid : Prop := fnFramesManyUptoRow.holds Try.pinned (OpenSpec.upto fnFramesManySpec)

/-- 'laws.FnExactFramesScan', WHERE WHAT IT READS IS OF BULK AT MOST 1048576: true; the input reads as it did. -/
def fnExactFramesScanUptoRow : OpenClaim := { program := "ytnlgpjloedoebaa", sum := "59596896007ced2835839b55b68a8ec578187d670d1d384346afdcf5d2626d75", func := "loop.example/filereconciler/laws.FnExactFramesScan", spec := "fnExactFramesScan", unfollowed := true, recurses := true, apart := false, narrowed := true }
def FnExactFramesScanUptoSaid : Prop := fnExactFramesScanUptoRow.holds Try.pinned (OpenSpec.upto fnExactFramesScanSpec)

/-- 'laws.FnExactFramesOf', WHERE WHAT IT READS IS OF BULK AT MOST 1048576: true; the input reads as it did. -/
def fnExactFramesOfUptoRow : OpenClaim := { program := "ytnlgpjloedoebaa", sum := "59596896007ced2835839b55b68a8ec578187d670d1d384346afdcf5d2626d75", func := "loop.example/filereconciler/laws.FnExactFramesOf", spec := "fnExactFramesOf", unfollowed := true, recurses := true, apart := false, narrowed := true }
def FnExactFramesOfUptoSaid : Prop := fnExactFramesOfUptoRow.holds Try.pinned (OpenSpec.upto fnExactFramesOfSpec)

/-- 'laws.FnFrames', WHERE WHAT IT READS IS OF BULK AT MOST 1048576: true; the input reads as it did. -/
def fnFramesUptoRow : OpenClaim := { program := "ytnlgpjloedoebaa", sum := "59596896007ced2835839b55b68a8ec578187d670d1d384346afdcf5d2626d75", func := "loop.example/filereconciler/laws.FnFrames", spec := "fnFrames", unfollowed := true, recurses := true, apart := false, narrowed := true }
def FnFramesUptoSaid : Prop := fnFramesUptoRow.holds Try.pinned (OpenSpec.upto fnFramesSpec)

/-- 'laws.FnFramesTorn', WHERE WHAT IT READS IS OF BULK AT MOST 1048576: true; the input reads as it did. -/
def fnFramesTornUptoRow : OpenClaim := { program := "ytnlgpjloedoebaa", sum := "59596896007ced2835839b55b68a8ec578187d670d1d384346afdcf5d2626d75", func := "loop.example/filereconciler/laws.FnFramesTorn", spec := "fnFramesTorn", unfollowed := true, recurses := true, apart := false, narrowed := true }
def FnFramesTornUptoSaid : Prop := fnFramesTornUptoRow.holds Try.pinned (OpenSpec.upto fnFramesTornSpec)

/-- 'laws.FnScanPart', WHERE WHAT IT READS IS OF BULK AT MOST 1048576: true; the input reads as it did. -/
def fnScanPartUptoRow : OpenClaim := { program := "ytnlgpjloedoebaa", sum := "59596896007ced2835839b55b68a8ec578187d670d1d384346afdcf5d2626d75", func := "loop.example/filereconciler/laws.FnScanPart", spec := "fnScanPart", unfollowed := true, recurses := true, apart := false, narrowed := true }
def FnScanPartUptoSaid : Prop := fnScanPartUptoRow.holds Try.pinned (OpenSpec.upto fnScanPartSpec)

/-- 'laws.FnScan', WHERE WHAT IT READS IS OF BULK AT MOST 1048576: true; the input reads as it did. -/
def fnScanUptoRow : OpenClaim := { program := "ytnlgpjloedoebaa", sum := "59596896007ced2835839b55b68a8ec578187d670d1d384346afdcf5d2626d75", func := "loop.example/filereconciler/laws.FnScan", spec := "fnScan", unfollowed := true, recurses := true, apart := false, narrowed := true }
def FnScanUptoSaid : Prop := fnScanUptoRow.holds Try.pinned (OpenSpec.upto fnScanSpec)

/-- 'laws.FnScanMore', WHERE WHAT IT READS IS OF BULK AT MOST 1048576: true; the input reads as it did. -/
def fnScanMoreUptoRow : OpenClaim := { program := "ytnlgpjloedoebaa", sum := "59596896007ced2835839b55b68a8ec578187d670d1d384346afdcf5d2626d75", func := "loop.example/filereconciler/laws.FnScanMore", spec := "fnScanMore", unfollowed := true, recurses := true, apart := false, narrowed := true }
def FnScanMoreUptoSaid : Prop := fnScanMoreUptoRow.holds Try.pinned (OpenSpec.upto fnScanMoreSpec)

end Rows
end Go.Proofs.Ytnlgpjloedoebaa
