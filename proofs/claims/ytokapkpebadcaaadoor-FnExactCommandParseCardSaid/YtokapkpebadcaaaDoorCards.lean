/-
  DERIVED. GIVEN WITH THE SEED: THE CARDS: each row of YtokapkpebadcaaaDoorRows.lean that lists a variable, with what it lists TIED to the program's text (the seventh form; the later family's looks); each row that meets fmt, with fmt's text TOLD by the authors' own Lean function (tested against real Go, not proved from fmt's source: count such statements apart). THE CARD IS WHAT COUNTS. Prove the row's statement (the work); the ties are given (YtokapkpebadcaaaDoorTie.lean); close each card by the builder's one call (the guide's Derived/Test/ToyasCard.lean, 'card_holds'). Laid BY PROGRAM, IN A SANDBOX (cutbox-door.mjs). By AI agents, Wed Nov 11 2026. No macro, syntax, notation, axiom, sorry.
-/
import Derived.Test.YtokapkpebadcaaaDoorRows
import GoSem.ClaimSeven
namespace Go.Proofs.YtokapkpebadcaaaDoor
namespace Rows

/-- THE TIED CARD OF 'laws.FnPathUnderRoot'. -/
def fnPathUnderRootCard : Claim7 := { stood := { row := fnPathUnderRootRow, standIns := [], harness := (true, "92bcc5bb65fdf6e87d6ba1b9d0fe5700024c04fee4d82b4a610f0a5a6ca9ba66"), looks := false }, kinds := [], alts := [], laidByText := true, laidKinds := [.data, .pinned], laidTests := true, laidLooks := .later }
def FnPathUnderRootCardSaid : Prop := Claim7.holds Tryd.pinned (.plain (OpenSpec.ofChange fnPathUnderRootSpec)) fnPathUnderRootCard

/-- THE TIED CARD OF 'laws.FnPathUnder'. -/
def fnPathUnderCard : Claim7 := { stood := { row := fnPathUnderRow, standIns := [], harness := (true, "92bcc5bb65fdf6e87d6ba1b9d0fe5700024c04fee4d82b4a610f0a5a6ca9ba66"), looks := false }, kinds := [], alts := [], laidByText := true, laidKinds := [.data, .pinned], laidTests := true, laidLooks := .later }
def FnPathUnderCardSaid : Prop := Claim7.holds Tryd.pinned (.plain (OpenSpec.ofChange fnPathUnderSpec)) fnPathUnderCard

/-- THE TIED CARD OF 'laws.FnPathParent'. -/
def fnPathParentCard : Claim7 := { stood := { row := fnPathParentRow, standIns := [], harness := (true, "92bcc5bb65fdf6e87d6ba1b9d0fe5700024c04fee4d82b4a610f0a5a6ca9ba66"), looks := false }, kinds := [], alts := [], laidByText := true, laidKinds := [.data, .pinned], laidTests := true, laidLooks := .later }
def FnPathParentCardSaid : Prop := Claim7.holds Tryd.pinned (.plain (OpenSpec.ofChange fnPathParentSpec)) fnPathParentCard

/-- THE TIED CARD OF 'laws.FnExactPathNormal'. -/
def fnExactPathNormalCard : Claim7 := { stood := { row := fnExactPathNormalRow, standIns := [], harness := (true, "92bcc5bb65fdf6e87d6ba1b9d0fe5700024c04fee4d82b4a610f0a5a6ca9ba66"), looks := false }, kinds := [], alts := [], laidByText := true, laidKinds := [.data, .pinned], laidTests := true, laidLooks := .later }
def FnExactPathNormalCardSaid : Prop := Claim7.holds Tryd.pinned (.plain (OpenSpec.ofChange fnExactPathNormalSpec)) fnExactPathNormalCard

/-- THE TIED CARD OF 'laws.FnPathNormalSame'. -/
def fnPathNormalSameCard : Claim7 := { stood := { row := fnPathNormalSameRow, standIns := [], harness := (true, "92bcc5bb65fdf6e87d6ba1b9d0fe5700024c04fee4d82b4a610f0a5a6ca9ba66"), looks := false }, kinds := [], alts := [], laidByText := true, laidKinds := [.data, .pinned], laidTests := true, laidLooks := .later }
def FnPathNormalSameCardSaid : Prop := Claim7.holds Tryd.pinned (.plain (OpenSpec.ofChange fnPathNormalSameSpec)) fnPathNormalSameCard

/-- THE TIED CARD OF 'laws.FnPathNormal'. -/
def fnPathNormalCard : Claim7 := { stood := { row := fnPathNormalRow, standIns := [], harness := (true, "92bcc5bb65fdf6e87d6ba1b9d0fe5700024c04fee4d82b4a610f0a5a6ca9ba66"), looks := false }, kinds := [], alts := [], laidByText := true, laidKinds := [.data, .pinned], laidTests := true, laidLooks := .later }
def FnPathNormalCardSaid : Prop := Claim7.holds Tryd.pinned (.plain (OpenSpec.ofChange fnPathNormalSpec)) fnPathNormalCard

/-- THE TIED CARD OF 'laws.FnPathNormalDots'. -/
def fnPathNormalDotsCard : Claim7 := { stood := { row := fnPathNormalDotsRow, standIns := [], harness := (true, "92bcc5bb65fdf6e87d6ba1b9d0fe5700024c04fee4d82b4a610f0a5a6ca9ba66"), looks := false }, kinds := [], alts := [], laidByText := true, laidKinds := [.data, .pinned], laidTests := true, laidLooks := .later }
def FnPathNormalDotsCardSaid : Prop := Claim7.holds Tryd.pinned (.plain (OpenSpec.ofChange fnPathNormalDotsSpec)) fnPathNormalDotsCard

/-- THE TIED CARD OF 'laws.FnExactCommandValid'. -/
def fnExactCommandValidCard : Claim7 := { stood := { row := fnExactCommandValidRow, standIns := [], harness := (true, "92bcc5bb65fdf6e87d6ba1b9d0fe5700024c04fee4d82b4a610f0a5a6ca9ba66"), looks := false }, kinds := [], alts := [], laidByText := true, laidKinds := [.data, .pinned], laidTests := true, laidLooks := .later }
def FnExactCommandValidCardSaid : Prop := Claim7.holds Tryd.pinned (.plain (OpenSpec.ofChange fnExactCommandValidSpec)) fnExactCommandValidCard

/-- THE TIED CARD OF 'laws.FnExactCommandUndo'. -/
def fnExactCommandUndoCard : Claim7 := { stood := { row := fnExactCommandUndoRow, standIns := [], harness := (true, "92bcc5bb65fdf6e87d6ba1b9d0fe5700024c04fee4d82b4a610f0a5a6ca9ba66"), looks := false }, kinds := [], alts := [], laidByText := true, laidKinds := [.data, .pinned], laidTests := true, laidLooks := .later }
def FnExactCommandUndoCardSaid : Prop := Claim7.holds Tryd.pinned (.plain (OpenSpec.ofChange fnExactCommandUndoSpec)) fnExactCommandUndoCard

/-- THE TIED CARD OF 'laws.FnCommandSame'. -/
def fnCommandSameCard : Claim7 := { stood := { row := fnCommandSameRow, standIns := [], harness := (true, "92bcc5bb65fdf6e87d6ba1b9d0fe5700024c04fee4d82b4a610f0a5a6ca9ba66"), looks := false }, kinds := [], alts := [], laidByText := true, laidKinds := [.data, .pinned], laidTests := true, laidLooks := .later }
def FnCommandSameCardSaid : Prop := Claim7.holds Tryd.pinned (.plain (OpenSpec.ofChange fnCommandSameSpec)) fnCommandSameCard

/-- THE TIED CARD OF 'laws.FnExactCommandText'. -/
def fnExactCommandTextCard : Claim7 := { stood := { row := fnExactCommandTextRow, standIns := [], harness := (true, "92bcc5bb65fdf6e87d6ba1b9d0fe5700024c04fee4d82b4a610f0a5a6ca9ba66"), looks := false }, kinds := [], alts := [], laidByText := true, laidKinds := [.data, .data, .data, .data, .pinned], laidTests := true, laidLooks := .later }
def FnExactCommandTextCardSaid : Prop := Claim7.holds Tryd.pinned (.plain (OpenSpec.ofChange fnExactCommandTextSpec)) fnExactCommandTextCard

/-- THE TIED CARD OF 'laws.FnExactCommandParse'. -/
def fnExactCommandParseCard : Claim7 := { stood := { row := fnExactCommandParseRow, standIns := [], harness := (true, "92bcc5bb65fdf6e87d6ba1b9d0fe5700024c04fee4d82b4a610f0a5a6ca9ba66"), looks := false }, kinds := [], alts := [], laidByText := true, laidKinds := [.data, .data, .data, .data, .pinned], laidTests := true, laidLooks := .later }
def FnExactCommandParseCardSaid : Prop := Claim7.holds Tryd.pinned (.plain (OpenSpec.ofChange fnExactCommandParseSpec)) fnExactCommandParseCard

/-- THE SECOND FORM's CARD OF 'laws.FnPathUnderRoot'. -/
def fnPathUnderRootUptoCard : Claim7 := { stood := { row := fnPathUnderRootUptoRow, standIns := [], harness := (true, "92bcc5bb65fdf6e87d6ba1b9d0fe5700024c04fee4d82b4a610f0a5a6ca9ba66"), looks := false }, kinds := [], alts := [], laidByText := true, laidKinds := [.data, .pinned], laidTests := true, laidLooks := .later }
def FnPathUnderRootUptoCardSaid : Prop := Claim7.holds Tryd.pinned (.plain (OpenSpec.upto fnPathUnderRootSpec)) fnPathUnderRootUptoCard

/-- THE SECOND FORM's CARD OF 'laws.FnPathUnder'. -/
def fnPathUnderUptoCard : Claim7 := { stood := { row := fnPathUnderUptoRow, standIns := [], harness := (true, "92bcc5bb65fdf6e87d6ba1b9d0fe5700024c04fee4d82b4a610f0a5a6ca9ba66"), looks := false }, kinds := [], alts := [], laidByText := true, laidKinds := [.data, .pinned], laidTests := true, laidLooks := .later }
def FnPathUnderUptoCardSaid : Prop := Claim7.holds Tryd.pinned (.plain (OpenSpec.upto fnPathUnderSpec)) fnPathUnderUptoCard

/-- THE SECOND FORM's CARD OF 'laws.FnPathParent'. -/
def fnPathParentUptoCard : Claim7 := { stood := { row := fnPathParentUptoRow, standIns := [], harness := (true, "92bcc5bb65fdf6e87d6ba1b9d0fe5700024c04fee4d82b4a610f0a5a6ca9ba66"), looks := false }, kinds := [], alts := [], laidByText := true, laidKinds := [.data, .pinned], laidTests := true, laidLooks := .later }
def FnPathParentUptoCardSaid : Prop := Claim7.holds Tryd.pinned (.plain (OpenSpec.upto fnPathParentSpec)) fnPathParentUptoCard

/-- THE SECOND FORM's CARD OF 'laws.FnExactPathNormal'. -/
def fnExactPathNormalUptoCard : Claim7 := { stood := { row := fnExactPathNormalUptoRow, standIns := [], harness := (true, "92bcc5bb65fdf6e87d6ba1b9d0fe5700024c04fee4d82b4a610f0a5a6ca9ba66"), looks := false }, kinds := [], alts := [], laidByText := true, laidKinds := [.data, .pinned], laidTests := true, laidLooks := .later }
def FnExactPathNormalUptoCardSaid : Prop := Claim7.holds Tryd.pinned (.plain (OpenSpec.upto fnExactPathNormalSpec)) fnExactPathNormalUptoCard

/-- THE SECOND FORM's CARD OF 'laws.FnPathNormalSame'. -/
def fnPathNormalSameUptoCard : Claim7 := { stood := { row := fnPathNormalSameUptoRow, standIns := [], harness := (true, "92bcc5bb65fdf6e87d6ba1b9d0fe5700024c04fee4d82b4a610f0a5a6ca9ba66"), looks := false }, kinds := [], alts := [], laidByText := true, laidKinds := [.data, .pinned], laidTests := true, laidLooks := .later }
def FnPathNormalSameUptoCardSaid : Prop := Claim7.holds Tryd.pinned (.plain (OpenSpec.upto fnPathNormalSameSpec)) fnPathNormalSameUptoCard

/-- THE SECOND FORM's CARD OF 'laws.FnPathNormal'. -/
def fnPathNormalUptoCard : Claim7 := { stood := { row := fnPathNormalUptoRow, standIns := [], harness := (true, "92bcc5bb65fdf6e87d6ba1b9d0fe5700024c04fee4d82b4a610f0a5a6ca9ba66"), looks := false }, kinds := [], alts := [], laidByText := true, laidKinds := [.data, .pinned], laidTests := true, laidLooks := .later }
def FnPathNormalUptoCardSaid : Prop := Claim7.holds Tryd.pinned (.plain (OpenSpec.upto fnPathNormalSpec)) fnPathNormalUptoCard

/-- THE SECOND FORM's CARD OF 'laws.FnPathNormalDots'. -/
def fnPathNormalDotsUptoCard : Claim7 := { stood := { row := fnPathNormalDotsUptoRow, standIns := [], harness := (true, "92bcc5bb65fdf6e87d6ba1b9d0fe5700024c04fee4d82b4a610f0a5a6ca9ba66"), looks := false }, kinds := [], alts := [], laidByText := true, laidKinds := [.data, .pinned], laidTests := true, laidLooks := .later }
def FnPathNormalDotsUptoCardSaid : Prop := Claim7.holds Tryd.pinned (.plain (OpenSpec.upto fnPathNormalDotsSpec)) fnPathNormalDotsUptoCard

/-- THE SECOND FORM's CARD OF 'laws.FnExactCommandValid'. -/
def fnExactCommandValidUptoCard : Claim7 := { stood := { row := fnExactCommandValidUptoRow, standIns := [], harness := (true, "92bcc5bb65fdf6e87d6ba1b9d0fe5700024c04fee4d82b4a610f0a5a6ca9ba66"), looks := false }, kinds := [], alts := [], laidByText := true, laidKinds := [.data, .pinned], laidTests := true, laidLooks := .later }
def FnExactCommandValidUptoCardSaid : Prop := Claim7.holds Tryd.pinned (.plain (OpenSpec.upto fnExactCommandValidSpec)) fnExactCommandValidUptoCard

/-- THE SECOND FORM's CARD OF 'laws.FnExactCommandUndo'. -/
def fnExactCommandUndoUptoCard : Claim7 := { stood := { row := fnExactCommandUndoUptoRow, standIns := [], harness := (true, "92bcc5bb65fdf6e87d6ba1b9d0fe5700024c04fee4d82b4a610f0a5a6ca9ba66"), looks := false }, kinds := [], alts := [], laidByText := true, laidKinds := [.data, .pinned], laidTests := true, laidLooks := .later }
def FnExactCommandUndoUptoCardSaid : Prop := Claim7.holds Tryd.pinned (.plain (OpenSpec.upto fnExactCommandUndoSpec)) fnExactCommandUndoUptoCard

/-- THE SECOND FORM's CARD OF 'laws.FnCommandSame'. -/
def fnCommandSameUptoCard : Claim7 := { stood := { row := fnCommandSameUptoRow, standIns := [], harness := (true, "92bcc5bb65fdf6e87d6ba1b9d0fe5700024c04fee4d82b4a610f0a5a6ca9ba66"), looks := false }, kinds := [], alts := [], laidByText := true, laidKinds := [.data, .pinned], laidTests := true, laidLooks := .later }
def FnCommandSameUptoCardSaid : Prop := Claim7.holds Tryd.pinned (.plain (OpenSpec.upto fnCommandSameSpec)) fnCommandSameUptoCard

/-- THE SECOND FORM's CARD OF 'laws.FnExactCommandText'. -/
def fnExactCommandTextUptoCard : Claim7 := { stood := { row := fnExactCommandTextUptoRow, standIns := [], harness := (true, "92bcc5bb65fdf6e87d6ba1b9d0fe5700024c04fee4d82b4a610f0a5a6ca9ba66"), looks := false }, kinds := [], alts := [], laidByText := true, laidKinds := [.data, .data, .data, .data, .pinned], laidTests := true, laidLooks := .later }
def FnExactCommandTextUptoCardSaid : Prop := Claim7.holds Tryd.pinned (.plain (OpenSpec.upto fnExactCommandTextSpec)) fnExactCommandTextUptoCard

/-- THE SECOND FORM's CARD OF 'laws.FnExactCommandParse'. -/
def fnExactCommandParseUptoCard : Claim7 := { stood := { row := fnExactCommandParseUptoRow, standIns := [], harness := (true, "92bcc5bb65fdf6e87d6ba1b9d0fe5700024c04fee4d82b4a610f0a5a6ca9ba66"), looks := false }, kinds := [], alts := [], laidByText := true, laidKinds := [.data, .data, .data, .data, .pinned], laidTests := true, laidLooks := .later }
def FnExactCommandParseUptoCardSaid : Prop := Claim7.holds Tryd.pinned (.plain (OpenSpec.upto fnExactCommandParseSpec)) fnExactCommandParseUptoCard
end Rows
end Go.Proofs.YtokapkpebadcaaaDoor
