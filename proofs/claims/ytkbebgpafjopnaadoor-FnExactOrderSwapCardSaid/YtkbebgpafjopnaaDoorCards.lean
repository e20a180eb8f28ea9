/-
  DERIVED. GIVEN WITH THE SEED: THE CARDS: each row of YtkbebgpafjopnaaDoorRows.lean that lists a variable, with what it lists TIED to the program's text (the seventh form; the later family's looks); each row that meets fmt, with fmt's text TOLD by the authors' own Lean function (tested against real Go, not proved from fmt's source: count such statements apart). THE CARD IS WHAT COUNTS. Prove the row's statement (the work); the ties are given (YtkbebgpafjopnaaDoorTie.lean); close each card by the builder's one call (the guide's Derived/Test/ToyasCard.lean, 'card_holds'). Laid BY PROGRAM, IN A SANDBOX (cutbox-door.mjs). By AI agents, Wed Nov 11 2026. No macro, syntax, notation, axiom, sorry.
-/
import Derived.Test.YtkbebgpafjopnaaDoorRows
import GoSem.ClaimSeven
namespace Go.Proofs.YtkbebgpafjopnaaDoor
namespace Rows

/-- THE TIED CARD OF 'laws.FnExactLogCanon'. -/
def fnExactLogCanonCard : Claim7 := { stood := { row := fnExactLogCanonRow, standIns := [], harness := (true, "b4449ac8ccbbf6b108a97ed8179c985b757f4f49df5c4039ebd8e2331a6b72cf"), looks := false }, kinds := [], alts := [], laidByText := true, laidKinds := [.data, .pinned], laidTests := true, laidLooks := .later }
def FnExactLogCanonCardSaid : Prop := Claim7.holds Tryd.pinned (.plain (OpenSpec.ofChange fnExactLogCanonSpec)) fnExactLogCanonCard

/-- THE TIED CARD OF 'laws.FnExactCanonJoin'. -/
def fnExactCanonJoinCard : Claim7 := { stood := { row := fnExactCanonJoinRow, standIns := [], harness := (true, "b4449ac8ccbbf6b108a97ed8179c985b757f4f49df5c4039ebd8e2331a6b72cf"), looks := false }, kinds := [], alts := [], laidByText := true, laidKinds := [.data, .pinned], laidTests := true, laidLooks := .later }
def FnExactCanonJoinCardSaid : Prop := Claim7.holds Tryd.pinned (.plain (OpenSpec.ofChange fnExactCanonJoinSpec)) fnExactCanonJoinCard

/-- THE TIED CARD OF 'laws.FnExactMustPrecede'. -/
def fnExactMustPrecedeCard : Claim7 := { stood := { row := fnExactMustPrecedeRow, standIns := [], harness := (true, "b4449ac8ccbbf6b108a97ed8179c985b757f4f49df5c4039ebd8e2331a6b72cf"), looks := false }, kinds := [], alts := [], laidByText := true, laidKinds := [.data, .pinned], laidTests := true, laidLooks := .later }
def FnExactMustPrecedeCardSaid : Prop := Claim7.holds Tryd.pinned (.plain (OpenSpec.ofChange fnExactMustPrecedeSpec)) fnExactMustPrecedeCard

/-- THE TIED CARD OF 'laws.FnExactCommandsClash'. -/
def fnExactCommandsClashCard : Claim7 := { stood := { row := fnExactCommandsClashRow, standIns := [], harness := (true, "b4449ac8ccbbf6b108a97ed8179c985b757f4f49df5c4039ebd8e2331a6b72cf"), looks := false }, kinds := [], alts := [], laidByText := true, laidKinds := [.data, .pinned], laidTests := true, laidLooks := .later }
def FnExactCommandsClashCardSaid : Prop := Claim7.holds Tryd.pinned (.plain (OpenSpec.ofChange fnExactCommandsClashSpec)) fnExactCommandsClashCard

/-- THE TIED CARD OF 'laws.FnExactLogValid'. -/
def fnExactLogValidCard : Claim7 := { stood := { row := fnExactLogValidRow, standIns := [], harness := (true, "b4449ac8ccbbf6b108a97ed8179c985b757f4f49df5c4039ebd8e2331a6b72cf"), looks := false }, kinds := [], alts := [], laidByText := true, laidKinds := [.data, .pinned], laidTests := true, laidLooks := .later }
def FnExactLogValidCardSaid : Prop := Claim7.holds Tryd.pinned (.plain (OpenSpec.ofChange fnExactLogValidSpec)) fnExactLogValidCard

/-- THE TIED CARD OF 'laws.FnExactOrderFits'. -/
def fnExactOrderFitsCard : Claim7 := { stood := { row := fnExactOrderFitsRow, standIns := [], harness := (true, "b4449ac8ccbbf6b108a97ed8179c985b757f4f49df5c4039ebd8e2331a6b72cf"), looks := false }, kinds := [], alts := [], laidByText := true, laidKinds := [.data, .pinned], laidTests := true, laidLooks := .later }
def FnExactOrderFitsCardSaid : Prop := Claim7.holds Tryd.pinned (.plain (OpenSpec.ofChange fnExactOrderFitsSpec)) fnExactOrderFitsCard

/-- THE TIED CARD OF 'laws.FnExactCanonValid'. -/
def fnExactCanonValidCard : Claim7 := { stood := { row := fnExactCanonValidRow, standIns := [], harness := (true, "b4449ac8ccbbf6b108a97ed8179c985b757f4f49df5c4039ebd8e2331a6b72cf"), looks := false }, kinds := [], alts := [], laidByText := true, laidKinds := [.data, .pinned], laidTests := true, laidLooks := .later }
def FnExactCanonValidCardSaid : Prop := Claim7.holds Tryd.pinned (.plain (OpenSpec.ofChange fnExactCanonValidSpec)) fnExactCanonValidCard

/-- THE TIED CARD OF 'laws.FnExactLogUndo'. -/
def fnExactLogUndoCard : Claim7 := { stood := { row := fnExactLogUndoRow, standIns := [], harness := (true, "b4449ac8ccbbf6b108a97ed8179c985b757f4f49df5c4039ebd8e2331a6b72cf"), looks := false }, kinds := [], alts := [], laidByText := true, laidKinds := [.data, .pinned], laidTests := true, laidLooks := .later }
def FnExactLogUndoCardSaid : Prop := Claim7.holds Tryd.pinned (.plain (OpenSpec.ofChange fnExactLogUndoSpec)) fnExactLogUndoCard

/-- THE TIED CARD OF 'laws.FnExactOrdersCount'. -/
def fnExactOrdersCountCard : Claim7 := { stood := { row := fnExactOrdersCountRow, standIns := [], harness := (true, "b4449ac8ccbbf6b108a97ed8179c985b757f4f49df5c4039ebd8e2331a6b72cf"), looks := false }, kinds := [], alts := [], laidByText := true, laidKinds := [.data, .pinned], laidTests := true, laidLooks := .later }
def FnExactOrdersCountCardSaid : Prop := Claim7.holds Tryd.pinned (.plain (OpenSpec.ofChange fnExactOrdersCountSpec)) fnExactOrdersCountCard

/-- THE TIED CARD OF 'laws.FnExactOrderSwap'. -/
def fnExactOrderSwapCard : Claim7 := { stood := { row := fnExactOrderSwapRow, standIns := [], harness := (true, "b4449ac8ccbbf6b108a97ed8179c985b757f4f49df5c4039ebd8e2331a6b72cf"), looks := false }, kinds := [], alts := [], laidByText := true, laidKinds := [.data, .pinned], laidTests := true, laidLooks := .later }
def FnExactOrderSwapCardSaid : Prop := Claim7.holds Tryd.pinned (.plain (OpenSpec.ofChange fnExactOrderSwapSpec)) fnExactOrderSwapCard

/-- THE SECOND FORM's CARD OF 'laws.FnExactLogCanon'. -/
def fnExactLogCanonUptoCard : Claim7 := { stood := { row := fnExactLogCanonUptoRow, standIns := [], harness := (true, "b4449ac8ccbbf6b108a97ed8179c985b757f4f49df5c4039ebd8e2331a6b72cf"), looks := false }, kinds := [], alts := [], laidByText := true, laidKinds := [.data, .pinned], laidTests := true, laidLooks := .later }
def FnExactLogCanonUptoCardSaid : Prop := Claim7.holds Tryd.pinned (.plain (OpenSpec.upto fnExactLogCanonSpec)) fnExactLogCanonUptoCard

/-- THE SECOND FORM's CARD OF 'laws.FnExactCanonJoin'. -/
def fnExactCanonJoinUptoCard : Claim7 := { stood := { row := fnExactCanonJoinUptoRow, standIns := [], harness := (true, "b4449ac8ccbbf6b108a97ed8179c985b757f4f49df5c4039ebd8e2331a6b72cf"), looks := false }, kinds := [], alts := [], laidByText := true, laidKinds := [.data, .pinned], laidTests := true, laidLooks := .later }
def FnExactCanonJoinUptoCardSaid : Prop := Claim7.holds Tryd.pinned (.plain (OpenSpec.upto fnExactCanonJoinSpec)) fnExactCanonJoinUptoCard

/-- THE SECOND FORM's CARD OF 'laws.FnExactMustPrecede'. -/
def fnExactMustPrecedeUptoCard : Claim7 := { stood := { row := fnExactMustPrecedeUptoRow, standIns := [], harness := (true, "b4449ac8ccbbf6b108a97ed8179c985b757f4f49df5c4039ebd8e2331a6b72cf"), looks := false }, kinds := [], alts := [], laidByText := true, laidKinds := [.data, .pinned], laidTests := true, laidLooks := .later }
def FnExactMustPrecedeUptoCardSaid : Prop := Claim7.holds Tryd.pinned (.plain (OpenSpec.upto fnExactMustPrecedeSpec)) fnExactMustPrecedeUptoCard

/-- THE SECOND FORM's CARD OF 'laws.FnExactCommandsClash'. -/
def fnExactCommandsClashUptoCard : Claim7 := { stood := { row := fnExactCommandsClashUptoRow, standIns := [], harness := (true, "b4449ac8ccbbf6b108a97ed8179c985b757f4f49df5c4039ebd8e2331a6b72cf"), looks := false }, kinds := [], alts := [], laidByText := true, laidKinds := [.data, .pinned], laidTests := true, laidLooks := .later }
def FnExactCommandsClashUptoCardSaid : Prop := Claim7.holds Tryd.pinned (.plain (OpenSpec.upto fnExactCommandsClashSpec)) fnExactCommandsClashUptoCard

/-- THE SECOND FORM's CARD OF 'laws.FnExactLogValid'. -/
def fnExactLogValidUptoCard : Claim7 := { stood := { row := fnExactLogValidUptoRow, standIns := [], harness := (true, "b4449ac8ccbbf6b108a97ed8179c985b757f4f49df5c4039ebd8e2331a6b72cf"), looks := false }, kinds := [], alts := [], laidByText := true, laidKinds := [.data, .pinned], laidTests := true, laidLooks := .later }
def FnExactLogValidUptoCardSaid : Prop := Claim7.holds Tryd.pinned (.plain (OpenSpec.upto fnExactLogValidSpec)) fnExactLogValidUptoCard

/-- THE SECOND FORM's CARD OF 'laws.FnExactOrderFits'. -/
def fnExactOrderFitsUptoCard : Claim7 := { stood := { row := fnExactOrderFitsUptoRow, standIns := [], harness := (true, "b4449ac8ccbbf6b108a97ed8179c985b757f4f49df5c4039ebd8e2331a6b72cf"), looks := false }, kinds := [], alts := [], laidByText := true, laidKinds := [.data, .pinned], laidTests := true, laidLooks := .later }
def FnExactOrderFitsUptoCardSaid : Prop := Claim7.holds Tryd.pinned (.plain (OpenSpec.upto fnExactOrderFitsSpec)) fnExactOrderFitsUptoCard

/-- THE SECOND FORM's CARD OF 'laws.FnExactCanonValid'. -/
def fnExactCanonValidUptoCard : Claim7 := { stood := { row := fnExactCanonValidUptoRow, standIns := [], harness := (true, "b4449ac8ccbbf6b108a97ed8179c985b757f4f49df5c4039ebd8e2331a6b72cf"), looks := false }, kinds := [], alts := [], laidByText := true, laidKinds := [.data, .pinned], laidTests := true, laidLooks := .later }
def FnExactCanonValidUptoCardSaid : Prop := Claim7.holds Tryd.pinned (.plain (OpenSpec.upto fnExactCanonValidSpec)) fnExactCanonValidUptoCard

/-- THE SECOND FORM's CARD OF 'laws.FnExactLogUndo'. -/
def fnExactLogUndoUptoCard : Claim7 := { stood := { row := fnExactLogUndoUptoRow, standIns := [], harness := (true, "b4449ac8ccbbf6b108a97ed8179c985b757f4f49df5c4039ebd8e2331a6b72cf"), looks := false }, kinds := [], alts := [], laidByText := true, laidKinds := [.data, .pinned], laidTests := true, laidLooks := .later }
def FnExactLogUndoUptoCardSaid : Prop := Claim7.holds Tryd.pinned (.plain (OpenSpec.upto fnExactLogUndoSpec)) fnExactLogUndoUptoCard

/-- THE SECOND FORM's CARD OF 'laws.FnExactOrdersCount'. -/
def fnExactOrdersCountUptoCard : Claim7 := { stood := { row := fnExactOrdersCountUptoRow, standIns := [], harness := (true, "b4449ac8ccbbf6b108a97ed8179c985b757f4f49df5c4039ebd8e2331a6b72cf"), looks := false }, kinds := [], alts := [], laidByText := true, laidKinds := [.data, .pinned], laidTests := true, laidLooks := .later }
def FnExactOrdersCountUptoCardSaid : Prop := Claim7.holds Tryd.pinned (.plain (OpenSpec.upto fnExactOrdersCountSpec)) fnExactOrdersCountUptoCard

/-- THE SECOND FORM's CARD OF 'laws.FnExactOrderSwap'. -/
def fnExactOrderSwapUptoCard : Claim7 := { stood := { row := fnExactOrderSwapUptoRow, standIns := [], harness := (true, "b4449ac8ccbbf6b108a97ed8179c985b757f4f49df5c4039ebd8e2331a6b72cf"), looks := false }, kinds := [], alts := [], laidByText := true, laidKinds := [.data, .pinned], laidTests := true, laidLooks := .later }
def FnExactOrderSwapUptoCardSaid : Prop := Claim7.holds Tryd.pinned (.plain (OpenSpec.upto fnExactOrderSwapSpec)) fnExactOrderSwapUptoCard
end Rows
end Go.Proofs.YtkbebgpafjopnaaDoor
