/-
  DERIVED. GIVEN WITH THE SEED: THE CARDS: each row of YtlhhplhciiobfaaDoorRows.lean that lists a variable, with what it lists TIED to the program's text (the seventh form; the later family's looks); each row that meets fmt, with fmt's text TOLD by the authors' own Lean function (tested against real Go, not proved from fmt's source: count such statements apart). THE CARD IS WHAT COUNTS. Prove the row's statement (the work); the ties are given (YtlhhplhciiobfaaDoorTie.lean); close each card by the builder's one call (the guide's Derived/Test/ToyasCard.lean, 'card_holds'). Laid BY PROGRAM, IN A SANDBOX (cutbox-door.mjs). By AI agents, Wed Nov 11 2026. No macro, syntax, notation, axiom, sorry.
-/
import Derived.Test.YtlhhplhciiobfaaDoorRows
import GoSem.ClaimSeven
namespace Go.Proofs.YtlhhplhciiobfaaDoor
namespace Rows

/-- THE TIED CARD OF 'laws.FnExactCommandApply'. -/
def fnExactCommandApplyCard : Claim7 := { stood := { row := fnExactCommandApplyRow, standIns := [], harness := (true, "535651a14da4171501951c84c53351063277aea842b371e9a5b7b159e7d9f54c"), looks := false }, kinds := [], alts := [], laidByText := true, laidKinds := [.data, .pinned], laidTests := true, laidLooks := .later }
def FnExactCommandApplyCardSaid : Prop := Claim7.holds Tryd.pinned (.plain (OpenSpec.ofChange fnExactCommandApplySpec)) fnExactCommandApplyCard

/-- THE TIED CARD OF 'laws.FnExactLogFits'. -/
def fnExactLogFitsCard : Claim7 := { stood := { row := fnExactLogFitsRow, standIns := [], harness := (true, "535651a14da4171501951c84c53351063277aea842b371e9a5b7b159e7d9f54c"), looks := false }, kinds := [], alts := [], laidByText := true, laidKinds := [.data, .pinned], laidTests := true, laidLooks := .later }
def FnExactLogFitsCardSaid : Prop := Claim7.holds Tryd.pinned (.plain (OpenSpec.ofChange fnExactLogFitsSpec)) fnExactLogFitsCard

/-- THE TIED CARD OF 'laws.FnExactLogApply'. -/
def fnExactLogApplyCard : Claim7 := { stood := { row := fnExactLogApplyRow, standIns := [], harness := (true, "535651a14da4171501951c84c53351063277aea842b371e9a5b7b159e7d9f54c"), looks := false }, kinds := [], alts := [], laidByText := true, laidKinds := [.data, .pinned], laidTests := true, laidLooks := .later }
def FnExactLogApplyCardSaid : Prop := Claim7.holds Tryd.pinned (.plain (OpenSpec.ofChange fnExactLogApplySpec)) fnExactLogApplyCard

/-- THE TIED CARD OF 'laws.FnExactCopyAll'. -/
def fnExactCopyAllCard : Claim7 := { stood := { row := fnExactCopyAllRow, standIns := [], harness := (true, "535651a14da4171501951c84c53351063277aea842b371e9a5b7b159e7d9f54c"), looks := false }, kinds := [], alts := [], laidByText := true, laidKinds := [.data, .pinned], laidTests := true, laidLooks := .later }
def FnExactCopyAllCardSaid : Prop := Claim7.holds Tryd.pinned (.plain (OpenSpec.ofChange fnExactCopyAllSpec)) fnExactCopyAllCard

/-- THE TIED CARD OF 'laws.FnExactMoveAll'. -/
def fnExactMoveAllCard : Claim7 := { stood := { row := fnExactMoveAllRow, standIns := [], harness := (true, "535651a14da4171501951c84c53351063277aea842b371e9a5b7b159e7d9f54c"), looks := false }, kinds := [], alts := [], laidByText := true, laidKinds := [.data, .pinned], laidTests := true, laidLooks := .later }
def FnExactMoveAllCardSaid : Prop := Claim7.holds Tryd.pinned (.plain (OpenSpec.ofChange fnExactMoveAllSpec)) fnExactMoveAllCard

/-- THE TIED CARD OF 'laws.FnExactCanonDiff'. -/
def fnExactCanonDiffCard : Claim7 := { stood := { row := fnExactCanonDiffRow, standIns := [], harness := (true, "535651a14da4171501951c84c53351063277aea842b371e9a5b7b159e7d9f54c"), looks := false }, kinds := [], alts := [], laidByText := true, laidKinds := [.data, .pinned], laidTests := true, laidLooks := .later }
def FnExactCanonDiffCardSaid : Prop := Claim7.holds Tryd.pinned (.plain (OpenSpec.ofChange fnExactCanonDiffSpec)) fnExactCanonDiffCard

/-- THE TIED CARD OF 'laws.FnCommandSame'. -/
def fnCommandSameCard : Claim7 := { stood := { row := fnCommandSameRow, standIns := [], harness := (true, "535651a14da4171501951c84c53351063277aea842b371e9a5b7b159e7d9f54c"), looks := false }, kinds := [], alts := [], laidByText := true, laidKinds := [.data, .pinned], laidTests := true, laidLooks := .later }
def FnCommandSameCardSaid : Prop := Claim7.holds Tryd.pinned (.plain (OpenSpec.ofChange fnCommandSameSpec)) fnCommandSameCard

/-- THE TIED CARD OF 'laws.FnExactRemoveAll'. -/
def fnExactRemoveAllCard : Claim7 := { stood := { row := fnExactRemoveAllRow, standIns := [], harness := (true, "535651a14da4171501951c84c53351063277aea842b371e9a5b7b159e7d9f54c"), looks := false }, kinds := [], alts := [], laidByText := true, laidKinds := [.data, .pinned], laidTests := true, laidLooks := .later }
def FnExactRemoveAllCardSaid : Prop := Claim7.holds Tryd.pinned (.plain (OpenSpec.ofChange fnExactRemoveAllSpec)) fnExactRemoveAllCard

/-- THE TIED CARD OF 'laws.FnExactLogCanon'. -/
def fnExactLogCanonCard : Claim7 := { stood := { row := fnExactLogCanonRow, standIns := [], harness := (true, "535651a14da4171501951c84c53351063277aea842b371e9a5b7b159e7d9f54c"), looks := false }, kinds := [], alts := [], laidByText := true, laidKinds := [.data, .pinned], laidTests := true, laidLooks := .later }
def FnExactLogCanonCardSaid : Prop := Claim7.holds Tryd.pinned (.plain (OpenSpec.ofChange fnExactLogCanonSpec)) fnExactLogCanonCard

/-- THE TIED CARD OF 'laws.FnExactCanonJoin'. -/
def fnExactCanonJoinCard : Claim7 := { stood := { row := fnExactCanonJoinRow, standIns := [], harness := (true, "535651a14da4171501951c84c53351063277aea842b371e9a5b7b159e7d9f54c"), looks := false }, kinds := [], alts := [], laidByText := true, laidKinds := [.data, .pinned], laidTests := true, laidLooks := .later }
def FnExactCanonJoinCardSaid : Prop := Claim7.holds Tryd.pinned (.plain (OpenSpec.ofChange fnExactCanonJoinSpec)) fnExactCanonJoinCard

/-- THE TIED CARD OF 'laws.FnExactLogUndo'. -/
def fnExactLogUndoCard : Claim7 := { stood := { row := fnExactLogUndoRow, standIns := [], harness := (true, "535651a14da4171501951c84c53351063277aea842b371e9a5b7b159e7d9f54c"), looks := false }, kinds := [], alts := [], laidByText := true, laidKinds := [.data, .pinned], laidTests := true, laidLooks := .later }
def FnExactLogUndoCardSaid : Prop := Claim7.holds Tryd.pinned (.plain (OpenSpec.ofChange fnExactLogUndoSpec)) fnExactLogUndoCard

/-- THE SECOND FORM's CARD OF 'laws.FnExactCommandApply'. -/
def fnExactCommandApplyUptoCard : Claim7 := { stood := { row := fnExactCommandApplyUptoRow, standIns := [], harness := (true, "535651a14da4171501951c84c53351063277aea842b371e9a5b7b159e7d9f54c"), looks := false }, kinds := [], alts := [], laidByText := true, laidKinds := [.data, .pinned], laidTests := true, laidLooks := .later }
def FnExactCommandApplyUptoCardSaid : Prop := Claim7.holds Tryd.pinned (.plain (OpenSpec.upto fnExactCommandApplySpec)) fnExactCommandApplyUptoCard

/-- THE SECOND FORM's CARD OF 'laws.FnExactLogFits'. -/
def fnExactLogFitsUptoCard : Claim7 := { stood := { row := fnExactLogFitsUptoRow, standIns := [], harness := (true, "535651a14da4171501951c84c53351063277aea842b371e9a5b7b159e7d9f54c"), looks := false }, kinds := [], alts := [], laidByText := true, laidKinds := [.data, .pinned], laidTests := true, laidLooks := .later }
def FnExactLogFitsUptoCardSaid : Prop := Claim7.holds Tryd.pinned (.plain (OpenSpec.upto fnExactLogFitsSpec)) fnExactLogFitsUptoCard

/-- THE SECOND FORM's CARD OF 'laws.FnExactLogApply'. -/
def fnExactLogApplyUptoCard : Claim7 := { stood := { row := fnExactLogApplyUptoRow, standIns := [], harness := (true, "535651a14da4171501951c84c53351063277aea842b371e9a5b7b159e7d9f54c"), looks := false }, kinds := [], alts := [], laidByText := true, laidKinds := [.data, .pinned], laidTests := true, laidLooks := .later }
def FnExactLogApplyUptoCardSaid : Prop := Claim7.holds Tryd.pinned (.plain (OpenSpec.upto fnExactLogApplySpec)) fnExactLogApplyUptoCard

/-- THE SECOND FORM's CARD OF 'laws.FnExactCopyAll'. -/
def fnExactCopyAllUptoCard : Claim7 := { stood := { row := fnExactCopyAllUptoRow, standIns := [], harness := (true, "535651a14da4171501951c84c53351063277aea842b371e9a5b7b159e7d9f54c"), looks := false }, kinds := [], alts := [], laidByText := true, laidKinds := [.data, .pinned], laidTests := true, laidLooks := .later }
def FnExactCopyAllUptoCardSaid : Prop := Claim7.holds Tryd.pinned (.plain (OpenSpec.upto fnExactCopyAllSpec)) fnExactCopyAllUptoCard

/-- THE SECOND FORM's CARD OF 'laws.FnExactMoveAll'. -/
def fnExactMoveAllUptoCard : Claim7 := { stood := { row := fnExactMoveAllUptoRow, standIns := [], harness := (true, "535651a14da4171501951c84c53351063277aea842b371e9a5b7b159e7d9f54c"), looks := false }, kinds := [], alts := [], laidByText := true, laidKinds := [.data, .pinned], laidTests := true, laidLooks := .later }
def FnExactMoveAllUptoCardSaid : Prop := Claim7.holds Tryd.pinned (.plain (OpenSpec.upto fnExactMoveAllSpec)) fnExactMoveAllUptoCard

/-- THE SECOND FORM's CARD OF 'laws.FnExactCanonDiff'. -/
def fnExactCanonDiffUptoCard : Claim7 := { stood := { row := fnExactCanonDiffUptoRow, standIns := [], harness := (true, "535651a14da4171501951c84c53351063277aea842b371e9a5b7b159e7d9f54c"), looks := false }, kinds := [], alts := [], laidByText := true, laidKinds := [.data, .pinned], laidTests := true, laidLooks := .later }
def FnExactCanonDiffUptoCardSaid : Prop := Claim7.holds Tryd.pinned (.plain (OpenSpec.upto fnExactCanonDiffSpec)) fnExactCanonDiffUptoCard

/-- THE SECOND FORM's CARD OF 'laws.FnCommandSame'. -/
def fnCommandSameUptoCard : Claim7 := { stood := { row := fnCommandSameUptoRow, standIns := [], harness := (true, "535651a14da4171501951c84c53351063277aea842b371e9a5b7b159e7d9f54c"), looks := false }, kinds := [], alts := [], laidByText := true, laidKinds := [.data, .pinned], laidTests := true, laidLooks := .later }
def FnCommandSameUptoCardSaid : Prop := Claim7.holds Tryd.pinned (.plain (OpenSpec.upto fnCommandSameSpec)) fnCommandSameUptoCard

/-- THE SECOND FORM's CARD OF 'laws.FnExactRemoveAll'. -/
def fnExactRemoveAllUptoCard : Claim7 := { stood := { row := fnExactRemoveAllUptoRow, standIns := [], harness := (true, "535651a14da4171501951c84c53351063277aea842b371e9a5b7b159e7d9f54c"), looks := false }, kinds := [], alts := [], laidByText := true, laidKinds := [.data, .pinned], laidTests := true, laidLooks := .later }
def FnExactRemoveAllUptoCardSaid : Prop := Claim7.holds Tryd.pinned (.plain (OpenSpec.upto fnExactRemoveAllSpec)) fnExactRemoveAllUptoCard

/-- THE SECOND FORM's CARD OF 'laws.FnExactLogCanon'. -/
def fnExactLogCanonUptoCard : Claim7 := { stood := { row := fnExactLogCanonUptoRow, standIns := [], harness := (true, "535651a14da4171501951c84c53351063277aea842b371e9a5b7b159e7d9f54c"), looks := false }, kinds := [], alts := [], laidByText := true, laidKinds := [.data, .pinned], laidTests := true, laidLooks := .later }
def FnExactLogCanonUptoCardSaid : Prop := Claim7.holds Tryd.pinned (.plain (OpenSpec.upto fnExactLogCanonSpec)) fnExactLogCanonUptoCard

/-- THE SECOND FORM's CARD OF 'laws.FnExactCanonJoin'. -/
def fnExactCanonJoinUptoCard : Claim7 := { stood := { row := fnExactCanonJoinUptoRow, standIns := [], harness := (true, "535651a14da4171501951c84c53351063277aea842b371e9a5b7b159e7d9f54c"), looks := false }, kinds := [], alts := [], laidByText := true, laidKinds := [.data, .pinned], laidTests := true, laidLooks := .later }
def FnExactCanonJoinUptoCardSaid : Prop := Claim7.holds Tryd.pinned (.plain (OpenSpec.upto fnExactCanonJoinSpec)) fnExactCanonJoinUptoCard

/-- THE SECOND FORM's CARD OF 'laws.FnExactLogUndo'. -/
def fnExactLogUndoUptoCard : Claim7 := { stood := { row := fnExactLogUndoUptoRow, standIns := [], harness := (true, "535651a14da4171501951c84c53351063277aea842b371e9a5b7b159e7d9f54c"), looks := false }, kinds := [], alts := [], laidByText := true, laidKinds := [.data, .pinned], laidTests := true, laidLooks := .later }
def FnExactLogUndoUptoCardSaid : Prop := Claim7.holds Tryd.pinned (.plain (OpenSpec.upto fnExactLogUndoSpec)) fnExactLogUndoUptoCard
end Rows
end Go.Proofs.YtlhhplhciiobfaaDoor
