/-
  DERIVED. GIVEN WITH THE SEED: THE CARDS: each row of YtmhmfdikncgdgaaDoorRows.lean that lists a variable, with what it lists TIED to the program's text (the seventh form; the later family's looks); each row that meets fmt, with fmt's text TOLD by the authors' own Lean function (tested against real Go, not proved from fmt's source: count such statements apart). THE CARD IS WHAT COUNTS. Prove the row's statement (the work); the ties are given (YtmhmfdikncgdgaaDoorTie.lean); close each card by the builder's one call (the guide's Derived/Test/ToyasCard.lean, 'card_holds'). Laid BY PROGRAM, IN A SANDBOX (cutbox-door.mjs). By AI agents, Wed Nov 11 2026. No macro, syntax, notation, axiom, sorry.
-/
import Derived.Test.YtmhmfdikncgdgaaDoorRows
import GoSem.ClaimSeven
namespace Go.Proofs.YtmhmfdikncgdgaaDoor
namespace Rows

/-- THE TIED CARD OF 'laws.FnExactLogCanon'. -/
def fnExactLogCanonCard : Claim7 := { stood := { row := fnExactLogCanonRow, standIns := [], harness := (true, "3a38dcfa780c86fdad686081fe86578ac9f9c3f8e07940c3922ba2d77349fecf"), looks := false }, kinds := [], alts := [], laidByText := true, laidKinds := [.data, .pinned], laidTests := true, laidLooks := .later }
def FnExactLogCanonCardSaid : Prop := Claim7.holds Tryd.pinned (.plain (OpenSpec.ofChange fnExactLogCanonSpec)) fnExactLogCanonCard

/-- THE TIED CARD OF 'laws.FnExactCanonJoin'. -/
def fnExactCanonJoinCard : Claim7 := { stood := { row := fnExactCanonJoinRow, standIns := [], harness := (true, "3a38dcfa780c86fdad686081fe86578ac9f9c3f8e07940c3922ba2d77349fecf"), looks := false }, kinds := [], alts := [], laidByText := true, laidKinds := [.data, .pinned], laidTests := true, laidLooks := .later }
def FnExactCanonJoinCardSaid : Prop := Claim7.holds Tryd.pinned (.plain (OpenSpec.ofChange fnExactCanonJoinSpec)) fnExactCanonJoinCard

/-- THE TIED CARD OF 'laws.FnExactLogUndo'. -/
def fnExactLogUndoCard : Claim7 := { stood := { row := fnExactLogUndoRow, standIns := [], harness := (true, "3a38dcfa780c86fdad686081fe86578ac9f9c3f8e07940c3922ba2d77349fecf"), looks := false }, kinds := [], alts := [], laidByText := true, laidKinds := [.data, .pinned], laidTests := true, laidLooks := .later }
def FnExactLogUndoCardSaid : Prop := Claim7.holds Tryd.pinned (.plain (OpenSpec.ofChange fnExactLogUndoSpec)) fnExactLogUndoCard

/-- THE TIED CARD OF 'laws.FnExactOrdersCount'. -/
def fnExactOrdersCountCard : Claim7 := { stood := { row := fnExactOrdersCountRow, standIns := [], harness := (true, "3a38dcfa780c86fdad686081fe86578ac9f9c3f8e07940c3922ba2d77349fecf"), looks := false }, kinds := [], alts := [], laidByText := true, laidKinds := [.data, .pinned], laidTests := true, laidLooks := .later }
def FnExactOrdersCountCardSaid : Prop := Claim7.holds Tryd.pinned (.plain (OpenSpec.ofChange fnExactOrdersCountSpec)) fnExactOrdersCountCard

/-- THE SECOND FORM's CARD OF 'laws.FnExactLogCanon'. -/
def fnExactLogCanonUptoCard : Claim7 := { stood := { row := fnExactLogCanonUptoRow, standIns := [], harness := (true, "3a38dcfa780c86fdad686081fe86578ac9f9c3f8e07940c3922ba2d77349fecf"), looks := false }, kinds := [], alts := [], laidByText := true, laidKinds := [.data, .pinned], laidTests := true, laidLooks := .later }
def FnExactLogCanonUptoCardSaid : Prop := Claim7.holds Tryd.pinned (.plain (OpenSpec.upto fnExactLogCanonSpec)) fnExactLogCanonUptoCard

/-- THE SECOND FORM's CARD OF 'laws.FnExactCanonJoin'. -/
def fnExactCanonJoinUptoCard : Claim7 := { stood := { row := fnExactCanonJoinUptoRow, standIns := [], harness := (true, "3a38dcfa780c86fdad686081fe86578ac9f9c3f8e07940c3922ba2d77349fecf"), looks := false }, kinds := [], alts := [], laidByText := true, laidKinds := [.data, .pinned], laidTests := true, laidLooks := .later }
def FnExactCanonJoinUptoCardSaid : Prop := Claim7.holds Tryd.pinned (.plain (OpenSpec.upto fnExactCanonJoinSpec)) fnExactCanonJoinUptoCard

/-- THE SECOND FORM's CARD OF 'laws.FnExactLogUndo'. -/
def fnExactLogUndoUptoCard : Claim7 := { stood := { row := fnExactLogUndoUptoRow, standIns := [], harness := (true, "3a38dcfa780c86fdad686081fe86578ac9f9c3f8e07940c3922ba2d77349fecf"), looks := false }, kinds := [], alts := [], laidByText := true, laidKinds := [.data, .pinned], laidTests := true, laidLooks := .later }
def FnExactLogUndoUptoCardSaid : Prop := Claim7.holds Tryd.pinned (.plain (OpenSpec.upto fnExactLogUndoSpec)) fnExactLogUndoUptoCard

/-- THE SECOND FORM's CARD OF 'laws.FnExactOrdersCount'. -/
def fnExactOrdersCountUptoCard : Claim7 := { stood := { row := fnExactOrdersCountUptoRow, standIns := [], harness := (true, "3a38dcfa780c86fdad686081fe86578ac9f9c3f8e07940c3922ba2d77349fecf"), looks := false }, kinds := [], alts := [], laidByText := true, laidKinds := [.data, .pinned], laidTests := true, laidLooks := .later }
def FnExactOrdersCountUptoCardSaid : Prop := Claim7.holds Tryd.pinned (.plain (OpenSpec.upto fnExactOrdersCountSpec)) fnExactOrdersCountUptoCard
end Rows
end Go.Proofs.YtmhmfdikncgdgaaDoor
