/-
  DERIVED. GIVEN WITH THE SEED: THE CARDS: each row of YthcfjiapmigjiaaDoorRows.lean that lists a variable, with what it lists TIED to the program's text (the seventh form; the later family's looks); each row that meets fmt, with fmt's text TOLD by the authors' own Lean function (tested against real Go, not proved from fmt's source: count such statements apart). THE CARD IS WHAT COUNTS. Prove the row's statement (the work); the ties are given (YthcfjiapmigjiaaDoorTie.lean); close each card by the builder's one call (the guide's Derived/Test/ToyasCard.lean, 'card_holds'). Laid BY PROGRAM, IN A SANDBOX (cutbox-door.mjs). By AI agents, Wed Nov 11 2026. No macro, syntax, notation, axiom, sorry.
-/
import Derived.Test.YthcfjiapmigjiaaDoorRows
import GoSem.ClaimSeven
namespace Go.Proofs.YthcfjiapmigjiaaDoor
namespace Rows

/-- THE TIED CARD OF 'laws.FnExactCanonDiff'. -/
def fnExactCanonDiffCard : Claim7 := { stood := { row := fnExactCanonDiffRow, standIns := [], harness := (true, "239097fecdbada8d3fe2599ba39d176009717941513284d600a38aeef5ead396"), looks := false }, kinds := [], alts := [], laidByText := true, laidKinds := [.data, .pinned], laidTests := true, laidLooks := .later }
def FnExactCanonDiffCardSaid : Prop := Claim7.holds Tryd.pinned (.plain (OpenSpec.ofChange fnExactCanonDiffSpec)) fnExactCanonDiffCard

/-- THE TIED CARD OF 'laws.FnExactLogCanon'. -/
def fnExactLogCanonCard : Claim7 := { stood := { row := fnExactLogCanonRow, standIns := [], harness := (true, "239097fecdbada8d3fe2599ba39d176009717941513284d600a38aeef5ead396"), looks := false }, kinds := [], alts := [], laidByText := true, laidKinds := [.data, .pinned], laidTests := true, laidLooks := .later }
def FnExactLogCanonCardSaid : Prop := Claim7.holds Tryd.pinned (.plain (OpenSpec.ofChange fnExactLogCanonSpec)) fnExactLogCanonCard

/-- THE TIED CARD OF 'laws.FnExactCanonJoin'. -/
def fnExactCanonJoinCard : Claim7 := { stood := { row := fnExactCanonJoinRow, standIns := [], harness := (true, "239097fecdbada8d3fe2599ba39d176009717941513284d600a38aeef5ead396"), looks := false }, kinds := [], alts := [], laidByText := true, laidKinds := [.data, .pinned], laidTests := true, laidLooks := .later }
def FnExactCanonJoinCardSaid : Prop := Claim7.holds Tryd.pinned (.plain (OpenSpec.ofChange fnExactCanonJoinSpec)) fnExactCanonJoinCard

/-- THE SECOND FORM's CARD OF 'laws.FnExactCanonDiff'. -/
def fnExactCanonDiffUptoCard : Claim7 := { stood := { row := fnExactCanonDiffUptoRow, standIns := [], harness := (true, "239097fecdbada8d3fe2599ba39d176009717941513284d600a38aeef5ead396"), looks := false }, kinds := [], alts := [], laidByText := true, laidKinds := [.data, .pinned], laidTests := true, laidLooks := .later }
def FnExactCanonDiffUptoCardSaid : Prop := Claim7.holds Tryd.pinned (.plain (OpenSpec.upto fnExactCanonDiffSpec)) fnExactCanonDiffUptoCard

/-- THE SECOND FORM's CARD OF 'laws.FnExactLogCanon'. -/
def fnExactLogCanonUptoCard : Claim7 := { stood := { row := fnExactLogCanonUptoRow, standIns := [], harness := (true, "239097fecdbada8d3fe2599ba39d176009717941513284d600a38aeef5ead396"), looks := false }, kinds := [], alts := [], laidByText := true, laidKinds := [.data, .pinned], laidTests := true, laidLooks := .later }
def FnExactLogCanonUptoCardSaid : Prop := Claim7.holds Tryd.pinned (.plain (OpenSpec.upto fnExactLogCanonSpec)) fnExactLogCanonUptoCard

/-- THE SECOND FORM's CARD OF 'laws.FnExactCanonJoin'. -/
def fnExactCanonJoinUptoCard : Claim7 := { stood := { row := fnExactCanonJoinUptoRow, standIns := [], harness := (true, "239097fecdbada8d3fe2599ba39d176009717941513284d600a38aeef5ead396"), looks := false }, kinds := [], alts := [], laidByText := true, laidKinds := [.data, .pinned], laidTests := true, laidLooks := .later }
def FnExactCanonJoinUptoCardSaid : Prop := Claim7.holds Tryd.pinned (.plain (OpenSpec.upto fnExactCanonJoinSpec)) fnExactCanonJoinUptoCard
end Rows
end Go.Proofs.YthcfjiapmigjiaaDoor
