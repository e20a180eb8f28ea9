/-
  DERIVED. GIVEN WITH THE SEED: THE CARDS: each row of YtehdoambbeddpaaDoorRows.lean that lists a variable, with what it lists TIED to the program's text (the seventh form; the later family's looks); each row that meets fmt, with fmt's text TOLD by the authors' own Lean function (tested against real Go, not proved from fmt's source: count such statements apart). THE CARD IS WHAT COUNTS. Prove the row's statement (the work); the ties are given (YtehdoambbeddpaaDoorTie.lean); close each card by the builder's one call (the guide's Derived/Test/ToyasCard.lean, 'card_holds'). Laid BY PROGRAM, IN A SANDBOX (cutbox-door.mjs). By AI agents, Wed Nov 11 2026. No macro, syntax, notation, axiom, sorry.
-/
import Derived.Test.YtehdoambbeddpaaDoorRows
import GoSem.ClaimSeven
namespace Go.Proofs.YtehdoambbeddpaaDoor
namespace Rows

/-- THE TIED CARD OF 'laws.FnExactTreeValid'. -/
def fnExactTreeValidCard : Claim7 := { stood := { row := fnExactTreeValidRow, standIns := [], harness := (true, "d54319afb3d7e65c29e60afb5e9ed24d3ec22a4d8d25e2e66cb060e4eee23027"), looks := false }, kinds := [], alts := [], laidByText := true, laidKinds := [.data, .pinned], laidTests := true, laidLooks := .later }
def FnExactTreeValidCardSaid : Prop := Claim7.holds Tryd.pinned (.plain (OpenSpec.ofChange fnExactTreeValidSpec)) fnExactTreeValidCard

/-- THE TIED CARD OF 'laws.FnExactTreeGet'. -/
def fnExactTreeGetCard : Claim7 := { stood := { row := fnExactTreeGetRow, standIns := [], harness := (true, "d54319afb3d7e65c29e60afb5e9ed24d3ec22a4d8d25e2e66cb060e4eee23027"), looks := false }, kinds := [], alts := [], laidByText := true, laidKinds := [.data, .pinned], laidTests := true, laidLooks := .later }
def FnExactTreeGetCardSaid : Prop := Claim7.holds Tryd.pinned (.plain (OpenSpec.ofChange fnExactTreeGetSpec)) fnExactTreeGetCard

/-- THE TIED CARD OF 'laws.FnExactTreeSum'. -/
def fnExactTreeSumCard : Claim7 := { stood := { row := fnExactTreeSumRow, standIns := [], harness := (true, "d54319afb3d7e65c29e60afb5e9ed24d3ec22a4d8d25e2e66cb060e4eee23027"), looks := false }, kinds := [], alts := [], laidByText := true, laidKinds := [.data, .pinned], laidTests := true, laidLooks := .later }
def FnExactTreeSumCardSaid : Prop := Claim7.holds Tryd.pinned (.plain (OpenSpec.ofChange fnExactTreeSumSpec)) fnExactTreeSumCard

/-- THE TIED CARD OF 'laws.FnExactTreeUnder'. -/
def fnExactTreeUnderCard : Claim7 := { stood := { row := fnExactTreeUnderRow, standIns := [], harness := (true, "d54319afb3d7e65c29e60afb5e9ed24d3ec22a4d8d25e2e66cb060e4eee23027"), looks := false }, kinds := [], alts := [], laidByText := true, laidKinds := [.data, .pinned], laidTests := true, laidLooks := .later }
def FnExactTreeUnderCardSaid : Prop := Claim7.holds Tryd.pinned (.plain (OpenSpec.ofChange fnExactTreeUnderSpec)) fnExactTreeUnderCard

/-- THE TIED CARD OF 'laws.FnExactTreeSums'. -/
def fnExactTreeSumsCard : Claim7 := { stood := { row := fnExactTreeSumsRow, standIns := [], harness := (true, "d54319afb3d7e65c29e60afb5e9ed24d3ec22a4d8d25e2e66cb060e4eee23027"), looks := false }, kinds := [], alts := [], laidByText := true, laidKinds := [.data, .pinned], laidTests := true, laidLooks := .later }
def FnExactTreeSumsCardSaid : Prop := Claim7.holds Tryd.pinned (.plain (OpenSpec.ofChange fnExactTreeSumsSpec)) fnExactTreeSumsCard

/-- THE TIED CARD OF 'laws.FnExactTreeChanged'. -/
def fnExactTreeChangedCard : Claim7 := { stood := { row := fnExactTreeChangedRow, standIns := [], harness := (true, "d54319afb3d7e65c29e60afb5e9ed24d3ec22a4d8d25e2e66cb060e4eee23027"), looks := false }, kinds := [], alts := [], laidByText := true, laidKinds := [.data, .pinned], laidTests := true, laidLooks := .later }
def FnExactTreeChangedCardSaid : Prop := Claim7.holds Tryd.pinned (.plain (OpenSpec.ofChange fnExactTreeChangedSpec)) fnExactTreeChangedCard

/-- THE TIED CARD OF 'laws.FnExactRemoveAll'. -/
def fnExactRemoveAllCard : Claim7 := { stood := { row := fnExactRemoveAllRow, standIns := [], harness := (true, "d54319afb3d7e65c29e60afb5e9ed24d3ec22a4d8d25e2e66cb060e4eee23027"), looks := false }, kinds := [], alts := [], laidByText := true, laidKinds := [.data, .pinned], laidTests := true, laidLooks := .later }
def FnExactRemoveAllCardSaid : Prop := Claim7.holds Tryd.pinned (.plain (OpenSpec.ofChange fnExactRemoveAllSpec)) fnExactRemoveAllCard

/-- THE TIED CARD OF 'laws.FnExactTreePut'. -/
def fnExactTreePutCard : Claim7 := { stood := { row := fnExactTreePutRow, standIns := [], harness := (true, "d54319afb3d7e65c29e60afb5e9ed24d3ec22a4d8d25e2e66cb060e4eee23027"), looks := false }, kinds := [], alts := [], laidByText := true, laidKinds := [.data, .pinned], laidTests := true, laidLooks := .later }
def FnExactTreePutCardSaid : Prop := Claim7.holds Tryd.pinned (.plain (OpenSpec.ofChange fnExactTreePutSpec)) fnExactTreePutCard

/-- THE SECOND FORM's CARD OF 'laws.FnExactTreeValid'. -/
def fnExactTreeValidUptoCard : Claim7 := { stood := { row := fnExactTreeValidUptoRow, standIns := [], harness := (true, "d54319afb3d7e65c29e60afb5e9ed24d3ec22a4d8d25e2e66cb060e4eee23027"), looks := false }, kinds := [], alts := [], laidByText := true, laidKinds := [.data, .pinned], laidTests := true, laidLooks := .later }
def FnExactTreeValidUptoCardSaid : Prop := Claim7.holds Tryd.pinned (.plain (OpenSpec.upto fnExactTreeValidSpec)) fnExactTreeValidUptoCard

/-- THE SECOND FORM's CARD OF 'laws.FnExactTreeGet'. -/
def fnExactTreeGetUptoCard : Claim7 := { stood := { row := fnExactTreeGetUptoRow, standIns := [], harness := (true, "d54319afb3d7e65c29e60afb5e9ed24d3ec22a4d8d25e2e66cb060e4eee23027"), looks := false }, kinds := [], alts := [], laidByText := true, laidKinds := [.data, .pinned], laidTests := true, laidLooks := .later }
def FnExactTreeGetUptoCardSaid : Prop := Claim7.holds Tryd.pinned (.plain (OpenSpec.upto fnExactTreeGetSpec)) fnExactTreeGetUptoCard

/-- THE SECOND FORM's CARD OF 'laws.FnExactTreeSum'. -/
def fnExactTreeSumUptoCard : Claim7 := { stood := { row := fnExactTreeSumUptoRow, standIns := [], harness := (true, "d54319afb3d7e65c29e60afb5e9ed24d3ec22a4d8d25e2e66cb060e4eee23027"), looks := false }, kinds := [], alts := [], laidByText := true, laidKinds := [.data, .pinned], laidTests := true, laidLooks := .later }
def FnExactTreeSumUptoCardSaid : Prop := Claim7.holds Tryd.pinned (.plain (OpenSpec.upto fnExactTreeSumSpec)) fnExactTreeSumUptoCard

/-- THE SECOND FORM's CARD OF 'laws.FnExactTreeUnder'. -/
def fnExactTreeUnderUptoCard : Claim7 := { stood := { row := fnExactTreeUnderUptoRow, standIns := [], harness := (true, "d54319afb3d7e65c29e60afb5e9ed24d3ec22a4d8d25e2e66cb060e4eee23027"), looks := false }, kinds := [], alts := [], laidByText := true, laidKinds := [.data, .pinned], laidTests := true, laidLooks := .later }
def FnExactTreeUnderUptoCardSaid : Prop := Claim7.holds Tryd.pinned (.plain (OpenSpec.upto fnExactTreeUnderSpec)) fnExactTreeUnderUptoCard

/-- THE SECOND FORM's CARD OF 'laws.FnExactTreeSums'. -/
def fnExactTreeSumsUptoCard : Claim7 := { stood := { row := fnExactTreeSumsUptoRow, standIns := [], harness := (true, "d54319afb3d7e65c29e60afb5e9ed24d3ec22a4d8d25e2e66cb060e4eee23027"), looks := false }, kinds := [], alts := [], laidByText := true, laidKinds := [.data, .pinned], laidTests := true, laidLooks := .later }
def FnExactTreeSumsUptoCardSaid : Prop := Claim7.holds Tryd.pinned (.plain (OpenSpec.upto fnExactTreeSumsSpec)) fnExactTreeSumsUptoCard

/-- THE SECOND FORM's CARD OF 'laws.FnExactTreeChanged'. -/
def fnExactTreeChangedUptoCard : Claim7 := { stood := { row := fnExactTreeChangedUptoRow, standIns := [], harness := (true, "d54319afb3d7e65c29e60afb5e9ed24d3ec22a4d8d25e2e66cb060e4eee23027"), looks := false }, kinds := [], alts := [], laidByText := true, laidKinds := [.data, .pinned], laidTests := true, laidLooks := .later }
def FnExactTreeChangedUptoCardSaid : Prop := Claim7.holds Tryd.pinned (.plain (OpenSpec.upto fnExactTreeChangedSpec)) fnExactTreeChangedUptoCard

/-- THE SECOND FORM's CARD OF 'laws.FnExactRemoveAll'. -/
def fnExactRemoveAllUptoCard : Claim7 := { stood := { row := fnExactRemoveAllUptoRow, standIns := [], harness := (true, "d54319afb3d7e65c29e60afb5e9ed24d3ec22a4d8d25e2e66cb060e4eee23027"), looks := false }, kinds := [], alts := [], laidByText := true, laidKinds := [.data, .pinned], laidTests := true, laidLooks := .later }
def FnExactRemoveAllUptoCardSaid : Prop := Claim7.holds Tryd.pinned (.plain (OpenSpec.upto fnExactRemoveAllSpec)) fnExactRemoveAllUptoCard

/-- THE SECOND FORM's CARD OF 'laws.FnExactTreePut'. -/
def fnExactTreePutUptoCard : Claim7 := { stood := { row := fnExactTreePutUptoRow, standIns := [], harness := (true, "d54319afb3d7e65c29e60afb5e9ed24d3ec22a4d8d25e2e66cb060e4eee23027"), looks := false }, kinds := [], alts := [], laidByText := true, laidKinds := [.data, .pinned], laidTests := true, laidLooks := .later }
def FnExactTreePutUptoCardSaid : Prop := Claim7.holds Tryd.pinned (.plain (OpenSpec.upto fnExactTreePutSpec)) fnExactTreePutUptoCard
end Rows
end Go.Proofs.YtehdoambbeddpaaDoor
