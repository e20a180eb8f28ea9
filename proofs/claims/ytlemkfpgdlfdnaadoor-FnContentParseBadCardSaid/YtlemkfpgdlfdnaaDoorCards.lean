/-
  DERIVED. GIVEN WITH THE SEED: THE CARDS: each row of YtlemkfpgdlfdnaaDoorRows.lean that lists a variable, with what it lists TIED to the program's text (the seventh form; the later family's looks); each row that meets fmt, with fmt's text TOLD by the authors' own Lean function (tested against real Go, not proved from fmt's source: count such statements apart). THE CARD IS WHAT COUNTS. Prove the row's statement (the work); the ties are given (YtlemkfpgdlfdnaaDoorTie.lean); close each card by the builder's one call (the guide's Derived/Test/ToyasCard.lean, 'card_holds'). Laid BY PROGRAM, IN A SANDBOX (cutbox-door.mjs). By AI agents, Wed Nov 11 2026. No macro, syntax, notation, axiom, sorry.
-/
import Derived.Test.YtlemkfpgdlfdnaaDoorRows
import GoSem.ClaimSeven
namespace Go.Proofs.YtlemkfpgdlfdnaaDoor
namespace Rows

/-- THE TIED CARD OF 'laws.FnExactContentText'. -/
def fnExactContentTextCard : Claim7 := { stood := { row := fnExactContentTextRow, standIns := [], harness := (true, "aaa5daf0887086edc3fc0cd122715505ca01a8b79082ddb83d0cb2b53262e22f"), looks := false }, kinds := [], alts := [], laidByText := true, laidKinds := [.data, .data, .data], laidTests := true, laidLooks := .later }
def FnExactContentTextCardSaid : Prop := Claim7.holds Tryd.pinned (.plain (OpenSpec.ofChange fnExactContentTextSpec)) fnExactContentTextCard

/-- THE TIED CARD OF 'laws.FnExactPathValid'. -/
def fnExactPathValidCard : Claim7 := { stood := { row := fnExactPathValidRow, standIns := [], harness := (true, "aaa5daf0887086edc3fc0cd122715505ca01a8b79082ddb83d0cb2b53262e22f"), looks := false }, kinds := [], alts := [], laidByText := true, laidKinds := [.data, .pinned], laidTests := true, laidLooks := .later }
def FnExactPathValidCardSaid : Prop := Claim7.holds Tryd.pinned (.plain (OpenSpec.ofChange fnExactPathValidSpec)) fnExactPathValidCard

/-- THE TIED CARD OF 'laws.FnExactPathDepth'. -/
def fnExactPathDepthCard : Claim7 := { stood := { row := fnExactPathDepthRow, standIns := [], harness := (true, "aaa5daf0887086edc3fc0cd122715505ca01a8b79082ddb83d0cb2b53262e22f"), looks := false }, kinds := [], alts := [], laidByText := true, laidKinds := [.data, .pinned], laidTests := true, laidLooks := .later }
def FnExactPathDepthCardSaid : Prop := Claim7.holds Tryd.pinned (.plain (OpenSpec.ofChange fnExactPathDepthSpec)) fnExactPathDepthCard

/-- THE TIED CARD OF 'laws.FnExactContentParse'. -/
def fnExactContentParseCard : Claim7 := { stood := { row := fnExactContentParseRow, standIns := [], harness := (true, "aaa5daf0887086edc3fc0cd122715505ca01a8b79082ddb83d0cb2b53262e22f"), looks := false }, kinds := [], alts := [], laidByText := true, laidKinds := [.data, .data, .data], laidTests := true, laidLooks := .later }
def FnExactContentParseCardSaid : Prop := Claim7.holds Tryd.pinned (.plain (OpenSpec.ofChange fnExactContentParseSpec)) fnExactContentParseCard

/-- THE TIED CARD OF 'laws.FnContentTextBad'. -/
def fnContentTextBadCard : Claim7 := { stood := { row := fnContentTextBadRow, standIns := [], harness := (true, "aaa5daf0887086edc3fc0cd122715505ca01a8b79082ddb83d0cb2b53262e22f"), looks := false }, kinds := [], alts := [], laidByText := true, laidKinds := [.data, .data, .data], laidTests := true, laidLooks := .later }
def FnContentTextBadCardSaid : Prop := Claim7.holds Tryd.pinned (.plain (OpenSpec.ofChange fnContentTextBadSpec)) fnContentTextBadCard

/-- THE TIED CARD OF 'laws.FnExactPathUnder'. -/
def fnExactPathUnderCard : Claim7 := { stood := { row := fnExactPathUnderRow, standIns := [], harness := (true, "aaa5daf0887086edc3fc0cd122715505ca01a8b79082ddb83d0cb2b53262e22f"), looks := false }, kinds := [], alts := [], laidByText := true, laidKinds := [.data, .pinned], laidTests := true, laidLooks := .later }
def FnExactPathUnderCardSaid : Prop := Claim7.holds Tryd.pinned (.plain (OpenSpec.ofChange fnExactPathUnderSpec)) fnExactPathUnderCard

/-- THE TIED CARD OF 'laws.FnContentText'. -/
def fnContentTextCard : Claim7 := { stood := { row := fnContentTextRow, standIns := [], harness := (true, "aaa5daf0887086edc3fc0cd122715505ca01a8b79082ddb83d0cb2b53262e22f"), looks := false }, kinds := [], alts := [], laidByText := true, laidKinds := [.data, .data, .data], laidTests := true, laidLooks := .later }
def FnContentTextCardSaid : Prop := Claim7.holds Tryd.pinned (.plain (OpenSpec.ofChange fnContentTextSpec)) fnContentTextCard

/-- THE TIED CARD OF 'laws.FnExactPathParent'. -/
def fnExactPathParentCard : Claim7 := { stood := { row := fnExactPathParentRow, standIns := [], harness := (true, "aaa5daf0887086edc3fc0cd122715505ca01a8b79082ddb83d0cb2b53262e22f"), looks := false }, kinds := [], alts := [], laidByText := true, laidKinds := [.data, .pinned], laidTests := true, laidLooks := .later }
def FnExactPathParentCardSaid : Prop := Claim7.holds Tryd.pinned (.plain (OpenSpec.ofChange fnExactPathParentSpec)) fnExactPathParentCard

/-- THE TIED CARD OF 'laws.FnPathDepth'. -/
def fnPathDepthCard : Claim7 := { stood := { row := fnPathDepthRow, standIns := [], harness := (true, "aaa5daf0887086edc3fc0cd122715505ca01a8b79082ddb83d0cb2b53262e22f"), looks := false }, kinds := [], alts := [], laidByText := true, laidKinds := [.data, .pinned], laidTests := true, laidLooks := .later }
def FnPathDepthCardSaid : Prop := Claim7.holds Tryd.pinned (.plain (OpenSpec.ofChange fnPathDepthSpec)) fnPathDepthCard

/-- THE TIED CARD OF 'laws.FnPathDepthBad'. -/
def fnPathDepthBadCard : Claim7 := { stood := { row := fnPathDepthBadRow, standIns := [], harness := (true, "aaa5daf0887086edc3fc0cd122715505ca01a8b79082ddb83d0cb2b53262e22f"), looks := false }, kinds := [], alts := [], laidByText := true, laidKinds := [.data, .pinned], laidTests := true, laidLooks := .later }
def FnPathDepthBadCardSaid : Prop := Claim7.holds Tryd.pinned (.plain (OpenSpec.ofChange fnPathDepthBadSpec)) fnPathDepthBadCard

/-- THE TIED CARD OF 'laws.FnContentParse'. -/
def fnContentParseCard : Claim7 := { stood := { row := fnContentParseRow, standIns := [], harness := (true, "aaa5daf0887086edc3fc0cd122715505ca01a8b79082ddb83d0cb2b53262e22f"), looks := false }, kinds := [], alts := [], laidByText := true, laidKinds := [.data, .data, .data], laidTests := true, laidLooks := .later }
def FnContentParseCardSaid : Prop := Claim7.holds Tryd.pinned (.plain (OpenSpec.ofChange fnContentParseSpec)) fnContentParseCard

/-- THE TIED CARD OF 'laws.FnContentParseBad'. -/
def fnContentParseBadCard : Claim7 := { stood := { row := fnContentParseBadRow, standIns := [], harness := (true, "aaa5daf0887086edc3fc0cd122715505ca01a8b79082ddb83d0cb2b53262e22f"), looks := false }, kinds := [], alts := [], laidByText := true, laidKinds := [.data, .data, .data], laidTests := true, laidLooks := .later }
def FnContentParseBadCardSaid : Prop := Claim7.holds Tryd.pinned (.plain (OpenSpec.ofChange fnContentParseBadSpec)) fnContentParseBadCard

/-- THE SECOND FORM's CARD OF 'laws.FnExactContentText'. -/
def fnExactContentTextUptoCard : Claim7 := { stood := { row := fnExactContentTextUptoRow, standIns := [], harness := (true, "aaa5daf0887086edc3fc0cd122715505ca01a8b79082ddb83d0cb2b53262e22f"), looks := false }, kinds := [], alts := [], laidByText := true, laidKinds := [.data, .data, .data], laidTests := true, laidLooks := .later }
def FnExactContentTextUptoCardSaid : Prop := Claim7.holds Tryd.pinned (.plain (OpenSpec.upto fnExactContentTextSpec)) fnExactContentTextUptoCard

/-- THE SECOND FORM's CARD OF 'laws.FnExactPathValid'. -/
def fnExactPathValidUptoCard : Claim7 := { stood := { row := fnExactPathValidUptoRow, standIns := [], harness := (true, "aaa5daf0887086edc3fc0cd122715505ca01a8b79082ddb83d0cb2b53262e22f"), looks := false }, kinds := [], alts := [], laidByText := true, laidKinds := [.data, .pinned], laidTests := true, laidLooks := .later }
def FnExactPathValidUptoCardSaid : Prop := Claim7.holds Tryd.pinned (.plain (OpenSpec.upto fnExactPathValidSpec)) fnExactPathValidUptoCard

/-- THE SECOND FORM's CARD OF 'laws.FnExactPathDepth'. -/
def fnExactPathDepthUptoCard : Claim7 := { stood := { row := fnExactPathDepthUptoRow, standIns := [], harness := (true, "aaa5daf0887086edc3fc0cd122715505ca01a8b79082ddb83d0cb2b53262e22f"), looks := false }, kinds := [], alts := [], laidByText := true, laidKinds := [.data, .pinned], laidTests := true, laidLooks := .later }
def FnExactPathDepthUptoCardSaid : Prop := Claim7.holds Tryd.pinned (.plain (OpenSpec.upto fnExactPathDepthSpec)) fnExactPathDepthUptoCard

/-- THE SECOND FORM's CARD OF 'laws.FnExactContentParse'. -/
def fnExactContentParseUptoCard : Claim7 := { stood := { row := fnExactContentParseUptoRow, standIns := [], harness := (true, "aaa5daf0887086edc3fc0cd122715505ca01a8b79082ddb83d0cb2b53262e22f"), looks := false }, kinds := [], alts := [], laidByText := true, laidKinds := [.data, .data, .data], laidTests := true, laidLooks := .later }
def FnExactContentParseUptoCardSaid : Prop := Claim7.holds Tryd.pinned (.plain (OpenSpec.upto fnExactContentParseSpec)) fnExactContentParseUptoCard

/-- THE SECOND FORM's CARD OF 'laws.FnContentTextBad'. -/
def fnContentTextBadUptoCard : Claim7 := { stood := { row := fnContentTextBadUptoRow, standIns := [], harness := (true, "aaa5daf0887086edc3fc0cd122715505ca01a8b79082ddb83d0cb2b53262e22f"), looks := false }, kinds := [], alts := [], laidByText := true, laidKinds := [.data, .data, .data], laidTests := true, laidLooks := .later }
def FnContentTextBadUptoCardSaid : Prop := Claim7.holds Tryd.pinned (.plain (OpenSpec.upto fnContentTextBadSpec)) fnContentTextBadUptoCard

/-- THE SECOND FORM's CARD OF 'laws.FnExactPathUnder'. -/
def fnExactPathUnderUptoCard : Claim7 := { stood := { row := fnExactPathUnderUptoRow, standIns := [], harness := (true, "aaa5daf0887086edc3fc0cd122715505ca01a8b79082ddb83d0cb2b53262e22f"), looks := false }, kinds := [], alts := [], laidByText := true, laidKinds := [.data, .pinned], laidTests := true, laidLooks := .later }
def FnExactPathUnderUptoCardSaid : Prop := Claim7.holds Tryd.pinned (.plain (OpenSpec.upto fnExactPathUnderSpec)) fnExactPathUnderUptoCard

/-- THE SECOND FORM's CARD OF 'laws.FnContentText'. -/
def fnContentTextUptoCard : Claim7 := { stood := { row := fnContentTextUptoRow, standIns := [], harness := (true, "aaa5daf0887086edc3fc0cd122715505ca01a8b79082ddb83d0cb2b53262e22f"), looks := false }, kinds := [], alts := [], laidByText := true, laidKinds := [.data, .data, .data], laidTests := true, laidLooks := .later }
def FnContentTextUptoCardSaid : Prop := Claim7.holds Tryd.pinned (.plain (OpenSpec.upto fnContentTextSpec)) fnContentTextUptoCard

/-- THE SECOND FORM's CARD OF 'laws.FnExactPathParent'. -/
def fnExactPathParentUptoCard : Claim7 := { stood := { row := fnExactPathParentUptoRow, standIns := [], harness := (true, "aaa5daf0887086edc3fc0cd122715505ca01a8b79082ddb83d0cb2b53262e22f"), looks := false }, kinds := [], alts := [], laidByText := true, laidKinds := [.data, .pinned], laidTests := true, laidLooks := .later }
def FnExactPathParentUptoCardSaid : Prop := Claim7.holds Tryd.pinned (.plain (OpenSpec.upto fnExactPathParentSpec)) fnExactPathParentUptoCard

/-- THE SECOND FORM's CARD OF 'laws.FnPathDepth'. -/
def fnPathDepthUptoCard : Claim7 := { stood := { row := fnPathDepthUptoRow, standIns := [], harness := (true, "aaa5daf0887086edc3fc0cd122715505ca01a8b79082ddb83d0cb2b53262e22f"), looks := false }, kinds := [], alts := [], laidByText := true, laidKinds := [.data, .pinned], laidTests := true, laidLooks := .later }
def FnPathDepthUptoCardSaid : Prop := Claim7.holds Tryd.pinned (.plain (OpenSpec.upto fnPathDepthSpec)) fnPathDepthUptoCard

/-- THE SECOND FORM's CARD OF 'laws.FnPathDepthBad'. -/
def fnPathDepthBadUptoCard : Claim7 := { stood := { row := fnPathDepthBadUptoRow, standIns := [], harness := (true, "aaa5daf0887086edc3fc0cd122715505ca01a8b79082ddb83d0cb2b53262e22f"), looks := false }, kinds := [], alts := [], laidByText := true, laidKinds := [.data, .pinned], laidTests := true, laidLooks := .later }
def FnPathDepthBadUptoCardSaid : Prop := Claim7.holds Tryd.pinned (.plain (OpenSpec.upto fnPathDepthBadSpec)) fnPathDepthBadUptoCard

/-- THE SECOND FORM's CARD OF 'laws.FnContentParse'. -/
def fnContentParseUptoCard : Claim7 := { stood := { row := fnContentParseUptoRow, standIns := [], harness := (true, "aaa5daf0887086edc3fc0cd122715505ca01a8b79082ddb83d0cb2b53262e22f"), looks := false }, kinds := [], alts := [], laidByText := true, laidKinds := [.data, .data, .data], laidTests := true, laidLooks := .later }
def FnContentParseUptoCardSaid : Prop := Claim7.holds Tryd.pinned (.plain (OpenSpec.upto fnContentParseSpec)) fnContentParseUptoCard

/-- THE SECOND FORM's CARD OF 'laws.FnContentParseBad'. -/
def fnContentParseBadUptoCard : Claim7 := { stood := { row := fnContentParseBadUptoRow, standIns := [], harness := (true, "aaa5daf0887086edc3fc0cd122715505ca01a8b79082ddb83d0cb2b53262e22f"), looks := false }, kinds := [], alts := [], laidByText := true, laidKinds := [.data, .data, .data], laidTests := true, laidLooks := .later }
def FnContentParseBadUptoCardSaid : Prop := Claim7.holds Tryd.pinned (.plain (OpenSpec.upto fnContentParseBadSpec)) fnContentParseBadUptoCard
end Rows
end Go.Proofs.YtlemkfpgdlfdnaaDoor
