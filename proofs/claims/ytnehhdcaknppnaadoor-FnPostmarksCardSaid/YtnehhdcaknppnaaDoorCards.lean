/-
  DERIVED. GIVEN WITH THE SEED: THE CARDS: each row of YtnehhdcaknppnaaDoorRows.lean that lists a variable, with what it lists TIED to the program's text (the seventh form; the later family's looks); each row that meets fmt, with fmt's text TOLD by the authors' own Lean function (tested against real Go, not proved from fmt's source: count such statements apart). THE CARD IS WHAT COUNTS. Prove the row's statement (the work); the ties are given (YtnehhdcaknppnaaDoorTie.lean); close each card by the builder's one call (the guide's Derived/Test/ToyasCard.lean, 'card_holds'). Laid BY PROGRAM, IN A SANDBOX (cutbox-door.mjs). By AI agents, Wed Nov 11 2026. No macro, syntax, notation, axiom, sorry.
-/
import Derived.Test.YtnehhdcaknppnaaDoorRows
import GoSem.ClaimSeven
namespace Go.Proofs.YtnehhdcaknppnaaDoor
namespace Rows

/-- THE TIED CARD OF 'laws.FnExactIsPostmark'. -/
def fnExactIsPostmarkCard : Claim7 := { stood := { row := fnExactIsPostmarkRow, standIns := [], harness := (true, "9fb4f24bf239f7daac83b0db35a9f144efb1d6a6699eaae542ca6ae614654b51"), looks := false }, kinds := [], alts := [], laidByText := true, laidKinds := [.data, .pinned], laidTests := true, laidLooks := .later }
def FnExactIsPostmarkCardSaid : Prop := Claim7.holds Tryd.pinned (.plain (OpenSpec.ofChange fnExactIsPostmarkSpec)) fnExactIsPostmarkCard

/-- THE TIED CARD OF 'laws.FnExactShownBy'. -/
def fnExactShownByCard : Claim7 := { stood := { row := fnExactShownByRow, standIns := [], harness := (true, "9fb4f24bf239f7daac83b0db35a9f144efb1d6a6699eaae542ca6ae614654b51"), looks := false }, kinds := [], alts := [], laidByText := true, laidKinds := [.data, .pinned], laidTests := true, laidLooks := .later }
def FnExactShownByCardSaid : Prop := Claim7.holds Tryd.pinned (.plain (OpenSpec.ofChange fnExactShownBySpec)) fnExactShownByCard

/-- THE TIED CARD OF 'laws.FnExactArePostmarks'. -/
def fnExactArePostmarksCard : Claim7 := { stood := { row := fnExactArePostmarksRow, standIns := [], harness := (true, "9fb4f24bf239f7daac83b0db35a9f144efb1d6a6699eaae542ca6ae614654b51"), looks := false }, kinds := [], alts := [], laidByText := true, laidKinds := [.data, .pinned], laidTests := true, laidLooks := .later }
def FnExactArePostmarksCardSaid : Prop := Claim7.holds Tryd.pinned (.plain (OpenSpec.ofChange fnExactArePostmarksSpec)) fnExactArePostmarksCard

/-- THE TIED CARD OF 'laws.FnExactLatestUse'. -/
def fnExactLatestUseCard : Claim7 := { stood := { row := fnExactLatestUseRow, standIns := [], harness := (true, "9fb4f24bf239f7daac83b0db35a9f144efb1d6a6699eaae542ca6ae614654b51"), looks := false }, kinds := [], alts := [], laidByText := true, laidKinds := [.data, .pinned], laidTests := true, laidLooks := .later }
def FnExactLatestUseCardSaid : Prop := Claim7.holds Tryd.pinned (.plain (OpenSpec.ofChange fnExactLatestUseSpec)) fnExactLatestUseCard

/-- THE TIED CARD OF 'laws.FnExactGapBetween'. -/
def fnExactGapBetweenCard : Claim7 := { stood := { row := fnExactGapBetweenRow, standIns := [], harness := (true, "9fb4f24bf239f7daac83b0db35a9f144efb1d6a6699eaae542ca6ae614654b51"), looks := false }, kinds := [], alts := [], laidByText := true, laidKinds := [.data, .pinned], laidTests := true, laidLooks := .later }
def FnExactGapBetweenCardSaid : Prop := Claim7.holds Tryd.pinned (.plain (OpenSpec.ofChange fnExactGapBetweenSpec)) fnExactGapBetweenCard

/-- THE TIED CARD OF 'laws.FnExactSameTown'. -/
def fnExactSameTownCard : Claim7 := { stood := { row := fnExactSameTownRow, standIns := [], harness := (true, "9fb4f24bf239f7daac83b0db35a9f144efb1d6a6699eaae542ca6ae614654b51"), looks := false }, kinds := [], alts := [], laidByText := true, laidKinds := [.data, .pinned], laidTests := true, laidLooks := .later }
def FnExactSameTownCardSaid : Prop := Claim7.holds Tryd.pinned (.plain (OpenSpec.ofChange fnExactSameTownSpec)) fnExactSameTownCard

/-- THE TIED CARD OF 'laws.FnExactLoseLetter'. -/
def fnExactLoseLetterCard : Claim7 := { stood := { row := fnExactLoseLetterRow, standIns := [], harness := (true, "9fb4f24bf239f7daac83b0db35a9f144efb1d6a6699eaae542ca6ae614654b51"), looks := false }, kinds := [], alts := [], laidByText := true, laidKinds := [.data, .pinned], laidTests := true, laidLooks := .later }
def FnExactLoseLetterCardSaid : Prop := Claim7.holds Tryd.pinned (.plain (OpenSpec.ofChange fnExactLoseLetterSpec)) fnExactLoseLetterCard

/-- THE TIED CARD OF 'laws.FnExactExtendUse'. -/
def fnExactExtendUseCard : Claim7 := { stood := { row := fnExactExtendUseRow, standIns := [], harness := (true, "9fb4f24bf239f7daac83b0db35a9f144efb1d6a6699eaae542ca6ae614654b51"), looks := false }, kinds := [], alts := [], laidByText := true, laidKinds := [.data, .pinned], laidTests := true, laidLooks := .later }
def FnExactExtendUseCardSaid : Prop := Claim7.holds Tryd.pinned (.plain (OpenSpec.ofChange fnExactExtendUseSpec)) fnExactExtendUseCard

/-- THE TIED CARD OF 'laws.FnExactPostmarkText'. -/
def fnExactPostmarkTextCard : Claim7 := { stood := { row := fnExactPostmarkTextRow, standIns := [], harness := (true, "9fb4f24bf239f7daac83b0db35a9f144efb1d6a6699eaae542ca6ae614654b51"), looks := false }, kinds := [], alts := [], laidByText := true, laidKinds := [.data, .data, .data, .data, .pinned], laidTests := true, laidLooks := .later }
def FnExactPostmarkTextCardSaid : Prop := Claim7.holds Tryd.pinned (.plain (OpenSpec.ofChange fnExactPostmarkTextSpec)) fnExactPostmarkTextCard

/-- THE TIED CARD OF 'laws.FnExactReadMarks'. -/
def fnExactReadMarksCard : Claim7 := { stood := { row := fnExactReadMarksRow, standIns := [], harness := (true, "9fb4f24bf239f7daac83b0db35a9f144efb1d6a6699eaae542ca6ae614654b51"), looks := false }, kinds := [], alts := [], laidByText := true, laidKinds := [.data, .pinned], laidTests := true, laidLooks := .later }
def FnExactReadMarksCardSaid : Prop := Claim7.holds Tryd.pinned (.plain (OpenSpec.ofChange fnExactReadMarksSpec)) fnExactReadMarksCard

/-- THE TIED CARD OF 'laws.FnExactTownsOn'. -/
def fnExactTownsOnCard : Claim7 := { stood := { row := fnExactTownsOnRow, standIns := [], harness := (true, "9fb4f24bf239f7daac83b0db35a9f144efb1d6a6699eaae542ca6ae614654b51"), looks := false }, kinds := [], alts := [], laidByText := true, laidKinds := [.data, .pinned], laidTests := true, laidLooks := .later }
def FnExactTownsOnCardSaid : Prop := Claim7.holds Tryd.pinned (.plain (OpenSpec.ofChange fnExactTownsOnSpec)) fnExactTownsOnCard

/-- THE TIED CARD OF 'laws.FnPostmarks'. -/
def fnPostmarksCard : Claim7 := { stood := { row := fnPostmarksRow, standIns := [], harness := (true, "9fb4f24bf239f7daac83b0db35a9f144efb1d6a6699eaae542ca6ae614654b51"), looks := false }, kinds := [], alts := [], laidByText := true, laidKinds := [.data, .pinned], laidTests := true, laidLooks := .later }
def FnPostmarksCardSaid : Prop := Claim7.holds Tryd.pinned (.plain (OpenSpec.ofChange fnPostmarksSpec)) fnPostmarksCard

/-- THE SECOND FORM's CARD OF 'laws.FnExactIsPostmark'. -/
def fnExactIsPostmarkUptoCard : Claim7 := { stood := { row := fnExactIsPostmarkUptoRow, standIns := [], harness := (true, "9fb4f24bf239f7daac83b0db35a9f144efb1d6a6699eaae542ca6ae614654b51"), looks := false }, kinds := [], alts := [], laidByText := true, laidKinds := [.data, .pinned], laidTests := true, laidLooks := .later }
def FnExactIsPostmarkUptoCardSaid : Prop := Claim7.holds Tryd.pinned (.plain (OpenSpec.upto fnExactIsPostmarkSpec)) fnExactIsPostmarkUptoCard

/-- THE SECOND FORM's CARD OF 'laws.FnExactShownBy'. -/
def fnExactShownByUptoCard : Claim7 := { stood := { row := fnExactShownByUptoRow, standIns := [], harness := (true, "9fb4f24bf239f7daac83b0db35a9f144efb1d6a6699eaae542ca6ae614654b51"), looks := false }, kinds := [], alts := [], laidByText := true, laidKinds := [.data, .pinned], laidTests := true, laidLooks := .later }
def FnExactShownByUptoCardSaid : Prop := Claim7.holds Tryd.pinned (.plain (OpenSpec.upto fnExactShownBySpec)) fnExactShownByUptoCard

/-- THE SECOND FORM's CARD OF 'laws.FnExactArePostmarks'. -/
def fnExactArePostmarksUptoCard : Claim7 := { stood := { row := fnExactArePostmarksUptoRow, standIns := [], harness := (true, "9fb4f24bf239f7daac83b0db35a9f144efb1d6a6699eaae542ca6ae614654b51"), looks := false }, kinds := [], alts := [], laidByText := true, laidKinds := [.data, .pinned], laidTests := true, laidLooks := .later }
def FnExactArePostmarksUptoCardSaid : Prop := Claim7.holds Tryd.pinned (.plain (OpenSpec.upto fnExactArePostmarksSpec)) fnExactArePostmarksUptoCard

/-- THE SECOND FORM's CARD OF 'laws.FnExactLatestUse'. -/
def fnExactLatestUseUptoCard : Claim7 := { stood := { row := fnExactLatestUseUptoRow, standIns := [], harness := (true, "9fb4f24bf239f7daac83b0db35a9f144efb1d6a6699eaae542ca6ae614654b51"), looks := false }, kinds := [], alts := [], laidByText := true, laidKinds := [.data, .pinned], laidTests := true, laidLooks := .later }
def FnExactLatestUseUptoCardSaid : Prop := Claim7.holds Tryd.pinned (.plain (OpenSpec.upto fnExactLatestUseSpec)) fnExactLatestUseUptoCard

/-- THE SECOND FORM's CARD OF 'laws.FnExactGapBetween'. -/
def fnExactGapBetweenUptoCard : Claim7 := { stood := { row := fnExactGapBetweenUptoRow, standIns := [], harness := (true, "9fb4f24bf239f7daac83b0db35a9f144efb1d6a6699eaae542ca6ae614654b51"), looks := false }, kinds := [], alts := [], laidByText := true, laidKinds := [.data, .pinned], laidTests := true, laidLooks := .later }
def FnExactGapBetweenUptoCardSaid : Prop := Claim7.holds Tryd.pinned (.plain (OpenSpec.upto fnExactGapBetweenSpec)) fnExactGapBetweenUptoCard

/-- THE SECOND FORM's CARD OF 'laws.FnExactSameTown'. -/
def fnExactSameTownUptoCard : Claim7 := { stood := { row := fnExactSameTownUptoRow, standIns := [], harness := (true, "9fb4f24bf239f7daac83b0db35a9f144efb1d6a6699eaae542ca6ae614654b51"), looks := false }, kinds := [], alts := [], laidByText := true, laidKinds := [.data, .pinned], laidTests := true, laidLooks := .later }
def FnExactSameTownUptoCardSaid : Prop := Claim7.holds Tryd.pinned (.plain (OpenSpec.upto fnExactSameTownSpec)) fnExactSameTownUptoCard

/-- THE SECOND FORM's CARD OF 'laws.FnExactLoseLetter'. -/
def fnExactLoseLetterUptoCard : Claim7 := { stood := { row := fnExactLoseLetterUptoRow, standIns := [], harness := (true, "9fb4f24bf239f7daac83b0db35a9f144efb1d6a6699eaae542ca6ae614654b51"), looks := false }, kinds := [], alts := [], laidByText := true, laidKinds := [.data, .pinned], laidTests := true, laidLooks := .later }
def FnExactLoseLetterUptoCardSaid : Prop := Claim7.holds Tryd.pinned (.plain (OpenSpec.upto fnExactLoseLetterSpec)) fnExactLoseLetterUptoCard

/-- THE SECOND FORM's CARD OF 'laws.FnExactExtendUse'. -/
def fnExactExtendUseUptoCard : Claim7 := { stood := { row := fnExactExtendUseUptoRow, standIns := [], harness := (true, "9fb4f24bf239f7daac83b0db35a9f144efb1d6a6699eaae542ca6ae614654b51"), looks := false }, kinds := [], alts := [], laidByText := true, laidKinds := [.data, .pinned], laidTests := true, laidLooks := .later }
def FnExactExtendUseUptoCardSaid : Prop := Claim7.holds Tryd.pinned (.plain (OpenSpec.upto fnExactExtendUseSpec)) fnExactExtendUseUptoCard

/-- THE SECOND FORM's CARD OF 'laws.FnExactPostmarkText'. -/
def fnExactPostmarkTextUptoCard : Claim7 := { stood := { row := fnExactPostmarkTextUptoRow, standIns := [], harness := (true, "9fb4f24bf239f7daac83b0db35a9f144efb1d6a6699eaae542ca6ae614654b51"), looks := false }, kinds := [], alts := [], laidByText := true, laidKinds := [.data, .data, .data, .data, .pinned], laidTests := true, laidLooks := .later }
def FnExactPostmarkTextUptoCardSaid : Prop := Claim7.holds Tryd.pinned (.plain (OpenSpec.upto fnExactPostmarkTextSpec)) fnExactPostmarkTextUptoCard

/-- THE SECOND FORM's CARD OF 'laws.FnExactReadMarks'. -/
def fnExactReadMarksUptoCard : Claim7 := { stood := { row := fnExactReadMarksUptoRow, standIns := [], harness := (true, "9fb4f24bf239f7daac83b0db35a9f144efb1d6a6699eaae542ca6ae614654b51"), looks := false }, kinds := [], alts := [], laidByText := true, laidKinds := [.data, .pinned], laidTests := true, laidLooks := .later }
def FnExactReadMarksUptoCardSaid : Prop := Claim7.holds Tryd.pinned (.plain (OpenSpec.upto fnExactReadMarksSpec)) fnExactReadMarksUptoCard

/-- THE SECOND FORM's CARD OF 'laws.FnExactTownsOn'. -/
def fnExactTownsOnUptoCard : Claim7 := { stood := { row := fnExactTownsOnUptoRow, standIns := [], harness := (true, "9fb4f24bf239f7daac83b0db35a9f144efb1d6a6699eaae542ca6ae614654b51"), looks := false }, kinds := [], alts := [], laidByText := true, laidKinds := [.data, .pinned], laidTests := true, laidLooks := .later }
def FnExactTownsOnUptoCardSaid : Prop := Claim7.holds Tryd.pinned (.plain (OpenSpec.upto fnExactTownsOnSpec)) fnExactTownsOnUptoCard

/-- THE SECOND FORM's CARD OF 'laws.FnPostmarks'. -/
def fnPostmarksUptoCard : Claim7 := { stood := { row := fnPostmarksUptoRow, standIns := [], harness := (true, "9fb4f24bf239f7daac83b0db35a9f144efb1d6a6699eaae542ca6ae614654b51"), looks := false }, kinds := [], alts := [], laidByText := true, laidKinds := [.data, .pinned], laidTests := true, laidLooks := .later }
def FnPostmarksUptoCardSaid : Prop := Claim7.holds Tryd.pinned (.plain (OpenSpec.upto fnPostmarksSpec)) fnPostmarksUptoCard
end Rows
end Go.Proofs.YtnehhdcaknppnaaDoor
