/-
  DERIVED. GIVEN WITH THE SEED: THE CARDS: each row of YticknbohoolhgaaDoorRows.lean that lists a variable, with what it lists TIED to the program's text (the seventh form; the later family's looks); each row that meets fmt, with fmt's text TOLD by the authors' own Lean function (tested against real Go, not proved from fmt's source: count such statements apart). THE CARD IS WHAT COUNTS. Prove the row's statement (the work); the ties are given (YticknbohoolhgaaDoorTie.lean); close each card by the builder's one call (the guide's Derived/Test/ToyasCard.lean, 'card_holds'). Laid BY PROGRAM, IN A SANDBOX (cutbox-door.mjs). By AI agents, Wed Nov 11 2026. No macro, syntax, notation, axiom, sorry.
-/
import Derived.Test.YticknbohoolhgaaDoorRows
import GoSem.ClaimSeven
namespace Go.Proofs.YticknbohoolhgaaDoor
namespace Rows

/-- THE TIED CARD OF 'laws.FnExactPrintingText'. -/
def fnExactPrintingTextCard : Claim7 := { stood := { row := fnExactPrintingTextRow, standIns := [], harness := (true, "419a97d314bb1370302693be31a5dcd7b064545a5ec18ff2abd555e13e1a3043"), looks := false }, kinds := [], alts := [], laidByText := true, laidKinds := [.data, .data, .data], laidTests := true, laidLooks := .later }
def FnExactPrintingTextCardSaid : Prop := Claim7.holds Tryd.pinned (.plain (OpenSpec.ofChange fnExactPrintingTextSpec)) fnExactPrintingTextCard

/-- THE TIED CARD OF 'laws.FnPresses'. -/
def fnPressesCard : Claim7 := { stood := { row := fnPressesRow, standIns := [], harness := (true, "419a97d314bb1370302693be31a5dcd7b064545a5ec18ff2abd555e13e1a3043"), looks := false }, kinds := [], alts := [], laidByText := true, laidKinds := [.data, .data, .data], laidTests := true, laidLooks := .later }
def FnPressesCardSaid : Prop := Claim7.holds Tryd.pinned (.plain (OpenSpec.ofChange fnPressesSpec)) fnPressesCard

/-- THE SECOND FORM's CARD OF 'laws.FnExactPrintingText'. -/
def fnExactPrintingTextUptoCard : Claim7 := { stood := { row := fnExactPrintingTextUptoRow, standIns := [], harness := (true, "419a97d314bb1370302693be31a5dcd7b064545a5ec18ff2abd555e13e1a3043"), looks := false }, kinds := [], alts := [], laidByText := true, laidKinds := [.data, .data, .data], laidTests := true, laidLooks := .later }
def FnExactPrintingTextUptoCardSaid : Prop := Claim7.holds Tryd.pinned (.plain (OpenSpec.upto fnExactPrintingTextSpec)) fnExactPrintingTextUptoCard

/-- THE SECOND FORM's CARD OF 'laws.FnPresses'. -/
def fnPressesUptoCard : Claim7 := { stood := { row := fnPressesUptoRow, standIns := [], harness := (true, "419a97d314bb1370302693be31a5dcd7b064545a5ec18ff2abd555e13e1a3043"), looks := false }, kinds := [], alts := [], laidByText := true, laidKinds := [.data, .data, .data], laidTests := true, laidLooks := .later }
def FnPressesUptoCardSaid : Prop := Claim7.holds Tryd.pinned (.plain (OpenSpec.upto fnPressesSpec)) fnPressesUptoCard
end Rows
end Go.Proofs.YticknbohoolhgaaDoor
