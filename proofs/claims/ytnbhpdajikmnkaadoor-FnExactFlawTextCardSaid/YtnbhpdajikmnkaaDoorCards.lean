/-
  DERIVED. GIVEN WITH THE SEED: THE CARDS: each row of YtnbhpdajikmnkaaDoorRows.lean that lists a variable, with what it lists TIED to the program's text (the seventh form; the later family's looks); each row that meets fmt, with fmt's text TOLD by the authors' own Lean function (tested against real Go, not proved from fmt's source: count such statements apart). THE CARD IS WHAT COUNTS. Prove the row's statement (the work); the ties are given (YtnbhpdajikmnkaaDoorTie.lean); close each card by the builder's one call (the guide's Derived/Test/ToyasCard.lean, 'card_holds'). Laid BY PROGRAM, IN A SANDBOX (cutbox-door.mjs). By AI agents, Wed Nov 11 2026. No macro, syntax, notation, axiom, sorry.
-/
import Derived.Test.YtnbhpdajikmnkaaDoorRows
import GoSem.ClaimSeven
namespace Go.Proofs.YtnbhpdajikmnkaaDoor
namespace Rows

/-- THE TIED CARD OF 'laws.FnExactFlawText'. -/
def fnExactFlawTextCard : Claim7 := { stood := { row := fnExactFlawTextRow, standIns := [], harness := (true, "549c678ba6d1690519d0034db27410fa78df529d6ef74c348229f3a0b09209f8"), looks := false }, kinds := [], alts := [], laidByText := true, laidKinds := [.data, .data, .data], laidTests := true, laidLooks := .later }
def FnExactFlawTextCardSaid : Prop := Claim7.holds Tryd.pinned (.plain (OpenSpec.ofChange fnExactFlawTextSpec)) fnExactFlawTextCard

/-- THE SECOND FORM's CARD OF 'laws.FnExactFlawText'. -/
def fnExactFlawTextUptoCard : Claim7 := { stood := { row := fnExactFlawTextUptoRow, standIns := [], harness := (true, "549c678ba6d1690519d0034db27410fa78df529d6ef74c348229f3a0b09209f8"), looks := false }, kinds := [], alts := [], laidByText := true, laidKinds := [.data, .data, .data], laidTests := true, laidLooks := .later }
def FnExactFlawTextUptoCardSaid : Prop := Claim7.holds Tryd.pinned (.plain (OpenSpec.upto fnExactFlawTextSpec)) fnExactFlawTextUptoCard
end Rows
end Go.Proofs.YtnbhpdajikmnkaaDoor
