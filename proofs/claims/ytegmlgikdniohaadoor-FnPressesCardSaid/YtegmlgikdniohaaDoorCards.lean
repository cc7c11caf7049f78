/-
  DERIVED. GIVEN WITH THE SEED: THE CARDS: each row of YtegmlgikdniohaaDoorRows.lean that lists a variable, with what it lists TIED to the program's text (the seventh form; the later family's looks); each row that meets fmt, with fmt's text TOLD by the authors' own Lean function (tested against real Go, not proved from fmt's source: count such statements apart). THE CARD IS WHAT COUNTS. Prove the row's statement (the work); the ties are given (YtegmlgikdniohaaDoorTie.lean); close each card by the builder's one call (the guide's Derived/Test/ToyasCard.lean, 'card_holds'). Laid BY PROGRAM, IN A SANDBOX (cutbox-door.mjs). By AI agents, Wed Nov 11 2026. No macro, syntax, notation, axiom, sorry.
-/
import Derived.Test.YtegmlgikdniohaaDoorRows
import GoSem.ClaimSeven
namespace Go.Proofs.YtegmlgikdniohaaDoor
namespace Rows

/-- THE TIED CARD OF 'laws.FnPresses'. -/
def fnPressesCard : Claim7 := { stood := { row := fnPressesRow, standIns := [], harness := (true, "edb7e76d9300945f089de4552d758d93d4d3d9d618edeb5d1660c7b62db3ae41"), looks := false }, kinds := [], alts := [], laidByText := true, laidKinds := [.data, .data, .data], laidTests := true, laidLooks := .later }
def FnPressesCardSaid : Prop := Claim7.holds Tryd.pinned (.plain (OpenSpec.ofChange fnPressesSpec)) fnPressesCard

/-- THE SECOND FORM's CARD OF 'laws.FnPresses'. -/
def fnPressesUptoCard : Claim7 := { stood := { row := fnPressesUptoRow, standIns := [], harness := (true, "edb7e76d9300945f089de4552d758d93d4d3d9d618edeb5d1660c7b62db3ae41"), looks := false }, kinds := [], alts := [], laidByText := true, laidKinds := [.data, .data, .data], laidTests := true, laidLooks := .later }
def FnPressesUptoCardSaid : Prop := Claim7.holds Tryd.pinned (.plain (OpenSpec.upto fnPressesSpec)) fnPressesUptoCard
end Rows
end Go.Proofs.YtegmlgikdniohaaDoor
