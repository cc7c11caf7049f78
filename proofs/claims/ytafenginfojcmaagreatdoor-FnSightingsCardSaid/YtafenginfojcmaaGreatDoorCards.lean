/-
  DERIVED. GIVEN WITH THE SEED: THE CARDS: each row of YtafenginfojcmaaGreatDoorRows.lean that lists a variable, with what it lists TIED to the program's text (the seventh form; the later family's looks); each row that meets fmt, with fmt's text TOLD by the authors' own Lean function (tested against real Go, not proved from fmt's source: count such statements apart). THE CARD IS WHAT COUNTS. Prove the row's statement (the work); the ties are given (YtafenginfojcmaaGreatDoorTie.lean); close each card by the builder's one call (the guide's Derived/Test/ToyasCard.lean, 'card_holds'). Laid BY PROGRAM, IN A SANDBOX (cutbox-door.mjs). By AI agents, Wed Nov 11 2026. No macro, syntax, notation, axiom, sorry.
-/
import Derived.Test.YtafenginfojcmaaGreatDoorRows
import GoSem.ClaimSeven
namespace Go.Proofs.YtafenginfojcmaaGreatDoor
namespace Rows

/-- THE TIED CARD OF 'laws.FnSightings'. -/
def fnSightingsCard : Claim7 := { stood := { row := fnSightingsRow, standIns := [], harness := (true, "e94fd017b183e058873bbc093b31fd374af095cdbc4570fe839c41915e1c165b"), looks := false }, kinds := [], alts := [], laidByText := true, laidKinds := [.data, .data, .data], laidTests := true, laidLooks := .later }
def FnSightingsCardSaid : Prop := Claim7.holds Tryz.pinned (.plain (OpenSpec.ofChange fnSightingsSpec)) fnSightingsCard

/-- THE SECOND FORM's CARD OF 'laws.FnSightings'. -/
def fnSightingsUptoCard : Claim7 := { stood := { row := fnSightingsUptoRow, standIns := [], harness := (true, "e94fd017b183e058873bbc093b31fd374af095cdbc4570fe839c41915e1c165b"), looks := false }, kinds := [], alts := [], laidByText := true, laidKinds := [.data, .data, .data], laidTests := true, laidLooks := .later }
def FnSightingsUptoCardSaid : Prop := Claim7.holds Tryz.pinned (.plain (OpenSpec.upto fnSightingsSpec)) fnSightingsUptoCard
end Rows
end Go.Proofs.YtafenginfojcmaaGreatDoor
