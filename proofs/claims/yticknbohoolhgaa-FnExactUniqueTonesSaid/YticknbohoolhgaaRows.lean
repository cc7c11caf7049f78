/-
  No cell of these rows narrows 'for every input' (looked for: loops, veiled, ifaces, maps, wideKeys, modest, calm, conditions, laid).
  DERIVED. THE GIVEN ROWS OF THIS SEAT. 12 by the template 'for every input the law returns true; each argument reads behind the call as it read before'; 0 by the template 'total and deterministic' (their statements: YticknbohoolhgaaTotals.lean).
  GIVEN WITH THE SEED: the statements are not yours to turn. If you find one false, say at which input.
  Laid BY PROGRAM, IN A SANDBOX (cutbox-rows.mjs): the forced cells as the released guide's own fill.sh prints them over the translation 4b55f8e135fcc3d2… (all of the seat's roots in one cut). By AI agents, Wed Nov 11 2026. No macro, syntax, notation, axiom, sorry.
-/
import Derived.Test.YticknbohoolhgaaChecked
import GoSem.Claim
import GoSem.ClaimJoined
import GoSem.ClaimMapViews
import Derived.JoinedTies
import Derived.KernelRfl
namespace Go.Proofs.Yticknbohoolhgaa
/- THE CELL 'sum', in the pinned program and in every row, IS THE sha256 OF THE DUMP (.gsa) THAT YticknbohoolhgaaProg.lean LOADS. Nothing in Lean hashes anything: it is a label: what it is worth is what the hold of that sum in a sandbox is worth. -/
noncomputable def Try.pinned : Pinned := { name := "yticknbohoolhgaa", sum := "4b55f8e135fcc3d2e5299b1ceeea19bf3757348cc4446089c4a8a33115e68a07", checked := Try.checked }
namespace Rows
def none {H : Type} : Left H := { results := [], args := [] }

/-- 'laws.FnExactArePrintings': WHATEVER THE INPUT: true; the input reads as it did. -/
def fnExactArePrintingsSpec : ChangeSpec := { name := "fnExactArePrintings", fn := fun _ => fun
  | [d] => { results := [.lit (.bool true)], args := [d] }
  | _ => none }
def fnExactArePrintingsRow : OpenClaim := { program := "yticknbohoolhgaa", sum := "4b55f8e135fcc3d2e5299b1ceeea19bf3757348cc4446089c4a8a33115e68a07", func := "loop.example/g01062/laws.FnExactArePrintings", spec := "fnExactArePrintings", apart := false }
def FnExactArePrintingsSaid : Prop := fnExactArePrintingsRow.holds Try.pinned (OpenSpec.ofChange fnExactArePrintingsSpec)

/-- ITS FALSE NEIGHBOUR: 'it returns false'. Refute it at one input. -/
def fnExactArePrintingsWrong : ChangeSpec := { name := "fnExactArePrintings", fn := fun _ => fun
  | [d] => { results := [.lit (.bool false)], args := [d] }
  | _ => none }
def FnExactArePrintingsWrongFalsely : Prop := fnExactArePrintingsRow.holds Try.pinned (OpenSpec.ofChange fnExactArePrintingsWrong)

/-- 'laws.FnExactLongestPause': WHATEVER THE INPUT: true; the input reads as it did. -/
def fnExactLongestPauseSpec : ChangeSpec := { name := "fnExactLongestPause", fn := fun _ => fun
  | [d] => { results := [.lit (.bool true)], args := [d] }
  | _ => none }
def fnExactLongestPauseRow : OpenClaim := { program := "yticknbohoolhgaa", sum := "4b55f8e135fcc3d2e5299b1ceeea19bf3757348cc4446089c4a8a33115e68a07", func := "loop.example/g01062/laws.FnExactLongestPause", spec := "fnExactLongestPause", apart := false }
def FnExactLongestPauseSaid : Prop := fnExactLongestPauseRow.holds Try.pinned (OpenSpec.ofChange fnExactLongestPauseSpec)

/-- ITS FALSE NEIGHBOUR: 'it returns false'. Refute it at one input. -/
def fnExactLongestPauseWrong : ChangeSpec := { name := "fnExactLongestPause", fn := fun _ => fun
  | [d] => { results := [.lit (.bool false)], args := [d] }
  | _ => none }
def FnExactLongestPauseWrongFalsely : Prop := fnExactLongestPauseRow.holds Try.pinned (OpenSpec.ofChange fnExactLongestPauseWrong)

/-- 'laws.FnExactRarestPrinting': WHATEVER THE INPUT: true; the input reads as it did. -/
def fnExactRarestPrintingSpec : ChangeSpec := { name := "fnExactRarestPrinting", fn := fun _ => fun
  | [d] => { results := [.lit (.bool true)], args := [d] }
  | _ => none }
def fnExactRarestPrintingRow : OpenClaim := { program := "yticknbohoolhgaa", sum := "4b55f8e135fcc3d2e5299b1ceeea19bf3757348cc4446089c4a8a33115e68a07", func := "loop.example/g01062/laws.FnExactRarestPrinting", spec := "fnExactRarestPrinting", apart := false }
def FnExactRarestPrintingSaid : Prop := fnExactRarestPrintingRow.holds Try.pinned (OpenSpec.ofChange fnExactRarestPrintingSpec)

/-- ITS FALSE NEIGHBOUR: 'it returns false'. Refute it at one input. -/
def fnExactRarestPrintingWrong : ChangeSpec := { name := "fnExactRarestPrinting", fn := fun _ => fun
  | [d] => { results := [.lit (.bool false)], args := [d] }
  | _ => none }
def FnExactRarestPrintingWrongFalsely : Prop := fnExactRarestPrintingRow.holds Try.pinned (OpenSpec.ofChange fnExactRarestPrintingWrong)

/-- 'laws.FnExactStampsUntil': WHATEVER THE INPUT: true; the input reads as it did. -/
def fnExactStampsUntilSpec : ChangeSpec := { name := "fnExactStampsUntil", fn := fun _ => fun
  | [d1, d2, d3] => { results := [.lit (.bool true)], args := [d1, d2, d3] }
  | _ => none }
def fnExactStampsUntilRow : OpenClaim := { program := "yticknbohoolhgaa", sum := "4b55f8e135fcc3d2e5299b1ceeea19bf3757348cc4446089c4a8a33115e68a07", func := "loop.example/g01062/laws.FnExactStampsUntil", spec := "fnExactStampsUntil", apart := false }
def FnExactStampsUntilSaid : Prop := fnExactStampsUntilRow.holds Try.pinned (OpenSpec.ofChange fnExactStampsUntilSpec)

/-- ITS FALSE NEIGHBOUR: 'it returns false'. Refute it at one input. -/
def fnExactStampsUntilWrong : ChangeSpec := { name := "fnExactStampsUntil", fn := fun _ => fun
  | [d1, d2, d3] => { results := [.lit (.bool false)], args := [d1, d2, d3] }
  | _ => none }
def FnExactStampsUntilWrongFalsely : Prop := fnExactStampsUntilRow.holds Try.pinned (OpenSpec.ofChange fnExactStampsUntilWrong)

/-- 'laws.FnExactEarliestUse': WHATEVER THE INPUT: true; the input reads as it did. -/
def fnExactEarliestUseSpec : ChangeSpec := { name := "fnExactEarliestUse", fn := fun _ => fun
  | [d1, d2] => { results := [.lit (.bool true)], args := [d1, d2] }
  | _ => none }
def fnExactEarliestUseRow : OpenClaim := { program := "yticknbohoolhgaa", sum := "4b55f8e135fcc3d2e5299b1ceeea19bf3757348cc4446089c4a8a33115e68a07", func := "loop.example/g01062/laws.FnExactEarliestUse", spec := "fnExactEarliestUse", apart := false }
def FnExactEarliestUseSaid : Prop := fnExactEarliestUseRow.holds Try.pinned (OpenSpec.ofChange fnExactEarliestUseSpec)

/-- ITS FALSE NEIGHBOUR: 'it returns false'. Refute it at one input. -/
def fnExactEarliestUseWrong : ChangeSpec := { name := "fnExactEarliestUse", fn := fun _ => fun
  | [d1, d2] => { results := [.lit (.bool false)], args := [d1, d2] }
  | _ => none }
def FnExactEarliestUseWrongFalsely : Prop := fnExactEarliestUseRow.holds Try.pinned (OpenSpec.ofChange fnExactEarliestUseWrong)

/-- 'laws.FnExactSheetsBy': WHATEVER THE INPUT: true; the input reads as it did. -/
def fnExactSheetsBySpec : ChangeSpec := { name := "fnExactSheetsBy", fn := fun _ => fun
  | [d1, d2] => { results := [.lit (.bool true)], args := [d1, d2] }
  | _ => none }
def fnExactSheetsByRow : OpenClaim := { program := "yticknbohoolhgaa", sum := "4b55f8e135fcc3d2e5299b1ceeea19bf3757348cc4446089c4a8a33115e68a07", func := "loop.example/g01062/laws.FnExactSheetsBy", spec := "fnExactSheetsBy", apart := false }
def FnExactSheetsBySaid : Prop := fnExactSheetsByRow.holds Try.pinned (OpenSpec.ofChange fnExactSheetsBySpec)

/-- ITS FALSE NEIGHBOUR: 'it returns false'. Refute it at one input. -/
def fnExactSheetsByWrong : ChangeSpec := { name := "fnExactSheetsBy", fn := fun _ => fun
  | [d1, d2] => { results := [.lit (.bool false)], args := [d1, d2] }
  | _ => none }
def FnExactSheetsByWrongFalsely : Prop := fnExactSheetsByRow.holds Try.pinned (OpenSpec.ofChange fnExactSheetsByWrong)

/-- 'laws.FnExactCanBeOf': WHATEVER THE INPUT: true; the input reads as it did. -/
def fnExactCanBeOfSpec : ChangeSpec := { name := "fnExactCanBeOf", fn := fun _ => fun
  | [d1, d2, d3] => { results := [.lit (.bool true)], args := [d1, d2, d3] }
  | _ => none }
def fnExactCanBeOfRow : OpenClaim := { program := "yticknbohoolhgaa", sum := "4b55f8e135fcc3d2e5299b1ceeea19bf3757348cc4446089c4a8a33115e68a07", func := "loop.example/g01062/laws.FnExactCanBeOf", spec := "fnExactCanBeOf", apart := false }
def FnExactCanBeOfSaid : Prop := fnExactCanBeOfRow.holds Try.pinned (OpenSpec.ofChange fnExactCanBeOfSpec)

/-- ITS FALSE NEIGHBOUR: 'it returns false'. Refute it at one input. -/
def fnExactCanBeOfWrong : ChangeSpec := { name := "fnExactCanBeOf", fn := fun _ => fun
  | [d1, d2, d3] => { results := [.lit (.bool false)], args := [d1, d2, d3] }
  | _ => none }
def FnExactCanBeOfWrongFalsely : Prop := fnExactCanBeOfRow.holds Try.pinned (OpenSpec.ofChange fnExactCanBeOfWrong)

/-- 'laws.FnExactShareOfSheets': WHATEVER THE INPUT: true; the input reads as it did. -/
def fnExactShareOfSheetsSpec : ChangeSpec := { name := "fnExactShareOfSheets", fn := fun _ => fun
  | [d1, d2] => { results := [.lit (.bool true)], args := [d1, d2] }
  | _ => none }
def fnExactShareOfSheetsRow : OpenClaim := { program := "yticknbohoolhgaa", sum := "4b55f8e135fcc3d2e5299b1ceeea19bf3757348cc4446089c4a8a33115e68a07", func := "loop.example/g01062/laws.FnExactShareOfSheets", spec := "fnExactShareOfSheets", unfollowed := true, recurses := true, apart := false }
def FnExactShareOfSheetsSaid : Prop := fnExactShareOfSheetsRow.holds Try.pinned (OpenSpec.ofChange fnExactShareOfSheetsSpec)

/-- ITS FALSE NEIGHBOUR: 'it returns false'. Refute it at one input. -/
def fnExactShareOfSheetsWrong : ChangeSpec := { name := "fnExactShareOfSheets", fn := fun _ => fun
  | [d1, d2] => { results := [.lit (.bool false)], args := [d1, d2] }
  | _ => none }
def FnExactShareOfSheetsWrongFalsely : Prop := fnExactShareOfSheetsRow.holds Try.pinned (OpenSpec.ofChange fnExactShareOfSheetsWrong)

/-- 'laws.FnExactNextPrinting': WHATEVER THE INPUT: true; the input reads as it did. -/
def fnExactNextPrintingSpec : ChangeSpec := { name := "fnExactNextPrinting", fn := fun _ => fun
  | [d1, d2, d3, d4, d5] => { results := [.lit (.bool true)], args := [d1, d2, d3, d4, d5] }
  | _ => none }
def fnExactNextPrintingRow : OpenClaim := { program := "yticknbohoolhgaa", sum := "4b55f8e135fcc3d2e5299b1ceeea19bf3757348cc4446089c4a8a33115e68a07", func := "loop.example/g01062/laws.FnExactNextPrinting", spec := "fnExactNextPrinting", apart := false }
def FnExactNextPrintingSaid : Prop := fnExactNextPrintingRow.holds Try.pinned (OpenSpec.ofChange fnExactNextPrintingSpec)

/-- ITS FALSE NEIGHBOUR: 'it returns false'. Refute it at one input. -/
def fnExactNextPrintingWrong : ChangeSpec := { name := "fnExactNextPrinting", fn := fun _ => fun
  | [d1, d2, d3, d4, d5] => { results := [.lit (.bool false)], args := [d1, d2, d3, d4, d5] }
  | _ => none }
def FnExactNextPrintingWrongFalsely : Prop := fnExactNextPrintingRow.holds Try.pinned (OpenSpec.ofChange fnExactNextPrintingWrong)

/-- 'laws.FnExactChanceOf': WHATEVER THE INPUT: true; the input reads as it did. -/
def fnExactChanceOfSpec : ChangeSpec := { name := "fnExactChanceOf", fn := fun _ => fun
  | [d1, d2, d3, d4] => { results := [.lit (.bool true)], args := [d1, d2, d3, d4] }
  | _ => none }
def fnExactChanceOfRow : OpenClaim := { program := "yticknbohoolhgaa", sum := "4b55f8e135fcc3d2e5299b1ceeea19bf3757348cc4446089c4a8a33115e68a07", func := "loop.example/g01062/laws.FnExactChanceOf", spec := "fnExactChanceOf", unfollowed := true, recurses := true, apart := false }
def FnExactChanceOfSaid : Prop := fnExactChanceOfRow.holds Try.pinned (OpenSpec.ofChange fnExactChanceOfSpec)

/-- ITS FALSE NEIGHBOUR: 'it returns false'. Refute it at one input. -/
def fnExactChanceOfWrong : ChangeSpec := { name := "fnExactChanceOf", fn := fun _ => fun
  | [d1, d2, d3, d4] => { results := [.lit (.bool false)], args := [d1, d2, d3, d4] }
  | _ => none }
def FnExactChanceOfWrongFalsely : Prop := fnExactChanceOfRow.holds Try.pinned (OpenSpec.ofChange fnExactChanceOfWrong)

/-- 'laws.FnExactUniqueTones': WHATEVER THE INPUT: true; the input reads as it did. -/
def fnExactUniqueTonesSpec : ChangeSpec := { name := "fnExactUniqueTones", fn := fun _ => fun
  | [d1, d2] => { results := [.lit (.bool true)], args := [d1, d2] }
  | _ => none }
def fnExactUniqueTonesRow : OpenClaim := { program := "yticknbohoolhgaa", sum := "4b55f8e135fcc3d2e5299b1ceeea19bf3757348cc4446089c4a8a33115e68a07", func := "loop.example/g01062/laws.FnExactUniqueTones", spec := "fnExactUniqueTones", unfollowed := true, recurses := true, apart := false }
def FnExactUniqueTonesSaid : Prop := fnExactUniqueTonesRow.holds Try.pinned (OpenSpec.ofChange fnExactUniqueTonesSpec)

/-- ITS FALSE NEIGHBOUR: 'it returns false'. Refute it at one input. -/
def fnExactUniqueTonesWrong : ChangeSpec := { name := "fnExactUniqueTones", fn := fun _ => fun
  | [d1, d2] => { results := [.lit (.bool false)], args := [d1, d2] }
  | _ => none }
def FnExactUniqueTonesWrongFalsely : Prop := fnExactUniqueTonesRow.holds Try.pinned (OpenSpec.ofChange fnExactUniqueTonesWrong)

/-- 'laws.FnPrintings': WHATEVER THE INPUT: true; the input reads as it did. -/
def fnPrintingsSpec : ChangeSpec := { name := "fnPrintings", fn := fun _ => fun
  | [d] => { results := [.lit (.bool true)], args := [d] }
  | _ => none }
def fnPrintingsRow : OpenClaim := { program := "yticknbohoolhgaa", sum := "4b55f8e135fcc3d2e5299b1ceeea19bf3757348cc4446089c4a8a33115e68a07", func := "loop.example/g01062/laws.FnPrintings", spec := "fnPrintings", unfollowed := true, recurses := true, apart := false }
def FnPrintingsSaid : Prop := fnPrintingsRow.holds Try.pinned (OpenSpec.ofChange fnPrintingsSpec)

/-- ITS FALSE NEIGHBOUR: 'it returns false'. Refute it at one input. -/
def fnPrintingsWrong : ChangeSpec := { name := "fnPrintings", fn := fun _ => fun
  | [d] => { results := [.lit (.bool false)], args := [d] }
  | _ => none }
def FnPrintingsWrongFalsely : Prop := fnPrintingsRow.holds Try.pinned (OpenSpec.ofChange fnPrintingsWrong)

/- THE SECOND FORM. 'bulk': how many values and letters a reading holds, each counted each time it is reached (what is shared counts as often as it is met; a slice's spare places count too). A statement '..UptoSaid' is the law's where the arguments, and the package variables that the reading takes, are together of bulk at most 1048576: NARROWER than '..Said'. Prove '..Said' where nothing that the law and all that it calls make is longer than what came in: it says more and counts as full. Else prove '..UptoSaid'. A law counts once. -/
mutual
def uptoBulk {H : Type} : DataW H → Nat
  | .lit (.string bytes) => bytes.length + 1
  | .lit _ => 1
  | .nil => 1
  | .ptr d => uptoBulk d + 1
  | .slice elems spare => uptoBulkAll elems + uptoBulkAll spare + 1
  | .agg parts => uptoBulkAll parts + 1
  | .iface _ d => uptoBulk d + 1
  | .map entries => uptoBulkEntries entries + 1
  | .held _ => 1
def uptoBulkAll {H : Type} : List (DataW H) → Nat
  | [] => 0
  | d :: r => uptoBulk d + uptoBulkAll r
def uptoBulkEntries {H : Type} : List (Lit × DataW H) → Nat
  | [] => 0
  | x :: r => uptoBulkEntry x + uptoBulkEntries r
def uptoBulkEntry {H : Type} : Lit × DataW H → Nat
  | (.string bytes, d) => bytes.length + uptoBulk d + 1
  | (_, d) => uptoBulk d + 1
 end
def uptoSmall : (H : Type) → List (DataW H) → Bool := fun _ ds => decide (uptoBulkAll ds ≤ 1048576)
def OpenSpec.upto (s : _root_.Go.ChangeSpec) : _root_.Go.OpenSpec := { _root_.Go.OpenSpec.ofChange s with cond := some uptoSmall }

/-- 'laws.FnExactArePrintings', WHERE WHAT IT READS IS OF BULK AT MOST 1048576: true; the input reads as it did. -/
def fnExactArePrintingsUptoRow : OpenClaim := { program := "yticknbohoolhgaa", sum := "4b55f8e135fcc3d2e5299b1ceeea19bf3757348cc4446089c4a8a33115e68a07", func := "loop.example/g01062/laws.FnExactArePrintings", spec := "fnExactArePrintings", apart := false, narrowed := true }
def FnExactArePrintingsUptoSaid : Prop := fnExactArePrintingsUptoRow.holds Try.pinned (OpenSpec.upto fnExactArePrintingsSpec)

/-- 'laws.FnExactLongestPause', WHERE WHAT IT READS IS OF BULK AT MOST 1048576: true; the input reads as it did. -/
def fnExactLongestPauseUptoRow : OpenClaim := { program := "yticknbohoolhgaa", sum := "4b55f8e135fcc3d2e5299b1ceeea19bf3757348cc4446089c4a8a33115e68a07", func := "loop.example/g01062/laws.FnExactLongestPause", spec := "fnExactLongestPause", apart := false, narrowed := true }
def FnExactLongestPauseUptoSaid : Prop := fnExactLongestPauseUptoRow.holds Try.pinned (OpenSpec.upto fnExactLongestPauseSpec)

/-- 'laws.FnExactRarestPrinting', WHERE WHAT IT READS IS OF BULK AT MOST 1048576: true; the input reads as it did. -/
def fnExactRarestPrintingUptoRow : OpenClaim := { program := "yticknbohoolhgaa", sum := "4b55f8e135fcc3d2e5299b1ceeea19bf3757348cc4446089c4a8a33115e68a07", func := "loop.example/g01062/laws.FnExactRarestPrinting", spec := "fnExactRarestPrinting", apart := false, narrowed := true }
def FnExactRarestPrintingUptoSaid : Prop := fnExactRarestPrintingUptoRow.holds Try.pinned (OpenSpec.upto fnExactRarestPrintingSpec)

/-- 'laws.FnExactStampsUntil', WHERE WHAT IT READS IS OF BULK AT MOST 1048576: true; the input reads as it did. -/
def fnExactStampsUntilUptoRow : OpenClaim := { program := "yticknbohoolhgaa", sum := "4b55f8e135fcc3d2e5299b1ceeea19bf3757348cc4446089c4a8a33115e68a07", func := "loop.example/g01062/laws.FnExactStampsUntil", spec := "fnExactStampsUntil", apart := false, narrowed := true }
def FnExactStampsUntilUptoSaid : Prop := fnExactStampsUntilUptoRow.holds Try.pinned (OpenSpec.upto fnExactStampsUntilSpec)

/-- 'laws.FnExactEarliestUse', WHERE WHAT IT READS IS OF BULK AT MOST 1048576: true; the input reads as it did. -/
def fnExactEarliestUseUptoRow : OpenClaim := { program := "yticknbohoolhgaa", sum := "4b55f8e135fcc3d2e5299b1ceeea19bf3757348cc4446089c4a8a33115e68a07", func := "loop.example/g01062/laws.FnExactEarliestUse", spec := "fnExactEarliestUse", apart := false, narrowed := true }
def FnExactEarliestUseUptoSaid : Prop := fnExactEarliestUseUptoRow.holds Try.pinned (OpenSpec.upto fnExactEarliestUseSpec)

/-- 'laws.FnExactSheetsBy', WHERE WHAT IT READS IS OF BULK AT MOST 1048576: true; the input reads as it did. -/
def fnExactSheetsByUptoRow : OpenClaim := { program := "yticknbohoolhgaa", sum := "4b55f8e135fcc3d2e5299b1ceeea19bf3757348cc4446089c4a8a33115e68a07", func := "loop.example/g01062/laws.FnExactSheetsBy", spec := "fnExactSheetsBy", apart := false, narrowed := true }
def FnExactSheetsByUptoSaid : Prop := fnExactSheetsByUptoRow.holds Try.pinned (OpenSpec.upto fnExactSheetsBySpec)

/-- 'laws.FnExactCanBeOf', WHERE WHAT IT READS IS OF BULK AT MOST 1048576: true; the input reads as it did. -/
def fnExactCanBeOfUptoRow : OpenClaim := { program := "yticknbohoolhgaa", sum := "4b55f8e135fcc3d2e5299b1ceeea19bf3757348cc4446089c4a8a33115e68a07", func := "loop.example/g01062/laws.FnExactCanBeOf", spec := "fnExactCanBeOf", apart := false, narrowed := true }
def FnExactCanBeOfUptoSaid : Prop := fnExactCanBeOfUptoRow.holds Try.pinned (OpenSpec.upto fnExactCanBeOfSpec)

/-- 'laws.FnExactShareOfSheets', WHERE WHAT IT READS IS OF BULK AT MOST 1048576: true; the input reads as it did. -/
def fnExactShareOfSheetsUptoRow : OpenClaim := { program := "yticknbohoolhgaa", sum := "4b55f8e135fcc3d2e5299b1ceeea19bf3757348cc4446089c4a8a33115e68a07", func := "loop.example/g01062/laws.FnExactShareOfSheets", spec := "fnExactShareOfSheets", unfollowed := true, recurses := true, apart := false, narrowed := true }
def FnExactShareOfSheetsUptoSaid : Prop := fnExactShareOfSheetsUptoRow.holds Try.pinned (OpenSpec.upto fnExactShareOfSheetsSpec)

/-- 'laws.FnExactNextPrinting', WHERE WHAT IT READS IS OF BULK AT MOST 1048576: true; the input reads as it did. -/
def fnExactNextPrintingUptoRow : OpenClaim := { program := "yticknbohoolhgaa", sum := "4b55f8e135fcc3d2e5299b1ceeea19bf3757348cc4446089c4a8a33115e68a07", func := "loop.example/g01062/laws.FnExactNextPrinting", spec := "fnExactNextPrinting", apart := false, narrowed := true }
def FnExactNextPrintingUptoSaid : Prop := fnExactNextPrintingUptoRow.holds Try.pinned (OpenSpec.upto fnExactNextPrintingSpec)

/-- 'laws.FnExactChanceOf', WHERE WHAT IT READS IS OF BULK AT MOST 1048576: true; the input reads as it did. -/
def fnExactChanceOfUptoRow : OpenClaim := { program := "yticknbohoolhgaa", sum := "4b55f8e135fcc3d2e5299b1ceeea19bf3757348cc4446089c4a8a33115e68a07", func := "loop.example/g01062/laws.FnExactChanceOf", spec := "fnExactChanceOf", unfollowed := true, recurses := true, apart := false, narrowed := true }
def FnExactChanceOfUptoSaid : Prop := fnExactChanceOfUptoRow.holds Try.pinned (OpenSpec.upto fnExactChanceOfSpec)

/-- 'laws.FnExactUniqueTones', WHERE WHAT IT READS IS OF BULK AT MOST 1048576: true; the input reads as it did. -/
def fnExactUniqueTonesUptoRow : OpenClaim := { program := "yticknbohoolhgaa", sum := "4b55f8e135fcc3d2e5299b1ceeea19bf3757348cc4446089c4a8a33115e68a07", func := "loop.example/g01062/laws.FnExactUniqueTones", spec := "fnExactUniqueTones", unfollowed := true, recurses := true, apart := false, narrowed := true }
def FnExactUniqueTonesUptoSaid : Prop := fnExactUniqueTonesUptoRow.holds Try.pinned (OpenSpec.upto fnExactUniqueTonesSpec)

/-- 'laws.FnPrintings', WHERE WHAT IT READS IS OF BULK AT MOST 1048576: true; the input reads as it did. -/
def fnPrintingsUptoRow : OpenClaim := { program := "yticknbohoolhgaa", sum := "4b55f8e135fcc3d2e5299b1ceeea19bf3757348cc4446089c4a8a33115e68a07", func := "loop.example/g01062/laws.FnPrintings", spec := "fnPrintings", unfollowed := true, recurses := true, apart := false, narrowed := true }
def FnPrintingsUptoSaid : Prop := fnPrintingsUptoRow.holds Try.pinned (OpenSpec.upto fnPrintingsSpec)

end Rows
end Go.Proofs.Yticknbohoolhgaa
