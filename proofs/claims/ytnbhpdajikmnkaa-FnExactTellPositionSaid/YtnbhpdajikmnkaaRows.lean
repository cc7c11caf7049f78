/-
  No cell of these rows narrows 'for every input' (looked for: loops, veiled, ifaces, maps, wideKeys, modest, calm, conditions, laid).
  DERIVED. THE GIVEN ROWS OF THIS SEAT. 7 by the template 'for every input the law returns true; each argument reads behind the call as it read before'; 0 by the template 'total and deterministic' (their statements: YtnbhpdajikmnkaaTotals.lean).
  GIVEN WITH THE SEED: the statements are not yours to turn. If you find one false, say at which input.
  Laid BY PROGRAM, IN A SANDBOX (cutbox-rows.mjs): the forced cells as the released guide's own fill.sh prints them over the translation 156178702f2b101f… (all of the seat's roots in one cut). By AI agents, Wed Nov 11 2026. No macro, syntax, notation, axiom, sorry.
-/
import Derived.Test.YtnbhpdajikmnkaaChecked
import GoSem.Claim
import GoSem.ClaimJoined
import GoSem.ClaimMapViews
import Derived.JoinedTies
import Derived.KernelRfl
namespace Go.Proofs.Ytnbhpdajikmnkaa
/- THE CELL 'sum', in the pinned program and in every row, IS THE sha256 OF THE DUMP (.gsa) THAT YtnbhpdajikmnkaaProg.lean LOADS. Nothing in Lean hashes anything: it is a label: what it is worth is what the hold of that sum in a sandbox is worth. -/
noncomputable def Try.pinned : Pinned := { name := "ytnbhpdajikmnkaa", sum := "156178702f2b101fe7f53b4afd28312936ef92706a721ed4051cdb9653ef01da", checked := Try.checked }
namespace Rows
def none {H : Type} : Left H := { results := [], args := [] }

/-- 'laws.FnExactAreFlaws': WHATEVER THE INPUT: true; the input reads as it did. -/
def fnExactAreFlawsSpec : ChangeSpec := { name := "fnExactAreFlaws", fn := fun _ => fun
  | [d] => { results := [.lit (.bool true)], args := [d] }
  | _ => none }
def fnExactAreFlawsRow : OpenClaim := { program := "ytnbhpdajikmnkaa", sum := "156178702f2b101fe7f53b4afd28312936ef92706a721ed4051cdb9653ef01da", func := "loop.example/g01062/laws.FnExactAreFlaws", spec := "fnExactAreFlaws", apart := false }
def FnExactAreFlawsSaid : Prop := fnExactAreFlawsRow.holds Try.pinned (OpenSpec.ofChange fnExactAreFlawsSpec)

/-- ITS FALSE NEIGHBOUR: 'it returns false'. Refute it at one input. -/
def fnExactAreFlawsWrong : ChangeSpec := { name := "fnExactAreFlaws", fn := fun _ => fun
  | [d] => { results := [.lit (.bool false)], args := [d] }
  | _ => none }
def FnExactAreFlawsWrongFalsely : Prop := fnExactAreFlawsRow.holds Try.pinned (OpenSpec.ofChange fnExactAreFlawsWrong)

/-- 'laws.FnExactCleanPositions': WHATEVER THE INPUT: true; the input reads as it did. -/
def fnExactCleanPositionsSpec : ChangeSpec := { name := "fnExactCleanPositions", fn := fun _ => fun
  | [d1, d2] => { results := [.lit (.bool true)], args := [d1, d2] }
  | _ => none }
def fnExactCleanPositionsRow : OpenClaim := { program := "ytnbhpdajikmnkaa", sum := "156178702f2b101fe7f53b4afd28312936ef92706a721ed4051cdb9653ef01da", func := "loop.example/g01062/laws.FnExactCleanPositions", spec := "fnExactCleanPositions", apart := false }
def FnExactCleanPositionsSaid : Prop := fnExactCleanPositionsRow.holds Try.pinned (OpenSpec.ofChange fnExactCleanPositionsSpec)

/-- ITS FALSE NEIGHBOUR: 'it returns false'. Refute it at one input. -/
def fnExactCleanPositionsWrong : ChangeSpec := { name := "fnExactCleanPositions", fn := fun _ => fun
  | [d1, d2] => { results := [.lit (.bool false)], args := [d1, d2] }
  | _ => none }
def FnExactCleanPositionsWrongFalsely : Prop := fnExactCleanPositionsRow.holds Try.pinned (OpenSpec.ofChange fnExactCleanPositionsWrong)

/-- 'laws.FnExactEarlyFlaws': WHATEVER THE INPUT: true; the input reads as it did. -/
def fnExactEarlyFlawsSpec : ChangeSpec := { name := "fnExactEarlyFlaws", fn := fun _ => fun
  | [d1, d2] => { results := [.lit (.bool true)], args := [d1, d2] }
  | _ => none }
def fnExactEarlyFlawsRow : OpenClaim := { program := "ytnbhpdajikmnkaa", sum := "156178702f2b101fe7f53b4afd28312936ef92706a721ed4051cdb9653ef01da", func := "loop.example/g01062/laws.FnExactEarlyFlaws", spec := "fnExactEarlyFlaws", apart := false }
def FnExactEarlyFlawsSaid : Prop := fnExactEarlyFlawsRow.holds Try.pinned (OpenSpec.ofChange fnExactEarlyFlawsSpec)

/-- ITS FALSE NEIGHBOUR: 'it returns false'. Refute it at one input. -/
def fnExactEarlyFlawsWrong : ChangeSpec := { name := "fnExactEarlyFlaws", fn := fun _ => fun
  | [d1, d2] => { results := [.lit (.bool false)], args := [d1, d2] }
  | _ => none }
def FnExactEarlyFlawsWrongFalsely : Prop := fnExactEarlyFlawsRow.holds Try.pinned (OpenSpec.ofChange fnExactEarlyFlawsWrong)

/-- 'laws.FnExactCodesAt': WHATEVER THE INPUT: true; the input reads as it did. -/
def fnExactCodesAtSpec : ChangeSpec := { name := "fnExactCodesAt", fn := fun _ => fun
  | [d1, d2, d3] => { results := [.lit (.bool true)], args := [d1, d2, d3] }
  | _ => none }
def fnExactCodesAtRow : OpenClaim := { program := "ytnbhpdajikmnkaa", sum := "156178702f2b101fe7f53b4afd28312936ef92706a721ed4051cdb9653ef01da", func := "loop.example/g01062/laws.FnExactCodesAt", spec := "fnExactCodesAt", apart := false }
def FnExactCodesAtSaid : Prop := fnExactCodesAtRow.holds Try.pinned (OpenSpec.ofChange fnExactCodesAtSpec)

/-- ITS FALSE NEIGHBOUR: 'it returns false'. Refute it at one input. -/
def fnExactCodesAtWrong : ChangeSpec := { name := "fnExactCodesAt", fn := fun _ => fun
  | [d1, d2, d3] => { results := [.lit (.bool false)], args := [d1, d2, d3] }
  | _ => none }
def FnExactCodesAtWrongFalsely : Prop := fnExactCodesAtRow.holds Try.pinned (OpenSpec.ofChange fnExactCodesAtWrong)

/-- 'laws.FnExactPositionsFor': WHATEVER THE INPUT: true; the input reads as it did. -/
def fnExactPositionsForSpec : ChangeSpec := { name := "fnExactPositionsFor", fn := fun _ => fun
  | [d1, d2, d3] => { results := [.lit (.bool true)], args := [d1, d2, d3] }
  | _ => none }
def fnExactPositionsForRow : OpenClaim := { program := "ytnbhpdajikmnkaa", sum := "156178702f2b101fe7f53b4afd28312936ef92706a721ed4051cdb9653ef01da", func := "loop.example/g01062/laws.FnExactPositionsFor", spec := "fnExactPositionsFor", unfollowed := true, recurses := true, apart := false }
def FnExactPositionsForSaid : Prop := fnExactPositionsForRow.holds Try.pinned (OpenSpec.ofChange fnExactPositionsForSpec)

/-- ITS FALSE NEIGHBOUR: 'it returns false'. Refute it at one input. -/
def fnExactPositionsForWrong : ChangeSpec := { name := "fnExactPositionsFor", fn := fun _ => fun
  | [d1, d2, d3] => { results := [.lit (.bool false)], args := [d1, d2, d3] }
  | _ => none }
def FnExactPositionsForWrongFalsely : Prop := fnExactPositionsForRow.holds Try.pinned (OpenSpec.ofChange fnExactPositionsForWrong)

/-- 'laws.FnExactTellPosition': WHATEVER THE INPUT: true; the input reads as it did. -/
def fnExactTellPositionSpec : ChangeSpec := { name := "fnExactTellPosition", fn := fun _ => fun
  | [d1, d2] => { results := [.lit (.bool true)], args := [d1, d2] }
  | _ => none }
def fnExactTellPositionRow : OpenClaim := { program := "ytnbhpdajikmnkaa", sum := "156178702f2b101fe7f53b4afd28312936ef92706a721ed4051cdb9653ef01da", func := "loop.example/g01062/laws.FnExactTellPosition", spec := "fnExactTellPosition", unfollowed := true, recurses := true, apart := false }
def FnExactTellPositionSaid : Prop := fnExactTellPositionRow.holds Try.pinned (OpenSpec.ofChange fnExactTellPositionSpec)

/-- ITS FALSE NEIGHBOUR: 'it returns false'. Refute it at one input. -/
def fnExactTellPositionWrong : ChangeSpec := { name := "fnExactTellPosition", fn := fun _ => fun
  | [d1, d2] => { results := [.lit (.bool false)], args := [d1, d2] }
  | _ => none }
def FnExactTellPositionWrongFalsely : Prop := fnExactTellPositionRow.holds Try.pinned (OpenSpec.ofChange fnExactTellPositionWrong)

/-- 'laws.FnExactStatesFor': WHATEVER THE INPUT: true; the input reads as it did. -/
def fnExactStatesForSpec : ChangeSpec := { name := "fnExactStatesFor", fn := fun _ => fun
  | [d1, d2, d3] => { results := [.lit (.bool true)], args := [d1, d2, d3] }
  | _ => none }
def fnExactStatesForRow : OpenClaim := { program := "ytnbhpdajikmnkaa", sum := "156178702f2b101fe7f53b4afd28312936ef92706a721ed4051cdb9653ef01da", func := "loop.example/g01062/laws.FnExactStatesFor", spec := "fnExactStatesFor", unfollowed := true, recurses := true, apart := false }
def FnExactStatesForSaid : Prop := fnExactStatesForRow.holds Try.pinned (OpenSpec.ofChange fnExactStatesForSpec)

/-- ITS FALSE NEIGHBOUR: 'it returns false'. Refute it at one input. -/
def fnExactStatesForWrong : ChangeSpec := { name := "fnExactStatesFor", fn := fun _ => fun
  | [d1, d2, d3] => { results := [.lit (.bool false)], args := [d1, d2, d3] }
  | _ => none }
def FnExactStatesForWrongFalsely : Prop := fnExactStatesForRow.holds Try.pinned (OpenSpec.ofChange fnExactStatesForWrong)

/- THE SECOND FORM. 'bulk': how many values and letters a reading holds, each counted each time it is reached (what is shared counts as often as it is met; a slice's spare places count too). A statement '..UptoSaid' is the law's where the arguments, and the package variables that the reading takes, are together of bulk at most 1048576: NARROWER than '..Said'. Prove '..Said' where nothing that the law and all that it calls make is longer than what came in: it says more and counts as full. Else prove '..UptoSaid'. A law counts once. -/
mutual
def uptoBulk {H : Type} : DataW H → Nat
  | .lit (.string bytes) => bytes.length + 1
  | .lit _ => 1
  | .nil => 1
  | .ptr d => uptoBulk d + 1
  | .slice elems spare => uptoBulkAll elems + uptoBulkAll spare + 1
  | .agg parts => uptoBulkAll parts + 1
  | .iface _ d => uptoBulk d + 1
  | .map entries => uptoBulkEntries entries + 1
  | .held _ => 1
def uptoBulkAll {H : Type} : List (DataW H) → Nat
  | [] => 0
  | d :: r => uptoBulk d + uptoBulkAll r
def uptoBulkEntries {H : Type} : List (Lit × DataW H) → Nat
  | [] => 0
  | x :: r => uptoBulkEntry x + uptoBulkEntries r
def uptoBulkEntry {H : Type} : Lit × DataW H → Nat
  | (.string bytes, d) => bytes.length + uptoBulk d + 1
  | (_, d) => uptoBulk d + 1
 end
def uptoSmall : (H : Type) → List (DataW H) → Bool := fun _ ds => decide (uptoBulkAll ds ≤ 1048576)
def OpenSpec.upto (s : _root_.Go.ChangeSpec) : _root_.Go.OpenSpec := { _root_.Go.OpenSpec.ofChange s with cond := some uptoSmall }

/-- 'laws.FnExactAreFlaws', WHERE WHAT IT READS IS OF BULK AT MOST 1048576: true; the input reads as it did. -/
def fnExactAreFlawsUptoRow : OpenClaim := { program := "ytnbhpdajikmnkaa", sum := "156178702f2b101fe7f53b4afd28312936ef92706a721ed4051cdb9653ef01da", func := "loop.example/g01062/laws.FnExactAreFlaws", spec := "fnExactAreFlaws", apart := false, narrowed := true }
def FnExactAreFlawsUptoSaid : Prop := fnExactAreFlawsUptoRow.holds Try.pinned (OpenSpec.upto fnExactAreFlawsSpec)

/-- 'laws.FnExactCleanPositions', WHERE WHAT IT READS IS OF BULK AT MOST 1048576: true; the input reads as it did. -/
def fnExactCleanPositionsUptoRow : OpenClaim := { program := "ytnbhpdajikmnkaa", sum := "156178702f2b101fe7f53b4afd28312936ef92706a721ed4051cdb9653ef01da", func := "loop.example/g01062/laws.FnExactCleanPositions", spec := "fnExactCleanPositions", apart := false, narrowed := true }
def FnExactCleanPositionsUptoSaid : Prop := fnExactCleanPositionsUptoRow.holds Try.pinned (OpenSpec.upto fnExactCleanPositionsSpec)

/-- 'laws.FnExactEarlyFlaws', WHERE WHAT IT READS IS OF BULK AT MOST 1048576: true; the input reads as it did. -/
def fnExactEarlyFlawsUptoRow : OpenClaim := { program := "ytnbhpdajikmnkaa", sum := "156178702f2b101fe7f53b4afd28312936ef92706a721ed4051cdb9653ef01da", func := "loop.example/g01062/laws.FnExactEarlyFlaws", spec := "fnExactEarlyFlaws", apart := false, narrowed := true }
def FnExactEarlyFlawsUptoSaid : Prop := fnExactEarlyFlawsUptoRow.holds Try.pinned (OpenSpec.upto fnExactEarlyFlawsSpec)

/-- 'laws.FnExactCodesAt', WHERE WHAT IT READS IS OF BULK AT MOST 1048576: true; the input reads as it did. -/
def fnExactCodesAtUptoRow : OpenClaim := { program := "ytnbhpdajikmnkaa", sum := "156178702f2b101fe7f53b4afd28312936ef92706a721ed4051cdb9653ef01da", func := "loop.example/g01062/laws.FnExactCodesAt", spec := "fnExactCodesAt", apart := false, narrowed := true }
def FnExactCodesAtUptoSaid : Prop := fnExactCodesAtUptoRow.holds Try.pinned (OpenSpec.upto fnExactCodesAtSpec)

/-- 'laws.FnExactPositionsFor', WHERE WHAT IT READS IS OF BULK AT MOST 1048576: true; the input reads as it did. -/
def fnExactPositionsForUptoRow : OpenClaim := { program := "ytnbhpdajikmnkaa", sum := "156178702f2b101fe7f53b4afd28312936ef92706a721ed4051cdb9653ef01da", func := "loop.example/g01062/laws.FnExactPositionsFor", spec := "fnExactPositionsFor", unfollowed := true, recurses := true, apart := false, narrowed := true }
def FnExactPositionsForUptoSaid : Prop := fnExactPositionsForUptoRow.holds Try.pinned (OpenSpec.upto fnExactPositionsForSpec)

/-- 'laws.FnExactTellPosition', WHERE WHAT IT READS IS OF BULK AT MOST 1048576: true; the input reads as it did. -/
def fnExactTellPositionUptoRow : OpenClaim := { program := "ytnbhpdajikmnkaa", sum := "156178702f2b101fe7f53b4afd28312936ef92706a721ed4051cdb9653ef01da", func := "loop.example/g01062/laws.FnExactTellPosition", spec := "fnExactTellPosition", unfollowed := true, recurses := true, apart := false, narrowed := true }
def FnExactTellPositionUptoSaid : Prop := fnExactTellPositionUptoRow.holds Try.pinned (OpenSpec.upto fnExactTellPositionSpec)

/-- 'laws.FnExactStatesFor', WHERE WHAT IT READS IS OF BULK AT MOST 1048576: true; the input reads as it did. -/
def fnExactStatesForUptoRow : OpenClaim := { program := "ytnbhpdajikmnkaa", sum := "156178702f2b101fe7f53b4afd28312936ef92706a721ed4051cdb9653ef01da", func := "loop.example/g01062/laws.FnExactStatesFor", spec := "fnExactStatesFor", unfollowed := true, recurses := true, apart := false, narrowed := true }
def FnExactStatesForUptoSaid : Prop := fnExactStatesForUptoRow.holds Try.pinned (OpenSpec.upto fnExactStatesForSpec)

end Rows
end Go.Proofs.Ytnbhpdajikmnkaa
