/-
  No cell of these rows narrows 'for every input' (looked for: loops, veiled, ifaces, maps, wideKeys, modest, calm, conditions, laid).
  DERIVED. THE GIVEN ROWS OF THIS SEAT. 5 by the template 'for every input the law returns true; each argument reads behind the call as it read before'; 0 by the template 'total and deterministic' (their statements: YtljbcniphdifeaaTotals.lean).
  GIVEN WITH THE SEED: the statements are not yours to turn. If you find one false, say at which input.
  Laid BY PROGRAM, IN A SANDBOX (cutbox-rows.mjs): the forced cells as the released guide's own fill.sh prints them over the translation 18216a65d53d42cb… (all of the seat's roots in one cut). By AI agents, Wed Nov 11 2026. No macro, syntax, notation, axiom, sorry.
-/
import Derived.Test.YtljbcniphdifeaaChecked
import GoSem.Claim
import GoSem.ClaimJoined
import GoSem.ClaimMapViews
import Derived.JoinedTies
import Derived.KernelRfl
namespace Go.Proofs.Ytljbcniphdifeaa
/- THE CELL 'sum', in the pinned program and in every row, IS THE sha256 OF THE DUMP (.gsa) THAT YtljbcniphdifeaaProg.lean LOADS. Nothing in Lean hashes anything: it is a label: what it is worth is what the hold of that sum in a sandbox is worth. -/
noncomputable def Try.pinned : Pinned := { name := "ytljbcniphdifeaa", sum := "18216a65d53d42cba88db0f297e965859d5d686d55fadb4c293743ac5150f921", checked := Try.checked }
namespace Rows
def none {H : Type} : Left H := { results := [], args := [] }

/-- 'laws.FnExactMakeCover': WHATEVER THE INPUT: true; the input reads as it did. -/
def fnExactMakeCoverSpec : ChangeSpec := { name := "fnExactMakeCover", fn := fun _ => fun
  | [d1, d2, d3] => { results := [.lit (.bool true)], args := [d1, d2, d3] }
  | _ => none }
def fnExactMakeCoverRow : OpenClaim := { program := "ytljbcniphdifeaa", sum := "18216a65d53d42cba88db0f297e965859d5d686d55fadb4c293743ac5150f921", func := "loop.example/g01062/laws.FnExactMakeCover", spec := "fnExactMakeCover", recurses := true, apart := false }
def FnExactMakeCoverSaid : Prop := fnExactMakeCoverRow.holds Try.pinned (OpenSpec.ofChange fnExactMakeCoverSpec)

/-- ITS FALSE NEIGHBOUR: 'it returns false'. Refute it at one input. -/
def fnExactMakeCoverWrong : ChangeSpec := { name := "fnExactMakeCover", fn := fun _ => fun
  | [d1, d2, d3] => { results := [.lit (.bool false)], args := [d1, d2, d3] }
  | _ => none }
def FnExactMakeCoverWrongFalsely : Prop := fnExactMakeCoverRow.holds Try.pinned (OpenSpec.ofChange fnExactMakeCoverWrong)

/-- 'laws.FnExactNeededChanges': WHATEVER THE INPUT: true; the input reads as it did. -/
def fnExactNeededChangesSpec : ChangeSpec := { name := "fnExactNeededChanges", fn := fun _ => fun
  | [d1, d2] => { results := [.lit (.bool true)], args := [d1, d2] }
  | _ => none }
def fnExactNeededChangesRow : OpenClaim := { program := "ytljbcniphdifeaa", sum := "18216a65d53d42cba88db0f297e965859d5d686d55fadb4c293743ac5150f921", func := "loop.example/g01062/laws.FnExactNeededChanges", spec := "fnExactNeededChanges", recurses := true, apart := false }
def FnExactNeededChangesSaid : Prop := fnExactNeededChangesRow.holds Try.pinned (OpenSpec.ofChange fnExactNeededChangesSpec)

/-- ITS FALSE NEIGHBOUR: 'it returns false'. Refute it at one input. -/
def fnExactNeededChangesWrong : ChangeSpec := { name := "fnExactNeededChanges", fn := fun _ => fun
  | [d1, d2] => { results := [.lit (.bool false)], args := [d1, d2] }
  | _ => none }
def FnExactNeededChangesWrongFalsely : Prop := fnExactNeededChangesRow.holds Try.pinned (OpenSpec.ofChange fnExactNeededChangesWrong)

/-- 'laws.FnExactPossibleChanges': WHATEVER THE INPUT: true; the input reads as it did. -/
def fnExactPossibleChangesSpec : ChangeSpec := { name := "fnExactPossibleChanges", fn := fun _ => fun
  | [d1, d2] => { results := [.lit (.bool true)], args := [d1, d2] }
  | _ => none }
def fnExactPossibleChangesRow : OpenClaim := { program := "ytljbcniphdifeaa", sum := "18216a65d53d42cba88db0f297e965859d5d686d55fadb4c293743ac5150f921", func := "loop.example/g01062/laws.FnExactPossibleChanges", spec := "fnExactPossibleChanges", recurses := true, apart := false }
def FnExactPossibleChangesSaid : Prop := fnExactPossibleChangesRow.holds Try.pinned (OpenSpec.ofChange fnExactPossibleChangesSpec)

/-- ITS FALSE NEIGHBOUR: 'it returns false'. Refute it at one input. -/
def fnExactPossibleChangesWrong : ChangeSpec := { name := "fnExactPossibleChanges", fn := fun _ => fun
  | [d1, d2] => { results := [.lit (.bool false)], args := [d1, d2] }
  | _ => none }
def FnExactPossibleChangesWrongFalsely : Prop := fnExactPossibleChangesRow.holds Try.pinned (OpenSpec.ofChange fnExactPossibleChangesWrong)

/-- 'laws.FnExactCheapestChange': WHATEVER THE INPUT: true; the input reads as it did. -/
def fnExactCheapestChangeSpec : ChangeSpec := { name := "fnExactCheapestChange", fn := fun _ => fun
  | [d1, d2, d3] => { results := [.lit (.bool true)], args := [d1, d2, d3] }
  | _ => none }
def fnExactCheapestChangeRow : OpenClaim := { program := "ytljbcniphdifeaa", sum := "18216a65d53d42cba88db0f297e965859d5d686d55fadb4c293743ac5150f921", func := "loop.example/g01062/laws.FnExactCheapestChange", spec := "fnExactCheapestChange", recurses := true, apart := false }
def FnExactCheapestChangeSaid : Prop := fnExactCheapestChangeRow.holds Try.pinned (OpenSpec.ofChange fnExactCheapestChangeSpec)

/-- ITS FALSE NEIGHBOUR: 'it returns false'. Refute it at one input. -/
def fnExactCheapestChangeWrong : ChangeSpec := { name := "fnExactCheapestChange", fn := fun _ => fun
  | [d1, d2, d3] => { results := [.lit (.bool false)], args := [d1, d2, d3] }
  | _ => none }
def FnExactCheapestChangeWrongFalsely : Prop := fnExactCheapestChangeRow.holds Try.pinned (OpenSpec.ofChange fnExactCheapestChangeWrong)

/-- 'laws.FnExactLeastChange': WHATEVER THE INPUT: true; the input reads as it did. -/
def fnExactLeastChangeSpec : ChangeSpec := { name := "fnExactLeastChange", fn := fun _ => fun
  | [d1, d2] => { results := [.lit (.bool true)], args := [d1, d2] }
  | _ => none }
def fnExactLeastChangeRow : OpenClaim := { program := "ytljbcniphdifeaa", sum := "18216a65d53d42cba88db0f297e965859d5d686d55fadb4c293743ac5150f921", func := "loop.example/g01062/laws.FnExactLeastChange", spec := "fnExactLeastChange", unfollowed := true, recurses := true, apart := false }
def FnExactLeastChangeSaid : Prop := fnExactLeastChangeRow.holds Try.pinned (OpenSpec.ofChange fnExactLeastChangeSpec)

/-- ITS FALSE NEIGHBOUR: 'it returns false'. Refute it at one input. -/
def fnExactLeastChangeWrong : ChangeSpec := { name := "fnExactLeastChange", fn := fun _ => fun
  | [d1, d2] => { results := [.lit (.bool false)], args := [d1, d2] }
  | _ => none }
def FnExactLeastChangeWrongFalsely : Prop := fnExactLeastChangeRow.holds Try.pinned (OpenSpec.ofChange fnExactLeastChangeWrong)

/- THE SECOND FORM. 'bulk': how many values and letters a reading holds, each counted each time it is reached (what is shared counts as often as it is met; a slice's spare places count too). A statement '..UptoSaid' is the law's where the arguments, and the package variables that the reading takes, are together of bulk at most 1048576: NARROWER than '..Said'. Prove '..Said' where nothing that the law and all that it calls make is longer than what came in: it says more and counts as full. Else prove '..UptoSaid'. A law counts once. -/
mutual
def uptoBulk {H : Type} : DataW H → Nat
  | .lit (.string bytes) => bytes.length + 1
  | .lit _ => 1
  | .nil => 1
  | .ptr d => uptoBulk d + 1
  | .slice elems spare => uptoBulkAll elems + uptoBulkAll spare + 1
  | .agg parts => uptoBulkAll parts + 1
  | .iface _ d => uptoBulk d + 1
  | .map entries => uptoBulkEntries entries + 1
  | .held _ => 1
def uptoBulkAll {H : Type} : List (DataW H) → Nat
  | [] => 0
  | d :: r => uptoBulk d + uptoBulkAll r
def uptoBulkEntries {H : Type} : List (Lit × DataW H) → Nat
  | [] => 0
  | x :: r => uptoBulkEntry x + uptoBulkEntries r
def uptoBulkEntry {H : Type} : Lit × DataW H → Nat
  | (.string bytes, d) => bytes.length + uptoBulk d + 1
  | (_, d) => uptoBulk d + 1
 end
def uptoSmall : (H : Type) → List (DataW H) → Bool := fun _ ds => decide (uptoBulkAll ds ≤ 1048576)
def OpenSpec.upto (s : _root_.Go.ChangeSpec) : _root_.Go.OpenSpec := { _root_.Go.OpenSpec.ofChange s with cond := some uptoSmall }

/-- 'laws.FnExactMakeCover', WHERE WHAT IT READS IS OF BULK AT MOST 1048576: true; the input reads as it did. -/
def fnExactMakeCoverUptoRow : OpenClaim := { program := "ytljbcniphdifeaa", sum := "18216a65d53d42cba88db0f297e965859d5d686d55fadb4c293743ac5150f921", func := "loop.example/g01062/laws.FnExactMakeCover", spec := "fnExactMakeCover", recurses := true, apart := false, narrowed := true }
def FnExactMakeCoverUptoSaid : Prop := fnExactMakeCoverUptoRow.holds Try.pinned (OpenSpec.upto fnExactMakeCoverSpec)

/-- 'laws.FnExactNeededChanges', WHERE WHAT IT READS IS OF BULK AT MOST 1048576: true; the input reads as it did. -/
def fnExactNeededChangesUptoRow : OpenClaim := { program := "ytljbcniphdifeaa", sum := "18216a65d53d42cba88db0f297e965859d5d686d55fadb4c293743ac5150f921", func := "loop.example/g01062/laws.FnExactNeededChanges", spec := "fnExactNeededChanges", recurses := true, apart := false, narrowed := true }
def FnExactNeededChangesUptoSaid : Prop := fnExactNeededChangesUptoRow.holds Try.pinned (OpenSpec.upto fnExactNeededChangesSpec)

/-- 'laws.FnExactPossibleChanges', WHERE WHAT IT READS IS OF BULK AT MOST 1048576: true; the input reads as it did. -/
def fnExactPossibleChangesUptoRow : OpenClaim := { program := "ytljbcniphdifeaa", sum := "18216a65d53d42cba88db0f297e965859d5d686d55fadb4c293743ac5150f921", func := "loop.example/g01062/laws.FnExactPossibleChanges", spec := "fnExactPossibleChanges", recurses := true, apart := false, narrowed := true }
def FnExactPossibleChangesUptoSaid : Prop := fnExactPossibleChangesUptoRow.holds Try.pinned (OpenSpec.upto fnExactPossibleChangesSpec)

/-- 'laws.FnExactCheapestChange', WHERE WHAT IT READS IS OF BULK AT MOST 1048576: true; the input reads as it did. -/
def fnExactCheapestChangeUptoRow : OpenClaim := { program := "ytljbcniphdifeaa", sum := "18216a65d53d42cba88db0f297e965859d5d686d55fadb4c293743ac5150f921", func := "loop.example/g01062/laws.FnExactCheapestChange", spec := "fnExactCheapestChange", recurses := true, apart := false, narrowed := true }
def FnExactCheapestChangeUptoSaid : Prop := fnExactCheapestChangeUptoRow.holds Try.pinned (OpenSpec.upto fnExactCheapestChangeSpec)

/-- 'laws.FnExactLeastChange', WHERE WHAT IT READS IS OF BULK AT MOST 1048576: true; the input reads as it did. -/
def fnExactLeastChangeUptoRow : OpenClaim := { program := "ytljbcniphdifeaa", sum := "18216a65d53d42cba88db0f297e965859d5d686d55fadb4c293743ac5150f921", func := "loop.example/g01062/laws.FnExactLeastChange", spec := "fnExactLeastChange", unfollowed := true, recurses := true, apart := false, narrowed := true }
def FnExactLeastChangeUptoSaid : Prop := fnExactLeastChangeUptoRow.holds Try.pinned (OpenSpec.upto fnExactLeastChangeSpec)

end Rows
end Go.Proofs.Ytljbcniphdifeaa
