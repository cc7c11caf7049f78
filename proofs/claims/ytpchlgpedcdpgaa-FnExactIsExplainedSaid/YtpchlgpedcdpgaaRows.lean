/-
  No cell of these rows narrows 'for every input' (looked for: loops, veiled, ifaces, maps, wideKeys, modest, calm, conditions, laid).
  DERIVED. THE GIVEN ROWS OF THIS SEAT. 13 by the template 'for every input the law returns true; each argument reads behind the call as it read before'; 0 by the template 'total and deterministic' (their statements: YtpchlgpedcdpgaaTotals.lean).
  GIVEN WITH THE SEED: the statements are not yours to turn. If you find one false, say at which input.
  Laid BY PROGRAM, IN A SANDBOX (cutbox-rows.mjs): the forced cells as the released guide's own fill.sh prints them over the translation 288f3bfbdb6e69ea… (all of the seat's roots in one cut). By AI agents, Wed Nov 11 2026. No macro, syntax, notation, axiom, sorry.
-/
import Derived.Test.YtpchlgpedcdpgaaChecked
import GoSem.Claim
import GoSem.ClaimJoined
import GoSem.ClaimMapViews
import Derived.JoinedTies
import Derived.KernelRfl
namespace Go.Proofs.Ytpchlgpedcdpgaa
/- THE CELL 'sum', in the pinned program and in every row, IS THE sha256 OF THE DUMP (.gsa) THAT YtpchlgpedcdpgaaProg.lean LOADS. Nothing in Lean hashes anything: it is a label: what it is worth is what the hold of that sum in a sandbox is worth. -/
noncomputable def Try.pinned : Pinned := { name := "ytpchlgpedcdpgaa", sum := "288f3bfbdb6e69ea5b2118ddd11d0e5f5b66c17b1dbe988653576256993d38e5", checked := Try.checked }
namespace Rows
def none {H : Type} : Left H := { results := [], args := [] }

/-- 'laws.FnExactChangeOf': WHATEVER THE INPUT: true; the input reads as it did. -/
def fnExactChangeOfSpec : ChangeSpec := { name := "fnExactChangeOf", fn := fun _ => fun
  | [d1, d2] => { results := [.lit (.bool true)], args := [d1, d2] }
  | _ => none }
def fnExactChangeOfRow : OpenClaim := { program := "ytpchlgpedcdpgaa", sum := "288f3bfbdb6e69ea5b2118ddd11d0e5f5b66c17b1dbe988653576256993d38e5", func := "loop.example/g01062/laws.FnExactChangeOf", spec := "fnExactChangeOf", apart := false }
def FnExactChangeOfSaid : Prop := fnExactChangeOfRow.holds Try.pinned (OpenSpec.ofChange fnExactChangeOfSpec)

/-- ITS FALSE NEIGHBOUR: 'it returns false'. Refute it at one input. -/
def fnExactChangeOfWrong : ChangeSpec := { name := "fnExactChangeOf", fn := fun _ => fun
  | [d1, d2] => { results := [.lit (.bool false)], args := [d1, d2] }
  | _ => none }
def FnExactChangeOfWrongFalsely : Prop := fnExactChangeOfRow.holds Try.pinned (OpenSpec.ofChange fnExactChangeOfWrong)

/-- 'laws.FnCovers': WHATEVER THE INPUT: true; the input reads as it did. -/
def fnCoversSpec : ChangeSpec := { name := "fnCovers", fn := fun _ => fun
  | [d] => { results := [.lit (.bool true)], args := [d] }
  | _ => none }
def fnCoversRow : OpenClaim := { program := "ytpchlgpedcdpgaa", sum := "288f3bfbdb6e69ea5b2118ddd11d0e5f5b66c17b1dbe988653576256993d38e5", func := "loop.example/g01062/laws.FnCovers", spec := "fnCovers", apart := false }
def FnCoversSaid : Prop := fnCoversRow.holds Try.pinned (OpenSpec.ofChange fnCoversSpec)

/-- ITS FALSE NEIGHBOUR: 'it returns false'. Refute it at one input. -/
def fnCoversWrong : ChangeSpec := { name := "fnCovers", fn := fun _ => fun
  | [d] => { results := [.lit (.bool false)], args := [d] }
  | _ => none }
def FnCoversWrongFalsely : Prop := fnCoversRow.holds Try.pinned (OpenSpec.ofChange fnCoversWrong)

/-- 'laws.FnExactChangeText': WHATEVER THE INPUT: true; the input reads as it did. -/
def fnExactChangeTextSpec : ChangeSpec := { name := "fnExactChangeText", fn := fun _ => fun
  | [d] => { results := [.lit (.bool true)], args := [d] }
  | _ => none }
def fnExactChangeTextRow : OpenClaim := { program := "ytpchlgpedcdpgaa", sum := "288f3bfbdb6e69ea5b2118ddd11d0e5f5b66c17b1dbe988653576256993d38e5", func := "loop.example/g01062/laws.FnExactChangeText", spec := "fnExactChangeText", inPlace := ["internal/abi.NoEscape", "internal/bytealg.MakeNoZero"], apart := false }
def FnExactChangeTextSaid : Prop := fnExactChangeTextRow.holds Try.pinned (OpenSpec.ofChange fnExactChangeTextSpec)

/-- ITS FALSE NEIGHBOUR: 'it returns false'. Refute it at one input. -/
def fnExactChangeTextWrong : ChangeSpec := { name := "fnExactChangeText", fn := fun _ => fun
  | [d] => { results := [.lit (.bool false)], args := [d] }
  | _ => none }
def FnExactChangeTextWrongFalsely : Prop := fnExactChangeTextRow.holds Try.pinned (OpenSpec.ofChange fnExactChangeTextWrong)

/-- 'laws.FnChanges': WHATEVER THE INPUT: true; the input reads as it did. -/
def fnChangesSpec : ChangeSpec := { name := "fnChanges", fn := fun _ => fun
  | [d] => { results := [.lit (.bool true)], args := [d] }
  | _ => none }
def fnChangesRow : OpenClaim := { program := "ytpchlgpedcdpgaa", sum := "288f3bfbdb6e69ea5b2118ddd11d0e5f5b66c17b1dbe988653576256993d38e5", func := "loop.example/g01062/laws.FnChanges", spec := "fnChanges", unfollowed := true, recurses := true, apart := false }
def FnChangesSaid : Prop := fnChangesRow.holds Try.pinned (OpenSpec.ofChange fnChangesSpec)

/-- ITS FALSE NEIGHBOUR: 'it returns false'. Refute it at one input. -/
def fnChangesWrong : ChangeSpec := { name := "fnChanges", fn := fun _ => fun
  | [d] => { results := [.lit (.bool false)], args := [d] }
  | _ => none }
def FnChangesWrongFalsely : Prop := fnChangesRow.holds Try.pinned (OpenSpec.ofChange fnChangesWrong)

/-- 'laws.FnExactIsExplained': WHATEVER THE INPUT: true; the input reads as it did. -/
def fnExactIsExplainedSpec : ChangeSpec := { name := "fnExactIsExplained", fn := fun _ => fun
  | [d1, d2] => { results := [.lit (.bool true)], args := [d1, d2] }
  | _ => none }
def fnExactIsExplainedRow : OpenClaim := { program := "ytpchlgpedcdpgaa", sum := "288f3bfbdb6e69ea5b2118ddd11d0e5f5b66c17b1dbe988653576256993d38e5", func := "loop.example/g01062/laws.FnExactIsExplained", spec := "fnExactIsExplained", apart := false }
def FnExactIsExplainedSaid : Prop := fnExactIsExplainedRow.holds Try.pinned (OpenSpec.ofChange fnExactIsExplainedSpec)

/-- ITS FALSE NEIGHBOUR: 'it returns false'. Refute it at one input. -/
def fnExactIsExplainedWrong : ChangeSpec := { name := "fnExactIsExplained", fn := fun _ => fun
  | [d1, d2] => { results := [.lit (.bool false)], args := [d1, d2] }
  | _ => none }
def FnExactIsExplainedWrongFalsely : Prop := fnExactIsExplainedRow.holds Try.pinned (OpenSpec.ofChange fnExactIsExplainedWrong)

/-- 'laws.FnExactCoversVia': WHATEVER THE INPUT: true; the input reads as it did. -/
def fnExactCoversViaSpec : ChangeSpec := { name := "fnExactCoversVia", fn := fun _ => fun
  | [d1, d2, d3] => { results := [.lit (.bool true)], args := [d1, d2, d3] }
  | _ => none }
def fnExactCoversViaRow : OpenClaim := { program := "ytpchlgpedcdpgaa", sum := "288f3bfbdb6e69ea5b2118ddd11d0e5f5b66c17b1dbe988653576256993d38e5", func := "loop.example/g01062/laws.FnExactCoversVia", spec := "fnExactCoversVia", unfollowed := true, recurses := true, apart := false }
def FnExactCoversViaSaid : Prop := fnExactCoversViaRow.holds Try.pinned (OpenSpec.ofChange fnExactCoversViaSpec)

/-- ITS FALSE NEIGHBOUR: 'it returns false'. Refute it at one input. -/
def fnExactCoversViaWrong : ChangeSpec := { name := "fnExactCoversVia", fn := fun _ => fun
  | [d1, d2, d3] => { results := [.lit (.bool false)], args := [d1, d2, d3] }
  | _ => none }
def FnExactCoversViaWrongFalsely : Prop := fnExactCoversViaRow.holds Try.pinned (OpenSpec.ofChange fnExactCoversViaWrong)

/-- 'laws.FnExactTrueCovers': WHATEVER THE INPUT: true; the input reads as it did. -/
def fnExactTrueCoversSpec : ChangeSpec := { name := "fnExactTrueCovers", fn := fun _ => fun
  | [d1, d2, d3] => { results := [.lit (.bool true)], args := [d1, d2, d3] }
  | _ => none }
def fnExactTrueCoversRow : OpenClaim := { program := "ytpchlgpedcdpgaa", sum := "288f3bfbdb6e69ea5b2118ddd11d0e5f5b66c17b1dbe988653576256993d38e5", func := "loop.example/g01062/laws.FnExactTrueCovers", spec := "fnExactTrueCovers", apart := false }
def FnExactTrueCoversSaid : Prop := fnExactTrueCoversRow.holds Try.pinned (OpenSpec.ofChange fnExactTrueCoversSpec)

/-- ITS FALSE NEIGHBOUR: 'it returns false'. Refute it at one input. -/
def fnExactTrueCoversWrong : ChangeSpec := { name := "fnExactTrueCovers", fn := fun _ => fun
  | [d1, d2, d3] => { results := [.lit (.bool false)], args := [d1, d2, d3] }
  | _ => none }
def FnExactTrueCoversWrongFalsely : Prop := fnExactTrueCoversRow.holds Try.pinned (OpenSpec.ofChange fnExactTrueCoversWrong)

/-- 'laws.FnExactMakeCover': WHATEVER THE INPUT: true; the input reads as it did. -/
def fnExactMakeCoverSpec : ChangeSpec := { name := "fnExactMakeCover", fn := fun _ => fun
  | [d1, d2, d3] => { results := [.lit (.bool true)], args := [d1, d2, d3] }
  | _ => none }
def fnExactMakeCoverRow : OpenClaim := { program := "ytpchlgpedcdpgaa", sum := "288f3bfbdb6e69ea5b2118ddd11d0e5f5b66c17b1dbe988653576256993d38e5", func := "loop.example/g01062/laws.FnExactMakeCover", spec := "fnExactMakeCover", recurses := true, apart := false }
def FnExactMakeCoverSaid : Prop := fnExactMakeCoverRow.holds Try.pinned (OpenSpec.ofChange fnExactMakeCoverSpec)

/-- ITS FALSE NEIGHBOUR: 'it returns false'. Refute it at one input. -/
def fnExactMakeCoverWrong : ChangeSpec := { name := "fnExactMakeCover", fn := fun _ => fun
  | [d1, d2, d3] => { results := [.lit (.bool false)], args := [d1, d2, d3] }
  | _ => none }
def FnExactMakeCoverWrongFalsely : Prop := fnExactMakeCoverRow.holds Try.pinned (OpenSpec.ofChange fnExactMakeCoverWrong)

/-- 'laws.FnExactNeededChanges': WHATEVER THE INPUT: true; the input reads as it did. -/
def fnExactNeededChangesSpec : ChangeSpec := { name := "fnExactNeededChanges", fn := fun _ => fun
  | [d1, d2] => { results := [.lit (.bool true)], args := [d1, d2] }
  | _ => none }
def fnExactNeededChangesRow : OpenClaim := { program := "ytpchlgpedcdpgaa", sum := "288f3bfbdb6e69ea5b2118ddd11d0e5f5b66c17b1dbe988653576256993d38e5", func := "loop.example/g01062/laws.FnExactNeededChanges", spec := "fnExactNeededChanges", recurses := true, apart := false }
def FnExactNeededChangesSaid : Prop := fnExactNeededChangesRow.holds Try.pinned (OpenSpec.ofChange fnExactNeededChangesSpec)

/-- ITS FALSE NEIGHBOUR: 'it returns false'. Refute it at one input. -/
def fnExactNeededChangesWrong : ChangeSpec := { name := "fnExactNeededChanges", fn := fun _ => fun
  | [d1, d2] => { results := [.lit (.bool false)], args := [d1, d2] }
  | _ => none }
def FnExactNeededChangesWrongFalsely : Prop := fnExactNeededChangesRow.holds Try.pinned (OpenSpec.ofChange fnExactNeededChangesWrong)

/-- 'laws.FnExactPossibleChanges': WHATEVER THE INPUT: true; the input reads as it did. -/
def fnExactPossibleChangesSpec : ChangeSpec := { name := "fnExactPossibleChanges", fn := fun _ => fun
  | [d1, d2] => { results := [.lit (.bool true)], args := [d1, d2] }
  | _ => none }
def fnExactPossibleChangesRow : OpenClaim := { program := "ytpchlgpedcdpgaa", sum := "288f3bfbdb6e69ea5b2118ddd11d0e5f5b66c17b1dbe988653576256993d38e5", func := "loop.example/g01062/laws.FnExactPossibleChanges", spec := "fnExactPossibleChanges", recurses := true, apart := false }
def FnExactPossibleChangesSaid : Prop := fnExactPossibleChangesRow.holds Try.pinned (OpenSpec.ofChange fnExactPossibleChangesSpec)

/-- ITS FALSE NEIGHBOUR: 'it returns false'. Refute it at one input. -/
def fnExactPossibleChangesWrong : ChangeSpec := { name := "fnExactPossibleChanges", fn := fun _ => fun
  | [d1, d2] => { results := [.lit (.bool false)], args := [d1, d2] }
  | _ => none }
def FnExactPossibleChangesWrongFalsely : Prop := fnExactPossibleChangesRow.holds Try.pinned (OpenSpec.ofChange fnExactPossibleChangesWrong)

/-- 'laws.FnExactCheapestChange': WHATEVER THE INPUT: true; the input reads as it did. -/
def fnExactCheapestChangeSpec : ChangeSpec := { name := "fnExactCheapestChange", fn := fun _ => fun
  | [d1, d2, d3] => { results := [.lit (.bool true)], args := [d1, d2, d3] }
  | _ => none }
def fnExactCheapestChangeRow : OpenClaim := { program := "ytpchlgpedcdpgaa", sum := "288f3bfbdb6e69ea5b2118ddd11d0e5f5b66c17b1dbe988653576256993d38e5", func := "loop.example/g01062/laws.FnExactCheapestChange", spec := "fnExactCheapestChange", recurses := true, apart := false }
def FnExactCheapestChangeSaid : Prop := fnExactCheapestChangeRow.holds Try.pinned (OpenSpec.ofChange fnExactCheapestChangeSpec)

/-- ITS FALSE NEIGHBOUR: 'it returns false'. Refute it at one input. -/
def fnExactCheapestChangeWrong : ChangeSpec := { name := "fnExactCheapestChange", fn := fun _ => fun
  | [d1, d2, d3] => { results := [.lit (.bool false)], args := [d1, d2, d3] }
  | _ => none }
def FnExactCheapestChangeWrongFalsely : Prop := fnExactCheapestChangeRow.holds Try.pinned (OpenSpec.ofChange fnExactCheapestChangeWrong)

/-- 'laws.FnExactLeastChange': WHATEVER THE INPUT: true; the input reads as it did. -/
def fnExactLeastChangeSpec : ChangeSpec := { name := "fnExactLeastChange", fn := fun _ => fun
  | [d1, d2] => { results := [.lit (.bool true)], args := [d1, d2] }
  | _ => none }
def fnExactLeastChangeRow : OpenClaim := { program := "ytpchlgpedcdpgaa", sum := "288f3bfbdb6e69ea5b2118ddd11d0e5f5b66c17b1dbe988653576256993d38e5", func := "loop.example/g01062/laws.FnExactLeastChange", spec := "fnExactLeastChange", unfollowed := true, recurses := true, apart := false }
def FnExactLeastChangeSaid : Prop := fnExactLeastChangeRow.holds Try.pinned (OpenSpec.ofChange fnExactLeastChangeSpec)

/-- ITS FALSE NEIGHBOUR: 'it returns false'. Refute it at one input. -/
def fnExactLeastChangeWrong : ChangeSpec := { name := "fnExactLeastChange", fn := fun _ => fun
  | [d1, d2] => { results := [.lit (.bool false)], args := [d1, d2] }
  | _ => none }
def FnExactLeastChangeWrongFalsely : Prop := fnExactLeastChangeRow.holds Try.pinned (OpenSpec.ofChange fnExactLeastChangeWrong)

/-- 'laws.FnMade': WHATEVER THE INPUT: true; the input reads as it did. -/
def fnMadeSpec : ChangeSpec := { name := "fnMade", fn := fun _ => fun
  | [d] => { results := [.lit (.bool true)], args := [d] }
  | _ => none }
def fnMadeRow : OpenClaim := { program := "ytpchlgpedcdpgaa", sum := "288f3bfbdb6e69ea5b2118ddd11d0e5f5b66c17b1dbe988653576256993d38e5", func := "loop.example/g01062/laws.FnMade", spec := "fnMade", inPlace := ["internal/abi.NoEscape", "internal/bytealg.MakeNoZero"], recurses := true, apart := false }
def FnMadeSaid : Prop := fnMadeRow.holds Try.pinned (OpenSpec.ofChange fnMadeSpec)

/-- ITS FALSE NEIGHBOUR: 'it returns false'. Refute it at one input. -/
def fnMadeWrong : ChangeSpec := { name := "fnMade", fn := fun _ => fun
  | [d] => { results := [.lit (.bool false)], args := [d] }
  | _ => none }
def FnMadeWrongFalsely : Prop := fnMadeRow.holds Try.pinned (OpenSpec.ofChange fnMadeWrong)

/- THE SECOND FORM. 'bulk': how many values and letters a reading holds, each counted each time it is reached (what is shared counts as often as it is met; a slice's spare places count too). A statement '..UptoSaid' is the law's where the arguments, and the package variables that the reading takes, are together of bulk at most 1048576: NARROWER than '..Said'. Prove '..Said' where nothing that the law and all that it calls make is longer than what came in: it says more and counts as full. Else prove '..UptoSaid'. A law counts once. -/
mutual
def uptoBulk {H : Type} : DataW H → Nat
  | .lit (.string bytes) => bytes.length + 1
  | .lit _ => 1
  | .nil => 1
  | .ptr d => uptoBulk d + 1
  | .slice elems spare => uptoBulkAll elems + uptoBulkAll spare + 1
  | .agg parts => uptoBulkAll parts + 1
  | .iface _ d => uptoBulk d + 1
  | .map entries => uptoBulkEntries entries + 1
  | .held _ => 1
def uptoBulkAll {H : Type} : List (DataW H) → Nat
  | [] => 0
  | d :: r => uptoBulk d + uptoBulkAll r
def uptoBulkEntries {H : Type} : List (Lit × DataW H) → Nat
  | [] => 0
  | x :: r => uptoBulkEntry x + uptoBulkEntries r
def uptoBulkEntry {H : Type} : Lit × DataW H → Nat
  | (.string bytes, d) => bytes.length + uptoBulk d + 1
  | (_, d) => uptoBulk d + 1
 end
def uptoSmall : (H : Type) → List (DataW H) → Bool := fun _ ds => decide (uptoBulkAll ds ≤ 1048576)
def OpenSpec.upto (s : _root_.Go.ChangeSpec) : _root_.Go.OpenSpec := { _root_.Go.OpenSpec.ofChange s with cond := some uptoSmall }

/-- 'laws.FnExactChangeOf', WHERE WHAT IT READS IS OF BULK AT MOST 1048576: true; the input reads as it did. -/
def fnExactChangeOfUptoRow : OpenClaim := { program := "ytpchlgpedcdpgaa", sum := "288f3bfbdb6e69ea5b2118ddd11d0e5f5b66c17b1dbe988653576256993d38e5", func := "loop.example/g01062/laws.FnExactChangeOf", spec := "fnExactChangeOf", apart := false, narrowed := true }
def FnExactChangeOfUptoSaid : Prop := fnExactChangeOfUptoRow.holds Try.pinned (OpenSpec.upto fnExactChangeOfSpec)

/-- 'laws.FnCovers', WHERE WHAT IT READS IS OF BULK AT MOST 1048576: true; the input reads as it did. -/
def fnCoversUptoRow : OpenClaim := { program := "ytpchlgpedcdpgaa", sum := "288f3bfbdb6e69ea5b2118ddd11d0e5f5b66c17b1dbe988653576256993d38e5", func := "loop.example/g01062/laws.FnCovers", spec := "fnCovers", apart := false, narrowed := true }
def FnCoversUptoSaid : Prop := fnCoversUptoRow.holds Try.pinned (OpenSpec.upto fnCoversSpec)

/-- 'laws.FnExactChangeText', WHERE WHAT IT READS IS OF BULK AT MOST 1048576: true; the input reads as it did. -/
def fnExactChangeTextUptoRow : OpenClaim := { program := "ytpchlgpedcdpgaa", sum := "288f3bfbdb6e69ea5b2118ddd11d0e5f5b66c17b1dbe988653576256993d38e5", func := "loop.example/g01062/laws.FnExactChangeText", spec := "fnExactChangeText", inPlace := ["internal/abi.NoEscape", "internal/bytealg.MakeNoZero"], apart := false, narrowed := true }
def FnExactChangeTextUptoSaid : Prop := fnExactChangeTextUptoRow.holds Try.pinned (OpenSpec.upto fnExactChangeTextSpec)

/-- 'laws.FnChanges', WHERE WHAT IT READS IS OF BULK AT MOST 1048576: true; the input reads as it did. -/
def fnChangesUptoRow : OpenClaim := { program := "ytpchlgpedcdpgaa", sum := "288f3bfbdb6e69ea5b2118ddd11d0e5f5b66c17b1dbe988653576256993d38e5", func := "loop.example/g01062/laws.FnChanges", spec := "fnChanges", unfollowed := true, recurses := true, apart := false, narrowed := true }
def FnChangesUptoSaid : Prop := fnChangesUptoRow.holds Try.pinned (OpenSpec.upto fnChangesSpec)

/-- 'laws.FnExactIsExplained', WHERE WHAT IT READS IS OF BULK AT MOST 1048576: true; the input reads as it did. -/
def fnExactIsExplainedUptoRow : OpenClaim := { program := "ytpchlgpedcdpgaa", sum := "288f3bfbdb6e69ea5b2118ddd11d0e5f5b66c17b1dbe988653576256993d38e5", func := "loop.example/g01062/laws.FnExactIsExplained", spec := "fnExactIsExplained", apart := false, narrowed := true }
def FnExactIsExplainedUptoSaid : Prop := fnExactIsExplainedUptoRow.holds Try.pinned (OpenSpec.upto fnExactIsExplainedSpec)

/-- 'laws.FnExactCoversVia', WHERE WHAT IT READS IS OF BULK AT MOST 1048576: true; the input reads as it did. -/
def fnExactCoversViaUptoRow : OpenClaim := { program := "ytpchlgpedcdpgaa", sum := "288f3bfbdb6e69ea5b2118ddd11d0e5f5b66c17b1dbe988653576256993d38e5", func := "loop.example/g01062/laws.FnExactCoversVia", spec := "fnExactCoversVia", unfollowed := true, recurses := true, apart := false, narrowed := true }
def FnExactCoversViaUptoSaid : Prop := fnExactCoversViaUptoRow.holds Try.pinned (OpenSpec.upto fnExactCoversViaSpec)

/-- 'laws.FnExactTrueCovers', WHERE WHAT IT READS IS OF BULK AT MOST 1048576: true; the input reads as it did. -/
def fnExactTrueCoversUptoRow : OpenClaim := { program := "ytpchlgpedcdpgaa", sum := "288f3bfbdb6e69ea5b2118ddd11d0e5f5b66c17b1dbe988653576256993d38e5", func := "loop.example/g01062/laws.FnExactTrueCovers", spec := "fnExactTrueCovers", apart := false, narrowed := true }
def FnExactTrueCoversUptoSaid : Prop := fnExactTrueCoversUptoRow.holds Try.pinned (OpenSpec.upto fnExactTrueCoversSpec)

/-- 'laws.FnExactMakeCover', WHERE WHAT IT READS IS OF BULK AT MOST 1048576: true; the input reads as it did. -/
def fnExactMakeCoverUptoRow : OpenClaim := { program := "ytpchlgpedcdpgaa", sum := "288f3bfbdb6e69ea5b2118ddd11d0e5f5b66c17b1dbe988653576256993d38e5", func := "loop.example/g01062/laws.FnExactMakeCover", spec := "fnExactMakeCover", recurses := true, apart := false, narrowed := true }
def FnExactMakeCoverUptoSaid : Prop := fnExactMakeCoverUptoRow.holds Try.pinned (OpenSpec.upto fnExactMakeCoverSpec)

/-- 'laws.FnExactNeededChanges', WHERE WHAT IT READS IS OF BULK AT MOST 1048576: true; the input reads as it did. -/
def fnExactNeededChangesUptoRow : OpenClaim := { program := "ytpchlgpedcdpgaa", sum := "288f3bfbdb6e69ea5b2118ddd11d0e5f5b66c17b1dbe988653576256993d38e5", func := "loop.example/g01062/laws.FnExactNeededChanges", spec := "fnExactNeededChanges", recurses := true, apart := false, narrowed := true }
def FnExactNeededChangesUptoSaid : Prop := fnExactNeededChangesUptoRow.holds Try.pinned (OpenSpec.upto fnExactNeededChangesSpec)

/-- 'laws.FnExactPossibleChanges', WHERE WHAT IT READS IS OF BULK AT MOST 1048576: true; the input reads as it did. -/
def fnExactPossibleChangesUptoRow : OpenClaim := { program := "ytpchlgpedcdpgaa", sum := "288f3bfbdb6e69ea5b2118ddd11d0e5f5b66c17b1dbe988653576256993d38e5", func := "loop.example/g01062/laws.FnExactPossibleChanges", spec := "fnExactPossibleChanges", recurses := true, apart := false, narrowed := true }
def FnExactPossibleChangesUptoSaid : Prop := fnExactPossibleChangesUptoRow.holds Try.pinned (OpenSpec.upto fnExactPossibleChangesSpec)

/-- 'laws.FnExactCheapestChange', WHERE WHAT IT READS IS OF BULK AT MOST 1048576: true; the input reads as it did. -/
def fnExactCheapestChangeUptoRow : OpenClaim := { program := "ytpchlgpedcdpgaa", sum := "288f3bfbdb6e69ea5b2118ddd11d0e5f5b66c17b1dbe988653576256993d38e5", func := "loop.example/g01062/laws.FnExactCheapestChange", spec := "fnExactCheapestChange", recurses := true, apart := false, narrowed := true }
def FnExactCheapestChangeUptoSaid : Prop := fnExactCheapestChangeUptoRow.holds Try.pinned (OpenSpec.upto fnExactCheapestChangeSpec)

/-- 'laws.FnExactLeastChange', WHERE WHAT IT READS IS OF BULK AT MOST 1048576: true; the input reads as it did. -/
def fnExactLeastChangeUptoRow : OpenClaim := { program := "ytpchlgpedcdpgaa", sum := "288f3bfbdb6e69ea5b2118ddd11d0e5f5b66c17b1dbe988653576256993d38e5", func := "loop.example/g01062/laws.FnExactLeastChange", spec := "fnExactLeastChange", unfollowed := true, recurses := true, apart := false, narrowed := true }
def FnExactLeastChangeUptoSaid : Prop := fnExactLeastChangeUptoRow.holds Try.pinned (OpenSpec.upto fnExactLeastChangeSpec)

/-- 'laws.FnMade', WHERE WHAT IT READS IS OF BULK AT MOST 1048576: true; the input reads as it did. -/
def fnMadeUptoRow : OpenClaim := { program := "ytpchlgpedcdpgaa", sum := "288f3bfbdb6e69ea5b2118ddd11d0e5f5b66c17b1dbe988653576256993d38e5", func := "loop.example/g01062/laws.FnMade", spec := "fnMade", inPlace := ["internal/abi.NoEscape", "internal/bytealg.MakeNoZero"], recurses := true, apart := false, narrowed := true }
def FnMadeUptoSaid : Prop := fnMadeUptoRow.holds Try.pinned (OpenSpec.upto fnMadeSpec)

end Rows
end Go.Proofs.Ytpchlgpedcdpgaa
