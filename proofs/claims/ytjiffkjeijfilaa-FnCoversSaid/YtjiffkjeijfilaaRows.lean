/-
  No cell of these rows narrows 'for every input' (looked for: loops, veiled, ifaces, maps, wideKeys, modest, calm, conditions, laid).
  DERIVED. THE GIVEN ROWS OF THIS SEAT. 5 by the template 'for every input the law returns true; each argument reads behind the call as it read before'; 0 by the template 'total and deterministic' (their statements: YtjiffkjeijfilaaTotals.lean).
  GIVEN WITH THE SEED: the statements are not yours to turn. If you find one false, say at which input.
  Laid BY PROGRAM, IN A SANDBOX (cutbox-rows.mjs): the forced cells as the released guide's own fill.sh prints them over the translation 9228308c8987a08d… (all of the seat's roots in one cut). By AI agents, Wed Nov 11 2026. No macro, syntax, notation, axiom, sorry.
-/
import Derived.Test.YtjiffkjeijfilaaChecked
import GoSem.Claim
import GoSem.ClaimJoined
import GoSem.ClaimMapViews
import Derived.JoinedTies
import Derived.KernelRfl
namespace Go.Proofs.Ytjiffkjeijfilaa
/- THE CELL 'sum', in the pinned program and in every row, IS THE sha256 OF THE DUMP (.gsa) THAT YtjiffkjeijfilaaProg.lean LOADS. Nothing in Lean hashes anything: it is a label: what it is worth is what the hold of that sum in a sandbox is worth. -/
noncomputable def Try.pinned : Pinned := { name := "ytjiffkjeijfilaa", sum := "9228308c8987a08d30a564bc4a0ef1d1eaa6297e390df9332eb13f9df5a76a4f", checked := Try.checked }
namespace Rows
def none {H : Type} : Left H := { results := [], args := [] }

/-- 'laws.FnCovers': WHATEVER THE INPUT: true; the input reads as it did. -/
def fnCoversSpec : ChangeSpec := { name := "fnCovers", fn := fun _ => fun
  | [d] => { results := [.lit (.bool true)], args := [d] }
  | _ => none }
def fnCoversRow : OpenClaim := { program := "ytjiffkjeijfilaa", sum := "9228308c8987a08d30a564bc4a0ef1d1eaa6297e390df9332eb13f9df5a76a4f", func := "loop.example/g01062/laws.FnCovers", spec := "fnCovers", apart := false }
def FnCoversSaid : Prop := fnCoversRow.holds Try.pinned (OpenSpec.ofChange fnCoversSpec)

/-- ITS FALSE NEIGHBOUR: 'it returns false'. Refute it at one input. -/
def fnCoversWrong : ChangeSpec := { name := "fnCovers", fn := fun _ => fun
  | [d] => { results := [.lit (.bool false)], args := [d] }
  | _ => none }
def FnCoversWrongFalsely : Prop := fnCoversRow.holds Try.pinned (OpenSpec.ofChange fnCoversWrong)

/-- 'laws.FnChanges': WHATEVER THE INPUT: true; the input reads as it did. -/
def fnChangesSpec : ChangeSpec := { name := "fnChanges", fn := fun _ => fun
  | [d] => { results := [.lit (.bool true)], args := [d] }
  | _ => none }
def fnChangesRow : OpenClaim := { program := "ytjiffkjeijfilaa", sum := "9228308c8987a08d30a564bc4a0ef1d1eaa6297e390df9332eb13f9df5a76a4f", func := "loop.example/g01062/laws.FnChanges", spec := "fnChanges", unfollowed := true, recurses := true, apart := false }
def FnChangesSaid : Prop := fnChangesRow.holds Try.pinned (OpenSpec.ofChange fnChangesSpec)

/-- ITS FALSE NEIGHBOUR: 'it returns false'. Refute it at one input. -/
def fnChangesWrong : ChangeSpec := { name := "fnChanges", fn := fun _ => fun
  | [d] => { results := [.lit (.bool false)], args := [d] }
  | _ => none }
def FnChangesWrongFalsely : Prop := fnChangesRow.holds Try.pinned (OpenSpec.ofChange fnChangesWrong)

/-- 'laws.FnExactCoversVia': WHATEVER THE INPUT: true; the input reads as it did. -/
def fnExactCoversViaSpec : ChangeSpec := { name := "fnExactCoversVia", fn := fun _ => fun
  | [d1, d2, d3] => { results := [.lit (.bool true)], args := [d1, d2, d3] }
  | _ => none }
def fnExactCoversViaRow : OpenClaim := { program := "ytjiffkjeijfilaa", sum := "9228308c8987a08d30a564bc4a0ef1d1eaa6297e390df9332eb13f9df5a76a4f", func := "loop.example/g01062/laws.FnExactCoversVia", spec := "fnExactCoversVia", unfollowed := true, recurses := true, apart := false }
def FnExactCoversViaSaid : Prop := fnExactCoversViaRow.holds Try.pinned (OpenSpec.ofChange fnExactCoversViaSpec)

/-- ITS FALSE NEIGHBOUR: 'it returns false'. Refute it at one input. -/
def fnExactCoversViaWrong : ChangeSpec := { name := "fnExactCoversVia", fn := fun _ => fun
  | [d1, d2, d3] => { results := [.lit (.bool false)], args := [d1, d2, d3] }
  | _ => none }
def FnExactCoversViaWrongFalsely : Prop := fnExactCoversViaRow.holds Try.pinned (OpenSpec.ofChange fnExactCoversViaWrong)

/-- 'laws.FnExactTrueCovers': WHATEVER THE INPUT: true; the input reads as it did. -/
def fnExactTrueCoversSpec : ChangeSpec := { name := "fnExactTrueCovers", fn := fun _ => fun
  | [d1, d2, d3] => { results := [.lit (.bool true)], args := [d1, d2, d3] }
  | _ => none }
def fnExactTrueCoversRow : OpenClaim := { program := "ytjiffkjeijfilaa", sum := "9228308c8987a08d30a564bc4a0ef1d1eaa6297e390df9332eb13f9df5a76a4f", func := "loop.example/g01062/laws.FnExactTrueCovers", spec := "fnExactTrueCovers", apart := false }
def FnExactTrueCoversSaid : Prop := fnExactTrueCoversRow.holds Try.pinned (OpenSpec.ofChange fnExactTrueCoversSpec)

/-- ITS FALSE NEIGHBOUR: 'it returns false'. Refute it at one input. -/
def fnExactTrueCoversWrong : ChangeSpec := { name := "fnExactTrueCovers", fn := fun _ => fun
  | [d1, d2, d3] => { results := [.lit (.bool false)], args := [d1, d2, d3] }
  | _ => none }
def FnExactTrueCoversWrongFalsely : Prop := fnExactTrueCoversRow.holds Try.pinned (OpenSpec.ofChange fnExactTrueCoversWrong)

/-- 'laws.FnMade': WHATEVER THE INPUT: true; the input reads as it did. -/
def fnMadeSpec : ChangeSpec := { name := "fnMade", fn := fun _ => fun
  | [d] => { results := [.lit (.bool true)], args := [d] }
  | _ => none }
def fnMadeRow : OpenClaim := { program := "ytjiffkjeijfilaa", sum := "9228308c8987a08d30a564bc4a0ef1d1eaa6297e390df9332eb13f9df5a76a4f", func := "loop.example/g01062/laws.FnMade", spec := "fnMade", inPlace := ["internal/abi.NoEscape", "internal/bytealg.MakeNoZero"], recurses := true, apart := false }
def FnMadeSaid : Prop := fnMadeRow.holds Try.pinned (OpenSpec.ofChange fnMadeSpec)

/-- ITS FALSE NEIGHBOUR: 'it returns false'. Refute it at one input. -/
def fnMadeWrong : ChangeSpec := { name := "fnMade", fn := fun _ => fun
  | [d] => { results := [.lit (.bool false)], args := [d] }
  | _ => none }
def FnMadeWrongFalsely : Prop := fnMadeRow.holds Try.pinned (OpenSpec.ofChange fnMadeWrong)

/- THE SECOND FORM. 'bulk': how many values and letters a reading holds, each counted each time it is reached (what is shared counts as often as it is met; a slice's spare places count too). A statement '..UptoSaid' is the law's where the arguments, and the package variables that the reading takes, are together of bulk at most 1048576: NARROWER than '..Said'. Prove '..Said' where nothing that the law and all that it calls make is longer than what came in: it says more and counts as full. Else prove '..UptoSaid'. A law counts once. -/
mutual
def uptoBulk {H : Type} : DataW H → Nat
  | .lit (.string bytes) => bytes.length + 1
  | .lit _ => 1
  | .nil => 1
  | .ptr d => uptoBulk d + 1
  | .slice elems spare => uptoBulkAll elems + uptoBulkAll spare + 1
  | .agg parts => uptoBulkAll parts + 1
  | .iface _ d => uptoBulk d + 1
  | .map entries => uptoBulkEntries entries + 1
  | .held _ => 1
def uptoBulkAll {H : Type} : List (DataW H) → Nat
  | [] => 0
  | d :: r => uptoBulk d + uptoBulkAll r
def uptoBulkEntries {H : Type} : List (Lit × DataW H) → Nat
  | [] => 0
  | x :: r => uptoBulkEntry x + uptoBulkEntries r
def uptoBulkEntry {H : Type} : Lit × DataW H → Nat
  | (.string bytes, d) => bytes.length + uptoBulk d + 1
  | (_, d) => uptoBulk d + 1
 end
def uptoSmall : (H : Type) → List (DataW H) → Bool := fun _ ds => decide (uptoBulkAll ds ≤ 1048576)
def OpenSpec.upto (s : _root_.Go.ChangeSpec) : _root_.Go.OpenSpec := { _root_.Go.OpenSpec.ofChange s with cond := some uptoSmall }

/-- 'laws.FnCovers', WHERE WHAT IT READS IS OF BULK AT MOST 1048576: true; the input reads as it did. -/
def fnCoversUptoRow : OpenClaim := { program := "ytjiffkjeijfilaa", sum := "9228308c8987a08d30a564bc4a0ef1d1eaa6297e390df9332eb13f9df5a76a4f", func := "loop.example/g01062/laws.FnCovers", spec := "fnCovers", apart := false, narrowed := true }
def FnCoversUptoSaid : Prop := fnCoversUptoRow.holds Try.pinned (OpenSpec.upto fnCoversSpec)

/-- 'laws.FnChanges', WHERE WHAT IT READS IS OF BULK AT MOST 1048576: true; the input reads as it did. -/
def fnChangesUptoRow : OpenClaim := { program := "ytjiffkjeijfilaa", sum := "9228308c8987a08d30a564bc4a0ef1d1eaa6297e390df9332eb13f9df5a76a4f", func := "loop.example/g01062/laws.FnChanges", spec := "fnChanges", unfollowed := true, recurses := true, apart := false, narrowed := true }
def FnChangesUptoSaid : Prop := fnChangesUptoRow.holds Try.pinned (OpenSpec.upto fnChangesSpec)

/-- 'laws.FnExactCoversVia', WHERE WHAT IT READS IS OF BULK AT MOST 1048576: true; the input reads as it did. -/
def fnExactCoversViaUptoRow : OpenClaim := { program := "ytjiffkjeijfilaa", sum := "9228308c8987a08d30a564bc4a0ef1d1eaa6297e390df9332eb13f9df5a76a4f", func := "loop.example/g01062/laws.FnExactCoversVia", spec := "fnExactCoversVia", unfollowed := true, recurses := true, apart := false, narrowed := true }
def FnExactCoversViaUptoSaid : Prop := fnExactCoversViaUptoRow.holds Try.pinned (OpenSpec.upto fnExactCoversViaSpec)

/-- 'laws.FnExactTrueCovers', WHERE WHAT IT READS IS OF BULK AT MOST 1048576: true; the input reads as it did. -/
def fnExactTrueCoversUptoRow : OpenClaim := { program := "ytjiffkjeijfilaa", sum := "9228308c8987a08d30a564bc4a0ef1d1eaa6297e390df9332eb13f9df5a76a4f", func := "loop.example/g01062/laws.FnExactTrueCovers", spec := "fnExactTrueCovers", apart := false, narrowed := true }
def FnExactTrueCoversUptoSaid : Prop := fnExactTrueCoversUptoRow.holds Try.pinned (OpenSpec.upto fnExactTrueCoversSpec)

/-- 'laws.FnMade', WHERE WHAT IT READS IS OF BULK AT MOST 1048576: true; the input reads as it did. -/
def fnMadeUptoRow : OpenClaim := { program := "ytjiffkjeijfilaa", sum := "9228308c8987a08d30a564bc4a0ef1d1eaa6297e390df9332eb13f9df5a76a4f", func := "loop.example/g01062/laws.FnMade", spec := "fnMade", inPlace := ["internal/abi.NoEscape", "internal/bytealg.MakeNoZero"], recurses := true, apart := false, narrowed := true }
def FnMadeUptoSaid : Prop := fnMadeUptoRow.holds Try.pinned (OpenSpec.upto fnMadeSpec)

end Rows
end Go.Proofs.Ytjiffkjeijfilaa
