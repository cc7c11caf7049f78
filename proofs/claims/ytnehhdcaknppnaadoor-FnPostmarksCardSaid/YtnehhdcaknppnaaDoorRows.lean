/-
  NARROWER THAN 'FOR EVERY INPUT', by the rows' own cells (each row's printed sentence says how): FnExactIsPostmark: laid · FnExactShownBy: laid · FnExactArePostmarks: laid · FnExactLatestUse: laid · FnExactGapBetween: laid · FnExactSameTown: laid · FnExactLoseLetter: laid · FnExactExtendUse: laid · FnExactPostmarkText: laid · FnExactReadMarks: laid · FnExactTownsOn: laid · FnPostmarks: laid.
  DERIVED. THE GIVEN ROWS OF THIS SEAT. 12 by the template 'for every input the law returns true; each argument reads behind the call as it read before'; 0 by the template 'total and deterministic' (their statements: YtnehhdcaknppnaaDoorTotals.lean).
  GIVEN WITH THE SEED: the statements are not yours to turn. If you find one false, say at which input.
  Laid BY PROGRAM, IN A SANDBOX (cutbox-rows.mjs): the forced cells as the released guide's own fill.sh prints them over the translation 3ecbff6d20ec3874… (all of the seat's roots in one cut). By AI agents, Wed Nov 11 2026. No macro, syntax, notation, axiom, sorry.
-/
import Derived.Test.YtnehhdcaknppnaaDoorChecked
import GoSem.PinnedTables
import GoSem.Claim
import GoSem.ClaimJoined
import GoSem.ClaimMapViews
import Derived.JoinedTies
import Derived.KernelRfl
namespace Go.Proofs.YtnehhdcaknppnaaDoor
/- THE CELL 'sum', in the pinned program and in every row, IS THE sha256 OF THE DUMP (.gsa) THAT YtnehhdcaknppnaaDoorProg.lean LOADS. Nothing in Lean hashes anything: it is a label: what it is worth is what the hold of that sum in a sandbox is worth. -/
noncomputable def Tryd.pinned : Pinned := { name := "ytnehhdcaknppnaadoor", sum := "3ecbff6d20ec3874b6ce1bd3ba35f412b3e78ad73e16bf2f3b6d1b139d2ffca8", checked := Tryd.checked }
namespace Rows
def none {H : Type} : Left H := { results := [], args := [] }

/- WHAT THE LISTED PACKAGE-LEVEL VARIABLES READ AS WHEN THE CALL BEGINS. Each datum BY PROGRAM (the guide's laid-datum.mjs) off the statement by which the dump's own 'gosem.cut.vars' lays the variable. In a bare row this is a premise. The card (YtnehhdcaknppnaaDoorCards.lean) ties it to the program's text. -/
def laid_unicode_utf8_acceptRanges {H : Type} : DataW H := .agg [.agg [.lit (.int .u8 128), .lit (.int .u8 191)], .agg [.lit (.int .u8 160), .lit (.int .u8 191)], .agg [.lit (.int .u8 128), .lit (.int .u8 159)], .agg [.lit (.int .u8 144), .lit (.int .u8 191)], .agg [.lit (.int .u8 128), .lit (.int .u8 143)], .agg [.lit (.int .u8 0), .lit (.int .u8 0)], .agg [.lit (.int .u8 0), .lit (.int .u8 0)], .agg [.lit (.int .u8 0), .lit (.int .u8 0)], .agg [.lit (.int .u8 0), .lit (.int .u8 0)], .agg [.lit (.int .u8 0), .lit (.int .u8 0)], .agg [.lit (.int .u8 0), .lit (.int .u8 0)], .agg [.lit (.int .u8 0), .lit (.int .u8 0)], .agg [.lit (.int .u8 0), .lit (.int .u8 0)], .agg [.lit (.int .u8 0), .lit (.int .u8 0)], .agg [.lit (.int .u8 0), .lit (.int .u8 0)], .agg [.lit (.int .u8 0), .lit (.int .u8 0)]]
/-- One of Go's own tables, pinned by name: the form's constant. -/
def laid_unicode_utf8_first : DataW Unit := Go.Pinned.utf8First
def laid_math_bits_deBruijn32tab {H : Type} : DataW H := .agg [.lit (.int .u8 0), .lit (.int .u8 1), .lit (.int .u8 28), .lit (.int .u8 2), .lit (.int .u8 29), .lit (.int .u8 14), .lit (.int .u8 24), .lit (.int .u8 3), .lit (.int .u8 30), .lit (.int .u8 22), .lit (.int .u8 20), .lit (.int .u8 15), .lit (.int .u8 25), .lit (.int .u8 17), .lit (.int .u8 4), .lit (.int .u8 8), .lit (.int .u8 31), .lit (.int .u8 27), .lit (.int .u8 13), .lit (.int .u8 23), .lit (.int .u8 21), .lit (.int .u8 19), .lit (.int .u8 16), .lit (.int .u8 7), .lit (.int .u8 26), .lit (.int .u8 12), .lit (.int .u8 18), .lit (.int .u8 6), .lit (.int .u8 11), .lit (.int .u8 5), .lit (.int .u8 10), .lit (.int .u8 9)]
def laid_math_bits_deBruijn64tab {H : Type} : DataW H := .agg [.lit (.int .u8 0), .lit (.int .u8 1), .lit (.int .u8 56), .lit (.int .u8 2), .lit (.int .u8 57), .lit (.int .u8 49), .lit (.int .u8 28), .lit (.int .u8 3), .lit (.int .u8 61), .lit (.int .u8 58), .lit (.int .u8 42), .lit (.int .u8 50), .lit (.int .u8 38), .lit (.int .u8 29), .lit (.int .u8 17), .lit (.int .u8 4), .lit (.int .u8 62), .lit (.int .u8 47), .lit (.int .u8 59), .lit (.int .u8 36), .lit (.int .u8 45), .lit (.int .u8 43), .lit (.int .u8 51), .lit (.int .u8 22), .lit (.int .u8 53), .lit (.int .u8 39), .lit (.int .u8 33), .lit (.int .u8 30), .lit (.int .u8 24), .lit (.int .u8 18), .lit (.int .u8 12), .lit (.int .u8 5), .lit (.int .u8 63), .lit (.int .u8 55), .lit (.int .u8 48), .lit (.int .u8 27), .lit (.int .u8 60), .lit (.int .u8 41), .lit (.int .u8 37), .lit (.int .u8 16), .lit (.int .u8 46), .lit (.int .u8 35), .lit (.int .u8 44), .lit (.int .u8 21), .lit (.int .u8 52), .lit (.int .u8 32), .lit (.int .u8 23), .lit (.int .u8 11), .lit (.int .u8 54), .lit (.int .u8 26), .lit (.int .u8 40), .lit (.int .u8 15), .lit (.int .u8 34), .lit (.int .u8 20), .lit (.int .u8 31), .lit (.int .u8 10), .lit (.int .u8 25), .lit (.int .u8 14), .lit (.int .u8 19), .lit (.int .u8 9), .lit (.int .u8 13), .lit (.int .u8 8), .lit (.int .u8 7), .lit (.int .u8 6)]
def laid_internal_strconv_uint64pow10 {H : Type} : DataW H := .agg [.lit (.int .u64 1), .lit (.int .u64 10), .lit (.int .u64 100), .lit (.int .u64 1000), .lit (.int .u64 10000), .lit (.int .u64 100000), .lit (.int .u64 1000000), .lit (.int .u64 10000000), .lit (.int .u64 100000000), .lit (.int .u64 1000000000), .lit (.int .u64 10000000000), .lit (.int .u64 100000000000), .lit (.int .u64 1000000000000), .lit (.int .u64 10000000000000), .lit (.int .u64 100000000000000), .lit (.int .u64 1000000000000000), .lit (.int .u64 10000000000000000), .lit (.int .u64 100000000000000000), .lit (.int .u64 1000000000000000000), .lit (.int .u64 10000000000000000000)]

/-- 'laws.FnExactIsPostmark': WHATEVER THE INPUT: true; the input reads as it did. -/
def fnExactIsPostmarkSpec : ChangeSpec := { name := "fnExactIsPostmark", fn := fun _ => fun
  | [d] => { results := [.lit (.bool true)], args := [d] }
  | _ => none }
def fnExactIsPostmarkRow : OpenClaim := { program := "ytnehhdcaknppnaadoor", sum := "3ecbff6d20ec3874b6ce1bd3ba35f412b3e78ad73e16bf2f3b6d1b139d2ffca8", func := "loop.example/g01062/laws.FnExactIsPostmark", spec := "fnExactIsPostmark", inPlace := ["internal/bytealg.IndexByteString", "internal/bytealg.IndexString"], named := ["unicode/utf8.first", "unicode/utf8.acceptRanges", "internal/bytealg.MaxLen"], apart := false, laid := [("unicode/utf8.acceptRanges", laid_unicode_utf8_acceptRanges), ("unicode/utf8.first", laid_unicode_utf8_first)] }
def FnExactIsPostmarkSaid : Prop := fnExactIsPostmarkRow.holds Tryd.pinned (OpenSpec.ofChange fnExactIsPostmarkSpec)

/-- ITS FALSE NEIGHBOUR: 'it returns false'. Refute it at one input. -/
def fnExactIsPostmarkWrong : ChangeSpec := { name := "fnExactIsPostmark", fn := fun _ => fun
  | [d] => { results := [.lit (.bool false)], args := [d] }
  | _ => none }
def FnExactIsPostmarkWrongFalsely : Prop := fnExactIsPostmarkRow.holds Tryd.pinned (OpenSpec.ofChange fnExactIsPostmarkWrong)

/-- 'laws.FnExactShownBy': WHATEVER THE INPUT: true; the input reads as it did. -/
def fnExactShownBySpec : ChangeSpec := { name := "fnExactShownBy", fn := fun _ => fun
  | [d] => { results := [.lit (.bool true)], args := [d] }
  | _ => none }
def fnExactShownByRow : OpenClaim := { program := "ytnehhdcaknppnaadoor", sum := "3ecbff6d20ec3874b6ce1bd3ba35f412b3e78ad73e16bf2f3b6d1b139d2ffca8", func := "loop.example/g01062/laws.FnExactShownBy", spec := "fnExactShownBy", inPlace := ["internal/bytealg.IndexByteString", "internal/bytealg.IndexString"], named := ["unicode/utf8.first", "unicode/utf8.acceptRanges", "internal/bytealg.MaxLen"], apart := false, laid := [("unicode/utf8.acceptRanges", laid_unicode_utf8_acceptRanges), ("unicode/utf8.first", laid_unicode_utf8_first)] }
def FnExactShownBySaid : Prop := fnExactShownByRow.holds Tryd.pinned (OpenSpec.ofChange fnExactShownBySpec)

/-- ITS FALSE NEIGHBOUR: 'it returns false'. Refute it at one input. -/
def fnExactShownByWrong : ChangeSpec := { name := "fnExactShownBy", fn := fun _ => fun
  | [d] => { results := [.lit (.bool false)], args := [d] }
  | _ => none }
def FnExactShownByWrongFalsely : Prop := fnExactShownByRow.holds Tryd.pinned (OpenSpec.ofChange fnExactShownByWrong)

/-- 'laws.FnExactArePostmarks': WHATEVER THE INPUT: true; the input reads as it did. -/
def fnExactArePostmarksSpec : ChangeSpec := { name := "fnExactArePostmarks", fn := fun _ => fun
  | [d] => { results := [.lit (.bool true)], args := [d] }
  | _ => none }
def fnExactArePostmarksRow : OpenClaim := { program := "ytnehhdcaknppnaadoor", sum := "3ecbff6d20ec3874b6ce1bd3ba35f412b3e78ad73e16bf2f3b6d1b139d2ffca8", func := "loop.example/g01062/laws.FnExactArePostmarks", spec := "fnExactArePostmarks", inPlace := ["internal/bytealg.IndexByteString", "internal/bytealg.IndexString"], named := ["unicode/utf8.first", "unicode/utf8.acceptRanges", "internal/bytealg.MaxLen"], apart := false, laid := [("unicode/utf8.acceptRanges", laid_unicode_utf8_acceptRanges), ("unicode/utf8.first", laid_unicode_utf8_first)] }
def FnExactArePostmarksSaid : Prop := fnExactArePostmarksRow.holds Tryd.pinned (OpenSpec.ofChange fnExactArePostmarksSpec)

/-- ITS FALSE NEIGHBOUR: 'it returns false'. Refute it at one input. -/
def fnExactArePostmarksWrong : ChangeSpec := { name := "fnExactArePostmarks", fn := fun _ => fun
  | [d] => { results := [.lit (.bool false)], args := [d] }
  | _ => none }
def FnExactArePostmarksWrongFalsely : Prop := fnExactArePostmarksRow.holds Tryd.pinned (OpenSpec.ofChange fnExactArePostmarksWrong)

/-- 'laws.FnExactLatestUse': WHATEVER THE INPUT: true; the input reads as it did. -/
def fnExactLatestUseSpec : ChangeSpec := { name := "fnExactLatestUse", fn := fun _ => fun
  | [d1, d2] => { results := [.lit (.bool true)], args := [d1, d2] }
  | _ => none }
def fnExactLatestUseRow : OpenClaim := { program := "ytnehhdcaknppnaadoor", sum := "3ecbff6d20ec3874b6ce1bd3ba35f412b3e78ad73e16bf2f3b6d1b139d2ffca8", func := "loop.example/g01062/laws.FnExactLatestUse", spec := "fnExactLatestUse", inPlace := ["internal/bytealg.IndexByteString", "internal/bytealg.IndexString"], named := ["unicode/utf8.first", "unicode/utf8.acceptRanges", "internal/bytealg.MaxLen"], apart := false, laid := [("unicode/utf8.acceptRanges", laid_unicode_utf8_acceptRanges), ("unicode/utf8.first", laid_unicode_utf8_first)] }
def FnExactLatestUseSaid : Prop := fnExactLatestUseRow.holds Tryd.pinned (OpenSpec.ofChange fnExactLatestUseSpec)

/-- ITS FALSE NEIGHBOUR: 'it returns false'. Refute it at one input. -/
def fnExactLatestUseWrong : ChangeSpec := { name := "fnExactLatestUse", fn := fun _ => fun
  | [d1, d2] => { results := [.lit (.bool false)], args := [d1, d2] }
  | _ => none }
def FnExactLatestUseWrongFalsely : Prop := fnExactLatestUseRow.holds Tryd.pinned (OpenSpec.ofChange fnExactLatestUseWrong)

/-- 'laws.FnExactGapBetween': WHATEVER THE INPUT: true; the input reads as it did. -/
def fnExactGapBetweenSpec : ChangeSpec := { name := "fnExactGapBetween", fn := fun _ => fun
  | [d1, d2] => { results := [.lit (.bool true)], args := [d1, d2] }
  | _ => none }
def fnExactGapBetweenRow : OpenClaim := { program := "ytnehhdcaknppnaadoor", sum := "3ecbff6d20ec3874b6ce1bd3ba35f412b3e78ad73e16bf2f3b6d1b139d2ffca8", func := "loop.example/g01062/laws.FnExactGapBetween", spec := "fnExactGapBetween", inPlace := ["internal/bytealg.IndexByteString", "internal/bytealg.IndexString"], named := ["unicode/utf8.first", "unicode/utf8.acceptRanges", "internal/bytealg.MaxLen"], apart := false, laid := [("unicode/utf8.acceptRanges", laid_unicode_utf8_acceptRanges), ("unicode/utf8.first", laid_unicode_utf8_first)] }
def FnExactGapBetweenSaid : Prop := fnExactGapBetweenRow.holds Tryd.pinned (OpenSpec.ofChange fnExactGapBetweenSpec)

/-- ITS FALSE NEIGHBOUR: 'it returns false'. Refute it at one input. -/
def fnExactGapBetweenWrong : ChangeSpec := { name := "fnExactGapBetween", fn := fun _ => fun
  | [d1, d2] => { results := [.lit (.bool false)], args := [d1, d2] }
  | _ => none }
def FnExactGapBetweenWrongFalsely : Prop := fnExactGapBetweenRow.holds Tryd.pinned (OpenSpec.ofChange fnExactGapBetweenWrong)

/-- 'laws.FnExactSameTown': WHATEVER THE INPUT: true; the input reads as it did. -/
def fnExactSameTownSpec : ChangeSpec := { name := "fnExactSameTown", fn := fun _ => fun
  | [d1, d2, d3] => { results := [.lit (.bool true)], args := [d1, d2, d3] }
  | _ => none }
def fnExactSameTownRow : OpenClaim := { program := "ytnehhdcaknppnaadoor", sum := "3ecbff6d20ec3874b6ce1bd3ba35f412b3e78ad73e16bf2f3b6d1b139d2ffca8", func := "loop.example/g01062/laws.FnExactSameTown", spec := "fnExactSameTown", inPlace := ["internal/bytealg.IndexByteString", "internal/bytealg.IndexString"], unfollowed := true, recurses := true, named := ["unicode/utf8.first", "unicode/utf8.acceptRanges", "internal/bytealg.MaxLen"], apart := false, laid := [("unicode/utf8.acceptRanges", laid_unicode_utf8_acceptRanges), ("unicode/utf8.first", laid_unicode_utf8_first)] }
def FnExactSameTownSaid : Prop := fnExactSameTownRow.holds Tryd.pinned (OpenSpec.ofChange fnExactSameTownSpec)

/-- ITS FALSE NEIGHBOUR: 'it returns false'. Refute it at one input. -/
def fnExactSameTownWrong : ChangeSpec := { name := "fnExactSameTown", fn := fun _ => fun
  | [d1, d2, d3] => { results := [.lit (.bool false)], args := [d1, d2, d3] }
  | _ => none }
def FnExactSameTownWrongFalsely : Prop := fnExactSameTownRow.holds Tryd.pinned (OpenSpec.ofChange fnExactSameTownWrong)

/-- 'laws.FnExactLoseLetter': WHATEVER THE INPUT: true; the input reads as it did. -/
def fnExactLoseLetterSpec : ChangeSpec := { name := "fnExactLoseLetter", fn := fun _ => fun
  | [d1, d2, d3] => { results := [.lit (.bool true)], args := [d1, d2, d3] }
  | _ => none }
def fnExactLoseLetterRow : OpenClaim := { program := "ytnehhdcaknppnaadoor", sum := "3ecbff6d20ec3874b6ce1bd3ba35f412b3e78ad73e16bf2f3b6d1b139d2ffca8", func := "loop.example/g01062/laws.FnExactLoseLetter", spec := "fnExactLoseLetter", inPlace := ["internal/bytealg.IndexByteString", "internal/bytealg.IndexString"], unfollowed := true, recurses := true, named := ["unicode/utf8.first", "unicode/utf8.acceptRanges", "internal/bytealg.MaxLen"], apart := false, laid := [("unicode/utf8.acceptRanges", laid_unicode_utf8_acceptRanges), ("unicode/utf8.first", laid_unicode_utf8_first)] }
def FnExactLoseLetterSaid : Prop := fnExactLoseLetterRow.holds Tryd.pinned (OpenSpec.ofChange fnExactLoseLetterSpec)

/-- ITS FALSE NEIGHBOUR: 'it returns false'. Refute it at one input. -/
def fnExactLoseLetterWrong : ChangeSpec := { name := "fnExactLoseLetter", fn := fun _ => fun
  | [d1, d2, d3] => { results := [.lit (.bool false)], args := [d1, d2, d3] }
  | _ => none }
def FnExactLoseLetterWrongFalsely : Prop := fnExactLoseLetterRow.holds Tryd.pinned (OpenSpec.ofChange fnExactLoseLetterWrong)

/-- 'laws.FnExactExtendUse': WHATEVER THE INPUT: true; the input reads as it did. -/
def fnExactExtendUseSpec : ChangeSpec := { name := "fnExactExtendUse", fn := fun _ => fun
  | [d1, d2, d3] => { results := [.lit (.bool true)], args := [d1, d2, d3] }
  | _ => none }
def fnExactExtendUseRow : OpenClaim := { program := "ytnehhdcaknppnaadoor", sum := "3ecbff6d20ec3874b6ce1bd3ba35f412b3e78ad73e16bf2f3b6d1b139d2ffca8", func := "loop.example/g01062/laws.FnExactExtendUse", spec := "fnExactExtendUse", inPlace := ["internal/bytealg.IndexByteString", "internal/bytealg.IndexString"], unfollowed := true, recurses := true, named := ["unicode/utf8.first", "unicode/utf8.acceptRanges", "internal/bytealg.MaxLen"], apart := false, laid := [("unicode/utf8.acceptRanges", laid_unicode_utf8_acceptRanges), ("unicode/utf8.first", laid_unicode_utf8_first)] }
def FnExactExtendUseSaid : Prop := fnExactExtendUseRow.holds Tryd.pinned (OpenSpec.ofChange fnExactExtendUseSpec)

/-- ITS FALSE NEIGHBOUR: 'it returns false'. Refute it at one input. -/
def fnExactExtendUseWrong : ChangeSpec := { name := "fnExactExtendUse", fn := fun _ => fun
  | [d1, d2, d3] => { results := [.lit (.bool false)], args := [d1, d2, d3] }
  | _ => none }
def FnExactExtendUseWrongFalsely : Prop := fnExactExtendUseRow.holds Tryd.pinned (OpenSpec.ofChange fnExactExtendUseWrong)

/-- 'laws.FnExactPostmarkText': WHATEVER THE INPUT: true; the input reads as it did. -/
def fnExactPostmarkTextSpec : ChangeSpec := { name := "fnExactPostmarkText", fn := fun _ => fun
  | [d] => { results := [.lit (.bool true)], args := [d] }
  | _ => none }
def fnExactPostmarkTextRow : OpenClaim := { program := "ytnehhdcaknppnaadoor", sum := "3ecbff6d20ec3874b6ce1bd3ba35f412b3e78ad73e16bf2f3b6d1b139d2ffca8", func := "loop.example/g01062/laws.FnExactPostmarkText", spec := "fnExactPostmarkText", inPlace := ["internal/bytealg.IndexByteString", "internal/bytealg.IndexString"], recurses := true, named := ["unicode/utf8.first", "unicode/utf8.acceptRanges", "internal/bytealg.MaxLen", "internal/strconv.uint64pow10", "math/bits.deBruijn32tab", "math/bits.deBruijn64tab"], apart := false, laid := [("math/bits.deBruijn32tab", laid_math_bits_deBruijn32tab), ("math/bits.deBruijn64tab", laid_math_bits_deBruijn64tab), ("internal/strconv.uint64pow10", laid_internal_strconv_uint64pow10), ("unicode/utf8.acceptRanges", laid_unicode_utf8_acceptRanges), ("unicode/utf8.first", laid_unicode_utf8_first)] }
def FnExactPostmarkTextSaid : Prop := fnExactPostmarkTextRow.holds Tryd.pinned (OpenSpec.ofChange fnExactPostmarkTextSpec)

/-- ITS FALSE NEIGHBOUR: 'it returns false'. Refute it at one input. -/
def fnExactPostmarkTextWrong : ChangeSpec := { name := "fnExactPostmarkText", fn := fun _ => fun
  | [d] => { results := [.lit (.bool false)], args := [d] }
  | _ => none }
def FnExactPostmarkTextWrongFalsely : Prop := fnExactPostmarkTextRow.holds Tryd.pinned (OpenSpec.ofChange fnExactPostmarkTextWrong)

/-- 'laws.FnExactReadMarks': WHATEVER THE INPUT: true; the input reads as it did. -/
def fnExactReadMarksSpec : ChangeSpec := { name := "fnExactReadMarks", fn := fun _ => fun
  | [d1, d2, d3] => { results := [.lit (.bool true)], args := [d1, d2, d3] }
  | _ => none }
def fnExactReadMarksRow : OpenClaim := { program := "ytnehhdcaknppnaadoor", sum := "3ecbff6d20ec3874b6ce1bd3ba35f412b3e78ad73e16bf2f3b6d1b139d2ffca8", func := "loop.example/g01062/laws.FnExactReadMarks", spec := "fnExactReadMarks", inPlace := ["internal/bytealg.IndexByteString", "internal/bytealg.IndexString", "internal/bytealg.CountString", "internal/abi.NoEscape", "internal/bytealg.MakeNoZero"], named := ["unicode/utf8.first", "unicode/utf8.acceptRanges", "internal/bytealg.MaxLen"], apart := false, laid := [("unicode/utf8.acceptRanges", laid_unicode_utf8_acceptRanges), ("unicode/utf8.first", laid_unicode_utf8_first)] }
def FnExactReadMarksSaid : Prop := fnExactReadMarksRow.holds Tryd.pinned (OpenSpec.ofChange fnExactReadMarksSpec)

/-- ITS FALSE NEIGHBOUR: 'it returns false'. Refute it at one input. -/
def fnExactReadMarksWrong : ChangeSpec := { name := "fnExactReadMarks", fn := fun _ => fun
  | [d1, d2, d3] => { results := [.lit (.bool false)], args := [d1, d2, d3] }
  | _ => none }
def FnExactReadMarksWrongFalsely : Prop := fnExactReadMarksRow.holds Tryd.pinned (OpenSpec.ofChange fnExactReadMarksWrong)

/-- 'laws.FnExactTownsOn': WHATEVER THE INPUT: true; the input reads as it did. -/
def fnExactTownsOnSpec : ChangeSpec := { name := "fnExactTownsOn", fn := fun _ => fun
  | [d1, d2] => { results := [.lit (.bool true)], args := [d1, d2] }
  | _ => none }
def fnExactTownsOnRow : OpenClaim := { program := "ytnehhdcaknppnaadoor", sum := "3ecbff6d20ec3874b6ce1bd3ba35f412b3e78ad73e16bf2f3b6d1b139d2ffca8", func := "loop.example/g01062/laws.FnExactTownsOn", spec := "fnExactTownsOn", inPlace := ["internal/bytealg.IndexByteString", "internal/bytealg.IndexString"], recurses := true, named := ["unicode/utf8.first", "unicode/utf8.acceptRanges", "internal/bytealg.MaxLen"], apart := false, laid := [("unicode/utf8.acceptRanges", laid_unicode_utf8_acceptRanges), ("unicode/utf8.first", laid_unicode_utf8_first)] }
def FnExactTownsOnSaid : Prop := fnExactTownsOnRow.holds Tryd.pinned (OpenSpec.ofChange fnExactTownsOnSpec)

/-- ITS FALSE NEIGHBOUR: 'it returns false'. Refute it at one input. -/
def fnExactTownsOnWrong : ChangeSpec := { name := "fnExactTownsOn", fn := fun _ => fun
  | [d1, d2] => { results := [.lit (.bool false)], args := [d1, d2] }
  | _ => none }
def FnExactTownsOnWrongFalsely : Prop := fnExactTownsOnRow.holds Tryd.pinned (OpenSpec.ofChange fnExactTownsOnWrong)

/-- 'laws.FnPostmarks': WHATEVER THE INPUT: true; the input reads as it did. -/
def fnPostmarksSpec : ChangeSpec := { name := "fnPostmarks", fn := fun _ => fun
  | [d] => { results := [.lit (.bool true)], args := [d] }
  | _ => none }
def fnPostmarksRow : OpenClaim := { program := "ytnehhdcaknppnaadoor", sum := "3ecbff6d20ec3874b6ce1bd3ba35f412b3e78ad73e16bf2f3b6d1b139d2ffca8", func := "loop.example/g01062/laws.FnPostmarks", spec := "fnPostmarks", inPlace := ["internal/bytealg.IndexByteString", "internal/bytealg.IndexString", "internal/bytealg.CountString", "internal/abi.NoEscape", "internal/bytealg.MakeNoZero"], unfollowed := true, recurses := true, named := ["unicode/utf8.first", "unicode/utf8.acceptRanges", "internal/bytealg.MaxLen"], apart := false, laid := [("unicode/utf8.acceptRanges", laid_unicode_utf8_acceptRanges), ("unicode/utf8.first", laid_unicode_utf8_first)] }
def FnPostmarksSaid : Prop := fnPostmarksRow.holds Tryd.pinned (OpenSpec.ofChange fnPostmarksSpec)

/-- ITS FALSE NEIGHBOUR: 'it returns false'. Refute it at one input. -/
def fnPostmarksWrong : ChangeSpec := { name := "fnPostmarks", fn := fun _ => fun
  | [d] => { results := [.lit (.bool false)], args := [d] }
  | _ => none }
def FnPostmarksWrongFalsely : Prop := fnPostmarksRow.holds Tryd.pinned (OpenSpec.ofChange fnPostmarksWrong)

/- THE SECOND FORM. 'bulk': how many values and letters a reading holds, each counted each time it is reached (what is shared counts as often as it is met; a slice's spare places count too). A statement '..UptoSaid' is the law's where the arguments, and the package variables that the reading takes, are together of bulk at most 1048576: NARROWER than '..Said'. Prove '..Said' where nothing that the law and all that it calls make is longer than what came in: it says more and counts as full. Else prove '..UptoSaid'. A law counts once. -/
mutual
def uptoBulk {H : Type} : DataW H → Nat
  | .lit (.string bytes) => bytes.length + 1
  | .lit _ => 1
  | .nil => 1
  | .ptr d => uptoBulk d + 1
  | .slice elems spare => uptoBulkAll elems + uptoBulkAll spare + 1
  | .agg parts => uptoBulkAll parts + 1
  | .iface _ d => uptoBulk d + 1
  | .map entries => uptoBulkEntries entries + 1
  | .held _ => 1
def uptoBulkAll {H : Type} : List (DataW H) → Nat
  | [] => 0
  | d :: r => uptoBulk d + uptoBulkAll r
def uptoBulkEntries {H : Type} : List (Lit × DataW H) → Nat
  | [] => 0
  | x :: r => uptoBulkEntry x + uptoBulkEntries r
def uptoBulkEntry {H : Type} : Lit × DataW H → Nat
  | (.string bytes, d) => bytes.length + uptoBulk d + 1
  | (_, d) => uptoBulk d + 1
 end
def uptoSmall : (H : Type) → List (DataW H) → Bool := fun _ ds => decide (uptoBulkAll ds ≤ 1048576)
def OpenSpec.upto (s : _root_.Go.ChangeSpec) : _root_.Go.OpenSpec := { _root_.Go.OpenSpec.ofChange s with cond := some uptoSmall }

/-- 'laws.FnExactIsPostmark', WHERE WHAT IT READS IS OF BULK AT MOST 1048576: true; the input reads as it did. -/
def fnExactIsPostmarkUptoRow : OpenClaim := { program := "ytnehhdcaknppnaadoor", sum := "3ecbff6d20ec3874b6ce1bd3ba35f412b3e78ad73e16bf2f3b6d1b139d2ffca8", func := "loop.example/g01062/laws.FnExactIsPostmark", spec := "fnExactIsPostmark", inPlace := ["internal/bytealg.IndexByteString", "internal/bytealg.IndexString"], named := ["unicode/utf8.first", "unicode/utf8.acceptRanges", "internal/bytealg.MaxLen"], apart := false, laid := [("unicode/utf8.acceptRanges", laid_unicode_utf8_acceptRanges), ("unicode/utf8.first", laid_unicode_utf8_first)], narrowed := true }
def FnExactIsPostmarkUptoSaid : Prop := fnExactIsPostmarkUptoRow.holds Tryd.pinned (OpenSpec.upto fnExactIsPostmarkSpec)

/-- 'laws.FnExactShownBy', WHERE WHAT IT READS IS OF BULK AT MOST 1048576: true; the input reads as it did. -/
def fnExactShownByUptoRow : OpenClaim := { program := "ytnehhdcaknppnaadoor", sum := "3ecbff6d20ec3874b6ce1bd3ba35f412b3e78ad73e16bf2f3b6d1b139d2ffca8", func := "loop.example/g01062/laws.FnExactShownBy", spec := "fnExactShownBy", inPlace := ["internal/bytealg.IndexByteString", "internal/bytealg.IndexString"], named := ["unicode/utf8.first", "unicode/utf8.acceptRanges", "internal/bytealg.MaxLen"], apart := false, laid := [("unicode/utf8.acceptRanges", laid_unicode_utf8_acceptRanges), ("unicode/utf8.first", laid_unicode_utf8_first)], narrowed := true }
def FnExactShownByUptoSaid : Prop := fnExactShownByUptoRow.holds Tryd.pinned (OpenSpec.upto fnExactShownBySpec)

/-- 'laws.FnExactArePostmarks', WHERE WHAT IT READS IS OF BULK AT MOST 1048576: true; the input reads as it did. -/
def fnExactArePostmarksUptoRow : OpenClaim := { program := "ytnehhdcaknppnaadoor", sum := "3ecbff6d20ec3874b6ce1bd3ba35f412b3e78ad73e16bf2f3b6d1b139d2ffca8", func := "loop.example/g01062/laws.FnExactArePostmarks", spec := "fnExactArePostmarks", inPlace := ["internal/bytealg.IndexByteString", "internal/bytealg.IndexString"], named := ["unicode/utf8.first", "unicode/utf8.acceptRanges", "internal/bytealg.MaxLen"], apart := false, laid := [("unicode/utf8.acceptRanges", laid_unicode_utf8_acceptRanges), ("unicode/utf8.first", laid_unicode_utf8_first)], narrowed := true }
def FnExactArePostmarksUptoSaid : Prop := fnExactArePostmarksUptoRow.holds Tryd.pinned (OpenSpec.upto fnExactArePostmarksSpec)

/-- 'laws.FnExactLatestUse', WHERE WHAT IT READS IS OF BULK AT MOST 1048576: true; the input reads as it did. -/
def fnExactLatestUseUptoRow : OpenClaim := { program := "ytnehhdcaknppnaadoor", sum := "3ecbff6d20ec3874b6ce1bd3ba35f412b3e78ad73e16bf2f3b6d1b139d2ffca8", func := "loop.example/g01062/laws.FnExactLatestUse", spec := "fnExactLatestUse", inPlace := ["internal/bytealg.IndexByteString", "internal/bytealg.IndexString"], named := ["unicode/utf8.first", "unicode/utf8.acceptRanges", "internal/bytealg.MaxLen"], apart := false, laid := [("unicode/utf8.acceptRanges", laid_unicode_utf8_acceptRanges), ("unicode/utf8.first", laid_unicode_utf8_first)], narrowed := true }
def FnExactLatestUseUptoSaid : Prop := fnExactLatestUseUptoRow.holds Tryd.pinned (OpenSpec.upto fnExactLatestUseSpec)

/-- 'laws.FnExactGapBetween', WHERE WHAT IT READS IS OF BULK AT MOST 1048576: true; the input reads as it did. -/
def fnExactGapBetweenUptoRow : OpenClaim := { program := "ytnehhdcaknppnaadoor", sum := "3ecbff6d20ec3874b6ce1bd3ba35f412b3e78ad73e16bf2f3b6d1b139d2ffca8", func := "loop.example/g01062/laws.FnExactGapBetween", spec := "fnExactGapBetween", inPlace := ["internal/bytealg.IndexByteString", "internal/bytealg.IndexString"], named := ["unicode/utf8.first", "unicode/utf8.acceptRanges", "internal/bytealg.MaxLen"], apart := false, laid := [("unicode/utf8.acceptRanges", laid_unicode_utf8_acceptRanges), ("unicode/utf8.first", laid_unicode_utf8_first)], narrowed := true }
def FnExactGapBetweenUptoSaid : Prop := fnExactGapBetweenUptoRow.holds Tryd.pinned (OpenSpec.upto fnExactGapBetweenSpec)

/-- 'laws.FnExactSameTown', WHERE WHAT IT READS IS OF BULK AT MOST 1048576: true; the input reads as it did. -/
def fnExactSameTownUptoRow : OpenClaim := { program := "ytnehhdcaknppnaadoor", sum := "3ecbff6d20ec3874b6ce1bd3ba35f412b3e78ad73e16bf2f3b6d1b139d2ffca8", func := "loop.example/g01062/laws.FnExactSameTown", spec := "fnExactSameTown", inPlace := ["internal/bytealg.IndexByteString", "internal/bytealg.IndexString"], unfollowed := true, recurses := true, named := ["unicode/utf8.first", "unicode/utf8.acceptRanges", "internal/bytealg.MaxLen"], apart := false, laid := [("unicode/utf8.acceptRanges", laid_unicode_utf8_acceptRanges), ("unicode/utf8.first", laid_unicode_utf8_first)], narrowed := true }
def FnExactSameTownUptoSaid : Prop := fnExactSameTownUptoRow.holds Tryd.pinned (OpenSpec.upto fnExactSameTownSpec)

/-- 'laws.FnExactLoseLetter', WHERE WHAT IT READS IS OF BULK AT MOST 1048576: true; the input reads as it did. -/
def fnExactLoseLetterUptoRow : OpenClaim := { program := "ytnehhdcaknppnaadoor", sum := "3ecbff6d20ec3874b6ce1bd3ba35f412b3e78ad73e16bf2f3b6d1b139d2ffca8", func := "loop.example/g01062/laws.FnExactLoseLetter", spec := "fnExactLoseLetter", inPlace := ["internal/bytealg.IndexByteString", "internal/bytealg.IndexString"], unfollowed := true, recurses := true, named := ["unicode/utf8.first", "unicode/utf8.acceptRanges", "internal/bytealg.MaxLen"], apart := false, laid := [("unicode/utf8.acceptRanges", laid_unicode_utf8_acceptRanges), ("unicode/utf8.first", laid_unicode_utf8_first)], narrowed := true }
def FnExactLoseLetterUptoSaid : Prop := fnExactLoseLetterUptoRow.holds Tryd.pinned (OpenSpec.upto fnExactLoseLetterSpec)

/-- 'laws.FnExactExtendUse', WHERE WHAT IT READS IS OF BULK AT MOST 1048576: true; the input reads as it did. -/
def fnExactExtendUseUptoRow : OpenClaim := { program := "ytnehhdcaknppnaadoor", sum := "3ecbff6d20ec3874b6ce1bd3ba35f412b3e78ad73e16bf2f3b6d1b139d2ffca8", func := "loop.example/g01062/laws.FnExactExtendUse", spec := "fnExactExtendUse", inPlace := ["internal/bytealg.IndexByteString", "internal/bytealg.IndexString"], unfollowed := true, recurses := true, named := ["unicode/utf8.first", "unicode/utf8.acceptRanges", "internal/bytealg.MaxLen"], apart := false, laid := [("unicode/utf8.acceptRanges", laid_unicode_utf8_acceptRanges), ("unicode/utf8.first", laid_unicode_utf8_first)], narrowed := true }
def FnExactExtendUseUptoSaid : Prop := fnExactExtendUseUptoRow.holds Tryd.pinned (OpenSpec.upto fnExactExtendUseSpec)

/-- 'laws.FnExactPostmarkText', WHERE WHAT IT READS IS OF BULK AT MOST 1048576: true; the input reads as it did. -/
def fnExactPostmarkTextUptoRow : OpenClaim := { program := "ytnehhdcaknppnaadoor", sum := "3ecbff6d20ec3874b6ce1bd3ba35f412b3e78ad73e16bf2f3b6d1b139d2ffca8", func := "loop.example/g01062/laws.FnExactPostmarkText", spec := "fnExactPostmarkText", inPlace := ["internal/bytealg.IndexByteString", "internal/bytealg.IndexString"], recurses := true, named := ["unicode/utf8.first", "unicode/utf8.acceptRanges", "internal/bytealg.MaxLen", "internal/strconv.uint64pow10", "math/bits.deBruijn32tab", "math/bits.deBruijn64tab"], apart := false, laid := [("math/bits.deBruijn32tab", laid_math_bits_deBruijn32tab), ("math/bits.deBruijn64tab", laid_math_bits_deBruijn64tab), ("internal/strconv.uint64pow10", laid_internal_strconv_uint64pow10), ("unicode/utf8.acceptRanges", laid_unicode_utf8_acceptRanges), ("unicode/utf8.first", laid_unicode_utf8_first)], narrowed := true }
def FnExactPostmarkTextUptoSaid : Prop := fnExactPostmarkTextUptoRow.holds Tryd.pinned (OpenSpec.upto fnExactPostmarkTextSpec)

/-- 'laws.FnExactReadMarks', WHERE WHAT IT READS IS OF BULK AT MOST 1048576: true; the input reads as it did. -/
def fnExactReadMarksUptoRow : OpenClaim := { program := "ytnehhdcaknppnaadoor", sum := "3ecbff6d20ec3874b6ce1bd3ba35f412b3e78ad73e16bf2f3b6d1b139d2ffca8", func := "loop.example/g01062/laws.FnExactReadMarks", spec := "fnExactReadMarks", inPlace := ["internal/bytealg.IndexByteString", "internal/bytealg.IndexString", "internal/bytealg.CountString", "internal/abi.NoEscape", "internal/bytealg.MakeNoZero"], named := ["unicode/utf8.first", "unicode/utf8.acceptRanges", "internal/bytealg.MaxLen"], apart := false, laid := [("unicode/utf8.acceptRanges", laid_unicode_utf8_acceptRanges), ("unicode/utf8.first", laid_unicode_utf8_first)], narrowed := true }
def FnExactReadMarksUptoSaid : Prop := fnExactReadMarksUptoRow.holds Tryd.pinned (OpenSpec.upto fnExactReadMarksSpec)

/-- 'laws.FnExactTownsOn', WHERE WHAT IT READS IS OF BULK AT MOST 1048576: true; the input reads as it did. -/
def fnExactTownsOnUptoRow : OpenClaim := { program := "ytnehhdcaknppnaadoor", sum := "3ecbff6d20ec3874b6ce1bd3ba35f412b3e78ad73e16bf2f3b6d1b139d2ffca8", func := "loop.example/g01062/laws.FnExactTownsOn", spec := "fnExactTownsOn", inPlace := ["internal/bytealg.IndexByteString", "internal/bytealg.IndexString"], recurses := true, named := ["unicode/utf8.first", "unicode/utf8.acceptRanges", "internal/bytealg.MaxLen"], apart := false, laid := [("unicode/utf8.acceptRanges", laid_unicode_utf8_acceptRanges), ("unicode/utf8.first", laid_unicode_utf8_first)], narrowed := true }
def FnExactTownsOnUptoSaid : Prop := fnExactTownsOnUptoRow.holds Tryd.pinned (OpenSpec.upto fnExactTownsOnSpec)

/-- 'laws.FnPostmarks', WHERE WHAT IT READS IS OF BULK AT MOST 1048576: true; the input reads as it did. -/
def fnPostmarksUptoRow : OpenClaim := { program := "ytnehhdcaknppnaadoor", sum := "3ecbff6d20ec3874b6ce1bd3ba35f412b3e78ad73e16bf2f3b6d1b139d2ffca8", func := "loop.example/g01062/laws.FnPostmarks", spec := "fnPostmarks", inPlace := ["internal/bytealg.IndexByteString", "internal/bytealg.IndexString", "internal/bytealg.CountString", "internal/abi.NoEscape", "internal/bytealg.MakeNoZero"], unfollowed := true, recurses := true, named := ["unicode/utf8.first", "unicode/utf8.acceptRanges", "internal/bytealg.MaxLen"], apart := false, laid := [("unicode/utf8.acceptRanges", laid_unicode_utf8_acceptRanges), ("unicode/utf8.first", laid_unicode_utf8_first)], narrowed := true }
def FnPostmarksUptoSaid : Prop := fnPostmarksUptoRow.holds Tryd.pinned (OpenSpec.upto fnPostmarksSpec)

end Rows
end Go.Proofs.YtnehhdcaknppnaaDoor
