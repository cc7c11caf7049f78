/- The covers' laws: what they share. -/
import Derived.Test.YtjbedbfgbmfdfaaTkV
import Derived.Test.YtjbedbfgbmfdfaaLawA
import Derived.OpenShut
import Derived.Test.YtjbedbfgbmfdfaaRows
set_option maxRecDepth 8000
set_option maxHeartbeats 1000000
set_option linter.unusedSimpArgs false
set_option linter.unusedVariables false
namespace Go.Proofs.Ytjbedbfgbmfdfaa
open Go Go.ChangeShapes Go.WideShapes Go.ChangeAt Go.RowKit Go.Deep Go

theorem own : ownKnob Try.prog.godebug = none := by kernel_rfl
theorem laidOut : laidOutB Try.prog = true := by kernel_rfl
/-- a field that is an integer -/
theorem fld_int {H : Type} {enc : TypeId × Value → H} {P : Program} {W : World} {t : TypeId} {k : IntKind} {n o j : Nat} {cs : List Value} {ys : List (DataW H × List MemPlace)} (hu : P.underlying t = some (.int k)) (h1 : P.cellsOf t = 1)
    (hj : j < ys.length) (h : DataW.trod enc P W 0 (fun _ => true) true n t ((cs.drop o).take (P.cellsOf t)) = ys[j]?) : ∃ m, cs[o]? = some (.int k m) ∧ (Lit.int k m).wf = true := by
  rw [List.getElem?_eq_getElem hj, h1] at h
  obtain ⟨m, hm, _, hw⟩ := DataW.trod_int hu h
  refine ⟨m, ?_, hw⟩
  have : ((cs.drop o).take 1)[0]? = some (.int k m) := by rw [hm]; rfl
  simpa using this
/-- a field that is a text -/
theorem fld_str {H : Type} {enc : TypeId × Value → H} {P : Program} {W : World} {t : TypeId} {n o j : Nat} {cs : List Value} {ys : List (DataW H × List MemPlace)} (hu : P.underlying t = some .string) (h1 : P.cellsOf t = 1)
    (hj : j < ys.length) (h : DataW.trod enc P W 0 (fun _ => true) true n t ((cs.drop o).take (P.cellsOf t)) = ys[j]?) : ∃ s : ByteArray, cs[o]? = some (.string s) ∧ s.size ≤ maxLen := by
  rw [List.getElem?_eq_getElem hj, h1] at h
  obtain ⟨s, hm, _, hs⟩ := DataW.trod_string hu h
  refine ⟨s, ?_, hs⟩
  have : ((cs.drop o).take 1)[0]? = some (.string s) := by rw [hm]; rfl
  simpa using this

end Go.Proofs.Ytjbedbfgbmfdfaa
