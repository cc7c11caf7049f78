/- The covers' laws: what they share. -/
import Derived.Test.YtljbcniphdifeaaTkV
import Derived.Test.YtljbcniphdifeaaLawA
import Derived.OpenShut
import Derived.Test.YtljbcniphdifeaaRows
set_option maxRecDepth 8000
set_option maxHeartbeats 1000000
set_option linter.unusedSimpArgs false
set_option linter.unusedVariables false
namespace Go.Proofs.Ytljbcniphdifeaa
open Go Go.ChangeShapes Go.WideShapes Go.ChangeAt Go.RowKit Go.Deep Go

theorem own : ownKnob Try.prog.godebug = none := by kernel_rfl
theorem laidOut : laidOutB Try.prog = true := by kernel_rfl
/-- a field that is an integer -/
theorem fld_int {H : Type} {enc : TypeId × Value → H} {P : Program} {W : World} {t : TypeId} {k : IntKind} {n o j : Nat} {cs : List Value} {ys : List (DataW H × List MemPlace)} (hu : P.underlying t = some (.int k)) (h1 : P.cellsOf t = 1)
    (hj : j < ys.length) (h : DataW.trod enc P W 0 (fun _ => true) true n t ((cs.drop o).take (P.cellsOf t)) = ys[j]?) : ∃ m, cs[o]? = some (.int k m) ∧ (Lit.int k m).wf = true := by
  rw [List.getElem?_eq_getElem hj, h1] at h
  obtain ⟨m, hm, _, hw⟩ := DataW.trod_int hu h
  refine ⟨m, ?_, hw⟩
  have : ((cs.drop o).take 1)[0]? = some (.int k m) := by rw [hm]; rfl
  simpa using this
/-- a field that is a text -/
theorem fld_str {H : Type} {enc : TypeId × Value → H} {P : Program} {W : World} {t : TypeId} {n o j : Nat} {cs : List Value} {ys : List (DataW H × List MemPlace)} (hu : P.underlying t = some .string) (h1 : P.cellsOf t = 1)
    (hj : j < ys.length) (h : DataW.trod enc P W 0 (fun _ => true) true n t ((cs.drop o).take (P.cellsOf t)) = ys[j]?) : ∃ s : ByteArray, cs[o]? = some (.string s) ∧ s.size ≤ maxLen := by
  rw [List.getElem?_eq_getElem hj, h1] at h
  obtain ⟨s, hm, _, hs⟩ := DataW.trod_string hu h
  refine ⟨s, ?_, hs⟩
  have : ((cs.drop o).take 1)[0]? = some (.string s) := by rw [hm]; rfl
  simpa using this

theorem open_Cover {H : Type} {enc : TypeId × Value → H} {W : World} {base : Nat} {v : Value} {d : DataW H} {p : List MemPlace} (hv : Value.okWide Try.prog W .any base 24 v)
    (h : DataW.Trod enc Try.prog W 0 (fun _ => true) true 24 v d p) : ∃ x : Cv, v = .agg #[.int .i64 x.id, .int .i64 x.day, .int .i64 x.zone, .int .i64 x.grams, .int .i64 x.paid, .int .i64 x.frm, .int .i64 x.to, .int .i64 x.leave, .int .i64 x.arrive] := by
  obtain ⟨cs, rfl, hsz⟩ := okWide_struct Try.underlying24 hv
  obtain ⟨fuel, hf⟩ := h
  obtain ⟨ys, n', hn', hy, hlen, hyl, hfs⟩ := DataW.trod_struct Try.underlying24 hf
  have h5 : ys.length = 9 := hyl
  rw [show Try.prog.cellsOf 24 = 9 by kernel_rfl] at hsz
  have c3 : Try.prog.cellsOf 3 = 1 := by kernel_rfl
  obtain ⟨n0, g0, m0⟩ := fld_int Try.underlying3 c3 (by omega) (hfs 0 _ rfl)
  obtain ⟨n1, g1, m1⟩ := fld_int Try.underlying3 c3 (by omega) (hfs 1 _ rfl)
  obtain ⟨n2, g2, m2⟩ := fld_int Try.underlying3 c3 (by omega) (hfs 2 _ rfl)
  obtain ⟨n3, g3, m3⟩ := fld_int Try.underlying3 c3 (by omega) (hfs 3 _ rfl)
  obtain ⟨n4, g4, m4⟩ := fld_int Try.underlying3 c3 (by omega) (hfs 4 _ rfl)
  obtain ⟨n5, g5, m5⟩ := fld_int Try.underlying3 c3 (by omega) (hfs 5 _ rfl)
  obtain ⟨n6, g6, m6⟩ := fld_int Try.underlying3 c3 (by omega) (hfs 6 _ rfl)
  obtain ⟨n7, g7, m7⟩ := fld_int Try.underlying3 c3 (by omega) (hfs 7 _ rfl)
  obtain ⟨n8, g8, m8⟩ := fld_int Try.underlying3 c3 (by omega) (hfs 8 _ rfl)
  obtain ⟨l⟩ := cs
  match l, hsz with
  | [a0, a1, a2, a3, a4, a5, a6, a7, a8], _ =>
    simp [Value.cells] at g0 g1 g2 g3 g4 g5 g6 g7 g8
    exact ⟨⟨n0, n1, n2, n3, n4, n5, n6, n7, n8⟩, by simp [g0, g1, g2, g3, g4, g5, g6, g7, g8]⟩

end Go.Proofs.Ytljbcniphdifeaa
