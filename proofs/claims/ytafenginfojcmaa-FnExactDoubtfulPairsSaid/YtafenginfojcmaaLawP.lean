/- The sightings' laws: what they share. -/
import Derived.Test.YtafenginfojcmaaLawN
import Derived.Test.YtafenginfojcmaaTkSi
import Derived.OpenShut
import Derived.Test.YtafenginfojcmaaRows
set_option maxRecDepth 8000
set_option maxHeartbeats 1000000
set_option linter.unusedSimpArgs false
set_option linter.unusedVariables false
namespace Go.Proofs.Ytafenginfojcmaa
open Go Go.ChangeShapes Go.WideShapes Go.ChangeAt Go.RowKit Go.Deep Go

theorem own : ownKnob Try.prog.godebug = none := by kernel_rfl
theorem laidOut : laidOutB Try.prog = true := by kernel_rfl
/-- a field that is an integer -/
theorem fld_int {H : Type} {enc : TypeId × Value → H} {P : Program} {W : World} {t : TypeId} {k : IntKind} {n o j : Nat} {cs : List Value} {ys : List (DataW H × List MemPlace)} (hu : P.underlying t = some (.int k)) (h1 : P.cellsOf t = 1)
    (hj : j < ys.length) (h : DataW.trod enc P W 0 (fun _ => true) true n t ((cs.drop o).take (P.cellsOf t)) = ys[j]?) : ∃ m, cs[o]? = some (.int k m) ∧ (Lit.int k m).wf = true := by
  rw [List.getElem?_eq_getElem hj, h1] at h
  obtain ⟨m, hm, _, hw⟩ := DataW.trod_int hu h
  refine ⟨m, ?_, hw⟩
  have : ((cs.drop o).take 1)[0]? = some (.int k m) := by rw [hm]; rfl
  simpa using this
/-- a field that is a text -/
theorem fld_str {H : Type} {enc : TypeId × Value → H} {P : Program} {W : World} {t : TypeId} {n o j : Nat} {cs : List Value} {ys : List (DataW H × List MemPlace)} (hu : P.underlying t = some .string) (h1 : P.cellsOf t = 1)
    (hj : j < ys.length) (h : DataW.trod enc P W 0 (fun _ => true) true n t ((cs.drop o).take (P.cellsOf t)) = ys[j]?) : ∃ s : ByteArray, cs[o]? = some (.string s) ∧ s.size ≤ maxLen := by
  rw [List.getElem?_eq_getElem hj, h1] at h
  obtain ⟨s, hm, _, hs⟩ := DataW.trod_string hu h
  refine ⟨s, ?_, hs⟩
  have : ((cs.drop o).take 1)[0]? = some (.string s) := by rw [hm]; rfl
  simpa using this

theorem open_ints {H : Type} {enc : TypeId × Value → H} {W : World} {fuel : Nat} {cs : List Value} {x : DataW H × List MemPlace}
    (h : DataW.trod enc Try.prog W 0 (fun _ => true) true fuel 32 cs = some x) : ∃ v ps pl, cs = [v] ∧ ArgS eI 3 W v ps pl := by
  rcases open_slice Try.underlying32 h with ⟨hcs, _⟩ | ⟨a, len, cap, m, n, D, Pl, hcs, _, hl, hm, hmm, _, hx⟩
  · exact ⟨_, [], _, hcs, argS_nil eI _ W⟩
  · have := argS_of eI 3 (by decide) hl hm (w := W) (a := a) fun i hi => by
      obtain ⟨cs', hc, ht⟩ := hx i (by simp at hmm; omega)
      rw [show Try.prog.cellsOf 3 = 1 by kernel_rfl] at hc
      obtain ⟨m0, rfl, _⟩ := DataW.trod_int Try.underlying3 ht
      obtain ⟨_, hcl, hat⟩ := World.cells?_some hc
      refine ⟨m0, fun j c hj => ?_⟩
      have hj5 : j < 1 := (List.getElem?_eq_some_iff.1 hj).1
      rw [← Go.Deep.add_add, eI_n, hat j hj5]
      match j, hj5, hj with
      | 0, _, hj => cases hj; exact ⟨_, rfl, fun _ _ => rfl⟩
    obtain ⟨ps, pl, ha⟩ := this
    exact ⟨_, ps, pl, hcs, ha⟩
theorem fld_ints {H : Type} {enc : TypeId × Value → H} {W : World} {n o j : Nat} {cs : List Value} {ys : List (DataW H × List MemPlace)} (h1 : Try.prog.cellsOf 32 = 1)
    (hj : j < ys.length) (h : DataW.trod enc Try.prog W 0 (fun _ => true) true n 32 ((cs.drop o).take (Try.prog.cellsOf 32)) = ys[j]?) : ∃ v l pl, cs[o]? = some v ∧ ArgS eI 3 W v l pl := by
  rw [List.getElem?_eq_getElem hj, h1] at h
  obtain ⟨v3, l3, pl3, hc3, ha3⟩ := open_ints h
  refine ⟨v3, l3, pl3, ?_, ha3⟩
  have : ((cs.drop o).take 1)[0]? = some v3 := by rw [hc3]; rfl
  simpa using this
theorem open_SightingS {H : Type} {enc : TypeId × Value → H} {W : World} {base : Nat} {v : Value} {d : DataW H} {p : List MemPlace} (hv : Value.okWide Try.prog W .any base 41 v)
    (h : DataW.Trod enc Try.prog W 0 (fun _ => true) true 41 v d p) : ∃ ps, ArgN W v ps := by
  obtain ⟨a0, len0, cap0, rfl⟩ := okWide_slice Try.underlying41 hv
  obtain ⟨fuel, hf⟩ := h
  rcases open_slice Try.underlying41 hf with ⟨hcs, _⟩ | ⟨a, len, cap, m, n, D, Pl, hcs, _, hl, hm, hmm, _, hx⟩
  · simp [Value.cells] at hcs
    obtain ⟨rfl, rfl, rfl⟩ := hcs
    exact ⟨[], argN_nil 62 W⟩
  · simp [Value.cells] at hcs
    obtain ⟨rfl, rfl, rfl⟩ := hcs
    refine argN_of 62 3 hl hm fun i hi => ?_
    obtain ⟨cs', hc, ht⟩ := hx i (by simp at hmm; omega)
    rw [show Try.prog.cellsOf 62 = 4 by kernel_rfl] at hc
    obtain ⟨ys, n', hn', hy, hlen, hyl, hfs⟩ := DataW.trod_struct Try.underlying62 ht
    obtain ⟨_, hcl, hat⟩ := World.cells?_some hc
    have h5 : ys.length = 4 := hyl
    have c3 : Try.prog.cellsOf 3 = 1 := by kernel_rfl
    have c4 : Try.prog.cellsOf 9 = 1 := by kernel_rfl
    have c5 : Try.prog.cellsOf 32 = 1 := by kernel_rfl
    obtain ⟨n0, g0, _⟩ := fld_int Try.underlying3 c3 (by omega) (hfs 0 _ rfl)
    obtain ⟨n1, g1, _⟩ := fld_int Try.underlying3 c3 (by omega) (hfs 1 _ rfl)
    obtain ⟨n2, g2, hm2⟩ := fld_str Try.underlying9 c4 (by omega) (hfs 2 _ rfl)
    obtain ⟨v3, l3, pl3, g3, ha3⟩ := fld_ints c5 (by omega) (hfs 3 _ rfl)
    have a0 := hat 0 (by omega)
    have a1 := hat 1 (by omega)
    have a2 := hat 2 (by omega)
    have a3 := hat 3 (by omega)
    rw [Go.Deep.add_add] at a0 a1 a2 a3
    refine ⟨(⟨n0, n1, n2.data.toList, l3⟩, v3, pl3), ⟨?_, ha3, a0.trans g0, a1.trans g1, a2.trans g2, a3.trans g3⟩⟩
    have : n2.data.toList.length = n2.size := rfl
    rw [this]
    simp only [maxLen] at hm2
    omega

end Go.Proofs.Ytafenginfojcmaa
