/- The laws over lists of postmarks: what they share. -/
import Derived.Test.YtnehhdcaknppnaaDoorTkPo
import Derived.Test.YtnehhdcaknppnaaDoorLawA
import Derived.OpenShut
import Derived.LaidMore
import Derived.Stop.Joined
import Derived.Lib.AppendIntMem
import Derived.SevenTiedAt
import Derived.Test.YtnehhdcaknppnaaDoorRows
import Derived.Test.YtnehhdcaknppnaaDoorTie
import Derived.Test.YtnehhdcaknppnaaDoorCards
import Derived.Lay
import Derived.MakeChecks
set_option maxRecDepth 8000
set_option maxHeartbeats 1000000
set_option linter.unusedSimpArgs false
set_option linter.unusedVariables false
namespace Go.Proofs.YtnehhdcaknppnaaDoor
open Go Go.ChangeShapes Go.WideShapes Go.ChangeAt Go.RowKit Go.Deep Go

def laidL : List (String × DataW Unit) := [("unicode/utf8.acceptRanges", Rows.laid_unicode_utf8_acceptRanges), ("unicode/utf8.first", Rows.laid_unicode_utf8_first)]
theorem own : ownKnob Tryd.prog.godebug = none := by kernel_rfl
theorem laidOut : laidOutB Tryd.prog = true := by kernel_rfl
theorem door_met (os : Os) (args : Array Value) : laidMetH Tryd.prog laidL ((World.laidAll Tryd.prog os laidL).forCall (fun _ _ => 0) ⟨#[], args, []⟩).memory := by
  rw [MakeChecks.laidMetH_plain _ _ _ (by kernel_rfl)]
  exact laidMet_laidAll _ (by kernel_rfl) (by kernel_rfl)
theorem start_ok (os : Os) (args : Array Value) : ((World.laidAll Tryd.prog os laidL).forCall (fun _ _ => 0) ⟨#[], args, []⟩).Shaped Tryd.prog := World.shaped_of_ZipB (by kernel_rfl) (by kernel_rfl)

/-- a field that is an integer -/
theorem fld_int {H : Type} {enc : TypeId × Value → H} {P : Program} {W : World} {t : TypeId} {k : IntKind} {n o j : Nat} {cs : List Value} {ys : List (DataW H × List MemPlace)} (hu : P.underlying t = some (.int k)) (h1 : P.cellsOf t = 1)
    (hj : j < ys.length) (h : DataW.trod enc P W 0 (fun _ => true) true n t ((cs.drop o).take (P.cellsOf t)) = ys[j]?) : ∃ m, cs[o]? = some (.int k m) ∧ (Lit.int k m).wf = true := by
  rw [List.getElem?_eq_getElem hj, h1] at h
  obtain ⟨m, hm, _, hw⟩ := DataW.trod_int hu h
  refine ⟨m, ?_, hw⟩
  have : ((cs.drop o).take 1)[0]? = some (.int k m) := by rw [hm]; rfl
  simpa using this
/-- a field that is a text -/
theorem fld_str {H : Type} {enc : TypeId × Value → H} {P : Program} {W : World} {t : TypeId} {n o j : Nat} {cs : List Value} {ys : List (DataW H × List MemPlace)} (hu : P.underlying t = some .string) (h1 : P.cellsOf t = 1)
    (hj : j < ys.length) (h : DataW.trod enc P W 0 (fun _ => true) true n t ((cs.drop o).take (P.cellsOf t)) = ys[j]?) : ∃ s : ByteArray, cs[o]? = some (.string s) ∧ s.size ≤ maxLen := by
  rw [List.getElem?_eq_getElem hj, h1] at h
  obtain ⟨s, hm, _, hs⟩ := DataW.trod_string hu h
  refine ⟨s, ?_, hs⟩
  have : ((cs.drop o).take 1)[0]? = some (.string s) := by rw [hm]; rfl
  simpa using this

theorem open_PostmarkS {H : Type} {enc : TypeId × Value → H} {W : World} {base : Nat} {v : Value} {d : DataW H} {p : List MemPlace} (hv : Value.okWide Tryd.prog W .any base 31 v)
    (h : DataW.Trod enc Tryd.prog W 0 (fun _ => true) true 31 v d p) : ∃ ps pl, ArgS ePoB 23 W v ps pl := by
  obtain ⟨a0, len0, cap0, rfl⟩ := okWide_slice Tryd.underlying31 hv
  obtain ⟨fuel, hf⟩ := h
  rcases open_slice Tryd.underlying31 hf with ⟨hcs, _⟩ | ⟨a, len, cap, m, n, D, Pl, hcs, _, hl, hm, hmm, _, hx⟩
  · simp [Value.cells] at hcs
    obtain ⟨rfl, rfl, rfl⟩ := hcs
    exact ⟨[], _, argS_nil ePoB _ W⟩
  · simp [Value.cells] at hcs
    obtain ⟨rfl, rfl, rfl⟩ := hcs
    refine argS_of ePoB _ (by decide) hl hm fun i hi => ?_
    obtain ⟨cs', hc, ht⟩ := hx i (by simp at hmm; omega)
    rw [show Tryd.prog.cellsOf 23 = 6 by kernel_rfl] at hc
    obtain ⟨ys, n', hn', hy, hlen, hyl, hfs⟩ := DataW.trod_struct Tryd.underlying23 ht
    obtain ⟨_, hcl, hat⟩ := World.cells?_some hc
    have h5 : ys.length = 6 := hyl
    have c3 : Tryd.prog.cellsOf 3 = 1 := by kernel_rfl
    have c4 : Tryd.prog.cellsOf 9 = 1 := by kernel_rfl
    obtain ⟨n0, g0, m0⟩ := fld_int Tryd.underlying3 c3 (by omega) (hfs 0 _ rfl)
    obtain ⟨n1, g1, m1⟩ := fld_str Tryd.underlying9 c4 (by omega) (hfs 1 _ rfl)
    obtain ⟨n2, g2, m2⟩ := fld_int Tryd.underlying3 c3 (by omega) (hfs 2 _ rfl)
    obtain ⟨n3, g3, m3⟩ := fld_int Tryd.underlying3 c3 (by omega) (hfs 3 _ rfl)
    obtain ⟨n4, g4, m4⟩ := fld_int Tryd.underlying3 c3 (by omega) (hfs 4 _ rfl)
    obtain ⟨n5, g5, m5⟩ := fld_str Tryd.underlying9 c4 (by omega) (hfs 5 _ rfl)
    refine ⟨⟨⟨n0, n1.data.toList, n2, n3, n4, n5.data.toList⟩, ⟨by show n1.data.toList.length ≤ 9223372036854775807; have hq : n1.data.toList.length = n1.size := rfl; simp only [maxLen] at m1; omega, by show n5.data.toList.length ≤ 9223372036854775807; have hq : n5.data.toList.length = n5.size := rfl; simp only [maxLen] at m5; omega⟩⟩, fun j c hj => ?_⟩
    have hj5 : j < 6 := (List.getElem?_eq_some_iff.1 hj).1
    rw [← Go.Deep.add_add, ePoB_n, hat j hj5]
    match j, hj5, hj with
    | 0, _, hj => cases hj; exact ⟨_, g0, fun _ _ => rfl⟩
    | 1, _, hj => cases hj; exact ⟨_, g1, fun _ _ => rfl⟩
    | 2, _, hj => cases hj; exact ⟨_, g2, fun _ _ => rfl⟩
    | 3, _, hj => cases hj; exact ⟨_, g3, fun _ _ => rfl⟩
    | 4, _, hj => cases hj; exact ⟨_, g4, fun _ _ => rfl⟩
    | 5, _, hj => cases hj; exact ⟨_, g5, fun _ _ => rfl⟩

end Go.Proofs.YtnehhdcaknppnaaDoor
