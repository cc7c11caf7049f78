/- The laws over rates and covers: what they share. -/
import Derived.Test.YtljbcniphdifeaaLawP
import Derived.Test.YtljbcniphdifeaaTkRa
set_option maxRecDepth 8000
set_option maxHeartbeats 1000000
set_option linter.unusedSimpArgs false
set_option linter.unusedVariables false
namespace Go.Proofs.Ytljbcniphdifeaa
open Go Go.ChangeShapes Go.WideShapes Go.ChangeAt Go.RowKit Go.Deep Go

theorem open_RateS {H : Type} {enc : TypeId × Value → H} {W : World} {base : Nat} {v : Value} {d : DataW H} {p : List MemPlace} (hv : Value.okWide Try.prog W .any base 22 v)
    (h : DataW.Trod enc Try.prog W 0 (fun _ => true) true 22 v d p) : ∃ ps pl, ArgS eRa 57 W v ps pl := by
  obtain ⟨a0, len0, cap0, rfl⟩ := okWide_slice Try.underlying22 hv
  obtain ⟨fuel, hf⟩ := h
  rcases open_slice Try.underlying22 hf with ⟨hcs, _⟩ | ⟨a, len, cap, m, n, D, Pl, hcs, _, hl, hm, hmm, _, hx⟩
  · simp [Value.cells] at hcs
    obtain ⟨rfl, rfl, rfl⟩ := hcs
    exact ⟨[], _, argS_nil eRa _ W⟩
  · simp [Value.cells] at hcs
    obtain ⟨rfl, rfl, rfl⟩ := hcs
    refine argS_of eRa _ (by decide) hl hm fun i hi => ?_
    obtain ⟨cs', hc, ht⟩ := hx i (by simp at hmm; omega)
    rw [show Try.prog.cellsOf 57 = 5 by kernel_rfl] at hc
    obtain ⟨ys, n', hn', hy, hlen, hyl, hfs⟩ := DataW.trod_struct Try.underlying57 ht
    obtain ⟨_, hcl, hat⟩ := World.cells?_some hc
    have h5 : ys.length = 5 := hyl
    have c3 : Try.prog.cellsOf 3 = 1 := by kernel_rfl
    obtain ⟨n0, g0, m0⟩ := fld_int Try.underlying3 c3 (by omega) (hfs 0 _ rfl)
    obtain ⟨n1, g1, m1⟩ := fld_int Try.underlying3 c3 (by omega) (hfs 1 _ rfl)
    obtain ⟨n2, g2, m2⟩ := fld_int Try.underlying3 c3 (by omega) (hfs 2 _ rfl)
    obtain ⟨n3, g3, m3⟩ := fld_int Try.underlying3 c3 (by omega) (hfs 3 _ rfl)
    obtain ⟨n4, g4, m4⟩ := fld_int Try.underlying3 c3 (by omega) (hfs 4 _ rfl)
    refine ⟨⟨n0, n1, n2, n3, n4⟩, fun j c hj => ?_⟩
    have hj5 : j < 5 := (List.getElem?_eq_some_iff.1 hj).1
    rw [← Go.Deep.add_add, eRa_n, hat j hj5]
    match j, hj5, hj with
    | 0, _, hj => cases hj; exact ⟨_, g0, fun _ _ => rfl⟩
    | 1, _, hj => cases hj; exact ⟨_, g1, fun _ _ => rfl⟩
    | 2, _, hj => cases hj; exact ⟨_, g2, fun _ _ => rfl⟩
    | 3, _, hj => cases hj; exact ⟨_, g3, fun _ _ => rfl⟩
    | 4, _, hj => cases hj; exact ⟨_, g4, fun _ _ => rfl⟩

end Go.Proofs.Ytljbcniphdifeaa
