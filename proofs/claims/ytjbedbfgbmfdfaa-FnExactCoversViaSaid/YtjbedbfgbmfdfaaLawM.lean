/- The laws over rates, mails and covers: what they share. -/
import Derived.Test.YtjbedbfgbmfdfaaLawP
import Derived.Test.YtjbedbfgbmfdfaaTkRa
import Derived.Test.YtjbedbfgbmfdfaaTkMa
import Derived.Test.YtjbedbfgbmfdfaaTkCv
set_option maxRecDepth 8000
set_option maxHeartbeats 1000000
set_option linter.unusedSimpArgs false
set_option linter.unusedVariables false
namespace Go.Proofs.Ytjbedbfgbmfdfaa
open Go Go.ChangeShapes Go.WideShapes Go.ChangeAt Go.RowKit Go.Deep Go

theorem open_RateS {H : Type} {enc : TypeId × Value → H} {W : World} {base : Nat} {v : Value} {d : DataW H} {p : List MemPlace} (hv : Value.okWide Try.prog W .any base 40 v)
    (h : DataW.Trod enc Try.prog W 0 (fun _ => true) true 40 v d p) : ∃ ps pl, ArgS eRa 102 W v ps pl := by
  obtain ⟨a0, len0, cap0, rfl⟩ := okWide_slice Try.underlying40 hv
  obtain ⟨fuel, hf⟩ := h
  rcases open_slice Try.underlying40 hf with ⟨hcs, _⟩ | ⟨a, len, cap, m, n, D, Pl, hcs, _, hl, hm, hmm, _, hx⟩
  · simp [Value.cells] at hcs
    obtain ⟨rfl, rfl, rfl⟩ := hcs
    exact ⟨[], _, argS_nil eRa _ W⟩
  · simp [Value.cells] at hcs
    obtain ⟨rfl, rfl, rfl⟩ := hcs
    refine argS_of eRa _ (by decide) hl hm fun i hi => ?_
    obtain ⟨cs', hc, ht⟩ := hx i (by simp at hmm; omega)
    rw [show Try.prog.cellsOf 102 = 5 by kernel_rfl] at hc
    obtain ⟨ys, n', hn', hy, hlen, hyl, hfs⟩ := DataW.trod_struct Try.underlying102 ht
    obtain ⟨_, hcl, hat⟩ := World.cells?_some hc
    have h5 : ys.length = 5 := hyl
    have c3 : Try.prog.cellsOf 3 = 1 := by kernel_rfl
    obtain ⟨n0, g0, m0⟩ := fld_int Try.underlying3 c3 (by omega) (hfs 0 _ rfl)
    obtain ⟨n1, g1, m1⟩ := fld_int Try.underlying3 c3 (by omega) (hfs 1 _ rfl)
    obtain ⟨n2, g2, m2⟩ := fld_int Try.underlying3 c3 (by omega) (hfs 2 _ rfl)
    obtain ⟨n3, g3, m3⟩ := fld_int Try.underlying3 c3 (by omega) (hfs 3 _ rfl)
    obtain ⟨n4, g4, m4⟩ := fld_int Try.underlying3 c3 (by omega) (hfs 4 _ rfl)
    refine ⟨⟨n0, n1, n2, n3, n4⟩, fun j c hj => ?_⟩
    have hj5 : j < 5 := (List.getElem?_eq_some_iff.1 hj).1
    rw [← Go.Deep.add_add, eRa_n, hat j hj5]
    match j, hj5, hj with
    | 0, _, hj => cases hj; exact ⟨_, g0, fun _ _ => rfl⟩
    | 1, _, hj => cases hj; exact ⟨_, g1, fun _ _ => rfl⟩
    | 2, _, hj => cases hj; exact ⟨_, g2, fun _ _ => rfl⟩
    | 3, _, hj => cases hj; exact ⟨_, g3, fun _ _ => rfl⟩
    | 4, _, hj => cases hj; exact ⟨_, g4, fun _ _ => rfl⟩

theorem open_MailS {H : Type} {enc : TypeId × Value → H} {W : World} {base : Nat} {v : Value} {d : DataW H} {p : List MemPlace} (hv : Value.okWide Try.prog W .any base 22 v)
    (h : DataW.Trod enc Try.prog W 0 (fun _ => true) true 22 v d p) : ∃ ps pl, ArgS eMa 91 W v ps pl := by
  obtain ⟨a0, len0, cap0, rfl⟩ := okWide_slice Try.underlying22 hv
  obtain ⟨fuel, hf⟩ := h
  rcases open_slice Try.underlying22 hf with ⟨hcs, _⟩ | ⟨a, len, cap, m, n, D, Pl, hcs, _, hl, hm, hmm, _, hx⟩
  · simp [Value.cells] at hcs
    obtain ⟨rfl, rfl, rfl⟩ := hcs
    exact ⟨[], _, argS_nil eMa _ W⟩
  · simp [Value.cells] at hcs
    obtain ⟨rfl, rfl, rfl⟩ := hcs
    refine argS_of eMa _ (by decide) hl hm fun i hi => ?_
    obtain ⟨cs', hc, ht⟩ := hx i (by simp at hmm; omega)
    rw [show Try.prog.cellsOf 91 = 4 by kernel_rfl] at hc
    obtain ⟨ys, n', hn', hy, hlen, hyl, hfs⟩ := DataW.trod_struct Try.underlying91 ht
    obtain ⟨_, hcl, hat⟩ := World.cells?_some hc
    have h5 : ys.length = 4 := hyl
    have c3 : Try.prog.cellsOf 3 = 1 := by kernel_rfl
    obtain ⟨n0, g0, m0⟩ := fld_int Try.underlying3 c3 (by omega) (hfs 0 _ rfl)
    obtain ⟨n1, g1, m1⟩ := fld_int Try.underlying3 c3 (by omega) (hfs 1 _ rfl)
    obtain ⟨n2, g2, m2⟩ := fld_int Try.underlying3 c3 (by omega) (hfs 2 _ rfl)
    obtain ⟨n3, g3, m3⟩ := fld_int Try.underlying3 c3 (by omega) (hfs 3 _ rfl)
    refine ⟨⟨n0, n1, n2, n3⟩, fun j c hj => ?_⟩
    have hj5 : j < 4 := (List.getElem?_eq_some_iff.1 hj).1
    rw [← Go.Deep.add_add, eMa_n, hat j hj5]
    match j, hj5, hj with
    | 0, _, hj => cases hj; exact ⟨_, g0, fun _ _ => rfl⟩
    | 1, _, hj => cases hj; exact ⟨_, g1, fun _ _ => rfl⟩
    | 2, _, hj => cases hj; exact ⟨_, g2, fun _ _ => rfl⟩
    | 3, _, hj => cases hj; exact ⟨_, g3, fun _ _ => rfl⟩

theorem open_CoverS {H : Type} {enc : TypeId × Value → H} {W : World} {base : Nat} {v : Value} {d : DataW H} {p : List MemPlace} (hv : Value.okWide Try.prog W .any base 23 v)
    (h : DataW.Trod enc Try.prog W 0 (fun _ => true) true 23 v d p) : ∃ ps pl, ArgS eCv 93 W v ps pl := by
  obtain ⟨a0, len0, cap0, rfl⟩ := okWide_slice Try.underlying23 hv
  obtain ⟨fuel, hf⟩ := h
  rcases open_slice Try.underlying23 hf with ⟨hcs, _⟩ | ⟨a, len, cap, m, n, D, Pl, hcs, _, hl, hm, hmm, _, hx⟩
  · simp [Value.cells] at hcs
    obtain ⟨rfl, rfl, rfl⟩ := hcs
    exact ⟨[], _, argS_nil eCv _ W⟩
  · simp [Value.cells] at hcs
    obtain ⟨rfl, rfl, rfl⟩ := hcs
    refine argS_of eCv _ (by decide) hl hm fun i hi => ?_
    obtain ⟨cs', hc, ht⟩ := hx i (by simp at hmm; omega)
    rw [show Try.prog.cellsOf 93 = 9 by kernel_rfl] at hc
    obtain ⟨ys, n', hn', hy, hlen, hyl, hfs⟩ := DataW.trod_struct Try.underlying93 ht
    obtain ⟨_, hcl, hat⟩ := World.cells?_some hc
    have h5 : ys.length = 9 := hyl
    have c3 : Try.prog.cellsOf 3 = 1 := by kernel_rfl
    obtain ⟨n0, g0, m0⟩ := fld_int Try.underlying3 c3 (by omega) (hfs 0 _ rfl)
    obtain ⟨n1, g1, m1⟩ := fld_int Try.underlying3 c3 (by omega) (hfs 1 _ rfl)
    obtain ⟨n2, g2, m2⟩ := fld_int Try.underlying3 c3 (by omega) (hfs 2 _ rfl)
    obtain ⟨n3, g3, m3⟩ := fld_int Try.underlying3 c3 (by omega) (hfs 3 _ rfl)
    obtain ⟨n4, g4, m4⟩ := fld_int Try.underlying3 c3 (by omega) (hfs 4 _ rfl)
    obtain ⟨n5, g5, m5⟩ := fld_int Try.underlying3 c3 (by omega) (hfs 5 _ rfl)
    obtain ⟨n6, g6, m6⟩ := fld_int Try.underlying3 c3 (by omega) (hfs 6 _ rfl)
    obtain ⟨n7, g7, m7⟩ := fld_int Try.underlying3 c3 (by omega) (hfs 7 _ rfl)
    obtain ⟨n8, g8, m8⟩ := fld_int Try.underlying3 c3 (by omega) (hfs 8 _ rfl)
    refine ⟨⟨n0, n1, n2, n3, n4, n5, n6, n7, n8⟩, fun j c hj => ?_⟩
    have hj5 : j < 9 := (List.getElem?_eq_some_iff.1 hj).1
    rw [← Go.Deep.add_add, eCv_n, hat j hj5]
    match j, hj5, hj with
    | 0, _, hj => cases hj; exact ⟨_, g0, fun _ _ => rfl⟩
    | 1, _, hj => cases hj; exact ⟨_, g1, fun _ _ => rfl⟩
    | 2, _, hj => cases hj; exact ⟨_, g2, fun _ _ => rfl⟩
    | 3, _, hj => cases hj; exact ⟨_, g3, fun _ _ => rfl⟩
    | 4, _, hj => cases hj; exact ⟨_, g4, fun _ _ => rfl⟩
    | 5, _, hj => cases hj; exact ⟨_, g5, fun _ _ => rfl⟩
    | 6, _, hj => cases hj; exact ⟨_, g6, fun _ _ => rfl⟩
    | 7, _, hj => cases hj; exact ⟨_, g7, fun _ _ => rfl⟩
    | 8, _, hj => cases hj; exact ⟨_, g8, fun _ _ => rfl⟩

end Go.Proofs.Ytjbedbfgbmfdfaa
