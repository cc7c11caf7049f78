/- FnExactArePrintings: the statement. -/
import Derived.Test.YticknbohoolhgaaPrS
import Derived.Test.YticknbohoolhgaaLawA
import Derived.OpenShut
import Derived.Test.YticknbohoolhgaaRows
set_option maxRecDepth 8000
set_option linter.unusedSimpArgs false
namespace Go.Proofs.Yticknbohoolhgaa
open Go Go.ChangeShapes Go.WideShapes Go.ChangeAt Go.RowKit Go.Deep Go

theorem own : ownKnob Try.prog.godebug = none := by kernel_rfl
theorem laidOut : laidOutB Try.prog = true := by kernel_rfl

/-- a field that is an integer -/
theorem fld_int {H : Type} {enc : TypeId × Value → H} {P : Program} {W : World} {t : TypeId} {k : IntKind} {n o j : Nat} {cs : List Value} {ys : List (DataW H × List MemPlace)} (hu : P.underlying t = some (.int k)) (h1 : P.cellsOf t = 1)
    (hj : j < ys.length) (h : DataW.trod enc P W 0 (fun _ => true) true n t ((cs.drop o).take (P.cellsOf t)) = ys[j]?) : ∃ m, cs[o]? = some (.int k m) ∧ (Lit.int k m).wf = true := by
  rw [List.getElem?_eq_getElem hj, h1] at h
  obtain ⟨m, hm, _, hw⟩ := DataW.trod_int hu h
  refine ⟨m, ?_, hw⟩
  have : ((cs.drop o).take 1)[0]? = some (.int k m) := by rw [hm]; rfl
  simpa using this

/-- an argument that is a slice of printings -/
theorem open_prs {H : Type} {enc : TypeId × Value → H} {W : World} {base : Nat} {v : Value} {d : DataW H} {p : List MemPlace} (hv : Value.okWide Try.prog W .any base 22 v)
    (h : DataW.Trod enc Try.prog W 0 (fun _ => true) true 22 v d p) : ∃ ps pl, ArgS ePr 62 W v ps pl := by
  obtain ⟨a0, len0, cap0, rfl⟩ := okWide_slice Try.underlying22 hv
  obtain ⟨fuel, hf⟩ := h
  rcases open_slice Try.underlying22 hf with ⟨hcs, _⟩ | ⟨a, len, cap, m, n, D, Pl, hcs, _, hl, hm, hmm, _, hx⟩
  · simp [Value.cells] at hcs
    obtain ⟨rfl, rfl, rfl⟩ := hcs
    exact ⟨[], _, argS_nil ePr _ W⟩
  · simp [Value.cells] at hcs
    obtain ⟨rfl, rfl, rfl⟩ := hcs
    refine argS_of ePr _ (fun _ => rfl) (by decide) hl hm fun i hi => ?_
    obtain ⟨cs', hc, ht⟩ := hx i (by simp at hmm; omega)
    rw [show Try.prog.cellsOf 62 = 5 by kernel_rfl] at hc
    obtain ⟨ys, n', hn', hy, hlen, hyl, hfs⟩ := DataW.trod_struct Try.underlying62 ht
    obtain ⟨_, hcl, hat⟩ := World.cells?_some hc
    have h5 : ys.length = 5 := hyl
    have c3 : Try.prog.cellsOf 3 = 1 := by kernel_rfl
    obtain ⟨n0, g0, _⟩ := fld_int Try.underlying3 c3 (by omega) (hfs 0 _ rfl)
    obtain ⟨n1, g1, _⟩ := fld_int Try.underlying3 c3 (by omega) (hfs 1 _ rfl)
    obtain ⟨n2, g2, _⟩ := fld_int Try.underlying3 c3 (by omega) (hfs 2 _ rfl)
    obtain ⟨n3, g3, _⟩ := fld_int Try.underlying3 c3 (by omega) (hfs 3 _ rfl)
    obtain ⟨n4, g4, _⟩ := fld_int Try.underlying3 c3 (by omega) (hfs 4 _ rfl)
    refine ⟨⟨n0, n1, n2, n3, n4⟩, fun j c hj => ?_⟩
    have hj5 : j < 5 := (List.getElem?_eq_some_iff.1 hj).1
    rw [← Go.Deep.add_add, ePr_n, hat j hj5]
    match j, hj5, hj with
    | 0, _, hj => cases hj; exact ⟨_, g0, fun _ _ => rfl⟩
    | 1, _, hj => cases hj; exact ⟨_, g1, fun _ _ => rfl⟩
    | 2, _, hj => cases hj; exact ⟨_, g2, fun _ _ => rfl⟩
    | 3, _, hj => cases hj; exact ⟨_, g3, fun _ _ => rfl⟩
    | 4, _, hj => cases hj; exact ⟨_, g4, fun _ _ => rfl⟩

theorem walk_ArePrintings {W : World} {v : Value} {ps : List Pr} {pl : Place} (h : ArgS ePr 62 W v ps pl) :
    Calls Try.prog 3 #[v] W fun e W' => e = .returned (.bool true) ∧ Below W.heap.size W W' := by
  obtain ⟨a, rfl, hl, ha⟩ := h.val
  have hH := (hrep0 (fun _ => pl) W).addRo (p := pl) (k := ⟨62, 5, true, false, ps.map ePr.cells⟩) rfl (h.cells _ _) h.lt (by simpa using h.mx)
  refine calls_true law_ArePrintings (args := [.c (.sl 0 0 ps.length)]) hH ⟨⟨Nat.lt_succ_self _, a, pl.cap, rfl, hl, ?_, ?_⟩, trivial⟩ ?_
  · simp [updP, H0]
  · simpa [updP, H0] using ha
  · unfold q_true1
    simp [AHeap.push, H0]

set_option maxRecDepth 100000 in
theorem lifted_ArePrintings (os : Os) (started : os.Started) (H : Type) (enc : TypeId × Value → H) :
    ReturnsInHanded {} Try.checked os 3 .any (Rows.fnExactArePrintingsSpec.pre6 enc Try.prog Try.f3 Rows.fnExactArePrintingsRow.domain false) (Rows.fnExactArePrintingsSpec.post enc Try.prog Try.f3 false true false false) := by
  refine returnsInHanded_of_change (C := Try.checked) own started (by kernel_rfl) Try.func3
    (ChangeSpec.witness6 (enc := enc) (C := Try.checked) false ⟨#[], #[.slice none 0 0], []⟩ 8 (by kernel_rfl) (by kernel_rfl) (by kernel_rfl) (by kernel_rfl)) ?_
  intro W base args ds gs before hval0 hW hcnd _
  have hval : ∀ (j : Nat) t v, Try.f3.params[j]? = some t → args[j]? = some v → Value.okWide Try.prog W .any base t v := hval0
  have hW' := hW
  obtain ⟨p, q, hA0, hV, rfl, hfz, hnd⟩ := hW
  have hA : DataW.TrodAll enc Try.prog W 0 (fun _ => true) true Try.f3.params.toList args.toList ds p := hA0
  rw [Try.params3] at hA hval
  obtain ⟨v0, vs0, d0, ds0, p0, q0, hargs, rfl, rfl, h0, r0⟩ := trodAll_cons hA
  obtain ⟨rfl, rfl, rfl⟩ := trodAll_nil r0
  obtain rfl : args = #[v0] := by cases args; simp_all
  obtain ⟨rfl, rfl⟩ := trodVars_none hV
  have k0 := h0
  have lt0 : ∀ x ∈ p0, x.block < W.heap.size := by obtain ⟨m, hm⟩ := k0; exact DataW.trod_lt m _ _ _ hm
  obtain ⟨ps, pl, ha⟩ := open_prs (hval 0 22 v0 rfl rfl) h0
  clear hA0 hval0
  refine (walk_ArePrintings ha).mono fun e W' ⟨he, bel⟩ => ?_
  subst he
  exact ⟨_, rfl, _, _, _, [], _, [], hW', trodAll_mk1 (shut_bool Try.underlying4 _), (trodAll_cons_mk (Below.trod laidOut (by kernel_rfl) (of_decide_eq_true (by kernel_rfl)) k0 bel lt0) trodAll_mk0), rfl, bel.frame _, fun h => by cases h⟩

theorem over_ArePrintings : Rows.fnExactArePrintingsRow.holds Try.pinned (OpenSpec.ofChange Rows.fnExactArePrintingsSpec) :=
  OpenClaim.holds_of_wide 3 Try.f3 rfl rfl rfl rfl rfl rfl rfl ⟨rfl, rfl, rfl, rfl, rfl⟩ rfl rfl rfl rfl rfl (by kernel_rfl) Try.func3 (by kernel_rfl)
    (of_decide_eq_true (by kernel_rfl)) (by unfold Func.isWrapper; first | (rw [if_pos (by decide +kernel)]; kernel_rfl) | (rw [if_neg (by decide +kernel)]; exact ⟨rfl, rfl⟩))
    (fun os started H enc _ => lifted_ArePrintings os started H enc)

theorem proved_ArePrintings : Rows.FnExactArePrintingsSaid := over_ArePrintings

end Go.Proofs.Yticknbohoolhgaa
