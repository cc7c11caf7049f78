/- It is proved that the law FnExactAddSighting returns true and leaves its arguments as they were, for all arguments that read as data. No condition. -/
import Derived.Test.YtnbjiigcldmgoaaLawP
import Derived.Test.YtnbjiigcldmgoaaSiLb
set_option maxRecDepth 8000
set_option maxHeartbeats 1000000
set_option linter.unusedSimpArgs false
set_option linter.unusedVariables false
namespace Go.Proofs.Ytnbjiigcldmgoaa
open Go Go.ChangeShapes Go.WideShapes Go.ChangeAt Go.RowKit Go.Deep Go

/-- an argument that is a slice of numbers -/
theorem open_IntS {H : Type} {enc : TypeId × Value → H} {W : World} {base : Nat} {v : Value} {d : DataW H} {p : List MemPlace} (hv : Value.okWide Try.prog W .any base 34 v)
    (h : DataW.Trod enc Try.prog W 0 (fun _ => true) true 34 v d p) : ∃ ps pl, ArgS eI 3 W v ps pl := by
  obtain ⟨a0, len0, cap0, rfl⟩ := okWide_slice Try.underlying34 hv
  obtain ⟨fuel, hf⟩ := h
  rcases open_slice Try.underlying34 hf with ⟨hcs, _⟩ | ⟨a, len, cap, m, n, D, Pl, hcs, _, hl, hm, hmm, _, hx⟩
  · simp [Value.cells] at hcs
    obtain ⟨rfl, rfl, rfl⟩ := hcs
    exact ⟨[], _, argS_nil eI _ W⟩
  · simp [Value.cells] at hcs
    obtain ⟨rfl, rfl, rfl⟩ := hcs
    refine argS_of eI _ (by decide) hl hm fun i hi => ?_
    obtain ⟨cs', hc, ht⟩ := hx i (by simp at hmm; omega)
    rw [show Try.prog.cellsOf 3 = 1 by kernel_rfl] at hc
    obtain ⟨m0, rfl, _⟩ := DataW.trod_int Try.underlying3 ht
    obtain ⟨_, hcl, hat⟩ := World.cells?_some hc
    refine ⟨m0, fun j c hj => ?_⟩
    have hj5 : j < 1 := (List.getElem?_eq_some_iff.1 hj).1
    rw [← Go.Deep.add_add, eI_n, hat j hj5]
    match j, hj5, hj with
    | 0, _, hj => cases hj; exact ⟨_, rfl, fun _ _ => rfl⟩

theorem walk_FnExactAddSighting {W : World} {v0 : Value} {l0 : List Si} (h0 : ArgN W v0 l0) (n1 : Int) (s2 : ByteArray) {v3 : Value} {l3 : List Int} {pl3 : Place} (h3 : ArgS eI 3 W v3 l3 pl3) :
    Calls Try.prog 6 #[v0, .int .i64 n1, .string s2, v3] W fun e W' => e = .returned (.bool true) ∧ Below W.heap.size W W' := by
  obtain ⟨φ0, H0, b0, k0, hH0, hg0, hs0, hr0, ha0⟩ := h0.add (hrep0 (fun _ => ⟨0, 0, 0, 0⟩) W (I := fun _ => True) fun _ _ => trivial)
  obtain ⟨φ3, H3, b3, k3, hH3, hg3, hs3, hr3, ha3⟩ := h3.add hH0
  have hr0 := hr0.mono hg3 hs3.1.1
  have ha0 := ha0.up hs3
  refine calls_true laws_FnExactAddSighting_s (args := [.c (.sl b0 0 l0.length), .c (.int .i64 n1), .c (.str s2.data.toList), .c (.sl b3 0 l3.length)]) hH3 ⟨hr0, rfl, (by cases s2; rfl), hr3, trivial⟩ ?_
  rw [q_tAd_eq]
  refine ha0.rd0 ?_
  refine ha3.rd0 ?_
  first | rfl | trivial

set_option maxRecDepth 100000 in
theorem lifted_FnExactAddSighting (os : Os) (started : os.Started) (H : Type) (enc : TypeId × Value → H) :
    ReturnsInHanded {} Try.checked os 6 .any (Rows.fnExactAddSightingSpec.pre6 enc Try.prog Try.f6 Rows.fnExactAddSightingRow.domain false) (Rows.fnExactAddSightingSpec.post enc Try.prog Try.f6 false true false false) := by
  refine returnsInHanded_of_change (C := Try.checked) own started (by kernel_rfl) Try.func6
    (ChangeSpec.witness6 (enc := enc) (C := Try.checked) false ⟨#[], #[.slice none 0 0, .int .i64 0, .string ⟨#[]⟩, .slice none 0 0], []⟩ 8 (by kernel_rfl) (by kernel_rfl) (by kernel_rfl) (by kernel_rfl)) ?_
  intro W base args ds gs before hval0 hW hcnd _
  have hval : ∀ (j : Nat) t v, Try.f6.params[j]? = some t → args[j]? = some v → Value.okWide Try.prog W .any base t v := hval0
  have hW' := hW
  obtain ⟨p, q, hA0, hV, rfl, hfz, hnd⟩ := hW
  have hA : DataW.TrodAll enc Try.prog W 0 (fun _ => true) true Try.f6.params.toList args.toList ds p := hA0
  rw [Try.params6] at hA hval
  obtain ⟨v0, vs0, d0, ds0, p0, q0, hargs0, rfl, rfl, h0, r0⟩ := trodAll_cons hA
  obtain ⟨v1, vs1, d1, ds1, p1, q1, hargs1, rfl, rfl, h1, r1⟩ := trodAll_cons r0
  obtain ⟨v2, vs2, d2, ds2, p2, q2, hargs2, rfl, rfl, h2, r2⟩ := trodAll_cons r1
  obtain ⟨v3, vs3, d3, ds3, p3, q3, hargs3, rfl, rfl, h3, r3⟩ := trodAll_cons r2
  obtain ⟨hnil, rfl, rfl⟩ := trodAll_nil r3
  obtain rfl : args = #[v0, v1, v2, v3] := by cases args; simp_all
  obtain ⟨rfl, rfl⟩ := trodVars_none hV
  have k0 := h0
  have lt0 : ∀ x ∈ p0, x.block < W.heap.size := by obtain ⟨m, hm⟩ := k0; exact DataW.trod_lt m _ _ _ hm
  have k1 := h1
  have lt1 : ∀ x ∈ p1, x.block < W.heap.size := by obtain ⟨m, hm⟩ := k1; exact DataW.trod_lt m _ _ _ hm
  have k2 := h2
  have lt2 : ∀ x ∈ p2, x.block < W.heap.size := by obtain ⟨m, hm⟩ := k2; exact DataW.trod_lt m _ _ _ hm
  have k3 := h3
  have lt3 : ∀ x ∈ p3, x.block < W.heap.size := by obtain ⟨m, hm⟩ := k3; exact DataW.trod_lt m _ _ _ hm
  obtain ⟨l0, ha0⟩ := open_SightingS (hval 0 22 v0 rfl rfl) h0
  obtain ⟨n1, hv1, _⟩ := open_int Try.underlying3 (hval 1 3 v1 rfl rfl) h1
  subst hv1
  obtain ⟨s2, hv2, _⟩ := Go.ChangeMaps.open_string Try.underlying9 (hval 2 9 v2 rfl rfl) h2
  subst hv2
  obtain ⟨l3, pl3, ha3⟩ := open_IntS (hval 3 34 v3 rfl rfl) h3
  clear hA0 hval0
  refine (walk_FnExactAddSighting ha0 n1 s2 ha3).mono fun e W' ⟨he, bel⟩ => ?_
  subst he
  exact ⟨_, rfl, _, _, _, [], _, [], hW', trodAll_mk1 (shut_bool Try.underlying4 _), (trodAll_cons_mk (Below.trod laidOut (by kernel_rfl) (of_decide_eq_true (by kernel_rfl)) k0 bel lt0) (trodAll_cons_mk (Below.trod laidOut (by kernel_rfl) (of_decide_eq_true (by kernel_rfl)) k1 bel lt1) (trodAll_cons_mk (Below.trod laidOut (by kernel_rfl) (of_decide_eq_true (by kernel_rfl)) k2 bel lt2) (trodAll_cons_mk (Below.trod laidOut (by kernel_rfl) (of_decide_eq_true (by kernel_rfl)) k3 bel lt3) trodAll_mk0)))), rfl, bel.frame _, fun h => by cases h⟩
theorem over_FnExactAddSighting : Rows.fnExactAddSightingRow.holds Try.pinned (OpenSpec.ofChange Rows.fnExactAddSightingSpec) :=
  OpenClaim.holds_of_wide 6 Try.f6 rfl rfl rfl rfl rfl rfl rfl ⟨rfl, rfl, rfl, rfl, rfl⟩ rfl rfl rfl rfl rfl (by kernel_rfl) Try.func6 (by kernel_rfl)
    (of_decide_eq_true (by kernel_rfl)) (by unfold Func.isWrapper; first | (rw [if_pos (by decide +kernel)]; kernel_rfl) | (rw [if_neg (by decide +kernel)]; exact ⟨rfl, rfl⟩))
    (fun os started H enc _ => lifted_FnExactAddSighting os started H enc)
theorem proved_AddSighting : Rows.FnExactAddSightingSaid := over_FnExactAddSighting

end Go.Proofs.Ytnbjiigcldmgoaa
