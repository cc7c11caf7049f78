/- It is proved that the law FnExactChangeText returns true, for all arguments that read as data. No condition. -/
import Derived.Test.YtgefleiccgeeoaaCtR
import Derived.Test.YtgefleiccgeeoaaLawA
import Derived.OpenShut
import Derived.Test.YtgefleiccgeeoaaRows
set_option maxRecDepth 8000
set_option maxHeartbeats 1000000
set_option linter.unusedSimpArgs false
set_option linter.unusedVariables false
namespace Go.Proofs.Ytgefleiccgeeoaa
open Go Go.ChangeShapes Go.WideShapes Go.ChangeAt Go.RowKit Go.Deep Go

def q_tChangeText : Con := fun args H K => match args with
  | [.c (.int .i64 n)] => K (.c (.bool (true))) H
  | _ => False
@[simp ↓] theorem q_tChangeText_eq (n : Int) (H : AHeap) (K : AV → AHeap → Prop) : q_tChangeText [.c (.int .i64 n)] H K = (K (.c (.bool (true))) H) := rfl

theorem laws_FnExactChangeText_s : Sound Try.prog 3 q_tChangeText := by
  intro args H K h
  unfold q_tChangeText at h
  split at h
  rotate_left
  all_goals first | exact False.elim h | skip
  rename_i n
  have hE := soundE_cons impl_ChangeText_s (soundE_cons spec_ChangeText_s (soundE_nil (P := Try.prog)))
  refine acalls_fn laws_FnExactChangeText_k hE ⟨by simp, fun hwf => ?_⟩
  simp (config := {contextual := true, implicitDefEqProofs := false, maxSteps := 2000000}) [-Int.not_le, -Int.not_lt, argsF, laws_FnExactChangeText_c]
  (refine Out.plain hwf ?_ rfl ?_; (repeat first | exact Sub.refl _ | refine Sub.push hwf ?_ _ | refine Sub.set hwf ?_ (by first | exact Nat.le_refl _ | omega) _ | refine Sub.kill hwf ?_ (by first | exact Nat.le_refl _ | omega))); exact h

theorem own : ownKnob Try.prog.godebug = none := by kernel_rfl
theorem laidOut : laidOutB Try.prog = true := by kernel_rfl
/-- a field that is an integer -/
theorem fld_int {H : Type} {enc : TypeId × Value → H} {P : Program} {W : World} {t : TypeId} {k : IntKind} {n o j : Nat} {cs : List Value} {ys : List (DataW H × List MemPlace)} (hu : P.underlying t = some (.int k)) (h1 : P.cellsOf t = 1)
    (hj : j < ys.length) (h : DataW.trod enc P W 0 (fun _ => true) true n t ((cs.drop o).take (P.cellsOf t)) = ys[j]?) : ∃ m, cs[o]? = some (.int k m) ∧ (Lit.int k m).wf = true := by
  rw [List.getElem?_eq_getElem hj, h1] at h
  obtain ⟨m, hm, _, hw⟩ := DataW.trod_int hu h
  refine ⟨m, ?_, hw⟩
  have : ((cs.drop o).take 1)[0]? = some (.int k m) := by rw [hm]; rfl
  simpa using this
/-- a field that is a text -/
theorem fld_str {H : Type} {enc : TypeId × Value → H} {P : Program} {W : World} {t : TypeId} {n o j : Nat} {cs : List Value} {ys : List (DataW H × List MemPlace)} (hu : P.underlying t = some .string) (h1 : P.cellsOf t = 1)
    (hj : j < ys.length) (h : DataW.trod enc P W 0 (fun _ => true) true n t ((cs.drop o).take (P.cellsOf t)) = ys[j]?) : ∃ s : ByteArray, cs[o]? = some (.string s) ∧ s.size ≤ maxLen := by
  rw [List.getElem?_eq_getElem hj, h1] at h
  obtain ⟨s, hm, _, hs⟩ := DataW.trod_string hu h
  refine ⟨s, ?_, hs⟩
  have : ((cs.drop o).take 1)[0]? = some (.string s) := by rw [hm]; rfl
  simpa using this

theorem walk_FnExactChangeText {W : World} (n0 : Int) :
    Calls Try.prog 3 #[.int .i64 n0] W fun e W' => e = .returned (.bool true) ∧ Below W.heap.size W W' := by
  refine calls_true laws_FnExactChangeText_s (args := [.c (.int .i64 n0)]) (hrep0 (fun _ => ⟨0, 0, 0, 0⟩) W (I := fun _ => True) fun _ _ => trivial) ⟨rfl, trivial⟩ ?_
  unfold q_tChangeText
  simp [AHeap.push, H0]

set_option maxRecDepth 100000 in
theorem lifted_FnExactChangeText (os : Os) (started : os.Started) (H : Type) (enc : TypeId × Value → H) :
    ReturnsInHanded {} Try.checked os 3 .any (Rows.fnExactChangeTextSpec.pre6 enc Try.prog Try.f3 Rows.fnExactChangeTextRow.domain false) (Rows.fnExactChangeTextSpec.post enc Try.prog Try.f3 false true false false) := by
  refine returnsInHanded_of_change (C := Try.checked) own started (by kernel_rfl) Try.func3
    (ChangeSpec.witness6 (enc := enc) (C := Try.checked) false ⟨#[], #[.int .i64 0], []⟩ 8 (by kernel_rfl) (by kernel_rfl) (by kernel_rfl) (by kernel_rfl)) ?_
  intro W base args ds gs before hval0 hW hcnd _
  have hval : ∀ (j : Nat) t v, Try.f3.params[j]? = some t → args[j]? = some v → Value.okWide Try.prog W .any base t v := hval0
  have hW' := hW
  obtain ⟨p, q, hA0, hV, rfl, hfz, hnd⟩ := hW
  have hA : DataW.TrodAll enc Try.prog W 0 (fun _ => true) true Try.f3.params.toList args.toList ds p := hA0
  rw [Try.params3] at hA hval
  obtain ⟨v0, vs0, d0, ds0, p0, q0, hargs0, rfl, rfl, h0, r0⟩ := trodAll_cons hA
  obtain ⟨hnil, rfl, rfl⟩ := trodAll_nil r0
  obtain rfl : args = #[v0] := by cases args; simp_all
  obtain ⟨rfl, rfl⟩ := trodVars_none hV
  have k0 := h0
  have lt0 : ∀ x ∈ p0, x.block < W.heap.size := by obtain ⟨m, hm⟩ := k0; exact DataW.trod_lt m _ _ _ hm
  obtain ⟨n0, hv0, _⟩ := open_int Try.underlying3 (hval 0 3 v0 rfl rfl) h0
  subst hv0
  clear hA0 hval0
  refine (walk_FnExactChangeText n0).mono fun e W' ⟨he, bel⟩ => ?_
  subst he
  exact ⟨_, rfl, _, _, _, [], _, [], hW', trodAll_mk1 (shut_bool Try.underlying4 _), (trodAll_cons_mk (Below.trod laidOut (by kernel_rfl) (of_decide_eq_true (by kernel_rfl)) k0 bel lt0) trodAll_mk0), rfl, bel.frame _, fun h => by cases h⟩
theorem over_FnExactChangeText : Rows.fnExactChangeTextRow.holds Try.pinned (OpenSpec.ofChange Rows.fnExactChangeTextSpec) :=
  OpenClaim.holds_of_wide 3 Try.f3 rfl rfl rfl rfl rfl rfl rfl ⟨rfl, rfl, rfl, rfl, rfl⟩ rfl rfl rfl rfl rfl (by kernel_rfl) Try.func3 (by kernel_rfl)
    (of_decide_eq_true (by kernel_rfl)) (by unfold Func.isWrapper; first | (rw [if_pos (by decide +kernel)]; kernel_rfl) | (rw [if_neg (by decide +kernel)]; exact ⟨rfl, rfl⟩))
    (fun os started H enc _ => lifted_FnExactChangeText os started H enc)
theorem proved_ChangeText : Rows.FnExactChangeTextSaid := over_FnExactChangeText

end Go.Proofs.Ytgefleiccgeeoaa
