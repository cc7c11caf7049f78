/- It is proved that the law FnExactChangeOf returns true and leaves its arguments as they were, for all arguments that read as data. No condition. -/
import Derived.Test.YtpchlgpedcdpgaaLawP
import Derived.Test.YtpchlgpedcdpgaaCoR
set_option maxRecDepth 8000
set_option maxHeartbeats 1000000
set_option linter.unusedSimpArgs false
set_option linter.unusedVariables false
namespace Go.Proofs.Ytpchlgpedcdpgaa
open Go Go.ChangeShapes Go.WideShapes Go.ChangeAt Go.RowKit Go.Deep Go

def q_tChangeOf : Con := fun args H K => match args with
  | [.agg x_e, .agg y_e] => onv (eCv.dec x_e) fun x => onv (eCv.dec y_e) fun y => K (.c (.bool (true))) H
  | _ => False
@[simp ↓] theorem q_tChangeOf_eq (x_e : List AC) (y_e : List AC) (H : AHeap) (K : AV → AHeap → Prop) : q_tChangeOf [.agg x_e, .agg y_e] H K = (onv (eCv.dec x_e) fun x => onv (eCv.dec y_e) fun y => K (.c (.bool (true))) H) := rfl

theorem laws_FnExactChangeOf_s : Sound Try.prog 3 q_tChangeOf := by
  intro args H K h
  unfold q_tChangeOf at h
  split at h
  rotate_left
  all_goals first | exact False.elim h | skip
  rename_i x_e y_e
  have h1 := onv_iff.1 h
  clear h
  obtain ⟨x, hd_x, h⟩ := h1
  obtain rfl := eCv.cd _ _ hd_x
  clear hd_x
  have h1 := onv_iff.1 h
  clear h
  obtain ⟨y, hd_y, h⟩ := h1
  obtain rfl := eCv.cd _ _ hd_y
  clear hd_y
  have hE := soundE_cons laws_toCover_s (soundE_cons spec_ChangeOf_s (soundE_cons impl_ChangeOf_s (soundE_nil (P := Try.prog))))
  refine acalls_fn laws_FnExactChangeOf_k hE ⟨by simp, fun hwf => ?_⟩
  simp (config := {contextual := true, implicitDefEqProofs := false, maxSteps := 2000000}) [-Int.not_le, -Int.not_lt, argsF, laws_FnExactChangeOf_c]
  (refine Out.plain hwf ?_ rfl ?_; (repeat first | exact Sub.refl _ | refine Sub.push hwf ?_ _ | refine Sub.set hwf ?_ (by first | exact Nat.le_refl _ | omega) _ | refine Sub.kill hwf ?_ (by first | exact Nat.le_refl _ | omega))); exact h

theorem walk_FnExactChangeOf {W : World} (x0 : Cv) (x1 : Cv) :
    Calls Try.prog 3 #[.agg #[.int .i64 x0.id, .int .i64 x0.day, .int .i64 x0.zone, .int .i64 x0.grams, .int .i64 x0.paid, .int .i64 x0.frm, .int .i64 x0.to, .int .i64 x0.leave, .int .i64 x0.arrive], .agg #[.int .i64 x1.id, .int .i64 x1.day, .int .i64 x1.zone, .int .i64 x1.grams, .int .i64 x1.paid, .int .i64 x1.frm, .int .i64 x1.to, .int .i64 x1.leave, .int .i64 x1.arrive]] W fun e W' => e = .returned (.bool true) ∧ Below W.heap.size W W' := by
  refine calls_true laws_FnExactChangeOf_s (args := [.agg (eCv.cells x0), .agg (eCv.cells x1)]) (hrep0 (fun _ => ⟨0, 0, 0, 0⟩) W (I := fun _ => True) fun _ _ => trivial) ⟨⟨_, rfl, rfl, rfl, rfl, rfl, rfl, rfl, rfl, rfl, rfl, trivial⟩, ⟨_, rfl, rfl, rfl, rfl, rfl, rfl, rfl, rfl, rfl, rfl, trivial⟩, trivial⟩ ?_
  unfold q_tChangeOf
  simp [AHeap.push, H0]

set_option maxRecDepth 100000 in
theorem lifted_FnExactChangeOf (os : Os) (started : os.Started) (H : Type) (enc : TypeId × Value → H) :
    ReturnsInHanded {} Try.checked os 3 .any (Rows.fnExactChangeOfSpec.pre6 enc Try.prog Try.f3 Rows.fnExactChangeOfRow.domain false) (Rows.fnExactChangeOfSpec.post enc Try.prog Try.f3 false true false false) := by
  refine returnsInHanded_of_change (C := Try.checked) own started (by kernel_rfl) Try.func3
    (ChangeSpec.witness6 (enc := enc) (C := Try.checked) false ⟨#[], #[.agg #[.int .i64 0, .int .i64 0, .int .i64 0, .int .i64 0, .int .i64 0, .int .i64 0, .int .i64 0, .int .i64 0, .int .i64 0], .agg #[.int .i64 0, .int .i64 0, .int .i64 0, .int .i64 0, .int .i64 0, .int .i64 0, .int .i64 0, .int .i64 0, .int .i64 0]], []⟩ 8 (by kernel_rfl) (by kernel_rfl) (by kernel_rfl) (by kernel_rfl)) ?_
  intro W base args ds gs before hval0 hW hcnd _
  have hval : ∀ (j : Nat) t v, Try.f3.params[j]? = some t → args[j]? = some v → Value.okWide Try.prog W .any base t v := hval0
  have hW' := hW
  obtain ⟨p, q, hA0, hV, rfl, hfz, hnd⟩ := hW
  have hA : DataW.TrodAll enc Try.prog W 0 (fun _ => true) true Try.f3.params.toList args.toList ds p := hA0
  rw [Try.params3] at hA hval
  obtain ⟨v0, vs0, d0, ds0, p0, q0, hargs0, rfl, rfl, h0, r0⟩ := trodAll_cons hA
  obtain ⟨v1, vs1, d1, ds1, p1, q1, hargs1, rfl, rfl, h1, r1⟩ := trodAll_cons r0
  obtain ⟨hnil, rfl, rfl⟩ := trodAll_nil r1
  obtain rfl : args = #[v0, v1] := by cases args; simp_all
  obtain ⟨rfl, rfl⟩ := trodVars_none hV
  have k0 := h0
  have lt0 : ∀ x ∈ p0, x.block < W.heap.size := by obtain ⟨m, hm⟩ := k0; exact DataW.trod_lt m _ _ _ hm
  have k1 := h1
  have lt1 : ∀ x ∈ p1, x.block < W.heap.size := by obtain ⟨m, hm⟩ := k1; exact DataW.trod_lt m _ _ _ hm
  obtain ⟨x0, hv0⟩ := open_Cover (hval 0 23 v0 rfl rfl) h0
  subst hv0
  obtain ⟨x1, hv1⟩ := open_Cover (hval 1 23 v1 rfl rfl) h1
  subst hv1
  clear hA0 hval0
  refine (walk_FnExactChangeOf x0 x1).mono fun e W' ⟨he, bel⟩ => ?_
  subst he
  exact ⟨_, rfl, _, _, _, [], _, [], hW', trodAll_mk1 (shut_bool Try.underlying4 _), (trodAll_cons_mk (Below.trod laidOut (by kernel_rfl) (of_decide_eq_true (by kernel_rfl)) k0 bel lt0) (trodAll_cons_mk (Below.trod laidOut (by kernel_rfl) (of_decide_eq_true (by kernel_rfl)) k1 bel lt1) trodAll_mk0)), rfl, bel.frame _, fun h => by cases h⟩
theorem over_FnExactChangeOf : Rows.fnExactChangeOfRow.holds Try.pinned (OpenSpec.ofChange Rows.fnExactChangeOfSpec) :=
  OpenClaim.holds_of_wide 3 Try.f3 rfl rfl rfl rfl rfl rfl rfl ⟨rfl, rfl, rfl, rfl, rfl⟩ rfl rfl rfl rfl rfl (by kernel_rfl) Try.func3 (by kernel_rfl)
    (of_decide_eq_true (by kernel_rfl)) (by unfold Func.isWrapper; first | (rw [if_pos (by decide +kernel)]; kernel_rfl) | (rw [if_neg (by decide +kernel)]; exact ⟨rfl, rfl⟩))
    (fun os started H enc _ => lifted_FnExactChangeOf os started H enc)
theorem proved_ChangeOf : Rows.FnExactChangeOfSaid := over_FnExactChangeOf

end Go.Proofs.Ytpchlgpedcdpgaa
