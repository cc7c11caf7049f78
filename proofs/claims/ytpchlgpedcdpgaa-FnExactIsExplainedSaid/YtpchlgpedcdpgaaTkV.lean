/- The laws' helpers: covers by value. -/
import Derived.Test.YtpchlgpedcdpgaaCoQ
set_option maxRecDepth 8000
set_option linter.unusedSimpArgs false
set_option linter.unusedVariables false
namespace Go.Proofs.Ytpchlgpedcdpgaa
open Go Go.RowKit

def q_toCover : Con := fun args H K => match args with
  | [.agg p_e] => onv (eCv.dec p_e) fun p => K (.agg (eCv.cells p)) H
  | _ => False
@[simp ↓] theorem q_toCover_eq (p_e : List AC) (H : AHeap) (K : AV → AHeap → Prop) : q_toCover [.agg p_e] H K = (onv (eCv.dec p_e) fun p => K (.agg (eCv.cells p)) H) := rfl

theorem laws_toCover_s : Sound Try.prog 17 q_toCover := by
  intro args H K h
  unfold q_toCover at h
  split at h
  rotate_left
  all_goals first | exact False.elim h | skip
  rename_i p_e
  have h1 := onv_iff.1 h
  clear h
  obtain ⟨p, hd_p, h⟩ := h1
  obtain rfl := eCv.cd _ _ hd_p
  clear hd_p
  have hE := soundE_nil (P := Try.prog)
  refine acalls_fn laws_toCover_k hE ⟨by simp, fun hwf => ?_⟩
  simp (config := {contextual := true, implicitDefEqProofs := false, maxSteps := 60000}) [-Int.not_le, -Int.not_lt, argsF, laws_toCover_c]
  (refine Out.plain hwf ?_ rfl ?_; (repeat first | exact Sub.refl _ | refine Sub.push hwf ?_ _ | refine Sub.set hwf ?_ (by first | exact Nat.le_refl _ | omega) _ | refine Sub.kill hwf ?_ (by first | exact Nat.le_refl _ | omega))); simpa using h

end Go.Proofs.Ytpchlgpedcdpgaa
