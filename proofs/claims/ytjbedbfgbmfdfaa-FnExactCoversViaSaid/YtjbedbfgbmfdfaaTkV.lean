/- The laws' helpers: covers by value. -/
import Derived.Test.YtjbedbfgbmfdfaaCoQ
set_option maxRecDepth 8000
set_option linter.unusedSimpArgs false
set_option linter.unusedVariables false
namespace Go.Proofs.Ytjbedbfgbmfdfaa
open Go Go.RowKit

set_option maxHeartbeats 4000000

theorem eqCv (p r : Cv) : decide (p = r) = (decide (p.id = r.id) && (decide (p.day = r.day) && (decide (p.zone = r.zone) && (decide (p.grams = r.grams) && (decide (p.paid = r.paid) && (decide (p.frm = r.frm) && (decide (p.to = r.to) && (decide (p.leave = r.leave) && decide (p.arrive = r.arrive))))))))) := by
  cases p; cases r
  simp only [Cv.mk.injEq, Bool.decide_and]

def q_toCover : Con := fun args H K => match args with
  | [.agg p_e] => onv (eCv.dec p_e) fun p => K (.agg (eCv.cells p)) H
  | _ => False
@[simp ↓] theorem q_toCover_eq (p_e : List AC) (H : AHeap) (K : AV → AHeap → Prop) : q_toCover [.agg p_e] H K = (onv (eCv.dec p_e) fun p => K (.agg (eCv.cells p)) H) := rfl

theorem laws_toCover_s : Sound Try.prog 72 q_toCover := by
  intro args H K h
  unfold q_toCover at h
  split at h
  rotate_left
  all_goals first | exact False.elim h | skip
  rename_i p_e
  have h1 := onv_iff.1 h
  clear h
  obtain ⟨p, hd_p, h⟩ := h1
  obtain rfl := eCv.cd _ _ hd_p
  clear hd_p
  have hE := soundE_nil (P := Try.prog)
  refine acalls_fn laws_toCover_k hE ⟨by simp, fun hwf => ?_⟩
  simp (config := {contextual := true, implicitDefEqProofs := false, maxSteps := 60000}) [-Int.not_le, -Int.not_lt, argsF, laws_toCover_c]
  (refine Out.plain hwf ?_ rfl ?_; (repeat first | exact Sub.refl _ | refine Sub.push hwf ?_ _ | refine Sub.set hwf ?_ (by first | exact Nat.le_refl _ | omega | (simp only [push_n, set_n, kill_n]; omega)) _ | refine Sub.kill hwf ?_ (by first | exact Nat.le_refl _ | omega | (simp only [push_n, set_n, kill_n]; omega)))); simpa using h

def q_eqCover : Con := fun args H K => match args with
  | [.agg p_e, .agg r_e] => onv (eCv.dec p_e) fun p => onv (eCv.dec r_e) fun r => K (.c (.bool (decide (p = r)))) H
  | _ => False
@[simp ↓] theorem q_eqCover_eq (p_e : List AC) (r_e : List AC) (H : AHeap) (K : AV → AHeap → Prop) : q_eqCover [.agg p_e, .agg r_e] H K = (onv (eCv.dec p_e) fun p => onv (eCv.dec r_e) fun r => K (.c (.bool (decide (p = r)))) H) := rfl

theorem laws_eqCover_s : Sound Try.prog 80 q_eqCover := by
  intro args H K h
  unfold q_eqCover at h
  split at h
  rotate_left
  all_goals first | exact False.elim h | skip
  rename_i p_e r_e
  have h1 := onv_iff.1 h
  clear h
  obtain ⟨p, hd_p, h⟩ := h1
  obtain rfl := eCv.cd _ _ hd_p
  clear hd_p
  have h1 := onv_iff.1 h
  clear h
  obtain ⟨r, hd_r, h⟩ := h1
  obtain rfl := eCv.cd _ _ hd_r
  clear hd_r
  have hE := soundE_nil (P := Try.prog)
  refine acalls_fn laws_eqCover_k hE ⟨by simp, fun hwf => ?_⟩
  simp (config := {contextual := true, implicitDefEqProofs := false, maxSteps := 2000000}) [-Int.not_le, -Int.not_lt, argsF, laws_eqCover_c]
  rw [eqCv] at h
  repeat' (refine ite_i (fun _ => ?_) (fun _ => ?_))
  all_goals (refine Out.plain hwf ?_ rfl ?_; (repeat first | exact Sub.refl _ | refine Sub.push hwf ?_ _ | refine Sub.set hwf ?_ (by first | exact Nat.le_refl _ | omega | (simp only [push_n, set_n, kill_n]; omega)) _ | refine Sub.kill hwf ?_ (by first | exact Nat.le_refl _ | omega | (simp only [push_n, set_n, kill_n]; omega))))
  all_goals (simp_all; done)

end Go.Proofs.Ytjbedbfgbmfdfaa
