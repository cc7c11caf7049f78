/- The laws' helpers: four numbers. -/
import Derived.Test.YtljbcniphdifeaaCoG
import Derived.Test.YtljbcniphdifeaaTkV
set_option maxRecDepth 8000
set_option linter.unusedSimpArgs false
set_option linter.unusedVariables false
namespace Go.Proofs.Ytljbcniphdifeaa
open Go Go.RowKit

set_option maxHeartbeats 4000000

def q_toA4 : Con := fun args H K => match args with
  | [.agg c_e] => onv (eC4.dec c_e) fun c => K (.agg (eC4.cells c)) H
  | _ => False
@[simp ↓] theorem q_toA4_eq (c_e : List AC) (H : AHeap) (K : AV → AHeap → Prop) : q_toA4 [.agg c_e] H K = (onv (eC4.dec c_e) fun c => K (.agg (eC4.cells c)) H) := rfl

theorem laws_toIntA4_s : Sound Try.prog 24 q_toA4 := by
  intro args H K h
  unfold q_toA4 at h
  split at h
  rotate_left
  all_goals first | exact False.elim h | skip
  rename_i c_e
  have h1 := onv_iff.1 h
  clear h
  obtain ⟨c, hd_c, h⟩ := h1
  obtain rfl := eC4.cd _ _ hd_c
  clear hd_c
  have hE := soundE_nil (P := Try.prog)
  refine acalls_fn laws_toIntA4_k hE ⟨by simp, fun hwf => ?_⟩
  have hwfj : ∀ j : Nat, ((((H.push (rowK eI 44 (c4L c))).push (rowK eI 44 [0, 0, 0, 0])).push (rowK eI 44 (upd (c4L c) [0, 0, 0, 0] j)))).WF := fun j => WF.push (WF.push (WF.push hwf (plain_map (fun _ => rfl) _) (by simp [c4L])) (plain_map (fun _ => rfl) _) (by simp)) (plain_map (fun _ => rfl) _) (by simp [c4L, upd]; omega)
  simp (config := {contextual := true, implicitDefEqProofs := false, maxSteps := 2000000}) [-Int.not_le, -Int.not_lt, argsF, laws_toIntA4_c]
  refine aloop_list (c4L c) (fun j _ => [(1, .c (.ptr H.n 0 0)), (2, .c (.ptr (H.n + 1) 0 0)), (3, .c (.ptr (H.n + 1 + 1) 0 0)), (4, .c (.int .i64 ((j : Int))))]) (fun j _ => (((H.push (rowK eI 44 (c4L c))).push (rowK eI 44 [0, 0, 0, 0])).push (rowK eI 44 (upd (c4L c) [0, 0, 0, 0] j)))) (fun j l _ => True) hE _ () trivial (.since (by simp only [push_n]; omega) (hwfj 0) (.refl _) (by simp [frOk, AV.okR, AV.ok1, AC.okR, AV.ren, AV.ren1, AC.ren, AFrame.get, pl1_old, *]; first | done | rfl | omega)) (fun j _ hlt _ => ?_) fun _ _ => ?_
  · have hj4 : j < 4 := hlt
    have hjj : j = 0 ∨ j = 1 ∨ j = 2 ∨ j = 3 := by omega
    rcases hjj with rfl | rfl | rfl | rfl
    · have wk : IntKind.i64.wrap 1 = 1 := by decide
      simp (config := {contextual := true, implicitDefEqProofs := false, maxSteps := 2000000}) [-Int.not_le, -Int.not_lt, argsF, laws_toIntA4_l0, wk, rowK, c4L, upd, push_setE]
      exact ⟨(), trivial, .since (by simp only [push_n]; omega) (hwfj 1) (.refl _) (by simp [frOk, AV.okR, AV.ok1, AC.okR, AV.ren, AV.ren1, AC.ren, AFrame.get, pl1_old, *]; first | done | rfl | omega)⟩
    · have wk : IntKind.i64.wrap 2 = 2 := by decide
      simp (config := {contextual := true, implicitDefEqProofs := false, maxSteps := 2000000}) [-Int.not_le, -Int.not_lt, argsF, laws_toIntA4_l0, wk, rowK, c4L, upd, push_setE]
      exact ⟨(), trivial, .since (by simp only [push_n]; omega) (hwfj 2) (.refl _) (by simp [frOk, AV.okR, AV.ok1, AC.okR, AV.ren, AV.ren1, AC.ren, AFrame.get, pl1_old, *]; first | done | rfl | omega)⟩
    · have wk : IntKind.i64.wrap 3 = 3 := by decide
      simp (config := {contextual := true, implicitDefEqProofs := false, maxSteps := 2000000}) [-Int.not_le, -Int.not_lt, argsF, laws_toIntA4_l0, wk, rowK, c4L, upd, push_setE]
      exact ⟨(), trivial, .since (by simp only [push_n]; omega) (hwfj 3) (.refl _) (by simp [frOk, AV.okR, AV.ok1, AC.okR, AV.ren, AV.ren1, AC.ren, AFrame.get, pl1_old, *]; first | done | rfl | omega)⟩
    · have wk : IntKind.i64.wrap 4 = 4 := by decide
      simp (config := {contextual := true, implicitDefEqProofs := false, maxSteps := 2000000}) [-Int.not_le, -Int.not_lt, argsF, laws_toIntA4_l0, wk, rowK, c4L, upd, push_setE]
      exact ⟨(), trivial, .since (by simp only [push_n]; omega) (hwfj 4) (.refl _) (by simp [frOk, AV.okR, AV.ok1, AC.okR, AV.ren, AV.ren1, AC.ren, AFrame.get, pl1_old, *]; first | done | rfl | omega)⟩
  · have h44 : (c4L c).length = 4 := rfl
    simp (config := {contextual := true, implicitDefEqProofs := false, maxSteps := 2000000}) [-Int.not_le, -Int.not_lt, argsF, laws_toIntA4_l0, h44, rowK, c4L, upd]
    (refine Out.plain hwf ?_ rfl ?_; (repeat first | exact Sub.refl _ | refine Sub.push hwf ?_ _ | refine Sub.set hwf ?_ (by first | exact Nat.le_refl _ | omega | (simp only [push_n, set_n, kill_n]; omega)) _ | refine Sub.kill hwf ?_ (by first | exact Nat.le_refl _ | omega | (simp only [push_n, set_n, kill_n]; omega)))); simpa using h

end Go.Proofs.Ytljbcniphdifeaa
