/- All changes that make a cover. -/
import Derived.Test.YtjiffkjeijfilaaCoW
set_option maxRecDepth 8000
set_option linter.unusedSimpArgs false
set_option linter.unusedVariables false
namespace Go.Proofs.Ytjiffkjeijfilaa
open Go Go.RowKit

set_option maxHeartbeats 4000000
def hasM (ps : List Ra) (x : Cv) (ch : Int) : Bool := (mkM ps x ch).isSome
def allM (ps : List Ra) (x : Cv) : List Int := accM (hasM ps x) (fun ch => ch) (rangeI 0 16) []
theorem allM_eq (ps : List Ra) (x : Cv) : allM ps x = (rangeI 0 16).filter (hasM ps x) := by rw [allM, accM_eq]; simp
theorem allM_b {ps : List Ra} {x : Cv} : ∀ ch ∈ allM ps x, 0 ≤ ch ∧ ch ≤ 15 := fun ch h => by
  rw [allM_eq] at h
  have := mem_rangeI.1 (List.mem_filter.1 h).1
  omega
theorem allM_len (ps : List Ra) (x : Cv) : (allM ps x).length ≤ 16 := by
  have := accM_len (hasM ps x) (fun ch => ch) (rangeI 0 16)
  rwa [rangeI_len] at this
theorem accM_len2 {α β : Type} (p : α → Bool) (f : α → β) (l : List α) (o : List β) : o.length ≤ (accM p f l o).length ∧ (accM p f l o).length ≤ o.length + l.length := by
  rw [accM_eq]; have := List.length_filter_le p l; simp; omega
theorem pairM_snd (o : Option Cv) : (pairM o).2 = o.isSome := by cases o <;> rfl

def q_all : Con := fun args H K => match args with
  | [ps_v, .agg x_e] => eRa.rd H (fun ps => onv (eCv.dec x_e) fun x => areRa ps = true ∧ K (.c (.sl (H.n) (0) ((allM ps x).length))) (H.push (rowK eI 3 (allM ps x)))) ps_v
  | _ => False
@[simp ↓] theorem q_all_eq (ps_v : AV) (x_e : List AC) (H : AHeap) (K : AV → AHeap → Prop) : q_all [ps_v, .agg x_e] H K = (eRa.rd H (fun ps => onv (eCv.dec x_e) fun x => areRa ps = true ∧ K (.c (.sl (H.n) (0) ((allM ps x).length))) (H.push (rowK eI 3 (allM ps x)))) ps_v) := rfl

theorem impl_possibleChanges_s : Sound Try.prog 93 q_all := by
  intro args H K h
  unfold q_all at h
  split at h
  rotate_left
  all_goals first | exact False.elim h | skip
  rename_i ps_v x_e
  have h1 := Enc.rd_at h
  clear h
  obtain ⟨b_ps, i_ps, k_ps, ps, rfl, hat_ps, h⟩ := h1
  have h1 := onv_iff.1 h
  clear h
  obtain ⟨x, hd_x, h⟩ := h1
  obtain rfl := eCv.cd _ _ hd_x
  clear hd_x
  have hE := soundE_cons impl_makeCover_s (soundE_nil (P := Try.prog))
  refine acalls_fn impl_possibleChanges_k hE ⟨by simp, fun hwf => ?_⟩
  have hb_ps : b_ps < H.n := (hwf b_ps k_ps hat_ps.blk).1
  have hne_ps : (b_ps = H.n) = False := eq_false (by omega)
  have hne1_ps : ∀ i, (b_ps = H.n + i) = False := fun i => eq_false (by omega)
  have hne2_ps : (b_ps = H.n + 1 + 1) = False ∧ (b_ps = H.n + 1 + 1 + 1) = False ∧ (b_ps = H.n + 1 + 1 + 1 + 1) = False ∧ (b_ps = H.n + 1 + 1 + 1 + 1 + 1) = False ∧ (b_ps = H.n + 1 + 1 + 1 + 1 + 1 + 1) = False ∧ (b_ps = H.n + 1 + 1 + 1 + 1 + 1 + 1 + 1) = False ∧ (b_ps = H.n + 1 + 1 + 1 + 1 + 1 + 1 + 1 + 1) = False ∧ (b_ps = H.n + 1 + 1 + 1 + 1 + 1 + 1 + 1 + 1 + 1) = False ∧ (b_ps = H.n + 1 + 1 + 1 + 1 + 1 + 1 + 1 + 1 + 1 + 1) = False ∧ (b_ps = H.n + 1 + 1 + 1 + 1 + 1 + 1 + 1 + 1 + 1 + 1 + 1) = False ∧ (b_ps = H.n + 1 + 1 + 1 + 1 + 1 + 1 + 1 + 1 + 1 + 1 + 1 + 1) = False := ⟨eq_false (by omega), eq_false (by omega), eq_false (by omega), eq_false (by omega), eq_false (by omega), eq_false (by omega), eq_false (by omega), eq_false (by omega), eq_false (by omega), eq_false (by omega), eq_false (by omega)⟩
  have hmx_ps : ps.length ≤ 9223372036854775807 := by have h1 := (hwf b_ps k_ps hat_ps.blk).2.2; have h2 := hat_ps.len; omega
  obtain ⟨hv, h⟩ := h
  have hwfB : (H.push (boxC x)).WF := boxC_wf hwf x
  have bf_p0 : b_ps < H.n + 1 + 1 := by omega
  have bf_q0 : ∀ c, pl1 ((H.push (boxC x))) c (b_ps) = some (b_ps) := fun c => pl1_old _ c (by simp only [push_n, set_n, kill_n]; omega)
  have bf_p1 : H.n < H.n + 1 + 1 := by omega
  have bf_q1 : ∀ c, pl1 ((H.push (boxC x))) c (H.n) = some (H.n) := fun c => pl1_old _ c (by simp only [push_n, set_n, kill_n]; omega)
  have bf_z : ∀ c, pl1 ((H.push (boxC x))) c (H.n + 1) = c := fun c => pl1_new ((H.push (boxC x))) c
  have bf_y : H.n + 1 < H.n + 1 + 1 := by omega
  simp (config := {contextual := true, implicitDefEqProofs := false, maxSteps := 2000000}) [-Int.not_le, -Int.not_lt, argsF, impl_possibleChanges_c, hat_ps.blk, hat_ps.esz, hat_ps.len, hat_ps.els, hne_ps, hne1_ps, hne2_ps.1, hne2_ps.2.1, hne2_ps.2.2.1, hne2_ps.2.2.2.1, hne2_ps.2.2.2.2.1, hne2_ps.2.2.2.2.2.1, hne2_ps.2.2.2.2.2.2.1, hne2_ps.2.2.2.2.2.2.2.1, hne2_ps.2.2.2.2.2.2.2.2.1, hne2_ps.2.2.2.2.2.2.2.2.2.1, hne2_ps.2.2.2.2.2.2.2.2.2.2]
  refine aloop_list (rangeI 0 16) (fun j (out : List Int) => [(0, .c (.sl b_ps i_ps ps.length)), (3, .c (.ptr H.n 0 0)), (5, .c (.sl (H.n + 1) (0) (out.length))), (9, .c (.int .i64 ((j : Int))))]) (fun j (out : List Int) => (H.push (boxC x)).push (rowK eI 3 out)) (fun j l out => accM (hasM ps x) (fun ch => ch) l out = allM ps x) hE _ [] rfl (.le (by simp only [push_n]; omega) (.one (H := H.push (boxC x)) (c := none) hwfB (.refl _) ⟨rfl, rfl⟩ (plain_map (fun _ => rfl) _) (by simp [frOk, AV.okR, AV.ok1, AC.okR, AV.ren, AV.ren1, AC.ren, AFrame.get, pl1_old, *]; first | done | rfl | omega))) (fun j out hlt hi => ?_) fun out hi => ?_
  · have hj : j < 16 := by simpa using hlt
    have hol : out.length ≤ (allM ps x).length := by rw [← hi]; exact (accM_len2 _ _ _ _).1
    have hal := allM_len ps x
    have hj1 : (j : Int) < 16 := by omega
    have hj2 : (j : Int) ≤ 15 := by omega
    have w1 : IntKind.i64.wrap ((j : Int) + 1) = (j : Int) + 1 := wrap_id (by omega) (by omega)
    have hs1 : (out.length + 1) * 8 ≤ 140737488355328 := by omega
    have hs2 : out.length + 1 ≤ 140737488355328 := by omega
    have hs3 : out.length ≤ 140737488355327 := by omega
    simp only [rangeI_get, Int.zero_add, accM] at hi
    have hps := pairM_snd (mkM ps x (j : Int))
    generalize hpm : pairM (mkM ps x (j : Int)) = pm at hps
    by_cases hh : hasM ps x (j : Int) = true
    · have hp2 : pm.2 = true := hps.trans hh
      rw [if_pos hh] at hi
      simp (config := {contextual := true, implicitDefEqProofs := false, maxSteps := 2000000}) [-Int.not_le, -Int.not_lt, argsF, impl_possibleChanges_l0, hat_ps.blk, hat_ps.esz, hat_ps.len, hat_ps.els, hne_ps, hne1_ps, hne2_ps.1, hne2_ps.2.1, hne2_ps.2.2.1, hne2_ps.2.2.2.1, hne2_ps.2.2.2.2.1, hne2_ps.2.2.2.2.2.1, hne2_ps.2.2.2.2.2.2.1, hne2_ps.2.2.2.2.2.2.2.1, hne2_ps.2.2.2.2.2.2.2.2.1, hne2_ps.2.2.2.2.2.2.2.2.2.1, hne2_ps.2.2.2.2.2.2.2.2.2.2, hv, hj1, hj2, w1, hpm, hp2, boxC, hs1, hs2, hs3]
      have hwf := hwfB
      exact ⟨out ++ [(j : Int)], hi, .le (by simp only [push_n]; omega) (.one (H := H.push (boxC x)) (c := some (H.n + 1 + 1 + 1 + 1)) hwf (by (repeat first | exact Sub.refl _ | refine Sub.push hwf ?_ _ | refine Sub.set hwf ?_ (by first | exact Nat.le_refl _ | omega | (simp only [push_n, set_n, kill_n]; omega)) _ | refine Sub.kill hwf ?_ (by first | exact Nat.le_refl _ | omega | (simp only [push_n, set_n, kill_n]; omega)))) ⟨by simp only [push_n]; omega, by simp [push_b, set_b, kill_b, rowK]; done⟩ (plain_map (fun _ => rfl) _) (by simp [frOk, AV.okR, AV.ok1, AC.okR, AV.ren, AV.ren1, AC.ren, AFrame.get, pl1_old, *]; first | done | rfl | omega))⟩
    · have hh' : hasM ps x (j : Int) = false := by simpa using hh
      have hp2 : pm.2 = false := hps.trans hh'
      rw [if_neg hh] at hi
      simp (config := {contextual := true, implicitDefEqProofs := false, maxSteps := 2000000}) [-Int.not_le, -Int.not_lt, argsF, impl_possibleChanges_l0, hat_ps.blk, hat_ps.esz, hat_ps.len, hat_ps.els, hne_ps, hne1_ps, hne2_ps.1, hne2_ps.2.1, hne2_ps.2.2.1, hne2_ps.2.2.2.1, hne2_ps.2.2.2.2.1, hne2_ps.2.2.2.2.2.1, hne2_ps.2.2.2.2.2.2.1, hne2_ps.2.2.2.2.2.2.2.1, hne2_ps.2.2.2.2.2.2.2.2.1, hne2_ps.2.2.2.2.2.2.2.2.2.1, hne2_ps.2.2.2.2.2.2.2.2.2.2, hv, hj1, hj2, w1, hpm, hp2, boxC]
      have hwf := hwfB
      exact ⟨out, hi, .le (by simp only [push_n]; omega) (.one (H := H.push (boxC x)) (c := some (H.n + 1)) hwf (by (repeat first | exact Sub.refl _ | refine Sub.push hwf ?_ _ | refine Sub.set hwf ?_ (by first | exact Nat.le_refl _ | omega | (simp only [push_n, set_n, kill_n]; omega)) _ | refine Sub.kill hwf ?_ (by first | exact Nat.le_refl _ | omega | (simp only [push_n, set_n, kill_n]; omega)))) ⟨by simp only [push_n]; omega, by simp [push_b, set_b, kill_b, rowK]; done⟩ (plain_map (fun _ => rfl) _) (by simp [frOk, AV.okR, AV.ok1, AC.okR, AV.ren, AV.ren1, AC.ren, AFrame.get, pl1_old, *]; first | done | rfl | omega))⟩
  · simp only [accM] at hi
    simp (config := {contextual := true, implicitDefEqProofs := false, maxSteps := 2000000}) [-Int.not_le, -Int.not_lt, argsF, impl_possibleChanges_l0, hat_ps.blk, hat_ps.esz, hat_ps.len, hat_ps.els, hne_ps, hne1_ps, hne2_ps.1, hne2_ps.2.1, hne2_ps.2.2.1, hne2_ps.2.2.2.1, hne2_ps.2.2.2.2.1, hne2_ps.2.2.2.2.2.1, hne2_ps.2.2.2.2.2.2.1, hne2_ps.2.2.2.2.2.2.2.1, hne2_ps.2.2.2.2.2.2.2.2.1, hne2_ps.2.2.2.2.2.2.2.2.2.1, hne2_ps.2.2.2.2.2.2.2.2.2.2, rangeI_len]
    rw [hi]
    exact (.one (c := some (H.n + 1)) hwf (by (repeat first | exact Sub.refl _ | refine Sub.push hwf ?_ _ | refine Sub.set hwf ?_ (by first | exact Nat.le_refl _ | omega | (simp only [push_n, set_n, kill_n]; omega)) _ | refine Sub.kill hwf ?_ (by first | exact Nat.le_refl _ | omega | (simp only [push_n, set_n, kill_n]; omega)))) ⟨by omega, by simp [push_b, set_b, kill_b, rowK]; done⟩ (plain_map (fun _ => rfl) _) (by simp [frOk, AV.okR, AV.ok1, AC.okR, AV.ren, AV.ren1, AC.ren, AFrame.get, pl1_old, *]; first | done | rfl | omega) h)

theorem spec_l12All_s : Sound Try.prog 99 q_all := by
  intro args H K h
  unfold q_all at h
  split at h
  rotate_left
  all_goals first | exact False.elim h | skip
  rename_i ps_v x_e
  have h1 := Enc.rd_at h
  clear h
  obtain ⟨b_ps, i_ps, k_ps, ps, rfl, hat_ps, h⟩ := h1
  have h1 := onv_iff.1 h
  clear h
  obtain ⟨x, hd_x, h⟩ := h1
  obtain rfl := eCv.cd _ _ hd_x
  clear hd_x
  have hE := soundE_cons spec_l12Make_s (soundE_nil (P := Try.prog))
  refine acalls_fn spec_l12All_k hE ⟨by simp, fun hwf => ?_⟩
  have hb_ps : b_ps < H.n := (hwf b_ps k_ps hat_ps.blk).1
  have hne_ps : (b_ps = H.n) = False := eq_false (by omega)
  have hne1_ps : ∀ i, (b_ps = H.n + i) = False := fun i => eq_false (by omega)
  have hne2_ps : (b_ps = H.n + 1 + 1) = False ∧ (b_ps = H.n + 1 + 1 + 1) = False ∧ (b_ps = H.n + 1 + 1 + 1 + 1) = False ∧ (b_ps = H.n + 1 + 1 + 1 + 1 + 1) = False ∧ (b_ps = H.n + 1 + 1 + 1 + 1 + 1 + 1) = False ∧ (b_ps = H.n + 1 + 1 + 1 + 1 + 1 + 1 + 1) = False ∧ (b_ps = H.n + 1 + 1 + 1 + 1 + 1 + 1 + 1 + 1) = False ∧ (b_ps = H.n + 1 + 1 + 1 + 1 + 1 + 1 + 1 + 1 + 1) = False ∧ (b_ps = H.n + 1 + 1 + 1 + 1 + 1 + 1 + 1 + 1 + 1 + 1) = False ∧ (b_ps = H.n + 1 + 1 + 1 + 1 + 1 + 1 + 1 + 1 + 1 + 1 + 1) = False ∧ (b_ps = H.n + 1 + 1 + 1 + 1 + 1 + 1 + 1 + 1 + 1 + 1 + 1 + 1) = False := ⟨eq_false (by omega), eq_false (by omega), eq_false (by omega), eq_false (by omega), eq_false (by omega), eq_false (by omega), eq_false (by omega), eq_false (by omega), eq_false (by omega), eq_false (by omega), eq_false (by omega)⟩
  have hmx_ps : ps.length ≤ 9223372036854775807 := by have h1 := (hwf b_ps k_ps hat_ps.blk).2.2; have h2 := hat_ps.len; omega
  obtain ⟨hv, h⟩ := h
  have hwfB : (H.push (boxC x)).WF := boxC_wf hwf x
  have bf_p0 : b_ps < H.n + 1 + 1 := by omega
  have bf_q0 : ∀ c, pl1 ((H.push (boxC x))) c (b_ps) = some (b_ps) := fun c => pl1_old _ c (by simp only [push_n, set_n, kill_n]; omega)
  have bf_p1 : H.n < H.n + 1 + 1 := by omega
  have bf_q1 : ∀ c, pl1 ((H.push (boxC x))) c (H.n) = some (H.n) := fun c => pl1_old _ c (by simp only [push_n, set_n, kill_n]; omega)
  have bf_z : ∀ c, pl1 ((H.push (boxC x))) c (H.n + 1) = c := fun c => pl1_new ((H.push (boxC x))) c
  have bf_y : H.n + 1 < H.n + 1 + 1 := by omega
  simp (config := {contextual := true, implicitDefEqProofs := false, maxSteps := 2000000}) [-Int.not_le, -Int.not_lt, argsF, spec_l12All_c, hat_ps.blk, hat_ps.esz, hat_ps.len, hat_ps.els, hne_ps, hne1_ps, hne2_ps.1, hne2_ps.2.1, hne2_ps.2.2.1, hne2_ps.2.2.2.1, hne2_ps.2.2.2.2.1, hne2_ps.2.2.2.2.2.1, hne2_ps.2.2.2.2.2.2.1, hne2_ps.2.2.2.2.2.2.2.1, hne2_ps.2.2.2.2.2.2.2.2.1, hne2_ps.2.2.2.2.2.2.2.2.2.1, hne2_ps.2.2.2.2.2.2.2.2.2.2]
  refine aloop_list (rangeI 0 16) (fun j (out : List Int) => [(0, .c (.sl b_ps i_ps ps.length)), (3, .c (.ptr H.n 0 0)), (5, .c (.sl (H.n + 1) (0) (out.length))), (6, .c (.int .i64 ((j : Int))))]) (fun j (out : List Int) => (H.push (boxC x)).push (rowK eI 3 out)) (fun j l out => accM (hasM ps x) (fun ch => ch) l out = allM ps x) hE _ [] rfl (.le (by simp only [push_n]; omega) (.one (H := H.push (boxC x)) (c := some (H.n + 1)) hwfB (by have hwf := hwfB; (repeat first | exact Sub.refl _ | refine Sub.push hwf ?_ _ | refine Sub.set hwf ?_ (by first | exact Nat.le_refl _ | omega | (simp only [push_n, set_n, kill_n]; omega)) _ | refine Sub.kill hwf ?_ (by first | exact Nat.le_refl _ | omega | (simp only [push_n, set_n, kill_n]; omega)))) ⟨by simp only [push_n]; omega, by simp [push_b, rowK]; done⟩ (plain_map (fun _ => rfl) _) (by simp [frOk, AV.okR, AV.ok1, AC.okR, AV.ren, AV.ren1, AC.ren, AFrame.get, pl1_old, *]; first | done | rfl | omega))) (fun j out hlt hi => ?_) fun out hi => ?_
  · have hj : j < 16 := by simpa using hlt
    have hol : out.length ≤ (allM ps x).length := by rw [← hi]; exact (accM_len2 _ _ _ _).1
    have hal := allM_len ps x
    have hj1 : (j : Int) < 16 := by omega
    have hj2 : (j : Int) ≤ 15 := by omega
    have w1 : IntKind.i64.wrap ((j : Int) + 1) = (j : Int) + 1 := wrap_id (by omega) (by omega)
    have hs1 : (out.length + 1) * 8 ≤ 140737488355328 := by omega
    have hs2 : out.length + 1 ≤ 140737488355328 := by omega
    have hs3 : out.length ≤ 140737488355327 := by omega
    simp only [rangeI_get, Int.zero_add, accM] at hi
    have hps := pairM_snd (mkM ps x (j : Int))
    generalize hpm : pairM (mkM ps x (j : Int)) = pm at hps
    by_cases hh : hasM ps x (j : Int) = true
    · have hp2 : pm.2 = true := hps.trans hh
      rw [if_pos hh] at hi
      simp (config := {contextual := true, implicitDefEqProofs := false, maxSteps := 2000000}) [-Int.not_le, -Int.not_lt, argsF, spec_l12All_l0, hat_ps.blk, hat_ps.esz, hat_ps.len, hat_ps.els, hne_ps, hne1_ps, hne2_ps.1, hne2_ps.2.1, hne2_ps.2.2.1, hne2_ps.2.2.2.1, hne2_ps.2.2.2.2.1, hne2_ps.2.2.2.2.2.1, hne2_ps.2.2.2.2.2.2.1, hne2_ps.2.2.2.2.2.2.2.1, hne2_ps.2.2.2.2.2.2.2.2.1, hne2_ps.2.2.2.2.2.2.2.2.2.1, hne2_ps.2.2.2.2.2.2.2.2.2.2, hv, hj1, hj2, w1, hpm, hp2, boxC, hs1, hs2, hs3]
      have hwf := hwfB
      exact ⟨out ++ [(j : Int)], hi, .le (by simp only [push_n]; omega) (.one (H := H.push (boxC x)) (c := some (H.n + 1 + 1 + 1 + 1)) hwf (by (repeat first | exact Sub.refl _ | refine Sub.push hwf ?_ _ | refine Sub.set hwf ?_ (by first | exact Nat.le_refl _ | omega | (simp only [push_n, set_n, kill_n]; omega)) _ | refine Sub.kill hwf ?_ (by first | exact Nat.le_refl _ | omega | (simp only [push_n, set_n, kill_n]; omega)))) ⟨by simp only [push_n]; omega, by simp [push_b, set_b, kill_b, rowK]; done⟩ (plain_map (fun _ => rfl) _) (by simp [frOk, AV.okR, AV.ok1, AC.okR, AV.ren, AV.ren1, AC.ren, AFrame.get, pl1_old, *]; first | done | rfl | omega))⟩
    · have hh' : hasM ps x (j : Int) = false := by simpa using hh
      have hp2 : pm.2 = false := hps.trans hh'
      rw [if_neg hh] at hi
      simp (config := {contextual := true, implicitDefEqProofs := false, maxSteps := 2000000}) [-Int.not_le, -Int.not_lt, argsF, spec_l12All_l0, hat_ps.blk, hat_ps.esz, hat_ps.len, hat_ps.els, hne_ps, hne1_ps, hne2_ps.1, hne2_ps.2.1, hne2_ps.2.2.1, hne2_ps.2.2.2.1, hne2_ps.2.2.2.2.1, hne2_ps.2.2.2.2.2.1, hne2_ps.2.2.2.2.2.2.1, hne2_ps.2.2.2.2.2.2.2.1, hne2_ps.2.2.2.2.2.2.2.2.1, hne2_ps.2.2.2.2.2.2.2.2.2.1, hne2_ps.2.2.2.2.2.2.2.2.2.2, hv, hj1, hj2, w1, hpm, hp2, boxC]
      have hwf := hwfB
      exact ⟨out, hi, .le (by simp only [push_n]; omega) (.one (H := H.push (boxC x)) (c := some (H.n + 1)) hwf (by (repeat first | exact Sub.refl _ | refine Sub.push hwf ?_ _ | refine Sub.set hwf ?_ (by first | exact Nat.le_refl _ | omega | (simp only [push_n, set_n, kill_n]; omega)) _ | refine Sub.kill hwf ?_ (by first | exact Nat.le_refl _ | omega | (simp only [push_n, set_n, kill_n]; omega)))) ⟨by simp only [push_n]; omega, by simp [push_b, set_b, kill_b, rowK]; done⟩ (plain_map (fun _ => rfl) _) (by simp [frOk, AV.okR, AV.ok1, AC.okR, AV.ren, AV.ren1, AC.ren, AFrame.get, pl1_old, *]; first | done | rfl | omega))⟩
  · simp only [accM] at hi
    simp (config := {contextual := true, implicitDefEqProofs := false, maxSteps := 2000000}) [-Int.not_le, -Int.not_lt, argsF, spec_l12All_l0, hat_ps.blk, hat_ps.esz, hat_ps.len, hat_ps.els, hne_ps, hne1_ps, hne2_ps.1, hne2_ps.2.1, hne2_ps.2.2.1, hne2_ps.2.2.2.1, hne2_ps.2.2.2.2.1, hne2_ps.2.2.2.2.2.1, hne2_ps.2.2.2.2.2.2.1, hne2_ps.2.2.2.2.2.2.2.1, hne2_ps.2.2.2.2.2.2.2.2.1, hne2_ps.2.2.2.2.2.2.2.2.2.1, hne2_ps.2.2.2.2.2.2.2.2.2.2, rangeI_len]
    rw [hi]
    exact (.one (c := some (H.n + 1)) hwf (by (repeat first | exact Sub.refl _ | refine Sub.push hwf ?_ _ | refine Sub.set hwf ?_ (by first | exact Nat.le_refl _ | omega | (simp only [push_n, set_n, kill_n]; omega)) _ | refine Sub.kill hwf ?_ (by first | exact Nat.le_refl _ | omega | (simp only [push_n, set_n, kill_n]; omega)))) ⟨by omega, by simp [push_b, set_b, kill_b, rowK]; done⟩ (plain_map (fun _ => rfl) _) (by simp [frOk, AV.okR, AV.ok1, AC.okR, AV.ren, AV.ren1, AC.ren, AFrame.get, pl1_old, *]; first | done | rfl | omega) h)

def pcRes (ps : List Ra) (x : Cv) : List Int × Bool := if areRa ps = true then if isCv x = true then (allM ps x, true) else ([], false) else ([], false)
theorem pcRes_len (ps : List Ra) (x : Cv) : (pcRes ps x).1.length ≤ 1048576 := by
  have := allM_len ps x
  unfold pcRes
  split
  · split
    · simp only; omega
    · simp
  · simp

def q_Possible : Con := fun args H K => match args with
  | [ps_v, .agg x_e] => eRa.rd H (fun ps => onv (eCv.dec x_e) fun x => K (.tup [.c (.sl (H.n) (0) ((pcRes ps x).1.length)), .c (.bool ((pcRes ps x).2))]) (H.push (rowK eI 3 (pcRes ps x).1))) ps_v
  | _ => False
@[simp ↓] theorem q_Possible_eq (ps_v : AV) (x_e : List AC) (H : AHeap) (K : AV → AHeap → Prop) : q_Possible [ps_v, .agg x_e] H K = (eRa.rd H (fun ps => onv (eCv.dec x_e) fun x => K (.tup [.c (.sl (H.n) (0) ((pcRes ps x).1.length)), .c (.bool ((pcRes ps x).2))]) (H.push (rowK eI 3 (pcRes ps x).1))) ps_v) := rfl

end Go.Proofs.Ytjiffkjeijfilaa
