/- The cheapest change: both. -/
import Derived.Test.YtjiffkjeijfilaaCoD
set_option maxRecDepth 8000
set_option linter.unusedSimpArgs false
set_option linter.unusedVariables false
namespace Go.Proofs.Ytjiffkjeijfilaa
open Go Go.RowKit

set_option maxHeartbeats 4000000
def ccRes (ps : List Ra) (x : Cv) (c : C4) : Int × Int × Bool := if c4ok c = true then if areRa ps = true then if isCv x = true then if allM ps x = [] then (0, 0, false) else ((bsRes c (allM ps x)).1, costI c (bsRes c (allM ps x)).1, true) else (0, 0, false) else (0, 0, false) else (0, 0, false)
theorem better_or (c : C4) (x b : Int) : (orI [cmpI (costI c x) (costI c b), orI [cmpI (ones x) (ones b), cmpI x b]] < 0) = (better c x b = true) := by
  have hs := smaller_or x b
  unfold better
  rw [Bool.or_eq_true, Bool.and_eq_true, decide_eq_true_eq, decide_eq_true_eq, ← hs]
  generalize orI [cmpI (ones x) (ones b), cmpI x b] = z
  generalize costI c x = p
  generalize costI c b = q
  simp only [orI, cmpI, eq_iff_iff]
  by_cases c1 : p < q
  · simp [c1]
  · by_cases c2 : q < p
    · have : ¬ p = q := by omega
      simp [c1, c2, this]
    · have : p = q := by omega
      simp only [c1, c2, this, if_false, if_true, false_or, true_and, Int.lt_irrefl]
      by_cases hz : z = 0
      · simp [hz]
      · simp [hz]

def q_minI : Con := fun args H K => match args with
  | [ps_v] => eI.rd H (fun ps => ¬ ps = [] ∧ K (.c (.int .i64 (minGo ps.tail (ps.headD 0)))) H) ps_v
  | _ => False
@[simp ↓] theorem q_minI_eq (ps_v : AV) (H : AHeap) (K : AV → AHeap → Prop) : q_minI [ps_v] H K = (eI.rd H (fun ps => ¬ ps = [] ∧ K (.c (.int .i64 (minGo ps.tail (ps.headD 0)))) H) ps_v) := rfl

def q_maxI : Con := fun args H K => match args with
  | [ps_v] => eI.rd H (fun ps => ¬ ps = [] ∧ K (.c (.int .i64 (maxGo ps.tail (ps.headD 0)))) H) ps_v
  | _ => False
@[simp ↓] theorem q_maxI_eq (ps_v : AV) (H : AHeap) (K : AV → AHeap → Prop) : q_maxI [ps_v] H K = (eI.rd H (fun ps => ¬ ps = [] ∧ K (.c (.int .i64 (maxGo ps.tail (ps.headD 0)))) H) ps_v) := rfl

theorem slices_Min___int_int_s : Sound Try.prog 101 q_minI := by
  intro args H K h
  unfold q_minI at h
  split at h
  rotate_left
  all_goals first | exact False.elim h | skip
  rename_i ps_v
  have h1 := Enc.rd_at h
  clear h
  obtain ⟨b_ps, i_ps, k_ps, ps, rfl, hat_ps, h⟩ := h1
  have hE := soundE_nil (P := Try.prog)
  refine acalls_fn slices_Min___int_int__k hE ⟨by simp, fun hwf => ?_⟩
  have hb_ps : b_ps < H.n := (hwf b_ps k_ps hat_ps.blk).1
  have hne_ps : (b_ps = H.n) = False := eq_false (by omega)
  have hne1_ps : ∀ i, (b_ps = H.n + i) = False := fun i => eq_false (by omega)
  have hne2_ps : (b_ps = H.n + 1 + 1) = False ∧ (b_ps = H.n + 1 + 1 + 1) = False ∧ (b_ps = H.n + 1 + 1 + 1 + 1) = False ∧ (b_ps = H.n + 1 + 1 + 1 + 1 + 1) = False ∧ (b_ps = H.n + 1 + 1 + 1 + 1 + 1 + 1) = False ∧ (b_ps = H.n + 1 + 1 + 1 + 1 + 1 + 1 + 1) = False ∧ (b_ps = H.n + 1 + 1 + 1 + 1 + 1 + 1 + 1 + 1) = False ∧ (b_ps = H.n + 1 + 1 + 1 + 1 + 1 + 1 + 1 + 1 + 1) = False ∧ (b_ps = H.n + 1 + 1 + 1 + 1 + 1 + 1 + 1 + 1 + 1 + 1) = False ∧ (b_ps = H.n + 1 + 1 + 1 + 1 + 1 + 1 + 1 + 1 + 1 + 1 + 1) = False ∧ (b_ps = H.n + 1 + 1 + 1 + 1 + 1 + 1 + 1 + 1 + 1 + 1 + 1 + 1) = False := ⟨eq_false (by omega), eq_false (by omega), eq_false (by omega), eq_false (by omega), eq_false (by omega), eq_false (by omega), eq_false (by omega), eq_false (by omega), eq_false (by omega), eq_false (by omega), eq_false (by omega)⟩
  have hmx_ps : ps.length ≤ 9223372036854775807 := by have h1 := (hwf b_ps k_ps hat_ps.blk).2.2; have h2 := hat_ps.len; omega
  obtain ⟨hne, h⟩ := h
  obtain ⟨a, r, rfl⟩ := List.exists_cons_of_ne_nil hne
  have e0 := hat_ps.get (show 0 < (a :: r).length by simp)
  have hl1 : ¬ (r.length : Int) + 1 < 1 := by omega
  simp only [Nat.add_zero, List.getElem_cons_zero] at e0
  simp only [List.length_cons] at hmx_ps
  simp only [List.tail_cons, List.headD_cons] at h
  simp (config := {contextual := true, implicitDefEqProofs := false, maxSteps := 2000000}) [-Int.not_le, -Int.not_lt, argsF, slices_Min___int_int__c, hat_ps.blk, hat_ps.esz, hat_ps.len, hat_ps.els, hne_ps, hne1_ps, hne2_ps.1, hne2_ps.2.1, hne2_ps.2.2.1, hne2_ps.2.2.2.1, hne2_ps.2.2.2.2.1, hne2_ps.2.2.2.2.2.1, hne2_ps.2.2.2.2.2.2.1, hne2_ps.2.2.2.2.2.2.2.1, hne2_ps.2.2.2.2.2.2.2.2.1, hne2_ps.2.2.2.2.2.2.2.2.2.1, hne2_ps.2.2.2.2.2.2.2.2.2.2, e0, hl1]
  refine aloop_list r (fun j (b : Int) => [(0, .c (.sl (b_ps) (i_ps) (r.length + 1))), (3, .c (.int .i64 (b))), (4, .c (.int .i64 ((j : Int) + 1)))]) (fun j _ => H) (fun j l b => minGo l b = minGo r a) hE _ a rfl (.same hwf (by simp [frOk, AV.okR, AV.ok1, AC.okR, AV.ren, AV.ren1, AC.ren, AFrame.get, pl1_old, *]; first | done | rfl | omega)) (fun j b hlt hi => ?_) fun b hi => ?_
  · have e1 := hat_ps.get (show j + 1 < (a :: r).length by simp; exact hlt)
    simp only [List.getElem_cons_succ, ← Nat.add_assoc] at e1
    have w1 : IntKind.i64.wrap ((j : Int) + 1 + 1) = (j : Int) + 1 + 1 := wrap_id (by omega) (by omega)
    have hj1 : (j : Int) + 1 < (r.length : Int) + 1 := by omega
    have hj2 : (0 : Int) ≤ (j : Int) + 1 := by omega
    have hj3 : ((j : Int) + 1).toNat = j + 1 := by omega
    simp only [minGo] at hi
    simp (config := {contextual := true, implicitDefEqProofs := false, maxSteps := 2000000}) [-Int.not_le, -Int.not_lt, argsF, slices_Min___int_int__l0, hat_ps.blk, hat_ps.esz, hat_ps.len, hat_ps.els, hne_ps, hne1_ps, hne2_ps.1, hne2_ps.2.1, hne2_ps.2.2.1, hne2_ps.2.2.2.1, hne2_ps.2.2.2.2.1, hne2_ps.2.2.2.2.2.1, hne2_ps.2.2.2.2.2.2.1, hne2_ps.2.2.2.2.2.2.2.1, hne2_ps.2.2.2.2.2.2.2.2.1, hne2_ps.2.2.2.2.2.2.2.2.2.1, hne2_ps.2.2.2.2.2.2.2.2.2.2, e1, hj1, hj2, hj3, w1, hlt, ← Nat.add_assoc]
    exact ⟨_, hi, .drop hwf (by (repeat first | exact Sub.refl _ | refine Sub.push hwf ?_ _ | refine Sub.set hwf ?_ (by first | exact Nat.le_refl _ | omega | (simp only [push_n, set_n, kill_n]; omega)) _ | refine Sub.kill hwf ?_ (by first | exact Nat.le_refl _ | omega | (simp only [push_n, set_n, kill_n]; omega)))) (by simp [frOk, AV.okR, AV.ok1, AC.okR, AV.ren, AV.ren1, AC.ren, AFrame.get, pl1_old, *]; first | done | rfl | omega)⟩
  · simp only [minGo] at hi
    have hj1 : ¬ (r.length : Int) + 1 < (r.length : Int) + 1 := by omega
    simp (config := {contextual := true, implicitDefEqProofs := false, maxSteps := 2000000}) [-Int.not_le, -Int.not_lt, argsF, slices_Min___int_int__l0, hat_ps.blk, hat_ps.esz, hat_ps.len, hat_ps.els, hne_ps, hne1_ps, hne2_ps.1, hne2_ps.2.1, hne2_ps.2.2.1, hne2_ps.2.2.2.1, hne2_ps.2.2.2.2.1, hne2_ps.2.2.2.2.2.1, hne2_ps.2.2.2.2.2.2.1, hne2_ps.2.2.2.2.2.2.2.1, hne2_ps.2.2.2.2.2.2.2.2.1, hne2_ps.2.2.2.2.2.2.2.2.2.1, hne2_ps.2.2.2.2.2.2.2.2.2.2, hj1]
    rw [← hi] at h
    (refine Out.plain hwf ?_ rfl ?_; (repeat first | exact Sub.refl _ | refine Sub.push hwf ?_ _ | refine Sub.set hwf ?_ (by first | exact Nat.le_refl _ | omega | (simp only [push_n, set_n, kill_n]; omega)) _ | refine Sub.kill hwf ?_ (by first | exact Nat.le_refl _ | omega | (simp only [push_n, set_n, kill_n]; omega)))); exact h

theorem slices_Max___int_int_s : Sound Try.prog 102 q_maxI := by
  intro args H K h
  unfold q_maxI at h
  split at h
  rotate_left
  all_goals first | exact False.elim h | skip
  rename_i ps_v
  have h1 := Enc.rd_at h
  clear h
  obtain ⟨b_ps, i_ps, k_ps, ps, rfl, hat_ps, h⟩ := h1
  have hE := soundE_nil (P := Try.prog)
  refine acalls_fn slices_Max___int_int__k hE ⟨by simp, fun hwf => ?_⟩
  have hb_ps : b_ps < H.n := (hwf b_ps k_ps hat_ps.blk).1
  have hne_ps : (b_ps = H.n) = False := eq_false (by omega)
  have hne1_ps : ∀ i, (b_ps = H.n + i) = False := fun i => eq_false (by omega)
  have hne2_ps : (b_ps = H.n + 1 + 1) = False ∧ (b_ps = H.n + 1 + 1 + 1) = False ∧ (b_ps = H.n + 1 + 1 + 1 + 1) = False ∧ (b_ps = H.n + 1 + 1 + 1 + 1 + 1) = False ∧ (b_ps = H.n + 1 + 1 + 1 + 1 + 1 + 1) = False ∧ (b_ps = H.n + 1 + 1 + 1 + 1 + 1 + 1 + 1) = False ∧ (b_ps = H.n + 1 + 1 + 1 + 1 + 1 + 1 + 1 + 1) = False ∧ (b_ps = H.n + 1 + 1 + 1 + 1 + 1 + 1 + 1 + 1 + 1) = False ∧ (b_ps = H.n + 1 + 1 + 1 + 1 + 1 + 1 + 1 + 1 + 1 + 1) = False ∧ (b_ps = H.n + 1 + 1 + 1 + 1 + 1 + 1 + 1 + 1 + 1 + 1 + 1) = False ∧ (b_ps = H.n + 1 + 1 + 1 + 1 + 1 + 1 + 1 + 1 + 1 + 1 + 1 + 1) = False := ⟨eq_false (by omega), eq_false (by omega), eq_false (by omega), eq_false (by omega), eq_false (by omega), eq_false (by omega), eq_false (by omega), eq_false (by omega), eq_false (by omega), eq_false (by omega), eq_false (by omega)⟩
  have hmx_ps : ps.length ≤ 9223372036854775807 := by have h1 := (hwf b_ps k_ps hat_ps.blk).2.2; have h2 := hat_ps.len; omega
  obtain ⟨hne, h⟩ := h
  obtain ⟨a, r, rfl⟩ := List.exists_cons_of_ne_nil hne
  have e0 := hat_ps.get (show 0 < (a :: r).length by simp)
  have hl1 : ¬ (r.length : Int) + 1 < 1 := by omega
  simp only [Nat.add_zero, List.getElem_cons_zero] at e0
  simp only [List.length_cons] at hmx_ps
  simp only [List.tail_cons, List.headD_cons] at h
  simp (config := {contextual := true, implicitDefEqProofs := false, maxSteps := 2000000}) [-Int.not_le, -Int.not_lt, argsF, slices_Max___int_int__c, hat_ps.blk, hat_ps.esz, hat_ps.len, hat_ps.els, hne_ps, hne1_ps, hne2_ps.1, hne2_ps.2.1, hne2_ps.2.2.1, hne2_ps.2.2.2.1, hne2_ps.2.2.2.2.1, hne2_ps.2.2.2.2.2.1, hne2_ps.2.2.2.2.2.2.1, hne2_ps.2.2.2.2.2.2.2.1, hne2_ps.2.2.2.2.2.2.2.2.1, hne2_ps.2.2.2.2.2.2.2.2.2.1, hne2_ps.2.2.2.2.2.2.2.2.2.2, e0, hl1]
  refine aloop_list r (fun j (b : Int) => [(0, .c (.sl (b_ps) (i_ps) (r.length + 1))), (3, .c (.int .i64 (b))), (4, .c (.int .i64 ((j : Int) + 1)))]) (fun j _ => H) (fun j l b => maxGo l b = maxGo r a) hE _ a rfl (.same hwf (by simp [frOk, AV.okR, AV.ok1, AC.okR, AV.ren, AV.ren1, AC.ren, AFrame.get, pl1_old, *]; first | done | rfl | omega)) (fun j b hlt hi => ?_) fun b hi => ?_
  · have e1 := hat_ps.get (show j + 1 < (a :: r).length by simp; exact hlt)
    simp only [List.getElem_cons_succ, ← Nat.add_assoc] at e1
    have w1 : IntKind.i64.wrap ((j : Int) + 1 + 1) = (j : Int) + 1 + 1 := wrap_id (by omega) (by omega)
    have hj1 : (j : Int) + 1 < (r.length : Int) + 1 := by omega
    have hj2 : (0 : Int) ≤ (j : Int) + 1 := by omega
    have hj3 : ((j : Int) + 1).toNat = j + 1 := by omega
    simp only [maxGo] at hi
    simp (config := {contextual := true, implicitDefEqProofs := false, maxSteps := 2000000}) [-Int.not_le, -Int.not_lt, argsF, slices_Max___int_int__l0, hat_ps.blk, hat_ps.esz, hat_ps.len, hat_ps.els, hne_ps, hne1_ps, hne2_ps.1, hne2_ps.2.1, hne2_ps.2.2.1, hne2_ps.2.2.2.1, hne2_ps.2.2.2.2.1, hne2_ps.2.2.2.2.2.1, hne2_ps.2.2.2.2.2.2.1, hne2_ps.2.2.2.2.2.2.2.1, hne2_ps.2.2.2.2.2.2.2.2.1, hne2_ps.2.2.2.2.2.2.2.2.2.1, hne2_ps.2.2.2.2.2.2.2.2.2.2, e1, hj1, hj2, hj3, w1, hlt, ← Nat.add_assoc]
    exact ⟨_, hi, .drop hwf (by (repeat first | exact Sub.refl _ | refine Sub.push hwf ?_ _ | refine Sub.set hwf ?_ (by first | exact Nat.le_refl _ | omega | (simp only [push_n, set_n, kill_n]; omega)) _ | refine Sub.kill hwf ?_ (by first | exact Nat.le_refl _ | omega | (simp only [push_n, set_n, kill_n]; omega)))) (by simp [frOk, AV.okR, AV.ok1, AC.okR, AV.ren, AV.ren1, AC.ren, AFrame.get, pl1_old, *]; first | done | rfl | omega)⟩
  · simp only [maxGo] at hi
    have hj1 : ¬ (r.length : Int) + 1 < (r.length : Int) + 1 := by omega
    simp (config := {contextual := true, implicitDefEqProofs := false, maxSteps := 2000000}) [-Int.not_le, -Int.not_lt, argsF, slices_Max___int_int__l0, hat_ps.blk, hat_ps.esz, hat_ps.len, hat_ps.els, hne_ps, hne1_ps, hne2_ps.1, hne2_ps.2.1, hne2_ps.2.2.1, hne2_ps.2.2.2.1, hne2_ps.2.2.2.2.1, hne2_ps.2.2.2.2.2.1, hne2_ps.2.2.2.2.2.2.1, hne2_ps.2.2.2.2.2.2.2.1, hne2_ps.2.2.2.2.2.2.2.2.1, hne2_ps.2.2.2.2.2.2.2.2.2.1, hne2_ps.2.2.2.2.2.2.2.2.2.2, hj1]
    rw [← hi] at h
    (refine Out.plain hwf ?_ rfl ?_; (repeat first | exact Sub.refl _ | refine Sub.push hwf ?_ _ | refine Sub.set hwf ?_ (by first | exact Nat.le_refl _ | omega | (simp only [push_n, set_n, kill_n]; omega)) _ | refine Sub.kill hwf ?_ (by first | exact Nat.le_refl _ | omega | (simp only [push_n, set_n, kill_n]; omega)))); exact h

def q_Cheap : Con := fun args H K => match args with
  | [ps_v, .agg x_e, .agg c_e] => eRa.rd H (fun ps => onv (eCv.dec x_e) fun x => onv (eC4.dec c_e) fun c => K (.tup [.c (.int .i64 ((ccRes ps x c).1)), .c (.int .i64 ((ccRes ps x c).2.1)), .c (.bool ((ccRes ps x c).2.2))]) H) ps_v
  | _ => False
@[simp ↓] theorem q_Cheap_eq (ps_v : AV) (x_e : List AC) (c_e : List AC) (H : AHeap) (K : AV → AHeap → Prop) : q_Cheap [ps_v, .agg x_e, .agg c_e] H K = (eRa.rd H (fun ps => onv (eCv.dec x_e) fun x => onv (eC4.dec c_e) fun c => K (.tup [.c (.int .i64 ((ccRes ps x c).1)), .c (.int .i64 ((ccRes ps x c).2.1)), .c (.bool ((ccRes ps x c).2.2))]) H) ps_v) := rfl

theorem spec_CheapestChange_s : Sound Try.prog 63 q_Cheap := by
  intro args H K h
  unfold q_Cheap at h
  split at h
  rotate_left
  all_goals first | exact False.elim h | skip
  rename_i ps_v x_e c_e
  have h1 := Enc.rd_at h
  clear h
  obtain ⟨b_ps, i_ps, k_ps, ps, rfl, hat_ps, h⟩ := h1
  have h1 := onv_iff.1 h
  clear h
  obtain ⟨x, hd_x, h⟩ := h1
  obtain rfl := eCv.cd _ _ hd_x
  clear hd_x
  have h1 := onv_iff.1 h
  clear h
  obtain ⟨c, hd_c, h⟩ := h1
  obtain rfl := eC4.cd _ _ hd_c
  clear hd_c
  have hE := soundE_cons spec_l1In_s (soundE_cons spec_l8Good_s (soundE_cons spec_l10One_s (soundE_cons spec_l12Best_s (soundE_cons spec_l12Cost_s (soundE_nil (P := Try.prog))))))
  refine acalls_fn spec_CheapestChange_k hE ⟨by simp, fun hwf => ?_⟩
  have hb_ps : b_ps < H.n := (hwf b_ps k_ps hat_ps.blk).1
  have hne_ps : (b_ps = H.n) = False := eq_false (by omega)
  have hne1_ps : ∀ i, (b_ps = H.n + i) = False := fun i => eq_false (by omega)
  have hne2_ps : (b_ps = H.n + 1 + 1) = False ∧ (b_ps = H.n + 1 + 1 + 1) = False ∧ (b_ps = H.n + 1 + 1 + 1 + 1) = False ∧ (b_ps = H.n + 1 + 1 + 1 + 1 + 1) = False ∧ (b_ps = H.n + 1 + 1 + 1 + 1 + 1 + 1) = False ∧ (b_ps = H.n + 1 + 1 + 1 + 1 + 1 + 1 + 1) = False ∧ (b_ps = H.n + 1 + 1 + 1 + 1 + 1 + 1 + 1 + 1) = False ∧ (b_ps = H.n + 1 + 1 + 1 + 1 + 1 + 1 + 1 + 1 + 1) = False ∧ (b_ps = H.n + 1 + 1 + 1 + 1 + 1 + 1 + 1 + 1 + 1 + 1) = False ∧ (b_ps = H.n + 1 + 1 + 1 + 1 + 1 + 1 + 1 + 1 + 1 + 1 + 1) = False ∧ (b_ps = H.n + 1 + 1 + 1 + 1 + 1 + 1 + 1 + 1 + 1 + 1 + 1 + 1) = False := ⟨eq_false (by omega), eq_false (by omega), eq_false (by omega), eq_false (by omega), eq_false (by omega), eq_false (by omega), eq_false (by omega), eq_false (by omega), eq_false (by omega), eq_false (by omega), eq_false (by omega)⟩
  have hmx_ps : ps.length ≤ 9223372036854775807 := by have h1 := (hwf b_ps k_ps hat_ps.blk).2.2; have h2 := hat_ps.len; omega
  unfold ccRes at h
  have hwf2 : ((H.push (boxC x)).push (rowK eI 55 (c4L c))).WF := WF.push (boxC_wf hwf x) (plain_map (fun _ => rfl) _) (by simp [c4L])
  have hall : c4ok c = (c4L c).all fun v => inR v 0 1000 := by simp [c4ok, c4L]
  have hb := allM_b (ps := ps) (x := x)
  simp (config := {contextual := true, implicitDefEqProofs := false, maxSteps := 2000000}) [-Int.not_le, -Int.not_lt, argsF, spec_CheapestChange_c]
  refine aloop_list (c4L c) (fun j _ => [(0, .c (.sl b_ps i_ps ps.length)), (4, .c (.ptr H.n 0 0)), (5, .c (.ptr (H.n + 1) 0 0)), (9, .c (.int .i64 ((j : Int))))]) (fun j _ => (H.push (boxC x)).push (rowK eI 55 (c4L c))) (fun j l _ => c4ok c = l.all fun v => inR v 0 1000) hE _ () hall (.since (by simp only [push_n]; omega) hwf2 (.refl _) (by simp [frOk, AV.okR, AV.ok1, AC.okR, AV.ren, AV.ren1, AC.ren, AFrame.get, pl1_old, *]; first | done | rfl | omega)) (fun j _ hlt hi => ?_) fun _ hi => ?_
  · have hj4 : j < 4 := hlt
    have hj5 : (j : Int) < 4 := by omega
    have w1 : IntKind.i64.wrap ((j : Int) + 1) = (j : Int) + 1 := wrap_id (by omega) (by omega)
    have hM4 : (c4L c).length = 4 := rfl
    have hg : (c4L c)[j]? = some ((c4L c)[j]'hlt) := List.getElem?_eq_getElem hlt
    rw [List.all_cons] at hi
    by_cases hin : inR ((c4L c)[j]'hlt) 0 1000 = true
    · rw [hin, Bool.true_and] at hi
      simp (config := {contextual := true, implicitDefEqProofs := false, maxSteps := 2000000}) [-Int.not_le, -Int.not_lt, argsF, spec_CheapestChange_l0, hj4, hj5, w1, hM4, rowK, hg, hin, boxC]
      exact ⟨(), hi, .since (by simp only [push_n]; omega) hwf2 (.refl _) (by simp [frOk, AV.okR, AV.ok1, AC.okR, AV.ren, AV.ren1, AC.ren, AFrame.get, pl1_old, *]; first | done | rfl | omega)⟩
    · have hin' : inR ((c4L c)[j]'hlt) 0 1000 = false := by simpa using hin
      rw [hin', Bool.false_and] at hi
      rw [hi, if_neg (by simp)] at h
      simp (config := {contextual := true, implicitDefEqProofs := false, maxSteps := 2000000}) [-Int.not_le, -Int.not_lt, argsF, spec_CheapestChange_l0, hj4, hj5, w1, hM4, rowK, hg, hin', boxC]
      (refine Out.plain hwf ?_ rfl ?_; (repeat first | exact Sub.refl _ | refine Sub.push hwf ?_ _ | refine Sub.set hwf ?_ (by first | exact Nat.le_refl _ | omega | (simp only [push_n, set_n, kill_n]; omega)) _ | refine Sub.kill hwf ?_ (by first | exact Nat.le_refl _ | omega | (simp only [push_n, set_n, kill_n]; omega)))); exact h
  · rw [List.all_nil] at hi
    rw [hi, if_pos rfl] at h
    have h4 : (c4L c).length = 4 := rfl
    by_cases hv : areRa ps = true
    rotate_left
    · rw [if_neg hv] at h
      simp (config := {contextual := true, implicitDefEqProofs := false, maxSteps := 2000000}) [-Int.not_le, -Int.not_lt, argsF, spec_CheapestChange_l0, h4, hat_ps.blk, hat_ps.esz, hat_ps.len, hat_ps.els, hne_ps, hne1_ps, hne2_ps.1, hne2_ps.2.1, hne2_ps.2.2.1, hne2_ps.2.2.2.1, hne2_ps.2.2.2.2.1, hne2_ps.2.2.2.2.2.1, hne2_ps.2.2.2.2.2.2.1, hne2_ps.2.2.2.2.2.2.2.1, hne2_ps.2.2.2.2.2.2.2.2.1, hne2_ps.2.2.2.2.2.2.2.2.2.1, hne2_ps.2.2.2.2.2.2.2.2.2.2, hv, boxC]
      (refine Out.plain hwf ?_ rfl ?_; (repeat first | exact Sub.refl _ | refine Sub.push hwf ?_ _ | refine Sub.set hwf ?_ (by first | exact Nat.le_refl _ | omega | (simp only [push_n, set_n, kill_n]; omega)) _ | refine Sub.kill hwf ?_ (by first | exact Nat.le_refl _ | omega | (simp only [push_n, set_n, kill_n]; omega)))); exact h
    by_cases hc : isCv x = true
    rotate_left
    · rw [if_pos hv, if_neg hc] at h
      simp (config := {contextual := true, implicitDefEqProofs := false, maxSteps := 2000000}) [-Int.not_le, -Int.not_lt, argsF, spec_CheapestChange_l0, h4, hat_ps.blk, hat_ps.esz, hat_ps.len, hat_ps.els, hne_ps, hne1_ps, hne2_ps.1, hne2_ps.2.1, hne2_ps.2.2.1, hne2_ps.2.2.2.1, hne2_ps.2.2.2.2.1, hne2_ps.2.2.2.2.2.1, hne2_ps.2.2.2.2.2.2.1, hne2_ps.2.2.2.2.2.2.2.1, hne2_ps.2.2.2.2.2.2.2.2.1, hne2_ps.2.2.2.2.2.2.2.2.2.1, hne2_ps.2.2.2.2.2.2.2.2.2.2, hv, hc, boxC]
      (refine Out.plain hwf ?_ rfl ?_; (repeat first | exact Sub.refl _ | refine Sub.push hwf ?_ _ | refine Sub.set hwf ?_ (by first | exact Nat.le_refl _ | omega | (simp only [push_n, set_n, kill_n]; omega)) _ | refine Sub.kill hwf ?_ (by first | exact Nat.le_refl _ | omega | (simp only [push_n, set_n, kill_n]; omega)))); exact h
    rw [if_pos hv, if_pos hc] at h
    have hbs := bsRes_b c hb
    by_cases hL : allM ps x = []
    · rw [if_pos hL] at h
      simp (config := {contextual := true, implicitDefEqProofs := false, maxSteps := 2000000}) [-Int.not_le, -Int.not_lt, argsF, spec_CheapestChange_l0, h4, hat_ps.blk, hat_ps.esz, hat_ps.len, hat_ps.els, hne_ps, hne1_ps, hne2_ps.1, hne2_ps.2.1, hne2_ps.2.2.1, hne2_ps.2.2.2.1, hne2_ps.2.2.2.2.1, hne2_ps.2.2.2.2.2.1, hne2_ps.2.2.2.2.2.2.1, hne2_ps.2.2.2.2.2.2.2.1, hne2_ps.2.2.2.2.2.2.2.2.1, hne2_ps.2.2.2.2.2.2.2.2.2.1, hne2_ps.2.2.2.2.2.2.2.2.2.2, hv, hc, hL, hi, boxC, rowK, c4L, bsRes]
      (refine Out.plain hwf ?_ rfl ?_; (repeat first | exact Sub.refl _ | refine Sub.push hwf ?_ _ | refine Sub.set hwf ?_ (by first | exact Nat.le_refl _ | omega | (simp only [push_n, set_n, kill_n]; omega)) _ | refine Sub.kill hwf ?_ (by first | exact Nat.le_refl _ | omega | (simp only [push_n, set_n, kill_n]; omega)))); exact h
    · rw [if_neg hL] at h
      have hb2 := bsRes_2 c hL
      simp (config := {contextual := true, implicitDefEqProofs := false, maxSteps := 2000000}) [-Int.not_le, -Int.not_lt, argsF, spec_CheapestChange_l0, h4, hat_ps.blk, hat_ps.esz, hat_ps.len, hat_ps.els, hne_ps, hne1_ps, hne2_ps.1, hne2_ps.2.1, hne2_ps.2.2.1, hne2_ps.2.2.2.1, hne2_ps.2.2.2.2.1, hne2_ps.2.2.2.2.2.1, hne2_ps.2.2.2.2.2.2.1, hne2_ps.2.2.2.2.2.2.2.1, hne2_ps.2.2.2.2.2.2.2.2.1, hne2_ps.2.2.2.2.2.2.2.2.2.1, hne2_ps.2.2.2.2.2.2.2.2.2.2, hv, hc, hL, hi, boxC, rowK, c4L, hb2, hbs.1, hbs.2]
      (refine Out.plain hwf ?_ rfl ?_; (repeat first | exact Sub.refl _ | refine Sub.push hwf ?_ _ | refine Sub.set hwf ?_ (by first | exact Nat.le_refl _ | omega | (simp only [push_n, set_n, kill_n]; omega)) _ | refine Sub.kill hwf ?_ (by first | exact Nat.le_refl _ | omega | (simp only [push_n, set_n, kill_n]; omega)))); exact h

theorem shr_0 {ch : Int} (h0 : 0 ≤ ch) (h1 : ch ≤ 15) : (IntKind.i64.wrap (((ch % 2 ^ IntKind.i64.bits).toNat &&& 1 % 2 ^ IntKind.i64.bits : Nat) : Int) = 1) = (chB ch 1 = true) := by
  have hc : ch = 0 ∨ ch = 1 ∨ ch = 2 ∨ ch = 3 ∨ ch = 4 ∨ ch = 5 ∨ ch = 6 ∨ ch = 7 ∨ ch = 8 ∨ ch = 9 ∨ ch = 10 ∨ ch = 11 ∨ ch = 12 ∨ ch = 13 ∨ ch = 14 ∨ ch = 15 := by omega
  rcases hc with rfl | rfl | rfl | rfl | rfl | rfl | rfl | rfl | rfl | rfl | rfl | rfl | rfl | rfl | rfl | rfl <;> decide

theorem shr_1 {ch : Int} (h0 : 0 ≤ ch) (h1 : ch ≤ 15) : (IntKind.i64.wrap (((ch.fdiv (2 ^ min 1 IntKind.i64.bits) % 2 ^ IntKind.i64.bits).toNat &&& 1 % 2 ^ IntKind.i64.bits : Nat) : Int) = 1) = (chB ch 2 = true) := by
  have hc : ch = 0 ∨ ch = 1 ∨ ch = 2 ∨ ch = 3 ∨ ch = 4 ∨ ch = 5 ∨ ch = 6 ∨ ch = 7 ∨ ch = 8 ∨ ch = 9 ∨ ch = 10 ∨ ch = 11 ∨ ch = 12 ∨ ch = 13 ∨ ch = 14 ∨ ch = 15 := by omega
  rcases hc with rfl | rfl | rfl | rfl | rfl | rfl | rfl | rfl | rfl | rfl | rfl | rfl | rfl | rfl | rfl | rfl <;> decide

theorem shr_2 {ch : Int} (h0 : 0 ≤ ch) (h1 : ch ≤ 15) : (IntKind.i64.wrap (((ch.fdiv (2 ^ min 2 IntKind.i64.bits) % 2 ^ IntKind.i64.bits).toNat &&& 1 % 2 ^ IntKind.i64.bits : Nat) : Int) = 1) = (chB ch 4 = true) := by
  have hc : ch = 0 ∨ ch = 1 ∨ ch = 2 ∨ ch = 3 ∨ ch = 4 ∨ ch = 5 ∨ ch = 6 ∨ ch = 7 ∨ ch = 8 ∨ ch = 9 ∨ ch = 10 ∨ ch = 11 ∨ ch = 12 ∨ ch = 13 ∨ ch = 14 ∨ ch = 15 := by omega
  rcases hc with rfl | rfl | rfl | rfl | rfl | rfl | rfl | rfl | rfl | rfl | rfl | rfl | rfl | rfl | rfl | rfl <;> decide

theorem shr_3 {ch : Int} (h0 : 0 ≤ ch) (h1 : ch ≤ 15) : (IntKind.i64.wrap (((ch.fdiv (2 ^ min 3 IntKind.i64.bits) % 2 ^ IntKind.i64.bits).toNat &&& 1 % 2 ^ IntKind.i64.bits : Nat) : Int) = 1) = (chB ch 8 = true) := by
  have hc : ch = 0 ∨ ch = 1 ∨ ch = 2 ∨ ch = 3 ∨ ch = 4 ∨ ch = 5 ∨ ch = 6 ∨ ch = 7 ∨ ch = 8 ∨ ch = 9 ∨ ch = 10 ∨ ch = 11 ∨ ch = 12 ∨ ch = 13 ∨ ch = 14 ∨ ch = 15 := by omega
  rcases hc with rfl | rfl | rfl | rfl | rfl | rfl | rfl | rfl | rfl | rfl | rfl | rfl | rfl | rfl | rfl | rfl <;> decide

theorem impl_CheapestChange_s : Sound Try.prog 34 q_Cheap := by
  intro args H K h
  unfold q_Cheap at h
  split at h
  rotate_left
  all_goals first | exact False.elim h | skip
  rename_i ps_v x_e c_e
  have h1 := Enc.rd_at h
  clear h
  obtain ⟨b_ps, i_ps, k_ps, ps, rfl, hat_ps, h⟩ := h1
  have h1 := onv_iff.1 h
  clear h
  obtain ⟨x, hd_x, h⟩ := h1
  obtain rfl := eCv.cd _ _ hd_x
  clear hd_x
  have h1 := onv_iff.1 h
  clear h
  obtain ⟨c, hd_c, h⟩ := h1
  obtain rfl := eC4.cd _ _ hd_c
  clear hd_c
  have hE := soundE_cons impl_areRates_s (soundE_cons impl_isCover_s (soundE_cons slices_Min___int_int_s (soundE_cons slices_Max___int_int_s (soundE_cons impl_possibleChanges_s (soundE_cons cmp_Compare_int_s (soundE_cons impl_compareChanges_s (soundE_cons cmp_Or_int_s (soundE_nil (P := Try.prog)))))))))
  refine acalls_fn impl_CheapestChange_k hE ⟨by simp, fun hwf => ?_⟩
  have hb_ps : b_ps < H.n := (hwf b_ps k_ps hat_ps.blk).1
  have hne_ps : (b_ps = H.n) = False := eq_false (by omega)
  have hne1_ps : ∀ i, (b_ps = H.n + i) = False := fun i => eq_false (by omega)
  have hne2_ps : (b_ps = H.n + 1 + 1) = False ∧ (b_ps = H.n + 1 + 1 + 1) = False ∧ (b_ps = H.n + 1 + 1 + 1 + 1) = False ∧ (b_ps = H.n + 1 + 1 + 1 + 1 + 1) = False ∧ (b_ps = H.n + 1 + 1 + 1 + 1 + 1 + 1) = False ∧ (b_ps = H.n + 1 + 1 + 1 + 1 + 1 + 1 + 1) = False ∧ (b_ps = H.n + 1 + 1 + 1 + 1 + 1 + 1 + 1 + 1) = False ∧ (b_ps = H.n + 1 + 1 + 1 + 1 + 1 + 1 + 1 + 1 + 1) = False ∧ (b_ps = H.n + 1 + 1 + 1 + 1 + 1 + 1 + 1 + 1 + 1 + 1) = False ∧ (b_ps = H.n + 1 + 1 + 1 + 1 + 1 + 1 + 1 + 1 + 1 + 1 + 1) = False ∧ (b_ps = H.n + 1 + 1 + 1 + 1 + 1 + 1 + 1 + 1 + 1 + 1 + 1 + 1) = False := ⟨eq_false (by omega), eq_false (by omega), eq_false (by omega), eq_false (by omega), eq_false (by omega), eq_false (by omega), eq_false (by omega), eq_false (by omega), eq_false (by omega), eq_false (by omega), eq_false (by omega)⟩
  have hmx_ps : ps.length ≤ 9223372036854775807 := by have h1 := (hwf b_ps k_ps hat_ps.blk).2.2; have h2 := hat_ps.len; omega
  unfold ccRes at h
  have hmm := c4_min c
  have hb := allM_b (ps := ps) (x := x)
  have hal := allM_len ps x
  by_cases hv : areRa ps = true
  rotate_left
  · rw [if_neg hv, ite_self] at h
    simp (config := {contextual := true, implicitDefEqProofs := false, maxSteps := 2000000}) [-Int.not_le, -Int.not_lt, argsF, impl_CheapestChange_c, hat_ps.blk, hat_ps.esz, hat_ps.len, hat_ps.els, hne_ps, hne1_ps, hne2_ps.1, hne2_ps.2.1, hne2_ps.2.2.1, hne2_ps.2.2.2.1, hne2_ps.2.2.2.2.1, hne2_ps.2.2.2.2.2.1, hne2_ps.2.2.2.2.2.2.1, hne2_ps.2.2.2.2.2.2.2.1, hne2_ps.2.2.2.2.2.2.2.2.1, hne2_ps.2.2.2.2.2.2.2.2.2.1, hne2_ps.2.2.2.2.2.2.2.2.2.2, hv]
    (refine Out.plain hwf ?_ rfl ?_; (repeat first | exact Sub.refl _ | refine Sub.push hwf ?_ _ | refine Sub.set hwf ?_ (by first | exact Nat.le_refl _ | omega | (simp only [push_n, set_n, kill_n]; omega)) _ | refine Sub.kill hwf ?_ (by first | exact Nat.le_refl _ | omega | (simp only [push_n, set_n, kill_n]; omega)))); exact h
  by_cases hc : isCv x = true
  rotate_left
  · rw [if_pos hv, if_neg hc, ite_self] at h
    simp (config := {contextual := true, implicitDefEqProofs := false, maxSteps := 2000000}) [-Int.not_le, -Int.not_lt, argsF, impl_CheapestChange_c, hat_ps.blk, hat_ps.esz, hat_ps.len, hat_ps.els, hne_ps, hne1_ps, hne2_ps.1, hne2_ps.2.1, hne2_ps.2.2.1, hne2_ps.2.2.2.1, hne2_ps.2.2.2.2.1, hne2_ps.2.2.2.2.2.1, hne2_ps.2.2.2.2.2.2.1, hne2_ps.2.2.2.2.2.2.2.1, hne2_ps.2.2.2.2.2.2.2.2.1, hne2_ps.2.2.2.2.2.2.2.2.2.1, hne2_ps.2.2.2.2.2.2.2.2.2.2, hv, hc]
    (refine Out.plain hwf ?_ rfl ?_; (repeat first | exact Sub.refl _ | refine Sub.push hwf ?_ _ | refine Sub.set hwf ?_ (by first | exact Nat.le_refl _ | omega | (simp only [push_n, set_n, kill_n]; omega)) _ | refine Sub.kill hwf ?_ (by first | exact Nat.le_refl _ | omega | (simp only [push_n, set_n, kill_n]; omega)))); exact h
  by_cases h4 : c4ok c = true
  rotate_left
  · rw [if_neg h4] at h
    by_cases hm1 : minGo [c.b, c.c, c.d] c.a < 0
    · simp (config := {contextual := true, implicitDefEqProofs := false, maxSteps := 2000000}) [-Int.not_le, -Int.not_lt, argsF, impl_CheapestChange_c, hat_ps.blk, hat_ps.esz, hat_ps.len, hat_ps.els, hne_ps, hne1_ps, hne2_ps.1, hne2_ps.2.1, hne2_ps.2.2.1, hne2_ps.2.2.2.1, hne2_ps.2.2.2.2.1, hne2_ps.2.2.2.2.2.1, hne2_ps.2.2.2.2.2.2.1, hne2_ps.2.2.2.2.2.2.2.1, hne2_ps.2.2.2.2.2.2.2.2.1, hne2_ps.2.2.2.2.2.2.2.2.2.1, hne2_ps.2.2.2.2.2.2.2.2.2.2, hv, hc, hm1]
      (refine Out.plain hwf ?_ rfl ?_; (repeat first | exact Sub.refl _ | refine Sub.push hwf ?_ _ | refine Sub.set hwf ?_ (by first | exact Nat.le_refl _ | omega | (simp only [push_n, set_n, kill_n]; omega)) _ | refine Sub.kill hwf ?_ (by first | exact Nat.le_refl _ | omega | (simp only [push_n, set_n, kill_n]; omega)))); exact h
    · have hm2 : 1000 < maxGo [c.b, c.c, c.d] c.a := by
        by_cases hm2 : 1000 < maxGo [c.b, c.c, c.d] c.a
        · exact hm2
        · exact absurd (hmm.mpr ⟨hm1, hm2⟩) h4
      simp (config := {contextual := true, implicitDefEqProofs := false, maxSteps := 2000000}) [-Int.not_le, -Int.not_lt, argsF, impl_CheapestChange_c, hat_ps.blk, hat_ps.esz, hat_ps.len, hat_ps.els, hne_ps, hne1_ps, hne2_ps.1, hne2_ps.2.1, hne2_ps.2.2.1, hne2_ps.2.2.2.1, hne2_ps.2.2.2.2.1, hne2_ps.2.2.2.2.2.1, hne2_ps.2.2.2.2.2.2.1, hne2_ps.2.2.2.2.2.2.2.1, hne2_ps.2.2.2.2.2.2.2.2.1, hne2_ps.2.2.2.2.2.2.2.2.2.1, hne2_ps.2.2.2.2.2.2.2.2.2.2, hv, hc, hm1, hm2]
      (refine Out.plain hwf ?_ rfl ?_; (repeat first | exact Sub.refl _ | refine Sub.push hwf ?_ _ | refine Sub.set hwf ?_ (by first | exact Nat.le_refl _ | omega | (simp only [push_n, set_n, kill_n]; omega)) _ | refine Sub.kill hwf ?_ (by first | exact Nat.le_refl _ | omega | (simp only [push_n, set_n, kill_n]; omega)))); exact h
  obtain ⟨hm1, hm2⟩ := hmm.mp h4
  clear hmm
  rw [if_pos h4, if_pos hv, if_pos hc] at h
  have hcb := c4ok_b h4
  have hwf3' : (((H.push (boxC x)).push (rowK eI 55 (c4L c))).push (rowK eI 3 (allM ps x))).WF := row_wf (WF.push (boxC_wf hwf x) (plain_map (fun _ => rfl) _) (by simp [c4L])) _ (by omega)
  simp (config := {contextual := true, implicitDefEqProofs := false, maxSteps := 2000000}) [-Int.not_le, -Int.not_lt, argsF, impl_CheapestChange_c, hat_ps.blk, hat_ps.esz, hat_ps.len, hat_ps.els, hne_ps, hne1_ps, hne2_ps.1, hne2_ps.2.1, hne2_ps.2.2.1, hne2_ps.2.2.2.1, hne2_ps.2.2.2.2.1, hne2_ps.2.2.2.2.2.1, hne2_ps.2.2.2.2.2.2.1, hne2_ps.2.2.2.2.2.2.2.1, hne2_ps.2.2.2.2.2.2.2.2.1, hne2_ps.2.2.2.2.2.2.2.2.2.1, hne2_ps.2.2.2.2.2.2.2.2.2.2, hv, hc, hm1, hm2]
  generalize allM ps x = L at h hb hal hwf3' ⊢
  have hwf3 := hwf3'
  refine aloop_list2 L (fun j (b s : Int) => [(5, .c (.ptr (H.n + 1) 0 0)), (9, .c (.int .i64 (b))), (10, .c (.int .i64 (s))), (36, .c (.sl (H.n + 1 + 1) (0) (L.length))), (37, .c (.int .i64 L.length)), (38, .c (.int .i64 ((j : Int))))]) (fun j _ _ => (((H.push (boxC x)).push (rowK eI 55 (c4L c))).push (rowK eI 3 L))) (fun j l b s => (b = -1 ∧ s = 0 ∧ l = L) ∨ (0 ≤ b ∧ b ≤ 15 ∧ s = costI c b ∧ ¬ L = [] ∧ bestGo c l b = (bsRes c L).1)) hE _ (-1) 0 (.inl ⟨rfl, rfl, rfl⟩) (.since (by simp only [push_n]; omega) hwf3 (.refl _) (by simp [frOk, AV.okR, AV.ok1, AC.okR, AV.ren, AV.ren1, AC.ren, AFrame.get, pl1_old, *]; first | done | rfl | omega)) (fun j b s hlt hi => ?_) fun b s hi => ?_
  · have hj1 := idx_lt hlt
    have w1 : IntKind.i64.wrap ((j : Int) + 1) = (j : Int) + 1 := wrap_id (by omega) (by omega)
    have hlj := hb _ (List.getElem_mem hlt)
    have hcj := costI_b h4 L[j]
    have b0 := b
    simp (config := {contextual := true, implicitDefEqProofs := false, maxSteps := 2000000}) [-Int.not_le, -Int.not_lt, argsF, impl_CheapestChange_l1, hj1, w1, hlt, rowK, c4L]
    refine aloop_list (c4L c) (fun k (t : Int) => [(5, .c (.ptr (H.n + 1) 0 0)), (9, .c (.int .i64 (b))), (10, .c (.int .i64 (s))), (12, .c (.int .i64 (L[j]))), (13, .c (.int .i64 (t))), (36, .c (.sl (H.n + 1 + 1) (0) (L.length))), (37, .c (.int .i64 L.length)), (38, .c (.int .i64 ((j : Int)))), (42, .agg (eC4.cells c)), (43, .c (.int .i64 ((k : Int))))]) (fun k _ => (((H.push (boxC x)).push (rowK eI 55 (c4L c))).push (rowK eI 3 L))) (fun k l t => t + costGo L[j] l k = costI c L[j] ∧ 0 ≤ t ∧ t ≤ 1000 * (k : Int)) hE _ 0 ⟨by simp [costI], by omega, by simp⟩ (.since (by simp only [push_n]; omega) hwf3 (.refl _) (by simp [frOk, AV.okR, AV.ok1, AC.okR, AV.ren, AV.ren1, AC.ren, AFrame.get, pl1_old, *]; first | done | rfl | omega)) (fun k s hkt hm => ?_) fun t hm => ?_
    · obtain ⟨hm, hs0, hs1⟩ := hm
      have hk4 : k < 4 := hkt
      have hbj := hcb _ (List.getElem_mem hkt)
      have hkk : k = 0 ∨ k = 1 ∨ k = 2 ∨ k = 3 := by omega
      simp only [costGo] at hm
      rcases hkk with rfl | rfl | rfl | rfl
      · have hg : (c4L c)[0]? = some c.a := rfl
        have hg2 : ∀ h, (c4L c)[0]'h = c.a := fun _ => rfl
        have hp2 : ((2 : Int) ^ 0) = 1 := by decide
        have wk : IntKind.i64.wrap 1 = 1 := by decide
        have hbk : 0 ≤ c.a ∧ c.a ≤ 1000 := hbj
        have w2 : IntKind.i64.wrap (s + c.a) = s + c.a := wrap_id (by omega) (by omega)
        have hsh := shr_0 hlj.1 hlj.2
        rw [hp2, hg2] at hm
        by_cases hp : chB L[j] 1 = true
        · rw [if_pos hp] at hm
          simp (config := {contextual := true, implicitDefEqProofs := false, maxSteps := 2000000}) [-Int.not_le, -Int.not_lt, argsF, impl_CheapestChange_l0, wk, w2, hsh, hp]
          exact ⟨s + c.a, ⟨by omega, by omega, by omega⟩, .since (by simp only [push_n]; omega) hwf3 (.refl _) (by simp [frOk, AV.okR, AV.ok1, AC.okR, AV.ren, AV.ren1, AC.ren, AFrame.get, pl1_old, *]; first | done | rfl | omega)⟩
        · rw [if_neg hp] at hm
          simp (config := {contextual := true, implicitDefEqProofs := false, maxSteps := 2000000}) [-Int.not_le, -Int.not_lt, argsF, impl_CheapestChange_l0, wk, w2, hsh, hp]
          exact ⟨s, ⟨by omega, by omega, by omega⟩, .since (by simp only [push_n]; omega) hwf3 (.refl _) (by simp [frOk, AV.okR, AV.ok1, AC.okR, AV.ren, AV.ren1, AC.ren, AFrame.get, pl1_old, *]; first | done | rfl | omega)⟩
      · have hg : (c4L c)[1]? = some c.b := rfl
        have hg2 : ∀ h, (c4L c)[1]'h = c.b := fun _ => rfl
        have hp2 : ((2 : Int) ^ 1) = 2 := by decide
        have wk : IntKind.i64.wrap 2 = 2 := by decide
        have hbk : 0 ≤ c.b ∧ c.b ≤ 1000 := hbj
        have w2 : IntKind.i64.wrap (s + c.b) = s + c.b := wrap_id (by omega) (by omega)
        have hsh := shr_1 hlj.1 hlj.2
        rw [hp2, hg2] at hm
        by_cases hp : chB L[j] 2 = true
        · rw [if_pos hp] at hm
          simp (config := {contextual := true, implicitDefEqProofs := false, maxSteps := 2000000}) [-Int.not_le, -Int.not_lt, argsF, impl_CheapestChange_l0, wk, w2, hsh, hp]
          exact ⟨s + c.b, ⟨by omega, by omega, by omega⟩, .since (by simp only [push_n]; omega) hwf3 (.refl _) (by simp [frOk, AV.okR, AV.ok1, AC.okR, AV.ren, AV.ren1, AC.ren, AFrame.get, pl1_old, *]; first | done | rfl | omega)⟩
        · rw [if_neg hp] at hm
          simp (config := {contextual := true, implicitDefEqProofs := false, maxSteps := 2000000}) [-Int.not_le, -Int.not_lt, argsF, impl_CheapestChange_l0, wk, w2, hsh, hp]
          exact ⟨s, ⟨by omega, by omega, by omega⟩, .since (by simp only [push_n]; omega) hwf3 (.refl _) (by simp [frOk, AV.okR, AV.ok1, AC.okR, AV.ren, AV.ren1, AC.ren, AFrame.get, pl1_old, *]; first | done | rfl | omega)⟩
      · have hg : (c4L c)[2]? = some c.c := rfl
        have hg2 : ∀ h, (c4L c)[2]'h = c.c := fun _ => rfl
        have hp2 : ((2 : Int) ^ 2) = 4 := by decide
        have wk : IntKind.i64.wrap 3 = 3 := by decide
        have hbk : 0 ≤ c.c ∧ c.c ≤ 1000 := hbj
        have w2 : IntKind.i64.wrap (s + c.c) = s + c.c := wrap_id (by omega) (by omega)
        have hsh := shr_2 hlj.1 hlj.2
        rw [hp2, hg2] at hm
        by_cases hp : chB L[j] 4 = true
        · rw [if_pos hp] at hm
          simp (config := {contextual := true, implicitDefEqProofs := false, maxSteps := 2000000}) [-Int.not_le, -Int.not_lt, argsF, impl_CheapestChange_l0, wk, w2, hsh, hp]
          exact ⟨s + c.c, ⟨by omega, by omega, by omega⟩, .since (by simp only [push_n]; omega) hwf3 (.refl _) (by simp [frOk, AV.okR, AV.ok1, AC.okR, AV.ren, AV.ren1, AC.ren, AFrame.get, pl1_old, *]; first | done | rfl | omega)⟩
        · rw [if_neg hp] at hm
          simp (config := {contextual := true, implicitDefEqProofs := false, maxSteps := 2000000}) [-Int.not_le, -Int.not_lt, argsF, impl_CheapestChange_l0, wk, w2, hsh, hp]
          exact ⟨s, ⟨by omega, by omega, by omega⟩, .since (by simp only [push_n]; omega) hwf3 (.refl _) (by simp [frOk, AV.okR, AV.ok1, AC.okR, AV.ren, AV.ren1, AC.ren, AFrame.get, pl1_old, *]; first | done | rfl | omega)⟩
      · have hg : (c4L c)[3]? = some c.d := rfl
        have hg2 : ∀ h, (c4L c)[3]'h = c.d := fun _ => rfl
        have hp2 : ((2 : Int) ^ 3) = 8 := by decide
        have wk : IntKind.i64.wrap 4 = 4 := by decide
        have hbk : 0 ≤ c.d ∧ c.d ≤ 1000 := hbj
        have w2 : IntKind.i64.wrap (s + c.d) = s + c.d := wrap_id (by omega) (by omega)
        have hsh := shr_3 hlj.1 hlj.2
        rw [hp2, hg2] at hm
        by_cases hp : chB L[j] 8 = true
        · rw [if_pos hp] at hm
          simp (config := {contextual := true, implicitDefEqProofs := false, maxSteps := 2000000}) [-Int.not_le, -Int.not_lt, argsF, impl_CheapestChange_l0, wk, w2, hsh, hp]
          exact ⟨s + c.d, ⟨by omega, by omega, by omega⟩, .since (by simp only [push_n]; omega) hwf3 (.refl _) (by simp [frOk, AV.okR, AV.ok1, AC.okR, AV.ren, AV.ren1, AC.ren, AFrame.get, pl1_old, *]; first | done | rfl | omega)⟩
        · rw [if_neg hp] at hm
          simp (config := {contextual := true, implicitDefEqProofs := false, maxSteps := 2000000}) [-Int.not_le, -Int.not_lt, argsF, impl_CheapestChange_l0, wk, w2, hsh, hp]
          exact ⟨s, ⟨by omega, by omega, by omega⟩, .since (by simp only [push_n]; omega) hwf3 (.refl _) (by simp [frOk, AV.okR, AV.ok1, AC.okR, AV.ren, AV.ren1, AC.ren, AFrame.get, pl1_old, *]; first | done | rfl | omega)⟩
    · obtain ⟨hm, hs0, hs1⟩ := hm
      simp only [costGo, Int.add_zero] at hm
      subst hm
      have h44 : (c4L c).length = 4 := rfl
      rcases hi with ⟨rfl, rfl, hl⟩ | ⟨h0b, h1b, rfl, hne, hbg⟩
      · have hne : ¬ L = [] := fun e => by rw [e] at hlt; simp at hlt
        have hbg : bestGo c (L.drop (j + 1)) L[j] = (bsRes c L).1 := congrArg (fun q => (bsRes c q).1) hl
        simp (config := {contextual := true, implicitDefEqProofs := false, maxSteps := 2000000}) [-Int.not_le, -Int.not_lt, argsF, impl_CheapestChange_l0, h44]
        simp (config := {contextual := true, implicitDefEqProofs := false, maxSteps := 2000000}) [-Int.not_le, -Int.not_lt, argsF, impl_CheapestChange_r1]
        simp (config := {contextual := true, implicitDefEqProofs := false, maxSteps := 2000000}) [-Int.not_le, -Int.not_lt, argsF, impl_CheapestChange_r2, w1]
        exact ⟨_, _, .inr ⟨hlj.1, hlj.2, rfl, hne, hbg⟩, .since (by simp only [push_n]; omega) hwf3 (by have hwf := hwf3; (repeat first | exact Sub.refl _ | refine Sub.push hwf ?_ _ | refine Sub.set hwf ?_ (by first | exact Nat.le_refl _ | omega | (simp only [push_n, set_n, kill_n]; omega)) _ | refine Sub.kill hwf ?_ (by first | exact Nat.le_refl _ | omega | (simp only [push_n, set_n, kill_n]; omega)))) (by simp [frOk, AV.okR, AV.ok1, AC.okR, AV.ren, AV.ren1, AC.ren, AFrame.get, pl1_old, *]; first | done | rfl | omega)⟩
      · have hbo := better_or c L[j] b
        have hb0 : ¬ b < 0 := by omega
        simp only [bestGo] at hbg
        by_cases hbt : better c L[j] b = true
        · rw [if_pos hbt] at hbg
          have hbo2 := hbo.mpr hbt
          simp (config := {contextual := true, implicitDefEqProofs := false, maxSteps := 2000000}) [-Int.not_le, -Int.not_lt, argsF, impl_CheapestChange_l0, h44]
          simp (config := {contextual := true, implicitDefEqProofs := false, maxSteps := 2000000}) [-Int.not_le, -Int.not_lt, argsF, impl_CheapestChange_r1, hb0, hlj.1, hlj.2, h0b, h1b, hbo2]
          simp (config := {contextual := true, implicitDefEqProofs := false, maxSteps := 2000000}) [-Int.not_le, -Int.not_lt, argsF, impl_CheapestChange_r2, w1]
          exact ⟨_, _, .inr ⟨hlj.1, hlj.2, rfl, hne, hbg⟩, .since (by simp only [push_n]; omega) hwf3 (by have hwf := hwf3; (repeat first | exact Sub.refl _ | refine Sub.push hwf ?_ _ | refine Sub.set hwf ?_ (by first | exact Nat.le_refl _ | omega | (simp only [push_n, set_n, kill_n]; omega)) _ | refine Sub.kill hwf ?_ (by first | exact Nat.le_refl _ | omega | (simp only [push_n, set_n, kill_n]; omega)))) (by simp [frOk, AV.okR, AV.ok1, AC.okR, AV.ren, AV.ren1, AC.ren, AFrame.get, pl1_old, *]; first | done | rfl | omega)⟩
        · rw [if_neg hbt] at hbg
          have hbo2 : ¬ orI [cmpI (costI c L[j]) (costI c b), orI [cmpI (ones L[j]) (ones b), cmpI L[j] b]] < 0 := fun h0 => hbt (hbo.mp h0)
          simp (config := {contextual := true, implicitDefEqProofs := false, maxSteps := 2000000}) [-Int.not_le, -Int.not_lt, argsF, impl_CheapestChange_l0, h44]
          simp (config := {contextual := true, implicitDefEqProofs := false, maxSteps := 2000000}) [-Int.not_le, -Int.not_lt, argsF, impl_CheapestChange_r1, hb0, hlj.1, hlj.2, h0b, h1b, hbo2]
          simp (config := {contextual := true, implicitDefEqProofs := false, maxSteps := 2000000}) [-Int.not_le, -Int.not_lt, argsF, impl_CheapestChange_r2, w1]
          exact ⟨_, _, .inr ⟨h0b, h1b, rfl, hne, hbg⟩, .since (by simp only [push_n]; omega) hwf3 (by have hwf := hwf3; (repeat first | exact Sub.refl _ | refine Sub.push hwf ?_ _ | refine Sub.set hwf ?_ (by first | exact Nat.le_refl _ | omega | (simp only [push_n, set_n, kill_n]; omega)) _ | refine Sub.kill hwf ?_ (by first | exact Nat.le_refl _ | omega | (simp only [push_n, set_n, kill_n]; omega)))) (by simp [frOk, AV.okR, AV.ok1, AC.okR, AV.ren, AV.ren1, AC.ren, AFrame.get, pl1_old, *]; first | done | rfl | omega)⟩
  · rcases hi with ⟨rfl, rfl, hl⟩ | ⟨h0b, h1b, rfl, hne, hbg⟩
    · rw [if_pos hl.symm] at h
      simp (config := {contextual := true, implicitDefEqProofs := false, maxSteps := 2000000}) [-Int.not_le, -Int.not_lt, argsF, impl_CheapestChange_l1]
      simp (config := {contextual := true, implicitDefEqProofs := false, maxSteps := 2000000}) [-Int.not_le, -Int.not_lt, argsF, impl_CheapestChange_r4]
      (refine Out.plain hwf ?_ rfl ?_; (repeat first | exact Sub.refl _ | refine Sub.push hwf ?_ _ | refine Sub.set hwf ?_ (by first | exact Nat.le_refl _ | omega | (simp only [push_n, set_n, kill_n]; omega)) _ | refine Sub.kill hwf ?_ (by first | exact Nat.le_refl _ | omega | (simp only [push_n, set_n, kill_n]; omega)))); exact h
    · rw [if_neg hne] at h
      simp only [bestGo] at hbg
      rw [← hbg] at h
      have hb0 : ¬ b < 0 := by omega
      simp (config := {contextual := true, implicitDefEqProofs := false, maxSteps := 2000000}) [-Int.not_le, -Int.not_lt, argsF, impl_CheapestChange_l1]
      simp (config := {contextual := true, implicitDefEqProofs := false, maxSteps := 2000000}) [-Int.not_le, -Int.not_lt, argsF, impl_CheapestChange_r4, hb0]
      (refine Out.plain hwf ?_ rfl ?_; (repeat first | exact Sub.refl _ | refine Sub.push hwf ?_ _ | refine Sub.set hwf ?_ (by first | exact Nat.le_refl _ | omega | (simp only [push_n, set_n, kill_n]; omega)) _ | refine Sub.kill hwf ?_ (by first | exact Nat.le_refl _ | omega | (simp only [push_n, set_n, kill_n]; omega)))); exact h

end Go.Proofs.Ytjiffkjeijfilaa
