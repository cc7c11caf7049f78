/- What the great law of the covers asks. -/
import Derived.Test.YtjiffkjeijfilaaCvDq
set_option maxRecDepth 8000
set_option linter.unusedSimpArgs false
set_option linter.unusedVariables false
namespace Go.Proofs.Ytjiffkjeijfilaa
open Go Go.RowKit

set_option maxHeartbeats 4000000

def q_rBig : Con := fun args H K => match args with
  | [code_v] => eU.rd H (fun code => K (.c (.bool (decide (65536 < code.length)))) H) code_v
  | _ => False
@[simp ↓] theorem q_rBig_eq (code_v : AV) (H : AHeap) (K : AV → AHeap → Prop) : q_rBig [code_v] H K = (eU.rd H (fun code => K (.c (.bool (decide (65536 < code.length)))) H) code_v) := rfl

theorem laws_vBig_s : Sound Try.prog 8 q_rBig := by
  intro args H K h
  unfold q_rBig at h
  split at h
  rotate_left
  all_goals first | exact False.elim h | skip
  rename_i code_v
  have h1 := Enc.rd_at h
  clear h
  obtain ⟨b_code, i_code, k_code, code, rfl, hat_code, h⟩ := h1
  have hE := soundE_nil (P := Try.prog)
  refine acalls_fn laws_vBig_k hE ⟨by simp, fun hwf => ?_⟩
  have hb_code : b_code < H.n := (hwf b_code k_code hat_code.blk).1
  have hne_code : (b_code = H.n) = False := eq_false (by omega)
  have hne1_code : ∀ i, (b_code = H.n + i) = False := fun i => eq_false (by omega)
  have hne2_code : (b_code = H.n + 1 + 1) = False ∧ (b_code = H.n + 1 + 1 + 1) = False ∧ (b_code = H.n + 1 + 1 + 1 + 1) = False ∧ (b_code = H.n + 1 + 1 + 1 + 1 + 1) = False ∧ (b_code = H.n + 1 + 1 + 1 + 1 + 1 + 1) = False ∧ (b_code = H.n + 1 + 1 + 1 + 1 + 1 + 1 + 1) = False ∧ (b_code = H.n + 1 + 1 + 1 + 1 + 1 + 1 + 1 + 1) = False ∧ (b_code = H.n + 1 + 1 + 1 + 1 + 1 + 1 + 1 + 1 + 1) = False ∧ (b_code = H.n + 1 + 1 + 1 + 1 + 1 + 1 + 1 + 1 + 1 + 1) = False ∧ (b_code = H.n + 1 + 1 + 1 + 1 + 1 + 1 + 1 + 1 + 1 + 1 + 1) = False ∧ (b_code = H.n + 1 + 1 + 1 + 1 + 1 + 1 + 1 + 1 + 1 + 1 + 1 + 1) = False := ⟨eq_false (by omega), eq_false (by omega), eq_false (by omega), eq_false (by omega), eq_false (by omega), eq_false (by omega), eq_false (by omega), eq_false (by omega), eq_false (by omega), eq_false (by omega), eq_false (by omega)⟩
  have hmx_code : code.length ≤ 9223372036854775807 := by have h1 := (hwf b_code k_code hat_code.blk).2.2; have h2 := hat_code.len; omega
  simp (config := {contextual := true, implicitDefEqProofs := false, maxSteps := 60000}) [-Int.not_le, -Int.not_lt, argsF, laws_vBig_c, hat_code.blk, hat_code.esz, hat_code.len, hat_code.els, hne_code, hne1_code, hne2_code.1, hne2_code.2.1, hne2_code.2.2.1, hne2_code.2.2.2.1, hne2_code.2.2.2.2.1, hne2_code.2.2.2.2.2.1, hne2_code.2.2.2.2.2.2.1, hne2_code.2.2.2.2.2.2.2.1, hne2_code.2.2.2.2.2.2.2.2.1, hne2_code.2.2.2.2.2.2.2.2.2.1, hne2_code.2.2.2.2.2.2.2.2.2.2]
  have e : decide ((65536 : Int) < (code.length : Int)) = decide (65536 < code.length) := by rw [decide_eq_decide]; omega
  first | ((refine Out.plain hwf ?_ rfl ?_; (repeat first | exact Sub.refl _ | refine Sub.push hwf ?_ _ | refine Sub.set hwf ?_ (by first | exact Nat.le_refl _ | omega | (simp only [push_n, set_n, kill_n]; omega)) _ | refine Sub.kill hwf ?_ (by first | exact Nat.le_refl _ | omega | (simp only [push_n, set_n, kill_n]; omega)))); exact h) | (rw [e]; (refine Out.plain hwf ?_ rfl ?_; (repeat first | exact Sub.refl _ | refine Sub.push hwf ?_ _ | refine Sub.set hwf ?_ (by first | exact Nat.le_refl _ | omega | (simp only [push_n, set_n, kill_n]; omega)) _ | refine Sub.kill hwf ?_ (by first | exact Nat.le_refl _ | omega | (simp only [push_n, set_n, kill_n]; omega)))); exact h)

def q_rInts : Con := fun args H K => match args with
  | [ps_v, rs_v] => eI.rd H (fun ps => eI.rd H (fun rs => K (.c (.bool (decide (ps = rs)))) H) rs_v) ps_v
  | _ => False
@[simp ↓] theorem q_rInts_eq (ps_v : AV) (rs_v : AV) (H : AHeap) (K : AV → AHeap → Prop) : q_rInts [ps_v, rs_v] H K = (eI.rd H (fun ps => eI.rd H (fun rs => K (.c (.bool (decide (ps = rs)))) H) rs_v) ps_v) := rfl

theorem laws_vInts_s : Sound Try.prog 16 q_rInts := by
  intro args H K h
  unfold q_rInts at h
  split at h
  rotate_left
  all_goals first | exact False.elim h | skip
  rename_i ps_v rs_v
  have h1 := Enc.rd_at h
  clear h
  obtain ⟨b_ps, i_ps, k_ps, ps, rfl, hat_ps, h⟩ := h1
  have h1 := Enc.rd_at h
  clear h
  obtain ⟨b_rs, i_rs, k_rs, rs, rfl, hat_rs, h⟩ := h1
  have hE := soundE_nil (P := Try.prog)
  refine acalls_fn laws_vInts_k hE ⟨by simp, fun hwf => ?_⟩
  have hb_ps : b_ps < H.n := (hwf b_ps k_ps hat_ps.blk).1
  have hne_ps : (b_ps = H.n) = False := eq_false (by omega)
  have hne1_ps : ∀ i, (b_ps = H.n + i) = False := fun i => eq_false (by omega)
  have hne2_ps : (b_ps = H.n + 1 + 1) = False ∧ (b_ps = H.n + 1 + 1 + 1) = False ∧ (b_ps = H.n + 1 + 1 + 1 + 1) = False ∧ (b_ps = H.n + 1 + 1 + 1 + 1 + 1) = False ∧ (b_ps = H.n + 1 + 1 + 1 + 1 + 1 + 1) = False ∧ (b_ps = H.n + 1 + 1 + 1 + 1 + 1 + 1 + 1) = False ∧ (b_ps = H.n + 1 + 1 + 1 + 1 + 1 + 1 + 1 + 1) = False ∧ (b_ps = H.n + 1 + 1 + 1 + 1 + 1 + 1 + 1 + 1 + 1) = False ∧ (b_ps = H.n + 1 + 1 + 1 + 1 + 1 + 1 + 1 + 1 + 1 + 1) = False ∧ (b_ps = H.n + 1 + 1 + 1 + 1 + 1 + 1 + 1 + 1 + 1 + 1 + 1) = False ∧ (b_ps = H.n + 1 + 1 + 1 + 1 + 1 + 1 + 1 + 1 + 1 + 1 + 1 + 1) = False := ⟨eq_false (by omega), eq_false (by omega), eq_false (by omega), eq_false (by omega), eq_false (by omega), eq_false (by omega), eq_false (by omega), eq_false (by omega), eq_false (by omega), eq_false (by omega), eq_false (by omega)⟩
  have hmx_ps : ps.length ≤ 9223372036854775807 := by have h1 := (hwf b_ps k_ps hat_ps.blk).2.2; have h2 := hat_ps.len; omega
  have hb_rs : b_rs < H.n := (hwf b_rs k_rs hat_rs.blk).1
  have hne_rs : (b_rs = H.n) = False := eq_false (by omega)
  have hne1_rs : ∀ i, (b_rs = H.n + i) = False := fun i => eq_false (by omega)
  have hne2_rs : (b_rs = H.n + 1 + 1) = False ∧ (b_rs = H.n + 1 + 1 + 1) = False ∧ (b_rs = H.n + 1 + 1 + 1 + 1) = False ∧ (b_rs = H.n + 1 + 1 + 1 + 1 + 1) = False ∧ (b_rs = H.n + 1 + 1 + 1 + 1 + 1 + 1) = False ∧ (b_rs = H.n + 1 + 1 + 1 + 1 + 1 + 1 + 1) = False ∧ (b_rs = H.n + 1 + 1 + 1 + 1 + 1 + 1 + 1 + 1) = False ∧ (b_rs = H.n + 1 + 1 + 1 + 1 + 1 + 1 + 1 + 1 + 1) = False ∧ (b_rs = H.n + 1 + 1 + 1 + 1 + 1 + 1 + 1 + 1 + 1 + 1) = False ∧ (b_rs = H.n + 1 + 1 + 1 + 1 + 1 + 1 + 1 + 1 + 1 + 1 + 1) = False ∧ (b_rs = H.n + 1 + 1 + 1 + 1 + 1 + 1 + 1 + 1 + 1 + 1 + 1 + 1) = False := ⟨eq_false (by omega), eq_false (by omega), eq_false (by omega), eq_false (by omega), eq_false (by omega), eq_false (by omega), eq_false (by omega), eq_false (by omega), eq_false (by omega), eq_false (by omega), eq_false (by omega)⟩
  have hmx_rs : rs.length ≤ 9223372036854775807 := by have h1 := (hwf b_rs k_rs hat_rs.blk).2.2; have h2 := hat_rs.len; omega
  by_cases hlen : ps.length = rs.length
  rotate_left
  · have hne : ¬ (ps.length : Int) = (rs.length : Int) := by omega
    rw [decide_eq_false (fun e => hlen (by rw [e]))] at h
    simp (config := {contextual := true, implicitDefEqProofs := false, maxSteps := 2000000}) [-Int.not_le, -Int.not_lt, argsF, laws_vInts_c, hat_ps.blk, hat_ps.esz, hat_ps.len, hat_ps.els, hne_ps, hne1_ps, hne2_ps.1, hne2_ps.2.1, hne2_ps.2.2.1, hne2_ps.2.2.2.1, hne2_ps.2.2.2.2.1, hne2_ps.2.2.2.2.2.1, hne2_ps.2.2.2.2.2.2.1, hne2_ps.2.2.2.2.2.2.2.1, hne2_ps.2.2.2.2.2.2.2.2.1, hne2_ps.2.2.2.2.2.2.2.2.2.1, hne2_ps.2.2.2.2.2.2.2.2.2.2, hat_rs.blk, hat_rs.esz, hat_rs.len, hat_rs.els, hne_rs, hne1_rs, hne2_rs.1, hne2_rs.2.1, hne2_rs.2.2.1, hne2_rs.2.2.2.1, hne2_rs.2.2.2.2.1, hne2_rs.2.2.2.2.2.1, hne2_rs.2.2.2.2.2.2.1, hne2_rs.2.2.2.2.2.2.2.1, hne2_rs.2.2.2.2.2.2.2.2.1, hne2_rs.2.2.2.2.2.2.2.2.2.1, hne2_rs.2.2.2.2.2.2.2.2.2.2, hlen, hne]
    (refine Out.plain hwf ?_ rfl ?_; (repeat first | exact Sub.refl _ | refine Sub.push hwf ?_ _ | refine Sub.set hwf ?_ (by first | exact Nat.le_refl _ | omega | (simp only [push_n, set_n, kill_n]; omega)) _ | refine Sub.kill hwf ?_ (by first | exact Nat.le_refl _ | omega | (simp only [push_n, set_n, kill_n]; omega)))); exact h
  simp (config := {contextual := true, implicitDefEqProofs := false, maxSteps := 2000000}) [-Int.not_le, -Int.not_lt, argsF, laws_vInts_c, hat_ps.blk, hat_ps.esz, hat_ps.len, hat_ps.els, hne_ps, hne1_ps, hne2_ps.1, hne2_ps.2.1, hne2_ps.2.2.1, hne2_ps.2.2.2.1, hne2_ps.2.2.2.2.1, hne2_ps.2.2.2.2.2.1, hne2_ps.2.2.2.2.2.2.1, hne2_ps.2.2.2.2.2.2.2.1, hne2_ps.2.2.2.2.2.2.2.2.1, hne2_ps.2.2.2.2.2.2.2.2.2.1, hne2_ps.2.2.2.2.2.2.2.2.2.2, hat_rs.blk, hat_rs.esz, hat_rs.len, hat_rs.els, hne_rs, hne1_rs, hne2_rs.1, hne2_rs.2.1, hne2_rs.2.2.1, hne2_rs.2.2.2.1, hne2_rs.2.2.2.2.1, hne2_rs.2.2.2.2.2.1, hne2_rs.2.2.2.2.2.2.1, hne2_rs.2.2.2.2.2.2.2.1, hne2_rs.2.2.2.2.2.2.2.2.1, hne2_rs.2.2.2.2.2.2.2.2.2.1, hne2_rs.2.2.2.2.2.2.2.2.2.2, hlen]
  refine aloop_list ps (fun j _ => [(0, .c (.sl b_ps i_ps ps.length)), (1, .c (.sl b_rs i_rs rs.length)), (5, .c (.int .i64 (j)))]) (fun j _ => H) (fun j l _ => K (.c (.bool (decide (l = rs.drop j)))) H) hE _ (()) (by simpa using h) (Weak.since (H := H) (Nat.le_refl _) hwf (.refl _) (by simp [frOk, AV.okR, AV.ok1, AC.okR, AV.ren, AV.ren1, AC.ren, AFrame.get, pl1_old, *]; first | done | rfl | omega)) (fun j _ hlt hi => ?_) fun _ hi => ?_
  ·
    have e1 := hat_ps.get hlt
    have hj1 := idx_lt hlt
    have w1 : IntKind.i64.wrap ((j : Int) + 1) = (j : Int) + 1 := wrap_id (by omega) (by omega)
    have hr : j < rs.length := by omega
    have hr1 := idx_lt hr
    have e2 := hat_rs.get hr
    rw [List.drop_eq_getElem_cons hr] at hi
    simp (config := {contextual := true, implicitDefEqProofs := false, maxSteps := 60000}) [-Int.not_le, -Int.not_lt, argsF, laws_vInts_l0, hat_rs.blk, hat_rs.esz, hat_rs.len, hat_rs.els, hne_rs, hne1_rs, hne2_rs.1, hne2_rs.2.1, hne2_rs.2.2.1, hne2_rs.2.2.2.1, hne2_rs.2.2.2.2.1, hne2_rs.2.2.2.2.2.1, hne2_rs.2.2.2.2.2.2.1, hne2_rs.2.2.2.2.2.2.2.1, hne2_rs.2.2.2.2.2.2.2.2.1, hne2_rs.2.2.2.2.2.2.2.2.2.1, hne2_rs.2.2.2.2.2.2.2.2.2.2, hat_ps.blk, hat_ps.esz, hat_ps.len, hat_ps.els, hne_ps, hne1_ps, hne2_ps.1, hne2_ps.2.1, hne2_ps.2.2.1, hne2_ps.2.2.2.1, hne2_ps.2.2.2.2.1, hne2_ps.2.2.2.2.2.1, hne2_ps.2.2.2.2.2.2.1, hne2_ps.2.2.2.2.2.2.2.1, hne2_ps.2.2.2.2.2.2.2.2.1, hne2_ps.2.2.2.2.2.2.2.2.2.1, hne2_ps.2.2.2.2.2.2.2.2.2.2, e1, hj1, w1, hr, hr1, e2]
    simp only [List.cons.injEq] at hi
    refine ite_i (fun g => ?_) (fun g => ?_)
    · simp only [g, true_and] at hi
      exact ⟨(), hi, .drop hwf (by (repeat first | exact Sub.refl _ | refine Sub.push hwf ?_ _ | refine Sub.set hwf ?_ (by first | exact Nat.le_refl _ | omega | (simp only [push_n, set_n, kill_n]; omega)) _ | refine Sub.kill hwf ?_ (by first | exact Nat.le_refl _ | omega | (simp only [push_n, set_n, kill_n]; omega)))) (by simp [frOk, AV.okR, AV.ok1, AC.okR, AV.ren, AV.ren1, AC.ren, AFrame.get, pl1_old, *]; first | done | rfl | omega)⟩
    · simp only [g, false_and, decide_false] at hi
      (refine Out.plain hwf ?_ rfl ?_; (repeat first | exact Sub.refl _ | refine Sub.push hwf ?_ _ | refine Sub.set hwf ?_ (by first | exact Nat.le_refl _ | omega | (simp only [push_n, set_n, kill_n]; omega)) _ | refine Sub.kill hwf ?_ (by first | exact Nat.le_refl _ | omega | (simp only [push_n, set_n, kill_n]; omega)))); exact hi
  ·
    simp (config := {contextual := true, implicitDefEqProofs := false, maxSteps := 60000}) [-Int.not_le, -Int.not_lt, argsF, laws_vInts_l0, hat_rs.blk, hat_rs.esz, hat_rs.len, hat_rs.els, hne_rs, hne1_rs, hne2_rs.1, hne2_rs.2.1, hne2_rs.2.2.1, hne2_rs.2.2.2.1, hne2_rs.2.2.2.2.1, hne2_rs.2.2.2.2.2.1, hne2_rs.2.2.2.2.2.2.1, hne2_rs.2.2.2.2.2.2.2.1, hne2_rs.2.2.2.2.2.2.2.2.1, hne2_rs.2.2.2.2.2.2.2.2.2.1, hne2_rs.2.2.2.2.2.2.2.2.2.2, hat_ps.blk, hat_ps.esz, hat_ps.len, hat_ps.els, hne_ps, hne1_ps, hne2_ps.1, hne2_ps.2.1, hne2_ps.2.2.1, hne2_ps.2.2.2.1, hne2_ps.2.2.2.2.1, hne2_ps.2.2.2.2.2.1, hne2_ps.2.2.2.2.2.2.1, hne2_ps.2.2.2.2.2.2.2.1, hne2_ps.2.2.2.2.2.2.2.2.1, hne2_ps.2.2.2.2.2.2.2.2.2.1, hne2_ps.2.2.2.2.2.2.2.2.2.2, hlen]
    rw [show ps.length = rs.length by omega, List.drop_length] at hi
    (refine Out.plain hwf ?_ rfl ?_; (repeat first | exact Sub.refl _ | refine Sub.push hwf ?_ _ | refine Sub.set hwf ?_ (by first | exact Nat.le_refl _ | omega | (simp only [push_n, set_n, kill_n]; omega)) _ | refine Sub.kill hwf ?_ (by first | exact Nat.le_refl _ | omega | (simp only [push_n, set_n, kill_n]; omega)))); simpa using hi

def q_rHas : Con := fun args H K => match args with
  | [ps_v, .c (.int .i64 n)] => eI.rd H (fun ps => K (.c (.bool (ps.any fun x => decide (x = n)))) H) ps_v
  | _ => False
@[simp ↓] theorem q_rHas_eq (ps_v : AV) (n : Int) (H : AHeap) (K : AV → AHeap → Prop) : q_rHas [ps_v, .c (.int .i64 n)] H K = (eI.rd H (fun ps => K (.c (.bool (ps.any fun x => decide (x = n)))) H) ps_v) := rfl

end Go.Proofs.Ytjiffkjeijfilaa
