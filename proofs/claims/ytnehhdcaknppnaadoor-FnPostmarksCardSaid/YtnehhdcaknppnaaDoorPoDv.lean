/- The draws of the postmarks: a town; what the great laws ask. -/
import Derived.Test.YtnehhdcaknppnaaDoorPoDu
import Derived.Test.YtnehhdcaknppnaaDoorPoY
set_option maxRecDepth 8000
set_option linter.unusedSimpArgs false
set_option linter.unusedVariables false
namespace Go.Proofs.YtnehhdcaknppnaaDoor
open Go Go.RowKit

set_option maxHeartbeats 2000000

def q_DLu : Con := fun args H K => match args with
  | [code_v] => eU.rd H (fun code => code.length ≤ 65536 ∧ Stop (∀ (ps : List Po) (t : List UInt8), (∀ p ∈ ps, shP p) → ps.length ≤ 14 → t.length ≤ 1000 → K (.tup [.c (.sl (H.n) (0) (ps.length)), .c (.str (t))]) (H.push (rowK ePo 26 ps))) ()) code_v
  | _ => False
@[simp ↓] theorem q_DLu_eq (code_v : AV) (H : AHeap) (K : AV → AHeap → Prop) : q_DLu [code_v] H K = (eU.rd H (fun code => code.length ≤ 65536 ∧ Stop (∀ (ps : List Po) (t : List UInt8), (∀ p ∈ ps, shP p) → ps.length ≤ 14 → t.length ≤ 1000 → K (.tup [.c (.sl (H.n) (0) (ps.length)), .c (.str (t))]) (H.push (rowK ePo 26 ps))) ()) code_v) := rfl

theorem spec_DrawLatestUse_s : Sound Tryd.prog 54 q_DLu := by
  intro args H K h
  unfold q_DLu at h
  split at h
  rotate_left
  all_goals first | exact False.elim h | skip
  rename_i code_v
  have h1 := Enc.rd_at h
  clear h
  obtain ⟨b_code, i_code, k_code, code, rfl, hat_code, h⟩ := h1
  have hE := soundE_cons spec_l1Cur__postmarks11_s (soundE_cons spec_l1Cur__one_s (soundE_cons spec_l1Cur__of_s (soundE_cons spec_l1Cur__town11_s (soundE_nil (P := Tryd.prog)))))
  refine acalls_fn spec_DrawLatestUse_k hE ⟨by simp, fun hwf => ?_⟩
  have hb_code : b_code < H.n := (hwf b_code k_code hat_code.blk).1
  have hne_code : (b_code = H.n) = False := eq_false (by omega)
  have hne1_code : ∀ i, (b_code = H.n + i) = False := fun i => eq_false (by omega)
  have hne2_code : (b_code = H.n + 1 + 1) = False ∧ (b_code = H.n + 1 + 1 + 1) = False ∧ (b_code = H.n + 1 + 1 + 1 + 1) = False ∧ (b_code = H.n + 1 + 1 + 1 + 1 + 1) = False ∧ (b_code = H.n + 1 + 1 + 1 + 1 + 1 + 1) = False ∧ (b_code = H.n + 1 + 1 + 1 + 1 + 1 + 1 + 1) = False ∧ (b_code = H.n + 1 + 1 + 1 + 1 + 1 + 1 + 1 + 1) = False ∧ (b_code = H.n + 1 + 1 + 1 + 1 + 1 + 1 + 1 + 1 + 1) = False ∧ (b_code = H.n + 1 + 1 + 1 + 1 + 1 + 1 + 1 + 1 + 1 + 1) = False ∧ (b_code = H.n + 1 + 1 + 1 + 1 + 1 + 1 + 1 + 1 + 1 + 1 + 1) = False ∧ (b_code = H.n + 1 + 1 + 1 + 1 + 1 + 1 + 1 + 1 + 1 + 1 + 1 + 1) = False := ⟨eq_false (by omega), eq_false (by omega), eq_false (by omega), eq_false (by omega), eq_false (by omega), eq_false (by omega), eq_false (by omega), eq_false (by omega), eq_false (by omega), eq_false (by omega), eq_false (by omega)⟩
  have hmx_code : code.length ≤ 9223372036854775807 := by have h1 := (hwf b_code k_code hat_code.blk).2.2; have h2 := hat_code.len; omega
  obtain ⟨hcl, h⟩ := h
  have hr0_code : (H.n = b_code) = False := eq_false (by omega)
  have hr1_code : ∀ i, (H.n + i = b_code) = False := fun i => eq_false (by omega)
  have hnr2_code : (H.n + 1 + 1 = b_code) = False ∧ (H.n + 1 + 1 + 1 = b_code) = False ∧ (H.n + 1 + 1 + 1 + 1 = b_code) = False ∧ (H.n + 1 + 1 + 1 + 1 + 1 = b_code) = False ∧ (H.n + 1 + 1 + 1 + 1 + 1 + 1 = b_code) = False ∧ (H.n + 1 + 1 + 1 + 1 + 1 + 1 + 1 = b_code) = False ∧ (H.n + 1 + 1 + 1 + 1 + 1 + 1 + 1 + 1 = b_code) = False ∧ (H.n + 1 + 1 + 1 + 1 + 1 + 1 + 1 + 1 + 1 = b_code) = False ∧ (H.n + 1 + 1 + 1 + 1 + 1 + 1 + 1 + 1 + 1 + 1 = b_code) = False ∧ (H.n + 1 + 1 + 1 + 1 + 1 + 1 + 1 + 1 + 1 + 1 + 1 = b_code) = False ∧ (H.n + 1 + 1 + 1 + 1 + 1 + 1 + 1 + 1 + 1 + 1 + 1 + 1 = b_code) = False := ⟨eq_false (by omega), eq_false (by omega), eq_false (by omega), eq_false (by omega), eq_false (by omega), eq_false (by omega), eq_false (by omega), eq_false (by omega), eq_false (by omega), eq_false (by omega), eq_false (by omega)⟩
  simp (config := {contextual := true, implicitDefEqProofs := false, maxSteps := 2000000}) [-Int.not_le, -Int.not_lt, argsF, spec_DrawLatestUse_c, hr0_code, hr1_code, hnr2_code.1, hnr2_code.2.1, hnr2_code.2.2.1, hnr2_code.2.2.2.1, hnr2_code.2.2.2.2.1, hnr2_code.2.2.2.2.2.1, hnr2_code.2.2.2.2.2.2.1, hnr2_code.2.2.2.2.2.2.2.1, hnr2_code.2.2.2.2.2.2.2.2.1, hnr2_code.2.2.2.2.2.2.2.2.2.1, hnr2_code.2.2.2.2.2.2.2.2.2.2, hat_code.blk, hat_code.esz, hat_code.len, hat_code.els, hne_code, hne1_code, hne2_code.1, hne2_code.2.1, hne2_code.2.2.1, hne2_code.2.2.2.1, hne2_code.2.2.2.2.1, hne2_code.2.2.2.2.2.1, hne2_code.2.2.2.2.2.2.1, hne2_code.2.2.2.2.2.2.2.1, hne2_code.2.2.2.2.2.2.2.2.1, hne2_code.2.2.2.2.2.2.2.2.2.1, hne2_code.2.2.2.2.2.2.2.2.2.2, onCur, dlI, dlT, curOf_lit, Enc.decL_map]
  refine Stop.mk fun ps a1 s1 hps hpl hl1 hu1 => ?_
  have hlA : 0 ≤ a1 ∧ a1 ≤ 800000000 := by omega
  have hlA2 : a1 ≤ 900000000 := by omega
  simp (config := {contextual := true, implicitDefEqProofs := false, maxSteps := 2000000}) [-Int.not_le, -Int.not_lt, argsF, spec_DrawLatestUse_c, hr0_code, hr1_code, hnr2_code.1, hnr2_code.2.1, hnr2_code.2.2.1, hnr2_code.2.2.2.1, hnr2_code.2.2.2.2.1, hnr2_code.2.2.2.2.2.1, hnr2_code.2.2.2.2.2.2.1, hnr2_code.2.2.2.2.2.2.2.1, hnr2_code.2.2.2.2.2.2.2.2.1, hnr2_code.2.2.2.2.2.2.2.2.2.1, hnr2_code.2.2.2.2.2.2.2.2.2.2, hat_code.blk, hat_code.esz, hat_code.len, hat_code.els, hne_code, hne1_code, hne2_code.1, hne2_code.2.1, hne2_code.2.2.1, hne2_code.2.2.2.1, hne2_code.2.2.2.2.1, hne2_code.2.2.2.2.2.1, hne2_code.2.2.2.2.2.2.1, hne2_code.2.2.2.2.2.2.2.1, hne2_code.2.2.2.2.2.2.2.2.1, hne2_code.2.2.2.2.2.2.2.2.2.1, hne2_code.2.2.2.2.2.2.2.2.2.2, onCur, dlI, dlT, curOf_lit, Enc.decL_map, rowK, hlA, hlA2]
  refine Stop.mk fun o a2 s2 hl2 hu2 => ?_
  have hlB : 0 ≤ a2 ∧ a2 ≤ 800000000 := by omega
  have hlB2 : a2 ≤ 900000000 := by omega
  cases o with
  | true =>
    simp (config := {contextual := true, implicitDefEqProofs := false, maxSteps := 2000000}) [-Int.not_le, -Int.not_lt, argsF, spec_DrawLatestUse_c, hr0_code, hr1_code, hnr2_code.1, hnr2_code.2.1, hnr2_code.2.2.1, hnr2_code.2.2.2.1, hnr2_code.2.2.2.2.1, hnr2_code.2.2.2.2.2.1, hnr2_code.2.2.2.2.2.2.1, hnr2_code.2.2.2.2.2.2.2.1, hnr2_code.2.2.2.2.2.2.2.2.1, hnr2_code.2.2.2.2.2.2.2.2.2.1, hnr2_code.2.2.2.2.2.2.2.2.2.2, hat_code.blk, hat_code.esz, hat_code.len, hat_code.els, hne_code, hne1_code, hne2_code.1, hne2_code.2.1, hne2_code.2.2.1, hne2_code.2.2.2.1, hne2_code.2.2.2.2.1, hne2_code.2.2.2.2.2.1, hne2_code.2.2.2.2.2.2.1, hne2_code.2.2.2.2.2.2.2.1, hne2_code.2.2.2.2.2.2.2.2.1, hne2_code.2.2.2.2.2.2.2.2.2.1, hne2_code.2.2.2.2.2.2.2.2.2.2, onCur, dlI, dlT, curOf_lit, Enc.decL_map, rowK, hlB, hlB2]
    refine Stop.mk fun t a3 s3 ht hl3 hu3 => ?_
    have ht2 : t.length ≤ 1000 := by
      simp only [List.mem_cons, List.not_mem_nil, or_false] at ht
      rcases ht with rfl | rfl | rfl <;> decide
    simp (config := {contextual := true, implicitDefEqProofs := false, maxSteps := 2000000}) [-Int.not_le, -Int.not_lt, argsF, spec_DrawLatestUse_c]
    exact .one (c := some (H.n + 1)) hwf (new_sub hwf (by simp only [push_n, set_n, kill_n]; omega) (by simp only [push_I, set_I, kill_I]) (fun j hj => by have hnj : (j = H.n) = False := eq_false (by omega); have hnj1 : ∀ i, (j = H.n + i) = False := fun i => eq_false (by omega); have hne2_j : (j = H.n + 1 + 1) = False ∧ (j = H.n + 1 + 1 + 1) = False ∧ (j = H.n + 1 + 1 + 1 + 1) = False ∧ (j = H.n + 1 + 1 + 1 + 1 + 1) = False ∧ (j = H.n + 1 + 1 + 1 + 1 + 1 + 1) = False ∧ (j = H.n + 1 + 1 + 1 + 1 + 1 + 1 + 1) = False ∧ (j = H.n + 1 + 1 + 1 + 1 + 1 + 1 + 1 + 1) = False ∧ (j = H.n + 1 + 1 + 1 + 1 + 1 + 1 + 1 + 1 + 1) = False ∧ (j = H.n + 1 + 1 + 1 + 1 + 1 + 1 + 1 + 1 + 1 + 1) = False ∧ (j = H.n + 1 + 1 + 1 + 1 + 1 + 1 + 1 + 1 + 1 + 1 + 1) = False ∧ (j = H.n + 1 + 1 + 1 + 1 + 1 + 1 + 1 + 1 + 1 + 1 + 1 + 1) = False := ⟨eq_false (by omega), eq_false (by omega), eq_false (by omega), eq_false (by omega), eq_false (by omega), eq_false (by omega), eq_false (by omega), eq_false (by omega), eq_false (by omega), eq_false (by omega), eq_false (by omega)⟩;  simp [push_b, set_b, kill_b, hnj, hnj1, hne2_j.1, hne2_j.2.1, hne2_j.2.2.1, hne2_j.2.2.2.1, hne2_j.2.2.2.2.1, hne2_j.2.2.2.2.2.1, hne2_j.2.2.2.2.2.2.1, hne2_j.2.2.2.2.2.2.2.1, hne2_j.2.2.2.2.2.2.2.2.1, hne2_j.2.2.2.2.2.2.2.2.2.1, hne2_j.2.2.2.2.2.2.2.2.2.2]; done)) ⟨by omega, by simp [push_b, set_b, kill_b, rowK]; done⟩ (plain_map (fun _ => rfl) _) (by simp [frOk, AV.okR, AV.ok1, AC.okR, AV.ren, AV.ren1, AC.ren, AFrame.get, pl1_old, *]; first | done | omega) (Stop.out h ps t hps hpl ht2)
  | false =>
    simp (config := {contextual := true, implicitDefEqProofs := false, maxSteps := 2000000}) [-Int.not_le, -Int.not_lt, argsF, spec_DrawLatestUse_c, hr0_code, hr1_code, hnr2_code.1, hnr2_code.2.1, hnr2_code.2.2.1, hnr2_code.2.2.2.1, hnr2_code.2.2.2.2.1, hnr2_code.2.2.2.2.2.1, hnr2_code.2.2.2.2.2.2.1, hnr2_code.2.2.2.2.2.2.2.1, hnr2_code.2.2.2.2.2.2.2.2.1, hnr2_code.2.2.2.2.2.2.2.2.2.1, hnr2_code.2.2.2.2.2.2.2.2.2.2, hat_code.blk, hat_code.esz, hat_code.len, hat_code.els, hne_code, hne1_code, hne2_code.1, hne2_code.2.1, hne2_code.2.2.1, hne2_code.2.2.2.1, hne2_code.2.2.2.2.1, hne2_code.2.2.2.2.2.1, hne2_code.2.2.2.2.2.2.1, hne2_code.2.2.2.2.2.2.2.1, hne2_code.2.2.2.2.2.2.2.2.1, hne2_code.2.2.2.2.2.2.2.2.2.1, hne2_code.2.2.2.2.2.2.2.2.2.2, onCur, dlI, dlT, curOf_lit, Enc.decL_map, rowK, hlB, hlB2]
    refine Stop.mk fun t a3 s3 ht hl3 hu3 => ?_
    simp (config := {contextual := true, implicitDefEqProofs := false, maxSteps := 2000000}) [-Int.not_le, -Int.not_lt, argsF, spec_DrawLatestUse_c]
    exact .one (c := some (H.n + 1)) hwf (new_sub hwf (by simp only [push_n, set_n, kill_n]; omega) (by simp only [push_I, set_I, kill_I]) (fun j hj => by have hnj : (j = H.n) = False := eq_false (by omega); have hnj1 : ∀ i, (j = H.n + i) = False := fun i => eq_false (by omega); have hne2_j : (j = H.n + 1 + 1) = False ∧ (j = H.n + 1 + 1 + 1) = False ∧ (j = H.n + 1 + 1 + 1 + 1) = False ∧ (j = H.n + 1 + 1 + 1 + 1 + 1) = False ∧ (j = H.n + 1 + 1 + 1 + 1 + 1 + 1) = False ∧ (j = H.n + 1 + 1 + 1 + 1 + 1 + 1 + 1) = False ∧ (j = H.n + 1 + 1 + 1 + 1 + 1 + 1 + 1 + 1) = False ∧ (j = H.n + 1 + 1 + 1 + 1 + 1 + 1 + 1 + 1 + 1) = False ∧ (j = H.n + 1 + 1 + 1 + 1 + 1 + 1 + 1 + 1 + 1 + 1) = False ∧ (j = H.n + 1 + 1 + 1 + 1 + 1 + 1 + 1 + 1 + 1 + 1 + 1) = False ∧ (j = H.n + 1 + 1 + 1 + 1 + 1 + 1 + 1 + 1 + 1 + 1 + 1 + 1) = False := ⟨eq_false (by omega), eq_false (by omega), eq_false (by omega), eq_false (by omega), eq_false (by omega), eq_false (by omega), eq_false (by omega), eq_false (by omega), eq_false (by omega), eq_false (by omega), eq_false (by omega)⟩;  simp [push_b, set_b, kill_b, hnj, hnj1, hne2_j.1, hne2_j.2.1, hne2_j.2.2.1, hne2_j.2.2.2.1, hne2_j.2.2.2.2.1, hne2_j.2.2.2.2.2.1, hne2_j.2.2.2.2.2.2.1, hne2_j.2.2.2.2.2.2.2.1, hne2_j.2.2.2.2.2.2.2.2.1, hne2_j.2.2.2.2.2.2.2.2.2.1, hne2_j.2.2.2.2.2.2.2.2.2.2]; done)) ⟨by omega, by simp [push_b, set_b, kill_b, rowK]; done⟩ (plain_map (fun _ => rfl) _) (by simp [frOk, AV.okR, AV.ok1, AC.okR, AV.ren, AV.ren1, AC.ren, AFrame.get, pl1_old, *]; first | done | omega) (Stop.out h ps t hps hpl (by omega))

def q_rBig : Con := fun args H K => match args with
  | [code_v] => eU.rd H (fun code => K (.c (.bool (decide (65536 < code.length)))) H) code_v
  | _ => False
@[simp ↓] theorem q_rBig_eq (code_v : AV) (H : AHeap) (K : AV → AHeap → Prop) : q_rBig [code_v] H K = (eU.rd H (fun code => K (.c (.bool (decide (65536 < code.length)))) H) code_v) := rfl

theorem laws_rBig_s : Sound Tryd.prog 50 q_rBig := by
  intro args H K h
  unfold q_rBig at h
  split at h
  rotate_left
  all_goals first | exact False.elim h | skip
  rename_i code_v
  have h1 := Enc.rd_at h
  clear h
  obtain ⟨b_code, i_code, k_code, code, rfl, hat_code, h⟩ := h1
  have hE := soundE_nil (P := Tryd.prog)
  refine acalls_fn laws_rBig_k hE ⟨by simp, fun hwf => ?_⟩
  have hb_code : b_code < H.n := (hwf b_code k_code hat_code.blk).1
  have hne_code : (b_code = H.n) = False := eq_false (by omega)
  have hne1_code : ∀ i, (b_code = H.n + i) = False := fun i => eq_false (by omega)
  have hne2_code : (b_code = H.n + 1 + 1) = False ∧ (b_code = H.n + 1 + 1 + 1) = False ∧ (b_code = H.n + 1 + 1 + 1 + 1) = False ∧ (b_code = H.n + 1 + 1 + 1 + 1 + 1) = False ∧ (b_code = H.n + 1 + 1 + 1 + 1 + 1 + 1) = False ∧ (b_code = H.n + 1 + 1 + 1 + 1 + 1 + 1 + 1) = False ∧ (b_code = H.n + 1 + 1 + 1 + 1 + 1 + 1 + 1 + 1) = False ∧ (b_code = H.n + 1 + 1 + 1 + 1 + 1 + 1 + 1 + 1 + 1) = False ∧ (b_code = H.n + 1 + 1 + 1 + 1 + 1 + 1 + 1 + 1 + 1 + 1) = False ∧ (b_code = H.n + 1 + 1 + 1 + 1 + 1 + 1 + 1 + 1 + 1 + 1 + 1) = False ∧ (b_code = H.n + 1 + 1 + 1 + 1 + 1 + 1 + 1 + 1 + 1 + 1 + 1 + 1) = False := ⟨eq_false (by omega), eq_false (by omega), eq_false (by omega), eq_false (by omega), eq_false (by omega), eq_false (by omega), eq_false (by omega), eq_false (by omega), eq_false (by omega), eq_false (by omega), eq_false (by omega)⟩
  have hmx_code : code.length ≤ 9223372036854775807 := by have h1 := (hwf b_code k_code hat_code.blk).2.2; have h2 := hat_code.len; omega
  simp (config := {contextual := true, implicitDefEqProofs := false, maxSteps := 60000}) [-Int.not_le, -Int.not_lt, argsF, laws_rBig_c, hat_code.blk, hat_code.esz, hat_code.len, hat_code.els, hne_code, hne1_code, hne2_code.1, hne2_code.2.1, hne2_code.2.2.1, hne2_code.2.2.2.1, hne2_code.2.2.2.2.1, hne2_code.2.2.2.2.2.1, hne2_code.2.2.2.2.2.2.1, hne2_code.2.2.2.2.2.2.2.1, hne2_code.2.2.2.2.2.2.2.2.1, hne2_code.2.2.2.2.2.2.2.2.2.1, hne2_code.2.2.2.2.2.2.2.2.2.2]
  have e : decide ((65536 : Int) < (code.length : Int)) = decide (65536 < code.length) := by rw [decide_eq_decide]; omega
  first | ((refine Out.plain hwf ?_ rfl ?_; (repeat first | exact Sub.refl _ | refine Sub.push hwf ?_ _ | refine Sub.set hwf ?_ (by first | exact Nat.le_refl _ | omega) _ | refine Sub.kill hwf ?_ (by first | exact Nat.le_refl _ | omega))); exact h) | (rw [e]; (refine Out.plain hwf ?_ rfl ?_; (repeat first | exact Sub.refl _ | refine Sub.push hwf ?_ _ | refine Sub.set hwf ?_ (by first | exact Nat.le_refl _ | omega) _ | refine Sub.kill hwf ?_ (by first | exact Nat.le_refl _ | omega))); exact h)

def q_rMarks : Con := fun args H K => match args with
  | [ps_v, rs_v] => ePo.rd H (fun ps => ePo.rd H (fun rs => K (.c (.bool (decide (ps = rs)))) H) rs_v) ps_v
  | _ => False
@[simp ↓] theorem q_rMarks_eq (ps_v : AV) (rs_v : AV) (H : AHeap) (K : AV → AHeap → Prop) : q_rMarks [ps_v, rs_v] H K = (ePo.rd H (fun ps => ePo.rd H (fun rs => K (.c (.bool (decide (ps = rs)))) H) rs_v) ps_v) := rfl

def q_rTexts : Con := fun args H K => match args with
  | [ps_v, rs_v] => eT.rd H (fun ps => eT.rd H (fun rs => K (.c (.bool (decide (ps = rs)))) H) rs_v) ps_v
  | _ => False
@[simp ↓] theorem q_rTexts_eq (ps_v : AV) (rs_v : AV) (H : AHeap) (K : AV → AHeap → Prop) : q_rTexts [ps_v, rs_v] H K = (eT.rd H (fun ps => eT.rd H (fun rs => K (.c (.bool (decide (ps = rs)))) H) rs_v) ps_v) := rfl

theorem laws_rMarks_s : Sound Tryd.prog 52 q_rMarks := by
  intro args H K h
  unfold q_rMarks at h
  split at h
  rotate_left
  all_goals first | exact False.elim h | skip
  rename_i ps_v rs_v
  have h1 := Enc.rd_at h
  clear h
  obtain ⟨b_ps, i_ps, k_ps, ps, rfl, hat_ps, h⟩ := h1
  have h1 := Enc.rd_at h
  clear h
  obtain ⟨b_rs, i_rs, k_rs, rs, rfl, hat_rs, h⟩ := h1
  have hE := soundE_nil (P := Tryd.prog)
  refine acalls_fn laws_rMarks_k hE ⟨by simp, fun hwf => ?_⟩
  have hb_ps : b_ps < H.n := (hwf b_ps k_ps hat_ps.blk).1
  have hne_ps : (b_ps = H.n) = False := eq_false (by omega)
  have hne1_ps : ∀ i, (b_ps = H.n + i) = False := fun i => eq_false (by omega)
  have hne2_ps : (b_ps = H.n + 1 + 1) = False ∧ (b_ps = H.n + 1 + 1 + 1) = False ∧ (b_ps = H.n + 1 + 1 + 1 + 1) = False ∧ (b_ps = H.n + 1 + 1 + 1 + 1 + 1) = False ∧ (b_ps = H.n + 1 + 1 + 1 + 1 + 1 + 1) = False ∧ (b_ps = H.n + 1 + 1 + 1 + 1 + 1 + 1 + 1) = False ∧ (b_ps = H.n + 1 + 1 + 1 + 1 + 1 + 1 + 1 + 1) = False ∧ (b_ps = H.n + 1 + 1 + 1 + 1 + 1 + 1 + 1 + 1 + 1) = False ∧ (b_ps = H.n + 1 + 1 + 1 + 1 + 1 + 1 + 1 + 1 + 1 + 1) = False ∧ (b_ps = H.n + 1 + 1 + 1 + 1 + 1 + 1 + 1 + 1 + 1 + 1 + 1) = False ∧ (b_ps = H.n + 1 + 1 + 1 + 1 + 1 + 1 + 1 + 1 + 1 + 1 + 1 + 1) = False := ⟨eq_false (by omega), eq_false (by omega), eq_false (by omega), eq_false (by omega), eq_false (by omega), eq_false (by omega), eq_false (by omega), eq_false (by omega), eq_false (by omega), eq_false (by omega), eq_false (by omega)⟩
  have hmx_ps : ps.length ≤ 9223372036854775807 := by have h1 := (hwf b_ps k_ps hat_ps.blk).2.2; have h2 := hat_ps.len; omega
  have hb_rs : b_rs < H.n := (hwf b_rs k_rs hat_rs.blk).1
  have hne_rs : (b_rs = H.n) = False := eq_false (by omega)
  have hne1_rs : ∀ i, (b_rs = H.n + i) = False := fun i => eq_false (by omega)
  have hne2_rs : (b_rs = H.n + 1 + 1) = False ∧ (b_rs = H.n + 1 + 1 + 1) = False ∧ (b_rs = H.n + 1 + 1 + 1 + 1) = False ∧ (b_rs = H.n + 1 + 1 + 1 + 1 + 1) = False ∧ (b_rs = H.n + 1 + 1 + 1 + 1 + 1 + 1) = False ∧ (b_rs = H.n + 1 + 1 + 1 + 1 + 1 + 1 + 1) = False ∧ (b_rs = H.n + 1 + 1 + 1 + 1 + 1 + 1 + 1 + 1) = False ∧ (b_rs = H.n + 1 + 1 + 1 + 1 + 1 + 1 + 1 + 1 + 1) = False ∧ (b_rs = H.n + 1 + 1 + 1 + 1 + 1 + 1 + 1 + 1 + 1 + 1) = False ∧ (b_rs = H.n + 1 + 1 + 1 + 1 + 1 + 1 + 1 + 1 + 1 + 1 + 1) = False ∧ (b_rs = H.n + 1 + 1 + 1 + 1 + 1 + 1 + 1 + 1 + 1 + 1 + 1 + 1) = False := ⟨eq_false (by omega), eq_false (by omega), eq_false (by omega), eq_false (by omega), eq_false (by omega), eq_false (by omega), eq_false (by omega), eq_false (by omega), eq_false (by omega), eq_false (by omega), eq_false (by omega)⟩
  have hmx_rs : rs.length ≤ 9223372036854775807 := by have h1 := (hwf b_rs k_rs hat_rs.blk).2.2; have h2 := hat_rs.len; omega
  by_cases hlen : ps.length = rs.length
  rotate_left
  · have hne : ¬ (ps.length : Int) = (rs.length : Int) := by omega
    rw [decide_eq_false (fun e => hlen (by rw [e]))] at h
    simp (config := {contextual := true, implicitDefEqProofs := false, maxSteps := 2000000}) [-Int.not_le, -Int.not_lt, argsF, laws_rMarks_c, hat_ps.blk, hat_ps.esz, hat_ps.len, hat_ps.els, hne_ps, hne1_ps, hne2_ps.1, hne2_ps.2.1, hne2_ps.2.2.1, hne2_ps.2.2.2.1, hne2_ps.2.2.2.2.1, hne2_ps.2.2.2.2.2.1, hne2_ps.2.2.2.2.2.2.1, hne2_ps.2.2.2.2.2.2.2.1, hne2_ps.2.2.2.2.2.2.2.2.1, hne2_ps.2.2.2.2.2.2.2.2.2.1, hne2_ps.2.2.2.2.2.2.2.2.2.2, hat_rs.blk, hat_rs.esz, hat_rs.len, hat_rs.els, hne_rs, hne1_rs, hne2_rs.1, hne2_rs.2.1, hne2_rs.2.2.1, hne2_rs.2.2.2.1, hne2_rs.2.2.2.2.1, hne2_rs.2.2.2.2.2.1, hne2_rs.2.2.2.2.2.2.1, hne2_rs.2.2.2.2.2.2.2.1, hne2_rs.2.2.2.2.2.2.2.2.1, hne2_rs.2.2.2.2.2.2.2.2.2.1, hne2_rs.2.2.2.2.2.2.2.2.2.2, hlen, hne]
    (refine Out.plain hwf ?_ rfl ?_; (repeat first | exact Sub.refl _ | refine Sub.push hwf ?_ _ | refine Sub.set hwf ?_ (by first | exact Nat.le_refl _ | omega) _ | refine Sub.kill hwf ?_ (by first | exact Nat.le_refl _ | omega))); exact h
  simp (config := {contextual := true, implicitDefEqProofs := false, maxSteps := 2000000}) [-Int.not_le, -Int.not_lt, argsF, laws_rMarks_c, hat_ps.blk, hat_ps.esz, hat_ps.len, hat_ps.els, hne_ps, hne1_ps, hne2_ps.1, hne2_ps.2.1, hne2_ps.2.2.1, hne2_ps.2.2.2.1, hne2_ps.2.2.2.2.1, hne2_ps.2.2.2.2.2.1, hne2_ps.2.2.2.2.2.2.1, hne2_ps.2.2.2.2.2.2.2.1, hne2_ps.2.2.2.2.2.2.2.2.1, hne2_ps.2.2.2.2.2.2.2.2.2.1, hne2_ps.2.2.2.2.2.2.2.2.2.2, hat_rs.blk, hat_rs.esz, hat_rs.len, hat_rs.els, hne_rs, hne1_rs, hne2_rs.1, hne2_rs.2.1, hne2_rs.2.2.1, hne2_rs.2.2.2.1, hne2_rs.2.2.2.2.1, hne2_rs.2.2.2.2.2.1, hne2_rs.2.2.2.2.2.2.1, hne2_rs.2.2.2.2.2.2.2.1, hne2_rs.2.2.2.2.2.2.2.2.1, hne2_rs.2.2.2.2.2.2.2.2.2.1, hne2_rs.2.2.2.2.2.2.2.2.2.2, hlen]
  refine aloop_list ps (fun j _ => [(0, .c (.sl b_ps i_ps ps.length)), (1, .c (.sl b_rs i_rs rs.length)), (5, .c (.int .i64 (j)))]) (fun j _ => H) (fun j l _ => K (.c (.bool (decide (l = rs.drop j)))) H) hE _ (()) (by simpa using h) (Weak.since (H := H) (Nat.le_refl _) hwf (.refl _) (by simp [frOk, AV.okR, AV.ok1, AC.okR, AV.ren, AV.ren1, AC.ren, AFrame.get, pl1_old, *]; first | done | omega)) (fun j _ hlt hi => ?_) fun _ hi => ?_
  ·
    have e1 := hat_ps.get hlt
    have hj1 := idx_lt hlt
    have w1 : IntKind.i64.wrap ((j : Int) + 1) = (j : Int) + 1 := wrap_id (by omega) (by omega)
    have hr : j < rs.length := by omega
    have hr1 := idx_lt hr
    have e2 := hat_rs.get hr
    rw [List.drop_eq_getElem_cons hr] at hi
    simp (config := {contextual := true, implicitDefEqProofs := false, maxSteps := 60000}) [-Int.not_le, -Int.not_lt, argsF, laws_rMarks_l0, hat_rs.blk, hat_rs.esz, hat_rs.len, hat_rs.els, hne_rs, hne1_rs, hne2_rs.1, hne2_rs.2.1, hne2_rs.2.2.1, hne2_rs.2.2.2.1, hne2_rs.2.2.2.2.1, hne2_rs.2.2.2.2.2.1, hne2_rs.2.2.2.2.2.2.1, hne2_rs.2.2.2.2.2.2.2.1, hne2_rs.2.2.2.2.2.2.2.2.1, hne2_rs.2.2.2.2.2.2.2.2.2.1, hne2_rs.2.2.2.2.2.2.2.2.2.2, hat_ps.blk, hat_ps.esz, hat_ps.len, hat_ps.els, hne_ps, hne1_ps, hne2_ps.1, hne2_ps.2.1, hne2_ps.2.2.1, hne2_ps.2.2.2.1, hne2_ps.2.2.2.2.1, hne2_ps.2.2.2.2.2.1, hne2_ps.2.2.2.2.2.2.1, hne2_ps.2.2.2.2.2.2.2.1, hne2_ps.2.2.2.2.2.2.2.2.1, hne2_ps.2.2.2.2.2.2.2.2.2.1, hne2_ps.2.2.2.2.2.2.2.2.2.2, e1, hj1, w1, hr, hr1, e2]
    simp only [List.cons.injEq] at hi
    refine ite_i (fun g => ?_) (fun g => ?_)
    · have hne : ¬ ps[j] = rs[j] := fun e => by rw [e] at g; simp at g
      simp only [hne, false_and, decide_false] at hi
      (refine Out.plain hwf ?_ rfl ?_; (repeat first | exact Sub.refl _ | refine Sub.push hwf ?_ _ | refine Sub.set hwf ?_ (by first | exact Nat.le_refl _ | omega) _ | refine Sub.kill hwf ?_ (by first | exact Nat.le_refl _ | omega))); exact hi
    · have he : ps[j] = rs[j] := by
        simp only [not_or, Decidable.not_not] at g
        obtain ⟨q1, q2, q3, q4, q5, q6⟩ := g
        clear hi e1 e2
        generalize ps[j] = x at *
        generalize rs[j] = y at *
        cases x; cases y
        simp_all
      simp only [he, true_and] at hi
      exact ⟨(), hi, .drop hwf (by (repeat first | exact Sub.refl _ | refine Sub.push hwf ?_ _ | refine Sub.set hwf ?_ (by first | exact Nat.le_refl _ | omega) _ | refine Sub.kill hwf ?_ (by first | exact Nat.le_refl _ | omega))) (by simp [frOk, AV.okR, AV.ok1, AC.okR, AV.ren, AV.ren1, AC.ren, AFrame.get, pl1_old, *]; first | done | omega)⟩
  ·
    simp (config := {contextual := true, implicitDefEqProofs := false, maxSteps := 60000}) [-Int.not_le, -Int.not_lt, argsF, laws_rMarks_l0, hat_rs.blk, hat_rs.esz, hat_rs.len, hat_rs.els, hne_rs, hne1_rs, hne2_rs.1, hne2_rs.2.1, hne2_rs.2.2.1, hne2_rs.2.2.2.1, hne2_rs.2.2.2.2.1, hne2_rs.2.2.2.2.2.1, hne2_rs.2.2.2.2.2.2.1, hne2_rs.2.2.2.2.2.2.2.1, hne2_rs.2.2.2.2.2.2.2.2.1, hne2_rs.2.2.2.2.2.2.2.2.2.1, hne2_rs.2.2.2.2.2.2.2.2.2.2, hat_ps.blk, hat_ps.esz, hat_ps.len, hat_ps.els, hne_ps, hne1_ps, hne2_ps.1, hne2_ps.2.1, hne2_ps.2.2.1, hne2_ps.2.2.2.1, hne2_ps.2.2.2.2.1, hne2_ps.2.2.2.2.2.1, hne2_ps.2.2.2.2.2.2.1, hne2_ps.2.2.2.2.2.2.2.1, hne2_ps.2.2.2.2.2.2.2.2.1, hne2_ps.2.2.2.2.2.2.2.2.2.1, hne2_ps.2.2.2.2.2.2.2.2.2.2, hlen]
    rw [show ps.length = rs.length by omega, List.drop_length] at hi
    (refine Out.plain hwf ?_ rfl ?_; (repeat first | exact Sub.refl _ | refine Sub.push hwf ?_ _ | refine Sub.set hwf ?_ (by first | exact Nat.le_refl _ | omega) _ | refine Sub.kill hwf ?_ (by first | exact Nat.le_refl _ | omega))); simpa using hi

def q_hasT : Con := fun args H K => match args with
  | [ps_v, .c (.str s)] => eT.rd H (fun ps => K (.c (.bool (ps.any fun x => decide (x = s)))) H) ps_v
  | _ => False
@[simp ↓] theorem q_hasT_eq (ps_v : AV) (s : List UInt8) (H : AHeap) (K : AV → AHeap → Prop) : q_hasT [ps_v, .c (.str s)] H K = (eT.rd H (fun ps => K (.c (.bool (ps.any fun x => decide (x = s)))) H) ps_v) := rfl

end Go.Proofs.YtnehhdcaknppnaaDoor
