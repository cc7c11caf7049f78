/- The draws of the rates. -/
import Derived.Test.YtjiffkjeijfilaaCur
set_option maxRecDepth 8000
set_option linter.unusedSimpArgs false
set_option linter.unusedVariables false
namespace Go.Proofs.Ytjiffkjeijfilaa
open Go Go.RowKit

set_option maxHeartbeats 2000000

def q_rate : Con := fun args H K => match args with
  | [.c (.ptr c_p 0 0), .c (.int .i64 zone), .c (.int .i64 grams), .c (.int .i64 frm)] => onCur H c_p 800000000 fun b_c i_c n_c a_c s_c => Stop (∀ (r : Ra) (a' s' : Int), a_c ≤ a' → a' ≤ a_c + 8 → K (.agg (eRa.cells r)) (H.set c_p (curK b_c i_c n_c a' s'))) ()
  | _ => False
@[simp ↓] theorem q_rate_eq (c_p : Nat) (zone : Int) (grams : Int) (frm : Int) (H : AHeap) (K : AV → AHeap → Prop) : q_rate [.c (.ptr c_p 0 0), .c (.int .i64 zone), .c (.int .i64 grams), .c (.int .i64 frm)] H K = (onCur H c_p 800000000 fun b_c i_c n_c a_c s_c => Stop (∀ (r : Ra) (a' s' : Int), a_c ≤ a' → a' ≤ a_c + 8 → K (.agg (eRa.cells r)) (H.set c_p (curK b_c i_c n_c a' s'))) ()) := rfl

theorem spec_l1Cur__rate_s : Sound Try.prog 121 q_rate := by
  intro args H K h
  unfold q_rate at h
  split at h
  rotate_left
  all_goals first | exact False.elim h | skip
  rename_i c_p zone grams frm
  have h1 := onCur_iff.1 h
  clear h
  obtain ⟨b_c, i_c, n_c, a_c, s_c, k_c, l_c, hk_c, hcb_c, h0_c, hlim_c, hat_c, rfl, h⟩ := h1
  have hE := soundE_cons spec_l1Cur__among_s (soundE_cons spec_l1Cur__pick_s (soundE_nil (P := Try.prog)))
  refine acalls_fn __spec_l1Cur__rate_k hE ⟨by simp, fun hwf => ?_⟩
  have hb_c : b_c < H.n := (hwf b_c k_c hat_c.blk).1
  have hp_c : c_p < H.n := (hwf c_p _ hk_c).1
  have hbc_c : (b_c = c_p) = False := eq_false (Ne.symm hcb_c)
  have hbd_c : (c_p = b_c) = False := eq_false hcb_c
  have hne_c : (b_c = H.n) = False := eq_false (by omega)
  have hnp_c : (c_p = H.n) = False := eq_false (by omega)
  have hne1_c : ∀ i, (b_c = H.n + i) = False := fun i => eq_false (by omega)
  have hnp1_c : ∀ i, (c_p = H.n + i) = False := fun i => eq_false (by omega)
  have hne2_c : (b_c = H.n + 1 + 1) = False ∧ (b_c = H.n + 1 + 1 + 1) = False ∧ (b_c = H.n + 1 + 1 + 1 + 1) = False ∧ (b_c = H.n + 1 + 1 + 1 + 1 + 1) = False ∧ (b_c = H.n + 1 + 1 + 1 + 1 + 1 + 1) = False ∧ (b_c = H.n + 1 + 1 + 1 + 1 + 1 + 1 + 1) = False ∧ (b_c = H.n + 1 + 1 + 1 + 1 + 1 + 1 + 1 + 1) = False ∧ (b_c = H.n + 1 + 1 + 1 + 1 + 1 + 1 + 1 + 1 + 1) = False ∧ (b_c = H.n + 1 + 1 + 1 + 1 + 1 + 1 + 1 + 1 + 1 + 1) = False ∧ (b_c = H.n + 1 + 1 + 1 + 1 + 1 + 1 + 1 + 1 + 1 + 1 + 1) = False ∧ (b_c = H.n + 1 + 1 + 1 + 1 + 1 + 1 + 1 + 1 + 1 + 1 + 1 + 1) = False := ⟨eq_false (by omega), eq_false (by omega), eq_false (by omega), eq_false (by omega), eq_false (by omega), eq_false (by omega), eq_false (by omega), eq_false (by omega), eq_false (by omega), eq_false (by omega), eq_false (by omega)⟩
  have hne2_cp : (c_p = H.n + 1 + 1) = False ∧ (c_p = H.n + 1 + 1 + 1) = False ∧ (c_p = H.n + 1 + 1 + 1 + 1) = False ∧ (c_p = H.n + 1 + 1 + 1 + 1 + 1) = False ∧ (c_p = H.n + 1 + 1 + 1 + 1 + 1 + 1) = False ∧ (c_p = H.n + 1 + 1 + 1 + 1 + 1 + 1 + 1) = False ∧ (c_p = H.n + 1 + 1 + 1 + 1 + 1 + 1 + 1 + 1) = False ∧ (c_p = H.n + 1 + 1 + 1 + 1 + 1 + 1 + 1 + 1 + 1) = False ∧ (c_p = H.n + 1 + 1 + 1 + 1 + 1 + 1 + 1 + 1 + 1 + 1) = False ∧ (c_p = H.n + 1 + 1 + 1 + 1 + 1 + 1 + 1 + 1 + 1 + 1 + 1) = False ∧ (c_p = H.n + 1 + 1 + 1 + 1 + 1 + 1 + 1 + 1 + 1 + 1 + 1 + 1) = False := ⟨eq_false (by omega), eq_false (by omega), eq_false (by omega), eq_false (by omega), eq_false (by omega), eq_false (by omega), eq_false (by omega), eq_false (by omega), eq_false (by omega), eq_false (by omega), eq_false (by omega)⟩
  have hnq_c : (H.n = c_p) = False := eq_false (by omega)
  have hnq1_c : ∀ i, (H.n + i = c_p) = False := fun i => eq_false (by omega)
  have hnb_c : (H.n = b_c) = False := eq_false (by omega)
  have hnb1_c : ∀ i, (H.n + i = b_c) = False := fun i => eq_false (by omega)
  have hnr2_cp : (H.n + 1 + 1 = c_p) = False ∧ (H.n + 1 + 1 + 1 = c_p) = False ∧ (H.n + 1 + 1 + 1 + 1 = c_p) = False ∧ (H.n + 1 + 1 + 1 + 1 + 1 = c_p) = False ∧ (H.n + 1 + 1 + 1 + 1 + 1 + 1 = c_p) = False ∧ (H.n + 1 + 1 + 1 + 1 + 1 + 1 + 1 = c_p) = False ∧ (H.n + 1 + 1 + 1 + 1 + 1 + 1 + 1 + 1 = c_p) = False ∧ (H.n + 1 + 1 + 1 + 1 + 1 + 1 + 1 + 1 + 1 = c_p) = False ∧ (H.n + 1 + 1 + 1 + 1 + 1 + 1 + 1 + 1 + 1 + 1 = c_p) = False ∧ (H.n + 1 + 1 + 1 + 1 + 1 + 1 + 1 + 1 + 1 + 1 + 1 = c_p) = False ∧ (H.n + 1 + 1 + 1 + 1 + 1 + 1 + 1 + 1 + 1 + 1 + 1 + 1 = c_p) = False := ⟨eq_false (by omega), eq_false (by omega), eq_false (by omega), eq_false (by omega), eq_false (by omega), eq_false (by omega), eq_false (by omega), eq_false (by omega), eq_false (by omega), eq_false (by omega), eq_false (by omega)⟩
  have hnr2_c : (H.n + 1 + 1 = b_c) = False ∧ (H.n + 1 + 1 + 1 = b_c) = False ∧ (H.n + 1 + 1 + 1 + 1 = b_c) = False ∧ (H.n + 1 + 1 + 1 + 1 + 1 = b_c) = False ∧ (H.n + 1 + 1 + 1 + 1 + 1 + 1 = b_c) = False ∧ (H.n + 1 + 1 + 1 + 1 + 1 + 1 + 1 = b_c) = False ∧ (H.n + 1 + 1 + 1 + 1 + 1 + 1 + 1 + 1 = b_c) = False ∧ (H.n + 1 + 1 + 1 + 1 + 1 + 1 + 1 + 1 + 1 = b_c) = False ∧ (H.n + 1 + 1 + 1 + 1 + 1 + 1 + 1 + 1 + 1 + 1 = b_c) = False ∧ (H.n + 1 + 1 + 1 + 1 + 1 + 1 + 1 + 1 + 1 + 1 + 1 = b_c) = False ∧ (H.n + 1 + 1 + 1 + 1 + 1 + 1 + 1 + 1 + 1 + 1 + 1 + 1 = b_c) = False := ⟨eq_false (by omega), eq_false (by omega), eq_false (by omega), eq_false (by omega), eq_false (by omega), eq_false (by omega), eq_false (by omega), eq_false (by omega), eq_false (by omega), eq_false (by omega), eq_false (by omega)⟩
  have hmx_c : l_c.length ≤ 9223372036854775807 := by have h1 := (hwf b_c k_c hat_c.blk).2.2; have h2 := hat_c.len; omega
  have hl8 : a_c ≤ 900000000 := by omega
  simp (config := {contextual := true, implicitDefEqProofs := false, maxSteps := 2000000}) [-Int.not_le, -Int.not_lt, argsF, __spec_l1Cur__rate_c, onCur, dlI, dlT, hk_c, hcb_c, hbc_c, hbd_c, h0_c, hlim_c, hat_c.blk, hat_c.esz, hat_c.len, hat_c.els, hne_c, hnp_c, hne1_c, hnp1_c, hnq_c, hnq1_c, hnb_c, hnb1_c, hne2_c.1, hne2_c.2.1, hne2_c.2.2.1, hne2_c.2.2.2.1, hne2_c.2.2.2.2.1, hne2_c.2.2.2.2.2.1, hne2_c.2.2.2.2.2.2.1, hne2_c.2.2.2.2.2.2.2.1, hne2_c.2.2.2.2.2.2.2.2.1, hne2_c.2.2.2.2.2.2.2.2.2.1, hne2_c.2.2.2.2.2.2.2.2.2.2, hne2_cp.1, hne2_cp.2.1, hne2_cp.2.2.1, hne2_cp.2.2.2.1, hne2_cp.2.2.2.2.1, hne2_cp.2.2.2.2.2.1, hne2_cp.2.2.2.2.2.2.1, hne2_cp.2.2.2.2.2.2.2.1, hne2_cp.2.2.2.2.2.2.2.2.1, hne2_cp.2.2.2.2.2.2.2.2.2.1, hne2_cp.2.2.2.2.2.2.2.2.2.2, hnr2_c.1, hnr2_c.2.1, hnr2_c.2.2.1, hnr2_c.2.2.2.1, hnr2_c.2.2.2.2.1, hnr2_c.2.2.2.2.2.1, hnr2_c.2.2.2.2.2.2.1, hnr2_c.2.2.2.2.2.2.2.1, hnr2_c.2.2.2.2.2.2.2.2.1, hnr2_c.2.2.2.2.2.2.2.2.2.1, hnr2_c.2.2.2.2.2.2.2.2.2.2, hnr2_cp.1, hnr2_cp.2.1, hnr2_cp.2.2.1, hnr2_cp.2.2.2.1, hnr2_cp.2.2.2.2.1, hnr2_cp.2.2.2.2.2.1, hnr2_cp.2.2.2.2.2.2.1, hnr2_cp.2.2.2.2.2.2.2.1, hnr2_cp.2.2.2.2.2.2.2.2.1, hnr2_cp.2.2.2.2.2.2.2.2.2.1, hnr2_cp.2.2.2.2.2.2.2.2.2.2, hl8]
  refine Stop.mk fun u a1 s1 hu0 hl1 hu1 => ?_
  have hlA : 0 ≤ a1 ∧ a1 ≤ 900000000 := by omega
  simp (config := {contextual := true, implicitDefEqProofs := false, maxSteps := 2000000}) [-Int.not_le, -Int.not_lt, argsF, __spec_l1Cur__rate_c, onCur, dlI, dlT, hk_c, hcb_c, hbc_c, hbd_c, h0_c, hlim_c, hat_c.blk, hat_c.esz, hat_c.len, hat_c.els, hne_c, hnp_c, hne1_c, hnp1_c, hnq_c, hnq1_c, hnb_c, hnb1_c, hne2_c.1, hne2_c.2.1, hne2_c.2.2.1, hne2_c.2.2.2.1, hne2_c.2.2.2.2.1, hne2_c.2.2.2.2.2.1, hne2_c.2.2.2.2.2.2.1, hne2_c.2.2.2.2.2.2.2.1, hne2_c.2.2.2.2.2.2.2.2.1, hne2_c.2.2.2.2.2.2.2.2.2.1, hne2_c.2.2.2.2.2.2.2.2.2.2, hne2_cp.1, hne2_cp.2.1, hne2_cp.2.2.1, hne2_cp.2.2.2.1, hne2_cp.2.2.2.2.1, hne2_cp.2.2.2.2.2.1, hne2_cp.2.2.2.2.2.2.1, hne2_cp.2.2.2.2.2.2.2.1, hne2_cp.2.2.2.2.2.2.2.2.1, hne2_cp.2.2.2.2.2.2.2.2.2.1, hne2_cp.2.2.2.2.2.2.2.2.2.2, hnr2_c.1, hnr2_c.2.1, hnr2_c.2.2.1, hnr2_c.2.2.2.1, hnr2_c.2.2.2.2.1, hnr2_c.2.2.2.2.2.1, hnr2_c.2.2.2.2.2.2.1, hnr2_c.2.2.2.2.2.2.2.1, hnr2_c.2.2.2.2.2.2.2.2.1, hnr2_c.2.2.2.2.2.2.2.2.2.1, hnr2_c.2.2.2.2.2.2.2.2.2.2, hnr2_cp.1, hnr2_cp.2.1, hnr2_cp.2.2.1, hnr2_cp.2.2.2.1, hnr2_cp.2.2.2.2.1, hnr2_cp.2.2.2.2.2.1, hnr2_cp.2.2.2.2.2.2.1, hnr2_cp.2.2.2.2.2.2.2.1, hnr2_cp.2.2.2.2.2.2.2.2.1, hnr2_cp.2.2.2.2.2.2.2.2.2.1, hnr2_cp.2.2.2.2.2.2.2.2.2.2, hlA]
  refine Stop.mk fun ce a2 s2 hce hl2 hu2 => ?_
  have hlB : 0 ≤ a2 ∧ a2 ≤ 900000000 := by omega
  simp (config := {contextual := true, implicitDefEqProofs := false, maxSteps := 2000000}) [-Int.not_le, -Int.not_lt, argsF, __spec_l1Cur__rate_c, onCur, dlI, dlT, hk_c, hcb_c, hbc_c, hbd_c, h0_c, hlim_c, hat_c.blk, hat_c.esz, hat_c.len, hat_c.els, hne_c, hnp_c, hne1_c, hnp1_c, hnq_c, hnq1_c, hnb_c, hnb1_c, hne2_c.1, hne2_c.2.1, hne2_c.2.2.1, hne2_c.2.2.2.1, hne2_c.2.2.2.2.1, hne2_c.2.2.2.2.2.1, hne2_c.2.2.2.2.2.2.1, hne2_c.2.2.2.2.2.2.2.1, hne2_c.2.2.2.2.2.2.2.2.1, hne2_c.2.2.2.2.2.2.2.2.2.1, hne2_c.2.2.2.2.2.2.2.2.2.2, hne2_cp.1, hne2_cp.2.1, hne2_cp.2.2.1, hne2_cp.2.2.2.1, hne2_cp.2.2.2.2.1, hne2_cp.2.2.2.2.2.1, hne2_cp.2.2.2.2.2.2.1, hne2_cp.2.2.2.2.2.2.2.1, hne2_cp.2.2.2.2.2.2.2.2.1, hne2_cp.2.2.2.2.2.2.2.2.2.1, hne2_cp.2.2.2.2.2.2.2.2.2.2, hnr2_c.1, hnr2_c.2.1, hnr2_c.2.2.1, hnr2_c.2.2.2.1, hnr2_c.2.2.2.2.1, hnr2_c.2.2.2.2.2.1, hnr2_c.2.2.2.2.2.2.1, hnr2_c.2.2.2.2.2.2.2.1, hnr2_c.2.2.2.2.2.2.2.2.1, hnr2_c.2.2.2.2.2.2.2.2.2.1, hnr2_c.2.2.2.2.2.2.2.2.2.2, hnr2_cp.1, hnr2_cp.2.1, hnr2_cp.2.2.1, hnr2_cp.2.2.2.1, hnr2_cp.2.2.2.2.1, hnr2_cp.2.2.2.2.2.1, hnr2_cp.2.2.2.2.2.2.1, hnr2_cp.2.2.2.2.2.2.2.1, hnr2_cp.2.2.2.2.2.2.2.2.1, hnr2_cp.2.2.2.2.2.2.2.2.2.1, hnr2_cp.2.2.2.2.2.2.2.2.2.2, hlB]
  generalize IntKind.i64.wrap (frm + u) = til
  refine Stop.mk fun x a3 s3 hl3 hu3 hx3 => ?_
  have hlC : 0 ≤ a3 ∧ a3 ≤ 900000000 := by omega
  rcases (show x = 0 ∨ x = 1 ∨ 2 ≤ x by omega) with rfl | rfl | hx2
  · simp (config := {contextual := true, implicitDefEqProofs := false, maxSteps := 2000000}) [-Int.not_le, -Int.not_lt, argsF, __spec_l1Cur__rate_c, onCur, dlI, dlT, hk_c, hcb_c, hbc_c, hbd_c, h0_c, hlim_c, hat_c.blk, hat_c.esz, hat_c.len, hat_c.els, hne_c, hnp_c, hne1_c, hnp1_c, hnq_c, hnq1_c, hnb_c, hnb1_c, hne2_c.1, hne2_c.2.1, hne2_c.2.2.1, hne2_c.2.2.2.1, hne2_c.2.2.2.2.1, hne2_c.2.2.2.2.2.1, hne2_c.2.2.2.2.2.2.1, hne2_c.2.2.2.2.2.2.2.1, hne2_c.2.2.2.2.2.2.2.2.1, hne2_c.2.2.2.2.2.2.2.2.2.1, hne2_c.2.2.2.2.2.2.2.2.2.2, hne2_cp.1, hne2_cp.2.1, hne2_cp.2.2.1, hne2_cp.2.2.2.1, hne2_cp.2.2.2.2.1, hne2_cp.2.2.2.2.2.1, hne2_cp.2.2.2.2.2.2.1, hne2_cp.2.2.2.2.2.2.2.1, hne2_cp.2.2.2.2.2.2.2.2.1, hne2_cp.2.2.2.2.2.2.2.2.2.1, hne2_cp.2.2.2.2.2.2.2.2.2.2, hnr2_c.1, hnr2_c.2.1, hnr2_c.2.2.1, hnr2_c.2.2.2.1, hnr2_c.2.2.2.2.1, hnr2_c.2.2.2.2.2.1, hnr2_c.2.2.2.2.2.2.1, hnr2_c.2.2.2.2.2.2.2.1, hnr2_c.2.2.2.2.2.2.2.2.1, hnr2_c.2.2.2.2.2.2.2.2.2.1, hnr2_c.2.2.2.2.2.2.2.2.2.2, hnr2_cp.1, hnr2_cp.2.1, hnr2_cp.2.2.1, hnr2_cp.2.2.2.1, hnr2_cp.2.2.2.2.1, hnr2_cp.2.2.2.2.2.1, hnr2_cp.2.2.2.2.2.2.1, hnr2_cp.2.2.2.2.2.2.2.1, hnr2_cp.2.2.2.2.2.2.2.2.1, hnr2_cp.2.2.2.2.2.2.2.2.2.1, hnr2_cp.2.2.2.2.2.2.2.2.2.2, hlC, wrap_id]
    refine Stop.mk fun y a4 s4 hy hl4 hu4 => ?_
    simp (config := {contextual := true, implicitDefEqProofs := false, maxSteps := 2000000}) [-Int.not_le, -Int.not_lt, argsF, __spec_l1Cur__rate_c, onCur, dlI, dlT, hk_c, hcb_c, hbc_c, hbd_c, h0_c, hlim_c, hat_c.blk, hat_c.esz, hat_c.len, hat_c.els, hne_c, hnp_c, hne1_c, hnp1_c, hnq_c, hnq1_c, hnb_c, hnb1_c, hne2_c.1, hne2_c.2.1, hne2_c.2.2.1, hne2_c.2.2.2.1, hne2_c.2.2.2.2.1, hne2_c.2.2.2.2.2.1, hne2_c.2.2.2.2.2.2.1, hne2_c.2.2.2.2.2.2.2.1, hne2_c.2.2.2.2.2.2.2.2.1, hne2_c.2.2.2.2.2.2.2.2.2.1, hne2_c.2.2.2.2.2.2.2.2.2.2, hne2_cp.1, hne2_cp.2.1, hne2_cp.2.2.1, hne2_cp.2.2.2.1, hne2_cp.2.2.2.2.1, hne2_cp.2.2.2.2.2.1, hne2_cp.2.2.2.2.2.2.1, hne2_cp.2.2.2.2.2.2.2.1, hne2_cp.2.2.2.2.2.2.2.2.1, hne2_cp.2.2.2.2.2.2.2.2.2.1, hne2_cp.2.2.2.2.2.2.2.2.2.2, hnr2_c.1, hnr2_c.2.1, hnr2_c.2.2.1, hnr2_c.2.2.2.1, hnr2_c.2.2.2.2.1, hnr2_c.2.2.2.2.2.1, hnr2_c.2.2.2.2.2.2.1, hnr2_c.2.2.2.2.2.2.2.1, hnr2_c.2.2.2.2.2.2.2.2.1, hnr2_c.2.2.2.2.2.2.2.2.2.1, hnr2_c.2.2.2.2.2.2.2.2.2.2, hnr2_cp.1, hnr2_cp.2.1, hnr2_cp.2.2.1, hnr2_cp.2.2.2.1, hnr2_cp.2.2.2.2.1, hnr2_cp.2.2.2.2.2.1, hnr2_cp.2.2.2.2.2.2.1, hnr2_cp.2.2.2.2.2.2.2.1, hnr2_cp.2.2.2.2.2.2.2.2.1, hnr2_cp.2.2.2.2.2.2.2.2.2.1, hnr2_cp.2.2.2.2.2.2.2.2.2.2]
    exact .old (H := H.set c_p _) (cur_wf hwf hk_c _ _) (cur_sub hwf hk_c (by simp only [push_n, set_n, kill_n]; omega) (by simp only [push_I, set_I, kill_I]) (by simp [push_b, set_b, kill_b, hnp_c, hnp1_c, hne2_cp.1, hne2_cp.2.1, hne2_cp.2.2.1, hne2_cp.2.2.2.1, hne2_cp.2.2.2.2.1, hne2_cp.2.2.2.2.2.1, hne2_cp.2.2.2.2.2.2.1, hne2_cp.2.2.2.2.2.2.2.1, hne2_cp.2.2.2.2.2.2.2.2.1, hne2_cp.2.2.2.2.2.2.2.2.2.1, hne2_cp.2.2.2.2.2.2.2.2.2.2]; done) (fun j hj hjc => by have hnj : (j = H.n) = False := eq_false (by omega); have hnj1 : ∀ i, (j = H.n + i) = False := fun i => eq_false (by omega); have hne2_j : (j = H.n + 1 + 1) = False ∧ (j = H.n + 1 + 1 + 1) = False ∧ (j = H.n + 1 + 1 + 1 + 1) = False ∧ (j = H.n + 1 + 1 + 1 + 1 + 1) = False ∧ (j = H.n + 1 + 1 + 1 + 1 + 1 + 1) = False ∧ (j = H.n + 1 + 1 + 1 + 1 + 1 + 1 + 1) = False ∧ (j = H.n + 1 + 1 + 1 + 1 + 1 + 1 + 1 + 1) = False ∧ (j = H.n + 1 + 1 + 1 + 1 + 1 + 1 + 1 + 1 + 1) = False ∧ (j = H.n + 1 + 1 + 1 + 1 + 1 + 1 + 1 + 1 + 1 + 1) = False ∧ (j = H.n + 1 + 1 + 1 + 1 + 1 + 1 + 1 + 1 + 1 + 1 + 1) = False ∧ (j = H.n + 1 + 1 + 1 + 1 + 1 + 1 + 1 + 1 + 1 + 1 + 1 + 1) = False := ⟨eq_false (by omega), eq_false (by omega), eq_false (by omega), eq_false (by omega), eq_false (by omega), eq_false (by omega), eq_false (by omega), eq_false (by omega), eq_false (by omega), eq_false (by omega), eq_false (by omega)⟩;  simp [push_b, set_b, kill_b, hjc, hnj, hnj1, hne2_j.1, hne2_j.2.1, hne2_j.2.2.1, hne2_j.2.2.2.1, hne2_j.2.2.2.2.1, hne2_j.2.2.2.2.2.1, hne2_j.2.2.2.2.2.2.1, hne2_j.2.2.2.2.2.2.2.1, hne2_j.2.2.2.2.2.2.2.2.1, hne2_j.2.2.2.2.2.2.2.2.2.1, hne2_j.2.2.2.2.2.2.2.2.2.2]; done)) (by simp [frOk, AV.okR, AV.ok1, AC.okR, AV.ren, AV.ren1, AC.ren, AFrame.get, pl1_old, *]; first | done | rfl | omega) (Stop.out h ⟨zone, grams, frm, y, ce⟩ a4 s4 (by omega) (by omega))
  · simp (config := {contextual := true, implicitDefEqProofs := false, maxSteps := 2000000}) [-Int.not_le, -Int.not_lt, argsF, __spec_l1Cur__rate_c, onCur, dlI, dlT, hk_c, hcb_c, hbc_c, hbd_c, h0_c, hlim_c, hat_c.blk, hat_c.esz, hat_c.len, hat_c.els, hne_c, hnp_c, hne1_c, hnp1_c, hnq_c, hnq1_c, hnb_c, hnb1_c, hne2_c.1, hne2_c.2.1, hne2_c.2.2.1, hne2_c.2.2.2.1, hne2_c.2.2.2.2.1, hne2_c.2.2.2.2.2.1, hne2_c.2.2.2.2.2.2.1, hne2_c.2.2.2.2.2.2.2.1, hne2_c.2.2.2.2.2.2.2.2.1, hne2_c.2.2.2.2.2.2.2.2.2.1, hne2_c.2.2.2.2.2.2.2.2.2.2, hne2_cp.1, hne2_cp.2.1, hne2_cp.2.2.1, hne2_cp.2.2.2.1, hne2_cp.2.2.2.2.1, hne2_cp.2.2.2.2.2.1, hne2_cp.2.2.2.2.2.2.1, hne2_cp.2.2.2.2.2.2.2.1, hne2_cp.2.2.2.2.2.2.2.2.1, hne2_cp.2.2.2.2.2.2.2.2.2.1, hne2_cp.2.2.2.2.2.2.2.2.2.2, hnr2_c.1, hnr2_c.2.1, hnr2_c.2.2.1, hnr2_c.2.2.2.1, hnr2_c.2.2.2.2.1, hnr2_c.2.2.2.2.2.1, hnr2_c.2.2.2.2.2.2.1, hnr2_c.2.2.2.2.2.2.2.1, hnr2_c.2.2.2.2.2.2.2.2.1, hnr2_c.2.2.2.2.2.2.2.2.2.1, hnr2_c.2.2.2.2.2.2.2.2.2.2, hnr2_cp.1, hnr2_cp.2.1, hnr2_cp.2.2.1, hnr2_cp.2.2.2.1, hnr2_cp.2.2.2.2.1, hnr2_cp.2.2.2.2.2.1, hnr2_cp.2.2.2.2.2.2.1, hnr2_cp.2.2.2.2.2.2.2.1, hnr2_cp.2.2.2.2.2.2.2.2.1, hnr2_cp.2.2.2.2.2.2.2.2.2.1, hnr2_cp.2.2.2.2.2.2.2.2.2.2, hlC, wrap_id]
    refine Stop.mk fun y a4 s4 hy hl4 hu4 => ?_
    simp (config := {contextual := true, implicitDefEqProofs := false, maxSteps := 2000000}) [-Int.not_le, -Int.not_lt, argsF, __spec_l1Cur__rate_c, onCur, dlI, dlT, hk_c, hcb_c, hbc_c, hbd_c, h0_c, hlim_c, hat_c.blk, hat_c.esz, hat_c.len, hat_c.els, hne_c, hnp_c, hne1_c, hnp1_c, hnq_c, hnq1_c, hnb_c, hnb1_c, hne2_c.1, hne2_c.2.1, hne2_c.2.2.1, hne2_c.2.2.2.1, hne2_c.2.2.2.2.1, hne2_c.2.2.2.2.2.1, hne2_c.2.2.2.2.2.2.1, hne2_c.2.2.2.2.2.2.2.1, hne2_c.2.2.2.2.2.2.2.2.1, hne2_c.2.2.2.2.2.2.2.2.2.1, hne2_c.2.2.2.2.2.2.2.2.2.2, hne2_cp.1, hne2_cp.2.1, hne2_cp.2.2.1, hne2_cp.2.2.2.1, hne2_cp.2.2.2.2.1, hne2_cp.2.2.2.2.2.1, hne2_cp.2.2.2.2.2.2.1, hne2_cp.2.2.2.2.2.2.2.1, hne2_cp.2.2.2.2.2.2.2.2.1, hne2_cp.2.2.2.2.2.2.2.2.2.1, hne2_cp.2.2.2.2.2.2.2.2.2.2, hnr2_c.1, hnr2_c.2.1, hnr2_c.2.2.1, hnr2_c.2.2.2.1, hnr2_c.2.2.2.2.1, hnr2_c.2.2.2.2.2.1, hnr2_c.2.2.2.2.2.2.1, hnr2_c.2.2.2.2.2.2.2.1, hnr2_c.2.2.2.2.2.2.2.2.1, hnr2_c.2.2.2.2.2.2.2.2.2.1, hnr2_c.2.2.2.2.2.2.2.2.2.2, hnr2_cp.1, hnr2_cp.2.1, hnr2_cp.2.2.1, hnr2_cp.2.2.2.1, hnr2_cp.2.2.2.2.1, hnr2_cp.2.2.2.2.2.1, hnr2_cp.2.2.2.2.2.2.1, hnr2_cp.2.2.2.2.2.2.2.1, hnr2_cp.2.2.2.2.2.2.2.2.1, hnr2_cp.2.2.2.2.2.2.2.2.2.1, hnr2_cp.2.2.2.2.2.2.2.2.2.2]
    exact .old (H := H.set c_p _) (cur_wf hwf hk_c _ _) (cur_sub hwf hk_c (by simp only [push_n, set_n, kill_n]; omega) (by simp only [push_I, set_I, kill_I]) (by simp [push_b, set_b, kill_b, hnp_c, hnp1_c, hne2_cp.1, hne2_cp.2.1, hne2_cp.2.2.1, hne2_cp.2.2.2.1, hne2_cp.2.2.2.2.1, hne2_cp.2.2.2.2.2.1, hne2_cp.2.2.2.2.2.2.1, hne2_cp.2.2.2.2.2.2.2.1, hne2_cp.2.2.2.2.2.2.2.2.1, hne2_cp.2.2.2.2.2.2.2.2.2.1, hne2_cp.2.2.2.2.2.2.2.2.2.2]; done) (fun j hj hjc => by have hnj : (j = H.n) = False := eq_false (by omega); have hnj1 : ∀ i, (j = H.n + i) = False := fun i => eq_false (by omega); have hne2_j : (j = H.n + 1 + 1) = False ∧ (j = H.n + 1 + 1 + 1) = False ∧ (j = H.n + 1 + 1 + 1 + 1) = False ∧ (j = H.n + 1 + 1 + 1 + 1 + 1) = False ∧ (j = H.n + 1 + 1 + 1 + 1 + 1 + 1) = False ∧ (j = H.n + 1 + 1 + 1 + 1 + 1 + 1 + 1) = False ∧ (j = H.n + 1 + 1 + 1 + 1 + 1 + 1 + 1 + 1) = False ∧ (j = H.n + 1 + 1 + 1 + 1 + 1 + 1 + 1 + 1 + 1) = False ∧ (j = H.n + 1 + 1 + 1 + 1 + 1 + 1 + 1 + 1 + 1 + 1) = False ∧ (j = H.n + 1 + 1 + 1 + 1 + 1 + 1 + 1 + 1 + 1 + 1 + 1) = False ∧ (j = H.n + 1 + 1 + 1 + 1 + 1 + 1 + 1 + 1 + 1 + 1 + 1 + 1) = False := ⟨eq_false (by omega), eq_false (by omega), eq_false (by omega), eq_false (by omega), eq_false (by omega), eq_false (by omega), eq_false (by omega), eq_false (by omega), eq_false (by omega), eq_false (by omega), eq_false (by omega)⟩;  simp [push_b, set_b, kill_b, hjc, hnj, hnj1, hne2_j.1, hne2_j.2.1, hne2_j.2.2.1, hne2_j.2.2.2.1, hne2_j.2.2.2.2.1, hne2_j.2.2.2.2.2.1, hne2_j.2.2.2.2.2.2.1, hne2_j.2.2.2.2.2.2.2.1, hne2_j.2.2.2.2.2.2.2.2.1, hne2_j.2.2.2.2.2.2.2.2.2.1, hne2_j.2.2.2.2.2.2.2.2.2.2]; done)) (by simp [frOk, AV.okR, AV.ok1, AC.okR, AV.ren, AV.ren1, AC.ren, AFrame.get, pl1_old, *]; first | done | rfl | omega) (Stop.out h ⟨zone, grams, frm, til, y⟩ a4 s4 (by omega) (by omega))
  · have k0 : ((x : Int) = 0) = False := eq_false (by omega)
    have k1 : ((x : Int) = 1) = False := eq_false (by omega)
    have k2 : (x = 0) = False := eq_false (by omega)
    have k3 : (x = 1) = False := eq_false (by omega)
    simp (config := {contextual := true, implicitDefEqProofs := false, maxSteps := 2000000}) [-Int.not_le, -Int.not_lt, argsF, __spec_l1Cur__rate_c, onCur, dlI, dlT, hk_c, hcb_c, hbc_c, hbd_c, h0_c, hlim_c, hat_c.blk, hat_c.esz, hat_c.len, hat_c.els, hne_c, hnp_c, hne1_c, hnp1_c, hnq_c, hnq1_c, hnb_c, hnb1_c, hne2_c.1, hne2_c.2.1, hne2_c.2.2.1, hne2_c.2.2.2.1, hne2_c.2.2.2.2.1, hne2_c.2.2.2.2.2.1, hne2_c.2.2.2.2.2.2.1, hne2_c.2.2.2.2.2.2.2.1, hne2_c.2.2.2.2.2.2.2.2.1, hne2_c.2.2.2.2.2.2.2.2.2.1, hne2_c.2.2.2.2.2.2.2.2.2.2, hne2_cp.1, hne2_cp.2.1, hne2_cp.2.2.1, hne2_cp.2.2.2.1, hne2_cp.2.2.2.2.1, hne2_cp.2.2.2.2.2.1, hne2_cp.2.2.2.2.2.2.1, hne2_cp.2.2.2.2.2.2.2.1, hne2_cp.2.2.2.2.2.2.2.2.1, hne2_cp.2.2.2.2.2.2.2.2.2.1, hne2_cp.2.2.2.2.2.2.2.2.2.2, hnr2_c.1, hnr2_c.2.1, hnr2_c.2.2.1, hnr2_c.2.2.2.1, hnr2_c.2.2.2.2.1, hnr2_c.2.2.2.2.2.1, hnr2_c.2.2.2.2.2.2.1, hnr2_c.2.2.2.2.2.2.2.1, hnr2_c.2.2.2.2.2.2.2.2.1, hnr2_c.2.2.2.2.2.2.2.2.2.1, hnr2_c.2.2.2.2.2.2.2.2.2.2, hnr2_cp.1, hnr2_cp.2.1, hnr2_cp.2.2.1, hnr2_cp.2.2.2.1, hnr2_cp.2.2.2.2.1, hnr2_cp.2.2.2.2.2.1, hnr2_cp.2.2.2.2.2.2.1, hnr2_cp.2.2.2.2.2.2.2.1, hnr2_cp.2.2.2.2.2.2.2.2.1, hnr2_cp.2.2.2.2.2.2.2.2.2.1, hnr2_cp.2.2.2.2.2.2.2.2.2.2, hlC, wrap_id, k0, k1, k2, k3]
    exact .old (H := H.set c_p _) (cur_wf hwf hk_c _ _) (cur_sub hwf hk_c (by simp only [push_n, set_n, kill_n]; omega) (by simp only [push_I, set_I, kill_I]) (by simp [push_b, set_b, kill_b, hnp_c, hnp1_c, hne2_cp.1, hne2_cp.2.1, hne2_cp.2.2.1, hne2_cp.2.2.2.1, hne2_cp.2.2.2.2.1, hne2_cp.2.2.2.2.2.1, hne2_cp.2.2.2.2.2.2.1, hne2_cp.2.2.2.2.2.2.2.1, hne2_cp.2.2.2.2.2.2.2.2.1, hne2_cp.2.2.2.2.2.2.2.2.2.1, hne2_cp.2.2.2.2.2.2.2.2.2.2]; done) (fun j hj hjc => by have hnj : (j = H.n) = False := eq_false (by omega); have hnj1 : ∀ i, (j = H.n + i) = False := fun i => eq_false (by omega); have hne2_j : (j = H.n + 1 + 1) = False ∧ (j = H.n + 1 + 1 + 1) = False ∧ (j = H.n + 1 + 1 + 1 + 1) = False ∧ (j = H.n + 1 + 1 + 1 + 1 + 1) = False ∧ (j = H.n + 1 + 1 + 1 + 1 + 1 + 1) = False ∧ (j = H.n + 1 + 1 + 1 + 1 + 1 + 1 + 1) = False ∧ (j = H.n + 1 + 1 + 1 + 1 + 1 + 1 + 1 + 1) = False ∧ (j = H.n + 1 + 1 + 1 + 1 + 1 + 1 + 1 + 1 + 1) = False ∧ (j = H.n + 1 + 1 + 1 + 1 + 1 + 1 + 1 + 1 + 1 + 1) = False ∧ (j = H.n + 1 + 1 + 1 + 1 + 1 + 1 + 1 + 1 + 1 + 1 + 1) = False ∧ (j = H.n + 1 + 1 + 1 + 1 + 1 + 1 + 1 + 1 + 1 + 1 + 1 + 1) = False := ⟨eq_false (by omega), eq_false (by omega), eq_false (by omega), eq_false (by omega), eq_false (by omega), eq_false (by omega), eq_false (by omega), eq_false (by omega), eq_false (by omega), eq_false (by omega), eq_false (by omega)⟩;  simp [push_b, set_b, kill_b, hjc, hnj, hnj1, hne2_j.1, hne2_j.2.1, hne2_j.2.2.1, hne2_j.2.2.2.1, hne2_j.2.2.2.2.1, hne2_j.2.2.2.2.2.1, hne2_j.2.2.2.2.2.2.1, hne2_j.2.2.2.2.2.2.2.1, hne2_j.2.2.2.2.2.2.2.2.1, hne2_j.2.2.2.2.2.2.2.2.2.1, hne2_j.2.2.2.2.2.2.2.2.2.2]; done)) (by simp [frOk, AV.okR, AV.ok1, AC.okR, AV.ren, AV.ren1, AC.ren, AFrame.get, pl1_old, *]; first | done | rfl | omega) (Stop.out h ⟨zone, grams, frm, til, ce⟩ a3 s3 (by omega) (by omega))

/-- what stands below stays, but for the cursor -/
theorem cur_sub2 {H : AHeap} {c b i n : Nat} {a s : Int} (h : H.b c = some (curK b i n a s)) {a' s' : Int} {F : AHeap} (hn : H.n ≤ F.n) (hI : F.I = H.I) (hc : F.b c = some (curK b i n a' s')) (ho : ∀ j k, j ≠ c → H.b j = some k → F.b j = some k) : Sub (H.set c (curK b i n a' s')) F := ⟨⟨by simpa using hn, fun j k hj => by
  rw [set_b] at hj
  split at hj
  · rename_i e; subst e; rw [hc]; exact hj
  · rename_i e; exact ho j k e hj⟩, by simpa using hI.symm⟩

structure DRa where
  H : AHeap
  a : Int
  s : Int
  out : List Ra
  ob : Nat
  z : Nat
  g : Nat
structure DRa.Ok (x : DRa) (H : AHeap) (c b i n : Nat) (a up : Int) (ln : Nat) : Prop where
  hn : H.n ≤ x.H.n
  hI : x.H.I = H.I
  cur : x.H.b c = some (curK b i n x.a x.s)
  old : ∀ j k, j ≠ c → H.b j = some k → x.H.b j = some k
  row : x.H.b x.ob = some (rowK eRa 122 x.out)
  hob : H.n ≤ x.ob
  at0 : a ≤ x.a
  at1 : x.a ≤ up
  len : x.out.length ≤ ln
theorem DRa.Ok.more {x : DRa} {H : AHeap} {c b i n ln ln' : Nat} {a up up' : Int} (h : x.Ok H c b i n a up ln) (h1 : up ≤ up') (h2 : ln ≤ ln') (z g : Nat) : DRa.Ok ⟨x.H, x.a, x.s, x.out, x.ob, z, g⟩ H c b i n a up' ln' :=
  ⟨h.hn, h.hI, h.cur, h.old, h.row, h.hob, h.at0, Int.le_trans h.at1 h1, Nat.le_trans h.len h2⟩

def q_rates : Con := fun args H K => match args with
  | [.c (.ptr c_p 0 0)] => onCur H c_p 600000000 fun b_c i_c n_c a_c s_c => Stop (∀ (ps : List Ra) (a' s' : Int), ps.length ≤ 40 → a_c ≤ a' → a' ≤ a_c + 5000 → K (.c (.sl (H.n) (0) (ps.length))) ((H.set c_p (curK b_c i_c n_c a' s')).push (rowK eRa 122 ps))) ()
  | _ => False
@[simp ↓] theorem q_rates_eq (c_p : Nat) (H : AHeap) (K : AV → AHeap → Prop) : q_rates [.c (.ptr c_p 0 0)] H K = (onCur H c_p 600000000 fun b_c i_c n_c a_c s_c => Stop (∀ (ps : List Ra) (a' s' : Int), ps.length ≤ 40 → a_c ≤ a' → a' ≤ a_c + 5000 → K (.c (.sl (H.n) (0) (ps.length))) ((H.set c_p (curK b_c i_c n_c a' s')).push (rowK eRa 122 ps))) ()) := rfl

theorem spec_l1Cur__rates_s : Sound Try.prog 67 q_rates := by
  intro args H K h
  unfold q_rates at h
  split at h
  rotate_left
  all_goals first | exact False.elim h | skip
  rename_i c_p
  have h1 := onCur_iff.1 h
  clear h
  obtain ⟨b_c, i_c, n_c, a_c, s_c, k_c, l_c, hk_c, hcb_c, h0_c, hlim_c, hat_c, rfl, h⟩ := h1
  have hE := soundE_cons spec_l1Cur__one_s (soundE_cons spec_l1Cur__among_s (soundE_cons spec_l1Cur__rate_s (soundE_cons spec_l1Cur__pick_s (soundE_nil (P := Try.prog)))))
  refine acalls_fn __spec_l1Cur__rates_k hE ⟨by simp, fun hwf => ?_⟩
  have hb_c : b_c < H.n := (hwf b_c k_c hat_c.blk).1
  have hp_c : c_p < H.n := (hwf c_p _ hk_c).1
  have hbc_c : (b_c = c_p) = False := eq_false (Ne.symm hcb_c)
  have hbd_c : (c_p = b_c) = False := eq_false hcb_c
  have hne_c : (b_c = H.n) = False := eq_false (by omega)
  have hnp_c : (c_p = H.n) = False := eq_false (by omega)
  have hne1_c : ∀ i, (b_c = H.n + i) = False := fun i => eq_false (by omega)
  have hnp1_c : ∀ i, (c_p = H.n + i) = False := fun i => eq_false (by omega)
  have hne2_c : (b_c = H.n + 1 + 1) = False ∧ (b_c = H.n + 1 + 1 + 1) = False ∧ (b_c = H.n + 1 + 1 + 1 + 1) = False ∧ (b_c = H.n + 1 + 1 + 1 + 1 + 1) = False ∧ (b_c = H.n + 1 + 1 + 1 + 1 + 1 + 1) = False ∧ (b_c = H.n + 1 + 1 + 1 + 1 + 1 + 1 + 1) = False ∧ (b_c = H.n + 1 + 1 + 1 + 1 + 1 + 1 + 1 + 1) = False ∧ (b_c = H.n + 1 + 1 + 1 + 1 + 1 + 1 + 1 + 1 + 1) = False ∧ (b_c = H.n + 1 + 1 + 1 + 1 + 1 + 1 + 1 + 1 + 1 + 1) = False ∧ (b_c = H.n + 1 + 1 + 1 + 1 + 1 + 1 + 1 + 1 + 1 + 1 + 1) = False ∧ (b_c = H.n + 1 + 1 + 1 + 1 + 1 + 1 + 1 + 1 + 1 + 1 + 1 + 1) = False := ⟨eq_false (by omega), eq_false (by omega), eq_false (by omega), eq_false (by omega), eq_false (by omega), eq_false (by omega), eq_false (by omega), eq_false (by omega), eq_false (by omega), eq_false (by omega), eq_false (by omega)⟩
  have hne2_cp : (c_p = H.n + 1 + 1) = False ∧ (c_p = H.n + 1 + 1 + 1) = False ∧ (c_p = H.n + 1 + 1 + 1 + 1) = False ∧ (c_p = H.n + 1 + 1 + 1 + 1 + 1) = False ∧ (c_p = H.n + 1 + 1 + 1 + 1 + 1 + 1) = False ∧ (c_p = H.n + 1 + 1 + 1 + 1 + 1 + 1 + 1) = False ∧ (c_p = H.n + 1 + 1 + 1 + 1 + 1 + 1 + 1 + 1) = False ∧ (c_p = H.n + 1 + 1 + 1 + 1 + 1 + 1 + 1 + 1 + 1) = False ∧ (c_p = H.n + 1 + 1 + 1 + 1 + 1 + 1 + 1 + 1 + 1 + 1) = False ∧ (c_p = H.n + 1 + 1 + 1 + 1 + 1 + 1 + 1 + 1 + 1 + 1 + 1) = False ∧ (c_p = H.n + 1 + 1 + 1 + 1 + 1 + 1 + 1 + 1 + 1 + 1 + 1 + 1) = False := ⟨eq_false (by omega), eq_false (by omega), eq_false (by omega), eq_false (by omega), eq_false (by omega), eq_false (by omega), eq_false (by omega), eq_false (by omega), eq_false (by omega), eq_false (by omega), eq_false (by omega)⟩
  have hnq_c : (H.n = c_p) = False := eq_false (by omega)
  have hnq1_c : ∀ i, (H.n + i = c_p) = False := fun i => eq_false (by omega)
  have hnb_c : (H.n = b_c) = False := eq_false (by omega)
  have hnb1_c : ∀ i, (H.n + i = b_c) = False := fun i => eq_false (by omega)
  have hnr2_cp : (H.n + 1 + 1 = c_p) = False ∧ (H.n + 1 + 1 + 1 = c_p) = False ∧ (H.n + 1 + 1 + 1 + 1 = c_p) = False ∧ (H.n + 1 + 1 + 1 + 1 + 1 = c_p) = False ∧ (H.n + 1 + 1 + 1 + 1 + 1 + 1 = c_p) = False ∧ (H.n + 1 + 1 + 1 + 1 + 1 + 1 + 1 = c_p) = False ∧ (H.n + 1 + 1 + 1 + 1 + 1 + 1 + 1 + 1 = c_p) = False ∧ (H.n + 1 + 1 + 1 + 1 + 1 + 1 + 1 + 1 + 1 = c_p) = False ∧ (H.n + 1 + 1 + 1 + 1 + 1 + 1 + 1 + 1 + 1 + 1 = c_p) = False ∧ (H.n + 1 + 1 + 1 + 1 + 1 + 1 + 1 + 1 + 1 + 1 + 1 = c_p) = False ∧ (H.n + 1 + 1 + 1 + 1 + 1 + 1 + 1 + 1 + 1 + 1 + 1 + 1 = c_p) = False := ⟨eq_false (by omega), eq_false (by omega), eq_false (by omega), eq_false (by omega), eq_false (by omega), eq_false (by omega), eq_false (by omega), eq_false (by omega), eq_false (by omega), eq_false (by omega), eq_false (by omega)⟩
  have hnr2_c : (H.n + 1 + 1 = b_c) = False ∧ (H.n + 1 + 1 + 1 = b_c) = False ∧ (H.n + 1 + 1 + 1 + 1 = b_c) = False ∧ (H.n + 1 + 1 + 1 + 1 + 1 = b_c) = False ∧ (H.n + 1 + 1 + 1 + 1 + 1 + 1 = b_c) = False ∧ (H.n + 1 + 1 + 1 + 1 + 1 + 1 + 1 = b_c) = False ∧ (H.n + 1 + 1 + 1 + 1 + 1 + 1 + 1 + 1 = b_c) = False ∧ (H.n + 1 + 1 + 1 + 1 + 1 + 1 + 1 + 1 + 1 = b_c) = False ∧ (H.n + 1 + 1 + 1 + 1 + 1 + 1 + 1 + 1 + 1 + 1 = b_c) = False ∧ (H.n + 1 + 1 + 1 + 1 + 1 + 1 + 1 + 1 + 1 + 1 + 1 = b_c) = False ∧ (H.n + 1 + 1 + 1 + 1 + 1 + 1 + 1 + 1 + 1 + 1 + 1 + 1 = b_c) = False := ⟨eq_false (by omega), eq_false (by omega), eq_false (by omega), eq_false (by omega), eq_false (by omega), eq_false (by omega), eq_false (by omega), eq_false (by omega), eq_false (by omega), eq_false (by omega), eq_false (by omega)⟩
  have hmx_c : l_c.length ≤ 9223372036854775807 := by have h1 := (hwf b_c k_c hat_c.blk).2.2; have h2 := hat_c.len; omega
  have hl8 : a_c ≤ 900000000 := by omega
  simp (config := {contextual := true, implicitDefEqProofs := false, maxSteps := 2000000}) [-Int.not_le, -Int.not_lt, argsF, __spec_l1Cur__rates_c, onCur, dlI, dlT, hk_c, hcb_c, hbc_c, hbd_c, h0_c, hlim_c, hat_c.blk, hat_c.esz, hat_c.len, hat_c.els, hne_c, hnp_c, hne1_c, hnp1_c, hnq_c, hnq1_c, hnb_c, hnb1_c, hne2_c.1, hne2_c.2.1, hne2_c.2.2.1, hne2_c.2.2.2.1, hne2_c.2.2.2.2.1, hne2_c.2.2.2.2.2.1, hne2_c.2.2.2.2.2.2.1, hne2_c.2.2.2.2.2.2.2.1, hne2_c.2.2.2.2.2.2.2.2.1, hne2_c.2.2.2.2.2.2.2.2.2.1, hne2_c.2.2.2.2.2.2.2.2.2.2, hne2_cp.1, hne2_cp.2.1, hne2_cp.2.2.1, hne2_cp.2.2.2.1, hne2_cp.2.2.2.2.1, hne2_cp.2.2.2.2.2.1, hne2_cp.2.2.2.2.2.2.1, hne2_cp.2.2.2.2.2.2.2.1, hne2_cp.2.2.2.2.2.2.2.2.1, hne2_cp.2.2.2.2.2.2.2.2.2.1, hne2_cp.2.2.2.2.2.2.2.2.2.2, hnr2_c.1, hnr2_c.2.1, hnr2_c.2.2.1, hnr2_c.2.2.2.1, hnr2_c.2.2.2.2.1, hnr2_c.2.2.2.2.2.1, hnr2_c.2.2.2.2.2.2.1, hnr2_c.2.2.2.2.2.2.2.1, hnr2_c.2.2.2.2.2.2.2.2.1, hnr2_c.2.2.2.2.2.2.2.2.2.1, hnr2_c.2.2.2.2.2.2.2.2.2.2, hnr2_cp.1, hnr2_cp.2.1, hnr2_cp.2.2.1, hnr2_cp.2.2.2.1, hnr2_cp.2.2.2.2.1, hnr2_cp.2.2.2.2.2.1, hnr2_cp.2.2.2.2.2.2.1, hnr2_cp.2.2.2.2.2.2.2.1, hnr2_cp.2.2.2.2.2.2.2.2.1, hnr2_cp.2.2.2.2.2.2.2.2.2.1, hnr2_cp.2.2.2.2.2.2.2.2.2.2, hl8]
  refine aloop_genC (fun G => DRa.Ok ⟨G, a_c, s_c, [], H.n, 0, 0⟩ H c_p b_c i_c l_c.length a_c a_c 0) ⟨by simp only [push_n, set_n]; omega, by simp only [push_I, set_I], by simp [push_b, set_b, onCur, dlI, dlT, hk_c, hcb_c, hbc_c, hbd_c, h0_c, hlim_c, hat_c.blk, hat_c.esz, hat_c.len, hat_c.els, hne_c, hnp_c, hne1_c, hnp1_c, hnq_c, hnq1_c, hnb_c, hnb1_c, hne2_c.1, hne2_c.2.1, hne2_c.2.2.1, hne2_c.2.2.2.1, hne2_c.2.2.2.2.1, hne2_c.2.2.2.2.2.1, hne2_c.2.2.2.2.2.2.1, hne2_c.2.2.2.2.2.2.2.1, hne2_c.2.2.2.2.2.2.2.2.1, hne2_c.2.2.2.2.2.2.2.2.2.1, hne2_c.2.2.2.2.2.2.2.2.2.2, hne2_cp.1, hne2_cp.2.1, hne2_cp.2.2.1, hne2_cp.2.2.2.1, hne2_cp.2.2.2.2.1, hne2_cp.2.2.2.2.2.1, hne2_cp.2.2.2.2.2.2.1, hne2_cp.2.2.2.2.2.2.2.1, hne2_cp.2.2.2.2.2.2.2.2.1, hne2_cp.2.2.2.2.2.2.2.2.2.1, hne2_cp.2.2.2.2.2.2.2.2.2.2, hnr2_c.1, hnr2_c.2.1, hnr2_c.2.2.1, hnr2_c.2.2.2.1, hnr2_c.2.2.2.2.1, hnr2_c.2.2.2.2.2.1, hnr2_c.2.2.2.2.2.2.1, hnr2_c.2.2.2.2.2.2.2.1, hnr2_c.2.2.2.2.2.2.2.2.1, hnr2_c.2.2.2.2.2.2.2.2.2.1, hnr2_c.2.2.2.2.2.2.2.2.2.2, hnr2_cp.1, hnr2_cp.2.1, hnr2_cp.2.2.1, hnr2_cp.2.2.2.1, hnr2_cp.2.2.2.2.1, hnr2_cp.2.2.2.2.2.1, hnr2_cp.2.2.2.2.2.2.1, hnr2_cp.2.2.2.2.2.2.2.1, hnr2_cp.2.2.2.2.2.2.2.2.1, hnr2_cp.2.2.2.2.2.2.2.2.2.1, hnr2_cp.2.2.2.2.2.2.2.2.2.2], (fun j k hjc hj => by have hjn := (hwf j k hj).1; have qj0 : (j = H.n) = False := eq_false (by omega); have qj1 : (j = H.n + 1) = False := eq_false (by omega); have qj2 : (j = H.n + 1 + 1) = False := eq_false (by omega); have qj3 : (j = H.n + 1 + 1 + 1) = False := eq_false (by omega); have qj4 : (j = H.n + 1 + 1 + 1 + 1) = False := eq_false (by omega); have qj5 : (j = H.n + 1 + 1 + 1 + 1 + 1) = False := eq_false (by omega); have qj6 : (j = H.n + 1 + 1 + 1 + 1 + 1 + 1) = False := eq_false (by omega); have qj7 : (j = H.n + 1 + 1 + 1 + 1 + 1 + 1 + 1) = False := eq_false (by omega); simp [push_b, set_b, kill_b, hjc, qj0, qj1, qj2, qj3, qj4, qj5, qj6, qj7, hj]; done), by simp [push_b, set_b, onCur, dlI, dlT, hk_c, hcb_c, hbc_c, hbd_c, h0_c, hlim_c, hat_c.blk, hat_c.esz, hat_c.len, hat_c.els, hne_c, hnp_c, hne1_c, hnp1_c, hnq_c, hnq1_c, hnb_c, hnb1_c, hne2_c.1, hne2_c.2.1, hne2_c.2.2.1, hne2_c.2.2.2.1, hne2_c.2.2.2.2.1, hne2_c.2.2.2.2.2.1, hne2_c.2.2.2.2.2.2.1, hne2_c.2.2.2.2.2.2.2.1, hne2_c.2.2.2.2.2.2.2.2.1, hne2_c.2.2.2.2.2.2.2.2.2.1, hne2_c.2.2.2.2.2.2.2.2.2.2, hne2_cp.1, hne2_cp.2.1, hne2_cp.2.2.1, hne2_cp.2.2.2.1, hne2_cp.2.2.2.2.1, hne2_cp.2.2.2.2.2.1, hne2_cp.2.2.2.2.2.2.1, hne2_cp.2.2.2.2.2.2.2.1, hne2_cp.2.2.2.2.2.2.2.2.1, hne2_cp.2.2.2.2.2.2.2.2.2.1, hne2_cp.2.2.2.2.2.2.2.2.2.2, hnr2_c.1, hnr2_c.2.1, hnr2_c.2.2.1, hnr2_c.2.2.2.1, hnr2_c.2.2.2.2.1, hnr2_c.2.2.2.2.2.1, hnr2_c.2.2.2.2.2.2.1, hnr2_c.2.2.2.2.2.2.2.1, hnr2_c.2.2.2.2.2.2.2.2.1, hnr2_c.2.2.2.2.2.2.2.2.2.1, hnr2_c.2.2.2.2.2.2.2.2.2.2, hnr2_cp.1, hnr2_cp.2.1, hnr2_cp.2.2.1, hnr2_cp.2.2.2.1, hnr2_cp.2.2.2.2.1, hnr2_cp.2.2.2.2.2.1, hnr2_cp.2.2.2.2.2.2.1, hnr2_cp.2.2.2.2.2.2.2.1, hnr2_cp.2.2.2.2.2.2.2.2.1, hnr2_cp.2.2.2.2.2.2.2.2.2.1, hnr2_cp.2.2.2.2.2.2.2.2.2.2, rowK]; done, Nat.le_refl _, Int.le_refl _, Int.le_refl _, Nat.le_refl _⟩ fun G hG => ?_
  refine aloop_heap (X := DRa) (fun x => [(0, .c (.ptr c_p 0 0)), (3, .c (.sl (x.ob) (0) (x.out.length))), (4, .c (.int .i64 ((x.z : Int))))]) (fun x => x.H) (fun x => x.Ok H c_p b_c i_c l_c.length a_c (a_c + 200 * (x.z : Int)) (6 * x.z) ∧ x.z ≤ 3) (fun x => 3 - x.z) hE _ ⟨G, a_c, s_c, [], H.n, 0, 0⟩ ⟨hG.more (by simp) (by simp) 0 0, by simp⟩ (fun hw0 => by have q1 := (hw0 _ _ hG.row).1; have q3 : H.n ≤ G.n := hG.hn; simp only at q1; exact .since hG.hn hw0 (.refl _) (by simp [frOk, AV.okR, AV.ok1, AC.okR, AV.ren, AV.ren1, AC.ren, AFrame.get, pl1_old, *]; first | done | rfl | omega)) (fun x hxx hwx => ?_)
  obtain ⟨hok, hz⟩ := hxx
  have hxb_x : x.H.b b_c = some k_c := hok.old b_c k_c (Ne.symm hcb_c) hat_c.blk
  have hxc_x := hok.cur
  have hxr_x := hok.row
  have hob_x := hok.hob
  have hbq_x := (hwx _ _ hok.row).1
  have a0_x := hok.at0
  have a1_x := hok.at1
  have hln_x := hok.len
  have hnx_x := hok.hn
  have hbx_x : b_c < x.H.n := by omega
  have hcx_x : c_p < x.H.n := by omega
  have r0_x : (x.ob = c_p) = False := eq_false (by omega)
  have r1_x : (c_p = x.ob) = False := eq_false (by omega)
  have r2_x : (x.ob = b_c) = False := eq_false (by omega)
  have r3_x : (b_c = x.ob) = False := eq_false (by omega)
  have hlB_x : 0 ≤ x.a ∧ x.a ≤ 700000000 := by omega
  have hlC_x : x.a ≤ 900000000 := by omega
  have px00 : (c_p = x.H.n) = False := eq_false (by omega)
  have qx00 : (x.H.n = c_p) = False := eq_false (by omega)
  have px01 : (c_p = x.H.n + 1) = False := eq_false (by omega)
  have qx01 : (x.H.n + 1 = c_p) = False := eq_false (by omega)
  have px02 : (c_p = x.H.n + 1 + 1) = False := eq_false (by omega)
  have qx02 : (x.H.n + 1 + 1 = c_p) = False := eq_false (by omega)
  have px03 : (c_p = x.H.n + 1 + 1 + 1) = False := eq_false (by omega)
  have qx03 : (x.H.n + 1 + 1 + 1 = c_p) = False := eq_false (by omega)
  have px04 : (c_p = x.H.n + 1 + 1 + 1 + 1) = False := eq_false (by omega)
  have qx04 : (x.H.n + 1 + 1 + 1 + 1 = c_p) = False := eq_false (by omega)
  have px05 : (c_p = x.H.n + 1 + 1 + 1 + 1 + 1) = False := eq_false (by omega)
  have qx05 : (x.H.n + 1 + 1 + 1 + 1 + 1 = c_p) = False := eq_false (by omega)
  have px06 : (c_p = x.H.n + 1 + 1 + 1 + 1 + 1 + 1) = False := eq_false (by omega)
  have qx06 : (x.H.n + 1 + 1 + 1 + 1 + 1 + 1 = c_p) = False := eq_false (by omega)
  have px07 : (c_p = x.H.n + 1 + 1 + 1 + 1 + 1 + 1 + 1) = False := eq_false (by omega)
  have qx07 : (x.H.n + 1 + 1 + 1 + 1 + 1 + 1 + 1 = c_p) = False := eq_false (by omega)
  have px10 : (b_c = x.H.n) = False := eq_false (by omega)
  have qx10 : (x.H.n = b_c) = False := eq_false (by omega)
  have px11 : (b_c = x.H.n + 1) = False := eq_false (by omega)
  have qx11 : (x.H.n + 1 = b_c) = False := eq_false (by omega)
  have px12 : (b_c = x.H.n + 1 + 1) = False := eq_false (by omega)
  have qx12 : (x.H.n + 1 + 1 = b_c) = False := eq_false (by omega)
  have px13 : (b_c = x.H.n + 1 + 1 + 1) = False := eq_false (by omega)
  have qx13 : (x.H.n + 1 + 1 + 1 = b_c) = False := eq_false (by omega)
  have px14 : (b_c = x.H.n + 1 + 1 + 1 + 1) = False := eq_false (by omega)
  have qx14 : (x.H.n + 1 + 1 + 1 + 1 = b_c) = False := eq_false (by omega)
  have px15 : (b_c = x.H.n + 1 + 1 + 1 + 1 + 1) = False := eq_false (by omega)
  have qx15 : (x.H.n + 1 + 1 + 1 + 1 + 1 = b_c) = False := eq_false (by omega)
  have px16 : (b_c = x.H.n + 1 + 1 + 1 + 1 + 1 + 1) = False := eq_false (by omega)
  have qx16 : (x.H.n + 1 + 1 + 1 + 1 + 1 + 1 = b_c) = False := eq_false (by omega)
  have px17 : (b_c = x.H.n + 1 + 1 + 1 + 1 + 1 + 1 + 1) = False := eq_false (by omega)
  have qx17 : (x.H.n + 1 + 1 + 1 + 1 + 1 + 1 + 1 = b_c) = False := eq_false (by omega)
  have px20 : (x.ob = x.H.n) = False := eq_false (by omega)
  have qx20 : (x.H.n = x.ob) = False := eq_false (by omega)
  have px21 : (x.ob = x.H.n + 1) = False := eq_false (by omega)
  have qx21 : (x.H.n + 1 = x.ob) = False := eq_false (by omega)
  have px22 : (x.ob = x.H.n + 1 + 1) = False := eq_false (by omega)
  have qx22 : (x.H.n + 1 + 1 = x.ob) = False := eq_false (by omega)
  have px23 : (x.ob = x.H.n + 1 + 1 + 1) = False := eq_false (by omega)
  have qx23 : (x.H.n + 1 + 1 + 1 = x.ob) = False := eq_false (by omega)
  have px24 : (x.ob = x.H.n + 1 + 1 + 1 + 1) = False := eq_false (by omega)
  have qx24 : (x.H.n + 1 + 1 + 1 + 1 = x.ob) = False := eq_false (by omega)
  have px25 : (x.ob = x.H.n + 1 + 1 + 1 + 1 + 1) = False := eq_false (by omega)
  have qx25 : (x.H.n + 1 + 1 + 1 + 1 + 1 = x.ob) = False := eq_false (by omega)
  have px26 : (x.ob = x.H.n + 1 + 1 + 1 + 1 + 1 + 1) = False := eq_false (by omega)
  have qx26 : (x.H.n + 1 + 1 + 1 + 1 + 1 + 1 = x.ob) = False := eq_false (by omega)
  have px27 : (x.ob = x.H.n + 1 + 1 + 1 + 1 + 1 + 1 + 1) = False := eq_false (by omega)
  have qx27 : (x.H.n + 1 + 1 + 1 + 1 + 1 + 1 + 1 = x.ob) = False := eq_false (by omega)
  have wz : IntKind.i64.wrap ((x.z : Int) + 1) = (x.z : Int) + 1 := wrap_id (by omega) (by omega)
  rcases Nat.lt_or_ge x.z 3 with hlt | hge
  · have hlti : (x.z : Int) < 3 := by omega
    simp (config := {contextual := true, implicitDefEqProofs := false, maxSteps := 2000000}) [-Int.not_le, -Int.not_lt, argsF, __spec_l1Cur__rates_l1, onCur, dlI, dlT, curOf_lit, hcb_c, hbc_c, hbd_c, hat_c.esz, hat_c.len, hat_c.els, hxc_x, hxb_x, hxr_x, r0_x, r1_x, r2_x, r3_x, hlB_x, hlC_x, px00, qx00, px01, qx01, px02, qx02, px03, qx03, px04, qx04, px05, qx05, px06, qx06, px07, qx07, px10, qx10, px11, qx11, px12, qx12, px13, qx13, px14, qx14, px15, qx15, px16, qx16, px17, qx17, px20, qx20, px21, qx21, px22, qx22, px23, qx23, px24, qx24, px25, qx25, px26, qx26, px27, qx27, hlti, wz]
    refine aloop_heap (X := DRa) (fun y => [(0, .c (.ptr c_p 0 0)), (3, .c (.sl (y.ob) (0) (y.out.length))), (4, .c (.int .i64 ((x.z : Int)))), (5, .c (.int .i64 ((y.g : Int))))]) (fun y => y.H) (fun y => y.Ok H c_p b_c i_c l_c.length a_c (a_c + 200 * (x.z : Int) + 60 * (y.g : Int)) (6 * x.z + 2 * y.g) ∧ y.g ≤ 3) (fun y => 3 - y.g) hE _ ⟨x.H, x.a, x.s, x.out, x.ob, x.z, 0⟩ ⟨hok.more (by simp) (by simp) x.z 0, by simp⟩ (fun hw0 => by exact .since hok.hn hw0 (.refl _) (by simp [frOk, AV.okR, AV.ok1, AC.okR, AV.ren, AV.ren1, AC.ren, AFrame.get, pl1_old, *]; first | done | rfl | omega)) (fun y hyy hwy => ?_)
    obtain ⟨hoy, hgy⟩ := hyy
    clear hok hxb_x hxc_x hxr_x hob_x hbq_x a0_x a1_x hln_x hnx_x hbx_x hcx_x r0_x r1_x r2_x r3_x hlB_x hlC_x px00 qx00 px01 qx01 px02 qx02 px03 qx03 px04 qx04 px05 qx05 px06 qx06 px07 qx07 px10 qx10 px11 qx11 px12 qx12 px13 qx13 px14 qx14 px15 qx15 px16 qx16 px17 qx17 px20 qx20 px21 qx21 px22 qx22 px23 qx23 px24 qx24 px25 qx25 px26 qx26 px27 qx27
    have hxb_y : y.H.b b_c = some k_c := hoy.old b_c k_c (Ne.symm hcb_c) hat_c.blk
    have hxc_y := hoy.cur
    have hxr_y := hoy.row
    have hob_y := hoy.hob
    have hbq_y := (hwy _ _ hoy.row).1
    have a0_y := hoy.at0
    have a1_y := hoy.at1
    have hln_y := hoy.len
    have hnx_y := hoy.hn
    have hbx_y : b_c < y.H.n := by omega
    have hcx_y : c_p < y.H.n := by omega
    have r0_y : (y.ob = c_p) = False := eq_false (by omega)
    have r1_y : (c_p = y.ob) = False := eq_false (by omega)
    have r2_y : (y.ob = b_c) = False := eq_false (by omega)
    have r3_y : (b_c = y.ob) = False := eq_false (by omega)
    have hlB_y : 0 ≤ y.a ∧ y.a ≤ 700000000 := by omega
    have hlC_y : y.a ≤ 900000000 := by omega
    have py00 : (c_p = y.H.n) = False := eq_false (by omega)
    have qy00 : (y.H.n = c_p) = False := eq_false (by omega)
    have py01 : (c_p = y.H.n + 1) = False := eq_false (by omega)
    have qy01 : (y.H.n + 1 = c_p) = False := eq_false (by omega)
    have py02 : (c_p = y.H.n + 1 + 1) = False := eq_false (by omega)
    have qy02 : (y.H.n + 1 + 1 = c_p) = False := eq_false (by omega)
    have py03 : (c_p = y.H.n + 1 + 1 + 1) = False := eq_false (by omega)
    have qy03 : (y.H.n + 1 + 1 + 1 = c_p) = False := eq_false (by omega)
    have py04 : (c_p = y.H.n + 1 + 1 + 1 + 1) = False := eq_false (by omega)
    have qy04 : (y.H.n + 1 + 1 + 1 + 1 = c_p) = False := eq_false (by omega)
    have py05 : (c_p = y.H.n + 1 + 1 + 1 + 1 + 1) = False := eq_false (by omega)
    have qy05 : (y.H.n + 1 + 1 + 1 + 1 + 1 = c_p) = False := eq_false (by omega)
    have py06 : (c_p = y.H.n + 1 + 1 + 1 + 1 + 1 + 1) = False := eq_false (by omega)
    have qy06 : (y.H.n + 1 + 1 + 1 + 1 + 1 + 1 = c_p) = False := eq_false (by omega)
    have py07 : (c_p = y.H.n + 1 + 1 + 1 + 1 + 1 + 1 + 1) = False := eq_false (by omega)
    have qy07 : (y.H.n + 1 + 1 + 1 + 1 + 1 + 1 + 1 = c_p) = False := eq_false (by omega)
    have py10 : (b_c = y.H.n) = False := eq_false (by omega)
    have qy10 : (y.H.n = b_c) = False := eq_false (by omega)
    have py11 : (b_c = y.H.n + 1) = False := eq_false (by omega)
    have qy11 : (y.H.n + 1 = b_c) = False := eq_false (by omega)
    have py12 : (b_c = y.H.n + 1 + 1) = False := eq_false (by omega)
    have qy12 : (y.H.n + 1 + 1 = b_c) = False := eq_false (by omega)
    have py13 : (b_c = y.H.n + 1 + 1 + 1) = False := eq_false (by omega)
    have qy13 : (y.H.n + 1 + 1 + 1 = b_c) = False := eq_false (by omega)
    have py14 : (b_c = y.H.n + 1 + 1 + 1 + 1) = False := eq_false (by omega)
    have qy14 : (y.H.n + 1 + 1 + 1 + 1 = b_c) = False := eq_false (by omega)
    have py15 : (b_c = y.H.n + 1 + 1 + 1 + 1 + 1) = False := eq_false (by omega)
    have qy15 : (y.H.n + 1 + 1 + 1 + 1 + 1 = b_c) = False := eq_false (by omega)
    have py16 : (b_c = y.H.n + 1 + 1 + 1 + 1 + 1 + 1) = False := eq_false (by omega)
    have qy16 : (y.H.n + 1 + 1 + 1 + 1 + 1 + 1 = b_c) = False := eq_false (by omega)
    have py17 : (b_c = y.H.n + 1 + 1 + 1 + 1 + 1 + 1 + 1) = False := eq_false (by omega)
    have qy17 : (y.H.n + 1 + 1 + 1 + 1 + 1 + 1 + 1 = b_c) = False := eq_false (by omega)
    have py20 : (y.ob = y.H.n) = False := eq_false (by omega)
    have qy20 : (y.H.n = y.ob) = False := eq_false (by omega)
    have py21 : (y.ob = y.H.n + 1) = False := eq_false (by omega)
    have qy21 : (y.H.n + 1 = y.ob) = False := eq_false (by omega)
    have py22 : (y.ob = y.H.n + 1 + 1) = False := eq_false (by omega)
    have qy22 : (y.H.n + 1 + 1 = y.ob) = False := eq_false (by omega)
    have py23 : (y.ob = y.H.n + 1 + 1 + 1) = False := eq_false (by omega)
    have qy23 : (y.H.n + 1 + 1 + 1 = y.ob) = False := eq_false (by omega)
    have py24 : (y.ob = y.H.n + 1 + 1 + 1 + 1) = False := eq_false (by omega)
    have qy24 : (y.H.n + 1 + 1 + 1 + 1 = y.ob) = False := eq_false (by omega)
    have py25 : (y.ob = y.H.n + 1 + 1 + 1 + 1 + 1) = False := eq_false (by omega)
    have qy25 : (y.H.n + 1 + 1 + 1 + 1 + 1 = y.ob) = False := eq_false (by omega)
    have py26 : (y.ob = y.H.n + 1 + 1 + 1 + 1 + 1 + 1) = False := eq_false (by omega)
    have qy26 : (y.H.n + 1 + 1 + 1 + 1 + 1 + 1 = y.ob) = False := eq_false (by omega)
    have py27 : (y.ob = y.H.n + 1 + 1 + 1 + 1 + 1 + 1 + 1) = False := eq_false (by omega)
    have qy27 : (y.H.n + 1 + 1 + 1 + 1 + 1 + 1 + 1 = y.ob) = False := eq_false (by omega)
    have wg : IntKind.i64.wrap ((y.g : Int) + 1) = (y.g : Int) + 1 := wrap_id (by omega) (by omega)
    rcases Nat.lt_or_ge y.g 3 with hlt2 | hge2
    · have hlti2 : (y.g : Int) < 3 := by omega
      simp (config := {contextual := true, implicitDefEqProofs := false, maxSteps := 2000000}) [-Int.not_le, -Int.not_lt, argsF, __spec_l1Cur__rates_l0, onCur, dlI, dlT, curOf_lit, hcb_c, hbc_c, hbd_c, hat_c.esz, hat_c.len, hat_c.els, hxc_y, hxb_y, hxr_y, r0_y, r1_y, r2_y, r3_y, hlB_y, hlC_y, py00, qy00, py01, qy01, py02, qy02, py03, qy03, py04, qy04, py05, qy05, py06, qy06, py07, qy07, py10, qy10, py11, qy11, py12, qy12, py13, qy13, py14, qy14, py15, qy15, py16, qy16, py17, qy17, py20, qy20, py21, qy21, py22, qy22, py23, qy23, py24, qy24, py25, qy25, py26, qy26, py27, qy27, hlti2]
      refine Stop.mk fun o1 a1 s1 hl1 hu1 => ?_
      cases o1 with
      | false =>
        simp (config := {contextual := true, implicitDefEqProofs := false, maxSteps := 2000000}) [-Int.not_le, -Int.not_lt, argsF, __spec_l1Cur__rates_r2, __spec_l1Cur__rates_r3, onCur, dlI, dlT, curOf_lit, hcb_c, hbc_c, hbd_c, hat_c.esz, hat_c.len, hat_c.els, hxc_y, hxb_y, hxr_y, r0_y, r1_y, r2_y, r3_y, hlB_y, hlC_y, py00, qy00, py01, qy01, py02, qy02, py03, qy03, py04, qy04, py05, qy05, py06, qy06, py07, qy07, py10, qy10, py11, qy11, py12, qy12, py13, qy13, py14, qy14, py15, qy15, py16, qy16, py17, qy17, py20, qy20, py21, qy21, py22, qy22, py23, qy23, py24, qy24, py25, qy25, py26, qy26, py27, qy27, wg]
        exact ⟨fun hw => ⟨⟨_, a1, s1, y.out, y.ob, y.z, y.g + 1⟩, ⟨⟨(by simp only [push_n, set_n, kill_n]; omega), (by simp only [push_I, set_I, kill_I]; exact hoy.hI), by simp [push_b, set_b, kill_b, onCur, dlI, dlT, curOf_lit, hcb_c, hbc_c, hbd_c, hat_c.esz, hat_c.len, hat_c.els, hxc_y, hxb_y, hxr_y, r0_y, r1_y, r2_y, r3_y, hlB_y, hlC_y, py00, qy00, py01, qy01, py02, qy02, py03, qy03, py04, qy04, py05, qy05, py06, qy06, py07, qy07, py10, qy10, py11, qy11, py12, qy12, py13, qy13, py14, qy14, py15, qy15, py16, qy16, py17, qy17, py20, qy20, py21, qy21, py22, qy22, py23, qy23, py24, qy24, py25, qy25, py26, qy26, py27, qy27]; done, (fun j k hjc hj => by have hjn := (hwf j k hj).1; have qj0 : (j = y.H.n) = False := eq_false (by omega); have qj1 : (j = y.H.n + 1) = False := eq_false (by omega); have qj2 : (j = y.H.n + 1 + 1) = False := eq_false (by omega); have qj3 : (j = y.H.n + 1 + 1 + 1) = False := eq_false (by omega); have qj4 : (j = y.H.n + 1 + 1 + 1 + 1) = False := eq_false (by omega); have qj5 : (j = y.H.n + 1 + 1 + 1 + 1 + 1) = False := eq_false (by omega); have qj6 : (j = y.H.n + 1 + 1 + 1 + 1 + 1 + 1) = False := eq_false (by omega); have qj7 : (j = y.H.n + 1 + 1 + 1 + 1 + 1 + 1 + 1) = False := eq_false (by omega); have qjo : (j = y.ob) = False := eq_false (by omega); simp [push_b, set_b, kill_b, hjc, qj0, qj1, qj2, qj3, qj4, qj5, qj6, qj7, qjo, hoy.old j k hjc hj]; done), by simp [push_b, set_b, kill_b, onCur, dlI, dlT, curOf_lit, hcb_c, hbc_c, hbd_c, hat_c.esz, hat_c.len, hat_c.els, hxc_y, hxb_y, hxr_y, r0_y, r1_y, r2_y, r3_y, hlB_y, hlC_y, py00, qy00, py01, qy01, py02, qy02, py03, qy03, py04, qy04, py05, qy05, py06, qy06, py07, qy07, py10, qy10, py11, qy11, py12, qy12, py13, qy13, py14, qy14, py15, qy15, py16, qy16, py17, qy17, py20, qy20, py21, qy21, py22, qy22, py23, qy23, py24, qy24, py25, qy25, py26, qy26, py27, qy27]; done, by simp only; omega, by simp only; omega, by simp only; omega, by simp only; omega⟩, by simp only; omega⟩, by simp only; omega, .since (by simp only [push_n, set_n, kill_n]; omega) hw (.refl _) (by simp [frOk, AV.okR, AV.ok1, AC.okR, AV.ren, AV.ren1, AC.ren, AFrame.get, pl1_old, *]; first | done | rfl | omega)⟩⟩
      | true =>
        have hlD : 0 ≤ a1 ∧ a1 ≤ 900000000 := by omega
        obtain ⟨v, hv⟩ : ∃ v : Int, ([[AC.int .i64 20], [AC.int .i64 50], [AC.int .i64 100]] : List (List AC))[y.g]? = some [AC.int .i64 v] := by
          rcases (show y.g = 0 ∨ y.g = 1 ∨ y.g = 2 by omega) with e | e | e <;> rw [e] <;> exact ⟨_, rfl⟩
        simp (config := {contextual := true, implicitDefEqProofs := false, maxSteps := 2000000}) [-Int.not_le, -Int.not_lt, argsF, __spec_l1Cur__rates_r2, onCur, dlI, dlT, curOf_lit, hcb_c, hbc_c, hbd_c, hat_c.esz, hat_c.len, hat_c.els, hxc_y, hxb_y, hxr_y, r0_y, r1_y, r2_y, r3_y, hlB_y, hlC_y, py00, qy00, py01, qy01, py02, qy02, py03, qy03, py04, qy04, py05, qy05, py06, qy06, py07, qy07, py10, qy10, py11, qy11, py12, qy12, py13, qy13, py14, qy14, py15, qy15, py16, qy16, py17, qy17, py20, qy20, py21, qy21, py22, qy22, py23, qy23, py24, qy24, py25, qy25, py26, qy26, py27, qy27, hlti2, hlD]
        refine Stop.mk fun f a2 s2 hf hl2 hu2 => ?_
        have hlE : 0 ≤ a2 ∧ a2 ≤ 800000000 := by omega
        simp (config := {contextual := true, implicitDefEqProofs := false, maxSteps := 2000000}) [-Int.not_le, -Int.not_lt, argsF, onCur, dlI, dlT, curOf_lit, hcb_c, hbc_c, hbd_c, hat_c.esz, hat_c.len, hat_c.els, hxc_y, hxb_y, hxr_y, r0_y, r1_y, r2_y, r3_y, hlB_y, hlC_y, py00, qy00, py01, qy01, py02, qy02, py03, qy03, py04, qy04, py05, qy05, py06, qy06, py07, qy07, py10, qy10, py11, qy11, py12, qy12, py13, qy13, py14, qy14, py15, qy15, py16, qy16, py17, qy17, py20, qy20, py21, qy21, py22, qy22, py23, qy23, py24, qy24, py25, qy25, py26, qy26, py27, qy27, hlti2, hlE, hv]
        refine Stop.mk fun r a3 s3 hl3 hu3 => ?_
        have hlF : 0 ≤ a3 ∧ a3 ≤ 900000000 := by omega
        have hb1 : (y.out.length + 1) * 40 ≤ 140737488355328 := by omega
        have hb2 : y.out.length ≤ 140737488355327 := by omega
        simp (config := {contextual := true, implicitDefEqProofs := false, maxSteps := 2000000}) [-Int.not_le, -Int.not_lt, argsF, onCur, dlI, dlT, curOf_lit, hcb_c, hbc_c, hbd_c, hat_c.esz, hat_c.len, hat_c.els, hxc_y, hxb_y, hxr_y, r0_y, r1_y, r2_y, r3_y, hlB_y, hlC_y, py00, qy00, py01, qy01, py02, qy02, py03, qy03, py04, qy04, py05, qy05, py06, qy06, py07, qy07, py10, qy10, py11, qy11, py12, qy12, py13, qy13, py14, qy14, py15, qy15, py16, qy16, py17, qy17, py20, qy20, py21, qy21, py22, qy22, py23, qy23, py24, qy24, py25, qy25, py26, qy26, py27, qy27, hb1, hb2]
        refine avc_gen (fun G => ∃ w : DRa, w.H = G ∧ w.Ok H c_p b_c i_c l_c.length a_c (a_c + 200 * (x.z : Int) + 60 * (y.g : Int) + 20) (6 * x.z + 2 * y.g + 1) ∧ w.ob < w.H.n ∧ w.ob = y.H.n + 1 + 1 + 1 ∧ w.out.length = y.out.length + 1 ∧ w.out = y.out ++ [r]) ⟨⟨_, a3, s3, y.out ++ [r], y.H.n + 1 + 1 + 1, 0, 0⟩, rfl, ⟨(by simp only [push_n, set_n, kill_n]; omega), (by simp only [push_I, set_I, kill_I]; exact hoy.hI), by simp [push_b, set_b, kill_b, onCur, dlI, dlT, curOf_lit, hcb_c, hbc_c, hbd_c, hat_c.esz, hat_c.len, hat_c.els, hxc_y, hxb_y, hxr_y, r0_y, r1_y, r2_y, r3_y, hlB_y, hlC_y, py00, qy00, py01, qy01, py02, qy02, py03, qy03, py04, qy04, py05, qy05, py06, qy06, py07, qy07, py10, qy10, py11, qy11, py12, qy12, py13, qy13, py14, qy14, py15, qy15, py16, qy16, py17, qy17, py20, qy20, py21, qy21, py22, qy22, py23, qy23, py24, qy24, py25, qy25, py26, qy26, py27, qy27]; done, (fun j k hjc hj => by have hjn := (hwf j k hj).1; have qj0 : (j = y.H.n) = False := eq_false (by omega); have qj1 : (j = y.H.n + 1) = False := eq_false (by omega); have qj2 : (j = y.H.n + 1 + 1) = False := eq_false (by omega); have qj3 : (j = y.H.n + 1 + 1 + 1) = False := eq_false (by omega); have qj4 : (j = y.H.n + 1 + 1 + 1 + 1) = False := eq_false (by omega); have qj5 : (j = y.H.n + 1 + 1 + 1 + 1 + 1) = False := eq_false (by omega); have qj6 : (j = y.H.n + 1 + 1 + 1 + 1 + 1 + 1) = False := eq_false (by omega); have qj7 : (j = y.H.n + 1 + 1 + 1 + 1 + 1 + 1 + 1) = False := eq_false (by omega); have qjo : (j = y.ob) = False := eq_false (by omega); simp [push_b, set_b, kill_b, hjc, qj0, qj1, qj2, qj3, qj4, qj5, qj6, qj7, qjo, hoy.old j k hjc hj]; done), by simp [push_b, set_b, kill_b, onCur, dlI, dlT, curOf_lit, hcb_c, hbc_c, hbd_c, hat_c.esz, hat_c.len, hat_c.els, hxc_y, hxb_y, hxr_y, r0_y, r1_y, r2_y, r3_y, hlB_y, hlC_y, py00, qy00, py01, qy01, py02, qy02, py03, qy03, py04, qy04, py05, qy05, py06, qy06, py07, qy07, py10, qy10, py11, qy11, py12, qy12, py13, qy13, py14, qy14, py15, qy15, py16, qy16, py17, qy17, py20, qy20, py21, qy21, py22, qy22, py23, qy23, py24, qy24, py25, qy25, py26, qy26, py27, qy27, rowK]; done, by simp only; omega, by simp only; omega, by simp only; omega, by simp only [List.length_append, List.length_cons, List.length_nil]; omega⟩, (by simp only [push_n, set_n, kill_n]; omega), rfl, by simp, rfl⟩ fun G1 hG1 => ?_
        obtain ⟨w, rfl, how, hbq_w, e1, e2, e3⟩ := hG1
        have hlast : (List.map eRa.cells w.out)[w.out.length - 1]? = some (eRa.cells r) := by rw [e3]; simp
        rw [← e1, ← e2]
        have hyl : w.out.length = y.out.length + 1 := e2
        have hly := hoy.len
        clear hoy e1 e2 e3 hb1 hb2 hxb_y hxc_y hxr_y hob_y hbq_y a0_y a1_y hln_y hnx_y hbx_y hcx_y r0_y r1_y r2_y r3_y hlB_y hlC_y py00 qy00 py01 qy01 py02 qy02 py03 qy03 py04 qy04 py05 qy05 py06 qy06 py07 qy07 py10 qy10 py11 qy11 py12 qy12 py13 qy13 py14 qy14 py15 qy15 py16 qy16 py17 qy17 py20 qy20 py21 qy21 py22 qy22 py23 qy23 py24 qy24 py25 qy25 py26 qy26 py27 qy27
        have hxb_w : w.H.b b_c = some k_c := how.old b_c k_c (Ne.symm hcb_c) hat_c.blk
        have hxc_w := how.cur
        have hxr_w := how.row
        have hob_w := how.hob
        have a0_w := how.at0
        have a1_w := how.at1
        have hln_w := how.len
        have hnx_w := how.hn
        have hbx_w : b_c < w.H.n := by omega
        have hcx_w : c_p < w.H.n := by omega
        have r0_w : (w.ob = c_p) = False := eq_false (by omega)
        have r1_w : (c_p = w.ob) = False := eq_false (by omega)
        have r2_w : (w.ob = b_c) = False := eq_false (by omega)
        have r3_w : (b_c = w.ob) = False := eq_false (by omega)
        have hlB_w : 0 ≤ w.a ∧ w.a ≤ 700000000 := by omega
        have hlC_w : w.a ≤ 900000000 := by omega
        have pw00 : (c_p = w.H.n) = False := eq_false (by omega)
        have qw00 : (w.H.n = c_p) = False := eq_false (by omega)
        have pw01 : (c_p = w.H.n + 1) = False := eq_false (by omega)
        have qw01 : (w.H.n + 1 = c_p) = False := eq_false (by omega)
        have pw02 : (c_p = w.H.n + 1 + 1) = False := eq_false (by omega)
        have qw02 : (w.H.n + 1 + 1 = c_p) = False := eq_false (by omega)
        have pw03 : (c_p = w.H.n + 1 + 1 + 1) = False := eq_false (by omega)
        have qw03 : (w.H.n + 1 + 1 + 1 = c_p) = False := eq_false (by omega)
        have pw04 : (c_p = w.H.n + 1 + 1 + 1 + 1) = False := eq_false (by omega)
        have qw04 : (w.H.n + 1 + 1 + 1 + 1 = c_p) = False := eq_false (by omega)
        have pw05 : (c_p = w.H.n + 1 + 1 + 1 + 1 + 1) = False := eq_false (by omega)
        have qw05 : (w.H.n + 1 + 1 + 1 + 1 + 1 = c_p) = False := eq_false (by omega)
        have pw06 : (c_p = w.H.n + 1 + 1 + 1 + 1 + 1 + 1) = False := eq_false (by omega)
        have qw06 : (w.H.n + 1 + 1 + 1 + 1 + 1 + 1 = c_p) = False := eq_false (by omega)
        have pw07 : (c_p = w.H.n + 1 + 1 + 1 + 1 + 1 + 1 + 1) = False := eq_false (by omega)
        have qw07 : (w.H.n + 1 + 1 + 1 + 1 + 1 + 1 + 1 = c_p) = False := eq_false (by omega)
        have pw10 : (b_c = w.H.n) = False := eq_false (by omega)
        have qw10 : (w.H.n = b_c) = False := eq_false (by omega)
        have pw11 : (b_c = w.H.n + 1) = False := eq_false (by omega)
        have qw11 : (w.H.n + 1 = b_c) = False := eq_false (by omega)
        have pw12 : (b_c = w.H.n + 1 + 1) = False := eq_false (by omega)
        have qw12 : (w.H.n + 1 + 1 = b_c) = False := eq_false (by omega)
        have pw13 : (b_c = w.H.n + 1 + 1 + 1) = False := eq_false (by omega)
        have qw13 : (w.H.n + 1 + 1 + 1 = b_c) = False := eq_false (by omega)
        have pw14 : (b_c = w.H.n + 1 + 1 + 1 + 1) = False := eq_false (by omega)
        have qw14 : (w.H.n + 1 + 1 + 1 + 1 = b_c) = False := eq_false (by omega)
        have pw15 : (b_c = w.H.n + 1 + 1 + 1 + 1 + 1) = False := eq_false (by omega)
        have qw15 : (w.H.n + 1 + 1 + 1 + 1 + 1 = b_c) = False := eq_false (by omega)
        have pw16 : (b_c = w.H.n + 1 + 1 + 1 + 1 + 1 + 1) = False := eq_false (by omega)
        have qw16 : (w.H.n + 1 + 1 + 1 + 1 + 1 + 1 = b_c) = False := eq_false (by omega)
        have pw17 : (b_c = w.H.n + 1 + 1 + 1 + 1 + 1 + 1 + 1) = False := eq_false (by omega)
        have qw17 : (w.H.n + 1 + 1 + 1 + 1 + 1 + 1 + 1 = b_c) = False := eq_false (by omega)
        have pw20 : (w.ob = w.H.n) = False := eq_false (by omega)
        have qw20 : (w.H.n = w.ob) = False := eq_false (by omega)
        have pw21 : (w.ob = w.H.n + 1) = False := eq_false (by omega)
        have qw21 : (w.H.n + 1 = w.ob) = False := eq_false (by omega)
        have pw22 : (w.ob = w.H.n + 1 + 1) = False := eq_false (by omega)
        have qw22 : (w.H.n + 1 + 1 = w.ob) = False := eq_false (by omega)
        have pw23 : (w.ob = w.H.n + 1 + 1 + 1) = False := eq_false (by omega)
        have qw23 : (w.H.n + 1 + 1 + 1 = w.ob) = False := eq_false (by omega)
        have pw24 : (w.ob = w.H.n + 1 + 1 + 1 + 1) = False := eq_false (by omega)
        have qw24 : (w.H.n + 1 + 1 + 1 + 1 = w.ob) = False := eq_false (by omega)
        have pw25 : (w.ob = w.H.n + 1 + 1 + 1 + 1 + 1) = False := eq_false (by omega)
        have qw25 : (w.H.n + 1 + 1 + 1 + 1 + 1 = w.ob) = False := eq_false (by omega)
        have pw26 : (w.ob = w.H.n + 1 + 1 + 1 + 1 + 1 + 1) = False := eq_false (by omega)
        have qw26 : (w.H.n + 1 + 1 + 1 + 1 + 1 + 1 = w.ob) = False := eq_false (by omega)
        have pw27 : (w.ob = w.H.n + 1 + 1 + 1 + 1 + 1 + 1 + 1) = False := eq_false (by omega)
        have qw27 : (w.H.n + 1 + 1 + 1 + 1 + 1 + 1 + 1 = w.ob) = False := eq_false (by omega)
        have wl0 : IntKind.i64.wrap ((w.out.length : Int) - 1) = (w.out.length : Int) - 1 := wrap_id (by omega) (by omega)
        have wl1 : ((w.out.length : Int) - 1).toNat = w.out.length - 1 := by omega
        have wl2 : 1 ≤ (w.out.length : Int) := by omega
        have wl3 : (w.out.length : Int) - 1 < (w.out.length : Int) := by omega
        simp (config := {contextual := true, implicitDefEqProofs := false, maxSteps := 2000000}) [-Int.not_le, -Int.not_lt, argsF, __spec_l1Cur__rates_r1, onCur, dlI, dlT, curOf_lit, hcb_c, hbc_c, hbd_c, hat_c.esz, hat_c.len, hat_c.els, hxc_w, hxb_w, hxr_w, r0_w, r1_w, r2_w, r3_w, hlB_w, hlC_w, pw00, qw00, pw01, qw01, pw02, qw02, pw03, qw03, pw04, qw04, pw05, qw05, pw06, qw06, pw07, qw07, pw10, qw10, pw11, qw11, pw12, qw12, pw13, qw13, pw14, qw14, pw15, qw15, pw16, qw16, pw17, qw17, pw20, qw20, pw21, qw21, pw22, qw22, pw23, qw23, pw24, qw24, pw25, qw25, pw26, qw26, pw27, qw27, wl0, wl1, wl2, wl3, hlast]
        refine Stop.mk fun o2 a4 s4 hl4 hu4 => ?_
        have hlG : 0 ≤ a4 ∧ a4 ≤ 900000000 := by omega
        by_cases hc : o2 = true ∧ r.til < 30
        · obtain ⟨rfl, ht⟩ := hc
          have hb3 : (w.out.length + 1) * 40 ≤ 140737488355328 := by omega
          have hb4 : w.out.length ≤ 140737488355327 := by omega
          simp (config := {contextual := true, implicitDefEqProofs := false, maxSteps := 2000000}) [-Int.not_le, -Int.not_lt, argsF, __spec_l1Cur__rates_r0, onCur, dlI, dlT, curOf_lit, hcb_c, hbc_c, hbd_c, hat_c.esz, hat_c.len, hat_c.els, hxc_w, hxb_w, hxr_w, r0_w, r1_w, r2_w, r3_w, hlB_w, hlC_w, pw00, qw00, pw01, qw01, pw02, qw02, pw03, qw03, pw04, qw04, pw05, qw05, pw06, qw06, pw07, qw07, pw10, qw10, pw11, qw11, pw12, qw12, pw13, qw13, pw14, qw14, pw15, qw15, pw16, qw16, pw17, qw17, pw20, qw20, pw21, qw21, pw22, qw22, pw23, qw23, pw24, qw24, pw25, qw25, pw26, qw26, pw27, qw27, hlG, ht]
          refine Stop.mk fun f2 a5 s5 hf2 hl5 hu5 => ?_
          have hlH : 0 ≤ a5 ∧ a5 ≤ 800000000 := by omega
          simp (config := {contextual := true, implicitDefEqProofs := false, maxSteps := 2000000}) [-Int.not_le, -Int.not_lt, argsF, onCur, dlI, dlT, curOf_lit, hcb_c, hbc_c, hbd_c, hat_c.esz, hat_c.len, hat_c.els, hxc_w, hxb_w, hxr_w, r0_w, r1_w, r2_w, r3_w, hlB_w, hlC_w, pw00, qw00, pw01, qw01, pw02, qw02, pw03, qw03, pw04, qw04, pw05, qw05, pw06, qw06, pw07, qw07, pw10, qw10, pw11, qw11, pw12, qw12, pw13, qw13, pw14, qw14, pw15, qw15, pw16, qw16, pw17, qw17, pw20, qw20, pw21, qw21, pw22, qw22, pw23, qw23, pw24, qw24, pw25, qw25, pw26, qw26, pw27, qw27, hlH]
          refine Stop.mk fun r2 a6 s6 hl6 hu6 => ?_
          simp (config := {contextual := true, implicitDefEqProofs := false, maxSteps := 2000000}) [-Int.not_le, -Int.not_lt, argsF, onCur, dlI, dlT, curOf_lit, hcb_c, hbc_c, hbd_c, hat_c.esz, hat_c.len, hat_c.els, hxc_w, hxb_w, hxr_w, r0_w, r1_w, r2_w, r3_w, hlB_w, hlC_w, pw00, qw00, pw01, qw01, pw02, qw02, pw03, qw03, pw04, qw04, pw05, qw05, pw06, qw06, pw07, qw07, pw10, qw10, pw11, qw11, pw12, qw12, pw13, qw13, pw14, qw14, pw15, qw15, pw16, qw16, pw17, qw17, pw20, qw20, pw21, qw21, pw22, qw22, pw23, qw23, pw24, qw24, pw25, qw25, pw26, qw26, pw27, qw27, hb3, hb4, __spec_l1Cur__rates_r3, wg]
          exact ⟨fun hw => ⟨⟨_, a6, s6, w.out ++ [r2], w.H.n + 1 + 1 + 1, y.z, y.g + 1⟩, ⟨⟨(by simp only [push_n, set_n, kill_n]; omega), (by simp only [push_I, set_I, kill_I]; exact how.hI), by simp [push_b, set_b, kill_b, onCur, dlI, dlT, curOf_lit, hcb_c, hbc_c, hbd_c, hat_c.esz, hat_c.len, hat_c.els, hxc_w, hxb_w, hxr_w, r0_w, r1_w, r2_w, r3_w, hlB_w, hlC_w, pw00, qw00, pw01, qw01, pw02, qw02, pw03, qw03, pw04, qw04, pw05, qw05, pw06, qw06, pw07, qw07, pw10, qw10, pw11, qw11, pw12, qw12, pw13, qw13, pw14, qw14, pw15, qw15, pw16, qw16, pw17, qw17, pw20, qw20, pw21, qw21, pw22, qw22, pw23, qw23, pw24, qw24, pw25, qw25, pw26, qw26, pw27, qw27]; done, (fun j k hjc hj => by have hjn := (hwf j k hj).1; have qj0 : (j = w.H.n) = False := eq_false (by omega); have qj1 : (j = w.H.n + 1) = False := eq_false (by omega); have qj2 : (j = w.H.n + 1 + 1) = False := eq_false (by omega); have qj3 : (j = w.H.n + 1 + 1 + 1) = False := eq_false (by omega); have qj4 : (j = w.H.n + 1 + 1 + 1 + 1) = False := eq_false (by omega); have qj5 : (j = w.H.n + 1 + 1 + 1 + 1 + 1) = False := eq_false (by omega); have qj6 : (j = w.H.n + 1 + 1 + 1 + 1 + 1 + 1) = False := eq_false (by omega); have qj7 : (j = w.H.n + 1 + 1 + 1 + 1 + 1 + 1 + 1) = False := eq_false (by omega); have qjo : (j = w.ob) = False := eq_false (by omega); simp [push_b, set_b, kill_b, hjc, qj0, qj1, qj2, qj3, qj4, qj5, qj6, qj7, qjo, how.old j k hjc hj]; done), by simp [push_b, set_b, kill_b, onCur, dlI, dlT, curOf_lit, hcb_c, hbc_c, hbd_c, hat_c.esz, hat_c.len, hat_c.els, hxc_w, hxb_w, hxr_w, r0_w, r1_w, r2_w, r3_w, hlB_w, hlC_w, pw00, qw00, pw01, qw01, pw02, qw02, pw03, qw03, pw04, qw04, pw05, qw05, pw06, qw06, pw07, qw07, pw10, qw10, pw11, qw11, pw12, qw12, pw13, qw13, pw14, qw14, pw15, qw15, pw16, qw16, pw17, qw17, pw20, qw20, pw21, qw21, pw22, qw22, pw23, qw23, pw24, qw24, pw25, qw25, pw26, qw26, pw27, qw27, rowK]; done, by simp only; omega, by simp only; omega, by simp only; omega, by simp only [List.length_append, List.length_cons, List.length_nil]; omega⟩, by simp only; omega⟩, by simp only; omega, .since (by simp only [push_n, set_n, kill_n]; omega) hw (.refl _) (by simp [frOk, AV.okR, AV.ok1, AC.okR, AV.ren, AV.ren1, AC.ren, AFrame.get, pl1_old, *]; first | done | rfl | omega)⟩⟩
        · have hcc : ∀ (p : Prop), ((if o2 = true then decide (r.til < 30) else false) = true) = False := fun _ => eq_false fun he => hc (by
            cases o2 with
            | true => exact ⟨rfl, by simpa using he⟩
            | false => simp at he)
          cases o2 with
          | true =>
            have ht : ¬ r.til < 30 := fun ht => hc ⟨rfl, ht⟩
            simp (config := {contextual := true, implicitDefEqProofs := false, maxSteps := 2000000}) [-Int.not_le, -Int.not_lt, argsF, __spec_l1Cur__rates_r0, onCur, dlI, dlT, curOf_lit, hcb_c, hbc_c, hbd_c, hat_c.esz, hat_c.len, hat_c.els, hxc_w, hxb_w, hxr_w, r0_w, r1_w, r2_w, r3_w, hlB_w, hlC_w, pw00, qw00, pw01, qw01, pw02, qw02, pw03, qw03, pw04, qw04, pw05, qw05, pw06, qw06, pw07, qw07, pw10, qw10, pw11, qw11, pw12, qw12, pw13, qw13, pw14, qw14, pw15, qw15, pw16, qw16, pw17, qw17, pw20, qw20, pw21, qw21, pw22, qw22, pw23, qw23, pw24, qw24, pw25, qw25, pw26, qw26, pw27, qw27, hlG, ht, __spec_l1Cur__rates_r3, wg]
            exact ⟨fun hw => ⟨⟨_, a4, s4, w.out, w.ob, y.z, y.g + 1⟩, ⟨⟨(by simp only [push_n, set_n, kill_n]; omega), (by simp only [push_I, set_I, kill_I]; exact how.hI), by simp [push_b, set_b, kill_b, onCur, dlI, dlT, curOf_lit, hcb_c, hbc_c, hbd_c, hat_c.esz, hat_c.len, hat_c.els, hxc_w, hxb_w, hxr_w, r0_w, r1_w, r2_w, r3_w, hlB_w, hlC_w, pw00, qw00, pw01, qw01, pw02, qw02, pw03, qw03, pw04, qw04, pw05, qw05, pw06, qw06, pw07, qw07, pw10, qw10, pw11, qw11, pw12, qw12, pw13, qw13, pw14, qw14, pw15, qw15, pw16, qw16, pw17, qw17, pw20, qw20, pw21, qw21, pw22, qw22, pw23, qw23, pw24, qw24, pw25, qw25, pw26, qw26, pw27, qw27]; done, (fun j k hjc hj => by have hjn := (hwf j k hj).1; have qj0 : (j = w.H.n) = False := eq_false (by omega); have qj1 : (j = w.H.n + 1) = False := eq_false (by omega); have qj2 : (j = w.H.n + 1 + 1) = False := eq_false (by omega); have qj3 : (j = w.H.n + 1 + 1 + 1) = False := eq_false (by omega); have qj4 : (j = w.H.n + 1 + 1 + 1 + 1) = False := eq_false (by omega); have qj5 : (j = w.H.n + 1 + 1 + 1 + 1 + 1) = False := eq_false (by omega); have qj6 : (j = w.H.n + 1 + 1 + 1 + 1 + 1 + 1) = False := eq_false (by omega); have qj7 : (j = w.H.n + 1 + 1 + 1 + 1 + 1 + 1 + 1) = False := eq_false (by omega); have qjo : (j = w.ob) = False := eq_false (by omega); simp [push_b, set_b, kill_b, hjc, qj0, qj1, qj2, qj3, qj4, qj5, qj6, qj7, qjo, how.old j k hjc hj]; done), by simp [push_b, set_b, kill_b, onCur, dlI, dlT, curOf_lit, hcb_c, hbc_c, hbd_c, hat_c.esz, hat_c.len, hat_c.els, hxc_w, hxb_w, hxr_w, r0_w, r1_w, r2_w, r3_w, hlB_w, hlC_w, pw00, qw00, pw01, qw01, pw02, qw02, pw03, qw03, pw04, qw04, pw05, qw05, pw06, qw06, pw07, qw07, pw10, qw10, pw11, qw11, pw12, qw12, pw13, qw13, pw14, qw14, pw15, qw15, pw16, qw16, pw17, qw17, pw20, qw20, pw21, qw21, pw22, qw22, pw23, qw23, pw24, qw24, pw25, qw25, pw26, qw26, pw27, qw27, rowK]; done, by simp only; omega, by simp only; omega, by simp only; omega, by simp only; omega⟩, by simp only; omega⟩, by simp only; omega, .since (by simp only [push_n, set_n, kill_n]; omega) hw (.refl _) (by simp [frOk, AV.okR, AV.ok1, AC.okR, AV.ren, AV.ren1, AC.ren, AFrame.get, pl1_old, *]; first | done | rfl | omega)⟩⟩
          | false =>
            simp (config := {contextual := true, implicitDefEqProofs := false, maxSteps := 2000000}) [-Int.not_le, -Int.not_lt, argsF, __spec_l1Cur__rates_r0, onCur, dlI, dlT, curOf_lit, hcb_c, hbc_c, hbd_c, hat_c.esz, hat_c.len, hat_c.els, hxc_w, hxb_w, hxr_w, r0_w, r1_w, r2_w, r3_w, hlB_w, hlC_w, pw00, qw00, pw01, qw01, pw02, qw02, pw03, qw03, pw04, qw04, pw05, qw05, pw06, qw06, pw07, qw07, pw10, qw10, pw11, qw11, pw12, qw12, pw13, qw13, pw14, qw14, pw15, qw15, pw16, qw16, pw17, qw17, pw20, qw20, pw21, qw21, pw22, qw22, pw23, qw23, pw24, qw24, pw25, qw25, pw26, qw26, pw27, qw27, hlG, __spec_l1Cur__rates_r3, wg]
            exact ⟨fun hw => ⟨⟨_, a4, s4, w.out, w.ob, y.z, y.g + 1⟩, ⟨⟨(by simp only [push_n, set_n, kill_n]; omega), (by simp only [push_I, set_I, kill_I]; exact how.hI), by simp [push_b, set_b, kill_b, onCur, dlI, dlT, curOf_lit, hcb_c, hbc_c, hbd_c, hat_c.esz, hat_c.len, hat_c.els, hxc_w, hxb_w, hxr_w, r0_w, r1_w, r2_w, r3_w, hlB_w, hlC_w, pw00, qw00, pw01, qw01, pw02, qw02, pw03, qw03, pw04, qw04, pw05, qw05, pw06, qw06, pw07, qw07, pw10, qw10, pw11, qw11, pw12, qw12, pw13, qw13, pw14, qw14, pw15, qw15, pw16, qw16, pw17, qw17, pw20, qw20, pw21, qw21, pw22, qw22, pw23, qw23, pw24, qw24, pw25, qw25, pw26, qw26, pw27, qw27]; done, (fun j k hjc hj => by have hjn := (hwf j k hj).1; have qj0 : (j = w.H.n) = False := eq_false (by omega); have qj1 : (j = w.H.n + 1) = False := eq_false (by omega); have qj2 : (j = w.H.n + 1 + 1) = False := eq_false (by omega); have qj3 : (j = w.H.n + 1 + 1 + 1) = False := eq_false (by omega); have qj4 : (j = w.H.n + 1 + 1 + 1 + 1) = False := eq_false (by omega); have qj5 : (j = w.H.n + 1 + 1 + 1 + 1 + 1) = False := eq_false (by omega); have qj6 : (j = w.H.n + 1 + 1 + 1 + 1 + 1 + 1) = False := eq_false (by omega); have qj7 : (j = w.H.n + 1 + 1 + 1 + 1 + 1 + 1 + 1) = False := eq_false (by omega); have qjo : (j = w.ob) = False := eq_false (by omega); simp [push_b, set_b, kill_b, hjc, qj0, qj1, qj2, qj3, qj4, qj5, qj6, qj7, qjo, how.old j k hjc hj]; done), by simp [push_b, set_b, kill_b, onCur, dlI, dlT, curOf_lit, hcb_c, hbc_c, hbd_c, hat_c.esz, hat_c.len, hat_c.els, hxc_w, hxb_w, hxr_w, r0_w, r1_w, r2_w, r3_w, hlB_w, hlC_w, pw00, qw00, pw01, qw01, pw02, qw02, pw03, qw03, pw04, qw04, pw05, qw05, pw06, qw06, pw07, qw07, pw10, qw10, pw11, qw11, pw12, qw12, pw13, qw13, pw14, qw14, pw15, qw15, pw16, qw16, pw17, qw17, pw20, qw20, pw21, qw21, pw22, qw22, pw23, qw23, pw24, qw24, pw25, qw25, pw26, qw26, pw27, qw27, rowK]; done, by simp only; omega, by simp only; omega, by simp only; omega, by simp only; omega⟩, by simp only; omega⟩, by simp only; omega, .since (by simp only [push_n, set_n, kill_n]; omega) hw (.refl _) (by simp [frOk, AV.okR, AV.ok1, AC.okR, AV.ren, AV.ren1, AC.ren, AFrame.get, pl1_old, *]; first | done | rfl | omega)⟩⟩
    · have hge3 : ¬ (y.g : Int) < 3 := by omega
      simp (config := {contextual := true, implicitDefEqProofs := false, maxSteps := 2000000}) [-Int.not_le, -Int.not_lt, argsF, __spec_l1Cur__rates_l0, __spec_l1Cur__rates_r5, onCur, dlI, dlT, curOf_lit, hcb_c, hbc_c, hbd_c, hat_c.esz, hat_c.len, hat_c.els, hxc_y, hxb_y, hxr_y, r0_y, r1_y, r2_y, r3_y, hlB_y, hlC_y, py00, qy00, py01, qy01, py02, qy02, py03, qy03, py04, qy04, py05, qy05, py06, qy06, py07, qy07, py10, qy10, py11, qy11, py12, qy12, py13, qy13, py14, qy14, py15, qy15, py16, qy16, py17, qy17, py20, qy20, py21, qy21, py22, qy22, py23, qy23, py24, qy24, py25, qy25, py26, qy26, py27, qy27, hge3, wz]
      exact ⟨fun hw => ⟨⟨_, y.a, y.s, y.out, y.ob, x.z + 1, 0⟩, ⟨hoy.more (by simp only; push_cast; omega) (by simp only; omega) _ _, by simp only; omega⟩, by simp only; omega, .since hoy.hn hw (.refl _) (by simp [frOk, AV.okR, AV.ok1, AC.okR, AV.ren, AV.ren1, AC.ren, AFrame.get, pl1_old, *]; first | done | rfl | omega)⟩⟩
  · have hge1 : ¬ (x.z : Int) < 3 := by omega
    have hx3 : x.z = 3 := by omega
    have hb1 : (x.out.length + 1) * 40 ≤ 140737488355328 := by omega
    have hb2 : x.out.length ≤ 140737488355327 := by omega
    simp (config := {contextual := true, implicitDefEqProofs := false, maxSteps := 2000000}) [-Int.not_le, -Int.not_lt, argsF, __spec_l1Cur__rates_l1, onCur, dlI, dlT, curOf_lit, hcb_c, hbc_c, hbd_c, hat_c.esz, hat_c.len, hat_c.els, hxc_x, hxb_x, hxr_x, r0_x, r1_x, r2_x, r3_x, hlB_x, hlC_x, px00, qx00, px01, qx01, px02, qx02, px03, qx03, px04, qx04, px05, qx05, px06, qx06, px07, qx07, px10, qx10, px11, qx11, px12, qx12, px13, qx13, px14, qx14, px15, qx15, px16, qx16, px17, qx17, px20, qx20, px21, qx21, px22, qx22, px23, qx23, px24, qx24, px25, qx25, px26, qx26, px27, qx27, hge1]
    simp (config := {contextual := true, implicitDefEqProofs := false, maxSteps := 2000000}) [-Int.not_le, -Int.not_lt, argsF, __spec_l1Cur__rates_r12, onCur, dlI, dlT, curOf_lit, hcb_c, hbc_c, hbd_c, hat_c.esz, hat_c.len, hat_c.els, hxc_x, hxb_x, hxr_x, r0_x, r1_x, r2_x, r3_x, hlB_x, hlC_x, px00, qx00, px01, qx01, px02, qx02, px03, qx03, px04, qx04, px05, qx05, px06, qx06, px07, qx07, px10, qx10, px11, qx11, px12, qx12, px13, qx13, px14, qx14, px15, qx15, px16, qx16, px17, qx17, px20, qx20, px21, qx21, px22, qx22, px23, qx23, px24, qx24, px25, qx25, px26, qx26, px27, qx27]
    refine Stop.mk fun n1 a1 s1 hl1 hu1 hn1 => ?_
    have hlA : 0 ≤ a1 ∧ a1 ≤ 900000000 := by omega
    rcases (show n1 = 0 ∨ n1 = 1 ∨ 2 ≤ n1 by omega) with rfl | rfl | hn2
    · simp (config := {contextual := true, implicitDefEqProofs := false, maxSteps := 2000000}) [-Int.not_le, -Int.not_lt, argsF, __spec_l1Cur__rates_r10, onCur, dlI, dlT, curOf_lit, hcb_c, hbc_c, hbd_c, hat_c.esz, hat_c.len, hat_c.els, hxc_x, hxb_x, hxr_x, r0_x, r1_x, r2_x, r3_x, hlB_x, hlC_x, px00, qx00, px01, qx01, px02, qx02, px03, qx03, px04, qx04, px05, qx05, px06, qx06, px07, qx07, px10, qx10, px11, qx11, px12, qx12, px13, qx13, px14, qx14, px15, qx15, px16, qx16, px17, qx17, px20, qx20, px21, qx21, px22, qx22, px23, qx23, px24, qx24, px25, qx25, px26, qx26, px27, qx27, hlA]
      refine Stop.mk fun zo a2 s2 hzo hl2 hu2 => ?_
      have hlB : 0 ≤ a2 ∧ a2 ≤ 900000000 := by omega
      simp (config := {contextual := true, implicitDefEqProofs := false, maxSteps := 2000000}) [-Int.not_le, -Int.not_lt, argsF, onCur, dlI, dlT, curOf_lit, hcb_c, hbc_c, hbd_c, hat_c.esz, hat_c.len, hat_c.els, hxc_x, hxb_x, hxr_x, r0_x, r1_x, r2_x, r3_x, hlB_x, hlC_x, px00, qx00, px01, qx01, px02, qx02, px03, qx03, px04, qx04, px05, qx05, px06, qx06, px07, qx07, px10, qx10, px11, qx11, px12, qx12, px13, qx13, px14, qx14, px15, qx15, px16, qx16, px17, qx17, px20, qx20, px21, qx21, px22, qx22, px23, qx23, px24, qx24, px25, qx25, px26, qx26, px27, qx27, hlB]
      refine Stop.mk fun gr a3 s3 hgr hl3 hu3 => ?_
      have hlC : 0 ≤ a3 ∧ a3 ≤ 800000000 := by omega
      simp (config := {contextual := true, implicitDefEqProofs := false, maxSteps := 2000000}) [-Int.not_le, -Int.not_lt, argsF, onCur, dlI, dlT, curOf_lit, hcb_c, hbc_c, hbd_c, hat_c.esz, hat_c.len, hat_c.els, hxc_x, hxb_x, hxr_x, r0_x, r1_x, r2_x, r3_x, hlB_x, hlC_x, px00, qx00, px01, qx01, px02, qx02, px03, qx03, px04, qx04, px05, qx05, px06, qx06, px07, qx07, px10, qx10, px11, qx11, px12, qx12, px13, qx13, px14, qx14, px15, qx15, px16, qx16, px17, qx17, px20, qx20, px21, qx21, px22, qx22, px23, qx23, px24, qx24, px25, qx25, px26, qx26, px27, qx27, hlC]
      refine Stop.mk fun r a4 s4 hl4 hu4 => ?_
      simp (config := {contextual := true, implicitDefEqProofs := false, maxSteps := 2000000}) [-Int.not_le, -Int.not_lt, argsF, onCur, dlI, dlT, curOf_lit, hcb_c, hbc_c, hbd_c, hat_c.esz, hat_c.len, hat_c.els, hxc_x, hxb_x, hxr_x, r0_x, r1_x, r2_x, r3_x, hlB_x, hlC_x, px00, qx00, px01, qx01, px02, qx02, px03, qx03, px04, qx04, px05, qx05, px06, qx06, px07, qx07, px10, qx10, px11, qx11, px12, qx12, px13, qx13, px14, qx14, px15, qx15, px16, qx16, px17, qx17, px20, qx20, px21, qx21, px22, qx22, px23, qx23, px24, qx24, px25, qx25, px26, qx26, px27, qx27, hb1, hb2, __spec_l1Cur__rates_r11]
      have hlr : (x.out ++ [r]).length ≤ 40 := by rw [List.length_append]; show x.out.length + 1 ≤ 40; omega
      have hq1 : a_c ≤ a4 := by omega
      have hq2 : a4 ≤ a_c + 5000 := by omega
      have h9 := Stop.out h (x.out ++ [r]) a4 s4 hlr hq1 hq2
      rw [List.length_append] at h9
      exact .one (H := H.set c_p (curK b_c i_c l_c.length a4 s4)) (k := rowK eRa 122 (x.out ++ [r])) (c := some (x.H.n + 1 + 1 + 1)) (cur_wf hwf hk_c _ _) (cur_sub2 hk_c (by simp only [push_n, set_n, kill_n]; omega) (by simp only [push_I, set_I, kill_I]; exact hok.hI) (by simp [push_b, set_b, kill_b, onCur, dlI, dlT, curOf_lit, hcb_c, hbc_c, hbd_c, hat_c.esz, hat_c.len, hat_c.els, hxc_x, hxb_x, hxr_x, r0_x, r1_x, r2_x, r3_x, hlB_x, hlC_x, px00, qx00, px01, qx01, px02, qx02, px03, qx03, px04, qx04, px05, qx05, px06, qx06, px07, qx07, px10, qx10, px11, qx11, px12, qx12, px13, qx13, px14, qx14, px15, qx15, px16, qx16, px17, qx17, px20, qx20, px21, qx21, px22, qx22, px23, qx23, px24, qx24, px25, qx25, px26, qx26, px27, qx27]; done) (fun j k hjc hj => by have hjn := (hwf j k hj).1; have qj0 : (j = x.H.n) = False := eq_false (by omega); have qj1 : (j = x.H.n + 1) = False := eq_false (by omega); have qj2 : (j = x.H.n + 1 + 1) = False := eq_false (by omega); have qj3 : (j = x.H.n + 1 + 1 + 1) = False := eq_false (by omega); have qj4 : (j = x.H.n + 1 + 1 + 1 + 1) = False := eq_false (by omega); have qj5 : (j = x.H.n + 1 + 1 + 1 + 1 + 1) = False := eq_false (by omega); have qj6 : (j = x.H.n + 1 + 1 + 1 + 1 + 1 + 1) = False := eq_false (by omega); have qj7 : (j = x.H.n + 1 + 1 + 1 + 1 + 1 + 1 + 1) = False := eq_false (by omega); have qjo : (j = x.ob) = False := eq_false (by omega); simp [push_b, set_b, kill_b, hjc, qj0, qj1, qj2, qj3, qj4, qj5, qj6, qj7, qjo, hok.old j k hjc hj]; done)) ⟨by simp only [set_n]; omega, by simp [push_b, set_b, kill_b, onCur, dlI, dlT, curOf_lit, hcb_c, hbc_c, hbd_c, hat_c.esz, hat_c.len, hat_c.els, hxc_x, hxb_x, hxr_x, r0_x, r1_x, r2_x, r3_x, hlB_x, hlC_x, px00, qx00, px01, qx01, px02, qx02, px03, qx03, px04, qx04, px05, qx05, px06, qx06, px07, qx07, px10, qx10, px11, qx11, px12, qx12, px13, qx13, px14, qx14, px15, qx15, px16, qx16, px17, qx17, px20, qx20, px21, qx21, px22, qx22, px23, qx23, px24, qx24, px25, qx25, px26, qx26, px27, qx27, rowK]; done⟩ (plain_map (fun _ => rfl) _) (by simp [frOk, AV.okR, AV.ok1, AC.okR, AV.ren, AV.ren1, AC.ren, AFrame.get, pl1_old, *]; first | done | rfl | omega) (h9)
    · simp (config := {contextual := true, implicitDefEqProofs := false, maxSteps := 2000000}) [-Int.not_le, -Int.not_lt, argsF, __spec_l1Cur__rates_r10, onCur, dlI, dlT, curOf_lit, hcb_c, hbc_c, hbd_c, hat_c.esz, hat_c.len, hat_c.els, hxc_x, hxb_x, hxr_x, r0_x, r1_x, r2_x, r3_x, hlB_x, hlC_x, px00, qx00, px01, qx01, px02, qx02, px03, qx03, px04, qx04, px05, qx05, px06, qx06, px07, qx07, px10, qx10, px11, qx11, px12, qx12, px13, qx13, px14, qx14, px15, qx15, px16, qx16, px17, qx17, px20, qx20, px21, qx21, px22, qx22, px23, qx23, px24, qx24, px25, qx25, px26, qx26, px27, qx27, hlA]
      have hup : a1 ≤ a_c + 1000 := by omega
      have hlo : a_c ≤ a1 := by omega
      have hxl : x.out.length ≤ 18 := by omega
      refine aloop_heap (X := DRa) (fun y => [(0, .c (.ptr c_p 0 0)), (3, .c (.sl (y.ob) (0) (y.out.length)))]) (fun y => y.H) (fun y => y.Ok H c_p b_c i_c l_c.length a_c (a1 + 4 * (y.out.length : Int)) 18) (fun y => 20 - y.out.length) hE _ ⟨_, a1, s1, x.out, x.ob, 0, 0⟩ ⟨(by simp only [push_n, set_n, kill_n]; omega), (by simp only [push_I, set_I, kill_I]; exact hok.hI), by simp [push_b, set_b, kill_b, onCur, dlI, dlT, curOf_lit, hcb_c, hbc_c, hbd_c, hat_c.esz, hat_c.len, hat_c.els, hxc_x, hxb_x, hxr_x, r0_x, r1_x, r2_x, r3_x, hlB_x, hlC_x, px00, qx00, px01, qx01, px02, qx02, px03, qx03, px04, qx04, px05, qx05, px06, qx06, px07, qx07, px10, qx10, px11, qx11, px12, qx12, px13, qx13, px14, qx14, px15, qx15, px16, qx16, px17, qx17, px20, qx20, px21, qx21, px22, qx22, px23, qx23, px24, qx24, px25, qx25, px26, qx26, px27, qx27]; done, (fun j k hjc hj => by have hjn := (hwf j k hj).1; have qj0 : (j = x.H.n) = False := eq_false (by omega); have qj1 : (j = x.H.n + 1) = False := eq_false (by omega); have qj2 : (j = x.H.n + 1 + 1) = False := eq_false (by omega); have qj3 : (j = x.H.n + 1 + 1 + 1) = False := eq_false (by omega); have qj4 : (j = x.H.n + 1 + 1 + 1 + 1) = False := eq_false (by omega); have qj5 : (j = x.H.n + 1 + 1 + 1 + 1 + 1) = False := eq_false (by omega); have qj6 : (j = x.H.n + 1 + 1 + 1 + 1 + 1 + 1) = False := eq_false (by omega); have qj7 : (j = x.H.n + 1 + 1 + 1 + 1 + 1 + 1 + 1) = False := eq_false (by omega); have qjo : (j = x.ob) = False := eq_false (by omega); simp [push_b, set_b, kill_b, hjc, qj0, qj1, qj2, qj3, qj4, qj5, qj6, qj7, qjo, hok.old j k hjc hj]; done), by simp [push_b, set_b, kill_b, onCur, dlI, dlT, curOf_lit, hcb_c, hbc_c, hbd_c, hat_c.esz, hat_c.len, hat_c.els, hxc_x, hxb_x, hxr_x, r0_x, r1_x, r2_x, r3_x, hlB_x, hlC_x, px00, qx00, px01, qx01, px02, qx02, px03, qx03, px04, qx04, px05, qx05, px06, qx06, px07, qx07, px10, qx10, px11, qx11, px12, qx12, px13, qx13, px14, qx14, px15, qx15, px16, qx16, px17, qx17, px20, qx20, px21, qx21, px22, qx22, px23, qx23, px24, qx24, px25, qx25, px26, qx26, px27, qx27]; done, hob_x, by simp only; omega, by simp only; omega, hxl⟩ (fun hw0 => .since (by simp only [push_n, set_n, kill_n]; omega) hw0 (.refl _) (by simp [frOk, AV.okR, AV.ok1, AC.okR, AV.ren, AV.ren1, AC.ren, AFrame.get, pl1_old, *]; first | done | rfl | omega)) (fun y hoy hwy => ?_)
      clear hok hxb_x hxc_x hxr_x hob_x hbq_x a0_x a1_x hln_x hnx_x hbx_x hcx_x r0_x r1_x r2_x r3_x hlB_x hlC_x px00 qx00 px01 qx01 px02 qx02 px03 qx03 px04 qx04 px05 qx05 px06 qx06 px07 qx07 px10 qx10 px11 qx11 px12 qx12 px13 qx13 px14 qx14 px15 qx15 px16 qx16 px17 qx17 px20 qx20 px21 qx21 px22 qx22 px23 qx23 px24 qx24 px25 qx25 px26 qx26 px27 qx27
      have hxb_y : y.H.b b_c = some k_c := hoy.old b_c k_c (Ne.symm hcb_c) hat_c.blk
      have hxc_y := hoy.cur
      have hxr_y := hoy.row
      have hob_y := hoy.hob
      have hbq_y := (hwy _ _ hoy.row).1
      have a0_y := hoy.at0
      have a1_y := hoy.at1
      have hln_y := hoy.len
      have hnx_y := hoy.hn
      have hbx_y : b_c < y.H.n := by omega
      have hcx_y : c_p < y.H.n := by omega
      have r0_y : (y.ob = c_p) = False := eq_false (by omega)
      have r1_y : (c_p = y.ob) = False := eq_false (by omega)
      have r2_y : (y.ob = b_c) = False := eq_false (by omega)
      have r3_y : (b_c = y.ob) = False := eq_false (by omega)
      have hlB_y : 0 ≤ y.a ∧ y.a ≤ 700000000 := by omega
      have hlC_y : y.a ≤ 900000000 := by omega
      have py00 : (c_p = y.H.n) = False := eq_false (by omega)
      have qy00 : (y.H.n = c_p) = False := eq_false (by omega)
      have py01 : (c_p = y.H.n + 1) = False := eq_false (by omega)
      have qy01 : (y.H.n + 1 = c_p) = False := eq_false (by omega)
      have py02 : (c_p = y.H.n + 1 + 1) = False := eq_false (by omega)
      have qy02 : (y.H.n + 1 + 1 = c_p) = False := eq_false (by omega)
      have py03 : (c_p = y.H.n + 1 + 1 + 1) = False := eq_false (by omega)
      have qy03 : (y.H.n + 1 + 1 + 1 = c_p) = False := eq_false (by omega)
      have py04 : (c_p = y.H.n + 1 + 1 + 1 + 1) = False := eq_false (by omega)
      have qy04 : (y.H.n + 1 + 1 + 1 + 1 = c_p) = False := eq_false (by omega)
      have py05 : (c_p = y.H.n + 1 + 1 + 1 + 1 + 1) = False := eq_false (by omega)
      have qy05 : (y.H.n + 1 + 1 + 1 + 1 + 1 = c_p) = False := eq_false (by omega)
      have py06 : (c_p = y.H.n + 1 + 1 + 1 + 1 + 1 + 1) = False := eq_false (by omega)
      have qy06 : (y.H.n + 1 + 1 + 1 + 1 + 1 + 1 = c_p) = False := eq_false (by omega)
      have py07 : (c_p = y.H.n + 1 + 1 + 1 + 1 + 1 + 1 + 1) = False := eq_false (by omega)
      have qy07 : (y.H.n + 1 + 1 + 1 + 1 + 1 + 1 + 1 = c_p) = False := eq_false (by omega)
      have py10 : (b_c = y.H.n) = False := eq_false (by omega)
      have qy10 : (y.H.n = b_c) = False := eq_false (by omega)
      have py11 : (b_c = y.H.n + 1) = False := eq_false (by omega)
      have qy11 : (y.H.n + 1 = b_c) = False := eq_false (by omega)
      have py12 : (b_c = y.H.n + 1 + 1) = False := eq_false (by omega)
      have qy12 : (y.H.n + 1 + 1 = b_c) = False := eq_false (by omega)
      have py13 : (b_c = y.H.n + 1 + 1 + 1) = False := eq_false (by omega)
      have qy13 : (y.H.n + 1 + 1 + 1 = b_c) = False := eq_false (by omega)
      have py14 : (b_c = y.H.n + 1 + 1 + 1 + 1) = False := eq_false (by omega)
      have qy14 : (y.H.n + 1 + 1 + 1 + 1 = b_c) = False := eq_false (by omega)
      have py15 : (b_c = y.H.n + 1 + 1 + 1 + 1 + 1) = False := eq_false (by omega)
      have qy15 : (y.H.n + 1 + 1 + 1 + 1 + 1 = b_c) = False := eq_false (by omega)
      have py16 : (b_c = y.H.n + 1 + 1 + 1 + 1 + 1 + 1) = False := eq_false (by omega)
      have qy16 : (y.H.n + 1 + 1 + 1 + 1 + 1 + 1 = b_c) = False := eq_false (by omega)
      have py17 : (b_c = y.H.n + 1 + 1 + 1 + 1 + 1 + 1 + 1) = False := eq_false (by omega)
      have qy17 : (y.H.n + 1 + 1 + 1 + 1 + 1 + 1 + 1 = b_c) = False := eq_false (by omega)
      have py20 : (y.ob = y.H.n) = False := eq_false (by omega)
      have qy20 : (y.H.n = y.ob) = False := eq_false (by omega)
      have py21 : (y.ob = y.H.n + 1) = False := eq_false (by omega)
      have qy21 : (y.H.n + 1 = y.ob) = False := eq_false (by omega)
      have py22 : (y.ob = y.H.n + 1 + 1) = False := eq_false (by omega)
      have qy22 : (y.H.n + 1 + 1 = y.ob) = False := eq_false (by omega)
      have py23 : (y.ob = y.H.n + 1 + 1 + 1) = False := eq_false (by omega)
      have qy23 : (y.H.n + 1 + 1 + 1 = y.ob) = False := eq_false (by omega)
      have py24 : (y.ob = y.H.n + 1 + 1 + 1 + 1) = False := eq_false (by omega)
      have qy24 : (y.H.n + 1 + 1 + 1 + 1 = y.ob) = False := eq_false (by omega)
      have py25 : (y.ob = y.H.n + 1 + 1 + 1 + 1 + 1) = False := eq_false (by omega)
      have qy25 : (y.H.n + 1 + 1 + 1 + 1 + 1 = y.ob) = False := eq_false (by omega)
      have py26 : (y.ob = y.H.n + 1 + 1 + 1 + 1 + 1 + 1) = False := eq_false (by omega)
      have qy26 : (y.H.n + 1 + 1 + 1 + 1 + 1 + 1 = y.ob) = False := eq_false (by omega)
      have py27 : (y.ob = y.H.n + 1 + 1 + 1 + 1 + 1 + 1 + 1) = False := eq_false (by omega)
      have qy27 : (y.H.n + 1 + 1 + 1 + 1 + 1 + 1 + 1 = y.ob) = False := eq_false (by omega)
      simp (config := {contextual := true, implicitDefEqProofs := false, maxSteps := 2000000}) [-Int.not_le, -Int.not_lt, argsF, __spec_l1Cur__rates_l2, onCur, dlI, dlT, curOf_lit, hcb_c, hbc_c, hbd_c, hat_c.esz, hat_c.len, hat_c.els, hxc_y, hxb_y, hxr_y, r0_y, r1_y, r2_y, r3_y, hlB_y, hlC_y, py00, qy00, py01, qy01, py02, qy02, py03, qy03, py04, qy04, py05, qy05, py06, qy06, py07, qy07, py10, qy10, py11, qy11, py12, qy12, py13, qy13, py14, qy14, py15, qy15, py16, qy16, py17, qy17, py20, qy20, py21, qy21, py22, qy22, py23, qy23, py24, qy24, py25, qy25, py26, qy26, py27, qy27]
      refine Stop.mk fun z a2 s2 hl2 hu2 hz2 => ?_
      have hz3 := hz2 (by omega)
      have wz : IntKind.i64.wrap (16 + (z : Int)) = 16 + (z : Int) := wrap_id (by omega) (by omega)
      by_cases hc : (y.out.length : Int) < 16 + (z : Int)
      · have hb1 : (y.out.length + 1) * 40 ≤ 140737488355328 := by omega
        have hb2 : y.out.length ≤ 140737488355327 := by omega
        simp (config := {contextual := true, implicitDefEqProofs := false, maxSteps := 2000000}) [-Int.not_le, -Int.not_lt, argsF, __spec_l1Cur__rates_r7, __spec_l1Cur__rates_r8, onCur, dlI, dlT, curOf_lit, hcb_c, hbc_c, hbd_c, hat_c.esz, hat_c.len, hat_c.els, hxc_y, hxb_y, hxr_y, r0_y, r1_y, r2_y, r3_y, hlB_y, hlC_y, py00, qy00, py01, qy01, py02, qy02, py03, qy03, py04, qy04, py05, qy05, py06, qy06, py07, qy07, py10, qy10, py11, qy11, py12, qy12, py13, qy13, py14, qy14, py15, qy15, py16, qy16, py17, qy17, py20, qy20, py21, qy21, py22, qy22, py23, qy23, py24, qy24, py25, qy25, py26, qy26, py27, qy27, wz, hc, hb1, hb2]
        exact ⟨fun hw => ⟨⟨_, a2, s2, y.out ++ [⟨8, IntKind.i64.wrap (10 + (y.out.length : Int)), 0, 7, 4⟩], y.H.n + 1, 0, 0⟩, ⟨(by simp only [push_n, set_n, kill_n]; omega), (by simp only [push_I, set_I, kill_I]; exact hoy.hI), by simp [push_b, set_b, kill_b, onCur, dlI, dlT, curOf_lit, hcb_c, hbc_c, hbd_c, hat_c.esz, hat_c.len, hat_c.els, hxc_y, hxb_y, hxr_y, r0_y, r1_y, r2_y, r3_y, hlB_y, hlC_y, py00, qy00, py01, qy01, py02, qy02, py03, qy03, py04, qy04, py05, qy05, py06, qy06, py07, qy07, py10, qy10, py11, qy11, py12, qy12, py13, qy13, py14, qy14, py15, qy15, py16, qy16, py17, qy17, py20, qy20, py21, qy21, py22, qy22, py23, qy23, py24, qy24, py25, qy25, py26, qy26, py27, qy27]; done, (fun j k hjc hj => by have hjn := (hwf j k hj).1; have qj0 : (j = y.H.n) = False := eq_false (by omega); have qj1 : (j = y.H.n + 1) = False := eq_false (by omega); have qj2 : (j = y.H.n + 1 + 1) = False := eq_false (by omega); have qj3 : (j = y.H.n + 1 + 1 + 1) = False := eq_false (by omega); have qj4 : (j = y.H.n + 1 + 1 + 1 + 1) = False := eq_false (by omega); have qj5 : (j = y.H.n + 1 + 1 + 1 + 1 + 1) = False := eq_false (by omega); have qj6 : (j = y.H.n + 1 + 1 + 1 + 1 + 1 + 1) = False := eq_false (by omega); have qj7 : (j = y.H.n + 1 + 1 + 1 + 1 + 1 + 1 + 1) = False := eq_false (by omega); have qjo : (j = y.ob) = False := eq_false (by omega); simp [push_b, set_b, kill_b, hjc, qj0, qj1, qj2, qj3, qj4, qj5, qj6, qj7, qjo, hoy.old j k hjc hj]; done), by simp [push_b, set_b, kill_b, onCur, dlI, dlT, curOf_lit, hcb_c, hbc_c, hbd_c, hat_c.esz, hat_c.len, hat_c.els, hxc_y, hxb_y, hxr_y, r0_y, r1_y, r2_y, r3_y, hlB_y, hlC_y, py00, qy00, py01, qy01, py02, qy02, py03, qy03, py04, qy04, py05, qy05, py06, qy06, py07, qy07, py10, qy10, py11, qy11, py12, qy12, py13, qy13, py14, qy14, py15, qy15, py16, qy16, py17, qy17, py20, qy20, py21, qy21, py22, qy22, py23, qy23, py24, qy24, py25, qy25, py26, qy26, py27, qy27, rowK]; done, by simp only; omega, by simp only; omega, by simp only [List.length_append, List.length_cons, List.length_nil]; omega, by simp only [List.length_append, List.length_cons, List.length_nil]; omega⟩, by simp only [List.length_append, List.length_cons, List.length_nil]; omega, .since (by simp only [push_n, set_n, kill_n]; omega) hw (.refl _) (by simp [frOk, AV.okR, AV.ok1, AC.okR, AV.ren, AV.ren1, AC.ren, AFrame.get, pl1_old, *]; first | done | rfl | omega)⟩⟩
      · simp (config := {contextual := true, implicitDefEqProofs := false, maxSteps := 2000000}) [-Int.not_le, -Int.not_lt, argsF, __spec_l1Cur__rates_r7, __spec_l1Cur__rates_r11, onCur, dlI, dlT, curOf_lit, hcb_c, hbc_c, hbd_c, hat_c.esz, hat_c.len, hat_c.els, hxc_y, hxb_y, hxr_y, r0_y, r1_y, r2_y, r3_y, hlB_y, hlC_y, py00, qy00, py01, qy01, py02, qy02, py03, qy03, py04, qy04, py05, qy05, py06, qy06, py07, qy07, py10, qy10, py11, qy11, py12, qy12, py13, qy13, py14, qy14, py15, qy15, py16, qy16, py17, qy17, py20, qy20, py21, qy21, py22, qy22, py23, qy23, py24, qy24, py25, qy25, py26, qy26, py27, qy27, wz, hc]
        exact .one (H := H.set c_p (curK b_c i_c l_c.length a2 s2)) (k := rowK eRa 122 y.out) (c := some (y.ob)) (cur_wf hwf hk_c _ _) (cur_sub2 hk_c (by simp only [push_n, set_n, kill_n]; omega) (by simp only [push_I, set_I, kill_I]; exact hoy.hI) (by simp [push_b, set_b, kill_b, onCur, dlI, dlT, curOf_lit, hcb_c, hbc_c, hbd_c, hat_c.esz, hat_c.len, hat_c.els, hxc_y, hxb_y, hxr_y, r0_y, r1_y, r2_y, r3_y, hlB_y, hlC_y, py00, qy00, py01, qy01, py02, qy02, py03, qy03, py04, qy04, py05, qy05, py06, qy06, py07, qy07, py10, qy10, py11, qy11, py12, qy12, py13, qy13, py14, qy14, py15, qy15, py16, qy16, py17, qy17, py20, qy20, py21, qy21, py22, qy22, py23, qy23, py24, qy24, py25, qy25, py26, qy26, py27, qy27]; done) (fun j k hjc hj => by have hjn := (hwf j k hj).1; have qj0 : (j = y.H.n) = False := eq_false (by omega); have qj1 : (j = y.H.n + 1) = False := eq_false (by omega); have qj2 : (j = y.H.n + 1 + 1) = False := eq_false (by omega); have qj3 : (j = y.H.n + 1 + 1 + 1) = False := eq_false (by omega); have qj4 : (j = y.H.n + 1 + 1 + 1 + 1) = False := eq_false (by omega); have qj5 : (j = y.H.n + 1 + 1 + 1 + 1 + 1) = False := eq_false (by omega); have qj6 : (j = y.H.n + 1 + 1 + 1 + 1 + 1 + 1) = False := eq_false (by omega); have qj7 : (j = y.H.n + 1 + 1 + 1 + 1 + 1 + 1 + 1) = False := eq_false (by omega); have qjo : (j = y.ob) = False := eq_false (by omega); simp [push_b, set_b, kill_b, hjc, qj0, qj1, qj2, qj3, qj4, qj5, qj6, qj7, qjo, hoy.old j k hjc hj]; done)) ⟨by simp only [set_n]; omega, by simp [push_b, set_b, kill_b, onCur, dlI, dlT, curOf_lit, hcb_c, hbc_c, hbd_c, hat_c.esz, hat_c.len, hat_c.els, hxc_y, hxb_y, hxr_y, r0_y, r1_y, r2_y, r3_y, hlB_y, hlC_y, py00, qy00, py01, qy01, py02, qy02, py03, qy03, py04, qy04, py05, qy05, py06, qy06, py07, qy07, py10, qy10, py11, qy11, py12, qy12, py13, qy13, py14, qy14, py15, qy15, py16, qy16, py17, qy17, py20, qy20, py21, qy21, py22, qy22, py23, qy23, py24, qy24, py25, qy25, py26, qy26, py27, qy27, rowK]; done⟩ (plain_map (fun _ => rfl) _) (by simp [frOk, AV.okR, AV.ok1, AC.okR, AV.ren, AV.ren1, AC.ren, AFrame.get, pl1_old, *]; first | done | rfl | omega) (Stop.out h y.out a2 s2 (by omega) (by omega) (by omega))
    · have k0 : ((n1 : Int) = 0) = False := eq_false (by omega)
      have k1 : ((n1 : Int) = 1) = False := eq_false (by omega)
      have k2 : (n1 = 0) = False := eq_false (by omega)
      have k3 : (n1 = 1) = False := eq_false (by omega)
      simp (config := {contextual := true, implicitDefEqProofs := false, maxSteps := 2000000}) [-Int.not_le, -Int.not_lt, argsF, __spec_l1Cur__rates_r10, __spec_l1Cur__rates_r11, onCur, dlI, dlT, curOf_lit, hcb_c, hbc_c, hbd_c, hat_c.esz, hat_c.len, hat_c.els, hxc_x, hxb_x, hxr_x, r0_x, r1_x, r2_x, r3_x, hlB_x, hlC_x, px00, qx00, px01, qx01, px02, qx02, px03, qx03, px04, qx04, px05, qx05, px06, qx06, px07, qx07, px10, qx10, px11, qx11, px12, qx12, px13, qx13, px14, qx14, px15, qx15, px16, qx16, px17, qx17, px20, qx20, px21, qx21, px22, qx22, px23, qx23, px24, qx24, px25, qx25, px26, qx26, px27, qx27, hlA, k0, k1, k2, k3]
      exact .one (H := H.set c_p (curK b_c i_c l_c.length a1 s1)) (k := rowK eRa 122 x.out) (c := some (x.ob)) (cur_wf hwf hk_c _ _) (cur_sub2 hk_c (by simp only [push_n, set_n, kill_n]; omega) (by simp only [push_I, set_I, kill_I]; exact hok.hI) (by simp [push_b, set_b, kill_b, onCur, dlI, dlT, curOf_lit, hcb_c, hbc_c, hbd_c, hat_c.esz, hat_c.len, hat_c.els, hxc_x, hxb_x, hxr_x, r0_x, r1_x, r2_x, r3_x, hlB_x, hlC_x, px00, qx00, px01, qx01, px02, qx02, px03, qx03, px04, qx04, px05, qx05, px06, qx06, px07, qx07, px10, qx10, px11, qx11, px12, qx12, px13, qx13, px14, qx14, px15, qx15, px16, qx16, px17, qx17, px20, qx20, px21, qx21, px22, qx22, px23, qx23, px24, qx24, px25, qx25, px26, qx26, px27, qx27]; done) (fun j k hjc hj => by have hjn := (hwf j k hj).1; have qj0 : (j = x.H.n) = False := eq_false (by omega); have qj1 : (j = x.H.n + 1) = False := eq_false (by omega); have qj2 : (j = x.H.n + 1 + 1) = False := eq_false (by omega); have qj3 : (j = x.H.n + 1 + 1 + 1) = False := eq_false (by omega); have qj4 : (j = x.H.n + 1 + 1 + 1 + 1) = False := eq_false (by omega); have qj5 : (j = x.H.n + 1 + 1 + 1 + 1 + 1) = False := eq_false (by omega); have qj6 : (j = x.H.n + 1 + 1 + 1 + 1 + 1 + 1) = False := eq_false (by omega); have qj7 : (j = x.H.n + 1 + 1 + 1 + 1 + 1 + 1 + 1) = False := eq_false (by omega); have qjo : (j = x.ob) = False := eq_false (by omega); simp [push_b, set_b, kill_b, hjc, qj0, qj1, qj2, qj3, qj4, qj5, qj6, qj7, qjo, hok.old j k hjc hj]; done)) ⟨by simp only [set_n]; omega, by simp [push_b, set_b, kill_b, onCur, dlI, dlT, curOf_lit, hcb_c, hbc_c, hbd_c, hat_c.esz, hat_c.len, hat_c.els, hxc_x, hxb_x, hxr_x, r0_x, r1_x, r2_x, r3_x, hlB_x, hlC_x, px00, qx00, px01, qx01, px02, qx02, px03, qx03, px04, qx04, px05, qx05, px06, qx06, px07, qx07, px10, qx10, px11, qx11, px12, qx12, px13, qx13, px14, qx14, px15, qx15, px16, qx16, px17, qx17, px20, qx20, px21, qx21, px22, qx22, px23, qx23, px24, qx24, px25, qx25, px26, qx26, px27, qx27, rowK]; done⟩ (plain_map (fun _ => rfl) _) (by simp [frOk, AV.okR, AV.ok1, AC.okR, AV.ren, AV.ren1, AC.ren, AFrame.get, pl1_old, *]; first | done | rfl | omega) (Stop.out h x.out a1 s1 (by omega) (by omega) (by omega))

end Go.Proofs.Ytjiffkjeijfilaa
