/- The draws of the covers: what the laws draw. -/
import Derived.Test.YtjiffkjeijfilaaCvDs
set_option maxRecDepth 8000
set_option linter.unusedSimpArgs false
set_option linter.unusedVariables false
namespace Go.Proofs.Ytjiffkjeijfilaa
open Go Go.RowKit

set_option maxHeartbeats 2000000

def q_DIe : Con := fun args H K => match args with
  | [code_v] => eU.rd H (fun code => code.length ≤ 65536 ∧ Stop (∀ (ps : List Ra) (x : Cv), ps.length ≤ 40 → K (.tup [.c (.sl (H.n) (0) (ps.length)), .agg (eCv.cells x)]) (H.push (rowK eRa 122 ps))) ()) code_v
  | _ => False
@[simp ↓] theorem q_DIe_eq (code_v : AV) (H : AHeap) (K : AV → AHeap → Prop) : q_DIe [code_v] H K = (eU.rd H (fun code => code.length ≤ 65536 ∧ Stop (∀ (ps : List Ra) (x : Cv), ps.length ≤ 40 → K (.tup [.c (.sl (H.n) (0) (ps.length)), .agg (eCv.cells x)]) (H.push (rowK eRa 122 ps))) ()) code_v) := rfl

theorem spec_DrawIsExplained_s : Sound Try.prog 92 q_DIe := by
  intro args H K h
  unfold q_DIe at h
  split at h
  rotate_left
  all_goals first | exact False.elim h | skip
  rename_i code_v
  have h1 := Enc.rd_at h
  clear h
  obtain ⟨b_code, i_code, k_code, code, rfl, hat_code, h⟩ := h1
  have hE := soundE_cons spec_l1Cur__explained_s (soundE_nil (P := Try.prog))
  refine acalls_fn spec_DrawIsExplained_k hE ⟨by simp, fun hwf => ?_⟩
  have hb_code : b_code < H.n := (hwf b_code k_code hat_code.blk).1
  have hne_code : (b_code = H.n) = False := eq_false (by omega)
  have hne1_code : ∀ i, (b_code = H.n + i) = False := fun i => eq_false (by omega)
  have hne2_code : (b_code = H.n + 1 + 1) = False ∧ (b_code = H.n + 1 + 1 + 1) = False ∧ (b_code = H.n + 1 + 1 + 1 + 1) = False ∧ (b_code = H.n + 1 + 1 + 1 + 1 + 1) = False ∧ (b_code = H.n + 1 + 1 + 1 + 1 + 1 + 1) = False ∧ (b_code = H.n + 1 + 1 + 1 + 1 + 1 + 1 + 1) = False ∧ (b_code = H.n + 1 + 1 + 1 + 1 + 1 + 1 + 1 + 1) = False ∧ (b_code = H.n + 1 + 1 + 1 + 1 + 1 + 1 + 1 + 1 + 1) = False ∧ (b_code = H.n + 1 + 1 + 1 + 1 + 1 + 1 + 1 + 1 + 1 + 1) = False ∧ (b_code = H.n + 1 + 1 + 1 + 1 + 1 + 1 + 1 + 1 + 1 + 1 + 1) = False ∧ (b_code = H.n + 1 + 1 + 1 + 1 + 1 + 1 + 1 + 1 + 1 + 1 + 1 + 1) = False := ⟨eq_false (by omega), eq_false (by omega), eq_false (by omega), eq_false (by omega), eq_false (by omega), eq_false (by omega), eq_false (by omega), eq_false (by omega), eq_false (by omega), eq_false (by omega), eq_false (by omega)⟩
  have hmx_code : code.length ≤ 9223372036854775807 := by have h1 := (hwf b_code k_code hat_code.blk).2.2; have h2 := hat_code.len; omega
  obtain ⟨hcl, h⟩ := h
  have hr0_code : (H.n = b_code) = False := eq_false (by omega)
  have hr1_code : ∀ i, (H.n + i = b_code) = False := fun i => eq_false (by omega)
  have hnr2_code : (H.n + 1 + 1 = b_code) = False ∧ (H.n + 1 + 1 + 1 = b_code) = False ∧ (H.n + 1 + 1 + 1 + 1 = b_code) = False ∧ (H.n + 1 + 1 + 1 + 1 + 1 = b_code) = False ∧ (H.n + 1 + 1 + 1 + 1 + 1 + 1 = b_code) = False ∧ (H.n + 1 + 1 + 1 + 1 + 1 + 1 + 1 = b_code) = False ∧ (H.n + 1 + 1 + 1 + 1 + 1 + 1 + 1 + 1 = b_code) = False ∧ (H.n + 1 + 1 + 1 + 1 + 1 + 1 + 1 + 1 + 1 = b_code) = False ∧ (H.n + 1 + 1 + 1 + 1 + 1 + 1 + 1 + 1 + 1 + 1 = b_code) = False ∧ (H.n + 1 + 1 + 1 + 1 + 1 + 1 + 1 + 1 + 1 + 1 + 1 = b_code) = False ∧ (H.n + 1 + 1 + 1 + 1 + 1 + 1 + 1 + 1 + 1 + 1 + 1 + 1 = b_code) = False := ⟨eq_false (by omega), eq_false (by omega), eq_false (by omega), eq_false (by omega), eq_false (by omega), eq_false (by omega), eq_false (by omega), eq_false (by omega), eq_false (by omega), eq_false (by omega), eq_false (by omega)⟩
  simp (config := {contextual := true, implicitDefEqProofs := false, maxSteps := 2000000}) [-Int.not_le, -Int.not_lt, argsF, spec_DrawIsExplained_c, hr0_code, hr1_code, hnr2_code.1, hnr2_code.2.1, hnr2_code.2.2.1, hnr2_code.2.2.2.1, hnr2_code.2.2.2.2.1, hnr2_code.2.2.2.2.2.1, hnr2_code.2.2.2.2.2.2.1, hnr2_code.2.2.2.2.2.2.2.1, hnr2_code.2.2.2.2.2.2.2.2.1, hnr2_code.2.2.2.2.2.2.2.2.2.1, hnr2_code.2.2.2.2.2.2.2.2.2.2, hat_code.blk, hat_code.esz, hat_code.len, hat_code.els, hne_code, hne1_code, hne2_code.1, hne2_code.2.1, hne2_code.2.2.1, hne2_code.2.2.2.1, hne2_code.2.2.2.2.1, hne2_code.2.2.2.2.2.1, hne2_code.2.2.2.2.2.2.1, hne2_code.2.2.2.2.2.2.2.1, hne2_code.2.2.2.2.2.2.2.2.1, hne2_code.2.2.2.2.2.2.2.2.2.1, hne2_code.2.2.2.2.2.2.2.2.2.2, onCur, dlI, dlT, curOf_lit, Enc.decL_map, rowK]
  refine Stop.mk fun ps x a1 s1 hpl hl1 hu1 => ?_
  simp (config := {contextual := true, implicitDefEqProofs := false, maxSteps := 2000000}) [-Int.not_le, -Int.not_lt, argsF, hr0_code, hr1_code, hnr2_code.1, hnr2_code.2.1, hnr2_code.2.2.1, hnr2_code.2.2.2.1, hnr2_code.2.2.2.2.1, hnr2_code.2.2.2.2.2.1, hnr2_code.2.2.2.2.2.2.1, hnr2_code.2.2.2.2.2.2.2.1, hnr2_code.2.2.2.2.2.2.2.2.1, hnr2_code.2.2.2.2.2.2.2.2.2.1, hnr2_code.2.2.2.2.2.2.2.2.2.2, hat_code.blk, hat_code.esz, hat_code.len, hat_code.els, hne_code, hne1_code, hne2_code.1, hne2_code.2.1, hne2_code.2.2.1, hne2_code.2.2.2.1, hne2_code.2.2.2.2.1, hne2_code.2.2.2.2.2.1, hne2_code.2.2.2.2.2.2.1, hne2_code.2.2.2.2.2.2.2.1, hne2_code.2.2.2.2.2.2.2.2.1, hne2_code.2.2.2.2.2.2.2.2.2.1, hne2_code.2.2.2.2.2.2.2.2.2.2, onCur, dlI, dlT, curOf_lit, Enc.decL_map, rowK]
  exact .one (k := rowK eRa 122 ps) (c := some (H.n + 1 + 1)) hwf (new_sub hwf (by simp only [push_n, set_n, kill_n]; omega) (by simp only [push_I, set_I, kill_I]) (fun j hj => by have hnj : (j = H.n) = False := eq_false (by omega); have hnj1 : ∀ i, (j = H.n + i) = False := fun i => eq_false (by omega); have hne2_j : (j = H.n + 1 + 1) = False ∧ (j = H.n + 1 + 1 + 1) = False ∧ (j = H.n + 1 + 1 + 1 + 1) = False ∧ (j = H.n + 1 + 1 + 1 + 1 + 1) = False ∧ (j = H.n + 1 + 1 + 1 + 1 + 1 + 1) = False ∧ (j = H.n + 1 + 1 + 1 + 1 + 1 + 1 + 1) = False ∧ (j = H.n + 1 + 1 + 1 + 1 + 1 + 1 + 1 + 1) = False ∧ (j = H.n + 1 + 1 + 1 + 1 + 1 + 1 + 1 + 1 + 1) = False ∧ (j = H.n + 1 + 1 + 1 + 1 + 1 + 1 + 1 + 1 + 1 + 1) = False ∧ (j = H.n + 1 + 1 + 1 + 1 + 1 + 1 + 1 + 1 + 1 + 1 + 1) = False ∧ (j = H.n + 1 + 1 + 1 + 1 + 1 + 1 + 1 + 1 + 1 + 1 + 1 + 1) = False := ⟨eq_false (by omega), eq_false (by omega), eq_false (by omega), eq_false (by omega), eq_false (by omega), eq_false (by omega), eq_false (by omega), eq_false (by omega), eq_false (by omega), eq_false (by omega), eq_false (by omega)⟩;  simp [push_b, set_b, kill_b, hnj, hnj1, hne2_j.1, hne2_j.2.1, hne2_j.2.2.1, hne2_j.2.2.2.1, hne2_j.2.2.2.2.1, hne2_j.2.2.2.2.2.1, hne2_j.2.2.2.2.2.2.1, hne2_j.2.2.2.2.2.2.2.1, hne2_j.2.2.2.2.2.2.2.2.1, hne2_j.2.2.2.2.2.2.2.2.2.1, hne2_j.2.2.2.2.2.2.2.2.2.2]; done)) ⟨by omega, by simp [push_b, set_b, kill_b, rowK, hr0_code, hr1_code, hnr2_code.1, hnr2_code.2.1, hnr2_code.2.2.1, hnr2_code.2.2.2.1, hnr2_code.2.2.2.2.1, hnr2_code.2.2.2.2.2.1, hnr2_code.2.2.2.2.2.2.1, hnr2_code.2.2.2.2.2.2.2.1, hnr2_code.2.2.2.2.2.2.2.2.1, hnr2_code.2.2.2.2.2.2.2.2.2.1, hnr2_code.2.2.2.2.2.2.2.2.2.2, hat_code.blk, hat_code.esz, hat_code.len, hat_code.els, hne_code, hne1_code, hne2_code.1, hne2_code.2.1, hne2_code.2.2.1, hne2_code.2.2.2.1, hne2_code.2.2.2.2.1, hne2_code.2.2.2.2.2.1, hne2_code.2.2.2.2.2.2.1, hne2_code.2.2.2.2.2.2.2.1, hne2_code.2.2.2.2.2.2.2.2.1, hne2_code.2.2.2.2.2.2.2.2.2.1, hne2_code.2.2.2.2.2.2.2.2.2.2, onCur, dlI, dlT, curOf_lit, Enc.decL_map, rowK]; done⟩ (plain_map (fun _ => rfl) _) (by simp [frOk, AV.okR, AV.ok1, AC.okR, AV.ren, AV.ren1, AC.ren, AFrame.get, pl1_old, *]; first | done | rfl | omega) (Stop.out h ps x hpl)

theorem spec_DrawLeastChange_s : Sound Try.prog 26 q_DIe := by
  intro args H K h
  unfold q_DIe at h
  split at h
  rotate_left
  all_goals first | exact False.elim h | skip
  rename_i code_v
  have h1 := Enc.rd_at h
  clear h
  obtain ⟨b_code, i_code, k_code, code, rfl, hat_code, h⟩ := h1
  have hE := soundE_cons spec_DrawIsExplained_s (soundE_nil (P := Try.prog))
  refine acalls_fn spec_DrawLeastChange_k hE ⟨by simp, fun hwf => ?_⟩
  have hb_code : b_code < H.n := (hwf b_code k_code hat_code.blk).1
  have hne_code : (b_code = H.n) = False := eq_false (by omega)
  have hne1_code : ∀ i, (b_code = H.n + i) = False := fun i => eq_false (by omega)
  have hne2_code : (b_code = H.n + 1 + 1) = False ∧ (b_code = H.n + 1 + 1 + 1) = False ∧ (b_code = H.n + 1 + 1 + 1 + 1) = False ∧ (b_code = H.n + 1 + 1 + 1 + 1 + 1) = False ∧ (b_code = H.n + 1 + 1 + 1 + 1 + 1 + 1) = False ∧ (b_code = H.n + 1 + 1 + 1 + 1 + 1 + 1 + 1) = False ∧ (b_code = H.n + 1 + 1 + 1 + 1 + 1 + 1 + 1 + 1) = False ∧ (b_code = H.n + 1 + 1 + 1 + 1 + 1 + 1 + 1 + 1 + 1) = False ∧ (b_code = H.n + 1 + 1 + 1 + 1 + 1 + 1 + 1 + 1 + 1 + 1) = False ∧ (b_code = H.n + 1 + 1 + 1 + 1 + 1 + 1 + 1 + 1 + 1 + 1 + 1) = False ∧ (b_code = H.n + 1 + 1 + 1 + 1 + 1 + 1 + 1 + 1 + 1 + 1 + 1 + 1) = False := ⟨eq_false (by omega), eq_false (by omega), eq_false (by omega), eq_false (by omega), eq_false (by omega), eq_false (by omega), eq_false (by omega), eq_false (by omega), eq_false (by omega), eq_false (by omega), eq_false (by omega)⟩
  have hmx_code : code.length ≤ 9223372036854775807 := by have h1 := (hwf b_code k_code hat_code.blk).2.2; have h2 := hat_code.len; omega
  obtain ⟨hcl, h⟩ := h
  have hr0_code : (H.n = b_code) = False := eq_false (by omega)
  have hr1_code : ∀ i, (H.n + i = b_code) = False := fun i => eq_false (by omega)
  have hnr2_code : (H.n + 1 + 1 = b_code) = False ∧ (H.n + 1 + 1 + 1 = b_code) = False ∧ (H.n + 1 + 1 + 1 + 1 = b_code) = False ∧ (H.n + 1 + 1 + 1 + 1 + 1 = b_code) = False ∧ (H.n + 1 + 1 + 1 + 1 + 1 + 1 = b_code) = False ∧ (H.n + 1 + 1 + 1 + 1 + 1 + 1 + 1 = b_code) = False ∧ (H.n + 1 + 1 + 1 + 1 + 1 + 1 + 1 + 1 = b_code) = False ∧ (H.n + 1 + 1 + 1 + 1 + 1 + 1 + 1 + 1 + 1 = b_code) = False ∧ (H.n + 1 + 1 + 1 + 1 + 1 + 1 + 1 + 1 + 1 + 1 = b_code) = False ∧ (H.n + 1 + 1 + 1 + 1 + 1 + 1 + 1 + 1 + 1 + 1 + 1 = b_code) = False ∧ (H.n + 1 + 1 + 1 + 1 + 1 + 1 + 1 + 1 + 1 + 1 + 1 + 1 = b_code) = False := ⟨eq_false (by omega), eq_false (by omega), eq_false (by omega), eq_false (by omega), eq_false (by omega), eq_false (by omega), eq_false (by omega), eq_false (by omega), eq_false (by omega), eq_false (by omega), eq_false (by omega)⟩
  simp (config := {contextual := true, implicitDefEqProofs := false, maxSteps := 2000000}) [-Int.not_le, -Int.not_lt, argsF, spec_DrawLeastChange_c, hat_code.blk, hat_code.esz, hat_code.len, hat_code.els, hne_code, hne1_code, hne2_code.1, hne2_code.2.1, hne2_code.2.2.1, hne2_code.2.2.2.1, hne2_code.2.2.2.2.1, hne2_code.2.2.2.2.2.1, hne2_code.2.2.2.2.2.2.1, hne2_code.2.2.2.2.2.2.2.1, hne2_code.2.2.2.2.2.2.2.2.1, hne2_code.2.2.2.2.2.2.2.2.2.1, hne2_code.2.2.2.2.2.2.2.2.2.2, Enc.decL_map, hcl]
  refine Stop.mk fun ps x hpl => ?_
  simp (config := {contextual := true, implicitDefEqProofs := false, maxSteps := 2000000}) [-Int.not_le, -Int.not_lt, argsF, hat_code.blk, hat_code.esz, hat_code.len, hat_code.els, hne_code, hne1_code, hne2_code.1, hne2_code.2.1, hne2_code.2.2.1, hne2_code.2.2.2.1, hne2_code.2.2.2.2.1, hne2_code.2.2.2.2.2.1, hne2_code.2.2.2.2.2.2.1, hne2_code.2.2.2.2.2.2.2.1, hne2_code.2.2.2.2.2.2.2.2.1, hne2_code.2.2.2.2.2.2.2.2.2.1, hne2_code.2.2.2.2.2.2.2.2.2.2, rowK]
  exact .one (k := rowK eRa 122 ps) (c := some (H.n + 1)) hwf (new_sub hwf (by simp only [push_n, set_n, kill_n]; omega) (by simp only [push_I, set_I, kill_I]) (fun j hj => by have hnj : (j = H.n) = False := eq_false (by omega); have hnj1 : ∀ i, (j = H.n + i) = False := fun i => eq_false (by omega); have hne2_j : (j = H.n + 1 + 1) = False ∧ (j = H.n + 1 + 1 + 1) = False ∧ (j = H.n + 1 + 1 + 1 + 1) = False ∧ (j = H.n + 1 + 1 + 1 + 1 + 1) = False ∧ (j = H.n + 1 + 1 + 1 + 1 + 1 + 1) = False ∧ (j = H.n + 1 + 1 + 1 + 1 + 1 + 1 + 1) = False ∧ (j = H.n + 1 + 1 + 1 + 1 + 1 + 1 + 1 + 1) = False ∧ (j = H.n + 1 + 1 + 1 + 1 + 1 + 1 + 1 + 1 + 1) = False ∧ (j = H.n + 1 + 1 + 1 + 1 + 1 + 1 + 1 + 1 + 1 + 1) = False ∧ (j = H.n + 1 + 1 + 1 + 1 + 1 + 1 + 1 + 1 + 1 + 1 + 1) = False ∧ (j = H.n + 1 + 1 + 1 + 1 + 1 + 1 + 1 + 1 + 1 + 1 + 1 + 1) = False := ⟨eq_false (by omega), eq_false (by omega), eq_false (by omega), eq_false (by omega), eq_false (by omega), eq_false (by omega), eq_false (by omega), eq_false (by omega), eq_false (by omega), eq_false (by omega), eq_false (by omega)⟩;  simp [push_b, set_b, kill_b, hnj, hnj1, hne2_j.1, hne2_j.2.1, hne2_j.2.2.1, hne2_j.2.2.2.1, hne2_j.2.2.2.2.1, hne2_j.2.2.2.2.2.1, hne2_j.2.2.2.2.2.2.1, hne2_j.2.2.2.2.2.2.2.1, hne2_j.2.2.2.2.2.2.2.2.1, hne2_j.2.2.2.2.2.2.2.2.2.1, hne2_j.2.2.2.2.2.2.2.2.2.2]; done)) ⟨by omega, by simp [push_b, set_b, kill_b, rowK, hat_code.blk, hat_code.esz, hat_code.len, hat_code.els, hne_code, hne1_code, hne2_code.1, hne2_code.2.1, hne2_code.2.2.1, hne2_code.2.2.2.1, hne2_code.2.2.2.2.1, hne2_code.2.2.2.2.2.1, hne2_code.2.2.2.2.2.2.1, hne2_code.2.2.2.2.2.2.2.1, hne2_code.2.2.2.2.2.2.2.2.1, hne2_code.2.2.2.2.2.2.2.2.2.1, hne2_code.2.2.2.2.2.2.2.2.2.2]; done⟩ (plain_map (fun _ => rfl) _) (by simp [frOk, AV.okR, AV.ok1, AC.okR, AV.ren, AV.ren1, AC.ren, AFrame.get, pl1_old, *]; first | done | rfl | omega) (Stop.out h ps x hpl)

def q_DMc : Con := fun args H K => match args with
  | [code_v] => eU.rd H (fun code => code.length ≤ 65536 ∧ Stop (∀ (ps : List Ra) (x : Cv) (ch : Int), ps.length ≤ 40 → K (.tup [.c (.sl (H.n) (0) (ps.length)), .agg (eCv.cells x), .c (.int .i64 (ch))]) (H.push (rowK eRa 122 ps))) ()) code_v
  | _ => False
@[simp ↓] theorem q_DMc_eq (code_v : AV) (H : AHeap) (K : AV → AHeap → Prop) : q_DMc [code_v] H K = (eU.rd H (fun code => code.length ≤ 65536 ∧ Stop (∀ (ps : List Ra) (x : Cv) (ch : Int), ps.length ≤ 40 → K (.tup [.c (.sl (H.n) (0) (ps.length)), .agg (eCv.cells x), .c (.int .i64 (ch))]) (H.push (rowK eRa 122 ps))) ()) code_v) := rfl

def q_DCt : Con := fun args H K => match args with
  | [code_v] => eU.rd H (fun code => code.length ≤ 65536 ∧ Stop (∀ n : Int, K (.c (.int .i64 (n))) H) ()) code_v
  | _ => False
@[simp ↓] theorem q_DCt_eq (code_v : AV) (H : AHeap) (K : AV → AHeap → Prop) : q_DCt [code_v] H K = (eU.rd H (fun code => code.length ≤ 65536 ∧ Stop (∀ n : Int, K (.c (.int .i64 (n))) H) ()) code_v) := rfl

def q_DCo : Con := fun args H K => match args with
  | [code_v] => eU.rd H (fun code => code.length ≤ 65536 ∧ Stop (∀ x y : Cv, K (.tup [.agg (eCv.cells x), .agg (eCv.cells y)]) H) ()) code_v
  | _ => False
@[simp ↓] theorem q_DCo_eq (code_v : AV) (H : AHeap) (K : AV → AHeap → Prop) : q_DCo [code_v] H K = (eU.rd H (fun code => code.length ≤ 65536 ∧ Stop (∀ x y : Cv, K (.tup [.agg (eCv.cells x), .agg (eCv.cells y)]) H) ()) code_v) := rfl

end Go.Proofs.Ytjiffkjeijfilaa
