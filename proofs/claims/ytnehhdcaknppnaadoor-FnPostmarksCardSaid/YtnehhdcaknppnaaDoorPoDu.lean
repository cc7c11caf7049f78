/- The draws of the postmarks: what the laws draw. -/
import Derived.Test.YtnehhdcaknppnaaDoorPoDt
import Derived.Test.YtnehhdcaknppnaaDoorPoS
set_option maxRecDepth 8000
set_option linter.unusedSimpArgs false
set_option linter.unusedVariables false
namespace Go.Proofs.YtnehhdcaknppnaaDoor
open Go Go.RowKit

set_option maxHeartbeats 2000000

def q_DIs : Con := fun args H K => match args with
  | [code_v] => eU.rd H (fun code => code.length ≤ 65536 ∧ Stop (∀ p : Po, shP p → K (.agg (ePo.cells p)) H) ()) code_v
  | _ => False
@[simp ↓] theorem q_DIs_eq (code_v : AV) (H : AHeap) (K : AV → AHeap → Prop) : q_DIs [code_v] H K = (eU.rd H (fun code => code.length ≤ 65536 ∧ Stop (∀ p : Po, shP p → K (.agg (ePo.cells p)) H) ()) code_v) := rfl

theorem spec_DrawIsPostmark_s : Sound Tryd.prog 95 q_DIs := by
  intro args H K h
  unfold q_DIs at h
  split at h
  rotate_left
  all_goals first | exact False.elim h | skip
  rename_i code_v
  have h1 := Enc.rd_at h
  clear h
  obtain ⟨b_code, i_code, k_code, code, rfl, hat_code, h⟩ := h1
  have hE := soundE_cons spec_l1Cur__postmark11_s (soundE_cons spec_l1Cur__among_s (soundE_nil (P := Tryd.prog)))
  refine acalls_fn spec_DrawIsPostmark_k hE ⟨by simp, fun hwf => ?_⟩
  have hb_code : b_code < H.n := (hwf b_code k_code hat_code.blk).1
  have hne_code : (b_code = H.n) = False := eq_false (by omega)
  have hne1_code : ∀ i, (b_code = H.n + i) = False := fun i => eq_false (by omega)
  have hne2_code : (b_code = H.n + 1 + 1) = False ∧ (b_code = H.n + 1 + 1 + 1) = False ∧ (b_code = H.n + 1 + 1 + 1 + 1) = False ∧ (b_code = H.n + 1 + 1 + 1 + 1 + 1) = False ∧ (b_code = H.n + 1 + 1 + 1 + 1 + 1 + 1) = False ∧ (b_code = H.n + 1 + 1 + 1 + 1 + 1 + 1 + 1) = False ∧ (b_code = H.n + 1 + 1 + 1 + 1 + 1 + 1 + 1 + 1) = False ∧ (b_code = H.n + 1 + 1 + 1 + 1 + 1 + 1 + 1 + 1 + 1) = False ∧ (b_code = H.n + 1 + 1 + 1 + 1 + 1 + 1 + 1 + 1 + 1 + 1) = False ∧ (b_code = H.n + 1 + 1 + 1 + 1 + 1 + 1 + 1 + 1 + 1 + 1 + 1) = False ∧ (b_code = H.n + 1 + 1 + 1 + 1 + 1 + 1 + 1 + 1 + 1 + 1 + 1 + 1) = False := ⟨eq_false (by omega), eq_false (by omega), eq_false (by omega), eq_false (by omega), eq_false (by omega), eq_false (by omega), eq_false (by omega), eq_false (by omega), eq_false (by omega), eq_false (by omega), eq_false (by omega)⟩
  have hmx_code : code.length ≤ 9223372036854775807 := by have h1 := (hwf b_code k_code hat_code.blk).2.2; have h2 := hat_code.len; omega
  obtain ⟨hcl, h⟩ := h
  have hr0_code : (H.n = b_code) = False := eq_false (by omega)
  have hr1_code : ∀ i, (H.n + i = b_code) = False := fun i => eq_false (by omega)
  have hnr2_code : (H.n + 1 + 1 = b_code) = False ∧ (H.n + 1 + 1 + 1 = b_code) = False ∧ (H.n + 1 + 1 + 1 + 1 = b_code) = False ∧ (H.n + 1 + 1 + 1 + 1 + 1 = b_code) = False ∧ (H.n + 1 + 1 + 1 + 1 + 1 + 1 = b_code) = False ∧ (H.n + 1 + 1 + 1 + 1 + 1 + 1 + 1 = b_code) = False ∧ (H.n + 1 + 1 + 1 + 1 + 1 + 1 + 1 + 1 = b_code) = False ∧ (H.n + 1 + 1 + 1 + 1 + 1 + 1 + 1 + 1 + 1 = b_code) = False ∧ (H.n + 1 + 1 + 1 + 1 + 1 + 1 + 1 + 1 + 1 + 1 = b_code) = False ∧ (H.n + 1 + 1 + 1 + 1 + 1 + 1 + 1 + 1 + 1 + 1 + 1 = b_code) = False ∧ (H.n + 1 + 1 + 1 + 1 + 1 + 1 + 1 + 1 + 1 + 1 + 1 + 1 = b_code) = False := ⟨eq_false (by omega), eq_false (by omega), eq_false (by omega), eq_false (by omega), eq_false (by omega), eq_false (by omega), eq_false (by omega), eq_false (by omega), eq_false (by omega), eq_false (by omega), eq_false (by omega)⟩
  simp (config := {contextual := true, implicitDefEqProofs := false, maxSteps := 2000000}) [-Int.not_le, -Int.not_lt, argsF, spec_DrawIsPostmark_c, hr0_code, hr1_code, hnr2_code.1, hnr2_code.2.1, hnr2_code.2.2.1, hnr2_code.2.2.2.1, hnr2_code.2.2.2.2.1, hnr2_code.2.2.2.2.2.1, hnr2_code.2.2.2.2.2.2.1, hnr2_code.2.2.2.2.2.2.2.1, hnr2_code.2.2.2.2.2.2.2.2.1, hnr2_code.2.2.2.2.2.2.2.2.2.1, hnr2_code.2.2.2.2.2.2.2.2.2.2, hat_code.blk, hat_code.esz, hat_code.len, hat_code.els, hne_code, hne1_code, hne2_code.1, hne2_code.2.1, hne2_code.2.2.1, hne2_code.2.2.2.1, hne2_code.2.2.2.2.1, hne2_code.2.2.2.2.2.1, hne2_code.2.2.2.2.2.2.1, hne2_code.2.2.2.2.2.2.2.1, hne2_code.2.2.2.2.2.2.2.2.1, hne2_code.2.2.2.2.2.2.2.2.2.1, hne2_code.2.2.2.2.2.2.2.2.2.2, onCur, dlI, dlT, curOf_lit, Enc.decL_map]
  refine Stop.mk fun id a1 s1 hid hl1 hu1 => ?_
  have hlA : 0 ≤ a1 ∧ a1 ≤ 700000000 := by omega
  simp (config := {contextual := true, implicitDefEqProofs := false, maxSteps := 2000000}) [-Int.not_le, -Int.not_lt, argsF, spec_DrawIsPostmark_c, hr0_code, hr1_code, hnr2_code.1, hnr2_code.2.1, hnr2_code.2.2.1, hnr2_code.2.2.2.1, hnr2_code.2.2.2.2.1, hnr2_code.2.2.2.2.2.1, hnr2_code.2.2.2.2.2.2.1, hnr2_code.2.2.2.2.2.2.2.1, hnr2_code.2.2.2.2.2.2.2.2.1, hnr2_code.2.2.2.2.2.2.2.2.2.1, hnr2_code.2.2.2.2.2.2.2.2.2.2, hat_code.blk, hat_code.esz, hat_code.len, hat_code.els, hne_code, hne1_code, hne2_code.1, hne2_code.2.1, hne2_code.2.2.1, hne2_code.2.2.2.1, hne2_code.2.2.2.2.1, hne2_code.2.2.2.2.2.1, hne2_code.2.2.2.2.2.2.1, hne2_code.2.2.2.2.2.2.2.1, hne2_code.2.2.2.2.2.2.2.2.1, hne2_code.2.2.2.2.2.2.2.2.2.1, hne2_code.2.2.2.2.2.2.2.2.2.2, onCur, dlI, dlT, curOf_lit, Enc.decL_map, hlA]
  refine Stop.mk fun p a2 s2 hp hl2 hu2 => ?_
  simp (config := {contextual := true, implicitDefEqProofs := false, maxSteps := 2000000}) [-Int.not_le, -Int.not_lt, argsF, spec_DrawIsPostmark_c]
  exact .old hwf (new_sub hwf (by simp only [push_n, set_n, kill_n]; omega) (by simp only [push_I, set_I, kill_I]) (fun j hj => by have hnj : (j = H.n) = False := eq_false (by omega); have hnj1 : ∀ i, (j = H.n + i) = False := fun i => eq_false (by omega); have hne2_j : (j = H.n + 1 + 1) = False ∧ (j = H.n + 1 + 1 + 1) = False ∧ (j = H.n + 1 + 1 + 1 + 1) = False ∧ (j = H.n + 1 + 1 + 1 + 1 + 1) = False ∧ (j = H.n + 1 + 1 + 1 + 1 + 1 + 1) = False ∧ (j = H.n + 1 + 1 + 1 + 1 + 1 + 1 + 1) = False ∧ (j = H.n + 1 + 1 + 1 + 1 + 1 + 1 + 1 + 1) = False ∧ (j = H.n + 1 + 1 + 1 + 1 + 1 + 1 + 1 + 1 + 1) = False ∧ (j = H.n + 1 + 1 + 1 + 1 + 1 + 1 + 1 + 1 + 1 + 1) = False ∧ (j = H.n + 1 + 1 + 1 + 1 + 1 + 1 + 1 + 1 + 1 + 1 + 1) = False ∧ (j = H.n + 1 + 1 + 1 + 1 + 1 + 1 + 1 + 1 + 1 + 1 + 1 + 1) = False := ⟨eq_false (by omega), eq_false (by omega), eq_false (by omega), eq_false (by omega), eq_false (by omega), eq_false (by omega), eq_false (by omega), eq_false (by omega), eq_false (by omega), eq_false (by omega), eq_false (by omega)⟩;  simp [push_b, set_b, kill_b, hnj, hnj1, hne2_j.1, hne2_j.2.1, hne2_j.2.2.1, hne2_j.2.2.2.1, hne2_j.2.2.2.2.1, hne2_j.2.2.2.2.2.1, hne2_j.2.2.2.2.2.2.1, hne2_j.2.2.2.2.2.2.2.1, hne2_j.2.2.2.2.2.2.2.2.1, hne2_j.2.2.2.2.2.2.2.2.2.1, hne2_j.2.2.2.2.2.2.2.2.2.2]; done)) (by simp [frOk, AV.okR, AV.ok1, AC.okR, AV.ren, AV.ren1, AC.ren, AFrame.get, pl1_old, *]; first | done | omega) (Stop.out h p hp)

theorem spec_DrawShownBy_s : Sound Tryd.prog 57 q_DIs := by
  intro args H K h
  unfold q_DIs at h
  split at h
  rotate_left
  all_goals first | exact False.elim h | skip
  rename_i code_v
  have h1 := Enc.rd_at h
  clear h
  obtain ⟨b_code, i_code, k_code, code, rfl, hat_code, h⟩ := h1
  have hE := soundE_cons spec_DrawIsPostmark_s (soundE_nil (P := Tryd.prog))
  refine acalls_fn spec_DrawShownBy_k hE ⟨by simp, fun hwf => ?_⟩
  have hb_code : b_code < H.n := (hwf b_code k_code hat_code.blk).1
  have hne_code : (b_code = H.n) = False := eq_false (by omega)
  have hne1_code : ∀ i, (b_code = H.n + i) = False := fun i => eq_false (by omega)
  have hne2_code : (b_code = H.n + 1 + 1) = False ∧ (b_code = H.n + 1 + 1 + 1) = False ∧ (b_code = H.n + 1 + 1 + 1 + 1) = False ∧ (b_code = H.n + 1 + 1 + 1 + 1 + 1) = False ∧ (b_code = H.n + 1 + 1 + 1 + 1 + 1 + 1) = False ∧ (b_code = H.n + 1 + 1 + 1 + 1 + 1 + 1 + 1) = False ∧ (b_code = H.n + 1 + 1 + 1 + 1 + 1 + 1 + 1 + 1) = False ∧ (b_code = H.n + 1 + 1 + 1 + 1 + 1 + 1 + 1 + 1 + 1) = False ∧ (b_code = H.n + 1 + 1 + 1 + 1 + 1 + 1 + 1 + 1 + 1 + 1) = False ∧ (b_code = H.n + 1 + 1 + 1 + 1 + 1 + 1 + 1 + 1 + 1 + 1 + 1) = False ∧ (b_code = H.n + 1 + 1 + 1 + 1 + 1 + 1 + 1 + 1 + 1 + 1 + 1 + 1) = False := ⟨eq_false (by omega), eq_false (by omega), eq_false (by omega), eq_false (by omega), eq_false (by omega), eq_false (by omega), eq_false (by omega), eq_false (by omega), eq_false (by omega), eq_false (by omega), eq_false (by omega)⟩
  have hmx_code : code.length ≤ 9223372036854775807 := by have h1 := (hwf b_code k_code hat_code.blk).2.2; have h2 := hat_code.len; omega
  obtain ⟨hcl, h⟩ := h
  have hr0_code : (H.n = b_code) = False := eq_false (by omega)
  have hr1_code : ∀ i, (H.n + i = b_code) = False := fun i => eq_false (by omega)
  have hnr2_code : (H.n + 1 + 1 = b_code) = False ∧ (H.n + 1 + 1 + 1 = b_code) = False ∧ (H.n + 1 + 1 + 1 + 1 = b_code) = False ∧ (H.n + 1 + 1 + 1 + 1 + 1 = b_code) = False ∧ (H.n + 1 + 1 + 1 + 1 + 1 + 1 = b_code) = False ∧ (H.n + 1 + 1 + 1 + 1 + 1 + 1 + 1 = b_code) = False ∧ (H.n + 1 + 1 + 1 + 1 + 1 + 1 + 1 + 1 = b_code) = False ∧ (H.n + 1 + 1 + 1 + 1 + 1 + 1 + 1 + 1 + 1 = b_code) = False ∧ (H.n + 1 + 1 + 1 + 1 + 1 + 1 + 1 + 1 + 1 + 1 = b_code) = False ∧ (H.n + 1 + 1 + 1 + 1 + 1 + 1 + 1 + 1 + 1 + 1 + 1 = b_code) = False ∧ (H.n + 1 + 1 + 1 + 1 + 1 + 1 + 1 + 1 + 1 + 1 + 1 + 1 = b_code) = False := ⟨eq_false (by omega), eq_false (by omega), eq_false (by omega), eq_false (by omega), eq_false (by omega), eq_false (by omega), eq_false (by omega), eq_false (by omega), eq_false (by omega), eq_false (by omega), eq_false (by omega)⟩
  simp (config := {contextual := true, implicitDefEqProofs := false, maxSteps := 2000000}) [-Int.not_le, -Int.not_lt, argsF, spec_DrawShownBy_c, hat_code.blk, hat_code.esz, hat_code.len, hat_code.els, hne_code, hne1_code, hne2_code.1, hne2_code.2.1, hne2_code.2.2.1, hne2_code.2.2.2.1, hne2_code.2.2.2.2.1, hne2_code.2.2.2.2.2.1, hne2_code.2.2.2.2.2.2.1, hne2_code.2.2.2.2.2.2.2.1, hne2_code.2.2.2.2.2.2.2.2.1, hne2_code.2.2.2.2.2.2.2.2.2.1, hne2_code.2.2.2.2.2.2.2.2.2.2, Enc.decL_map, hcl]
  refine Stop.mk fun p hp => ?_
  simp (config := {contextual := true, implicitDefEqProofs := false, maxSteps := 2000000}) [-Int.not_le, -Int.not_lt, argsF, spec_DrawShownBy_c]
  exact .old hwf (new_sub hwf (by simp only [push_n, set_n, kill_n]; omega) (by simp only [push_I, set_I, kill_I]) (fun j hj => by have hnj : (j = H.n) = False := eq_false (by omega); have hnj1 : ∀ i, (j = H.n + i) = False := fun i => eq_false (by omega); have hne2_j : (j = H.n + 1 + 1) = False ∧ (j = H.n + 1 + 1 + 1) = False ∧ (j = H.n + 1 + 1 + 1 + 1) = False ∧ (j = H.n + 1 + 1 + 1 + 1 + 1) = False ∧ (j = H.n + 1 + 1 + 1 + 1 + 1 + 1) = False ∧ (j = H.n + 1 + 1 + 1 + 1 + 1 + 1 + 1) = False ∧ (j = H.n + 1 + 1 + 1 + 1 + 1 + 1 + 1 + 1) = False ∧ (j = H.n + 1 + 1 + 1 + 1 + 1 + 1 + 1 + 1 + 1) = False ∧ (j = H.n + 1 + 1 + 1 + 1 + 1 + 1 + 1 + 1 + 1 + 1) = False ∧ (j = H.n + 1 + 1 + 1 + 1 + 1 + 1 + 1 + 1 + 1 + 1 + 1) = False ∧ (j = H.n + 1 + 1 + 1 + 1 + 1 + 1 + 1 + 1 + 1 + 1 + 1 + 1) = False := ⟨eq_false (by omega), eq_false (by omega), eq_false (by omega), eq_false (by omega), eq_false (by omega), eq_false (by omega), eq_false (by omega), eq_false (by omega), eq_false (by omega), eq_false (by omega), eq_false (by omega)⟩;  simp [push_b, set_b, kill_b, hnj, hnj1, hne2_j.1, hne2_j.2.1, hne2_j.2.2.1, hne2_j.2.2.2.1, hne2_j.2.2.2.2.1, hne2_j.2.2.2.2.2.1, hne2_j.2.2.2.2.2.2.1, hne2_j.2.2.2.2.2.2.2.1, hne2_j.2.2.2.2.2.2.2.2.1, hne2_j.2.2.2.2.2.2.2.2.2.1, hne2_j.2.2.2.2.2.2.2.2.2.2]; done)) (by simp [frOk, AV.okR, AV.ok1, AC.okR, AV.ren, AV.ren1, AC.ren, AFrame.get, pl1_old, *]; first | done | omega) (Stop.out h p hp)

def q_DExt : Con := fun args H K => match args with
  | [code_v] => eU.rd H (fun code => code.length ≤ 65536 ∧ Stop (∀ (ps : List Po) (i : Int) (d : Int), (∀ p ∈ ps, shP p) → ps.length ≤ 14 → K (.tup [.c (.sl (H.n) (0) (ps.length)), .c (.int .i64 (i)), .c (.int .i64 (d))]) (H.push (rowK ePo 26 ps))) ()) code_v
  | _ => False
@[simp ↓] theorem q_DExt_eq (code_v : AV) (H : AHeap) (K : AV → AHeap → Prop) : q_DExt [code_v] H K = (eU.rd H (fun code => code.length ≤ 65536 ∧ Stop (∀ (ps : List Po) (i : Int) (d : Int), (∀ p ∈ ps, shP p) → ps.length ≤ 14 → K (.tup [.c (.sl (H.n) (0) (ps.length)), .c (.int .i64 (i)), .c (.int .i64 (d))]) (H.push (rowK ePo 26 ps))) ()) code_v) := rfl

def q_DTo : Con := fun args H K => match args with
  | [code_v] => eU.rd H (fun code => code.length ≤ 65536 ∧ Stop (∀ (ps : List Po) (d : Int), (∀ p ∈ ps, shP p) → ps.length ≤ 14 → K (.tup [.c (.sl (H.n) (0) (ps.length)), .c (.int .i64 (d))]) (H.push (rowK ePo 26 ps))) ()) code_v
  | _ => False
@[simp ↓] theorem q_DTo_eq (code_v : AV) (H : AHeap) (K : AV → AHeap → Prop) : q_DTo [code_v] H K = (eU.rd H (fun code => code.length ≤ 65536 ∧ Stop (∀ (ps : List Po) (d : Int), (∀ p ∈ ps, shP p) → ps.length ≤ 14 → K (.tup [.c (.sl (H.n) (0) (ps.length)), .c (.int .i64 (d))]) (H.push (rowK ePo 26 ps))) ()) code_v) := rfl

def q_DSt : Con := fun args H K => match args with
  | [code_v] => eU.rd H (fun code => code.length ≤ 65536 ∧ Stop (∀ (ps : List Po) (i : Int) (d : Int), (∀ p ∈ ps, shP p) → ps.length ≤ 14 → K (.tup [.c (.sl (H.n) (0) (ps.length)), .c (.int .i64 (i)), .c (.int .i64 (d))]) (H.push (rowK ePo 26 ps))) ()) code_v
  | _ => False
@[simp ↓] theorem q_DSt_eq (code_v : AV) (H : AHeap) (K : AV → AHeap → Prop) : q_DSt [code_v] H K = (eU.rd H (fun code => code.length ≤ 65536 ∧ Stop (∀ (ps : List Po) (i : Int) (d : Int), (∀ p ∈ ps, shP p) → ps.length ≤ 14 → K (.tup [.c (.sl (H.n) (0) (ps.length)), .c (.int .i64 (i)), .c (.int .i64 (d))]) (H.push (rowK ePo 26 ps))) ()) code_v) := rfl

theorem spec_DrawSameTown_s : Sound Tryd.prog 55 q_DSt := by
  intro args H K h
  unfold q_DSt at h
  split at h
  rotate_left
  all_goals first | exact False.elim h | skip
  rename_i code_v
  have h1 := Enc.rd_at h
  clear h
  obtain ⟨b_code, i_code, k_code, code, rfl, hat_code, h⟩ := h1
  have hE := soundE_cons spec_l1Cur__postmarks11_s (soundE_cons spec_l1Cur__postmarkId_s (soundE_nil (P := Tryd.prog)))
  refine acalls_fn spec_DrawSameTown_k hE ⟨by simp, fun hwf => ?_⟩
  have hb_code : b_code < H.n := (hwf b_code k_code hat_code.blk).1
  have hne_code : (b_code = H.n) = False := eq_false (by omega)
  have hne1_code : ∀ i, (b_code = H.n + i) = False := fun i => eq_false (by omega)
  have hne2_code : (b_code = H.n + 1 + 1) = False ∧ (b_code = H.n + 1 + 1 + 1) = False ∧ (b_code = H.n + 1 + 1 + 1 + 1) = False ∧ (b_code = H.n + 1 + 1 + 1 + 1 + 1) = False ∧ (b_code = H.n + 1 + 1 + 1 + 1 + 1 + 1) = False ∧ (b_code = H.n + 1 + 1 + 1 + 1 + 1 + 1 + 1) = False ∧ (b_code = H.n + 1 + 1 + 1 + 1 + 1 + 1 + 1 + 1) = False ∧ (b_code = H.n + 1 + 1 + 1 + 1 + 1 + 1 + 1 + 1 + 1) = False ∧ (b_code = H.n + 1 + 1 + 1 + 1 + 1 + 1 + 1 + 1 + 1 + 1) = False ∧ (b_code = H.n + 1 + 1 + 1 + 1 + 1 + 1 + 1 + 1 + 1 + 1 + 1) = False ∧ (b_code = H.n + 1 + 1 + 1 + 1 + 1 + 1 + 1 + 1 + 1 + 1 + 1 + 1) = False := ⟨eq_false (by omega), eq_false (by omega), eq_false (by omega), eq_false (by omega), eq_false (by omega), eq_false (by omega), eq_false (by omega), eq_false (by omega), eq_false (by omega), eq_false (by omega), eq_false (by omega)⟩
  have hmx_code : code.length ≤ 9223372036854775807 := by have h1 := (hwf b_code k_code hat_code.blk).2.2; have h2 := hat_code.len; omega
  obtain ⟨hcl, h⟩ := h
  have hr0_code : (H.n = b_code) = False := eq_false (by omega)
  have hr1_code : ∀ i, (H.n + i = b_code) = False := fun i => eq_false (by omega)
  have hnr2_code : (H.n + 1 + 1 = b_code) = False ∧ (H.n + 1 + 1 + 1 = b_code) = False ∧ (H.n + 1 + 1 + 1 + 1 = b_code) = False ∧ (H.n + 1 + 1 + 1 + 1 + 1 = b_code) = False ∧ (H.n + 1 + 1 + 1 + 1 + 1 + 1 = b_code) = False ∧ (H.n + 1 + 1 + 1 + 1 + 1 + 1 + 1 = b_code) = False ∧ (H.n + 1 + 1 + 1 + 1 + 1 + 1 + 1 + 1 = b_code) = False ∧ (H.n + 1 + 1 + 1 + 1 + 1 + 1 + 1 + 1 + 1 = b_code) = False ∧ (H.n + 1 + 1 + 1 + 1 + 1 + 1 + 1 + 1 + 1 + 1 = b_code) = False ∧ (H.n + 1 + 1 + 1 + 1 + 1 + 1 + 1 + 1 + 1 + 1 + 1 = b_code) = False ∧ (H.n + 1 + 1 + 1 + 1 + 1 + 1 + 1 + 1 + 1 + 1 + 1 + 1 = b_code) = False := ⟨eq_false (by omega), eq_false (by omega), eq_false (by omega), eq_false (by omega), eq_false (by omega), eq_false (by omega), eq_false (by omega), eq_false (by omega), eq_false (by omega), eq_false (by omega), eq_false (by omega)⟩
  simp (config := {contextual := true, implicitDefEqProofs := false, maxSteps := 2000000}) [-Int.not_le, -Int.not_lt, argsF, spec_DrawSameTown_c, hr0_code, hr1_code, hnr2_code.1, hnr2_code.2.1, hnr2_code.2.2.1, hnr2_code.2.2.2.1, hnr2_code.2.2.2.2.1, hnr2_code.2.2.2.2.2.1, hnr2_code.2.2.2.2.2.2.1, hnr2_code.2.2.2.2.2.2.2.1, hnr2_code.2.2.2.2.2.2.2.2.1, hnr2_code.2.2.2.2.2.2.2.2.2.1, hnr2_code.2.2.2.2.2.2.2.2.2.2, hat_code.blk, hat_code.esz, hat_code.len, hat_code.els, hne_code, hne1_code, hne2_code.1, hne2_code.2.1, hne2_code.2.2.1, hne2_code.2.2.2.1, hne2_code.2.2.2.2.1, hne2_code.2.2.2.2.2.1, hne2_code.2.2.2.2.2.2.1, hne2_code.2.2.2.2.2.2.2.1, hne2_code.2.2.2.2.2.2.2.2.1, hne2_code.2.2.2.2.2.2.2.2.2.1, hne2_code.2.2.2.2.2.2.2.2.2.2, onCur, dlI, dlT, curOf_lit, Enc.decL_map]
  refine Stop.mk fun ps a1 s1 hps hpl hl1 hu1 => ?_
  have hlA : 0 ≤ a1 ∧ a1 ≤ 800000000 := by omega
  have hlA2 : a1 ≤ 900000000 := by omega
  simp (config := {contextual := true, implicitDefEqProofs := false, maxSteps := 2000000}) [-Int.not_le, -Int.not_lt, argsF, spec_DrawSameTown_c, hr0_code, hr1_code, hnr2_code.1, hnr2_code.2.1, hnr2_code.2.2.1, hnr2_code.2.2.2.1, hnr2_code.2.2.2.2.1, hnr2_code.2.2.2.2.2.1, hnr2_code.2.2.2.2.2.2.1, hnr2_code.2.2.2.2.2.2.2.1, hnr2_code.2.2.2.2.2.2.2.2.1, hnr2_code.2.2.2.2.2.2.2.2.2.1, hnr2_code.2.2.2.2.2.2.2.2.2.2, hat_code.blk, hat_code.esz, hat_code.len, hat_code.els, hne_code, hne1_code, hne2_code.1, hne2_code.2.1, hne2_code.2.2.1, hne2_code.2.2.2.1, hne2_code.2.2.2.2.1, hne2_code.2.2.2.2.2.1, hne2_code.2.2.2.2.2.2.1, hne2_code.2.2.2.2.2.2.2.1, hne2_code.2.2.2.2.2.2.2.2.1, hne2_code.2.2.2.2.2.2.2.2.2.1, hne2_code.2.2.2.2.2.2.2.2.2.2, onCur, dlI, dlT, curOf_lit, Enc.decL_map, rowK, hlA, hlA2]
  refine Stop.mk fun i a2 s2 hl2 hu2 => ?_
  clear hlA hlA2
  have hlA : 0 ≤ a2 ∧ a2 ≤ 800000000 := by omega
  have hlA2 : a2 ≤ 900000000 := by omega
  simp (config := {contextual := true, implicitDefEqProofs := false, maxSteps := 2000000}) [-Int.not_le, -Int.not_lt, argsF, spec_DrawSameTown_c, hr0_code, hr1_code, hnr2_code.1, hnr2_code.2.1, hnr2_code.2.2.1, hnr2_code.2.2.2.1, hnr2_code.2.2.2.2.1, hnr2_code.2.2.2.2.2.1, hnr2_code.2.2.2.2.2.2.1, hnr2_code.2.2.2.2.2.2.2.1, hnr2_code.2.2.2.2.2.2.2.2.1, hnr2_code.2.2.2.2.2.2.2.2.2.1, hnr2_code.2.2.2.2.2.2.2.2.2.2, hat_code.blk, hat_code.esz, hat_code.len, hat_code.els, hne_code, hne1_code, hne2_code.1, hne2_code.2.1, hne2_code.2.2.1, hne2_code.2.2.2.1, hne2_code.2.2.2.2.1, hne2_code.2.2.2.2.2.1, hne2_code.2.2.2.2.2.2.1, hne2_code.2.2.2.2.2.2.2.1, hne2_code.2.2.2.2.2.2.2.2.1, hne2_code.2.2.2.2.2.2.2.2.2.1, hne2_code.2.2.2.2.2.2.2.2.2.2, onCur, dlI, dlT, curOf_lit, Enc.decL_map, rowK, hlA, hlA2]
  refine Stop.mk fun d a3 s3 hl3 hu3 => ?_
  clear hlA hlA2
  have hlA : 0 ≤ a3 ∧ a3 ≤ 800000000 := by omega
  have hlA2 : a3 ≤ 900000000 := by omega
  simp (config := {contextual := true, implicitDefEqProofs := false, maxSteps := 2000000}) [-Int.not_le, -Int.not_lt, argsF, spec_DrawSameTown_c]
  exact .one (c := some (H.n + 1)) hwf (new_sub hwf (by simp only [push_n, set_n, kill_n]; omega) (by simp only [push_I, set_I, kill_I]) (fun j hj => by have hnj : (j = H.n) = False := eq_false (by omega); have hnj1 : ∀ i, (j = H.n + i) = False := fun i => eq_false (by omega); have hne2_j : (j = H.n + 1 + 1) = False ∧ (j = H.n + 1 + 1 + 1) = False ∧ (j = H.n + 1 + 1 + 1 + 1) = False ∧ (j = H.n + 1 + 1 + 1 + 1 + 1) = False ∧ (j = H.n + 1 + 1 + 1 + 1 + 1 + 1) = False ∧ (j = H.n + 1 + 1 + 1 + 1 + 1 + 1 + 1) = False ∧ (j = H.n + 1 + 1 + 1 + 1 + 1 + 1 + 1 + 1) = False ∧ (j = H.n + 1 + 1 + 1 + 1 + 1 + 1 + 1 + 1 + 1) = False ∧ (j = H.n + 1 + 1 + 1 + 1 + 1 + 1 + 1 + 1 + 1 + 1) = False ∧ (j = H.n + 1 + 1 + 1 + 1 + 1 + 1 + 1 + 1 + 1 + 1 + 1) = False ∧ (j = H.n + 1 + 1 + 1 + 1 + 1 + 1 + 1 + 1 + 1 + 1 + 1 + 1) = False := ⟨eq_false (by omega), eq_false (by omega), eq_false (by omega), eq_false (by omega), eq_false (by omega), eq_false (by omega), eq_false (by omega), eq_false (by omega), eq_false (by omega), eq_false (by omega), eq_false (by omega)⟩;  simp [push_b, set_b, kill_b, hnj, hnj1, hne2_j.1, hne2_j.2.1, hne2_j.2.2.1, hne2_j.2.2.2.1, hne2_j.2.2.2.2.1, hne2_j.2.2.2.2.2.1, hne2_j.2.2.2.2.2.2.1, hne2_j.2.2.2.2.2.2.2.1, hne2_j.2.2.2.2.2.2.2.2.1, hne2_j.2.2.2.2.2.2.2.2.2.1, hne2_j.2.2.2.2.2.2.2.2.2.2]; done)) ⟨by omega, by simp [push_b, set_b, kill_b, rowK]; done⟩ (plain_map (fun _ => rfl) _) (by simp [frOk, AV.okR, AV.ok1, AC.okR, AV.ren, AV.ren1, AC.ren, AFrame.get, pl1_old, *]; first | done | omega) (Stop.out h ps i d hps hpl)

end Go.Proofs.YtnehhdcaknppnaaDoor
