/- The law on presses: its walk, the start. -/
import Derived.Test.YtegmlgikdniohaaDoorPrLx
set_option maxRecDepth 8000
set_option linter.unusedSimpArgs false
set_option linter.unusedVariables false
namespace Go.Proofs.YtegmlgikdniohaaDoor
open Go Go.RowKit

set_option maxHeartbeats 4000000
@[simp ↓] theorem extK_4 (K : AV → Prop) (x y z u w : AV) (r : List AV) : extK 4 K (.tup (x :: y :: z :: u :: w :: r)) = K w := rfl

theorem laws_FnPresses_s : Sound Tryd.prog 3 q_tFnPresses := by
  intro args H K h
  unfold q_tFnPresses at h
  split at h
  rotate_left
  all_goals first | exact False.elim h | skip
  rename_i code_v
  have h1 := Enc.rd_at h
  clear h
  obtain ⟨b_code, i_code, k_code, code, rfl, hat_code, h⟩ := h1
  have hE := soundE_cons laws_rBig_s (soundE_cons spec_DrawNextPrinting_s (soundE_cons impl_NextPrinting_s (soundE_cons spec_NextPrinting_s (soundE_cons laws_rPrintings_s (soundE_cons impl_SheetsBy_s (soundE_cons impl_RarestPrinting_s (soundE_cons spec_RarestPrinting_s (soundE_cons spec_DrawUniqueTones_s (soundE_cons impl_UniqueTones_s (soundE_cons spec_UniqueTones_s (soundE_cons laws_rInts_s (soundE_cons impl_CanBeOf_s (soundE_cons spec_DrawStampsUntil_s (soundE_cons impl_StampsUntil_s (soundE_cons spec_StampsUntil_s (soundE_cons impl_LongestPause_s (soundE_cons spec_LongestPause_s (soundE_cons spec_DrawPrintingText_s (soundE_cons impl_PrintingText_s (soundE_cons spec_PrintingText_s (soundE_nil (P := Tryd.prog))))))))))))))))))))))
  refine acalls_fn laws_FnPresses_k hE ⟨by simp, fun hwf => ?_⟩
  have hb_code : b_code < H.n := (hwf b_code k_code hat_code.blk).1
  have hne_code : (b_code = H.n) = False := eq_false (by omega)
  have hne1_code : ∀ i, (b_code = H.n + i) = False := fun i => eq_false (by omega)
  have hne2_code : (b_code = H.n + 1 + 1) = False ∧ (b_code = H.n + 1 + 1 + 1) = False ∧ (b_code = H.n + 1 + 1 + 1 + 1) = False ∧ (b_code = H.n + 1 + 1 + 1 + 1 + 1) = False ∧ (b_code = H.n + 1 + 1 + 1 + 1 + 1 + 1) = False ∧ (b_code = H.n + 1 + 1 + 1 + 1 + 1 + 1 + 1) = False ∧ (b_code = H.n + 1 + 1 + 1 + 1 + 1 + 1 + 1 + 1) = False ∧ (b_code = H.n + 1 + 1 + 1 + 1 + 1 + 1 + 1 + 1 + 1) = False ∧ (b_code = H.n + 1 + 1 + 1 + 1 + 1 + 1 + 1 + 1 + 1 + 1) = False ∧ (b_code = H.n + 1 + 1 + 1 + 1 + 1 + 1 + 1 + 1 + 1 + 1 + 1) = False ∧ (b_code = H.n + 1 + 1 + 1 + 1 + 1 + 1 + 1 + 1 + 1 + 1 + 1 + 1) = False := ⟨eq_false (by omega), eq_false (by omega), eq_false (by omega), eq_false (by omega), eq_false (by omega), eq_false (by omega), eq_false (by omega), eq_false (by omega), eq_false (by omega), eq_false (by omega), eq_false (by omega)⟩
  have hmx_code : code.length ≤ 9223372036854775807 := by have h1 := (hwf b_code k_code hat_code.blk).2.2; have h2 := hat_code.len; omega
  obtain ⟨hI0, h⟩ := h
  by_cases hbig : 65536 < code.length
  · simp (config := {contextual := true, implicitDefEqProofs := false, maxSteps := 2000000}) [-Int.not_le, -Int.not_lt, argsF, laws_FnPresses_c, laws_FnPresses_t1, hat_code.blk, hat_code.esz, hat_code.len, hat_code.els, hne_code, hne1_code, hne2_code.1, hne2_code.2.1, hne2_code.2.2.1, hne2_code.2.2.2.1, hne2_code.2.2.2.2.1, hne2_code.2.2.2.2.2.1, hne2_code.2.2.2.2.2.2.1, hne2_code.2.2.2.2.2.2.2.1, hne2_code.2.2.2.2.2.2.2.2.1, hne2_code.2.2.2.2.2.2.2.2.2.1, hne2_code.2.2.2.2.2.2.2.2.2.2, Enc.decL_map, hbig]
    (refine Out.plain hwf ?_ rfl ?_; (repeat first | exact Sub.refl _ | refine Sub.push hwf ?_ _ | refine Sub.set hwf ?_ (by first | exact Nat.le_refl _ | omega | (simp only [push_n, set_n, kill_n]; omega)) _ | refine Sub.kill hwf ?_ (by first | exact Nat.le_refl _ | omega | (simp only [push_n, set_n, kill_n]; omega)))); exact h
  have hcl : code.length ≤ 65536 := by omega
  simp (config := {contextual := true, implicitDefEqProofs := false, maxSteps := 2000000}) [-Int.not_le, -Int.not_lt, argsF, laws_FnPresses_c, laws_FnPresses_t1, laws_FnPresses_t2, hat_code.blk, hat_code.esz, hat_code.len, hat_code.els, hne_code, hne1_code, hne2_code.1, hne2_code.2.1, hne2_code.2.2.1, hne2_code.2.2.2.1, hne2_code.2.2.2.2.1, hne2_code.2.2.2.2.2.1, hne2_code.2.2.2.2.2.2.1, hne2_code.2.2.2.2.2.2.2.1, hne2_code.2.2.2.2.2.2.2.2.1, hne2_code.2.2.2.2.2.2.2.2.2.1, hne2_code.2.2.2.2.2.2.2.2.2.2, Enc.decL_map, hbig, hcl]
  refine Stop.mk fun ps d sh hu sp hpl => ?_
  have hpl2 : ps.length ≤ 1048576 := by omega
  have hnl := npRes_len ps d sh hu sp
  simp (config := {contextual := true, implicitDefEqProofs := false, maxSteps := 2000000}) [-Int.not_le, -Int.not_lt, argsF, laws_FnPresses_t2, laws_FnPresses_t3, laws_FnPresses_t4, hat_code.blk, hat_code.esz, hat_code.len, hat_code.els, hne_code, hne1_code, hne2_code.1, hne2_code.2.1, hne2_code.2.2.1, hne2_code.2.2.2.1, hne2_code.2.2.2.2.1, hne2_code.2.2.2.2.2.1, hne2_code.2.2.2.2.2.2.1, hne2_code.2.2.2.2.2.2.2.1, hne2_code.2.2.2.2.2.2.2.2.1, hne2_code.2.2.2.2.2.2.2.2.2.1, hne2_code.2.2.2.2.2.2.2.2.2.2, rowK, Enc.decL_map, hcl, hpl2, ite_self]
  exact laws_FnPresses_p5 (bl := H.n) (bo := H.n + 1) (ps := ps) (d := d) (sh := sh) (hu := hu) (sp := sp) hwf (by (repeat first | exact Sub.refl _ | refine Sub.push hwf ?_ _ | refine Sub.set hwf ?_ (by first | exact Nat.le_refl _ | omega | (simp only [push_n, set_n, kill_n]; omega)) _ | refine Sub.kill hwf ?_ (by first | exact Nat.le_refl _ | omega | (simp only [push_n, set_n, kill_n]; omega)))) (by repeat first | exact hwf | refine WF.push ?_ (plain_map (fun _ => rfl) _) (by first | (simp; done) | (simp; omega))) hat_code h hcl hI0 hpl (by simp [push_b, rowK]; done) (by omega) (by simp [push_b, rowK]; done) (by omega) rfl

end Go.Proofs.YtegmlgikdniohaaDoor
