/- The law on made covers: its walk, part by part. -/
import Derived.Test.YtjiffkjeijfilaaCvLh
import Derived.Test.YtjiffkjeijfilaaCvDx
import Derived.Test.YtjiffkjeijfilaaCvPm
import Derived.Test.YtjiffkjeijfilaaCtQ
set_option maxRecDepth 8000
set_option linter.unusedSimpArgs false
set_option linter.unusedVariables false
namespace Go.Proofs.Ytjiffkjeijfilaa
open Go Go.RowKit

set_option maxHeartbeats 4000000

theorem impl_IsCover_s : Sound Try.prog 21 q_isCv := by
  intro args H K h
  unfold q_isCv at h
  split at h
  rotate_left
  all_goals first | exact False.elim h | skip
  rename_i x_e
  have h1 := onv_iff.1 h
  clear h
  obtain ⟨x, hd_x, h⟩ := h1
  obtain rfl := eCv.cd _ _ hd_x
  clear hd_x
  have hE := soundE_cons impl_isCover_s (soundE_nil (P := Try.prog))
  refine acalls_fn impl_IsCover_k hE ⟨by simp, fun hwf => ?_⟩
  simp (config := {contextual := true, implicitDefEqProofs := false, maxSteps := 60000}) [-Int.not_le, -Int.not_lt, argsF, impl_IsCover_c]
  (refine Out.plain hwf ?_ rfl ?_; (repeat first | exact Sub.refl _ | refine Sub.push hwf ?_ _ | refine Sub.set hwf ?_ (by first | exact Nat.le_refl _ | omega | (simp only [push_n, set_n, kill_n]; omega)) _ | refine Sub.kill hwf ?_ (by first | exact Nat.le_refl _ | omega | (simp only [push_n, set_n, kill_n]; omega)))); exact h

def q_tFnMade : Con := fun args H K => match args with
  | [code_v] => eU.rd H (fun code => K (.c (.bool (true))) H) code_v
  | _ => False
@[simp ↓] theorem q_tFnMade_eq (code_v : AV) (H : AHeap) (K : AV → AHeap → Prop) : q_tFnMade [code_v] H K = (eU.rd H (fun code => K (.c (.bool (true))) H) code_v) := rfl

theorem laws_FnMade_p14 {H0 H : AHeap} {K : AV → AHeap → Prop} {b_code i_code : Nat} {k_code : ABlk} {code : List UInt8} (hwf0 : H0.WF) (hs0 : Sub H0 H) (hwf : H.WF) (hat0_code : eU.At H0 b_code i_code k_code code) (h : K (.c (.bool true)) H0) (hcl : code.length ≤ 65536) {F : AFrame} (hF : F.keep [0] = [(0, .c (.sl b_code i_code code.length))]) : avc Try.prog [(8, q_rBig), (57, q_DMc), (33, q_MakeCover), (58, q_MakeCover), (59, q_chOf), (21, q_isCv), (31, q_IsEx), (60, q_DCo), (61, q_chOf), (62, q_DCc), (34, q_Cheap), (63, q_Cheap), (64, q_DCt), (65, q_ct), (66, q_ct)] 209 H0.n laws_FnMade_t14 F H (endK Try.prog H0.n [.tmp 2] K) := by
  refine (show avc _ _ _ _ _ _ _ _ = _ from avc_cut _ _).mpr ?_
  rw [hF]
  have hat_code : eU.At H b_code i_code k_code code := ⟨hs0.1.2 _ _ hat0_code.blk, hat0_code.esz, hat0_code.len, hat0_code.els⟩
  have hE := soundE_cons laws_vBig_s (soundE_cons spec_DrawMakeCover_s (soundE_cons impl_MakeCover_s (soundE_cons spec_MakeCover_s (soundE_cons impl_ChangeOf_s (soundE_cons impl_IsCover_s (soundE_cons impl_IsExplained_s (soundE_cons spec_DrawChangeOf_s (soundE_cons spec_ChangeOf_s (soundE_cons spec_DrawCheapestChange_s (soundE_cons impl_CheapestChange_s (soundE_cons spec_CheapestChange_s (soundE_cons spec_DrawChangeText_s (soundE_cons impl_ChangeText_s (soundE_cons spec_ChangeText_s (soundE_nil (P := Try.prog))))))))))))))))
  have hn0 : H0.n ≤ H.n := hs0.1.1
  have hb_code : b_code < H.n := (hwf b_code k_code hat_code.blk).1
  have hne_code : (b_code = H.n) = False := eq_false (by omega)
  have hne1_code : ∀ i, (b_code = H.n + i) = False := fun i => eq_false (by omega)
  have hne2_code : (b_code = H.n + 1 + 1) = False ∧ (b_code = H.n + 1 + 1 + 1) = False ∧ (b_code = H.n + 1 + 1 + 1 + 1) = False ∧ (b_code = H.n + 1 + 1 + 1 + 1 + 1) = False ∧ (b_code = H.n + 1 + 1 + 1 + 1 + 1 + 1) = False ∧ (b_code = H.n + 1 + 1 + 1 + 1 + 1 + 1 + 1) = False ∧ (b_code = H.n + 1 + 1 + 1 + 1 + 1 + 1 + 1 + 1) = False ∧ (b_code = H.n + 1 + 1 + 1 + 1 + 1 + 1 + 1 + 1 + 1) = False ∧ (b_code = H.n + 1 + 1 + 1 + 1 + 1 + 1 + 1 + 1 + 1 + 1) = False ∧ (b_code = H.n + 1 + 1 + 1 + 1 + 1 + 1 + 1 + 1 + 1 + 1 + 1) = False ∧ (b_code = H.n + 1 + 1 + 1 + 1 + 1 + 1 + 1 + 1 + 1 + 1 + 1 + 1) = False := ⟨eq_false (by omega), eq_false (by omega), eq_false (by omega), eq_false (by omega), eq_false (by omega), eq_false (by omega), eq_false (by omega), eq_false (by omega), eq_false (by omega), eq_false (by omega), eq_false (by omega)⟩
  have hmx_code : code.length ≤ 9223372036854775807 := by have h1 := (hwf b_code k_code hat_code.blk).2.2; have h2 := hat_code.len; omega
  have hl0_code : b_code < H.n := by omega
  have hl1_code : b_code < H.n + 1 := by omega
  have hl2_code : b_code < H.n + 1 + 1 := by omega
  have hl3_code : b_code < H.n + 1 + 1 + 1 := by omega
  have hl4_code : b_code < H.n + 1 + 1 + 1 + 1 := by omega
  have hl5_code : b_code < H.n + 1 + 1 + 1 + 1 + 1 := by omega
  have hl6_code : b_code < H.n + 1 + 1 + 1 + 1 + 1 + 1 := by omega
  have hl7_code : b_code < H.n + 1 + 1 + 1 + 1 + 1 + 1 + 1 := by omega
  simp (config := {contextual := true, implicitDefEqProofs := false, maxSteps := 2000000}) [-Int.not_le, -Int.not_lt, argsF, laws_FnMade_t14, hat_code.blk, hat_code.esz, hat_code.len, hat_code.els, hne_code, hne1_code, hne2_code.1, hne2_code.2.1, hne2_code.2.2.1, hne2_code.2.2.2.1, hne2_code.2.2.2.2.1, hne2_code.2.2.2.2.2.1, hne2_code.2.2.2.2.2.2.1, hne2_code.2.2.2.2.2.2.2.1, hne2_code.2.2.2.2.2.2.2.2.1, hne2_code.2.2.2.2.2.2.2.2.2.1, hne2_code.2.2.2.2.2.2.2.2.2.2, rowK, Enc.decL_map, push_setE, hcl]
  refine Stop.mk fun n => ?_
  simp (config := {contextual := true, implicitDefEqProofs := false, maxSteps := 2000000}) [-Int.not_le, -Int.not_lt, argsF, laws_FnMade_t14, laws_FnMade_t15, laws_FnMade_t16, laws_FnMade_t17, hat_code.blk, hat_code.esz, hat_code.len, hat_code.els, hne_code, hne1_code, hne2_code.1, hne2_code.2.1, hne2_code.2.2.1, hne2_code.2.2.2.1, hne2_code.2.2.2.2.1, hne2_code.2.2.2.2.2.1, hne2_code.2.2.2.2.2.2.1, hne2_code.2.2.2.2.2.2.2.1, hne2_code.2.2.2.2.2.2.2.2.1, hne2_code.2.2.2.2.2.2.2.2.2.1, hne2_code.2.2.2.2.2.2.2.2.2.2, rowK, Enc.decL_map, push_setE]
  (refine Out.plain hwf0 ?_ rfl ?_; (repeat first | exact Sub.refl _ | refine Sub.push hwf0 ?_ _ | refine Sub.set hwf0 ?_ (by first | exact Nat.le_refl _ | omega | (simp only [push_n, set_n, kill_n]; omega)) _ | refine Sub.kill hwf0 ?_ (by first | exact Nat.le_refl _ | omega | (simp only [push_n, set_n, kill_n]; omega))); exact hs0)
  exact h

theorem laws_FnMade_p10 {H0 H : AHeap} {K : AV → AHeap → Prop} {b_code i_code : Nat} {k_code : ABlk} {code : List UInt8} (hwf0 : H0.WF) (hs0 : Sub H0 H) (hwf : H.WF) (hat0_code : eU.At H0 b_code i_code k_code code) (h : K (.c (.bool true)) H0) (hcl : code.length ≤ 65536) {F : AFrame} (hF : F.keep [0] = [(0, .c (.sl b_code i_code code.length))]) : avc Try.prog [(8, q_rBig), (57, q_DMc), (33, q_MakeCover), (58, q_MakeCover), (59, q_chOf), (21, q_isCv), (31, q_IsEx), (60, q_DCo), (61, q_chOf), (62, q_DCc), (34, q_Cheap), (63, q_Cheap), (64, q_DCt), (65, q_ct), (66, q_ct)] 209 H0.n laws_FnMade_t10 F H (endK Try.prog H0.n [.tmp 2] K) := by
  refine (show avc _ _ _ _ _ _ _ _ = _ from avc_cut _ _).mpr ?_
  rw [hF]
  have hat_code : eU.At H b_code i_code k_code code := ⟨hs0.1.2 _ _ hat0_code.blk, hat0_code.esz, hat0_code.len, hat0_code.els⟩
  have hE := soundE_cons laws_vBig_s (soundE_cons spec_DrawMakeCover_s (soundE_cons impl_MakeCover_s (soundE_cons spec_MakeCover_s (soundE_cons impl_ChangeOf_s (soundE_cons impl_IsCover_s (soundE_cons impl_IsExplained_s (soundE_cons spec_DrawChangeOf_s (soundE_cons spec_ChangeOf_s (soundE_cons spec_DrawCheapestChange_s (soundE_cons impl_CheapestChange_s (soundE_cons spec_CheapestChange_s (soundE_cons spec_DrawChangeText_s (soundE_cons impl_ChangeText_s (soundE_cons spec_ChangeText_s (soundE_nil (P := Try.prog))))))))))))))))
  have hn0 : H0.n ≤ H.n := hs0.1.1
  have hb_code : b_code < H.n := (hwf b_code k_code hat_code.blk).1
  have hne_code : (b_code = H.n) = False := eq_false (by omega)
  have hne1_code : ∀ i, (b_code = H.n + i) = False := fun i => eq_false (by omega)
  have hne2_code : (b_code = H.n + 1 + 1) = False ∧ (b_code = H.n + 1 + 1 + 1) = False ∧ (b_code = H.n + 1 + 1 + 1 + 1) = False ∧ (b_code = H.n + 1 + 1 + 1 + 1 + 1) = False ∧ (b_code = H.n + 1 + 1 + 1 + 1 + 1 + 1) = False ∧ (b_code = H.n + 1 + 1 + 1 + 1 + 1 + 1 + 1) = False ∧ (b_code = H.n + 1 + 1 + 1 + 1 + 1 + 1 + 1 + 1) = False ∧ (b_code = H.n + 1 + 1 + 1 + 1 + 1 + 1 + 1 + 1 + 1) = False ∧ (b_code = H.n + 1 + 1 + 1 + 1 + 1 + 1 + 1 + 1 + 1 + 1) = False ∧ (b_code = H.n + 1 + 1 + 1 + 1 + 1 + 1 + 1 + 1 + 1 + 1 + 1) = False ∧ (b_code = H.n + 1 + 1 + 1 + 1 + 1 + 1 + 1 + 1 + 1 + 1 + 1 + 1) = False := ⟨eq_false (by omega), eq_false (by omega), eq_false (by omega), eq_false (by omega), eq_false (by omega), eq_false (by omega), eq_false (by omega), eq_false (by omega), eq_false (by omega), eq_false (by omega), eq_false (by omega)⟩
  have hmx_code : code.length ≤ 9223372036854775807 := by have h1 := (hwf b_code k_code hat_code.blk).2.2; have h2 := hat_code.len; omega
  have hl0_code : b_code < H.n := by omega
  have hl1_code : b_code < H.n + 1 := by omega
  have hl2_code : b_code < H.n + 1 + 1 := by omega
  have hl3_code : b_code < H.n + 1 + 1 + 1 := by omega
  have hl4_code : b_code < H.n + 1 + 1 + 1 + 1 := by omega
  have hl5_code : b_code < H.n + 1 + 1 + 1 + 1 + 1 := by omega
  have hl6_code : b_code < H.n + 1 + 1 + 1 + 1 + 1 + 1 := by omega
  have hl7_code : b_code < H.n + 1 + 1 + 1 + 1 + 1 + 1 + 1 := by omega
  simp (config := {contextual := true, implicitDefEqProofs := false, maxSteps := 2000000}) [-Int.not_le, -Int.not_lt, argsF, laws_FnMade_t10, hat_code.blk, hat_code.esz, hat_code.len, hat_code.els, hne_code, hne1_code, hne2_code.1, hne2_code.2.1, hne2_code.2.2.1, hne2_code.2.2.2.1, hne2_code.2.2.2.2.1, hne2_code.2.2.2.2.2.1, hne2_code.2.2.2.2.2.2.1, hne2_code.2.2.2.2.2.2.2.1, hne2_code.2.2.2.2.2.2.2.2.1, hne2_code.2.2.2.2.2.2.2.2.2.1, hne2_code.2.2.2.2.2.2.2.2.2.2, rowK, Enc.decL_map, push_setE, hcl]
  refine Stop.mk fun ps x c hpl => ?_
  by_cases hok : (ccRes ps x c).2.2 = true
  · have hmk := cheap_ok hok
    simp (config := {contextual := true, implicitDefEqProofs := false, maxSteps := 2000000}) [-Int.not_le, -Int.not_lt, argsF, laws_FnMade_t10, hat_code.blk, hat_code.esz, hat_code.len, hat_code.els, hne_code, hne1_code, hne2_code.1, hne2_code.2.1, hne2_code.2.2.1, hne2_code.2.2.2.1, hne2_code.2.2.2.2.1, hne2_code.2.2.2.2.2.1, hne2_code.2.2.2.2.2.2.1, hne2_code.2.2.2.2.2.2.2.1, hne2_code.2.2.2.2.2.2.2.2.1, hne2_code.2.2.2.2.2.2.2.2.2.1, hne2_code.2.2.2.2.2.2.2.2.2.2, rowK, Enc.decL_map, push_setE]
    simp (config := {contextual := true, implicitDefEqProofs := false, maxSteps := 2000000}) [-Int.not_le, -Int.not_lt, argsF, laws_FnMade_t11, laws_FnMade_t12, hat_code.blk, hat_code.esz, hat_code.len, hat_code.els, hne_code, hne1_code, hne2_code.1, hne2_code.2.1, hne2_code.2.2.1, hne2_code.2.2.2.1, hne2_code.2.2.2.2.1, hne2_code.2.2.2.2.2.1, hne2_code.2.2.2.2.2.2.1, hne2_code.2.2.2.2.2.2.2.1, hne2_code.2.2.2.2.2.2.2.2.1, hne2_code.2.2.2.2.2.2.2.2.2.1, hne2_code.2.2.2.2.2.2.2.2.2.2, rowK, Enc.decL_map, push_setE, ite_self]
    simp (config := {contextual := true, implicitDefEqProofs := false, maxSteps := 2000000}) [-Int.not_le, -Int.not_lt, argsF, laws_FnMade_t13, hat_code.blk, hat_code.esz, hat_code.len, hat_code.els, hne_code, hne1_code, hne2_code.1, hne2_code.2.1, hne2_code.2.2.1, hne2_code.2.2.2.1, hne2_code.2.2.2.2.1, hne2_code.2.2.2.2.2.1, hne2_code.2.2.2.2.2.2.1, hne2_code.2.2.2.2.2.2.2.1, hne2_code.2.2.2.2.2.2.2.2.1, hne2_code.2.2.2.2.2.2.2.2.2.1, hne2_code.2.2.2.2.2.2.2.2.2.2, rowK, Enc.decL_map, push_setE, hok, hmk]
    exact laws_FnMade_p14 hwf0 (by (repeat first | exact Sub.refl _ | refine Sub.push hwf0 ?_ _ | refine Sub.set hwf0 ?_ (by first | exact Nat.le_refl _ | omega | (simp only [push_n, set_n, kill_n]; omega)) _ | refine Sub.kill hwf0 ?_ (by first | exact Nat.le_refl _ | omega | (simp only [push_n, set_n, kill_n]; omega))); exact hs0) (by repeat first | exact hwf | refine WF.push ?_ (by first | exact plain_map (fun _ => rfl) _ | simp [AC.okR]) (by first | (simp; done) | (simp; omega)) | refine WF.set ?_ (by simp [push_b, set_b]; rfl) (by simp [AC.okR]) (by simp)) hat0_code h hcl rfl
  · have hok' : (ccRes ps x c).2.2 = false := by simpa using hok
    simp (config := {contextual := true, implicitDefEqProofs := false, maxSteps := 2000000}) [-Int.not_le, -Int.not_lt, argsF, laws_FnMade_t10, hat_code.blk, hat_code.esz, hat_code.len, hat_code.els, hne_code, hne1_code, hne2_code.1, hne2_code.2.1, hne2_code.2.2.1, hne2_code.2.2.2.1, hne2_code.2.2.2.2.1, hne2_code.2.2.2.2.2.1, hne2_code.2.2.2.2.2.2.1, hne2_code.2.2.2.2.2.2.2.1, hne2_code.2.2.2.2.2.2.2.2.1, hne2_code.2.2.2.2.2.2.2.2.2.1, hne2_code.2.2.2.2.2.2.2.2.2.2, rowK, Enc.decL_map, push_setE]
    simp (config := {contextual := true, implicitDefEqProofs := false, maxSteps := 2000000}) [-Int.not_le, -Int.not_lt, argsF, laws_FnMade_t11, laws_FnMade_t12, hat_code.blk, hat_code.esz, hat_code.len, hat_code.els, hne_code, hne1_code, hne2_code.1, hne2_code.2.1, hne2_code.2.2.1, hne2_code.2.2.2.1, hne2_code.2.2.2.2.1, hne2_code.2.2.2.2.2.1, hne2_code.2.2.2.2.2.2.1, hne2_code.2.2.2.2.2.2.2.1, hne2_code.2.2.2.2.2.2.2.2.1, hne2_code.2.2.2.2.2.2.2.2.2.1, hne2_code.2.2.2.2.2.2.2.2.2.2, rowK, Enc.decL_map, push_setE, ite_self]
    simp (config := {contextual := true, implicitDefEqProofs := false, maxSteps := 2000000}) [-Int.not_le, -Int.not_lt, argsF, laws_FnMade_t13, hat_code.blk, hat_code.esz, hat_code.len, hat_code.els, hne_code, hne1_code, hne2_code.1, hne2_code.2.1, hne2_code.2.2.1, hne2_code.2.2.2.1, hne2_code.2.2.2.2.1, hne2_code.2.2.2.2.2.1, hne2_code.2.2.2.2.2.2.1, hne2_code.2.2.2.2.2.2.2.1, hne2_code.2.2.2.2.2.2.2.2.1, hne2_code.2.2.2.2.2.2.2.2.2.1, hne2_code.2.2.2.2.2.2.2.2.2.2, rowK, Enc.decL_map, push_setE, hok']
    exact laws_FnMade_p14 hwf0 (by (repeat first | exact Sub.refl _ | refine Sub.push hwf0 ?_ _ | refine Sub.set hwf0 ?_ (by first | exact Nat.le_refl _ | omega | (simp only [push_n, set_n, kill_n]; omega)) _ | refine Sub.kill hwf0 ?_ (by first | exact Nat.le_refl _ | omega | (simp only [push_n, set_n, kill_n]; omega))); exact hs0) (by repeat first | exact hwf | refine WF.push ?_ (by first | exact plain_map (fun _ => rfl) _ | simp [AC.okR]) (by first | (simp; done) | (simp; omega)) | refine WF.set ?_ (by simp [push_b, set_b]; rfl) (by simp [AC.okR]) (by simp)) hat0_code h hcl rfl

theorem laws_FnMade_p6 {H0 H : AHeap} {K : AV → AHeap → Prop} {b_code i_code : Nat} {k_code : ABlk} {code : List UInt8} (hwf0 : H0.WF) (hs0 : Sub H0 H) (hwf : H.WF) (hat0_code : eU.At H0 b_code i_code k_code code) (h : K (.c (.bool true)) H0) (hcl : code.length ≤ 65536) {F : AFrame} (hF : F.keep [0] = [(0, .c (.sl b_code i_code code.length))]) : avc Try.prog [(8, q_rBig), (57, q_DMc), (33, q_MakeCover), (58, q_MakeCover), (59, q_chOf), (21, q_isCv), (31, q_IsEx), (60, q_DCo), (61, q_chOf), (62, q_DCc), (34, q_Cheap), (63, q_Cheap), (64, q_DCt), (65, q_ct), (66, q_ct)] 209 H0.n laws_FnMade_t6 F H (endK Try.prog H0.n [.tmp 2] K) := by
  refine (show avc _ _ _ _ _ _ _ _ = _ from avc_cut _ _).mpr ?_
  rw [hF]
  have hat_code : eU.At H b_code i_code k_code code := ⟨hs0.1.2 _ _ hat0_code.blk, hat0_code.esz, hat0_code.len, hat0_code.els⟩
  have hE := soundE_cons laws_vBig_s (soundE_cons spec_DrawMakeCover_s (soundE_cons impl_MakeCover_s (soundE_cons spec_MakeCover_s (soundE_cons impl_ChangeOf_s (soundE_cons impl_IsCover_s (soundE_cons impl_IsExplained_s (soundE_cons spec_DrawChangeOf_s (soundE_cons spec_ChangeOf_s (soundE_cons spec_DrawCheapestChange_s (soundE_cons impl_CheapestChange_s (soundE_cons spec_CheapestChange_s (soundE_cons spec_DrawChangeText_s (soundE_cons impl_ChangeText_s (soundE_cons spec_ChangeText_s (soundE_nil (P := Try.prog))))))))))))))))
  have hn0 : H0.n ≤ H.n := hs0.1.1
  have hb_code : b_code < H.n := (hwf b_code k_code hat_code.blk).1
  have hne_code : (b_code = H.n) = False := eq_false (by omega)
  have hne1_code : ∀ i, (b_code = H.n + i) = False := fun i => eq_false (by omega)
  have hne2_code : (b_code = H.n + 1 + 1) = False ∧ (b_code = H.n + 1 + 1 + 1) = False ∧ (b_code = H.n + 1 + 1 + 1 + 1) = False ∧ (b_code = H.n + 1 + 1 + 1 + 1 + 1) = False ∧ (b_code = H.n + 1 + 1 + 1 + 1 + 1 + 1) = False ∧ (b_code = H.n + 1 + 1 + 1 + 1 + 1 + 1 + 1) = False ∧ (b_code = H.n + 1 + 1 + 1 + 1 + 1 + 1 + 1 + 1) = False ∧ (b_code = H.n + 1 + 1 + 1 + 1 + 1 + 1 + 1 + 1 + 1) = False ∧ (b_code = H.n + 1 + 1 + 1 + 1 + 1 + 1 + 1 + 1 + 1 + 1) = False ∧ (b_code = H.n + 1 + 1 + 1 + 1 + 1 + 1 + 1 + 1 + 1 + 1 + 1) = False ∧ (b_code = H.n + 1 + 1 + 1 + 1 + 1 + 1 + 1 + 1 + 1 + 1 + 1 + 1) = False := ⟨eq_false (by omega), eq_false (by omega), eq_false (by omega), eq_false (by omega), eq_false (by omega), eq_false (by omega), eq_false (by omega), eq_false (by omega), eq_false (by omega), eq_false (by omega), eq_false (by omega)⟩
  have hmx_code : code.length ≤ 9223372036854775807 := by have h1 := (hwf b_code k_code hat_code.blk).2.2; have h2 := hat_code.len; omega
  have hl0_code : b_code < H.n := by omega
  have hl1_code : b_code < H.n + 1 := by omega
  have hl2_code : b_code < H.n + 1 + 1 := by omega
  have hl3_code : b_code < H.n + 1 + 1 + 1 := by omega
  have hl4_code : b_code < H.n + 1 + 1 + 1 + 1 := by omega
  have hl5_code : b_code < H.n + 1 + 1 + 1 + 1 + 1 := by omega
  have hl6_code : b_code < H.n + 1 + 1 + 1 + 1 + 1 + 1 := by omega
  have hl7_code : b_code < H.n + 1 + 1 + 1 + 1 + 1 + 1 + 1 := by omega
  simp (config := {contextual := true, implicitDefEqProofs := false, maxSteps := 2000000}) [-Int.not_le, -Int.not_lt, argsF, laws_FnMade_t6, hat_code.blk, hat_code.esz, hat_code.len, hat_code.els, hne_code, hne1_code, hne2_code.1, hne2_code.2.1, hne2_code.2.2.1, hne2_code.2.2.2.1, hne2_code.2.2.2.2.1, hne2_code.2.2.2.2.2.1, hne2_code.2.2.2.2.2.2.1, hne2_code.2.2.2.2.2.2.2.1, hne2_code.2.2.2.2.2.2.2.2.1, hne2_code.2.2.2.2.2.2.2.2.2.1, hne2_code.2.2.2.2.2.2.2.2.2.2, rowK, Enc.decL_map, push_setE, hcl]
  refine Stop.mk fun x y => ?_
  have hcm := chRes_comm x y
  simp (config := {contextual := true, implicitDefEqProofs := false, maxSteps := 2000000}) [-Int.not_le, -Int.not_lt, argsF, laws_FnMade_t6, hat_code.blk, hat_code.esz, hat_code.len, hat_code.els, hne_code, hne1_code, hne2_code.1, hne2_code.2.1, hne2_code.2.2.1, hne2_code.2.2.2.1, hne2_code.2.2.2.2.1, hne2_code.2.2.2.2.2.1, hne2_code.2.2.2.2.2.2.1, hne2_code.2.2.2.2.2.2.2.1, hne2_code.2.2.2.2.2.2.2.2.1, hne2_code.2.2.2.2.2.2.2.2.2.1, hne2_code.2.2.2.2.2.2.2.2.2.2, rowK, Enc.decL_map, push_setE]
  simp (config := {contextual := true, implicitDefEqProofs := false, maxSteps := 2000000}) [-Int.not_le, -Int.not_lt, argsF, laws_FnMade_t7, laws_FnMade_t8, laws_FnMade_t9, hat_code.blk, hat_code.esz, hat_code.len, hat_code.els, hne_code, hne1_code, hne2_code.1, hne2_code.2.1, hne2_code.2.2.1, hne2_code.2.2.2.1, hne2_code.2.2.2.2.1, hne2_code.2.2.2.2.2.1, hne2_code.2.2.2.2.2.2.1, hne2_code.2.2.2.2.2.2.2.1, hne2_code.2.2.2.2.2.2.2.2.1, hne2_code.2.2.2.2.2.2.2.2.2.1, hne2_code.2.2.2.2.2.2.2.2.2.2, rowK, Enc.decL_map, push_setE, hcm, ite_self]
  exact laws_FnMade_p10 hwf0 (by (repeat first | exact Sub.refl _ | refine Sub.push hwf0 ?_ _ | refine Sub.set hwf0 ?_ (by first | exact Nat.le_refl _ | omega | (simp only [push_n, set_n, kill_n]; omega)) _ | refine Sub.kill hwf0 ?_ (by first | exact Nat.le_refl _ | omega | (simp only [push_n, set_n, kill_n]; omega))); exact hs0) (by repeat first | exact hwf | refine WF.push ?_ (by first | exact plain_map (fun _ => rfl) _ | simp [AC.okR]) (by first | (simp; done) | (simp; omega)) | refine WF.set ?_ (by simp [push_b, set_b]; rfl) (by simp [AC.okR]) (by simp)) hat0_code h hcl rfl

theorem laws_FnMade_s : Sound Try.prog 7 q_tFnMade := by
  intro args H K h
  unfold q_tFnMade at h
  split at h
  rotate_left
  all_goals first | exact False.elim h | skip
  rename_i code_v
  have h1 := Enc.rd_at h
  clear h
  obtain ⟨b_code, i_code, k_code, code, rfl, hat_code, h⟩ := h1
  have hE := soundE_cons laws_vBig_s (soundE_cons spec_DrawMakeCover_s (soundE_cons impl_MakeCover_s (soundE_cons spec_MakeCover_s (soundE_cons impl_ChangeOf_s (soundE_cons impl_IsCover_s (soundE_cons impl_IsExplained_s (soundE_cons spec_DrawChangeOf_s (soundE_cons spec_ChangeOf_s (soundE_cons spec_DrawCheapestChange_s (soundE_cons impl_CheapestChange_s (soundE_cons spec_CheapestChange_s (soundE_cons spec_DrawChangeText_s (soundE_cons impl_ChangeText_s (soundE_cons spec_ChangeText_s (soundE_nil (P := Try.prog))))))))))))))))
  refine acalls_fn laws_FnMade_k hE ⟨by simp, fun hwf => ?_⟩
  have hb_code : b_code < H.n := (hwf b_code k_code hat_code.blk).1
  have hne_code : (b_code = H.n) = False := eq_false (by omega)
  have hne1_code : ∀ i, (b_code = H.n + i) = False := fun i => eq_false (by omega)
  have hne2_code : (b_code = H.n + 1 + 1) = False ∧ (b_code = H.n + 1 + 1 + 1) = False ∧ (b_code = H.n + 1 + 1 + 1 + 1) = False ∧ (b_code = H.n + 1 + 1 + 1 + 1 + 1) = False ∧ (b_code = H.n + 1 + 1 + 1 + 1 + 1 + 1) = False ∧ (b_code = H.n + 1 + 1 + 1 + 1 + 1 + 1 + 1) = False ∧ (b_code = H.n + 1 + 1 + 1 + 1 + 1 + 1 + 1 + 1) = False ∧ (b_code = H.n + 1 + 1 + 1 + 1 + 1 + 1 + 1 + 1 + 1) = False ∧ (b_code = H.n + 1 + 1 + 1 + 1 + 1 + 1 + 1 + 1 + 1 + 1) = False ∧ (b_code = H.n + 1 + 1 + 1 + 1 + 1 + 1 + 1 + 1 + 1 + 1 + 1) = False ∧ (b_code = H.n + 1 + 1 + 1 + 1 + 1 + 1 + 1 + 1 + 1 + 1 + 1 + 1) = False := ⟨eq_false (by omega), eq_false (by omega), eq_false (by omega), eq_false (by omega), eq_false (by omega), eq_false (by omega), eq_false (by omega), eq_false (by omega), eq_false (by omega), eq_false (by omega), eq_false (by omega)⟩
  have hmx_code : code.length ≤ 9223372036854775807 := by have h1 := (hwf b_code k_code hat_code.blk).2.2; have h2 := hat_code.len; omega
  by_cases hbig : 65536 < code.length
  · simp (config := {contextual := true, implicitDefEqProofs := false, maxSteps := 2000000}) [-Int.not_le, -Int.not_lt, argsF, laws_FnMade_c, laws_FnMade_t1, hat_code.blk, hat_code.esz, hat_code.len, hat_code.els, hne_code, hne1_code, hne2_code.1, hne2_code.2.1, hne2_code.2.2.1, hne2_code.2.2.2.1, hne2_code.2.2.2.2.1, hne2_code.2.2.2.2.2.1, hne2_code.2.2.2.2.2.2.1, hne2_code.2.2.2.2.2.2.2.1, hne2_code.2.2.2.2.2.2.2.2.1, hne2_code.2.2.2.2.2.2.2.2.2.1, hne2_code.2.2.2.2.2.2.2.2.2.2, Enc.decL_map, hbig]
    (refine Out.plain hwf ?_ rfl ?_; (repeat first | exact Sub.refl _ | refine Sub.push hwf ?_ _ | refine Sub.set hwf ?_ (by first | exact Nat.le_refl _ | omega | (simp only [push_n, set_n, kill_n]; omega)) _ | refine Sub.kill hwf ?_ (by first | exact Nat.le_refl _ | omega | (simp only [push_n, set_n, kill_n]; omega)))); exact h
  have hcl : code.length ≤ 65536 := by omega
  simp (config := {contextual := true, implicitDefEqProofs := false, maxSteps := 2000000}) [-Int.not_le, -Int.not_lt, argsF, laws_FnMade_c, laws_FnMade_t1, laws_FnMade_t2, hat_code.blk, hat_code.esz, hat_code.len, hat_code.els, hne_code, hne1_code, hne2_code.1, hne2_code.2.1, hne2_code.2.2.1, hne2_code.2.2.2.1, hne2_code.2.2.2.2.1, hne2_code.2.2.2.2.2.1, hne2_code.2.2.2.2.2.2.1, hne2_code.2.2.2.2.2.2.2.1, hne2_code.2.2.2.2.2.2.2.2.1, hne2_code.2.2.2.2.2.2.2.2.2.1, hne2_code.2.2.2.2.2.2.2.2.2.2, Enc.decL_map, hbig, hcl]
  refine Stop.mk fun ps x ch hpl => ?_
  simp (config := {contextual := true, implicitDefEqProofs := false, maxSteps := 2000000}) [-Int.not_le, -Int.not_lt, argsF, laws_FnMade_t2, hat_code.blk, hat_code.esz, hat_code.len, hat_code.els, hne_code, hne1_code, hne2_code.1, hne2_code.2.1, hne2_code.2.2.1, hne2_code.2.2.2.1, hne2_code.2.2.2.2.1, hne2_code.2.2.2.2.2.1, hne2_code.2.2.2.2.2.2.1, hne2_code.2.2.2.2.2.2.2.1, hne2_code.2.2.2.2.2.2.2.2.1, hne2_code.2.2.2.2.2.2.2.2.2.1, hne2_code.2.2.2.2.2.2.2.2.2.2, rowK, Enc.decL_map, push_setE]
  simp (config := {contextual := true, implicitDefEqProofs := false, maxSteps := 2000000}) [-Int.not_le, -Int.not_lt, argsF, laws_FnMade_t3, laws_FnMade_t4, hat_code.blk, hat_code.esz, hat_code.len, hat_code.els, hne_code, hne1_code, hne2_code.1, hne2_code.2.1, hne2_code.2.2.1, hne2_code.2.2.2.1, hne2_code.2.2.2.2.1, hne2_code.2.2.2.2.2.1, hne2_code.2.2.2.2.2.2.1, hne2_code.2.2.2.2.2.2.2.1, hne2_code.2.2.2.2.2.2.2.2.1, hne2_code.2.2.2.2.2.2.2.2.2.1, hne2_code.2.2.2.2.2.2.2.2.2.2, rowK, Enc.decL_map, push_setE, ite_self]
  by_cases hok : (mcRes ps x ch).2 = true
  · obtain ⟨f1, f2, f3, f4⟩ := made_ok hok
    by_cases h0 : (chRes x (mcRes ps x ch).1).1 = 0
    · obtain ⟨g1, g2⟩ := f4 h0
      simp (config := {contextual := true, implicitDefEqProofs := false, maxSteps := 2000000}) [-Int.not_le, -Int.not_lt, argsF, laws_FnMade_t5, hat_code.blk, hat_code.esz, hat_code.len, hat_code.els, hne_code, hne1_code, hne2_code.1, hne2_code.2.1, hne2_code.2.2.1, hne2_code.2.2.2.1, hne2_code.2.2.2.2.1, hne2_code.2.2.2.2.2.1, hne2_code.2.2.2.2.2.2.1, hne2_code.2.2.2.2.2.2.2.1, hne2_code.2.2.2.2.2.2.2.2.1, hne2_code.2.2.2.2.2.2.2.2.2.1, hne2_code.2.2.2.2.2.2.2.2.2.2, rowK, Enc.decL_map, push_setE, hok, f1, f2, f3, h0, g1, g2]
      exact laws_FnMade_p6 hwf (by (repeat first | exact Sub.refl _ | refine Sub.push hwf ?_ _ | refine Sub.set hwf ?_ (by first | exact Nat.le_refl _ | omega | (simp only [push_n, set_n, kill_n]; omega)) _ | refine Sub.kill hwf ?_ (by first | exact Nat.le_refl _ | omega | (simp only [push_n, set_n, kill_n]; omega)))) (by repeat first | exact hwf | refine WF.push ?_ (by first | exact plain_map (fun _ => rfl) _ | simp [AC.okR]) (by first | (simp; done) | (simp; omega)) | refine WF.set ?_ (by simp [push_b, set_b]; rfl) (by simp [AC.okR]) (by simp)) hat_code h hcl rfl
    · simp (config := {contextual := true, implicitDefEqProofs := false, maxSteps := 2000000}) [-Int.not_le, -Int.not_lt, argsF, laws_FnMade_t5, hat_code.blk, hat_code.esz, hat_code.len, hat_code.els, hne_code, hne1_code, hne2_code.1, hne2_code.2.1, hne2_code.2.2.1, hne2_code.2.2.2.1, hne2_code.2.2.2.2.1, hne2_code.2.2.2.2.2.1, hne2_code.2.2.2.2.2.2.1, hne2_code.2.2.2.2.2.2.2.1, hne2_code.2.2.2.2.2.2.2.2.1, hne2_code.2.2.2.2.2.2.2.2.2.1, hne2_code.2.2.2.2.2.2.2.2.2.2, rowK, Enc.decL_map, push_setE, hok, f1, f2, f3, h0]
      exact laws_FnMade_p6 hwf (by (repeat first | exact Sub.refl _ | refine Sub.push hwf ?_ _ | refine Sub.set hwf ?_ (by first | exact Nat.le_refl _ | omega | (simp only [push_n, set_n, kill_n]; omega)) _ | refine Sub.kill hwf ?_ (by first | exact Nat.le_refl _ | omega | (simp only [push_n, set_n, kill_n]; omega)))) (by repeat first | exact hwf | refine WF.push ?_ (by first | exact plain_map (fun _ => rfl) _ | simp [AC.okR]) (by first | (simp; done) | (simp; omega)) | refine WF.set ?_ (by simp [push_b, set_b]; rfl) (by simp [AC.okR]) (by simp)) hat_code h hcl rfl
  · have hok' : (mcRes ps x ch).2 = false := by simpa using hok
    simp (config := {contextual := true, implicitDefEqProofs := false, maxSteps := 2000000}) [-Int.not_le, -Int.not_lt, argsF, laws_FnMade_t5, hat_code.blk, hat_code.esz, hat_code.len, hat_code.els, hne_code, hne1_code, hne2_code.1, hne2_code.2.1, hne2_code.2.2.1, hne2_code.2.2.2.1, hne2_code.2.2.2.2.1, hne2_code.2.2.2.2.2.1, hne2_code.2.2.2.2.2.2.1, hne2_code.2.2.2.2.2.2.2.1, hne2_code.2.2.2.2.2.2.2.2.1, hne2_code.2.2.2.2.2.2.2.2.2.1, hne2_code.2.2.2.2.2.2.2.2.2.2, rowK, Enc.decL_map, push_setE, hok']
    exact laws_FnMade_p6 hwf (by (repeat first | exact Sub.refl _ | refine Sub.push hwf ?_ _ | refine Sub.set hwf ?_ (by first | exact Nat.le_refl _ | omega | (simp only [push_n, set_n, kill_n]; omega)) _ | refine Sub.kill hwf ?_ (by first | exact Nat.le_refl _ | omega | (simp only [push_n, set_n, kill_n]; omega)))) (by repeat first | exact hwf | refine WF.push ?_ (by first | exact plain_map (fun _ => rfl) _ | simp [AC.okR]) (by first | (simp; done) | (simp; omega)) | refine WF.set ?_ (by simp [push_b, set_b]; rfl) (by simp [AC.okR]) (by simp)) hat_code h hcl rfl

end Go.Proofs.Ytjiffkjeijfilaa
