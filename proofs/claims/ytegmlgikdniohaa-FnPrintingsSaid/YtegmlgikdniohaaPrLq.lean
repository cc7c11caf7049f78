/- The law on printings: its walk, part by part. -/
import Derived.Test.YtegmlgikdniohaaPrDu
import Derived.Test.YtegmlgikdniohaaPrPl
set_option maxRecDepth 8000
set_option linter.unusedSimpArgs false
set_option linter.unusedVariables false
namespace Go.Proofs.Ytegmlgikdniohaa
open Go Go.RowKit

set_option maxHeartbeats 4000000

def q_tFnPrintings : Con := fun args H K => match args with
  | [code_v] => eU.rd H (fun code => K (.c (.bool (true))) H) code_v
  | _ => False
@[simp ↓] theorem q_tFnPrintings_eq (code_v : AV) (H : AHeap) (K : AV → AHeap → Prop) : q_tFnPrintings [code_v] H K = (eU.rd H (fun code => K (.c (.bool (true))) H) code_v) := rfl

theorem laws_FnPrintings_p16 {H0 H : AHeap} {K : AV → AHeap → Prop} {b_code i_code : Nat} {k_code : ABlk} {code : List UInt8} (hwf0 : H0.WF) (hs0 : Sub H0 H) (hwf : H.WF) (hat0_code : eU.At H0 b_code i_code k_code code) (h : K (.c (.bool true)) H0) (hcl : code.length ≤ 65536) {bl : Nat} {ps : List Pr} (hpl : ps.length ≤ 14) (hr_bl : H.b bl = some (rowK ePr 35 ps)) (hx_bl : H0.n ≤ bl) {F : AFrame} (hF : F.keep [0, 3] = [(0, .c (.sl b_code i_code code.length)), (3, .c (.sl (bl) (0) (ps.length)))]) : avc Try.prog [(4, q_rBig), (5, q_DCb), (6, q_cb), (7, q_cb), (8, q_rInts), (9, q_eu), (10, q_eu), (11, q_rHas), (12, q_ch), (13, q_DCh), (14, q_ch), (15, q_DSh), (16, q_sh), (17, q_sh), (18, q_sb), (19, q_DSb), (20, q_sb), (21, q_arePr), (22, q_arePr)] 330 H0.n laws_FnPrintings_t16 F H (endK Try.prog H0.n [.tmp 2] K) := by
  refine (show avc _ _ _ _ _ _ _ _ = _ from avc_cut _ _).mpr ?_
  rw [hF]
  have hat_code : eU.At H b_code i_code k_code code := ⟨hs0.1.2 _ _ hat0_code.blk, hat0_code.esz, hat0_code.len, hat0_code.els⟩
  have hE := soundE_cons laws_rBig_s (soundE_cons spec_DrawCanBeOf_s (soundE_cons impl_CanBeOf_s (soundE_cons spec_CanBeOf_s (soundE_cons laws_rInts_s (soundE_cons impl_EarliestUse_s (soundE_cons spec_EarliestUse_s (soundE_cons laws_rHas_s (soundE_cons impl_ChanceOf_s (soundE_cons spec_DrawChanceOf_s (soundE_cons spec_ChanceOf_s (soundE_cons spec_DrawShareOfSheets_s (soundE_cons impl_ShareOfSheets_s (soundE_cons spec_ShareOfSheets_s (soundE_cons impl_SheetsBy_s (soundE_cons spec_DrawSheetsBy_s (soundE_cons spec_SheetsBy_s (soundE_cons impl_ArePrintings_s (soundE_cons spec_ArePrintings_s (soundE_nil (P := Try.prog))))))))))))))))))))
  have hn0 : H0.n ≤ H.n := hs0.1.1
  have hb_code : b_code < H.n := (hwf b_code k_code hat_code.blk).1
  have hne_code : (b_code = H.n) = False := eq_false (by omega)
  have hne1_code : ∀ i, (b_code = H.n + i) = False := fun i => eq_false (by omega)
  have hne2_code : (b_code = H.n + 1 + 1) = False ∧ (b_code = H.n + 1 + 1 + 1) = False ∧ (b_code = H.n + 1 + 1 + 1 + 1) = False ∧ (b_code = H.n + 1 + 1 + 1 + 1 + 1) = False ∧ (b_code = H.n + 1 + 1 + 1 + 1 + 1 + 1) = False ∧ (b_code = H.n + 1 + 1 + 1 + 1 + 1 + 1 + 1) = False ∧ (b_code = H.n + 1 + 1 + 1 + 1 + 1 + 1 + 1 + 1) = False ∧ (b_code = H.n + 1 + 1 + 1 + 1 + 1 + 1 + 1 + 1 + 1) = False ∧ (b_code = H.n + 1 + 1 + 1 + 1 + 1 + 1 + 1 + 1 + 1 + 1) = False ∧ (b_code = H.n + 1 + 1 + 1 + 1 + 1 + 1 + 1 + 1 + 1 + 1 + 1) = False ∧ (b_code = H.n + 1 + 1 + 1 + 1 + 1 + 1 + 1 + 1 + 1 + 1 + 1 + 1) = False := ⟨eq_false (by omega), eq_false (by omega), eq_false (by omega), eq_false (by omega), eq_false (by omega), eq_false (by omega), eq_false (by omega), eq_false (by omega), eq_false (by omega), eq_false (by omega), eq_false (by omega)⟩
  have hmx_code : code.length ≤ 9223372036854775807 := by have h1 := (hwf b_code k_code hat_code.blk).2.2; have h2 := hat_code.len; omega
  have hl0_code : b_code < H.n := by omega
  have hl1_code : b_code < H.n + 1 := by omega
  have hl2_code : b_code < H.n + 1 + 1 := by omega
  have hl3_code : b_code < H.n + 1 + 1 + 1 := by omega
  have hl4_code : b_code < H.n + 1 + 1 + 1 + 1 := by omega
  have hl5_code : b_code < H.n + 1 + 1 + 1 + 1 + 1 := by omega
  have hl6_code : b_code < H.n + 1 + 1 + 1 + 1 + 1 + 1 := by omega
  have hl7_code : b_code < H.n + 1 + 1 + 1 + 1 + 1 + 1 + 1 := by omega
  have hb_bl : bl < H.n := (hwf bl _ hr_bl).1
  have hne_bl : (bl = H.n) = False := eq_false (by omega)
  have hne1_bl : ∀ i, (bl = H.n + i) = False := fun i => eq_false (by omega)
  have hne2_bl : (bl = H.n + 1 + 1) = False ∧ (bl = H.n + 1 + 1 + 1) = False ∧ (bl = H.n + 1 + 1 + 1 + 1) = False ∧ (bl = H.n + 1 + 1 + 1 + 1 + 1) = False ∧ (bl = H.n + 1 + 1 + 1 + 1 + 1 + 1) = False ∧ (bl = H.n + 1 + 1 + 1 + 1 + 1 + 1 + 1) = False ∧ (bl = H.n + 1 + 1 + 1 + 1 + 1 + 1 + 1 + 1) = False ∧ (bl = H.n + 1 + 1 + 1 + 1 + 1 + 1 + 1 + 1 + 1) = False ∧ (bl = H.n + 1 + 1 + 1 + 1 + 1 + 1 + 1 + 1 + 1 + 1) = False ∧ (bl = H.n + 1 + 1 + 1 + 1 + 1 + 1 + 1 + 1 + 1 + 1 + 1) = False ∧ (bl = H.n + 1 + 1 + 1 + 1 + 1 + 1 + 1 + 1 + 1 + 1 + 1 + 1) = False := ⟨eq_false (by omega), eq_false (by omega), eq_false (by omega), eq_false (by omega), eq_false (by omega), eq_false (by omega), eq_false (by omega), eq_false (by omega), eq_false (by omega), eq_false (by omega), eq_false (by omega)⟩
  have hl0_bl : bl < H.n := by omega
  have hl1_bl : bl < H.n + 1 := by omega
  have hl2_bl : bl < H.n + 1 + 1 := by omega
  have hl3_bl : bl < H.n + 1 + 1 + 1 := by omega
  have hl4_bl : bl < H.n + 1 + 1 + 1 + 1 := by omega
  have hl5_bl : bl < H.n + 1 + 1 + 1 + 1 + 1 := by omega
  have hl6_bl : bl < H.n + 1 + 1 + 1 + 1 + 1 + 1 := by omega
  have hl7_bl : bl < H.n + 1 + 1 + 1 + 1 + 1 + 1 + 1 := by omega
  simp (config := {contextual := true, implicitDefEqProofs := false, maxSteps := 2000000}) [-Int.not_le, -Int.not_lt, argsF, laws_FnPrintings_t16, laws_FnPrintings_t17, laws_FnPrintings_t18, laws_FnPrintings_t19, hat_code.blk, hat_code.esz, hat_code.len, hat_code.els, hne_code, hne1_code, hne2_code.1, hne2_code.2.1, hne2_code.2.2.1, hne2_code.2.2.2.1, hne2_code.2.2.2.2.1, hne2_code.2.2.2.2.2.1, hne2_code.2.2.2.2.2.2.1, hne2_code.2.2.2.2.2.2.2.1, hne2_code.2.2.2.2.2.2.2.2.1, hne2_code.2.2.2.2.2.2.2.2.2.1, hne2_code.2.2.2.2.2.2.2.2.2.2, rowK, Enc.decL_map, hcl, hr_bl, hne_bl, hne1_bl, hne2_bl.1, hne2_bl.2.1, hne2_bl.2.2.1, hne2_bl.2.2.2.1, hne2_bl.2.2.2.2.1, hne2_bl.2.2.2.2.2.1, hne2_bl.2.2.2.2.2.2.1, hne2_bl.2.2.2.2.2.2.2.1, hne2_bl.2.2.2.2.2.2.2.2.1, hne2_bl.2.2.2.2.2.2.2.2.2.1, hne2_bl.2.2.2.2.2.2.2.2.2.2]
  refine Stop.mk fun vs dv hvl => ?_
  simp (config := {contextual := true, implicitDefEqProofs := false, maxSteps := 2000000}) [-Int.not_le, -Int.not_lt, argsF, laws_FnPrintings_t16, laws_FnPrintings_t17, laws_FnPrintings_t18, laws_FnPrintings_t19, hat_code.blk, hat_code.esz, hat_code.len, hat_code.els, hne_code, hne1_code, hne2_code.1, hne2_code.2.1, hne2_code.2.2.1, hne2_code.2.2.2.1, hne2_code.2.2.2.2.1, hne2_code.2.2.2.2.2.1, hne2_code.2.2.2.2.2.2.1, hne2_code.2.2.2.2.2.2.2.1, hne2_code.2.2.2.2.2.2.2.2.1, hne2_code.2.2.2.2.2.2.2.2.2.1, hne2_code.2.2.2.2.2.2.2.2.2.2, rowK, Enc.decL_map, hcl, hr_bl, hne_bl, hne1_bl, hne2_bl.1, hne2_bl.2.1, hne2_bl.2.2.1, hne2_bl.2.2.2.1, hne2_bl.2.2.2.2.1, hne2_bl.2.2.2.2.2.1, hne2_bl.2.2.2.2.2.2.1, hne2_bl.2.2.2.2.2.2.2.1, hne2_bl.2.2.2.2.2.2.2.2.1, hne2_bl.2.2.2.2.2.2.2.2.2.1, hne2_bl.2.2.2.2.2.2.2.2.2.2, ite_self]
  (refine Out.plain hwf0 ?_ rfl ?_; (repeat first | exact Sub.refl _ | refine Sub.push hwf0 ?_ _ | refine Sub.set hwf0 ?_ (by first | exact Nat.le_refl _ | omega | (simp only [push_n, set_n, kill_n]; omega)) _ | refine Sub.kill hwf0 ?_ (by first | exact Nat.le_refl _ | omega | (simp only [push_n, set_n, kill_n]; omega))); exact hs0); exact h

theorem laws_FnPrintings_p12 {H0 H : AHeap} {K : AV → AHeap → Prop} {b_code i_code : Nat} {k_code : ABlk} {code : List UInt8} (hwf0 : H0.WF) (hs0 : Sub H0 H) (hwf : H.WF) (hat0_code : eU.At H0 b_code i_code k_code code) (h : K (.c (.bool true)) H0) (hcl : code.length ≤ 65536) {bl : Nat} {ps : List Pr} (hpl : ps.length ≤ 14) (hr_bl : H.b bl = some (rowK ePr 35 ps)) (hx_bl : H0.n ≤ bl) {F : AFrame} (hF : F.keep [0, 3] = [(0, .c (.sl b_code i_code code.length)), (3, .c (.sl (bl) (0) (ps.length)))]) : avc Try.prog [(4, q_rBig), (5, q_DCb), (6, q_cb), (7, q_cb), (8, q_rInts), (9, q_eu), (10, q_eu), (11, q_rHas), (12, q_ch), (13, q_DCh), (14, q_ch), (15, q_DSh), (16, q_sh), (17, q_sh), (18, q_sb), (19, q_DSb), (20, q_sb), (21, q_arePr), (22, q_arePr)] 330 H0.n laws_FnPrintings_t12 F H (endK Try.prog H0.n [.tmp 2] K) := by
  refine (show avc _ _ _ _ _ _ _ _ = _ from avc_cut _ _).mpr ?_
  rw [hF]
  have hat_code : eU.At H b_code i_code k_code code := ⟨hs0.1.2 _ _ hat0_code.blk, hat0_code.esz, hat0_code.len, hat0_code.els⟩
  have hE := soundE_cons laws_rBig_s (soundE_cons spec_DrawCanBeOf_s (soundE_cons impl_CanBeOf_s (soundE_cons spec_CanBeOf_s (soundE_cons laws_rInts_s (soundE_cons impl_EarliestUse_s (soundE_cons spec_EarliestUse_s (soundE_cons laws_rHas_s (soundE_cons impl_ChanceOf_s (soundE_cons spec_DrawChanceOf_s (soundE_cons spec_ChanceOf_s (soundE_cons spec_DrawShareOfSheets_s (soundE_cons impl_ShareOfSheets_s (soundE_cons spec_ShareOfSheets_s (soundE_cons impl_SheetsBy_s (soundE_cons spec_DrawSheetsBy_s (soundE_cons spec_SheetsBy_s (soundE_cons impl_ArePrintings_s (soundE_cons spec_ArePrintings_s (soundE_nil (P := Try.prog))))))))))))))))))))
  have hn0 : H0.n ≤ H.n := hs0.1.1
  have hb_code : b_code < H.n := (hwf b_code k_code hat_code.blk).1
  have hne_code : (b_code = H.n) = False := eq_false (by omega)
  have hne1_code : ∀ i, (b_code = H.n + i) = False := fun i => eq_false (by omega)
  have hne2_code : (b_code = H.n + 1 + 1) = False ∧ (b_code = H.n + 1 + 1 + 1) = False ∧ (b_code = H.n + 1 + 1 + 1 + 1) = False ∧ (b_code = H.n + 1 + 1 + 1 + 1 + 1) = False ∧ (b_code = H.n + 1 + 1 + 1 + 1 + 1 + 1) = False ∧ (b_code = H.n + 1 + 1 + 1 + 1 + 1 + 1 + 1) = False ∧ (b_code = H.n + 1 + 1 + 1 + 1 + 1 + 1 + 1 + 1) = False ∧ (b_code = H.n + 1 + 1 + 1 + 1 + 1 + 1 + 1 + 1 + 1) = False ∧ (b_code = H.n + 1 + 1 + 1 + 1 + 1 + 1 + 1 + 1 + 1 + 1) = False ∧ (b_code = H.n + 1 + 1 + 1 + 1 + 1 + 1 + 1 + 1 + 1 + 1 + 1) = False ∧ (b_code = H.n + 1 + 1 + 1 + 1 + 1 + 1 + 1 + 1 + 1 + 1 + 1 + 1) = False := ⟨eq_false (by omega), eq_false (by omega), eq_false (by omega), eq_false (by omega), eq_false (by omega), eq_false (by omega), eq_false (by omega), eq_false (by omega), eq_false (by omega), eq_false (by omega), eq_false (by omega)⟩
  have hmx_code : code.length ≤ 9223372036854775807 := by have h1 := (hwf b_code k_code hat_code.blk).2.2; have h2 := hat_code.len; omega
  have hl0_code : b_code < H.n := by omega
  have hl1_code : b_code < H.n + 1 := by omega
  have hl2_code : b_code < H.n + 1 + 1 := by omega
  have hl3_code : b_code < H.n + 1 + 1 + 1 := by omega
  have hl4_code : b_code < H.n + 1 + 1 + 1 + 1 := by omega
  have hl5_code : b_code < H.n + 1 + 1 + 1 + 1 + 1 := by omega
  have hl6_code : b_code < H.n + 1 + 1 + 1 + 1 + 1 + 1 := by omega
  have hl7_code : b_code < H.n + 1 + 1 + 1 + 1 + 1 + 1 + 1 := by omega
  have hb_bl : bl < H.n := (hwf bl _ hr_bl).1
  have hne_bl : (bl = H.n) = False := eq_false (by omega)
  have hne1_bl : ∀ i, (bl = H.n + i) = False := fun i => eq_false (by omega)
  have hne2_bl : (bl = H.n + 1 + 1) = False ∧ (bl = H.n + 1 + 1 + 1) = False ∧ (bl = H.n + 1 + 1 + 1 + 1) = False ∧ (bl = H.n + 1 + 1 + 1 + 1 + 1) = False ∧ (bl = H.n + 1 + 1 + 1 + 1 + 1 + 1) = False ∧ (bl = H.n + 1 + 1 + 1 + 1 + 1 + 1 + 1) = False ∧ (bl = H.n + 1 + 1 + 1 + 1 + 1 + 1 + 1 + 1) = False ∧ (bl = H.n + 1 + 1 + 1 + 1 + 1 + 1 + 1 + 1 + 1) = False ∧ (bl = H.n + 1 + 1 + 1 + 1 + 1 + 1 + 1 + 1 + 1 + 1) = False ∧ (bl = H.n + 1 + 1 + 1 + 1 + 1 + 1 + 1 + 1 + 1 + 1 + 1) = False ∧ (bl = H.n + 1 + 1 + 1 + 1 + 1 + 1 + 1 + 1 + 1 + 1 + 1 + 1) = False := ⟨eq_false (by omega), eq_false (by omega), eq_false (by omega), eq_false (by omega), eq_false (by omega), eq_false (by omega), eq_false (by omega), eq_false (by omega), eq_false (by omega), eq_false (by omega), eq_false (by omega)⟩
  have hl0_bl : bl < H.n := by omega
  have hl1_bl : bl < H.n + 1 := by omega
  have hl2_bl : bl < H.n + 1 + 1 := by omega
  have hl3_bl : bl < H.n + 1 + 1 + 1 := by omega
  have hl4_bl : bl < H.n + 1 + 1 + 1 + 1 := by omega
  have hl5_bl : bl < H.n + 1 + 1 + 1 + 1 + 1 := by omega
  have hl6_bl : bl < H.n + 1 + 1 + 1 + 1 + 1 + 1 := by omega
  have hl7_bl : bl < H.n + 1 + 1 + 1 + 1 + 1 + 1 + 1 := by omega
  simp (config := {contextual := true, implicitDefEqProofs := false, maxSteps := 2000000}) [-Int.not_le, -Int.not_lt, argsF, laws_FnPrintings_t12, laws_FnPrintings_t13, laws_FnPrintings_t14, laws_FnPrintings_t15, hat_code.blk, hat_code.esz, hat_code.len, hat_code.els, hne_code, hne1_code, hne2_code.1, hne2_code.2.1, hne2_code.2.2.1, hne2_code.2.2.2.1, hne2_code.2.2.2.2.1, hne2_code.2.2.2.2.2.1, hne2_code.2.2.2.2.2.2.1, hne2_code.2.2.2.2.2.2.2.1, hne2_code.2.2.2.2.2.2.2.2.1, hne2_code.2.2.2.2.2.2.2.2.2.1, hne2_code.2.2.2.2.2.2.2.2.2.2, rowK, Enc.decL_map, hcl, hr_bl, hne_bl, hne1_bl, hne2_bl.1, hne2_bl.2.1, hne2_bl.2.2.1, hne2_bl.2.2.2.1, hne2_bl.2.2.2.2.1, hne2_bl.2.2.2.2.2.1, hne2_bl.2.2.2.2.2.2.1, hne2_bl.2.2.2.2.2.2.2.1, hne2_bl.2.2.2.2.2.2.2.2.1, hne2_bl.2.2.2.2.2.2.2.2.2.1, hne2_bl.2.2.2.2.2.2.2.2.2.2]
  refine Stop.mk fun us nu hul => ?_
  by_cases hsh : (shRes us nu).2.2 = true
  rotate_left
  · have hsh' : (shRes us nu).2.2 = false := by simpa using hsh
    simp (config := {contextual := true, implicitDefEqProofs := false, maxSteps := 2000000}) [-Int.not_le, -Int.not_lt, argsF, laws_FnPrintings_t12, laws_FnPrintings_t13, laws_FnPrintings_t14, laws_FnPrintings_t15, hat_code.blk, hat_code.esz, hat_code.len, hat_code.els, hne_code, hne1_code, hne2_code.1, hne2_code.2.1, hne2_code.2.2.1, hne2_code.2.2.2.1, hne2_code.2.2.2.2.1, hne2_code.2.2.2.2.2.1, hne2_code.2.2.2.2.2.2.1, hne2_code.2.2.2.2.2.2.2.1, hne2_code.2.2.2.2.2.2.2.2.1, hne2_code.2.2.2.2.2.2.2.2.2.1, hne2_code.2.2.2.2.2.2.2.2.2.2, rowK, Enc.decL_map, hcl, hr_bl, hne_bl, hne1_bl, hne2_bl.1, hne2_bl.2.1, hne2_bl.2.2.1, hne2_bl.2.2.2.1, hne2_bl.2.2.2.2.1, hne2_bl.2.2.2.2.2.1, hne2_bl.2.2.2.2.2.2.1, hne2_bl.2.2.2.2.2.2.2.1, hne2_bl.2.2.2.2.2.2.2.2.1, hne2_bl.2.2.2.2.2.2.2.2.2.1, hne2_bl.2.2.2.2.2.2.2.2.2.2, hsh', ite_self]
    exact laws_FnPrintings_p16 hwf0 (by (repeat first | exact Sub.refl _ | refine Sub.push hwf0 ?_ _ | refine Sub.set hwf0 ?_ (by first | exact Nat.le_refl _ | omega | (simp only [push_n, set_n, kill_n]; omega)) _ | refine Sub.kill hwf0 ?_ (by first | exact Nat.le_refl _ | omega | (simp only [push_n, set_n, kill_n]; omega))); exact hs0) (by repeat first | exact hwf | refine WF.push ?_ (plain_map (fun _ => rfl) _) (by first | (simp; done) | (simp; omega))) hat0_code h hcl hpl (by simp [push_b, set_b, kill_b, hat_code.blk, hat_code.esz, hat_code.len, hat_code.els, hne_code, hne1_code, hne2_code.1, hne2_code.2.1, hne2_code.2.2.1, hne2_code.2.2.2.1, hne2_code.2.2.2.2.1, hne2_code.2.2.2.2.2.1, hne2_code.2.2.2.2.2.2.1, hne2_code.2.2.2.2.2.2.2.1, hne2_code.2.2.2.2.2.2.2.2.1, hne2_code.2.2.2.2.2.2.2.2.2.1, hne2_code.2.2.2.2.2.2.2.2.2.2, rowK, Enc.decL_map, hcl, hr_bl, hne_bl, hne1_bl, hne2_bl.1, hne2_bl.2.1, hne2_bl.2.2.1, hne2_bl.2.2.2.1, hne2_bl.2.2.2.2.1, hne2_bl.2.2.2.2.2.1, hne2_bl.2.2.2.2.2.2.1, hne2_bl.2.2.2.2.2.2.2.1, hne2_bl.2.2.2.2.2.2.2.2.1, hne2_bl.2.2.2.2.2.2.2.2.2.1, hne2_bl.2.2.2.2.2.2.2.2.2.2]; done) hx_bl rfl
  · have hsb := (sh_all hsh).1
    have hsa := (sh_all hsh).2
    simp (config := {contextual := true, implicitDefEqProofs := false, maxSteps := 2000000}) [-Int.not_le, -Int.not_lt, argsF, laws_FnPrintings_t12, laws_FnPrintings_t13, laws_FnPrintings_t14, laws_FnPrintings_t15, hat_code.blk, hat_code.esz, hat_code.len, hat_code.els, hne_code, hne1_code, hne2_code.1, hne2_code.2.1, hne2_code.2.2.1, hne2_code.2.2.2.1, hne2_code.2.2.2.2.1, hne2_code.2.2.2.2.2.1, hne2_code.2.2.2.2.2.2.1, hne2_code.2.2.2.2.2.2.2.1, hne2_code.2.2.2.2.2.2.2.2.1, hne2_code.2.2.2.2.2.2.2.2.2.1, hne2_code.2.2.2.2.2.2.2.2.2.2, rowK, Enc.decL_map, hcl, hr_bl, hne_bl, hne1_bl, hne2_bl.1, hne2_bl.2.1, hne2_bl.2.2.1, hne2_bl.2.2.2.1, hne2_bl.2.2.2.2.1, hne2_bl.2.2.2.2.2.1, hne2_bl.2.2.2.2.2.2.1, hne2_bl.2.2.2.2.2.2.2.1, hne2_bl.2.2.2.2.2.2.2.2.1, hne2_bl.2.2.2.2.2.2.2.2.2.1, hne2_bl.2.2.2.2.2.2.2.2.2.2, hsh, hsb, ite_self]
    clear hsb
    generalize (shRes us nu).1 = sa at hsa ⊢
    generalize (shRes us nu).2.1 = sb at hsa ⊢
    refine aloop_heap (X := Nat) (fun j => [(0, .c (.sl b_code i_code code.length)), (3, .c (.sl (bl) (0) (ps.length))), (30, .c (.sl (H.n) (0) (us.length))), (31, .c (.int .i64 (nu))), (32, .c (.int .i64 (sa))), (33, .c (.int .i64 (sb))), (38, .c (.int .i64 (sumAll us 0))), (39, .c (.bool (true))), (40, .c (.int .i64 ((j : Int))))]) (fun _ => _) (fun j => j ≤ us.length) (fun j => us.length - j) hE _ 0 (Nat.zero_le _) (fun hw0 => .since (by first | omega | (simp only [push_n, set_n, kill_n]; omega)) hw0 (.refl _) (by simp [frOk, AV.okR, AV.ok1, AC.okR, AV.ren, AV.ren1, AC.ren, AFrame.get, pl1_old, hl0_code, hl1_code, hl2_code, hl3_code, hl4_code, hl5_code, hl6_code, hl7_code, hl0_bl, hl1_bl, hl2_bl, hl3_bl, hl4_bl, hl5_bl, hl6_bl, hl7_bl]; first | done | omega)) (fun j hj hwx => ?_)
    by_cases hlt : j < us.length
    · have hj1 := idx_lt hlt
      have w1 : IntKind.i64.wrap ((j : Int) + 1) = (j : Int) + 1 := wrap_id (by omega) (by omega)
      have hcg : us[j]? = some us[j] := List.getElem?_eq_getElem hlt
      by_cases hc : us[j].num = nu
      · have hs2 := hsa j hlt hc
        clear hsa
        simp (config := {contextual := true, implicitDefEqProofs := false, maxSteps := 2000000}) [-Int.not_le, -Int.not_lt, argsF, laws_FnPrintings_l2, hat_code.blk, hat_code.esz, hat_code.len, hat_code.els, hne_code, hne1_code, hne2_code.1, hne2_code.2.1, hne2_code.2.2.1, hne2_code.2.2.2.1, hne2_code.2.2.2.2.1, hne2_code.2.2.2.2.2.1, hne2_code.2.2.2.2.2.2.1, hne2_code.2.2.2.2.2.2.2.1, hne2_code.2.2.2.2.2.2.2.2.1, hne2_code.2.2.2.2.2.2.2.2.2.1, hne2_code.2.2.2.2.2.2.2.2.2.2, rowK, Enc.decL_map, hcl, hr_bl, hne_bl, hne1_bl, hne2_bl.1, hne2_bl.2.1, hne2_bl.2.2.1, hne2_bl.2.2.2.1, hne2_bl.2.2.2.2.1, hne2_bl.2.2.2.2.2.1, hne2_bl.2.2.2.2.2.2.1, hne2_bl.2.2.2.2.2.2.2.1, hne2_bl.2.2.2.2.2.2.2.2.1, hne2_bl.2.2.2.2.2.2.2.2.2.1, hne2_bl.2.2.2.2.2.2.2.2.2.2, hj1, w1, hcg, hlt, hc, hs2]
        exact ⟨fun hw => ⟨j + 1, by omega, by omega, .since (by first | omega | (simp only [push_n, set_n, kill_n]; omega)) hw (.refl _) (by simp [frOk, AV.okR, AV.ok1, AC.okR, AV.ren, AV.ren1, AC.ren, AFrame.get, pl1_old, hl0_code, hl1_code, hl2_code, hl3_code, hl4_code, hl5_code, hl6_code, hl7_code, hl0_bl, hl1_bl, hl2_bl, hl3_bl, hl4_bl, hl5_bl, hl6_bl, hl7_bl]; first | done | omega)⟩⟩
      · clear hsa
        simp (config := {contextual := true, implicitDefEqProofs := false, maxSteps := 2000000}) [-Int.not_le, -Int.not_lt, argsF, laws_FnPrintings_l2, hat_code.blk, hat_code.esz, hat_code.len, hat_code.els, hne_code, hne1_code, hne2_code.1, hne2_code.2.1, hne2_code.2.2.1, hne2_code.2.2.2.1, hne2_code.2.2.2.2.1, hne2_code.2.2.2.2.2.1, hne2_code.2.2.2.2.2.2.1, hne2_code.2.2.2.2.2.2.2.1, hne2_code.2.2.2.2.2.2.2.2.1, hne2_code.2.2.2.2.2.2.2.2.2.1, hne2_code.2.2.2.2.2.2.2.2.2.2, rowK, Enc.decL_map, hcl, hr_bl, hne_bl, hne1_bl, hne2_bl.1, hne2_bl.2.1, hne2_bl.2.2.1, hne2_bl.2.2.2.1, hne2_bl.2.2.2.2.1, hne2_bl.2.2.2.2.2.1, hne2_bl.2.2.2.2.2.2.1, hne2_bl.2.2.2.2.2.2.2.1, hne2_bl.2.2.2.2.2.2.2.2.1, hne2_bl.2.2.2.2.2.2.2.2.2.1, hne2_bl.2.2.2.2.2.2.2.2.2.2, hj1, w1, hcg, hlt, hc]
        exact ⟨fun hw => ⟨j + 1, by omega, by omega, .since (by first | omega | (simp only [push_n, set_n, kill_n]; omega)) hw (.refl _) (by simp [frOk, AV.okR, AV.ok1, AC.okR, AV.ren, AV.ren1, AC.ren, AFrame.get, pl1_old, hl0_code, hl1_code, hl2_code, hl3_code, hl4_code, hl5_code, hl6_code, hl7_code, hl0_bl, hl1_bl, hl2_bl, hl3_bl, hl4_bl, hl5_bl, hl6_bl, hl7_bl]; first | done | omega)⟩⟩
    · have hj0 : j = us.length := by omega
      clear hsa
      subst hj0
      simp (config := {contextual := true, implicitDefEqProofs := false, maxSteps := 2000000}) [-Int.not_le, -Int.not_lt, argsF, laws_FnPrintings_l2, hat_code.blk, hat_code.esz, hat_code.len, hat_code.els, hne_code, hne1_code, hne2_code.1, hne2_code.2.1, hne2_code.2.2.1, hne2_code.2.2.2.1, hne2_code.2.2.2.2.1, hne2_code.2.2.2.2.2.1, hne2_code.2.2.2.2.2.2.1, hne2_code.2.2.2.2.2.2.2.1, hne2_code.2.2.2.2.2.2.2.2.1, hne2_code.2.2.2.2.2.2.2.2.2.1, hne2_code.2.2.2.2.2.2.2.2.2.2, rowK, Enc.decL_map, hcl, hr_bl, hne_bl, hne1_bl, hne2_bl.1, hne2_bl.2.1, hne2_bl.2.2.1, hne2_bl.2.2.2.1, hne2_bl.2.2.2.2.1, hne2_bl.2.2.2.2.2.1, hne2_bl.2.2.2.2.2.2.1, hne2_bl.2.2.2.2.2.2.2.1, hne2_bl.2.2.2.2.2.2.2.2.1, hne2_bl.2.2.2.2.2.2.2.2.2.1, hne2_bl.2.2.2.2.2.2.2.2.2.2, ite_self]
      exact laws_FnPrintings_p16 hwf0 (by (repeat first | exact Sub.refl _ | refine Sub.push hwf0 ?_ _ | refine Sub.set hwf0 ?_ (by first | exact Nat.le_refl _ | omega | (simp only [push_n, set_n, kill_n]; omega)) _ | refine Sub.kill hwf0 ?_ (by first | exact Nat.le_refl _ | omega | (simp only [push_n, set_n, kill_n]; omega))); exact hs0) (by repeat first | exact hwf | refine WF.push ?_ (plain_map (fun _ => rfl) _) (by first | (simp; done) | (simp; omega))) hat0_code h hcl hpl (by simp [push_b, set_b, kill_b, hat_code.blk, hat_code.esz, hat_code.len, hat_code.els, hne_code, hne1_code, hne2_code.1, hne2_code.2.1, hne2_code.2.2.1, hne2_code.2.2.2.1, hne2_code.2.2.2.2.1, hne2_code.2.2.2.2.2.1, hne2_code.2.2.2.2.2.2.1, hne2_code.2.2.2.2.2.2.2.1, hne2_code.2.2.2.2.2.2.2.2.1, hne2_code.2.2.2.2.2.2.2.2.2.1, hne2_code.2.2.2.2.2.2.2.2.2.2, rowK, Enc.decL_map, hcl, hr_bl, hne_bl, hne1_bl, hne2_bl.1, hne2_bl.2.1, hne2_bl.2.2.1, hne2_bl.2.2.2.1, hne2_bl.2.2.2.2.1, hne2_bl.2.2.2.2.2.1, hne2_bl.2.2.2.2.2.2.1, hne2_bl.2.2.2.2.2.2.2.1, hne2_bl.2.2.2.2.2.2.2.2.1, hne2_bl.2.2.2.2.2.2.2.2.2.1, hne2_bl.2.2.2.2.2.2.2.2.2.2]; done) hx_bl rfl

theorem laws_FnPrintings_p9 {H0 H : AHeap} {K : AV → AHeap → Prop} {b_code i_code : Nat} {k_code : ABlk} {code : List UInt8} (hwf0 : H0.WF) (hs0 : Sub H0 H) (hwf : H.WF) (hat0_code : eU.At H0 b_code i_code k_code code) (h : K (.c (.bool true)) H0) (hcl : code.length ≤ 65536) {bl : Nat} {ps : List Pr} (hpl : ps.length ≤ 14) (hr_bl : H.b bl = some (rowK ePr 35 ps)) (hx_bl : H0.n ≤ bl) {F : AFrame} (hF : F.keep [0, 3] = [(0, .c (.sl b_code i_code code.length)), (3, .c (.sl (bl) (0) (ps.length)))]) : avc Try.prog [(4, q_rBig), (5, q_DCb), (6, q_cb), (7, q_cb), (8, q_rInts), (9, q_eu), (10, q_eu), (11, q_rHas), (12, q_ch), (13, q_DCh), (14, q_ch), (15, q_DSh), (16, q_sh), (17, q_sh), (18, q_sb), (19, q_DSb), (20, q_sb), (21, q_arePr), (22, q_arePr)] 330 H0.n laws_FnPrintings_t9 F H (endK Try.prog H0.n [.tmp 2] K) := by
  refine (show avc _ _ _ _ _ _ _ _ = _ from avc_cut _ _).mpr ?_
  rw [hF]
  have hat_code : eU.At H b_code i_code k_code code := ⟨hs0.1.2 _ _ hat0_code.blk, hat0_code.esz, hat0_code.len, hat0_code.els⟩
  have hE := soundE_cons laws_rBig_s (soundE_cons spec_DrawCanBeOf_s (soundE_cons impl_CanBeOf_s (soundE_cons spec_CanBeOf_s (soundE_cons laws_rInts_s (soundE_cons impl_EarliestUse_s (soundE_cons spec_EarliestUse_s (soundE_cons laws_rHas_s (soundE_cons impl_ChanceOf_s (soundE_cons spec_DrawChanceOf_s (soundE_cons spec_ChanceOf_s (soundE_cons spec_DrawShareOfSheets_s (soundE_cons impl_ShareOfSheets_s (soundE_cons spec_ShareOfSheets_s (soundE_cons impl_SheetsBy_s (soundE_cons spec_DrawSheetsBy_s (soundE_cons spec_SheetsBy_s (soundE_cons impl_ArePrintings_s (soundE_cons spec_ArePrintings_s (soundE_nil (P := Try.prog))))))))))))))))))))
  have hn0 : H0.n ≤ H.n := hs0.1.1
  have hb_code : b_code < H.n := (hwf b_code k_code hat_code.blk).1
  have hne_code : (b_code = H.n) = False := eq_false (by omega)
  have hne1_code : ∀ i, (b_code = H.n + i) = False := fun i => eq_false (by omega)
  have hne2_code : (b_code = H.n + 1 + 1) = False ∧ (b_code = H.n + 1 + 1 + 1) = False ∧ (b_code = H.n + 1 + 1 + 1 + 1) = False ∧ (b_code = H.n + 1 + 1 + 1 + 1 + 1) = False ∧ (b_code = H.n + 1 + 1 + 1 + 1 + 1 + 1) = False ∧ (b_code = H.n + 1 + 1 + 1 + 1 + 1 + 1 + 1) = False ∧ (b_code = H.n + 1 + 1 + 1 + 1 + 1 + 1 + 1 + 1) = False ∧ (b_code = H.n + 1 + 1 + 1 + 1 + 1 + 1 + 1 + 1 + 1) = False ∧ (b_code = H.n + 1 + 1 + 1 + 1 + 1 + 1 + 1 + 1 + 1 + 1) = False ∧ (b_code = H.n + 1 + 1 + 1 + 1 + 1 + 1 + 1 + 1 + 1 + 1 + 1) = False ∧ (b_code = H.n + 1 + 1 + 1 + 1 + 1 + 1 + 1 + 1 + 1 + 1 + 1 + 1) = False := ⟨eq_false (by omega), eq_false (by omega), eq_false (by omega), eq_false (by omega), eq_false (by omega), eq_false (by omega), eq_false (by omega), eq_false (by omega), eq_false (by omega), eq_false (by omega), eq_false (by omega)⟩
  have hmx_code : code.length ≤ 9223372036854775807 := by have h1 := (hwf b_code k_code hat_code.blk).2.2; have h2 := hat_code.len; omega
  have hl0_code : b_code < H.n := by omega
  have hl1_code : b_code < H.n + 1 := by omega
  have hl2_code : b_code < H.n + 1 + 1 := by omega
  have hl3_code : b_code < H.n + 1 + 1 + 1 := by omega
  have hl4_code : b_code < H.n + 1 + 1 + 1 + 1 := by omega
  have hl5_code : b_code < H.n + 1 + 1 + 1 + 1 + 1 := by omega
  have hl6_code : b_code < H.n + 1 + 1 + 1 + 1 + 1 + 1 := by omega
  have hl7_code : b_code < H.n + 1 + 1 + 1 + 1 + 1 + 1 + 1 := by omega
  have hb_bl : bl < H.n := (hwf bl _ hr_bl).1
  have hne_bl : (bl = H.n) = False := eq_false (by omega)
  have hne1_bl : ∀ i, (bl = H.n + i) = False := fun i => eq_false (by omega)
  have hne2_bl : (bl = H.n + 1 + 1) = False ∧ (bl = H.n + 1 + 1 + 1) = False ∧ (bl = H.n + 1 + 1 + 1 + 1) = False ∧ (bl = H.n + 1 + 1 + 1 + 1 + 1) = False ∧ (bl = H.n + 1 + 1 + 1 + 1 + 1 + 1) = False ∧ (bl = H.n + 1 + 1 + 1 + 1 + 1 + 1 + 1) = False ∧ (bl = H.n + 1 + 1 + 1 + 1 + 1 + 1 + 1 + 1) = False ∧ (bl = H.n + 1 + 1 + 1 + 1 + 1 + 1 + 1 + 1 + 1) = False ∧ (bl = H.n + 1 + 1 + 1 + 1 + 1 + 1 + 1 + 1 + 1 + 1) = False ∧ (bl = H.n + 1 + 1 + 1 + 1 + 1 + 1 + 1 + 1 + 1 + 1 + 1) = False ∧ (bl = H.n + 1 + 1 + 1 + 1 + 1 + 1 + 1 + 1 + 1 + 1 + 1 + 1) = False := ⟨eq_false (by omega), eq_false (by omega), eq_false (by omega), eq_false (by omega), eq_false (by omega), eq_false (by omega), eq_false (by omega), eq_false (by omega), eq_false (by omega), eq_false (by omega), eq_false (by omega)⟩
  have hl0_bl : bl < H.n := by omega
  have hl1_bl : bl < H.n + 1 := by omega
  have hl2_bl : bl < H.n + 1 + 1 := by omega
  have hl3_bl : bl < H.n + 1 + 1 + 1 := by omega
  have hl4_bl : bl < H.n + 1 + 1 + 1 + 1 := by omega
  have hl5_bl : bl < H.n + 1 + 1 + 1 + 1 + 1 := by omega
  have hl6_bl : bl < H.n + 1 + 1 + 1 + 1 + 1 + 1 := by omega
  have hl7_bl : bl < H.n + 1 + 1 + 1 + 1 + 1 + 1 + 1 := by omega
  simp (config := {contextual := true, implicitDefEqProofs := false, maxSteps := 2000000}) [-Int.not_le, -Int.not_lt, argsF, laws_FnPrintings_t9, laws_FnPrintings_t10, laws_FnPrintings_t11, hat_code.blk, hat_code.esz, hat_code.len, hat_code.els, hne_code, hne1_code, hne2_code.1, hne2_code.2.1, hne2_code.2.2.1, hne2_code.2.2.2.1, hne2_code.2.2.2.2.1, hne2_code.2.2.2.2.2.1, hne2_code.2.2.2.2.2.2.1, hne2_code.2.2.2.2.2.2.2.1, hne2_code.2.2.2.2.2.2.2.2.1, hne2_code.2.2.2.2.2.2.2.2.2.1, hne2_code.2.2.2.2.2.2.2.2.2.2, rowK, Enc.decL_map, hcl, hr_bl, hne_bl, hne1_bl, hne2_bl.1, hne2_bl.2.1, hne2_bl.2.2.1, hne2_bl.2.2.2.1, hne2_bl.2.2.2.2.1, hne2_bl.2.2.2.2.2.1, hne2_bl.2.2.2.2.2.2.1, hne2_bl.2.2.2.2.2.2.2.1, hne2_bl.2.2.2.2.2.2.2.2.1, hne2_bl.2.2.2.2.2.2.2.2.2.1, hne2_bl.2.2.2.2.2.2.2.2.2.2]
  refine Stop.mk fun qs nq dq tq hql => ?_
  simp (config := {contextual := true, implicitDefEqProofs := false, maxSteps := 2000000}) [-Int.not_le, -Int.not_lt, argsF, laws_FnPrintings_t9, laws_FnPrintings_t10, laws_FnPrintings_t11, hat_code.blk, hat_code.esz, hat_code.len, hat_code.els, hne_code, hne1_code, hne2_code.1, hne2_code.2.1, hne2_code.2.2.1, hne2_code.2.2.2.1, hne2_code.2.2.2.2.1, hne2_code.2.2.2.2.2.1, hne2_code.2.2.2.2.2.2.1, hne2_code.2.2.2.2.2.2.2.1, hne2_code.2.2.2.2.2.2.2.2.1, hne2_code.2.2.2.2.2.2.2.2.2.1, hne2_code.2.2.2.2.2.2.2.2.2.2, rowK, Enc.decL_map, hcl, hr_bl, hne_bl, hne1_bl, hne2_bl.1, hne2_bl.2.1, hne2_bl.2.2.1, hne2_bl.2.2.2.1, hne2_bl.2.2.2.2.1, hne2_bl.2.2.2.2.2.1, hne2_bl.2.2.2.2.2.2.1, hne2_bl.2.2.2.2.2.2.2.1, hne2_bl.2.2.2.2.2.2.2.2.1, hne2_bl.2.2.2.2.2.2.2.2.2.1, hne2_bl.2.2.2.2.2.2.2.2.2.2, ite_self]
  exact laws_FnPrintings_p12 hwf0 (by (repeat first | exact Sub.refl _ | refine Sub.push hwf0 ?_ _ | refine Sub.set hwf0 ?_ (by first | exact Nat.le_refl _ | omega | (simp only [push_n, set_n, kill_n]; omega)) _ | refine Sub.kill hwf0 ?_ (by first | exact Nat.le_refl _ | omega | (simp only [push_n, set_n, kill_n]; omega))); exact hs0) (by repeat first | exact hwf | refine WF.push ?_ (plain_map (fun _ => rfl) _) (by first | (simp; done) | (simp; omega))) hat0_code h hcl hpl (by simp [push_b, set_b, kill_b, hat_code.blk, hat_code.esz, hat_code.len, hat_code.els, hne_code, hne1_code, hne2_code.1, hne2_code.2.1, hne2_code.2.2.1, hne2_code.2.2.2.1, hne2_code.2.2.2.2.1, hne2_code.2.2.2.2.2.1, hne2_code.2.2.2.2.2.2.1, hne2_code.2.2.2.2.2.2.2.1, hne2_code.2.2.2.2.2.2.2.2.1, hne2_code.2.2.2.2.2.2.2.2.2.1, hne2_code.2.2.2.2.2.2.2.2.2.2, rowK, Enc.decL_map, hcl, hr_bl, hne_bl, hne1_bl, hne2_bl.1, hne2_bl.2.1, hne2_bl.2.2.1, hne2_bl.2.2.2.1, hne2_bl.2.2.2.2.1, hne2_bl.2.2.2.2.2.1, hne2_bl.2.2.2.2.2.2.1, hne2_bl.2.2.2.2.2.2.2.1, hne2_bl.2.2.2.2.2.2.2.2.1, hne2_bl.2.2.2.2.2.2.2.2.2.1, hne2_bl.2.2.2.2.2.2.2.2.2.2]; done) hx_bl rfl

theorem laws_FnPrintings_loop0 {H0 H : AHeap} {b_code i_code : Nat} {k_code : ABlk} {code : List UInt8} (hwf0 : H0.WF) (hs0 : Sub H0 H) (hwf : H.WF) (hat0_code : eU.At H0 b_code i_code k_code code) {ps : List Pr} {bl : Nat} {d t : Int} {bs : Nat} (hhas : ∀ (j : Nat) (hj : j < ps.length), ((cbRes ps d t).1.any fun x => decide (x = ps[j].num)) = canBe ps[j] d t) (hpl : ps.length ≤ 14) (hr_bl : H.b bl = some (rowK ePr 35 ps)) (hx_bl : H0.n ≤ bl) (hr_bs : H.b bs = some (rowK eI 3 (cbRes ps d t).1)) (hx_bs : H0.n ≤ bs) {Q : Exit → AFrame → AHeap → Prop} (hfin : Q (.exit 0) [(0, .c (.sl b_code i_code code.length)), (3, .c (.sl (bl) (0) (ps.length))), (4, .c (.int .i64 (d))), (5, .c (.int .i64 (t))), (6, .c (.sl (bs) (0) ((cbRes ps d t).1.length))), (14, .c (.int .i64 (chGo d t ps 0))), (15, .c (.int .i64 ((ps.length : Int)))), (120, .c (.bool (false)))] H) : ALoop Try.prog 330 H0.n laws_FnPrintings_l0 [(0, .c (.sl b_code i_code code.length)), (3, .c (.sl (bl) (0) (ps.length))), (4, .c (.int .i64 (d))), (5, .c (.int .i64 (t))), (6, .c (.sl (bs) (0) ((cbRes ps d t).1.length))), (14, .c (.int .i64 (0))), (15, .c (.int .i64 (0)))] H Q := by
  have hat_code : eU.At H b_code i_code k_code code := ⟨hs0.1.2 _ _ hat0_code.blk, hat0_code.esz, hat0_code.len, hat0_code.els⟩
  have hE := soundE_cons laws_rBig_s (soundE_cons spec_DrawCanBeOf_s (soundE_cons impl_CanBeOf_s (soundE_cons spec_CanBeOf_s (soundE_cons laws_rInts_s (soundE_cons impl_EarliestUse_s (soundE_cons spec_EarliestUse_s (soundE_cons laws_rHas_s (soundE_cons impl_ChanceOf_s (soundE_cons spec_DrawChanceOf_s (soundE_cons spec_ChanceOf_s (soundE_cons spec_DrawShareOfSheets_s (soundE_cons impl_ShareOfSheets_s (soundE_cons spec_ShareOfSheets_s (soundE_cons impl_SheetsBy_s (soundE_cons spec_DrawSheetsBy_s (soundE_cons spec_SheetsBy_s (soundE_cons impl_ArePrintings_s (soundE_cons spec_ArePrintings_s (soundE_nil (P := Try.prog))))))))))))))))))))
  have hn0 : H0.n ≤ H.n := hs0.1.1
  have hb_code : b_code < H.n := (hwf b_code k_code hat_code.blk).1
  have hne_code : (b_code = H.n) = False := eq_false (by omega)
  have hne1_code : ∀ i, (b_code = H.n + i) = False := fun i => eq_false (by omega)
  have hne2_code : (b_code = H.n + 1 + 1) = False ∧ (b_code = H.n + 1 + 1 + 1) = False ∧ (b_code = H.n + 1 + 1 + 1 + 1) = False ∧ (b_code = H.n + 1 + 1 + 1 + 1 + 1) = False ∧ (b_code = H.n + 1 + 1 + 1 + 1 + 1 + 1) = False ∧ (b_code = H.n + 1 + 1 + 1 + 1 + 1 + 1 + 1) = False ∧ (b_code = H.n + 1 + 1 + 1 + 1 + 1 + 1 + 1 + 1) = False ∧ (b_code = H.n + 1 + 1 + 1 + 1 + 1 + 1 + 1 + 1 + 1) = False ∧ (b_code = H.n + 1 + 1 + 1 + 1 + 1 + 1 + 1 + 1 + 1 + 1) = False ∧ (b_code = H.n + 1 + 1 + 1 + 1 + 1 + 1 + 1 + 1 + 1 + 1 + 1) = False ∧ (b_code = H.n + 1 + 1 + 1 + 1 + 1 + 1 + 1 + 1 + 1 + 1 + 1 + 1) = False := ⟨eq_false (by omega), eq_false (by omega), eq_false (by omega), eq_false (by omega), eq_false (by omega), eq_false (by omega), eq_false (by omega), eq_false (by omega), eq_false (by omega), eq_false (by omega), eq_false (by omega)⟩
  have hmx_code : code.length ≤ 9223372036854775807 := by have h1 := (hwf b_code k_code hat_code.blk).2.2; have h2 := hat_code.len; omega
  have hl0_code : b_code < H.n := by omega
  have hl1_code : b_code < H.n + 1 := by omega
  have hl2_code : b_code < H.n + 1 + 1 := by omega
  have hl3_code : b_code < H.n + 1 + 1 + 1 := by omega
  have hl4_code : b_code < H.n + 1 + 1 + 1 + 1 := by omega
  have hl5_code : b_code < H.n + 1 + 1 + 1 + 1 + 1 := by omega
  have hl6_code : b_code < H.n + 1 + 1 + 1 + 1 + 1 + 1 := by omega
  have hl7_code : b_code < H.n + 1 + 1 + 1 + 1 + 1 + 1 + 1 := by omega
  have hb_bl : bl < H.n := (hwf bl _ hr_bl).1
  have hne_bl : (bl = H.n) = False := eq_false (by omega)
  have hne1_bl : ∀ i, (bl = H.n + i) = False := fun i => eq_false (by omega)
  have hne2_bl : (bl = H.n + 1 + 1) = False ∧ (bl = H.n + 1 + 1 + 1) = False ∧ (bl = H.n + 1 + 1 + 1 + 1) = False ∧ (bl = H.n + 1 + 1 + 1 + 1 + 1) = False ∧ (bl = H.n + 1 + 1 + 1 + 1 + 1 + 1) = False ∧ (bl = H.n + 1 + 1 + 1 + 1 + 1 + 1 + 1) = False ∧ (bl = H.n + 1 + 1 + 1 + 1 + 1 + 1 + 1 + 1) = False ∧ (bl = H.n + 1 + 1 + 1 + 1 + 1 + 1 + 1 + 1 + 1) = False ∧ (bl = H.n + 1 + 1 + 1 + 1 + 1 + 1 + 1 + 1 + 1 + 1) = False ∧ (bl = H.n + 1 + 1 + 1 + 1 + 1 + 1 + 1 + 1 + 1 + 1 + 1) = False ∧ (bl = H.n + 1 + 1 + 1 + 1 + 1 + 1 + 1 + 1 + 1 + 1 + 1 + 1) = False := ⟨eq_false (by omega), eq_false (by omega), eq_false (by omega), eq_false (by omega), eq_false (by omega), eq_false (by omega), eq_false (by omega), eq_false (by omega), eq_false (by omega), eq_false (by omega), eq_false (by omega)⟩
  have hl0_bl : bl < H.n := by omega
  have hl1_bl : bl < H.n + 1 := by omega
  have hl2_bl : bl < H.n + 1 + 1 := by omega
  have hl3_bl : bl < H.n + 1 + 1 + 1 := by omega
  have hl4_bl : bl < H.n + 1 + 1 + 1 + 1 := by omega
  have hl5_bl : bl < H.n + 1 + 1 + 1 + 1 + 1 := by omega
  have hl6_bl : bl < H.n + 1 + 1 + 1 + 1 + 1 + 1 := by omega
  have hl7_bl : bl < H.n + 1 + 1 + 1 + 1 + 1 + 1 + 1 := by omega
  have hb_bs : bs < H.n := (hwf bs _ hr_bs).1
  have hne_bs : (bs = H.n) = False := eq_false (by omega)
  have hne1_bs : ∀ i, (bs = H.n + i) = False := fun i => eq_false (by omega)
  have hne2_bs : (bs = H.n + 1 + 1) = False ∧ (bs = H.n + 1 + 1 + 1) = False ∧ (bs = H.n + 1 + 1 + 1 + 1) = False ∧ (bs = H.n + 1 + 1 + 1 + 1 + 1) = False ∧ (bs = H.n + 1 + 1 + 1 + 1 + 1 + 1) = False ∧ (bs = H.n + 1 + 1 + 1 + 1 + 1 + 1 + 1) = False ∧ (bs = H.n + 1 + 1 + 1 + 1 + 1 + 1 + 1 + 1) = False ∧ (bs = H.n + 1 + 1 + 1 + 1 + 1 + 1 + 1 + 1 + 1) = False ∧ (bs = H.n + 1 + 1 + 1 + 1 + 1 + 1 + 1 + 1 + 1 + 1) = False ∧ (bs = H.n + 1 + 1 + 1 + 1 + 1 + 1 + 1 + 1 + 1 + 1 + 1) = False ∧ (bs = H.n + 1 + 1 + 1 + 1 + 1 + 1 + 1 + 1 + 1 + 1 + 1 + 1) = False := ⟨eq_false (by omega), eq_false (by omega), eq_false (by omega), eq_false (by omega), eq_false (by omega), eq_false (by omega), eq_false (by omega), eq_false (by omega), eq_false (by omega), eq_false (by omega), eq_false (by omega)⟩
  have hl0_bs : bs < H.n := by omega
  have hl1_bs : bs < H.n + 1 := by omega
  have hl2_bs : bs < H.n + 1 + 1 := by omega
  have hl3_bs : bs < H.n + 1 + 1 + 1 := by omega
  have hl4_bs : bs < H.n + 1 + 1 + 1 + 1 := by omega
  have hl5_bs : bs < H.n + 1 + 1 + 1 + 1 + 1 := by omega
  have hl6_bs : bs < H.n + 1 + 1 + 1 + 1 + 1 + 1 := by omega
  have hl7_bs : bs < H.n + 1 + 1 + 1 + 1 + 1 + 1 + 1 := by omega
  refine aloop_list ps (fun j (s : Int) => [(0, .c (.sl b_code i_code code.length)), (3, .c (.sl (bl) (0) (ps.length))), (4, .c (.int .i64 (d))), (5, .c (.int .i64 (t))), (6, .c (.sl (bs) (0) ((cbRes ps d t).1.length))), (14, .c (.int .i64 (s))), (15, .c (.int .i64 ((j : Int))))]) (fun _ _ => H) (fun j l s => chGo d t l s = chGo d t ps 0) hE _ 0 rfl (.since hn0 hwf (.refl _) (by simp [frOk, AV.okR, AV.ok1, AC.okR, AV.ren, AV.ren1, AC.ren, AFrame.get, pl1_old, hl0_code, hl1_code, hl2_code, hl3_code, hl4_code, hl5_code, hl6_code, hl7_code, hl0_bl, hl1_bl, hl2_bl, hl3_bl, hl4_bl, hl5_bl, hl6_bl, hl7_bl, hl0_bs, hl1_bs, hl2_bs, hl3_bs, hl4_bs, hl5_bs, hl6_bs, hl7_bs]; first | done | omega)) (fun j s hlt hs => ?_) fun s hs => ?_
  · have hj1 := idx_lt hlt
    have w1 : IntKind.i64.wrap ((j : Int) + 1) = (j : Int) + 1 := wrap_id (by omega) (by omega)
    have hh := hhas j hlt
    clear hhas
    simp only [chGo] at hs
    by_cases hc : canBe ps[j] d t = true
    · rw [hc] at hh
      rw [if_pos hc] at hs
      simp (config := {contextual := true, implicitDefEqProofs := false, maxSteps := 2000000}) [-Int.not_le, -Int.not_lt, argsF, laws_FnPrintings_l0, hat_code.blk, hat_code.esz, hat_code.len, hat_code.els, hne_code, hne1_code, hne2_code.1, hne2_code.2.1, hne2_code.2.2.1, hne2_code.2.2.2.1, hne2_code.2.2.2.2.1, hne2_code.2.2.2.2.2.1, hne2_code.2.2.2.2.2.2.1, hne2_code.2.2.2.2.2.2.2.1, hne2_code.2.2.2.2.2.2.2.2.1, hne2_code.2.2.2.2.2.2.2.2.2.1, hne2_code.2.2.2.2.2.2.2.2.2.2, rowK, Enc.decL_map, hr_bl, hne_bl, hne1_bl, hne2_bl.1, hne2_bl.2.1, hne2_bl.2.2.1, hne2_bl.2.2.2.1, hne2_bl.2.2.2.2.1, hne2_bl.2.2.2.2.2.1, hne2_bl.2.2.2.2.2.2.1, hne2_bl.2.2.2.2.2.2.2.1, hne2_bl.2.2.2.2.2.2.2.2.1, hne2_bl.2.2.2.2.2.2.2.2.2.1, hne2_bl.2.2.2.2.2.2.2.2.2.2, hr_bs, hne_bs, hne1_bs, hne2_bs.1, hne2_bs.2.1, hne2_bs.2.2.1, hne2_bs.2.2.2.1, hne2_bs.2.2.2.2.1, hne2_bs.2.2.2.2.2.1, hne2_bs.2.2.2.2.2.2.1, hne2_bs.2.2.2.2.2.2.2.1, hne2_bs.2.2.2.2.2.2.2.2.1, hne2_bs.2.2.2.2.2.2.2.2.2.1, hne2_bs.2.2.2.2.2.2.2.2.2.2, hj1, w1, hlt, hh]
      exact ⟨_, hs, .since hn0 hwf (.refl _) (by simp [frOk, AV.okR, AV.ok1, AC.okR, AV.ren, AV.ren1, AC.ren, AFrame.get, pl1_old, hl0_code, hl1_code, hl2_code, hl3_code, hl4_code, hl5_code, hl6_code, hl7_code, hl0_bl, hl1_bl, hl2_bl, hl3_bl, hl4_bl, hl5_bl, hl6_bl, hl7_bl, hl0_bs, hl1_bs, hl2_bs, hl3_bs, hl4_bs, hl5_bs, hl6_bs, hl7_bs]; first | done | omega)⟩
    · have hc' : canBe ps[j] d t = false := by simpa using hc
      rw [hc'] at hh
      rw [if_neg hc] at hs
      simp (config := {contextual := true, implicitDefEqProofs := false, maxSteps := 2000000}) [-Int.not_le, -Int.not_lt, argsF, laws_FnPrintings_l0, hat_code.blk, hat_code.esz, hat_code.len, hat_code.els, hne_code, hne1_code, hne2_code.1, hne2_code.2.1, hne2_code.2.2.1, hne2_code.2.2.2.1, hne2_code.2.2.2.2.1, hne2_code.2.2.2.2.2.1, hne2_code.2.2.2.2.2.2.1, hne2_code.2.2.2.2.2.2.2.1, hne2_code.2.2.2.2.2.2.2.2.1, hne2_code.2.2.2.2.2.2.2.2.2.1, hne2_code.2.2.2.2.2.2.2.2.2.2, rowK, Enc.decL_map, hr_bl, hne_bl, hne1_bl, hne2_bl.1, hne2_bl.2.1, hne2_bl.2.2.1, hne2_bl.2.2.2.1, hne2_bl.2.2.2.2.1, hne2_bl.2.2.2.2.2.1, hne2_bl.2.2.2.2.2.2.1, hne2_bl.2.2.2.2.2.2.2.1, hne2_bl.2.2.2.2.2.2.2.2.1, hne2_bl.2.2.2.2.2.2.2.2.2.1, hne2_bl.2.2.2.2.2.2.2.2.2.2, hr_bs, hne_bs, hne1_bs, hne2_bs.1, hne2_bs.2.1, hne2_bs.2.2.1, hne2_bs.2.2.2.1, hne2_bs.2.2.2.2.1, hne2_bs.2.2.2.2.2.1, hne2_bs.2.2.2.2.2.2.1, hne2_bs.2.2.2.2.2.2.2.1, hne2_bs.2.2.2.2.2.2.2.2.1, hne2_bs.2.2.2.2.2.2.2.2.2.1, hne2_bs.2.2.2.2.2.2.2.2.2.2, hj1, w1, hlt, hh]
      exact ⟨_, hs, .since hn0 hwf (.refl _) (by simp [frOk, AV.okR, AV.ok1, AC.okR, AV.ren, AV.ren1, AC.ren, AFrame.get, pl1_old, hl0_code, hl1_code, hl2_code, hl3_code, hl4_code, hl5_code, hl6_code, hl7_code, hl0_bl, hl1_bl, hl2_bl, hl3_bl, hl4_bl, hl5_bl, hl6_bl, hl7_bl, hl0_bs, hl1_bs, hl2_bs, hl3_bs, hl4_bs, hl5_bs, hl6_bs, hl7_bs]; first | done | omega)⟩
  · simp only [chGo] at hs
    subst hs
    clear hhas
    simp (config := {contextual := true, implicitDefEqProofs := false, maxSteps := 2000000}) [-Int.not_le, -Int.not_lt, argsF, laws_FnPrintings_l0, hat_code.blk, hat_code.esz, hat_code.len, hat_code.els, hne_code, hne1_code, hne2_code.1, hne2_code.2.1, hne2_code.2.2.1, hne2_code.2.2.2.1, hne2_code.2.2.2.2.1, hne2_code.2.2.2.2.2.1, hne2_code.2.2.2.2.2.2.1, hne2_code.2.2.2.2.2.2.2.1, hne2_code.2.2.2.2.2.2.2.2.1, hne2_code.2.2.2.2.2.2.2.2.2.1, hne2_code.2.2.2.2.2.2.2.2.2.2, rowK, Enc.decL_map, hr_bl, hne_bl, hne1_bl, hne2_bl.1, hne2_bl.2.1, hne2_bl.2.2.1, hne2_bl.2.2.2.1, hne2_bl.2.2.2.2.1, hne2_bl.2.2.2.2.2.1, hne2_bl.2.2.2.2.2.2.1, hne2_bl.2.2.2.2.2.2.2.1, hne2_bl.2.2.2.2.2.2.2.2.1, hne2_bl.2.2.2.2.2.2.2.2.2.1, hne2_bl.2.2.2.2.2.2.2.2.2.2, hr_bs, hne_bs, hne1_bs, hne2_bs.1, hne2_bs.2.1, hne2_bs.2.2.1, hne2_bs.2.2.2.1, hne2_bs.2.2.2.2.1, hne2_bs.2.2.2.2.2.1, hne2_bs.2.2.2.2.2.2.1, hne2_bs.2.2.2.2.2.2.2.1, hne2_bs.2.2.2.2.2.2.2.2.1, hne2_bs.2.2.2.2.2.2.2.2.2.1, hne2_bs.2.2.2.2.2.2.2.2.2.2]
    exact hfin

theorem laws_FnPrintings_loop1 {H0 H : AHeap} {b_code i_code : Nat} {k_code : ABlk} {code : List UInt8} (hwf0 : H0.WF) (hs0 : Sub H0 H) (hwf : H.WF) (hat0_code : eU.At H0 b_code i_code k_code code) {ps : List Pr} {bl : Nat} {d t : Int} {bs : Nat} (hok : (cbRes ps d t).2 = true) (hne : 0 < (cbRes ps d t).1.length) (hpl : ps.length ≤ 14) (hr_bl : H.b bl = some (rowK ePr 35 ps)) (hx_bl : H0.n ≤ bl) (hr_bs : H.b bs = some (rowK eI 3 (cbRes ps d t).1)) (hx_bs : H0.n ≤ bs) {Q : Exit → AFrame → AHeap → Prop} (hfin : Q (.exit 2) [(0, .c (.sl b_code i_code code.length)), (3, .c (.sl (bl) (0) (ps.length))), (4, .c (.int .i64 (d))), (5, .c (.int .i64 (t))), (6, .c (.sl (bs) (0) ((cbRes ps d t).1.length))), (14, .c (.int .i64 (chGo d t ps 0))), (16, .c (.int .i64 ((ps.length : Int)))), (140, .c (.bool (false)))] H) : ALoop Try.prog 330 H0.n laws_FnPrintings_l1 [(0, .c (.sl b_code i_code code.length)), (3, .c (.sl (bl) (0) (ps.length))), (4, .c (.int .i64 (d))), (5, .c (.int .i64 (t))), (6, .c (.sl (bs) (0) ((cbRes ps d t).1.length))), (14, .c (.int .i64 (chGo d t ps 0))), (16, .c (.int .i64 (0)))] H Q := by
  have hat_code : eU.At H b_code i_code k_code code := ⟨hs0.1.2 _ _ hat0_code.blk, hat0_code.esz, hat0_code.len, hat0_code.els⟩
  have hE := soundE_cons laws_rBig_s (soundE_cons spec_DrawCanBeOf_s (soundE_cons impl_CanBeOf_s (soundE_cons spec_CanBeOf_s (soundE_cons laws_rInts_s (soundE_cons impl_EarliestUse_s (soundE_cons spec_EarliestUse_s (soundE_cons laws_rHas_s (soundE_cons impl_ChanceOf_s (soundE_cons spec_DrawChanceOf_s (soundE_cons spec_ChanceOf_s (soundE_cons spec_DrawShareOfSheets_s (soundE_cons impl_ShareOfSheets_s (soundE_cons spec_ShareOfSheets_s (soundE_cons impl_SheetsBy_s (soundE_cons spec_DrawSheetsBy_s (soundE_cons spec_SheetsBy_s (soundE_cons impl_ArePrintings_s (soundE_cons spec_ArePrintings_s (soundE_nil (P := Try.prog))))))))))))))))))))
  have hn0 : H0.n ≤ H.n := hs0.1.1
  have hb_code : b_code < H.n := (hwf b_code k_code hat_code.blk).1
  have hne_code : (b_code = H.n) = False := eq_false (by omega)
  have hne1_code : ∀ i, (b_code = H.n + i) = False := fun i => eq_false (by omega)
  have hne2_code : (b_code = H.n + 1 + 1) = False ∧ (b_code = H.n + 1 + 1 + 1) = False ∧ (b_code = H.n + 1 + 1 + 1 + 1) = False ∧ (b_code = H.n + 1 + 1 + 1 + 1 + 1) = False ∧ (b_code = H.n + 1 + 1 + 1 + 1 + 1 + 1) = False ∧ (b_code = H.n + 1 + 1 + 1 + 1 + 1 + 1 + 1) = False ∧ (b_code = H.n + 1 + 1 + 1 + 1 + 1 + 1 + 1 + 1) = False ∧ (b_code = H.n + 1 + 1 + 1 + 1 + 1 + 1 + 1 + 1 + 1) = False ∧ (b_code = H.n + 1 + 1 + 1 + 1 + 1 + 1 + 1 + 1 + 1 + 1) = False ∧ (b_code = H.n + 1 + 1 + 1 + 1 + 1 + 1 + 1 + 1 + 1 + 1 + 1) = False ∧ (b_code = H.n + 1 + 1 + 1 + 1 + 1 + 1 + 1 + 1 + 1 + 1 + 1 + 1) = False := ⟨eq_false (by omega), eq_false (by omega), eq_false (by omega), eq_false (by omega), eq_false (by omega), eq_false (by omega), eq_false (by omega), eq_false (by omega), eq_false (by omega), eq_false (by omega), eq_false (by omega)⟩
  have hmx_code : code.length ≤ 9223372036854775807 := by have h1 := (hwf b_code k_code hat_code.blk).2.2; have h2 := hat_code.len; omega
  have hl0_code : b_code < H.n := by omega
  have hl1_code : b_code < H.n + 1 := by omega
  have hl2_code : b_code < H.n + 1 + 1 := by omega
  have hl3_code : b_code < H.n + 1 + 1 + 1 := by omega
  have hl4_code : b_code < H.n + 1 + 1 + 1 + 1 := by omega
  have hl5_code : b_code < H.n + 1 + 1 + 1 + 1 + 1 := by omega
  have hl6_code : b_code < H.n + 1 + 1 + 1 + 1 + 1 + 1 := by omega
  have hl7_code : b_code < H.n + 1 + 1 + 1 + 1 + 1 + 1 + 1 := by omega
  have hb_bl : bl < H.n := (hwf bl _ hr_bl).1
  have hne_bl : (bl = H.n) = False := eq_false (by omega)
  have hne1_bl : ∀ i, (bl = H.n + i) = False := fun i => eq_false (by omega)
  have hne2_bl : (bl = H.n + 1 + 1) = False ∧ (bl = H.n + 1 + 1 + 1) = False ∧ (bl = H.n + 1 + 1 + 1 + 1) = False ∧ (bl = H.n + 1 + 1 + 1 + 1 + 1) = False ∧ (bl = H.n + 1 + 1 + 1 + 1 + 1 + 1) = False ∧ (bl = H.n + 1 + 1 + 1 + 1 + 1 + 1 + 1) = False ∧ (bl = H.n + 1 + 1 + 1 + 1 + 1 + 1 + 1 + 1) = False ∧ (bl = H.n + 1 + 1 + 1 + 1 + 1 + 1 + 1 + 1 + 1) = False ∧ (bl = H.n + 1 + 1 + 1 + 1 + 1 + 1 + 1 + 1 + 1 + 1) = False ∧ (bl = H.n + 1 + 1 + 1 + 1 + 1 + 1 + 1 + 1 + 1 + 1 + 1) = False ∧ (bl = H.n + 1 + 1 + 1 + 1 + 1 + 1 + 1 + 1 + 1 + 1 + 1 + 1) = False := ⟨eq_false (by omega), eq_false (by omega), eq_false (by omega), eq_false (by omega), eq_false (by omega), eq_false (by omega), eq_false (by omega), eq_false (by omega), eq_false (by omega), eq_false (by omega), eq_false (by omega)⟩
  have hl0_bl : bl < H.n := by omega
  have hl1_bl : bl < H.n + 1 := by omega
  have hl2_bl : bl < H.n + 1 + 1 := by omega
  have hl3_bl : bl < H.n + 1 + 1 + 1 := by omega
  have hl4_bl : bl < H.n + 1 + 1 + 1 + 1 := by omega
  have hl5_bl : bl < H.n + 1 + 1 + 1 + 1 + 1 := by omega
  have hl6_bl : bl < H.n + 1 + 1 + 1 + 1 + 1 + 1 := by omega
  have hl7_bl : bl < H.n + 1 + 1 + 1 + 1 + 1 + 1 + 1 := by omega
  have hb_bs : bs < H.n := (hwf bs _ hr_bs).1
  have hne_bs : (bs = H.n) = False := eq_false (by omega)
  have hne1_bs : ∀ i, (bs = H.n + i) = False := fun i => eq_false (by omega)
  have hne2_bs : (bs = H.n + 1 + 1) = False ∧ (bs = H.n + 1 + 1 + 1) = False ∧ (bs = H.n + 1 + 1 + 1 + 1) = False ∧ (bs = H.n + 1 + 1 + 1 + 1 + 1) = False ∧ (bs = H.n + 1 + 1 + 1 + 1 + 1 + 1) = False ∧ (bs = H.n + 1 + 1 + 1 + 1 + 1 + 1 + 1) = False ∧ (bs = H.n + 1 + 1 + 1 + 1 + 1 + 1 + 1 + 1) = False ∧ (bs = H.n + 1 + 1 + 1 + 1 + 1 + 1 + 1 + 1 + 1) = False ∧ (bs = H.n + 1 + 1 + 1 + 1 + 1 + 1 + 1 + 1 + 1 + 1) = False ∧ (bs = H.n + 1 + 1 + 1 + 1 + 1 + 1 + 1 + 1 + 1 + 1 + 1) = False ∧ (bs = H.n + 1 + 1 + 1 + 1 + 1 + 1 + 1 + 1 + 1 + 1 + 1 + 1) = False := ⟨eq_false (by omega), eq_false (by omega), eq_false (by omega), eq_false (by omega), eq_false (by omega), eq_false (by omega), eq_false (by omega), eq_false (by omega), eq_false (by omega), eq_false (by omega), eq_false (by omega)⟩
  have hl0_bs : bs < H.n := by omega
  have hl1_bs : bs < H.n + 1 := by omega
  have hl2_bs : bs < H.n + 1 + 1 := by omega
  have hl3_bs : bs < H.n + 1 + 1 + 1 := by omega
  have hl4_bs : bs < H.n + 1 + 1 + 1 + 1 := by omega
  have hl5_bs : bs < H.n + 1 + 1 + 1 + 1 + 1 := by omega
  have hl6_bs : bs < H.n + 1 + 1 + 1 + 1 + 1 + 1 := by omega
  have hl7_bs : bs < H.n + 1 + 1 + 1 + 1 + 1 + 1 + 1 := by omega
  refine aloop_list ps (fun j _ => [(0, .c (.sl b_code i_code code.length)), (3, .c (.sl (bl) (0) (ps.length))), (4, .c (.int .i64 (d))), (5, .c (.int .i64 (t))), (6, .c (.sl (bs) (0) ((cbRes ps d t).1.length))), (14, .c (.int .i64 (chGo d t ps 0))), (16, .c (.int .i64 ((j : Int))))]) (fun _ _ => H) (fun j l _ => True) hE _ () trivial (.since hn0 hwf (.refl _) (by simp [frOk, AV.okR, AV.ok1, AC.okR, AV.ren, AV.ren1, AC.ren, AFrame.get, pl1_old, hl0_code, hl1_code, hl2_code, hl3_code, hl4_code, hl5_code, hl6_code, hl7_code, hl0_bl, hl1_bl, hl2_bl, hl3_bl, hl4_bl, hl5_bl, hl6_bl, hl7_bl, hl0_bs, hl1_bs, hl2_bs, hl3_bs, hl4_bs, hl5_bs, hl6_bs, hl7_bs]; first | done | omega)) (fun j _ hlt _ => ?_) fun _ _ => ?_
  · have hj1 := idx_lt hlt
    have w1 : IntKind.i64.wrap ((j : Int) + 1) = (j : Int) + 1 := wrap_id (by omega) (by omega)
    have hh := cb_has hok hlt
    have hall := ch_all hok hne hlt
    have c1 := hall.1
    by_cases hc : canBe ps[j] d t = true
    · rw [hc] at hh
      have c6 := hall.2.2.2.2 hc
      clear hall
      simp (config := {contextual := true, implicitDefEqProofs := false, maxSteps := 2000000}) [-Int.not_le, -Int.not_lt, argsF, laws_FnPrintings_l1, hat_code.blk, hat_code.esz, hat_code.len, hat_code.els, hne_code, hne1_code, hne2_code.1, hne2_code.2.1, hne2_code.2.2.1, hne2_code.2.2.2.1, hne2_code.2.2.2.2.1, hne2_code.2.2.2.2.2.1, hne2_code.2.2.2.2.2.2.1, hne2_code.2.2.2.2.2.2.2.1, hne2_code.2.2.2.2.2.2.2.2.1, hne2_code.2.2.2.2.2.2.2.2.2.1, hne2_code.2.2.2.2.2.2.2.2.2.2, rowK, Enc.decL_map, hr_bl, hne_bl, hne1_bl, hne2_bl.1, hne2_bl.2.1, hne2_bl.2.2.1, hne2_bl.2.2.2.1, hne2_bl.2.2.2.2.1, hne2_bl.2.2.2.2.2.1, hne2_bl.2.2.2.2.2.2.1, hne2_bl.2.2.2.2.2.2.2.1, hne2_bl.2.2.2.2.2.2.2.2.1, hne2_bl.2.2.2.2.2.2.2.2.2.1, hne2_bl.2.2.2.2.2.2.2.2.2.2, hr_bs, hne_bs, hne1_bs, hne2_bs.1, hne2_bs.2.1, hne2_bs.2.2.1, hne2_bs.2.2.2.1, hne2_bs.2.2.2.2.1, hne2_bs.2.2.2.2.2.1, hne2_bs.2.2.2.2.2.2.1, hne2_bs.2.2.2.2.2.2.2.1, hne2_bs.2.2.2.2.2.2.2.2.1, hne2_bs.2.2.2.2.2.2.2.2.2.1, hne2_bs.2.2.2.2.2.2.2.2.2.2, hj1, w1, hlt, hh, c1, c6]
      exact ⟨(), trivial, .since hn0 hwf (.refl _) (by simp [frOk, AV.okR, AV.ok1, AC.okR, AV.ren, AV.ren1, AC.ren, AFrame.get, pl1_old, hl0_code, hl1_code, hl2_code, hl3_code, hl4_code, hl5_code, hl6_code, hl7_code, hl0_bl, hl1_bl, hl2_bl, hl3_bl, hl4_bl, hl5_bl, hl6_bl, hl7_bl, hl0_bs, hl1_bs, hl2_bs, hl3_bs, hl4_bs, hl5_bs, hl6_bs, hl7_bs]; first | done | omega)⟩
    · have hc' : canBe ps[j] d t = false := by simpa using hc
      rw [hc'] at hh
      have c6 := hall.2.2.2.1 hc'
      clear hall
      simp (config := {contextual := true, implicitDefEqProofs := false, maxSteps := 2000000}) [-Int.not_le, -Int.not_lt, argsF, laws_FnPrintings_l1, hat_code.blk, hat_code.esz, hat_code.len, hat_code.els, hne_code, hne1_code, hne2_code.1, hne2_code.2.1, hne2_code.2.2.1, hne2_code.2.2.2.1, hne2_code.2.2.2.2.1, hne2_code.2.2.2.2.2.1, hne2_code.2.2.2.2.2.2.1, hne2_code.2.2.2.2.2.2.2.1, hne2_code.2.2.2.2.2.2.2.2.1, hne2_code.2.2.2.2.2.2.2.2.2.1, hne2_code.2.2.2.2.2.2.2.2.2.2, rowK, Enc.decL_map, hr_bl, hne_bl, hne1_bl, hne2_bl.1, hne2_bl.2.1, hne2_bl.2.2.1, hne2_bl.2.2.2.1, hne2_bl.2.2.2.2.1, hne2_bl.2.2.2.2.2.1, hne2_bl.2.2.2.2.2.2.1, hne2_bl.2.2.2.2.2.2.2.1, hne2_bl.2.2.2.2.2.2.2.2.1, hne2_bl.2.2.2.2.2.2.2.2.2.1, hne2_bl.2.2.2.2.2.2.2.2.2.2, hr_bs, hne_bs, hne1_bs, hne2_bs.1, hne2_bs.2.1, hne2_bs.2.2.1, hne2_bs.2.2.2.1, hne2_bs.2.2.2.2.1, hne2_bs.2.2.2.2.2.1, hne2_bs.2.2.2.2.2.2.1, hne2_bs.2.2.2.2.2.2.2.1, hne2_bs.2.2.2.2.2.2.2.2.1, hne2_bs.2.2.2.2.2.2.2.2.2.1, hne2_bs.2.2.2.2.2.2.2.2.2.2, hj1, w1, hlt, hh, c1, c6]
      exact ⟨(), trivial, .since hn0 hwf (.refl _) (by simp [frOk, AV.okR, AV.ok1, AC.okR, AV.ren, AV.ren1, AC.ren, AFrame.get, pl1_old, hl0_code, hl1_code, hl2_code, hl3_code, hl4_code, hl5_code, hl6_code, hl7_code, hl0_bl, hl1_bl, hl2_bl, hl3_bl, hl4_bl, hl5_bl, hl6_bl, hl7_bl, hl0_bs, hl1_bs, hl2_bs, hl3_bs, hl4_bs, hl5_bs, hl6_bs, hl7_bs]; first | done | omega)⟩
  · simp (config := {contextual := true, implicitDefEqProofs := false, maxSteps := 2000000}) [-Int.not_le, -Int.not_lt, argsF, laws_FnPrintings_l1, hat_code.blk, hat_code.esz, hat_code.len, hat_code.els, hne_code, hne1_code, hne2_code.1, hne2_code.2.1, hne2_code.2.2.1, hne2_code.2.2.2.1, hne2_code.2.2.2.2.1, hne2_code.2.2.2.2.2.1, hne2_code.2.2.2.2.2.2.1, hne2_code.2.2.2.2.2.2.2.1, hne2_code.2.2.2.2.2.2.2.2.1, hne2_code.2.2.2.2.2.2.2.2.2.1, hne2_code.2.2.2.2.2.2.2.2.2.2, rowK, Enc.decL_map, hr_bl, hne_bl, hne1_bl, hne2_bl.1, hne2_bl.2.1, hne2_bl.2.2.1, hne2_bl.2.2.2.1, hne2_bl.2.2.2.2.1, hne2_bl.2.2.2.2.2.1, hne2_bl.2.2.2.2.2.2.1, hne2_bl.2.2.2.2.2.2.2.1, hne2_bl.2.2.2.2.2.2.2.2.1, hne2_bl.2.2.2.2.2.2.2.2.2.1, hne2_bl.2.2.2.2.2.2.2.2.2.2, hr_bs, hne_bs, hne1_bs, hne2_bs.1, hne2_bs.2.1, hne2_bs.2.2.1, hne2_bs.2.2.2.1, hne2_bs.2.2.2.2.1, hne2_bs.2.2.2.2.2.1, hne2_bs.2.2.2.2.2.2.1, hne2_bs.2.2.2.2.2.2.2.1, hne2_bs.2.2.2.2.2.2.2.2.1, hne2_bs.2.2.2.2.2.2.2.2.2.1, hne2_bs.2.2.2.2.2.2.2.2.2.2]
    exact hfin

end Go.Proofs.Ytegmlgikdniohaa
