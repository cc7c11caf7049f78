/- The law on printings: its walk, the rest. -/
import Derived.Test.YtegmlgikdniohaaPrLq
set_option maxRecDepth 8000
set_option linter.unusedSimpArgs false
set_option linter.unusedVariables false
namespace Go.Proofs.Ytegmlgikdniohaa
open Go Go.RowKit

set_option maxHeartbeats 4000000

theorem laws_FnPrintings_p8 {H0 H : AHeap} {K : AV → AHeap → Prop} {b_code i_code : Nat} {k_code : ABlk} {code : List UInt8} (hwf0 : H0.WF) (hs0 : Sub H0 H) (hwf : H.WF) (hat0_code : eU.At H0 b_code i_code k_code code) (h : K (.c (.bool true)) H0) (hcl : code.length ≤ 65536) {bl : Nat} {ps : List Pr} (hpl : ps.length ≤ 14) {d t : Int} {bs : Nat} (hr_bl : H.b bl = some (rowK ePr 35 ps)) (hx_bl : H0.n ≤ bl) (hr_bs : H.b bs = some (rowK eI 3 (cbRes ps d t).1)) (hx_bs : H0.n ≤ bs) {F : AFrame} (hF : F.keep [0, 3, 4, 5, 6, 7] = [(0, .c (.sl b_code i_code code.length)), (3, .c (.sl (bl) (0) (ps.length))), (4, .c (.int .i64 (d))), (5, .c (.int .i64 (t))), (6, .c (.sl (bs) (0) ((cbRes ps d t).1.length))), (7, .c (.bool ((cbRes ps d t).2)))]) : avc Try.prog [(4, q_rBig), (5, q_DCb), (6, q_cb), (7, q_cb), (8, q_rInts), (9, q_eu), (10, q_eu), (11, q_rHas), (12, q_ch), (13, q_DCh), (14, q_ch), (15, q_DSh), (16, q_sh), (17, q_sh), (18, q_sb), (19, q_DSb), (20, q_sb), (21, q_arePr), (22, q_arePr)] 330 H0.n laws_FnPrintings_t8 F H (endK Try.prog H0.n [.tmp 2] K) := by
  refine (show avc _ _ _ _ _ _ _ _ = _ from avc_cut _ _).mpr ?_
  rw [hF]
  have hat_code : eU.At H b_code i_code k_code code := ⟨hs0.1.2 _ _ hat0_code.blk, hat0_code.esz, hat0_code.len, hat0_code.els⟩
  have hE := soundE_cons laws_rBig_s (soundE_cons spec_DrawCanBeOf_s (soundE_cons impl_CanBeOf_s (soundE_cons spec_CanBeOf_s (soundE_cons laws_rInts_s (soundE_cons impl_EarliestUse_s (soundE_cons spec_EarliestUse_s (soundE_cons laws_rHas_s (soundE_cons impl_ChanceOf_s (soundE_cons spec_DrawChanceOf_s (soundE_cons spec_ChanceOf_s (soundE_cons spec_DrawShareOfSheets_s (soundE_cons impl_ShareOfSheets_s (soundE_cons spec_ShareOfSheets_s (soundE_cons impl_SheetsBy_s (soundE_cons spec_DrawSheetsBy_s (soundE_cons spec_SheetsBy_s (soundE_cons impl_ArePrintings_s (soundE_cons spec_ArePrintings_s (soundE_nil (P := Try.prog))))))))))))))))))))
  have hn0 : H0.n ≤ H.n := hs0.1.1
  have hb_code : b_code < H.n := (hwf b_code k_code hat_code.blk).1
  have hne_code : (b_code = H.n) = False := eq_false (by omega)
  have hne1_code : ∀ i, (b_code = H.n + i) = False := fun i => eq_false (by omega)
  have hne2_code : (b_code = H.n + 1 + 1) = False ∧ (b_code = H.n + 1 + 1 + 1) = False ∧ (b_code = H.n + 1 + 1 + 1 + 1) = False ∧ (b_code = H.n + 1 + 1 + 1 + 1 + 1) = False ∧ (b_code = H.n + 1 + 1 + 1 + 1 + 1 + 1) = False ∧ (b_code = H.n + 1 + 1 + 1 + 1 + 1 + 1 + 1) = False ∧ (b_code = H.n + 1 + 1 + 1 + 1 + 1 + 1 + 1 + 1) = False ∧ (b_code = H.n + 1 + 1 + 1 + 1 + 1 + 1 + 1 + 1 + 1) = False ∧ (b_code = H.n + 1 + 1 + 1 + 1 + 1 + 1 + 1 + 1 + 1 + 1) = False ∧ (b_code = H.n + 1 + 1 + 1 + 1 + 1 + 1 + 1 + 1 + 1 + 1 + 1) = False ∧ (b_code = H.n + 1 + 1 + 1 + 1 + 1 + 1 + 1 + 1 + 1 + 1 + 1 + 1) = False := ⟨eq_false (by omega), eq_false (by omega), eq_false (by omega), eq_false (by omega), eq_false (by omega), eq_false (by omega), eq_false (by omega), eq_false (by omega), eq_false (by omega), eq_false (by omega), eq_false (by omega)⟩
  have hmx_code : code.length ≤ 9223372036854775807 := by have h1 := (hwf b_code k_code hat_code.blk).2.2; have h2 := hat_code.len; omega
  have hl0_code : b_code < H.n := by omega
  have hl1_code : b_code < H.n + 1 := by omega
  have hl2_code : b_code < H.n + 1 + 1 := by omega
  have hl3_code : b_code < H.n + 1 + 1 + 1 := by omega
  have hl4_code : b_code < H.n + 1 + 1 + 1 + 1 := by omega
  have hl5_code : b_code < H.n + 1 + 1 + 1 + 1 + 1 := by omega
  have hl6_code : b_code < H.n + 1 + 1 + 1 + 1 + 1 + 1 := by omega
  have hl7_code : b_code < H.n + 1 + 1 + 1 + 1 + 1 + 1 + 1 := by omega
  have hb_bl : bl < H.n := (hwf bl _ hr_bl).1
  have hne_bl : (bl = H.n) = False := eq_false (by omega)
  have hne1_bl : ∀ i, (bl = H.n + i) = False := fun i => eq_false (by omega)
  have hne2_bl : (bl = H.n + 1 + 1) = False ∧ (bl = H.n + 1 + 1 + 1) = False ∧ (bl = H.n + 1 + 1 + 1 + 1) = False ∧ (bl = H.n + 1 + 1 + 1 + 1 + 1) = False ∧ (bl = H.n + 1 + 1 + 1 + 1 + 1 + 1) = False ∧ (bl = H.n + 1 + 1 + 1 + 1 + 1 + 1 + 1) = False ∧ (bl = H.n + 1 + 1 + 1 + 1 + 1 + 1 + 1 + 1) = False ∧ (bl = H.n + 1 + 1 + 1 + 1 + 1 + 1 + 1 + 1 + 1) = False ∧ (bl = H.n + 1 + 1 + 1 + 1 + 1 + 1 + 1 + 1 + 1 + 1) = False ∧ (bl = H.n + 1 + 1 + 1 + 1 + 1 + 1 + 1 + 1 + 1 + 1 + 1) = False ∧ (bl = H.n + 1 + 1 + 1 + 1 + 1 + 1 + 1 + 1 + 1 + 1 + 1 + 1) = False := ⟨eq_false (by omega), eq_false (by omega), eq_false (by omega), eq_false (by omega), eq_false (by omega), eq_false (by omega), eq_false (by omega), eq_false (by omega), eq_false (by omega), eq_false (by omega), eq_false (by omega)⟩
  have hl0_bl : bl < H.n := by omega
  have hl1_bl : bl < H.n + 1 := by omega
  have hl2_bl : bl < H.n + 1 + 1 := by omega
  have hl3_bl : bl < H.n + 1 + 1 + 1 := by omega
  have hl4_bl : bl < H.n + 1 + 1 + 1 + 1 := by omega
  have hl5_bl : bl < H.n + 1 + 1 + 1 + 1 + 1 := by omega
  have hl6_bl : bl < H.n + 1 + 1 + 1 + 1 + 1 + 1 := by omega
  have hl7_bl : bl < H.n + 1 + 1 + 1 + 1 + 1 + 1 + 1 := by omega
  have hb_bs : bs < H.n := (hwf bs _ hr_bs).1
  have hne_bs : (bs = H.n) = False := eq_false (by omega)
  have hne1_bs : ∀ i, (bs = H.n + i) = False := fun i => eq_false (by omega)
  have hne2_bs : (bs = H.n + 1 + 1) = False ∧ (bs = H.n + 1 + 1 + 1) = False ∧ (bs = H.n + 1 + 1 + 1 + 1) = False ∧ (bs = H.n + 1 + 1 + 1 + 1 + 1) = False ∧ (bs = H.n + 1 + 1 + 1 + 1 + 1 + 1) = False ∧ (bs = H.n + 1 + 1 + 1 + 1 + 1 + 1 + 1) = False ∧ (bs = H.n + 1 + 1 + 1 + 1 + 1 + 1 + 1 + 1) = False ∧ (bs = H.n + 1 + 1 + 1 + 1 + 1 + 1 + 1 + 1 + 1) = False ∧ (bs = H.n + 1 + 1 + 1 + 1 + 1 + 1 + 1 + 1 + 1 + 1) = False ∧ (bs = H.n + 1 + 1 + 1 + 1 + 1 + 1 + 1 + 1 + 1 + 1 + 1) = False ∧ (bs = H.n + 1 + 1 + 1 + 1 + 1 + 1 + 1 + 1 + 1 + 1 + 1 + 1) = False := ⟨eq_false (by omega), eq_false (by omega), eq_false (by omega), eq_false (by omega), eq_false (by omega), eq_false (by omega), eq_false (by omega), eq_false (by omega), eq_false (by omega), eq_false (by omega), eq_false (by omega)⟩
  have hl0_bs : bs < H.n := by omega
  have hl1_bs : bs < H.n + 1 := by omega
  have hl2_bs : bs < H.n + 1 + 1 := by omega
  have hl3_bs : bs < H.n + 1 + 1 + 1 := by omega
  have hl4_bs : bs < H.n + 1 + 1 + 1 + 1 := by omega
  have hl5_bs : bs < H.n + 1 + 1 + 1 + 1 + 1 := by omega
  have hl6_bs : bs < H.n + 1 + 1 + 1 + 1 + 1 + 1 := by omega
  have hl7_bs : bs < H.n + 1 + 1 + 1 + 1 + 1 + 1 + 1 := by omega
  by_cases hok : (cbRes ps d t).2 = true
  rotate_left
  · have hok' : (cbRes ps d t).2 = false := by simpa using hok
    simp (config := {contextual := true, implicitDefEqProofs := false, maxSteps := 2000000}) [-Int.not_le, -Int.not_lt, argsF, laws_FnPrintings_t8, hat_code.blk, hat_code.esz, hat_code.len, hat_code.els, hne_code, hne1_code, hne2_code.1, hne2_code.2.1, hne2_code.2.2.1, hne2_code.2.2.2.1, hne2_code.2.2.2.2.1, hne2_code.2.2.2.2.2.1, hne2_code.2.2.2.2.2.2.1, hne2_code.2.2.2.2.2.2.2.1, hne2_code.2.2.2.2.2.2.2.2.1, hne2_code.2.2.2.2.2.2.2.2.2.1, hne2_code.2.2.2.2.2.2.2.2.2.2, rowK, Enc.decL_map, hcl, hr_bl, hne_bl, hne1_bl, hne2_bl.1, hne2_bl.2.1, hne2_bl.2.2.1, hne2_bl.2.2.2.1, hne2_bl.2.2.2.2.1, hne2_bl.2.2.2.2.2.1, hne2_bl.2.2.2.2.2.2.1, hne2_bl.2.2.2.2.2.2.2.1, hne2_bl.2.2.2.2.2.2.2.2.1, hne2_bl.2.2.2.2.2.2.2.2.2.1, hne2_bl.2.2.2.2.2.2.2.2.2.2, hr_bs, hne_bs, hne1_bs, hne2_bs.1, hne2_bs.2.1, hne2_bs.2.2.1, hne2_bs.2.2.2.1, hne2_bs.2.2.2.2.1, hne2_bs.2.2.2.2.2.1, hne2_bs.2.2.2.2.2.2.1, hne2_bs.2.2.2.2.2.2.2.1, hne2_bs.2.2.2.2.2.2.2.2.1, hne2_bs.2.2.2.2.2.2.2.2.2.1, hne2_bs.2.2.2.2.2.2.2.2.2.2, hok', ite_self]
    exact laws_FnPrintings_p9 hwf0 (by (repeat first | exact Sub.refl _ | refine Sub.push hwf0 ?_ _ | refine Sub.set hwf0 ?_ (by first | exact Nat.le_refl _ | omega | (simp only [push_n, set_n, kill_n]; omega)) _ | refine Sub.kill hwf0 ?_ (by first | exact Nat.le_refl _ | omega | (simp only [push_n, set_n, kill_n]; omega))); exact hs0) (by repeat first | exact hwf | refine WF.push ?_ (plain_map (fun _ => rfl) _) (by first | (simp; done) | (simp; omega))) hat0_code h hcl hpl (by simp [push_b, set_b, kill_b, hat_code.blk, hat_code.esz, hat_code.len, hat_code.els, hne_code, hne1_code, hne2_code.1, hne2_code.2.1, hne2_code.2.2.1, hne2_code.2.2.2.1, hne2_code.2.2.2.2.1, hne2_code.2.2.2.2.2.1, hne2_code.2.2.2.2.2.2.1, hne2_code.2.2.2.2.2.2.2.1, hne2_code.2.2.2.2.2.2.2.2.1, hne2_code.2.2.2.2.2.2.2.2.2.1, hne2_code.2.2.2.2.2.2.2.2.2.2, rowK, Enc.decL_map, hcl, hr_bl, hne_bl, hne1_bl, hne2_bl.1, hne2_bl.2.1, hne2_bl.2.2.1, hne2_bl.2.2.2.1, hne2_bl.2.2.2.2.1, hne2_bl.2.2.2.2.2.1, hne2_bl.2.2.2.2.2.2.1, hne2_bl.2.2.2.2.2.2.2.1, hne2_bl.2.2.2.2.2.2.2.2.1, hne2_bl.2.2.2.2.2.2.2.2.2.1, hne2_bl.2.2.2.2.2.2.2.2.2.2]; done) hx_bl rfl
  by_cases hne : 0 < (cbRes ps d t).1.length
  rotate_left
  · have hl0 : (cbRes ps d t).1.length = 0 := by omega
    have hl0' : (cbRes ps d t).1 = [] := List.eq_nil_of_length_eq_zero hl0
    simp (config := {contextual := true, implicitDefEqProofs := false, maxSteps := 2000000}) [-Int.not_le, -Int.not_lt, argsF, laws_FnPrintings_t8, hat_code.blk, hat_code.esz, hat_code.len, hat_code.els, hne_code, hne1_code, hne2_code.1, hne2_code.2.1, hne2_code.2.2.1, hne2_code.2.2.2.1, hne2_code.2.2.2.2.1, hne2_code.2.2.2.2.2.1, hne2_code.2.2.2.2.2.2.1, hne2_code.2.2.2.2.2.2.2.1, hne2_code.2.2.2.2.2.2.2.2.1, hne2_code.2.2.2.2.2.2.2.2.2.1, hne2_code.2.2.2.2.2.2.2.2.2.2, rowK, Enc.decL_map, hcl, hr_bl, hne_bl, hne1_bl, hne2_bl.1, hne2_bl.2.1, hne2_bl.2.2.1, hne2_bl.2.2.2.1, hne2_bl.2.2.2.2.1, hne2_bl.2.2.2.2.2.1, hne2_bl.2.2.2.2.2.2.1, hne2_bl.2.2.2.2.2.2.2.1, hne2_bl.2.2.2.2.2.2.2.2.1, hne2_bl.2.2.2.2.2.2.2.2.2.1, hne2_bl.2.2.2.2.2.2.2.2.2.2, hr_bs, hne_bs, hne1_bs, hne2_bs.1, hne2_bs.2.1, hne2_bs.2.2.1, hne2_bs.2.2.2.1, hne2_bs.2.2.2.2.1, hne2_bs.2.2.2.2.2.1, hne2_bs.2.2.2.2.2.2.1, hne2_bs.2.2.2.2.2.2.2.1, hne2_bs.2.2.2.2.2.2.2.2.1, hne2_bs.2.2.2.2.2.2.2.2.2.1, hne2_bs.2.2.2.2.2.2.2.2.2.2, hok, hl0, hl0', ite_self]
    exact laws_FnPrintings_p9 hwf0 (by (repeat first | exact Sub.refl _ | refine Sub.push hwf0 ?_ _ | refine Sub.set hwf0 ?_ (by first | exact Nat.le_refl _ | omega | (simp only [push_n, set_n, kill_n]; omega)) _ | refine Sub.kill hwf0 ?_ (by first | exact Nat.le_refl _ | omega | (simp only [push_n, set_n, kill_n]; omega))); exact hs0) (by repeat first | exact hwf | refine WF.push ?_ (plain_map (fun _ => rfl) _) (by first | (simp; done) | (simp; omega))) hat0_code h hcl hpl (by simp [push_b, set_b, kill_b, hat_code.blk, hat_code.esz, hat_code.len, hat_code.els, hne_code, hne1_code, hne2_code.1, hne2_code.2.1, hne2_code.2.2.1, hne2_code.2.2.2.1, hne2_code.2.2.2.2.1, hne2_code.2.2.2.2.2.1, hne2_code.2.2.2.2.2.2.1, hne2_code.2.2.2.2.2.2.2.1, hne2_code.2.2.2.2.2.2.2.2.1, hne2_code.2.2.2.2.2.2.2.2.2.1, hne2_code.2.2.2.2.2.2.2.2.2.2, rowK, Enc.decL_map, hcl, hr_bl, hne_bl, hne1_bl, hne2_bl.1, hne2_bl.2.1, hne2_bl.2.2.1, hne2_bl.2.2.2.1, hne2_bl.2.2.2.2.1, hne2_bl.2.2.2.2.2.1, hne2_bl.2.2.2.2.2.2.1, hne2_bl.2.2.2.2.2.2.2.1, hne2_bl.2.2.2.2.2.2.2.2.1, hne2_bl.2.2.2.2.2.2.2.2.2.1, hne2_bl.2.2.2.2.2.2.2.2.2.2]; done) hx_bl rfl
  have hnn : ¬ (cbRes ps d t).1 = [] := fun e => by rw [e] at hne; simp at hne
  have hhas := fun (j : Nat) (hj : j < ps.length) => cb_has hok hj
  simp (config := {contextual := true, implicitDefEqProofs := false, maxSteps := 2000000}) [-Int.not_le, -Int.not_lt, argsF, laws_FnPrintings_t8, hat_code.blk, hat_code.esz, hat_code.len, hat_code.els, hne_code, hne1_code, hne2_code.1, hne2_code.2.1, hne2_code.2.2.1, hne2_code.2.2.2.1, hne2_code.2.2.2.2.1, hne2_code.2.2.2.2.2.1, hne2_code.2.2.2.2.2.2.1, hne2_code.2.2.2.2.2.2.2.1, hne2_code.2.2.2.2.2.2.2.2.1, hne2_code.2.2.2.2.2.2.2.2.2.1, hne2_code.2.2.2.2.2.2.2.2.2.2, rowK, Enc.decL_map, hcl, hr_bl, hne_bl, hne1_bl, hne2_bl.1, hne2_bl.2.1, hne2_bl.2.2.1, hne2_bl.2.2.2.1, hne2_bl.2.2.2.2.1, hne2_bl.2.2.2.2.2.1, hne2_bl.2.2.2.2.2.2.1, hne2_bl.2.2.2.2.2.2.2.1, hne2_bl.2.2.2.2.2.2.2.2.1, hne2_bl.2.2.2.2.2.2.2.2.2.1, hne2_bl.2.2.2.2.2.2.2.2.2.2, hr_bs, hne_bs, hne1_bs, hne2_bs.1, hne2_bs.2.1, hne2_bs.2.2.1, hne2_bs.2.2.2.1, hne2_bs.2.2.2.2.1, hne2_bs.2.2.2.2.2.1, hne2_bs.2.2.2.2.2.2.1, hne2_bs.2.2.2.2.2.2.2.1, hne2_bs.2.2.2.2.2.2.2.2.1, hne2_bs.2.2.2.2.2.2.2.2.2.1, hne2_bs.2.2.2.2.2.2.2.2.2.2, hok, hne, hnn, ite_self]
  refine laws_FnPrintings_loop0 hwf0 hs0 hwf hat0_code hhas hpl hr_bl hx_bl hr_bs hx_bs ?_
  clear hhas
  simp (config := {contextual := true, implicitDefEqProofs := false, maxSteps := 2000000}) [-Int.not_le, -Int.not_lt, argsF, hat_code.blk, hat_code.esz, hat_code.len, hat_code.els, hne_code, hne1_code, hne2_code.1, hne2_code.2.1, hne2_code.2.2.1, hne2_code.2.2.2.1, hne2_code.2.2.2.2.1, hne2_code.2.2.2.2.2.1, hne2_code.2.2.2.2.2.2.1, hne2_code.2.2.2.2.2.2.2.1, hne2_code.2.2.2.2.2.2.2.2.1, hne2_code.2.2.2.2.2.2.2.2.2.1, hne2_code.2.2.2.2.2.2.2.2.2.2, rowK, Enc.decL_map, hcl, hr_bl, hne_bl, hne1_bl, hne2_bl.1, hne2_bl.2.1, hne2_bl.2.2.1, hne2_bl.2.2.2.1, hne2_bl.2.2.2.2.1, hne2_bl.2.2.2.2.2.1, hne2_bl.2.2.2.2.2.2.1, hne2_bl.2.2.2.2.2.2.2.1, hne2_bl.2.2.2.2.2.2.2.2.1, hne2_bl.2.2.2.2.2.2.2.2.2.1, hne2_bl.2.2.2.2.2.2.2.2.2.2, hr_bs, hne_bs, hne1_bs, hne2_bs.1, hne2_bs.2.1, hne2_bs.2.2.1, hne2_bs.2.2.2.1, hne2_bs.2.2.2.2.1, hne2_bs.2.2.2.2.2.1, hne2_bs.2.2.2.2.2.2.1, hne2_bs.2.2.2.2.2.2.2.1, hne2_bs.2.2.2.2.2.2.2.2.1, hne2_bs.2.2.2.2.2.2.2.2.2.1, hne2_bs.2.2.2.2.2.2.2.2.2.2]
  refine laws_FnPrintings_loop1 hwf0 hs0 hwf hat0_code hok hne hpl hr_bl hx_bl hr_bs hx_bs ?_
  simp (config := {contextual := true, implicitDefEqProofs := false, maxSteps := 2000000}) [-Int.not_le, -Int.not_lt, argsF, hat_code.blk, hat_code.esz, hat_code.len, hat_code.els, hne_code, hne1_code, hne2_code.1, hne2_code.2.1, hne2_code.2.2.1, hne2_code.2.2.2.1, hne2_code.2.2.2.2.1, hne2_code.2.2.2.2.2.1, hne2_code.2.2.2.2.2.2.1, hne2_code.2.2.2.2.2.2.2.1, hne2_code.2.2.2.2.2.2.2.2.1, hne2_code.2.2.2.2.2.2.2.2.2.1, hne2_code.2.2.2.2.2.2.2.2.2.2, rowK, Enc.decL_map, hcl, hr_bl, hne_bl, hne1_bl, hne2_bl.1, hne2_bl.2.1, hne2_bl.2.2.1, hne2_bl.2.2.2.1, hne2_bl.2.2.2.2.1, hne2_bl.2.2.2.2.2.1, hne2_bl.2.2.2.2.2.2.1, hne2_bl.2.2.2.2.2.2.2.1, hne2_bl.2.2.2.2.2.2.2.2.1, hne2_bl.2.2.2.2.2.2.2.2.2.1, hne2_bl.2.2.2.2.2.2.2.2.2.2, hr_bs, hne_bs, hne1_bs, hne2_bs.1, hne2_bs.2.1, hne2_bs.2.2.1, hne2_bs.2.2.2.1, hne2_bs.2.2.2.2.1, hne2_bs.2.2.2.2.2.1, hne2_bs.2.2.2.2.2.2.1, hne2_bs.2.2.2.2.2.2.2.1, hne2_bs.2.2.2.2.2.2.2.2.1, hne2_bs.2.2.2.2.2.2.2.2.2.1, hne2_bs.2.2.2.2.2.2.2.2.2.2]
  exact laws_FnPrintings_p9 hwf0 (by (repeat first | exact Sub.refl _ | refine Sub.push hwf0 ?_ _ | refine Sub.set hwf0 ?_ (by first | exact Nat.le_refl _ | omega | (simp only [push_n, set_n, kill_n]; omega)) _ | refine Sub.kill hwf0 ?_ (by first | exact Nat.le_refl _ | omega | (simp only [push_n, set_n, kill_n]; omega))); exact hs0) (by repeat first | exact hwf | refine WF.push ?_ (plain_map (fun _ => rfl) _) (by first | (simp; done) | (simp; omega))) hat0_code h hcl hpl (by simp [push_b, set_b, kill_b, hat_code.blk, hat_code.esz, hat_code.len, hat_code.els, hne_code, hne1_code, hne2_code.1, hne2_code.2.1, hne2_code.2.2.1, hne2_code.2.2.2.1, hne2_code.2.2.2.2.1, hne2_code.2.2.2.2.2.1, hne2_code.2.2.2.2.2.2.1, hne2_code.2.2.2.2.2.2.2.1, hne2_code.2.2.2.2.2.2.2.2.1, hne2_code.2.2.2.2.2.2.2.2.2.1, hne2_code.2.2.2.2.2.2.2.2.2.2, rowK, Enc.decL_map, hcl, hr_bl, hne_bl, hne1_bl, hne2_bl.1, hne2_bl.2.1, hne2_bl.2.2.1, hne2_bl.2.2.2.1, hne2_bl.2.2.2.2.1, hne2_bl.2.2.2.2.2.1, hne2_bl.2.2.2.2.2.2.1, hne2_bl.2.2.2.2.2.2.2.1, hne2_bl.2.2.2.2.2.2.2.2.1, hne2_bl.2.2.2.2.2.2.2.2.2.1, hne2_bl.2.2.2.2.2.2.2.2.2.2]; done) hx_bl rfl

theorem laws_FnPrintings_p5 {H0 H : AHeap} {K : AV → AHeap → Prop} {b_code i_code : Nat} {k_code : ABlk} {code : List UInt8} (hwf0 : H0.WF) (hs0 : Sub H0 H) (hwf : H.WF) (hat0_code : eU.At H0 b_code i_code k_code code) (h : K (.c (.bool true)) H0) (hcl : code.length ≤ 65536) {bl : Nat} {ps : List Pr} (hpl : ps.length ≤ 14) {d t : Int} {bs : Nat} (hr_bl : H.b bl = some (rowK ePr 35 ps)) (hx_bl : H0.n ≤ bl) (hr_bs : H.b bs = some (rowK eI 3 (cbRes ps d t).1)) (hx_bs : H0.n ≤ bs) {F : AFrame} (hF : F.keep [0, 3, 4, 5, 6, 7] = [(0, .c (.sl b_code i_code code.length)), (3, .c (.sl (bl) (0) (ps.length))), (4, .c (.int .i64 (d))), (5, .c (.int .i64 (t))), (6, .c (.sl (bs) (0) ((cbRes ps d t).1.length))), (7, .c (.bool ((cbRes ps d t).2)))]) : avc Try.prog [(4, q_rBig), (5, q_DCb), (6, q_cb), (7, q_cb), (8, q_rInts), (9, q_eu), (10, q_eu), (11, q_rHas), (12, q_ch), (13, q_DCh), (14, q_ch), (15, q_DSh), (16, q_sh), (17, q_sh), (18, q_sb), (19, q_DSb), (20, q_sb), (21, q_arePr), (22, q_arePr)] 330 H0.n laws_FnPrintings_t5 F H (endK Try.prog H0.n [.tmp 2] K) := by
  refine (show avc _ _ _ _ _ _ _ _ = _ from avc_cut _ _).mpr ?_
  rw [hF]
  have hat_code : eU.At H b_code i_code k_code code := ⟨hs0.1.2 _ _ hat0_code.blk, hat0_code.esz, hat0_code.len, hat0_code.els⟩
  have hE := soundE_cons laws_rBig_s (soundE_cons spec_DrawCanBeOf_s (soundE_cons impl_CanBeOf_s (soundE_cons spec_CanBeOf_s (soundE_cons laws_rInts_s (soundE_cons impl_EarliestUse_s (soundE_cons spec_EarliestUse_s (soundE_cons laws_rHas_s (soundE_cons impl_ChanceOf_s (soundE_cons spec_DrawChanceOf_s (soundE_cons spec_ChanceOf_s (soundE_cons spec_DrawShareOfSheets_s (soundE_cons impl_ShareOfSheets_s (soundE_cons spec_ShareOfSheets_s (soundE_cons impl_SheetsBy_s (soundE_cons spec_DrawSheetsBy_s (soundE_cons spec_SheetsBy_s (soundE_cons impl_ArePrintings_s (soundE_cons spec_ArePrintings_s (soundE_nil (P := Try.prog))))))))))))))))))))
  have hn0 : H0.n ≤ H.n := hs0.1.1
  have hb_code : b_code < H.n := (hwf b_code k_code hat_code.blk).1
  have hne_code : (b_code = H.n) = False := eq_false (by omega)
  have hne1_code : ∀ i, (b_code = H.n + i) = False := fun i => eq_false (by omega)
  have hne2_code : (b_code = H.n + 1 + 1) = False ∧ (b_code = H.n + 1 + 1 + 1) = False ∧ (b_code = H.n + 1 + 1 + 1 + 1) = False ∧ (b_code = H.n + 1 + 1 + 1 + 1 + 1) = False ∧ (b_code = H.n + 1 + 1 + 1 + 1 + 1 + 1) = False ∧ (b_code = H.n + 1 + 1 + 1 + 1 + 1 + 1 + 1) = False ∧ (b_code = H.n + 1 + 1 + 1 + 1 + 1 + 1 + 1 + 1) = False ∧ (b_code = H.n + 1 + 1 + 1 + 1 + 1 + 1 + 1 + 1 + 1) = False ∧ (b_code = H.n + 1 + 1 + 1 + 1 + 1 + 1 + 1 + 1 + 1 + 1) = False ∧ (b_code = H.n + 1 + 1 + 1 + 1 + 1 + 1 + 1 + 1 + 1 + 1 + 1) = False ∧ (b_code = H.n + 1 + 1 + 1 + 1 + 1 + 1 + 1 + 1 + 1 + 1 + 1 + 1) = False := ⟨eq_false (by omega), eq_false (by omega), eq_false (by omega), eq_false (by omega), eq_false (by omega), eq_false (by omega), eq_false (by omega), eq_false (by omega), eq_false (by omega), eq_false (by omega), eq_false (by omega)⟩
  have hmx_code : code.length ≤ 9223372036854775807 := by have h1 := (hwf b_code k_code hat_code.blk).2.2; have h2 := hat_code.len; omega
  have hl0_code : b_code < H.n := by omega
  have hl1_code : b_code < H.n + 1 := by omega
  have hl2_code : b_code < H.n + 1 + 1 := by omega
  have hl3_code : b_code < H.n + 1 + 1 + 1 := by omega
  have hl4_code : b_code < H.n + 1 + 1 + 1 + 1 := by omega
  have hl5_code : b_code < H.n + 1 + 1 + 1 + 1 + 1 := by omega
  have hl6_code : b_code < H.n + 1 + 1 + 1 + 1 + 1 + 1 := by omega
  have hl7_code : b_code < H.n + 1 + 1 + 1 + 1 + 1 + 1 + 1 := by omega
  have hb_bl : bl < H.n := (hwf bl _ hr_bl).1
  have hne_bl : (bl = H.n) = False := eq_false (by omega)
  have hne1_bl : ∀ i, (bl = H.n + i) = False := fun i => eq_false (by omega)
  have hne2_bl : (bl = H.n + 1 + 1) = False ∧ (bl = H.n + 1 + 1 + 1) = False ∧ (bl = H.n + 1 + 1 + 1 + 1) = False ∧ (bl = H.n + 1 + 1 + 1 + 1 + 1) = False ∧ (bl = H.n + 1 + 1 + 1 + 1 + 1 + 1) = False ∧ (bl = H.n + 1 + 1 + 1 + 1 + 1 + 1 + 1) = False ∧ (bl = H.n + 1 + 1 + 1 + 1 + 1 + 1 + 1 + 1) = False ∧ (bl = H.n + 1 + 1 + 1 + 1 + 1 + 1 + 1 + 1 + 1) = False ∧ (bl = H.n + 1 + 1 + 1 + 1 + 1 + 1 + 1 + 1 + 1 + 1) = False ∧ (bl = H.n + 1 + 1 + 1 + 1 + 1 + 1 + 1 + 1 + 1 + 1 + 1) = False ∧ (bl = H.n + 1 + 1 + 1 + 1 + 1 + 1 + 1 + 1 + 1 + 1 + 1 + 1) = False := ⟨eq_false (by omega), eq_false (by omega), eq_false (by omega), eq_false (by omega), eq_false (by omega), eq_false (by omega), eq_false (by omega), eq_false (by omega), eq_false (by omega), eq_false (by omega), eq_false (by omega)⟩
  have hl0_bl : bl < H.n := by omega
  have hl1_bl : bl < H.n + 1 := by omega
  have hl2_bl : bl < H.n + 1 + 1 := by omega
  have hl3_bl : bl < H.n + 1 + 1 + 1 := by omega
  have hl4_bl : bl < H.n + 1 + 1 + 1 + 1 := by omega
  have hl5_bl : bl < H.n + 1 + 1 + 1 + 1 + 1 := by omega
  have hl6_bl : bl < H.n + 1 + 1 + 1 + 1 + 1 + 1 := by omega
  have hl7_bl : bl < H.n + 1 + 1 + 1 + 1 + 1 + 1 + 1 := by omega
  have hb_bs : bs < H.n := (hwf bs _ hr_bs).1
  have hne_bs : (bs = H.n) = False := eq_false (by omega)
  have hne1_bs : ∀ i, (bs = H.n + i) = False := fun i => eq_false (by omega)
  have hne2_bs : (bs = H.n + 1 + 1) = False ∧ (bs = H.n + 1 + 1 + 1) = False ∧ (bs = H.n + 1 + 1 + 1 + 1) = False ∧ (bs = H.n + 1 + 1 + 1 + 1 + 1) = False ∧ (bs = H.n + 1 + 1 + 1 + 1 + 1 + 1) = False ∧ (bs = H.n + 1 + 1 + 1 + 1 + 1 + 1 + 1) = False ∧ (bs = H.n + 1 + 1 + 1 + 1 + 1 + 1 + 1 + 1) = False ∧ (bs = H.n + 1 + 1 + 1 + 1 + 1 + 1 + 1 + 1 + 1) = False ∧ (bs = H.n + 1 + 1 + 1 + 1 + 1 + 1 + 1 + 1 + 1 + 1) = False ∧ (bs = H.n + 1 + 1 + 1 + 1 + 1 + 1 + 1 + 1 + 1 + 1 + 1) = False ∧ (bs = H.n + 1 + 1 + 1 + 1 + 1 + 1 + 1 + 1 + 1 + 1 + 1 + 1) = False := ⟨eq_false (by omega), eq_false (by omega), eq_false (by omega), eq_false (by omega), eq_false (by omega), eq_false (by omega), eq_false (by omega), eq_false (by omega), eq_false (by omega), eq_false (by omega), eq_false (by omega)⟩
  have hl0_bs : bs < H.n := by omega
  have hl1_bs : bs < H.n + 1 := by omega
  have hl2_bs : bs < H.n + 1 + 1 := by omega
  have hl3_bs : bs < H.n + 1 + 1 + 1 := by omega
  have hl4_bs : bs < H.n + 1 + 1 + 1 + 1 := by omega
  have hl5_bs : bs < H.n + 1 + 1 + 1 + 1 + 1 := by omega
  have hl6_bs : bs < H.n + 1 + 1 + 1 + 1 + 1 + 1 := by omega
  have hl7_bs : bs < H.n + 1 + 1 + 1 + 1 + 1 + 1 + 1 := by omega
  by_cases hok : (cbRes ps d t).2 = true
  · have hce := cb_eu hok
    by_cases hne : 0 < (cbRes ps d t).1.length
    · have heu := (hce.1 hne).1
      have hed := (hce.1 hne).2
      have hnn : ¬ (cbRes ps d t).1 = [] := fun e => by rw [e] at hne; simp at hne
      clear hce
      simp (config := {contextual := true, implicitDefEqProofs := false, maxSteps := 2000000}) [-Int.not_le, -Int.not_lt, argsF, laws_FnPrintings_t5, laws_FnPrintings_t6, laws_FnPrintings_t7, hat_code.blk, hat_code.esz, hat_code.len, hat_code.els, hne_code, hne1_code, hne2_code.1, hne2_code.2.1, hne2_code.2.2.1, hne2_code.2.2.2.1, hne2_code.2.2.2.2.1, hne2_code.2.2.2.2.2.1, hne2_code.2.2.2.2.2.2.1, hne2_code.2.2.2.2.2.2.2.1, hne2_code.2.2.2.2.2.2.2.2.1, hne2_code.2.2.2.2.2.2.2.2.2.1, hne2_code.2.2.2.2.2.2.2.2.2.2, rowK, Enc.decL_map, hcl, hr_bl, hne_bl, hne1_bl, hne2_bl.1, hne2_bl.2.1, hne2_bl.2.2.1, hne2_bl.2.2.2.1, hne2_bl.2.2.2.2.1, hne2_bl.2.2.2.2.2.1, hne2_bl.2.2.2.2.2.2.1, hne2_bl.2.2.2.2.2.2.2.1, hne2_bl.2.2.2.2.2.2.2.2.1, hne2_bl.2.2.2.2.2.2.2.2.2.1, hne2_bl.2.2.2.2.2.2.2.2.2.2, hr_bs, hne_bs, hne1_bs, hne2_bs.1, hne2_bs.2.1, hne2_bs.2.2.1, hne2_bs.2.2.2.1, hne2_bs.2.2.2.2.1, hne2_bs.2.2.2.2.2.1, hne2_bs.2.2.2.2.2.2.1, hne2_bs.2.2.2.2.2.2.2.1, hne2_bs.2.2.2.2.2.2.2.2.1, hne2_bs.2.2.2.2.2.2.2.2.2.1, hne2_bs.2.2.2.2.2.2.2.2.2.2, hok, hne, hnn, heu, hed, ite_self]
      exact laws_FnPrintings_p8 hwf0 hs0 hwf hat0_code h hcl hpl hr_bl hx_bl hr_bs hx_bs (by rw [hok]; rfl)
    · have hl0 : (cbRes ps d t).1.length = 0 := by omega
      have hl0' : (cbRes ps d t).1 = [] := List.eq_nil_of_length_eq_zero hl0
      have hno : ¬ ((euRes ps t).2 = true ∧ (euRes ps t).1 ≤ d) := fun hx => hne (hce.2 hx)
      clear hce
      by_cases heu : (euRes ps t).2 = true
      · have hno2 : ¬ (euRes ps t).1 ≤ d := fun hx => hno ⟨heu, hx⟩
        simp (config := {contextual := true, implicitDefEqProofs := false, maxSteps := 2000000}) [-Int.not_le, -Int.not_lt, argsF, laws_FnPrintings_t5, laws_FnPrintings_t6, laws_FnPrintings_t7, hat_code.blk, hat_code.esz, hat_code.len, hat_code.els, hne_code, hne1_code, hne2_code.1, hne2_code.2.1, hne2_code.2.2.1, hne2_code.2.2.2.1, hne2_code.2.2.2.2.1, hne2_code.2.2.2.2.2.1, hne2_code.2.2.2.2.2.2.1, hne2_code.2.2.2.2.2.2.2.1, hne2_code.2.2.2.2.2.2.2.2.1, hne2_code.2.2.2.2.2.2.2.2.2.1, hne2_code.2.2.2.2.2.2.2.2.2.2, rowK, Enc.decL_map, hcl, hr_bl, hne_bl, hne1_bl, hne2_bl.1, hne2_bl.2.1, hne2_bl.2.2.1, hne2_bl.2.2.2.1, hne2_bl.2.2.2.2.1, hne2_bl.2.2.2.2.2.1, hne2_bl.2.2.2.2.2.2.1, hne2_bl.2.2.2.2.2.2.2.1, hne2_bl.2.2.2.2.2.2.2.2.1, hne2_bl.2.2.2.2.2.2.2.2.2.1, hne2_bl.2.2.2.2.2.2.2.2.2.2, hr_bs, hne_bs, hne1_bs, hne2_bs.1, hne2_bs.2.1, hne2_bs.2.2.1, hne2_bs.2.2.2.1, hne2_bs.2.2.2.2.1, hne2_bs.2.2.2.2.2.1, hne2_bs.2.2.2.2.2.2.1, hne2_bs.2.2.2.2.2.2.2.1, hne2_bs.2.2.2.2.2.2.2.2.1, hne2_bs.2.2.2.2.2.2.2.2.2.1, hne2_bs.2.2.2.2.2.2.2.2.2.2, hok, hl0, hl0', heu, hno2, ite_self]
        exact laws_FnPrintings_p8 hwf0 hs0 hwf hat0_code h hcl hpl hr_bl hx_bl hr_bs hx_bs (by rw [hok, hl0]; rfl)
      · have heu' : (euRes ps t).2 = false := by simpa using heu
        simp (config := {contextual := true, implicitDefEqProofs := false, maxSteps := 2000000}) [-Int.not_le, -Int.not_lt, argsF, laws_FnPrintings_t5, laws_FnPrintings_t6, laws_FnPrintings_t7, hat_code.blk, hat_code.esz, hat_code.len, hat_code.els, hne_code, hne1_code, hne2_code.1, hne2_code.2.1, hne2_code.2.2.1, hne2_code.2.2.2.1, hne2_code.2.2.2.2.1, hne2_code.2.2.2.2.2.1, hne2_code.2.2.2.2.2.2.1, hne2_code.2.2.2.2.2.2.2.1, hne2_code.2.2.2.2.2.2.2.2.1, hne2_code.2.2.2.2.2.2.2.2.2.1, hne2_code.2.2.2.2.2.2.2.2.2.2, rowK, Enc.decL_map, hcl, hr_bl, hne_bl, hne1_bl, hne2_bl.1, hne2_bl.2.1, hne2_bl.2.2.1, hne2_bl.2.2.2.1, hne2_bl.2.2.2.2.1, hne2_bl.2.2.2.2.2.1, hne2_bl.2.2.2.2.2.2.1, hne2_bl.2.2.2.2.2.2.2.1, hne2_bl.2.2.2.2.2.2.2.2.1, hne2_bl.2.2.2.2.2.2.2.2.2.1, hne2_bl.2.2.2.2.2.2.2.2.2.2, hr_bs, hne_bs, hne1_bs, hne2_bs.1, hne2_bs.2.1, hne2_bs.2.2.1, hne2_bs.2.2.2.1, hne2_bs.2.2.2.2.1, hne2_bs.2.2.2.2.2.1, hne2_bs.2.2.2.2.2.2.1, hne2_bs.2.2.2.2.2.2.2.1, hne2_bs.2.2.2.2.2.2.2.2.1, hne2_bs.2.2.2.2.2.2.2.2.2.1, hne2_bs.2.2.2.2.2.2.2.2.2.2, hok, hl0, hl0', heu', ite_self]
        exact laws_FnPrintings_p8 hwf0 hs0 hwf hat0_code h hcl hpl hr_bl hx_bl hr_bs hx_bs (by rw [hok, hl0]; rfl)
  · have hok' : (cbRes ps d t).2 = false := by simpa using hok
    simp (config := {contextual := true, implicitDefEqProofs := false, maxSteps := 2000000}) [-Int.not_le, -Int.not_lt, argsF, laws_FnPrintings_t5, laws_FnPrintings_t6, laws_FnPrintings_t7, hat_code.blk, hat_code.esz, hat_code.len, hat_code.els, hne_code, hne1_code, hne2_code.1, hne2_code.2.1, hne2_code.2.2.1, hne2_code.2.2.2.1, hne2_code.2.2.2.2.1, hne2_code.2.2.2.2.2.1, hne2_code.2.2.2.2.2.2.1, hne2_code.2.2.2.2.2.2.2.1, hne2_code.2.2.2.2.2.2.2.2.1, hne2_code.2.2.2.2.2.2.2.2.2.1, hne2_code.2.2.2.2.2.2.2.2.2.2, rowK, Enc.decL_map, hcl, hr_bl, hne_bl, hne1_bl, hne2_bl.1, hne2_bl.2.1, hne2_bl.2.2.1, hne2_bl.2.2.2.1, hne2_bl.2.2.2.2.1, hne2_bl.2.2.2.2.2.1, hne2_bl.2.2.2.2.2.2.1, hne2_bl.2.2.2.2.2.2.2.1, hne2_bl.2.2.2.2.2.2.2.2.1, hne2_bl.2.2.2.2.2.2.2.2.2.1, hne2_bl.2.2.2.2.2.2.2.2.2.2, hr_bs, hne_bs, hne1_bs, hne2_bs.1, hne2_bs.2.1, hne2_bs.2.2.1, hne2_bs.2.2.2.1, hne2_bs.2.2.2.2.1, hne2_bs.2.2.2.2.2.1, hne2_bs.2.2.2.2.2.2.1, hne2_bs.2.2.2.2.2.2.2.1, hne2_bs.2.2.2.2.2.2.2.2.1, hne2_bs.2.2.2.2.2.2.2.2.2.1, hne2_bs.2.2.2.2.2.2.2.2.2.2, hok', ite_self]
    exact laws_FnPrintings_p8 hwf0 hs0 hwf hat0_code h hcl hpl hr_bl hx_bl hr_bs hx_bs (by rw [hok']; rfl)

theorem laws_FnPrintings_s : Sound Try.prog 3 q_tFnPrintings := by
  intro args H K h
  unfold q_tFnPrintings at h
  split at h
  rotate_left
  all_goals first | exact False.elim h | skip
  rename_i code_v
  have h1 := Enc.rd_at h
  clear h
  obtain ⟨b_code, i_code, k_code, code, rfl, hat_code, h⟩ := h1
  have hE := soundE_cons laws_rBig_s (soundE_cons spec_DrawCanBeOf_s (soundE_cons impl_CanBeOf_s (soundE_cons spec_CanBeOf_s (soundE_cons laws_rInts_s (soundE_cons impl_EarliestUse_s (soundE_cons spec_EarliestUse_s (soundE_cons laws_rHas_s (soundE_cons impl_ChanceOf_s (soundE_cons spec_DrawChanceOf_s (soundE_cons spec_ChanceOf_s (soundE_cons spec_DrawShareOfSheets_s (soundE_cons impl_ShareOfSheets_s (soundE_cons spec_ShareOfSheets_s (soundE_cons impl_SheetsBy_s (soundE_cons spec_DrawSheetsBy_s (soundE_cons spec_SheetsBy_s (soundE_cons impl_ArePrintings_s (soundE_cons spec_ArePrintings_s (soundE_nil (P := Try.prog))))))))))))))))))))
  refine acalls_fn laws_FnPrintings_k hE ⟨by simp, fun hwf => ?_⟩
  have hb_code : b_code < H.n := (hwf b_code k_code hat_code.blk).1
  have hne_code : (b_code = H.n) = False := eq_false (by omega)
  have hne1_code : ∀ i, (b_code = H.n + i) = False := fun i => eq_false (by omega)
  have hne2_code : (b_code = H.n + 1 + 1) = False ∧ (b_code = H.n + 1 + 1 + 1) = False ∧ (b_code = H.n + 1 + 1 + 1 + 1) = False ∧ (b_code = H.n + 1 + 1 + 1 + 1 + 1) = False ∧ (b_code = H.n + 1 + 1 + 1 + 1 + 1 + 1) = False ∧ (b_code = H.n + 1 + 1 + 1 + 1 + 1 + 1 + 1) = False ∧ (b_code = H.n + 1 + 1 + 1 + 1 + 1 + 1 + 1 + 1) = False ∧ (b_code = H.n + 1 + 1 + 1 + 1 + 1 + 1 + 1 + 1 + 1) = False ∧ (b_code = H.n + 1 + 1 + 1 + 1 + 1 + 1 + 1 + 1 + 1 + 1) = False ∧ (b_code = H.n + 1 + 1 + 1 + 1 + 1 + 1 + 1 + 1 + 1 + 1 + 1) = False ∧ (b_code = H.n + 1 + 1 + 1 + 1 + 1 + 1 + 1 + 1 + 1 + 1 + 1 + 1) = False := ⟨eq_false (by omega), eq_false (by omega), eq_false (by omega), eq_false (by omega), eq_false (by omega), eq_false (by omega), eq_false (by omega), eq_false (by omega), eq_false (by omega), eq_false (by omega), eq_false (by omega)⟩
  have hmx_code : code.length ≤ 9223372036854775807 := by have h1 := (hwf b_code k_code hat_code.blk).2.2; have h2 := hat_code.len; omega
  by_cases hbig : 65536 < code.length
  · simp (config := {contextual := true, implicitDefEqProofs := false, maxSteps := 2000000}) [-Int.not_le, -Int.not_lt, argsF, laws_FnPrintings_c, laws_FnPrintings_t1, hat_code.blk, hat_code.esz, hat_code.len, hat_code.els, hne_code, hne1_code, hne2_code.1, hne2_code.2.1, hne2_code.2.2.1, hne2_code.2.2.2.1, hne2_code.2.2.2.2.1, hne2_code.2.2.2.2.2.1, hne2_code.2.2.2.2.2.2.1, hne2_code.2.2.2.2.2.2.2.1, hne2_code.2.2.2.2.2.2.2.2.1, hne2_code.2.2.2.2.2.2.2.2.2.1, hne2_code.2.2.2.2.2.2.2.2.2.2, Enc.decL_map, hbig]
    (refine Out.plain hwf ?_ rfl ?_; (repeat first | exact Sub.refl _ | refine Sub.push hwf ?_ _ | refine Sub.set hwf ?_ (by first | exact Nat.le_refl _ | omega | (simp only [push_n, set_n, kill_n]; omega)) _ | refine Sub.kill hwf ?_ (by first | exact Nat.le_refl _ | omega | (simp only [push_n, set_n, kill_n]; omega)))); exact h
  have hcl : code.length ≤ 65536 := by omega
  simp (config := {contextual := true, implicitDefEqProofs := false, maxSteps := 2000000}) [-Int.not_le, -Int.not_lt, argsF, laws_FnPrintings_c, laws_FnPrintings_t1, laws_FnPrintings_t2, hat_code.blk, hat_code.esz, hat_code.len, hat_code.els, hne_code, hne1_code, hne2_code.1, hne2_code.2.1, hne2_code.2.2.1, hne2_code.2.2.2.1, hne2_code.2.2.2.2.1, hne2_code.2.2.2.2.2.1, hne2_code.2.2.2.2.2.2.1, hne2_code.2.2.2.2.2.2.2.1, hne2_code.2.2.2.2.2.2.2.2.1, hne2_code.2.2.2.2.2.2.2.2.2.1, hne2_code.2.2.2.2.2.2.2.2.2.2, Enc.decL_map, hbig, hcl]
  refine Stop.mk fun ps d t hpl => ?_
  have hcl2 : (cbRes ps d t).1.length ≤ 1000000 := by
    have : (cbRes ps d t).1.length ≤ ps.length := by
      unfold cbRes
      repeat' split
      all_goals first | exact accM_len _ _ _ | simp
    omega
  simp (config := {contextual := true, implicitDefEqProofs := false, maxSteps := 2000000}) [-Int.not_le, -Int.not_lt, argsF, laws_FnPrintings_t2, laws_FnPrintings_t3, laws_FnPrintings_t4, hat_code.blk, hat_code.esz, hat_code.len, hat_code.els, hne_code, hne1_code, hne2_code.1, hne2_code.2.1, hne2_code.2.2.1, hne2_code.2.2.2.1, hne2_code.2.2.2.2.1, hne2_code.2.2.2.2.2.1, hne2_code.2.2.2.2.2.2.1, hne2_code.2.2.2.2.2.2.2.1, hne2_code.2.2.2.2.2.2.2.2.1, hne2_code.2.2.2.2.2.2.2.2.2.1, hne2_code.2.2.2.2.2.2.2.2.2.2, rowK, Enc.decL_map, hcl, ite_self]
  exact laws_FnPrintings_p5 hwf (by (repeat first | exact Sub.refl _ | refine Sub.push hwf ?_ _ | refine Sub.set hwf ?_ (by first | exact Nat.le_refl _ | omega | (simp only [push_n, set_n, kill_n]; omega)) _ | refine Sub.kill hwf ?_ (by first | exact Nat.le_refl _ | omega | (simp only [push_n, set_n, kill_n]; omega)))) (by repeat first | exact hwf | refine WF.push ?_ (plain_map (fun _ => rfl) _) (by first | (simp; done) | (simp; omega))) hat_code h hcl hpl (by simp [push_b, rowK]; done) (by omega) (by simp [push_b, rowK]; done) (by omega) rfl

end Go.Proofs.Ytegmlgikdniohaa
