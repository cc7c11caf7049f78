/- The law on presses: its walk, part by part. -/
import Derived.Test.YtegmlgikdniohaaDoorPrDp
import Derived.Test.YtegmlgikdniohaaDoorPrPm
import Derived.Test.YtegmlgikdniohaaDoorPrTx
import Derived.Test.YtegmlgikdniohaaDoorPrU
set_option maxRecDepth 8000
set_option linter.unusedSimpArgs false
set_option linter.unusedVariables false
namespace Go.Proofs.YtegmlgikdniohaaDoor
open Go Go.RowKit

set_option maxHeartbeats 4000000

def q_tFnPresses : Con := fun args H K => match args with
  | [code_v] => eU.rd H (fun code => (∀ w, H.I w → tabI w) ∧ K (.c (.bool (true))) H) code_v
  | _ => False
@[simp ↓] theorem q_tFnPresses_eq (code_v : AV) (H : AHeap) (K : AV → AHeap → Prop) : q_tFnPresses [code_v] H K = (eU.rd H (fun code => (∀ w, H.I w → tabI w) ∧ K (.c (.bool (true))) H) code_v) := rfl

theorem laws_FnPresses_p21 {H0 H : AHeap} {K : AV → AHeap → Prop} {b_code i_code : Nat} {k_code : ABlk} {code : List UInt8} (hwf0 : H0.WF) (hs0 : Sub H0 H) (hwf : H.WF) (hat0_code : eU.At H0 b_code i_code k_code code) (h : K (.c (.bool true)) H0) (hcl : code.length ≤ 65536) (hI0 : ∀ w, H0.I w → tabI w) {bl : Nat} {ps : List Pr} (hpl : ps.length ≤ 14) (hr_bl : H.b bl = some (rowK ePr 34 ps)) (hx_bl : H0.n ≤ bl) {F : AFrame} (hF : F.keep [0, 3] = [(0, .c (.sl b_code i_code code.length)), (3, .c (.sl (bl) (0) (ps.length)))]) : avc Tryd.prog [(4, q_rBig), (5, q_DNp), (6, q_np), (7, q_np), (8, q_rPrintings), (9, q_sb), (10, q_rp), (11, q_rp), (12, q_DSh), (13, q_ut), (14, q_ut), (15, q_rInts), (16, q_cb), (17, q_DSu), (18, q_su), (19, q_su), (20, q_lp), (21, q_lp), (22, q_DPt), (23, q_pt), (24, q_pt)] 338 H0.n laws_FnPresses_t21 F H (endK Tryd.prog H0.n [.tmp 2] K) := by
  refine (show avc _ _ _ _ _ _ _ _ = _ from avc_cut _ _).mpr ?_
  rw [hF]
  have hat_code : eU.At H b_code i_code k_code code := ⟨hs0.1.2 _ _ hat0_code.blk, hat0_code.esz, hat0_code.len, hat0_code.els⟩
  have hE := soundE_cons laws_rBig_s (soundE_cons spec_DrawNextPrinting_s (soundE_cons impl_NextPrinting_s (soundE_cons spec_NextPrinting_s (soundE_cons laws_rPrintings_s (soundE_cons impl_SheetsBy_s (soundE_cons impl_RarestPrinting_s (soundE_cons spec_RarestPrinting_s (soundE_cons spec_DrawUniqueTones_s (soundE_cons impl_UniqueTones_s (soundE_cons spec_UniqueTones_s (soundE_cons laws_rInts_s (soundE_cons impl_CanBeOf_s (soundE_cons spec_DrawStampsUntil_s (soundE_cons impl_StampsUntil_s (soundE_cons spec_StampsUntil_s (soundE_cons impl_LongestPause_s (soundE_cons spec_LongestPause_s (soundE_cons spec_DrawPrintingText_s (soundE_cons impl_PrintingText_s (soundE_cons spec_PrintingText_s (soundE_nil (P := Tryd.prog))))))))))))))))))))))
  have hn0 : H0.n ≤ H.n := hs0.1.1
  have hb_code : b_code < H.n := (hwf b_code k_code hat_code.blk).1
  have hne_code : (b_code = H.n) = False := eq_false (by omega)
  have hne1_code : ∀ i, (b_code = H.n + i) = False := fun i => eq_false (by omega)
  have hne2_code : (b_code = H.n + 1 + 1) = False ∧ (b_code = H.n + 1 + 1 + 1) = False ∧ (b_code = H.n + 1 + 1 + 1 + 1) = False ∧ (b_code = H.n + 1 + 1 + 1 + 1 + 1) = False ∧ (b_code = H.n + 1 + 1 + 1 + 1 + 1 + 1) = False ∧ (b_code = H.n + 1 + 1 + 1 + 1 + 1 + 1 + 1) = False ∧ (b_code = H.n + 1 + 1 + 1 + 1 + 1 + 1 + 1 + 1) = False ∧ (b_code = H.n + 1 + 1 + 1 + 1 + 1 + 1 + 1 + 1 + 1) = False ∧ (b_code = H.n + 1 + 1 + 1 + 1 + 1 + 1 + 1 + 1 + 1 + 1) = False ∧ (b_code = H.n + 1 + 1 + 1 + 1 + 1 + 1 + 1 + 1 + 1 + 1 + 1) = False ∧ (b_code = H.n + 1 + 1 + 1 + 1 + 1 + 1 + 1 + 1 + 1 + 1 + 1 + 1) = False := ⟨eq_false (by omega), eq_false (by omega), eq_false (by omega), eq_false (by omega), eq_false (by omega), eq_false (by omega), eq_false (by omega), eq_false (by omega), eq_false (by omega), eq_false (by omega), eq_false (by omega)⟩
  have hmx_code : code.length ≤ 9223372036854775807 := by have h1 := (hwf b_code k_code hat_code.blk).2.2; have h2 := hat_code.len; omega
  have hl0_code : b_code < H.n := by omega
  have hl1_code : b_code < H.n + 1 := by omega
  have hl2_code : b_code < H.n + 1 + 1 := by omega
  have hl3_code : b_code < H.n + 1 + 1 + 1 := by omega
  have hl4_code : b_code < H.n + 1 + 1 + 1 + 1 := by omega
  have hl5_code : b_code < H.n + 1 + 1 + 1 + 1 + 1 := by omega
  have hl6_code : b_code < H.n + 1 + 1 + 1 + 1 + 1 + 1 := by omega
  have hl7_code : b_code < H.n + 1 + 1 + 1 + 1 + 1 + 1 + 1 := by omega
  have hb_bl : bl < H.n := (hwf bl _ hr_bl).1
  have hne_bl : (bl = H.n) = False := eq_false (by omega)
  have hne1_bl : ∀ i, (bl = H.n + i) = False := fun i => eq_false (by omega)
  have hne2_bl : (bl = H.n + 1 + 1) = False ∧ (bl = H.n + 1 + 1 + 1) = False ∧ (bl = H.n + 1 + 1 + 1 + 1) = False ∧ (bl = H.n + 1 + 1 + 1 + 1 + 1) = False ∧ (bl = H.n + 1 + 1 + 1 + 1 + 1 + 1) = False ∧ (bl = H.n + 1 + 1 + 1 + 1 + 1 + 1 + 1) = False ∧ (bl = H.n + 1 + 1 + 1 + 1 + 1 + 1 + 1 + 1) = False ∧ (bl = H.n + 1 + 1 + 1 + 1 + 1 + 1 + 1 + 1 + 1) = False ∧ (bl = H.n + 1 + 1 + 1 + 1 + 1 + 1 + 1 + 1 + 1 + 1) = False ∧ (bl = H.n + 1 + 1 + 1 + 1 + 1 + 1 + 1 + 1 + 1 + 1 + 1) = False ∧ (bl = H.n + 1 + 1 + 1 + 1 + 1 + 1 + 1 + 1 + 1 + 1 + 1 + 1) = False := ⟨eq_false (by omega), eq_false (by omega), eq_false (by omega), eq_false (by omega), eq_false (by omega), eq_false (by omega), eq_false (by omega), eq_false (by omega), eq_false (by omega), eq_false (by omega), eq_false (by omega)⟩
  have hl0_bl : bl < H.n := by omega
  have hl1_bl : bl < H.n + 1 := by omega
  have hl2_bl : bl < H.n + 1 + 1 := by omega
  have hl3_bl : bl < H.n + 1 + 1 + 1 := by omega
  have hl4_bl : bl < H.n + 1 + 1 + 1 + 1 := by omega
  have hl5_bl : bl < H.n + 1 + 1 + 1 + 1 + 1 := by omega
  have hl6_bl : bl < H.n + 1 + 1 + 1 + 1 + 1 + 1 := by omega
  have hl7_bl : bl < H.n + 1 + 1 + 1 + 1 + 1 + 1 + 1 := by omega
  have hI : ∀ w, H.I w → tabI w := by rw [← hs0.2]; exact hI0
  simp (config := {contextual := true, implicitDefEqProofs := false, maxSteps := 2000000}) [-Int.not_le, -Int.not_lt, argsF, laws_FnPresses_t21, laws_FnPresses_t22, laws_FnPresses_t23, hat_code.blk, hat_code.esz, hat_code.len, hat_code.els, hne_code, hne1_code, hne2_code.1, hne2_code.2.1, hne2_code.2.2.1, hne2_code.2.2.2.1, hne2_code.2.2.2.2.1, hne2_code.2.2.2.2.2.1, hne2_code.2.2.2.2.2.2.1, hne2_code.2.2.2.2.2.2.2.1, hne2_code.2.2.2.2.2.2.2.2.1, hne2_code.2.2.2.2.2.2.2.2.2.1, hne2_code.2.2.2.2.2.2.2.2.2.2, rowK, Enc.decL_map, hcl, hr_bl, hne_bl, hne1_bl, hne2_bl.1, hne2_bl.2.1, hne2_bl.2.2.1, hne2_bl.2.2.2.1, hne2_bl.2.2.2.2.1, hne2_bl.2.2.2.2.2.1, hne2_bl.2.2.2.2.2.2.1, hne2_bl.2.2.2.2.2.2.2.1, hne2_bl.2.2.2.2.2.2.2.2.1, hne2_bl.2.2.2.2.2.2.2.2.2.1, hne2_bl.2.2.2.2.2.2.2.2.2.2]
  refine Stop.mk fun p => ?_
  simp (config := {contextual := true, implicitDefEqProofs := false, maxSteps := 2000000}) [-Int.not_le, -Int.not_lt, argsF, laws_FnPresses_t21, laws_FnPresses_t22, laws_FnPresses_t23, laws_FnPresses_t24, laws_FnPresses_t25, laws_FnPresses_t26, hat_code.blk, hat_code.esz, hat_code.len, hat_code.els, hne_code, hne1_code, hne2_code.1, hne2_code.2.1, hne2_code.2.2.1, hne2_code.2.2.2.1, hne2_code.2.2.2.2.1, hne2_code.2.2.2.2.2.1, hne2_code.2.2.2.2.2.2.1, hne2_code.2.2.2.2.2.2.2.1, hne2_code.2.2.2.2.2.2.2.2.1, hne2_code.2.2.2.2.2.2.2.2.2.1, hne2_code.2.2.2.2.2.2.2.2.2.2, rowK, Enc.decL_map, hcl, hr_bl, hne_bl, hne1_bl, hne2_bl.1, hne2_bl.2.1, hne2_bl.2.2.1, hne2_bl.2.2.2.1, hne2_bl.2.2.2.2.1, hne2_bl.2.2.2.2.2.1, hne2_bl.2.2.2.2.2.2.1, hne2_bl.2.2.2.2.2.2.2.1, hne2_bl.2.2.2.2.2.2.2.2.1, hne2_bl.2.2.2.2.2.2.2.2.2.1, hne2_bl.2.2.2.2.2.2.2.2.2.2, hI, ite_self]
  (refine Out.plain hwf0 ?_ rfl ?_; (repeat first | exact Sub.refl _ | refine Sub.push hwf0 ?_ _ | refine Sub.set hwf0 ?_ (by first | exact Nat.le_refl _ | omega | (simp only [push_n, set_n, kill_n]; omega)) _ | refine Sub.kill hwf0 ?_ (by first | exact Nat.le_refl _ | omega | (simp only [push_n, set_n, kill_n]; omega))); exact hs0); exact h

theorem laws_FnPresses_loop3 {H0 H : AHeap} {b_code i_code : Nat} {k_code : ABlk} {code : List UInt8} (hwf0 : H0.WF) (hs0 : Sub H0 H) (hwf : H.WF) (hat0_code : eU.At H0 b_code i_code k_code code) {bl bu : Nat} {ps us : List Pr} {per st at_ : Int} {kn : Bool} (hul : us.length ≤ 14) (hk : kn = true → SuInv per st at_ us 0) (hr_bl : H.b bl = some (rowK ePr 34 ps)) (hx_bl : H0.n ≤ bl) (hr_bu : H.b bu = some (rowK ePr 34 us)) (hx_bu : H0.n ≤ bu) {Q : Exit → AFrame → AHeap → Prop} (hfin : ∀ (s v : Int), (kn = true → ¬ s < st) → Q (.exit 6) [(0, .c (.sl b_code i_code code.length)), (3, .c (.sl (bl) (0) (ps.length))), (34, .c (.sl (bu) (0) (us.length))), (35, .c (.int .i64 (per))), (36, .c (.int .i64 (st))), (37, .c (.int .i64 (at_))), (38, .c (.bool (kn))), (41, .c (.int .i64 (s))), (42, .c (.int .i64 (v))), (263, .c (.bool (false)))] H) : ALoop Tryd.prog 338 H0.n laws_FnPresses_l3 [(0, .c (.sl b_code i_code code.length)), (3, .c (.sl (bl) (0) (ps.length))), (34, .c (.sl (bu) (0) (us.length))), (35, .c (.int .i64 (per))), (36, .c (.int .i64 (st))), (37, .c (.int .i64 (at_))), (38, .c (.bool (kn))), (41, .c (.int .i64 (0))), (42, .c (.int .i64 (0)))] H Q := by
  have hat_code : eU.At H b_code i_code k_code code := ⟨hs0.1.2 _ _ hat0_code.blk, hat0_code.esz, hat0_code.len, hat0_code.els⟩
  have hE := soundE_cons laws_rBig_s (soundE_cons spec_DrawNextPrinting_s (soundE_cons impl_NextPrinting_s (soundE_cons spec_NextPrinting_s (soundE_cons laws_rPrintings_s (soundE_cons impl_SheetsBy_s (soundE_cons impl_RarestPrinting_s (soundE_cons spec_RarestPrinting_s (soundE_cons spec_DrawUniqueTones_s (soundE_cons impl_UniqueTones_s (soundE_cons spec_UniqueTones_s (soundE_cons laws_rInts_s (soundE_cons impl_CanBeOf_s (soundE_cons spec_DrawStampsUntil_s (soundE_cons impl_StampsUntil_s (soundE_cons spec_StampsUntil_s (soundE_cons impl_LongestPause_s (soundE_cons spec_LongestPause_s (soundE_cons spec_DrawPrintingText_s (soundE_cons impl_PrintingText_s (soundE_cons spec_PrintingText_s (soundE_nil (P := Tryd.prog))))))))))))))))))))))
  have hn0 : H0.n ≤ H.n := hs0.1.1
  have hb_code : b_code < H.n := (hwf b_code k_code hat_code.blk).1
  have hne_code : (b_code = H.n) = False := eq_false (by omega)
  have hne1_code : ∀ i, (b_code = H.n + i) = False := fun i => eq_false (by omega)
  have hne2_code : (b_code = H.n + 1 + 1) = False ∧ (b_code = H.n + 1 + 1 + 1) = False ∧ (b_code = H.n + 1 + 1 + 1 + 1) = False ∧ (b_code = H.n + 1 + 1 + 1 + 1 + 1) = False ∧ (b_code = H.n + 1 + 1 + 1 + 1 + 1 + 1) = False ∧ (b_code = H.n + 1 + 1 + 1 + 1 + 1 + 1 + 1) = False ∧ (b_code = H.n + 1 + 1 + 1 + 1 + 1 + 1 + 1 + 1) = False ∧ (b_code = H.n + 1 + 1 + 1 + 1 + 1 + 1 + 1 + 1 + 1) = False ∧ (b_code = H.n + 1 + 1 + 1 + 1 + 1 + 1 + 1 + 1 + 1 + 1) = False ∧ (b_code = H.n + 1 + 1 + 1 + 1 + 1 + 1 + 1 + 1 + 1 + 1 + 1) = False ∧ (b_code = H.n + 1 + 1 + 1 + 1 + 1 + 1 + 1 + 1 + 1 + 1 + 1 + 1) = False := ⟨eq_false (by omega), eq_false (by omega), eq_false (by omega), eq_false (by omega), eq_false (by omega), eq_false (by omega), eq_false (by omega), eq_false (by omega), eq_false (by omega), eq_false (by omega), eq_false (by omega)⟩
  have hmx_code : code.length ≤ 9223372036854775807 := by have h1 := (hwf b_code k_code hat_code.blk).2.2; have h2 := hat_code.len; omega
  have hl0_code : b_code < H.n := by omega
  have hl1_code : b_code < H.n + 1 := by omega
  have hl2_code : b_code < H.n + 1 + 1 := by omega
  have hl3_code : b_code < H.n + 1 + 1 + 1 := by omega
  have hl4_code : b_code < H.n + 1 + 1 + 1 + 1 := by omega
  have hl5_code : b_code < H.n + 1 + 1 + 1 + 1 + 1 := by omega
  have hl6_code : b_code < H.n + 1 + 1 + 1 + 1 + 1 + 1 := by omega
  have hl7_code : b_code < H.n + 1 + 1 + 1 + 1 + 1 + 1 + 1 := by omega
  have hb_bl : bl < H.n := (hwf bl _ hr_bl).1
  have hne_bl : (bl = H.n) = False := eq_false (by omega)
  have hne1_bl : ∀ i, (bl = H.n + i) = False := fun i => eq_false (by omega)
  have hne2_bl : (bl = H.n + 1 + 1) = False ∧ (bl = H.n + 1 + 1 + 1) = False ∧ (bl = H.n + 1 + 1 + 1 + 1) = False ∧ (bl = H.n + 1 + 1 + 1 + 1 + 1) = False ∧ (bl = H.n + 1 + 1 + 1 + 1 + 1 + 1) = False ∧ (bl = H.n + 1 + 1 + 1 + 1 + 1 + 1 + 1) = False ∧ (bl = H.n + 1 + 1 + 1 + 1 + 1 + 1 + 1 + 1) = False ∧ (bl = H.n + 1 + 1 + 1 + 1 + 1 + 1 + 1 + 1 + 1) = False ∧ (bl = H.n + 1 + 1 + 1 + 1 + 1 + 1 + 1 + 1 + 1 + 1) = False ∧ (bl = H.n + 1 + 1 + 1 + 1 + 1 + 1 + 1 + 1 + 1 + 1 + 1) = False ∧ (bl = H.n + 1 + 1 + 1 + 1 + 1 + 1 + 1 + 1 + 1 + 1 + 1 + 1) = False := ⟨eq_false (by omega), eq_false (by omega), eq_false (by omega), eq_false (by omega), eq_false (by omega), eq_false (by omega), eq_false (by omega), eq_false (by omega), eq_false (by omega), eq_false (by omega), eq_false (by omega)⟩
  have hl0_bl : bl < H.n := by omega
  have hl1_bl : bl < H.n + 1 := by omega
  have hl2_bl : bl < H.n + 1 + 1 := by omega
  have hl3_bl : bl < H.n + 1 + 1 + 1 := by omega
  have hl4_bl : bl < H.n + 1 + 1 + 1 + 1 := by omega
  have hl5_bl : bl < H.n + 1 + 1 + 1 + 1 + 1 := by omega
  have hl6_bl : bl < H.n + 1 + 1 + 1 + 1 + 1 + 1 := by omega
  have hl7_bl : bl < H.n + 1 + 1 + 1 + 1 + 1 + 1 + 1 := by omega
  have hb_bu : bu < H.n := (hwf bu _ hr_bu).1
  have hne_bu : (bu = H.n) = False := eq_false (by omega)
  have hne1_bu : ∀ i, (bu = H.n + i) = False := fun i => eq_false (by omega)
  have hne2_bu : (bu = H.n + 1 + 1) = False ∧ (bu = H.n + 1 + 1 + 1) = False ∧ (bu = H.n + 1 + 1 + 1 + 1) = False ∧ (bu = H.n + 1 + 1 + 1 + 1 + 1) = False ∧ (bu = H.n + 1 + 1 + 1 + 1 + 1 + 1) = False ∧ (bu = H.n + 1 + 1 + 1 + 1 + 1 + 1 + 1) = False ∧ (bu = H.n + 1 + 1 + 1 + 1 + 1 + 1 + 1 + 1) = False ∧ (bu = H.n + 1 + 1 + 1 + 1 + 1 + 1 + 1 + 1 + 1) = False ∧ (bu = H.n + 1 + 1 + 1 + 1 + 1 + 1 + 1 + 1 + 1 + 1) = False ∧ (bu = H.n + 1 + 1 + 1 + 1 + 1 + 1 + 1 + 1 + 1 + 1 + 1) = False ∧ (bu = H.n + 1 + 1 + 1 + 1 + 1 + 1 + 1 + 1 + 1 + 1 + 1 + 1) = False := ⟨eq_false (by omega), eq_false (by omega), eq_false (by omega), eq_false (by omega), eq_false (by omega), eq_false (by omega), eq_false (by omega), eq_false (by omega), eq_false (by omega), eq_false (by omega), eq_false (by omega)⟩
  have hl0_bu : bu < H.n := by omega
  have hl1_bu : bu < H.n + 1 := by omega
  have hl2_bu : bu < H.n + 1 + 1 := by omega
  have hl3_bu : bu < H.n + 1 + 1 + 1 := by omega
  have hl4_bu : bu < H.n + 1 + 1 + 1 + 1 := by omega
  have hl5_bu : bu < H.n + 1 + 1 + 1 + 1 + 1 := by omega
  have hl6_bu : bu < H.n + 1 + 1 + 1 + 1 + 1 + 1 := by omega
  have hl7_bu : bu < H.n + 1 + 1 + 1 + 1 + 1 + 1 + 1 := by omega
  cases kn with
  | false =>
    clear hk
    refine aloop_list ([] : List Pr) (fun j _ => [(0, .c (.sl b_code i_code code.length)), (3, .c (.sl (bl) (0) (ps.length))), (34, .c (.sl (bu) (0) (us.length))), (35, .c (.int .i64 (per))), (36, .c (.int .i64 (st))), (37, .c (.int .i64 (at_))), (38, .c (.bool (false))), (41, .c (.int .i64 (0))), (42, .c (.int .i64 (0)))]) (fun _ _ => H) (fun j l _ => True) hE _ () trivial (.since hn0 hwf (.refl _) (by simp [frOk, AV.okR, AV.ok1, AC.okR, AV.ren, AV.ren1, AC.ren, AFrame.get, pl1_old, hl0_code, hl1_code, hl2_code, hl3_code, hl4_code, hl5_code, hl6_code, hl7_code, hl0_bl, hl1_bl, hl2_bl, hl3_bl, hl4_bl, hl5_bl, hl6_bl, hl7_bl, hl0_bu, hl1_bu, hl2_bu, hl3_bu, hl4_bu, hl5_bu, hl6_bu, hl7_bu]; first | done | rfl | omega)) (fun j _ hlt _ => absurd hlt (Nat.not_lt_zero _)) fun _ _ => ?_
    have hf := hfin 0 0 (fun e => by cases e)
    by_cases hu : 0 < us.length
    · have hu2 : (0 : Int) < (us.length : Int) := by omega
      simp (config := {contextual := true, implicitDefEqProofs := false, maxSteps := 2000000}) [-Int.not_le, -Int.not_lt, argsF, laws_FnPresses_l3, hat_code.blk, hat_code.esz, hat_code.len, hat_code.els, hne_code, hne1_code, hne2_code.1, hne2_code.2.1, hne2_code.2.2.1, hne2_code.2.2.2.1, hne2_code.2.2.2.2.1, hne2_code.2.2.2.2.2.1, hne2_code.2.2.2.2.2.2.1, hne2_code.2.2.2.2.2.2.2.1, hne2_code.2.2.2.2.2.2.2.2.1, hne2_code.2.2.2.2.2.2.2.2.2.1, hne2_code.2.2.2.2.2.2.2.2.2.2, rowK, Enc.decL_map, hr_bl, hne_bl, hne1_bl, hne2_bl.1, hne2_bl.2.1, hne2_bl.2.2.1, hne2_bl.2.2.2.1, hne2_bl.2.2.2.2.1, hne2_bl.2.2.2.2.2.1, hne2_bl.2.2.2.2.2.2.1, hne2_bl.2.2.2.2.2.2.2.1, hne2_bl.2.2.2.2.2.2.2.2.1, hne2_bl.2.2.2.2.2.2.2.2.2.1, hne2_bl.2.2.2.2.2.2.2.2.2.2, hr_bu, hne_bu, hne1_bu, hne2_bu.1, hne2_bu.2.1, hne2_bu.2.2.1, hne2_bu.2.2.2.1, hne2_bu.2.2.2.2.1, hne2_bu.2.2.2.2.2.1, hne2_bu.2.2.2.2.2.2.1, hne2_bu.2.2.2.2.2.2.2.1, hne2_bu.2.2.2.2.2.2.2.2.1, hne2_bu.2.2.2.2.2.2.2.2.2.1, hne2_bu.2.2.2.2.2.2.2.2.2.2, hu, hu2]
      exact hf
    · have hu2 : ¬ (0 : Int) < (us.length : Int) := by omega
      have hu3 : us.length = 0 := by omega
      simp (config := {contextual := true, implicitDefEqProofs := false, maxSteps := 2000000}) [-Int.not_le, -Int.not_lt, argsF, laws_FnPresses_l3, hat_code.blk, hat_code.esz, hat_code.len, hat_code.els, hne_code, hne1_code, hne2_code.1, hne2_code.2.1, hne2_code.2.2.1, hne2_code.2.2.2.1, hne2_code.2.2.2.2.1, hne2_code.2.2.2.2.2.1, hne2_code.2.2.2.2.2.2.1, hne2_code.2.2.2.2.2.2.2.1, hne2_code.2.2.2.2.2.2.2.2.1, hne2_code.2.2.2.2.2.2.2.2.2.1, hne2_code.2.2.2.2.2.2.2.2.2.2, rowK, Enc.decL_map, hr_bl, hne_bl, hne1_bl, hne2_bl.1, hne2_bl.2.1, hne2_bl.2.2.1, hne2_bl.2.2.2.1, hne2_bl.2.2.2.2.1, hne2_bl.2.2.2.2.2.1, hne2_bl.2.2.2.2.2.2.1, hne2_bl.2.2.2.2.2.2.2.1, hne2_bl.2.2.2.2.2.2.2.2.1, hne2_bl.2.2.2.2.2.2.2.2.2.1, hne2_bl.2.2.2.2.2.2.2.2.2.2, hr_bu, hne_bu, hne1_bu, hne2_bu.1, hne2_bu.2.1, hne2_bu.2.2.1, hne2_bu.2.2.2.1, hne2_bu.2.2.2.2.1, hne2_bu.2.2.2.2.2.1, hne2_bu.2.2.2.2.2.2.1, hne2_bu.2.2.2.2.2.2.2.1, hne2_bu.2.2.2.2.2.2.2.2.1, hne2_bu.2.2.2.2.2.2.2.2.2.1, hne2_bu.2.2.2.2.2.2.2.2.2.2, hu2, hu3]
      rw [hu3] at hf
      exact hf
  | true =>
    have hs := hk rfl
    clear hk
    refine aloop_list us (fun j (s : Int) => [(0, .c (.sl b_code i_code code.length)), (3, .c (.sl (bl) (0) (ps.length))), (34, .c (.sl (bu) (0) (us.length))), (35, .c (.int .i64 (per))), (36, .c (.int .i64 (st))), (37, .c (.int .i64 (at_))), (38, .c (.bool (true))), (41, .c (.int .i64 (s))), (42, .c (.int .i64 ((j : Int))))]) (fun _ _ => H) (fun j l s => SuInv per st at_ l s) hE _ 0 hs (.since hn0 hwf (.refl _) (by simp [frOk, AV.okR, AV.ok1, AC.okR, AV.ren, AV.ren1, AC.ren, AFrame.get, pl1_old, hl0_code, hl1_code, hl2_code, hl3_code, hl4_code, hl5_code, hl6_code, hl7_code, hl0_bl, hl1_bl, hl2_bl, hl3_bl, hl4_bl, hl5_bl, hl6_bl, hl7_bl, hl0_bu, hl1_bu, hl2_bu, hl3_bu, hl4_bu, hl5_bu, hl6_bu, hl7_bu]; first | done | rfl | omega)) (fun j s hlt hi => ?_) fun s hi => ?_
    · have hj1 := idx_lt hlt
      have w1 : IntKind.i64.wrap ((j : Int) + 1) = (j : Int) + 1 := wrap_id (by omega) (by omega)
      have hst := su_step hi
      by_cases hc : us[j].num ≤ at_
      · obtain ⟨h1, h2⟩ := hst.1 hc
        clear hst
        simp (config := {contextual := true, implicitDefEqProofs := false, maxSteps := 2000000}) [-Int.not_le, -Int.not_lt, argsF, laws_FnPresses_l3, hat_code.blk, hat_code.esz, hat_code.len, hat_code.els, hne_code, hne1_code, hne2_code.1, hne2_code.2.1, hne2_code.2.2.1, hne2_code.2.2.2.1, hne2_code.2.2.2.2.1, hne2_code.2.2.2.2.2.1, hne2_code.2.2.2.2.2.2.1, hne2_code.2.2.2.2.2.2.2.1, hne2_code.2.2.2.2.2.2.2.2.1, hne2_code.2.2.2.2.2.2.2.2.2.1, hne2_code.2.2.2.2.2.2.2.2.2.2, rowK, Enc.decL_map, hr_bl, hne_bl, hne1_bl, hne2_bl.1, hne2_bl.2.1, hne2_bl.2.2.1, hne2_bl.2.2.2.1, hne2_bl.2.2.2.2.1, hne2_bl.2.2.2.2.2.1, hne2_bl.2.2.2.2.2.2.1, hne2_bl.2.2.2.2.2.2.2.1, hne2_bl.2.2.2.2.2.2.2.2.1, hne2_bl.2.2.2.2.2.2.2.2.2.1, hne2_bl.2.2.2.2.2.2.2.2.2.2, hr_bu, hne_bu, hne1_bu, hne2_bu.1, hne2_bu.2.1, hne2_bu.2.2.1, hne2_bu.2.2.2.1, hne2_bu.2.2.2.2.1, hne2_bu.2.2.2.2.2.1, hne2_bu.2.2.2.2.2.2.1, hne2_bu.2.2.2.2.2.2.2.1, hne2_bu.2.2.2.2.2.2.2.2.1, hne2_bu.2.2.2.2.2.2.2.2.2.1, hne2_bu.2.2.2.2.2.2.2.2.2.2, hj1, w1, hlt, hc, h1]
        exact ⟨_, h2, .since hn0 hwf (.refl _) (by simp [frOk, AV.okR, AV.ok1, AC.okR, AV.ren, AV.ren1, AC.ren, AFrame.get, pl1_old, hl0_code, hl1_code, hl2_code, hl3_code, hl4_code, hl5_code, hl6_code, hl7_code, hl0_bl, hl1_bl, hl2_bl, hl3_bl, hl4_bl, hl5_bl, hl6_bl, hl7_bl, hl0_bu, hl1_bu, hl2_bu, hl3_bu, hl4_bu, hl5_bu, hl6_bu, hl7_bu]; first | done | rfl | omega)⟩
      · have h2 := hst.2 hc
        clear hst
        simp (config := {contextual := true, implicitDefEqProofs := false, maxSteps := 2000000}) [-Int.not_le, -Int.not_lt, argsF, laws_FnPresses_l3, hat_code.blk, hat_code.esz, hat_code.len, hat_code.els, hne_code, hne1_code, hne2_code.1, hne2_code.2.1, hne2_code.2.2.1, hne2_code.2.2.2.1, hne2_code.2.2.2.2.1, hne2_code.2.2.2.2.2.1, hne2_code.2.2.2.2.2.2.1, hne2_code.2.2.2.2.2.2.2.1, hne2_code.2.2.2.2.2.2.2.2.1, hne2_code.2.2.2.2.2.2.2.2.2.1, hne2_code.2.2.2.2.2.2.2.2.2.2, rowK, Enc.decL_map, hr_bl, hne_bl, hne1_bl, hne2_bl.1, hne2_bl.2.1, hne2_bl.2.2.1, hne2_bl.2.2.2.1, hne2_bl.2.2.2.2.1, hne2_bl.2.2.2.2.2.1, hne2_bl.2.2.2.2.2.2.1, hne2_bl.2.2.2.2.2.2.2.1, hne2_bl.2.2.2.2.2.2.2.2.1, hne2_bl.2.2.2.2.2.2.2.2.2.1, hne2_bl.2.2.2.2.2.2.2.2.2.2, hr_bu, hne_bu, hne1_bu, hne2_bu.1, hne2_bu.2.1, hne2_bu.2.2.1, hne2_bu.2.2.2.1, hne2_bu.2.2.2.2.1, hne2_bu.2.2.2.2.2.1, hne2_bu.2.2.2.2.2.2.1, hne2_bu.2.2.2.2.2.2.2.1, hne2_bu.2.2.2.2.2.2.2.2.1, hne2_bu.2.2.2.2.2.2.2.2.2.1, hne2_bu.2.2.2.2.2.2.2.2.2.2, hj1, w1, hlt, hc]
        exact ⟨_, h2, .since hn0 hwf (.refl _) (by simp [frOk, AV.okR, AV.ok1, AC.okR, AV.ren, AV.ren1, AC.ren, AFrame.get, pl1_old, hl0_code, hl1_code, hl2_code, hl3_code, hl4_code, hl5_code, hl6_code, hl7_code, hl0_bl, hl1_bl, hl2_bl, hl3_bl, hl4_bl, hl5_bl, hl6_bl, hl7_bl, hl0_bu, hl1_bu, hl2_bu, hl3_bu, hl4_bu, hl5_bu, hl6_bu, hl7_bu]; first | done | rfl | omega)⟩
    · have hf := hfin s (us.length : Int) (fun _ => su_end hi)
      simp (config := {contextual := true, implicitDefEqProofs := false, maxSteps := 2000000}) [-Int.not_le, -Int.not_lt, argsF, laws_FnPresses_l3, hat_code.blk, hat_code.esz, hat_code.len, hat_code.els, hne_code, hne1_code, hne2_code.1, hne2_code.2.1, hne2_code.2.2.1, hne2_code.2.2.2.1, hne2_code.2.2.2.2.1, hne2_code.2.2.2.2.2.1, hne2_code.2.2.2.2.2.2.1, hne2_code.2.2.2.2.2.2.2.1, hne2_code.2.2.2.2.2.2.2.2.1, hne2_code.2.2.2.2.2.2.2.2.2.1, hne2_code.2.2.2.2.2.2.2.2.2.2, rowK, Enc.decL_map, hr_bl, hne_bl, hne1_bl, hne2_bl.1, hne2_bl.2.1, hne2_bl.2.2.1, hne2_bl.2.2.2.1, hne2_bl.2.2.2.2.1, hne2_bl.2.2.2.2.2.1, hne2_bl.2.2.2.2.2.2.1, hne2_bl.2.2.2.2.2.2.2.1, hne2_bl.2.2.2.2.2.2.2.2.1, hne2_bl.2.2.2.2.2.2.2.2.2.1, hne2_bl.2.2.2.2.2.2.2.2.2.2, hr_bu, hne_bu, hne1_bu, hne2_bu.1, hne2_bu.2.1, hne2_bu.2.2.1, hne2_bu.2.2.2.1, hne2_bu.2.2.2.2.1, hne2_bu.2.2.2.2.2.1, hne2_bu.2.2.2.2.2.2.1, hne2_bu.2.2.2.2.2.2.2.1, hne2_bu.2.2.2.2.2.2.2.2.1, hne2_bu.2.2.2.2.2.2.2.2.2.1, hne2_bu.2.2.2.2.2.2.2.2.2.2]
      exact hf

theorem laws_FnPresses_p15 {H0 H : AHeap} {K : AV → AHeap → Prop} {b_code i_code : Nat} {k_code : ABlk} {code : List UInt8} (hwf0 : H0.WF) (hs0 : Sub H0 H) (hwf : H.WF) (hat0_code : eU.At H0 b_code i_code k_code code) (h : K (.c (.bool true)) H0) (hcl : code.length ≤ 65536) (hI0 : ∀ w, H0.I w → tabI w) {bl : Nat} {ps : List Pr} (hpl : ps.length ≤ 14) (hr_bl : H.b bl = some (rowK ePr 34 ps)) (hx_bl : H0.n ≤ bl) {F : AFrame} (hF : F.keep [0, 3] = [(0, .c (.sl b_code i_code code.length)), (3, .c (.sl (bl) (0) (ps.length)))]) : avc Tryd.prog [(4, q_rBig), (5, q_DNp), (6, q_np), (7, q_np), (8, q_rPrintings), (9, q_sb), (10, q_rp), (11, q_rp), (12, q_DSh), (13, q_ut), (14, q_ut), (15, q_rInts), (16, q_cb), (17, q_DSu), (18, q_su), (19, q_su), (20, q_lp), (21, q_lp), (22, q_DPt), (23, q_pt), (24, q_pt)] 338 H0.n laws_FnPresses_t15 F H (endK Tryd.prog H0.n [.tmp 2] K) := by
  refine (show avc _ _ _ _ _ _ _ _ = _ from avc_cut _ _).mpr ?_
  rw [hF]
  have hat_code : eU.At H b_code i_code k_code code := ⟨hs0.1.2 _ _ hat0_code.blk, hat0_code.esz, hat0_code.len, hat0_code.els⟩
  have hE := soundE_cons laws_rBig_s (soundE_cons spec_DrawNextPrinting_s (soundE_cons impl_NextPrinting_s (soundE_cons spec_NextPrinting_s (soundE_cons laws_rPrintings_s (soundE_cons impl_SheetsBy_s (soundE_cons impl_RarestPrinting_s (soundE_cons spec_RarestPrinting_s (soundE_cons spec_DrawUniqueTones_s (soundE_cons impl_UniqueTones_s (soundE_cons spec_UniqueTones_s (soundE_cons laws_rInts_s (soundE_cons impl_CanBeOf_s (soundE_cons spec_DrawStampsUntil_s (soundE_cons impl_StampsUntil_s (soundE_cons spec_StampsUntil_s (soundE_cons impl_LongestPause_s (soundE_cons spec_LongestPause_s (soundE_cons spec_DrawPrintingText_s (soundE_cons impl_PrintingText_s (soundE_cons spec_PrintingText_s (soundE_nil (P := Tryd.prog))))))))))))))))))))))
  have hn0 : H0.n ≤ H.n := hs0.1.1
  have hb_code : b_code < H.n := (hwf b_code k_code hat_code.blk).1
  have hne_code : (b_code = H.n) = False := eq_false (by omega)
  have hne1_code : ∀ i, (b_code = H.n + i) = False := fun i => eq_false (by omega)
  have hne2_code : (b_code = H.n + 1 + 1) = False ∧ (b_code = H.n + 1 + 1 + 1) = False ∧ (b_code = H.n + 1 + 1 + 1 + 1) = False ∧ (b_code = H.n + 1 + 1 + 1 + 1 + 1) = False ∧ (b_code = H.n + 1 + 1 + 1 + 1 + 1 + 1) = False ∧ (b_code = H.n + 1 + 1 + 1 + 1 + 1 + 1 + 1) = False ∧ (b_code = H.n + 1 + 1 + 1 + 1 + 1 + 1 + 1 + 1) = False ∧ (b_code = H.n + 1 + 1 + 1 + 1 + 1 + 1 + 1 + 1 + 1) = False ∧ (b_code = H.n + 1 + 1 + 1 + 1 + 1 + 1 + 1 + 1 + 1 + 1) = False ∧ (b_code = H.n + 1 + 1 + 1 + 1 + 1 + 1 + 1 + 1 + 1 + 1 + 1) = False ∧ (b_code = H.n + 1 + 1 + 1 + 1 + 1 + 1 + 1 + 1 + 1 + 1 + 1 + 1) = False := ⟨eq_false (by omega), eq_false (by omega), eq_false (by omega), eq_false (by omega), eq_false (by omega), eq_false (by omega), eq_false (by omega), eq_false (by omega), eq_false (by omega), eq_false (by omega), eq_false (by omega)⟩
  have hmx_code : code.length ≤ 9223372036854775807 := by have h1 := (hwf b_code k_code hat_code.blk).2.2; have h2 := hat_code.len; omega
  have hl0_code : b_code < H.n := by omega
  have hl1_code : b_code < H.n + 1 := by omega
  have hl2_code : b_code < H.n + 1 + 1 := by omega
  have hl3_code : b_code < H.n + 1 + 1 + 1 := by omega
  have hl4_code : b_code < H.n + 1 + 1 + 1 + 1 := by omega
  have hl5_code : b_code < H.n + 1 + 1 + 1 + 1 + 1 := by omega
  have hl6_code : b_code < H.n + 1 + 1 + 1 + 1 + 1 + 1 := by omega
  have hl7_code : b_code < H.n + 1 + 1 + 1 + 1 + 1 + 1 + 1 := by omega
  have hb_bl : bl < H.n := (hwf bl _ hr_bl).1
  have hne_bl : (bl = H.n) = False := eq_false (by omega)
  have hne1_bl : ∀ i, (bl = H.n + i) = False := fun i => eq_false (by omega)
  have hne2_bl : (bl = H.n + 1 + 1) = False ∧ (bl = H.n + 1 + 1 + 1) = False ∧ (bl = H.n + 1 + 1 + 1 + 1) = False ∧ (bl = H.n + 1 + 1 + 1 + 1 + 1) = False ∧ (bl = H.n + 1 + 1 + 1 + 1 + 1 + 1) = False ∧ (bl = H.n + 1 + 1 + 1 + 1 + 1 + 1 + 1) = False ∧ (bl = H.n + 1 + 1 + 1 + 1 + 1 + 1 + 1 + 1) = False ∧ (bl = H.n + 1 + 1 + 1 + 1 + 1 + 1 + 1 + 1 + 1) = False ∧ (bl = H.n + 1 + 1 + 1 + 1 + 1 + 1 + 1 + 1 + 1 + 1) = False ∧ (bl = H.n + 1 + 1 + 1 + 1 + 1 + 1 + 1 + 1 + 1 + 1 + 1) = False ∧ (bl = H.n + 1 + 1 + 1 + 1 + 1 + 1 + 1 + 1 + 1 + 1 + 1 + 1) = False := ⟨eq_false (by omega), eq_false (by omega), eq_false (by omega), eq_false (by omega), eq_false (by omega), eq_false (by omega), eq_false (by omega), eq_false (by omega), eq_false (by omega), eq_false (by omega), eq_false (by omega)⟩
  have hl0_bl : bl < H.n := by omega
  have hl1_bl : bl < H.n + 1 := by omega
  have hl2_bl : bl < H.n + 1 + 1 := by omega
  have hl3_bl : bl < H.n + 1 + 1 + 1 := by omega
  have hl4_bl : bl < H.n + 1 + 1 + 1 + 1 := by omega
  have hl5_bl : bl < H.n + 1 + 1 + 1 + 1 + 1 := by omega
  have hl6_bl : bl < H.n + 1 + 1 + 1 + 1 + 1 + 1 := by omega
  have hl7_bl : bl < H.n + 1 + 1 + 1 + 1 + 1 + 1 + 1 := by omega
  simp (config := {contextual := true, implicitDefEqProofs := false, maxSteps := 2000000}) [-Int.not_le, -Int.not_lt, argsF, laws_FnPresses_t15, laws_FnPresses_t16, laws_FnPresses_t17, laws_FnPresses_t18, laws_FnPresses_t19, hat_code.blk, hat_code.esz, hat_code.len, hat_code.els, hne_code, hne1_code, hne2_code.1, hne2_code.2.1, hne2_code.2.2.1, hne2_code.2.2.2.1, hne2_code.2.2.2.2.1, hne2_code.2.2.2.2.2.1, hne2_code.2.2.2.2.2.2.1, hne2_code.2.2.2.2.2.2.2.1, hne2_code.2.2.2.2.2.2.2.2.1, hne2_code.2.2.2.2.2.2.2.2.2.1, hne2_code.2.2.2.2.2.2.2.2.2.2, rowK, Enc.decL_map, hcl, hr_bl, hne_bl, hne1_bl, hne2_bl.1, hne2_bl.2.1, hne2_bl.2.2.1, hne2_bl.2.2.2.1, hne2_bl.2.2.2.2.1, hne2_bl.2.2.2.2.2.1, hne2_bl.2.2.2.2.2.2.1, hne2_bl.2.2.2.2.2.2.2.1, hne2_bl.2.2.2.2.2.2.2.2.1, hne2_bl.2.2.2.2.2.2.2.2.2.1, hne2_bl.2.2.2.2.2.2.2.2.2.2]
  refine Stop.mk fun us per st hul => ?_
  simp (config := {contextual := true, implicitDefEqProofs := false, maxSteps := 2000000}) [-Int.not_le, -Int.not_lt, argsF, laws_FnPresses_t15, laws_FnPresses_t16, laws_FnPresses_t17, laws_FnPresses_t18, laws_FnPresses_t19, hat_code.blk, hat_code.esz, hat_code.len, hat_code.els, hne_code, hne1_code, hne2_code.1, hne2_code.2.1, hne2_code.2.2.1, hne2_code.2.2.2.1, hne2_code.2.2.2.2.1, hne2_code.2.2.2.2.2.1, hne2_code.2.2.2.2.2.2.1, hne2_code.2.2.2.2.2.2.2.1, hne2_code.2.2.2.2.2.2.2.2.1, hne2_code.2.2.2.2.2.2.2.2.2.1, hne2_code.2.2.2.2.2.2.2.2.2.2, rowK, Enc.decL_map, hcl, hr_bl, hne_bl, hne1_bl, hne2_bl.1, hne2_bl.2.1, hne2_bl.2.2.1, hne2_bl.2.2.2.1, hne2_bl.2.2.2.2.1, hne2_bl.2.2.2.2.2.1, hne2_bl.2.2.2.2.2.2.1, hne2_bl.2.2.2.2.2.2.2.1, hne2_bl.2.2.2.2.2.2.2.2.1, hne2_bl.2.2.2.2.2.2.2.2.2.1, hne2_bl.2.2.2.2.2.2.2.2.2.2, ite_self]
  refine laws_FnPresses_loop3 hwf0 (by (repeat first | exact Sub.refl _ | refine Sub.push hwf0 ?_ _ | refine Sub.set hwf0 ?_ (by first | exact Nat.le_refl _ | omega | (simp only [push_n, set_n, kill_n]; omega)) _ | refine Sub.kill hwf0 ?_ (by first | exact Nat.le_refl _ | omega | (simp only [push_n, set_n, kill_n]; omega))); exact hs0) (by repeat first | exact hwf | refine WF.push ?_ (plain_map (fun _ => rfl) _) (by first | (simp; done) | (simp; omega))) hat0_code hul (fun hk => su_start hk) (by simp [push_b, set_b, kill_b, hat_code.blk, hat_code.esz, hat_code.len, hat_code.els, hne_code, hne1_code, hne2_code.1, hne2_code.2.1, hne2_code.2.2.1, hne2_code.2.2.2.1, hne2_code.2.2.2.2.1, hne2_code.2.2.2.2.2.1, hne2_code.2.2.2.2.2.2.1, hne2_code.2.2.2.2.2.2.2.1, hne2_code.2.2.2.2.2.2.2.2.1, hne2_code.2.2.2.2.2.2.2.2.2.1, hne2_code.2.2.2.2.2.2.2.2.2.2, rowK, Enc.decL_map, hcl, hr_bl, hne_bl, hne1_bl, hne2_bl.1, hne2_bl.2.1, hne2_bl.2.2.1, hne2_bl.2.2.2.1, hne2_bl.2.2.2.2.1, hne2_bl.2.2.2.2.2.1, hne2_bl.2.2.2.2.2.2.1, hne2_bl.2.2.2.2.2.2.2.1, hne2_bl.2.2.2.2.2.2.2.2.1, hne2_bl.2.2.2.2.2.2.2.2.2.1, hne2_bl.2.2.2.2.2.2.2.2.2.2]; done) hx_bl (by simp [push_b, set_b, kill_b, rowK]; done) (by omega) fun s v hs => ?_
  by_cases hk : (suRes us per st).2 = true
  · have hs2 := hs hk
    clear hs
    simp (config := {contextual := true, implicitDefEqProofs := false, maxSteps := 2000000}) [-Int.not_le, -Int.not_lt, argsF, laws_FnPresses_t19, laws_FnPresses_t20, hat_code.blk, hat_code.esz, hat_code.len, hat_code.els, hne_code, hne1_code, hne2_code.1, hne2_code.2.1, hne2_code.2.2.1, hne2_code.2.2.2.1, hne2_code.2.2.2.2.1, hne2_code.2.2.2.2.2.1, hne2_code.2.2.2.2.2.2.1, hne2_code.2.2.2.2.2.2.2.1, hne2_code.2.2.2.2.2.2.2.2.1, hne2_code.2.2.2.2.2.2.2.2.2.1, hne2_code.2.2.2.2.2.2.2.2.2.2, rowK, Enc.decL_map, hcl, hr_bl, hne_bl, hne1_bl, hne2_bl.1, hne2_bl.2.1, hne2_bl.2.2.1, hne2_bl.2.2.2.1, hne2_bl.2.2.2.2.1, hne2_bl.2.2.2.2.2.1, hne2_bl.2.2.2.2.2.2.1, hne2_bl.2.2.2.2.2.2.2.1, hne2_bl.2.2.2.2.2.2.2.2.1, hne2_bl.2.2.2.2.2.2.2.2.2.1, hne2_bl.2.2.2.2.2.2.2.2.2.2, hk, hs2]
    exact laws_FnPresses_p21 hwf0 (by (repeat first | exact Sub.refl _ | refine Sub.push hwf0 ?_ _ | refine Sub.set hwf0 ?_ (by first | exact Nat.le_refl _ | omega | (simp only [push_n, set_n, kill_n]; omega)) _ | refine Sub.kill hwf0 ?_ (by first | exact Nat.le_refl _ | omega | (simp only [push_n, set_n, kill_n]; omega))); exact hs0) (by repeat first | exact hwf | refine WF.push ?_ (plain_map (fun _ => rfl) _) (by first | (simp; done) | (simp; omega))) hat0_code h hcl hI0 hpl (by simp [push_b, set_b, kill_b, hat_code.blk, hat_code.esz, hat_code.len, hat_code.els, hne_code, hne1_code, hne2_code.1, hne2_code.2.1, hne2_code.2.2.1, hne2_code.2.2.2.1, hne2_code.2.2.2.2.1, hne2_code.2.2.2.2.2.1, hne2_code.2.2.2.2.2.2.1, hne2_code.2.2.2.2.2.2.2.1, hne2_code.2.2.2.2.2.2.2.2.1, hne2_code.2.2.2.2.2.2.2.2.2.1, hne2_code.2.2.2.2.2.2.2.2.2.2, rowK, Enc.decL_map, hcl, hr_bl, hne_bl, hne1_bl, hne2_bl.1, hne2_bl.2.1, hne2_bl.2.2.1, hne2_bl.2.2.2.1, hne2_bl.2.2.2.2.1, hne2_bl.2.2.2.2.2.1, hne2_bl.2.2.2.2.2.2.1, hne2_bl.2.2.2.2.2.2.2.1, hne2_bl.2.2.2.2.2.2.2.2.1, hne2_bl.2.2.2.2.2.2.2.2.2.1, hne2_bl.2.2.2.2.2.2.2.2.2.2]; done) hx_bl rfl
  · have hk' : (suRes us per st).2 = false := by simpa using hk
    clear hs
    simp (config := {contextual := true, implicitDefEqProofs := false, maxSteps := 2000000}) [-Int.not_le, -Int.not_lt, argsF, laws_FnPresses_t19, laws_FnPresses_t20, hat_code.blk, hat_code.esz, hat_code.len, hat_code.els, hne_code, hne1_code, hne2_code.1, hne2_code.2.1, hne2_code.2.2.1, hne2_code.2.2.2.1, hne2_code.2.2.2.2.1, hne2_code.2.2.2.2.2.1, hne2_code.2.2.2.2.2.2.1, hne2_code.2.2.2.2.2.2.2.1, hne2_code.2.2.2.2.2.2.2.2.1, hne2_code.2.2.2.2.2.2.2.2.2.1, hne2_code.2.2.2.2.2.2.2.2.2.2, rowK, Enc.decL_map, hcl, hr_bl, hne_bl, hne1_bl, hne2_bl.1, hne2_bl.2.1, hne2_bl.2.2.1, hne2_bl.2.2.2.1, hne2_bl.2.2.2.2.1, hne2_bl.2.2.2.2.2.1, hne2_bl.2.2.2.2.2.2.1, hne2_bl.2.2.2.2.2.2.2.1, hne2_bl.2.2.2.2.2.2.2.2.1, hne2_bl.2.2.2.2.2.2.2.2.2.1, hne2_bl.2.2.2.2.2.2.2.2.2.2, hk']
    exact laws_FnPresses_p21 hwf0 (by (repeat first | exact Sub.refl _ | refine Sub.push hwf0 ?_ _ | refine Sub.set hwf0 ?_ (by first | exact Nat.le_refl _ | omega | (simp only [push_n, set_n, kill_n]; omega)) _ | refine Sub.kill hwf0 ?_ (by first | exact Nat.le_refl _ | omega | (simp only [push_n, set_n, kill_n]; omega))); exact hs0) (by repeat first | exact hwf | refine WF.push ?_ (plain_map (fun _ => rfl) _) (by first | (simp; done) | (simp; omega))) hat0_code h hcl hI0 hpl (by simp [push_b, set_b, kill_b, hat_code.blk, hat_code.esz, hat_code.len, hat_code.els, hne_code, hne1_code, hne2_code.1, hne2_code.2.1, hne2_code.2.2.1, hne2_code.2.2.2.1, hne2_code.2.2.2.2.1, hne2_code.2.2.2.2.2.1, hne2_code.2.2.2.2.2.2.1, hne2_code.2.2.2.2.2.2.2.1, hne2_code.2.2.2.2.2.2.2.2.1, hne2_code.2.2.2.2.2.2.2.2.2.1, hne2_code.2.2.2.2.2.2.2.2.2.2, rowK, Enc.decL_map, hcl, hr_bl, hne_bl, hne1_bl, hne2_bl.1, hne2_bl.2.1, hne2_bl.2.2.1, hne2_bl.2.2.2.1, hne2_bl.2.2.2.2.1, hne2_bl.2.2.2.2.2.1, hne2_bl.2.2.2.2.2.2.1, hne2_bl.2.2.2.2.2.2.2.1, hne2_bl.2.2.2.2.2.2.2.2.1, hne2_bl.2.2.2.2.2.2.2.2.2.1, hne2_bl.2.2.2.2.2.2.2.2.2.2]; done) hx_bl rfl

theorem laws_FnPresses_loop2 {H0 H : AHeap} {b_code i_code : Nat} {k_code : ABlk} {code : List UInt8} (hwf0 : H0.WF) (hs0 : Sub H0 H) (hwf : H.WF) (hat0_code : eU.At H0 b_code i_code k_code code) {bl bu bt : Nat} {ps us : List Pr} {ts : List Int} {n : Int} (hul : us.length ≤ 14) (htl : ts.length ≤ 1000000) (hts : ∀ t ∈ ts, cbRes us 4000 t = ([n], true)) (hr_bl : H.b bl = some (rowK ePr 34 ps)) (hx_bl : H0.n ≤ bl) (hr_bu : H.b bu = some (rowK ePr 34 us)) (hx_bu : H0.n ≤ bu) (hr_bt : H.b bt = some (rowK eI 3 ts)) (hx_bt : H0.n ≤ bt) {Q : Exit → AFrame → AHeap → Prop} (hfin : Q (.exit 4) [(0, .c (.sl b_code i_code code.length)), (3, .c (.sl (bl) (0) (ps.length))), (25, .c (.sl (bu) (0) (us.length))), (26, .c (.int .i64 (n))), (27, .c (.sl (bt) (0) (ts.length))), (31, .c (.int .i64 ((ts.length : Int)))), (208, .c (.bool (false)))] H) : ALoop Tryd.prog 338 H0.n laws_FnPresses_l2 [(0, .c (.sl b_code i_code code.length)), (3, .c (.sl (bl) (0) (ps.length))), (25, .c (.sl (bu) (0) (us.length))), (26, .c (.int .i64 (n))), (27, .c (.sl (bt) (0) (ts.length))), (31, .c (.int .i64 (0)))] H Q := by
  have hat_code : eU.At H b_code i_code k_code code := ⟨hs0.1.2 _ _ hat0_code.blk, hat0_code.esz, hat0_code.len, hat0_code.els⟩
  have hE := soundE_cons laws_rBig_s (soundE_cons spec_DrawNextPrinting_s (soundE_cons impl_NextPrinting_s (soundE_cons spec_NextPrinting_s (soundE_cons laws_rPrintings_s (soundE_cons impl_SheetsBy_s (soundE_cons impl_RarestPrinting_s (soundE_cons spec_RarestPrinting_s (soundE_cons spec_DrawUniqueTones_s (soundE_cons impl_UniqueTones_s (soundE_cons spec_UniqueTones_s (soundE_cons laws_rInts_s (soundE_cons impl_CanBeOf_s (soundE_cons spec_DrawStampsUntil_s (soundE_cons impl_StampsUntil_s (soundE_cons spec_StampsUntil_s (soundE_cons impl_LongestPause_s (soundE_cons spec_LongestPause_s (soundE_cons spec_DrawPrintingText_s (soundE_cons impl_PrintingText_s (soundE_cons spec_PrintingText_s (soundE_nil (P := Tryd.prog))))))))))))))))))))))
  have hn0 : H0.n ≤ H.n := hs0.1.1
  have hb_code : b_code < H.n := (hwf b_code k_code hat_code.blk).1
  have hne_code : (b_code = H.n) = False := eq_false (by omega)
  have hne1_code : ∀ i, (b_code = H.n + i) = False := fun i => eq_false (by omega)
  have hne2_code : (b_code = H.n + 1 + 1) = False ∧ (b_code = H.n + 1 + 1 + 1) = False ∧ (b_code = H.n + 1 + 1 + 1 + 1) = False ∧ (b_code = H.n + 1 + 1 + 1 + 1 + 1) = False ∧ (b_code = H.n + 1 + 1 + 1 + 1 + 1 + 1) = False ∧ (b_code = H.n + 1 + 1 + 1 + 1 + 1 + 1 + 1) = False ∧ (b_code = H.n + 1 + 1 + 1 + 1 + 1 + 1 + 1 + 1) = False ∧ (b_code = H.n + 1 + 1 + 1 + 1 + 1 + 1 + 1 + 1 + 1) = False ∧ (b_code = H.n + 1 + 1 + 1 + 1 + 1 + 1 + 1 + 1 + 1 + 1) = False ∧ (b_code = H.n + 1 + 1 + 1 + 1 + 1 + 1 + 1 + 1 + 1 + 1 + 1) = False ∧ (b_code = H.n + 1 + 1 + 1 + 1 + 1 + 1 + 1 + 1 + 1 + 1 + 1 + 1) = False := ⟨eq_false (by omega), eq_false (by omega), eq_false (by omega), eq_false (by omega), eq_false (by omega), eq_false (by omega), eq_false (by omega), eq_false (by omega), eq_false (by omega), eq_false (by omega), eq_false (by omega)⟩
  have hmx_code : code.length ≤ 9223372036854775807 := by have h1 := (hwf b_code k_code hat_code.blk).2.2; have h2 := hat_code.len; omega
  have hl0_code : b_code < H.n := by omega
  have hl1_code : b_code < H.n + 1 := by omega
  have hl2_code : b_code < H.n + 1 + 1 := by omega
  have hl3_code : b_code < H.n + 1 + 1 + 1 := by omega
  have hl4_code : b_code < H.n + 1 + 1 + 1 + 1 := by omega
  have hl5_code : b_code < H.n + 1 + 1 + 1 + 1 + 1 := by omega
  have hl6_code : b_code < H.n + 1 + 1 + 1 + 1 + 1 + 1 := by omega
  have hl7_code : b_code < H.n + 1 + 1 + 1 + 1 + 1 + 1 + 1 := by omega
  have hb_bl : bl < H.n := (hwf bl _ hr_bl).1
  have hne_bl : (bl = H.n) = False := eq_false (by omega)
  have hne1_bl : ∀ i, (bl = H.n + i) = False := fun i => eq_false (by omega)
  have hne2_bl : (bl = H.n + 1 + 1) = False ∧ (bl = H.n + 1 + 1 + 1) = False ∧ (bl = H.n + 1 + 1 + 1 + 1) = False ∧ (bl = H.n + 1 + 1 + 1 + 1 + 1) = False ∧ (bl = H.n + 1 + 1 + 1 + 1 + 1 + 1) = False ∧ (bl = H.n + 1 + 1 + 1 + 1 + 1 + 1 + 1) = False ∧ (bl = H.n + 1 + 1 + 1 + 1 + 1 + 1 + 1 + 1) = False ∧ (bl = H.n + 1 + 1 + 1 + 1 + 1 + 1 + 1 + 1 + 1) = False ∧ (bl = H.n + 1 + 1 + 1 + 1 + 1 + 1 + 1 + 1 + 1 + 1) = False ∧ (bl = H.n + 1 + 1 + 1 + 1 + 1 + 1 + 1 + 1 + 1 + 1 + 1) = False ∧ (bl = H.n + 1 + 1 + 1 + 1 + 1 + 1 + 1 + 1 + 1 + 1 + 1 + 1) = False := ⟨eq_false (by omega), eq_false (by omega), eq_false (by omega), eq_false (by omega), eq_false (by omega), eq_false (by omega), eq_false (by omega), eq_false (by omega), eq_false (by omega), eq_false (by omega), eq_false (by omega)⟩
  have hl0_bl : bl < H.n := by omega
  have hl1_bl : bl < H.n + 1 := by omega
  have hl2_bl : bl < H.n + 1 + 1 := by omega
  have hl3_bl : bl < H.n + 1 + 1 + 1 := by omega
  have hl4_bl : bl < H.n + 1 + 1 + 1 + 1 := by omega
  have hl5_bl : bl < H.n + 1 + 1 + 1 + 1 + 1 := by omega
  have hl6_bl : bl < H.n + 1 + 1 + 1 + 1 + 1 + 1 := by omega
  have hl7_bl : bl < H.n + 1 + 1 + 1 + 1 + 1 + 1 + 1 := by omega
  have hb_bu : bu < H.n := (hwf bu _ hr_bu).1
  have hne_bu : (bu = H.n) = False := eq_false (by omega)
  have hne1_bu : ∀ i, (bu = H.n + i) = False := fun i => eq_false (by omega)
  have hne2_bu : (bu = H.n + 1 + 1) = False ∧ (bu = H.n + 1 + 1 + 1) = False ∧ (bu = H.n + 1 + 1 + 1 + 1) = False ∧ (bu = H.n + 1 + 1 + 1 + 1 + 1) = False ∧ (bu = H.n + 1 + 1 + 1 + 1 + 1 + 1) = False ∧ (bu = H.n + 1 + 1 + 1 + 1 + 1 + 1 + 1) = False ∧ (bu = H.n + 1 + 1 + 1 + 1 + 1 + 1 + 1 + 1) = False ∧ (bu = H.n + 1 + 1 + 1 + 1 + 1 + 1 + 1 + 1 + 1) = False ∧ (bu = H.n + 1 + 1 + 1 + 1 + 1 + 1 + 1 + 1 + 1 + 1) = False ∧ (bu = H.n + 1 + 1 + 1 + 1 + 1 + 1 + 1 + 1 + 1 + 1 + 1) = False ∧ (bu = H.n + 1 + 1 + 1 + 1 + 1 + 1 + 1 + 1 + 1 + 1 + 1 + 1) = False := ⟨eq_false (by omega), eq_false (by omega), eq_false (by omega), eq_false (by omega), eq_false (by omega), eq_false (by omega), eq_false (by omega), eq_false (by omega), eq_false (by omega), eq_false (by omega), eq_false (by omega)⟩
  have hl0_bu : bu < H.n := by omega
  have hl1_bu : bu < H.n + 1 := by omega
  have hl2_bu : bu < H.n + 1 + 1 := by omega
  have hl3_bu : bu < H.n + 1 + 1 + 1 := by omega
  have hl4_bu : bu < H.n + 1 + 1 + 1 + 1 := by omega
  have hl5_bu : bu < H.n + 1 + 1 + 1 + 1 + 1 := by omega
  have hl6_bu : bu < H.n + 1 + 1 + 1 + 1 + 1 + 1 := by omega
  have hl7_bu : bu < H.n + 1 + 1 + 1 + 1 + 1 + 1 + 1 := by omega
  have hb_bt : bt < H.n := (hwf bt _ hr_bt).1
  have hne_bt : (bt = H.n) = False := eq_false (by omega)
  have hne1_bt : ∀ i, (bt = H.n + i) = False := fun i => eq_false (by omega)
  have hne2_bt : (bt = H.n + 1 + 1) = False ∧ (bt = H.n + 1 + 1 + 1) = False ∧ (bt = H.n + 1 + 1 + 1 + 1) = False ∧ (bt = H.n + 1 + 1 + 1 + 1 + 1) = False ∧ (bt = H.n + 1 + 1 + 1 + 1 + 1 + 1) = False ∧ (bt = H.n + 1 + 1 + 1 + 1 + 1 + 1 + 1) = False ∧ (bt = H.n + 1 + 1 + 1 + 1 + 1 + 1 + 1 + 1) = False ∧ (bt = H.n + 1 + 1 + 1 + 1 + 1 + 1 + 1 + 1 + 1) = False ∧ (bt = H.n + 1 + 1 + 1 + 1 + 1 + 1 + 1 + 1 + 1 + 1) = False ∧ (bt = H.n + 1 + 1 + 1 + 1 + 1 + 1 + 1 + 1 + 1 + 1 + 1) = False ∧ (bt = H.n + 1 + 1 + 1 + 1 + 1 + 1 + 1 + 1 + 1 + 1 + 1 + 1) = False := ⟨eq_false (by omega), eq_false (by omega), eq_false (by omega), eq_false (by omega), eq_false (by omega), eq_false (by omega), eq_false (by omega), eq_false (by omega), eq_false (by omega), eq_false (by omega), eq_false (by omega)⟩
  have hl0_bt : bt < H.n := by omega
  have hl1_bt : bt < H.n + 1 := by omega
  have hl2_bt : bt < H.n + 1 + 1 := by omega
  have hl3_bt : bt < H.n + 1 + 1 + 1 := by omega
  have hl4_bt : bt < H.n + 1 + 1 + 1 + 1 := by omega
  have hl5_bt : bt < H.n + 1 + 1 + 1 + 1 + 1 := by omega
  have hl6_bt : bt < H.n + 1 + 1 + 1 + 1 + 1 + 1 := by omega
  have hl7_bt : bt < H.n + 1 + 1 + 1 + 1 + 1 + 1 + 1 := by omega
  refine aloop_list ts (fun j _ => [(0, .c (.sl b_code i_code code.length)), (3, .c (.sl (bl) (0) (ps.length))), (25, .c (.sl (bu) (0) (us.length))), (26, .c (.int .i64 (n))), (27, .c (.sl (bt) (0) (ts.length))), (31, .c (.int .i64 ((j : Int))))]) (fun _ _ => H) (fun j l _ => True) hE _ () trivial (.since hn0 hwf (.refl _) (by simp [frOk, AV.okR, AV.ok1, AC.okR, AV.ren, AV.ren1, AC.ren, AFrame.get, pl1_old, hl0_code, hl1_code, hl2_code, hl3_code, hl4_code, hl5_code, hl6_code, hl7_code, hl0_bl, hl1_bl, hl2_bl, hl3_bl, hl4_bl, hl5_bl, hl6_bl, hl7_bl, hl0_bu, hl1_bu, hl2_bu, hl3_bu, hl4_bu, hl5_bu, hl6_bu, hl7_bu, hl0_bt, hl1_bt, hl2_bt, hl3_bt, hl4_bt, hl5_bt, hl6_bt, hl7_bt]; first | done | rfl | omega)) (fun j _ hlt _ => ?_) fun _ _ => ?_
  · have hj1 := idx_lt hlt
    have w1 : IntKind.i64.wrap ((j : Int) + 1) = (j : Int) + 1 := wrap_id (by omega) (by omega)
    have hc := hts _ (List.getElem_mem hlt)
    clear hts
    simp (config := {contextual := true, implicitDefEqProofs := false, maxSteps := 2000000}) [-Int.not_le, -Int.not_lt, argsF, laws_FnPresses_l2, hat_code.blk, hat_code.esz, hat_code.len, hat_code.els, hne_code, hne1_code, hne2_code.1, hne2_code.2.1, hne2_code.2.2.1, hne2_code.2.2.2.1, hne2_code.2.2.2.2.1, hne2_code.2.2.2.2.2.1, hne2_code.2.2.2.2.2.2.1, hne2_code.2.2.2.2.2.2.2.1, hne2_code.2.2.2.2.2.2.2.2.1, hne2_code.2.2.2.2.2.2.2.2.2.1, hne2_code.2.2.2.2.2.2.2.2.2.2, rowK, Enc.decL_map, hr_bl, hne_bl, hne1_bl, hne2_bl.1, hne2_bl.2.1, hne2_bl.2.2.1, hne2_bl.2.2.2.1, hne2_bl.2.2.2.2.1, hne2_bl.2.2.2.2.2.1, hne2_bl.2.2.2.2.2.2.1, hne2_bl.2.2.2.2.2.2.2.1, hne2_bl.2.2.2.2.2.2.2.2.1, hne2_bl.2.2.2.2.2.2.2.2.2.1, hne2_bl.2.2.2.2.2.2.2.2.2.2, hr_bu, hne_bu, hne1_bu, hne2_bu.1, hne2_bu.2.1, hne2_bu.2.2.1, hne2_bu.2.2.2.1, hne2_bu.2.2.2.2.1, hne2_bu.2.2.2.2.2.1, hne2_bu.2.2.2.2.2.2.1, hne2_bu.2.2.2.2.2.2.2.1, hne2_bu.2.2.2.2.2.2.2.2.1, hne2_bu.2.2.2.2.2.2.2.2.2.1, hne2_bu.2.2.2.2.2.2.2.2.2.2, hr_bt, hne_bt, hne1_bt, hne2_bt.1, hne2_bt.2.1, hne2_bt.2.2.1, hne2_bt.2.2.2.1, hne2_bt.2.2.2.2.1, hne2_bt.2.2.2.2.2.1, hne2_bt.2.2.2.2.2.2.1, hne2_bt.2.2.2.2.2.2.2.1, hne2_bt.2.2.2.2.2.2.2.2.1, hne2_bt.2.2.2.2.2.2.2.2.2.1, hne2_bt.2.2.2.2.2.2.2.2.2.2, hj1, w1, hlt, hc]
    exact ⟨(), trivial, .since hn0 hwf (by (repeat first | exact Sub.refl _ | refine Sub.push hwf ?_ _ | refine Sub.set hwf ?_ (by first | exact Nat.le_refl _ | omega | (simp only [push_n, set_n, kill_n]; omega)) _ | refine Sub.kill hwf ?_ (by first | exact Nat.le_refl _ | omega | (simp only [push_n, set_n, kill_n]; omega)))) (by simp [frOk, AV.okR, AV.ok1, AC.okR, AV.ren, AV.ren1, AC.ren, AFrame.get, pl1_old, hl0_code, hl1_code, hl2_code, hl3_code, hl4_code, hl5_code, hl6_code, hl7_code, hl0_bl, hl1_bl, hl2_bl, hl3_bl, hl4_bl, hl5_bl, hl6_bl, hl7_bl, hl0_bu, hl1_bu, hl2_bu, hl3_bu, hl4_bu, hl5_bu, hl6_bu, hl7_bu, hl0_bt, hl1_bt, hl2_bt, hl3_bt, hl4_bt, hl5_bt, hl6_bt, hl7_bt]; first | done | rfl | omega)⟩
  · simp (config := {contextual := true, implicitDefEqProofs := false, maxSteps := 2000000}) [-Int.not_le, -Int.not_lt, argsF, laws_FnPresses_l2, hat_code.blk, hat_code.esz, hat_code.len, hat_code.els, hne_code, hne1_code, hne2_code.1, hne2_code.2.1, hne2_code.2.2.1, hne2_code.2.2.2.1, hne2_code.2.2.2.2.1, hne2_code.2.2.2.2.2.1, hne2_code.2.2.2.2.2.2.1, hne2_code.2.2.2.2.2.2.2.1, hne2_code.2.2.2.2.2.2.2.2.1, hne2_code.2.2.2.2.2.2.2.2.2.1, hne2_code.2.2.2.2.2.2.2.2.2.2, rowK, Enc.decL_map, hr_bl, hne_bl, hne1_bl, hne2_bl.1, hne2_bl.2.1, hne2_bl.2.2.1, hne2_bl.2.2.2.1, hne2_bl.2.2.2.2.1, hne2_bl.2.2.2.2.2.1, hne2_bl.2.2.2.2.2.2.1, hne2_bl.2.2.2.2.2.2.2.1, hne2_bl.2.2.2.2.2.2.2.2.1, hne2_bl.2.2.2.2.2.2.2.2.2.1, hne2_bl.2.2.2.2.2.2.2.2.2.2, hr_bu, hne_bu, hne1_bu, hne2_bu.1, hne2_bu.2.1, hne2_bu.2.2.1, hne2_bu.2.2.2.1, hne2_bu.2.2.2.2.1, hne2_bu.2.2.2.2.2.1, hne2_bu.2.2.2.2.2.2.1, hne2_bu.2.2.2.2.2.2.2.1, hne2_bu.2.2.2.2.2.2.2.2.1, hne2_bu.2.2.2.2.2.2.2.2.2.1, hne2_bu.2.2.2.2.2.2.2.2.2.2, hr_bt, hne_bt, hne1_bt, hne2_bt.1, hne2_bt.2.1, hne2_bt.2.2.1, hne2_bt.2.2.2.1, hne2_bt.2.2.2.2.1, hne2_bt.2.2.2.2.2.1, hne2_bt.2.2.2.2.2.2.1, hne2_bt.2.2.2.2.2.2.2.1, hne2_bt.2.2.2.2.2.2.2.2.1, hne2_bt.2.2.2.2.2.2.2.2.2.1, hne2_bt.2.2.2.2.2.2.2.2.2.2]
    exact hfin

theorem laws_FnPresses_p11 {H0 H : AHeap} {K : AV → AHeap → Prop} {b_code i_code : Nat} {k_code : ABlk} {code : List UInt8} (hwf0 : H0.WF) (hs0 : Sub H0 H) (hwf : H.WF) (hat0_code : eU.At H0 b_code i_code k_code code) (h : K (.c (.bool true)) H0) (hcl : code.length ≤ 65536) (hI0 : ∀ w, H0.I w → tabI w) {bl : Nat} {ps : List Pr} (hpl : ps.length ≤ 14) (hr_bl : H.b bl = some (rowK ePr 34 ps)) (hx_bl : H0.n ≤ bl) {F : AFrame} (hF : F.keep [0, 3] = [(0, .c (.sl b_code i_code code.length)), (3, .c (.sl (bl) (0) (ps.length)))]) : avc Tryd.prog [(4, q_rBig), (5, q_DNp), (6, q_np), (7, q_np), (8, q_rPrintings), (9, q_sb), (10, q_rp), (11, q_rp), (12, q_DSh), (13, q_ut), (14, q_ut), (15, q_rInts), (16, q_cb), (17, q_DSu), (18, q_su), (19, q_su), (20, q_lp), (21, q_lp), (22, q_DPt), (23, q_pt), (24, q_pt)] 338 H0.n laws_FnPresses_t11 F H (endK Tryd.prog H0.n [.tmp 2] K) := by
  refine (show avc _ _ _ _ _ _ _ _ = _ from avc_cut _ _).mpr ?_
  rw [hF]
  have hat_code : eU.At H b_code i_code k_code code := ⟨hs0.1.2 _ _ hat0_code.blk, hat0_code.esz, hat0_code.len, hat0_code.els⟩
  have hE := soundE_cons laws_rBig_s (soundE_cons spec_DrawNextPrinting_s (soundE_cons impl_NextPrinting_s (soundE_cons spec_NextPrinting_s (soundE_cons laws_rPrintings_s (soundE_cons impl_SheetsBy_s (soundE_cons impl_RarestPrinting_s (soundE_cons spec_RarestPrinting_s (soundE_cons spec_DrawUniqueTones_s (soundE_cons impl_UniqueTones_s (soundE_cons spec_UniqueTones_s (soundE_cons laws_rInts_s (soundE_cons impl_CanBeOf_s (soundE_cons spec_DrawStampsUntil_s (soundE_cons impl_StampsUntil_s (soundE_cons spec_StampsUntil_s (soundE_cons impl_LongestPause_s (soundE_cons spec_LongestPause_s (soundE_cons spec_DrawPrintingText_s (soundE_cons impl_PrintingText_s (soundE_cons spec_PrintingText_s (soundE_nil (P := Tryd.prog))))))))))))))))))))))
  have hn0 : H0.n ≤ H.n := hs0.1.1
  have hb_code : b_code < H.n := (hwf b_code k_code hat_code.blk).1
  have hne_code : (b_code = H.n) = False := eq_false (by omega)
  have hne1_code : ∀ i, (b_code = H.n + i) = False := fun i => eq_false (by omega)
  have hne2_code : (b_code = H.n + 1 + 1) = False ∧ (b_code = H.n + 1 + 1 + 1) = False ∧ (b_code = H.n + 1 + 1 + 1 + 1) = False ∧ (b_code = H.n + 1 + 1 + 1 + 1 + 1) = False ∧ (b_code = H.n + 1 + 1 + 1 + 1 + 1 + 1) = False ∧ (b_code = H.n + 1 + 1 + 1 + 1 + 1 + 1 + 1) = False ∧ (b_code = H.n + 1 + 1 + 1 + 1 + 1 + 1 + 1 + 1) = False ∧ (b_code = H.n + 1 + 1 + 1 + 1 + 1 + 1 + 1 + 1 + 1) = False ∧ (b_code = H.n + 1 + 1 + 1 + 1 + 1 + 1 + 1 + 1 + 1 + 1) = False ∧ (b_code = H.n + 1 + 1 + 1 + 1 + 1 + 1 + 1 + 1 + 1 + 1 + 1) = False ∧ (b_code = H.n + 1 + 1 + 1 + 1 + 1 + 1 + 1 + 1 + 1 + 1 + 1 + 1) = False := ⟨eq_false (by omega), eq_false (by omega), eq_false (by omega), eq_false (by omega), eq_false (by omega), eq_false (by omega), eq_false (by omega), eq_false (by omega), eq_false (by omega), eq_false (by omega), eq_false (by omega)⟩
  have hmx_code : code.length ≤ 9223372036854775807 := by have h1 := (hwf b_code k_code hat_code.blk).2.2; have h2 := hat_code.len; omega
  have hl0_code : b_code < H.n := by omega
  have hl1_code : b_code < H.n + 1 := by omega
  have hl2_code : b_code < H.n + 1 + 1 := by omega
  have hl3_code : b_code < H.n + 1 + 1 + 1 := by omega
  have hl4_code : b_code < H.n + 1 + 1 + 1 + 1 := by omega
  have hl5_code : b_code < H.n + 1 + 1 + 1 + 1 + 1 := by omega
  have hl6_code : b_code < H.n + 1 + 1 + 1 + 1 + 1 + 1 := by omega
  have hl7_code : b_code < H.n + 1 + 1 + 1 + 1 + 1 + 1 + 1 := by omega
  have hb_bl : bl < H.n := (hwf bl _ hr_bl).1
  have hne_bl : (bl = H.n) = False := eq_false (by omega)
  have hne1_bl : ∀ i, (bl = H.n + i) = False := fun i => eq_false (by omega)
  have hne2_bl : (bl = H.n + 1 + 1) = False ∧ (bl = H.n + 1 + 1 + 1) = False ∧ (bl = H.n + 1 + 1 + 1 + 1) = False ∧ (bl = H.n + 1 + 1 + 1 + 1 + 1) = False ∧ (bl = H.n + 1 + 1 + 1 + 1 + 1 + 1) = False ∧ (bl = H.n + 1 + 1 + 1 + 1 + 1 + 1 + 1) = False ∧ (bl = H.n + 1 + 1 + 1 + 1 + 1 + 1 + 1 + 1) = False ∧ (bl = H.n + 1 + 1 + 1 + 1 + 1 + 1 + 1 + 1 + 1) = False ∧ (bl = H.n + 1 + 1 + 1 + 1 + 1 + 1 + 1 + 1 + 1 + 1) = False ∧ (bl = H.n + 1 + 1 + 1 + 1 + 1 + 1 + 1 + 1 + 1 + 1 + 1) = False ∧ (bl = H.n + 1 + 1 + 1 + 1 + 1 + 1 + 1 + 1 + 1 + 1 + 1 + 1) = False := ⟨eq_false (by omega), eq_false (by omega), eq_false (by omega), eq_false (by omega), eq_false (by omega), eq_false (by omega), eq_false (by omega), eq_false (by omega), eq_false (by omega), eq_false (by omega), eq_false (by omega)⟩
  have hl0_bl : bl < H.n := by omega
  have hl1_bl : bl < H.n + 1 := by omega
  have hl2_bl : bl < H.n + 1 + 1 := by omega
  have hl3_bl : bl < H.n + 1 + 1 + 1 := by omega
  have hl4_bl : bl < H.n + 1 + 1 + 1 + 1 := by omega
  have hl5_bl : bl < H.n + 1 + 1 + 1 + 1 + 1 := by omega
  have hl6_bl : bl < H.n + 1 + 1 + 1 + 1 + 1 + 1 := by omega
  have hl7_bl : bl < H.n + 1 + 1 + 1 + 1 + 1 + 1 + 1 := by omega
  simp (config := {contextual := true, implicitDefEqProofs := false, maxSteps := 2000000}) [-Int.not_le, -Int.not_lt, argsF, laws_FnPresses_t11, laws_FnPresses_t12, hat_code.blk, hat_code.esz, hat_code.len, hat_code.els, hne_code, hne1_code, hne2_code.1, hne2_code.2.1, hne2_code.2.2.1, hne2_code.2.2.2.1, hne2_code.2.2.2.2.1, hne2_code.2.2.2.2.2.1, hne2_code.2.2.2.2.2.2.1, hne2_code.2.2.2.2.2.2.2.1, hne2_code.2.2.2.2.2.2.2.2.1, hne2_code.2.2.2.2.2.2.2.2.2.1, hne2_code.2.2.2.2.2.2.2.2.2.2, rowK, Enc.decL_map, hcl, hr_bl, hne_bl, hne1_bl, hne2_bl.1, hne2_bl.2.1, hne2_bl.2.2.1, hne2_bl.2.2.2.1, hne2_bl.2.2.2.2.1, hne2_bl.2.2.2.2.2.1, hne2_bl.2.2.2.2.2.2.1, hne2_bl.2.2.2.2.2.2.2.1, hne2_bl.2.2.2.2.2.2.2.2.1, hne2_bl.2.2.2.2.2.2.2.2.2.1, hne2_bl.2.2.2.2.2.2.2.2.2.2]
  refine Stop.mk fun us n hul => ?_
  have htl : (utRes us n).1.length ≤ 1000000 := by
    unfold utRes
    repeat' split
    all_goals first | (refine Nat.le_trans (accM_len _ _ _) ?_; simp) | simp
  simp (config := {contextual := true, implicitDefEqProofs := false, maxSteps := 2000000}) [-Int.not_le, -Int.not_lt, argsF, laws_FnPresses_t11, laws_FnPresses_t12, laws_FnPresses_t13, laws_FnPresses_t14, hat_code.blk, hat_code.esz, hat_code.len, hat_code.els, hne_code, hne1_code, hne2_code.1, hne2_code.2.1, hne2_code.2.2.1, hne2_code.2.2.2.1, hne2_code.2.2.2.2.1, hne2_code.2.2.2.2.2.1, hne2_code.2.2.2.2.2.2.1, hne2_code.2.2.2.2.2.2.2.1, hne2_code.2.2.2.2.2.2.2.2.1, hne2_code.2.2.2.2.2.2.2.2.2.1, hne2_code.2.2.2.2.2.2.2.2.2.2, rowK, Enc.decL_map, hcl, hr_bl, hne_bl, hne1_bl, hne2_bl.1, hne2_bl.2.1, hne2_bl.2.2.1, hne2_bl.2.2.2.1, hne2_bl.2.2.2.2.1, hne2_bl.2.2.2.2.2.1, hne2_bl.2.2.2.2.2.2.1, hne2_bl.2.2.2.2.2.2.2.1, hne2_bl.2.2.2.2.2.2.2.2.1, hne2_bl.2.2.2.2.2.2.2.2.2.1, hne2_bl.2.2.2.2.2.2.2.2.2.2, ite_self]
  have hts : ∀ t ∈ (utRes us n).1, cbRes us 4000 t = ([n], true) := fun t ht => ut_all ht
  refine laws_FnPresses_loop2 hwf0 (by (repeat first | exact Sub.refl _ | refine Sub.push hwf0 ?_ _ | refine Sub.set hwf0 ?_ (by first | exact Nat.le_refl _ | omega | (simp only [push_n, set_n, kill_n]; omega)) _ | refine Sub.kill hwf0 ?_ (by first | exact Nat.le_refl _ | omega | (simp only [push_n, set_n, kill_n]; omega))); exact hs0) (by repeat first | exact hwf | refine WF.push ?_ (plain_map (fun _ => rfl) _) (by first | (simp; done) | (simp; omega))) hat0_code hul htl hts (by simp [push_b, set_b, kill_b, hat_code.blk, hat_code.esz, hat_code.len, hat_code.els, hne_code, hne1_code, hne2_code.1, hne2_code.2.1, hne2_code.2.2.1, hne2_code.2.2.2.1, hne2_code.2.2.2.2.1, hne2_code.2.2.2.2.2.1, hne2_code.2.2.2.2.2.2.1, hne2_code.2.2.2.2.2.2.2.1, hne2_code.2.2.2.2.2.2.2.2.1, hne2_code.2.2.2.2.2.2.2.2.2.1, hne2_code.2.2.2.2.2.2.2.2.2.2, rowK, Enc.decL_map, hcl, hr_bl, hne_bl, hne1_bl, hne2_bl.1, hne2_bl.2.1, hne2_bl.2.2.1, hne2_bl.2.2.2.1, hne2_bl.2.2.2.2.1, hne2_bl.2.2.2.2.2.1, hne2_bl.2.2.2.2.2.2.1, hne2_bl.2.2.2.2.2.2.2.1, hne2_bl.2.2.2.2.2.2.2.2.1, hne2_bl.2.2.2.2.2.2.2.2.2.1, hne2_bl.2.2.2.2.2.2.2.2.2.2]; done) hx_bl (by simp [push_b, set_b, kill_b, rowK]; done) (by omega) (by simp [push_b, set_b, kill_b, rowK]; done) (by omega) ?_
  clear hts
  simp (config := {contextual := true, implicitDefEqProofs := false, maxSteps := 2000000}) [-Int.not_le, -Int.not_lt, argsF, laws_FnPresses_t14, hat_code.blk, hat_code.esz, hat_code.len, hat_code.els, hne_code, hne1_code, hne2_code.1, hne2_code.2.1, hne2_code.2.2.1, hne2_code.2.2.2.1, hne2_code.2.2.2.2.1, hne2_code.2.2.2.2.2.1, hne2_code.2.2.2.2.2.2.1, hne2_code.2.2.2.2.2.2.2.1, hne2_code.2.2.2.2.2.2.2.2.1, hne2_code.2.2.2.2.2.2.2.2.2.1, hne2_code.2.2.2.2.2.2.2.2.2.2, rowK, Enc.decL_map, hcl, hr_bl, hne_bl, hne1_bl, hne2_bl.1, hne2_bl.2.1, hne2_bl.2.2.1, hne2_bl.2.2.2.1, hne2_bl.2.2.2.2.1, hne2_bl.2.2.2.2.2.1, hne2_bl.2.2.2.2.2.2.1, hne2_bl.2.2.2.2.2.2.2.1, hne2_bl.2.2.2.2.2.2.2.2.1, hne2_bl.2.2.2.2.2.2.2.2.2.1, hne2_bl.2.2.2.2.2.2.2.2.2.2]
  exact laws_FnPresses_p15 hwf0 (by (repeat first | exact Sub.refl _ | refine Sub.push hwf0 ?_ _ | refine Sub.set hwf0 ?_ (by first | exact Nat.le_refl _ | omega | (simp only [push_n, set_n, kill_n]; omega)) _ | refine Sub.kill hwf0 ?_ (by first | exact Nat.le_refl _ | omega | (simp only [push_n, set_n, kill_n]; omega))); exact hs0) (by repeat first | exact hwf | refine WF.push ?_ (plain_map (fun _ => rfl) _) (by first | (simp; done) | (simp; omega))) hat0_code h hcl hI0 hpl (by simp [push_b, set_b, kill_b, hat_code.blk, hat_code.esz, hat_code.len, hat_code.els, hne_code, hne1_code, hne2_code.1, hne2_code.2.1, hne2_code.2.2.1, hne2_code.2.2.2.1, hne2_code.2.2.2.2.1, hne2_code.2.2.2.2.2.1, hne2_code.2.2.2.2.2.2.1, hne2_code.2.2.2.2.2.2.2.1, hne2_code.2.2.2.2.2.2.2.2.1, hne2_code.2.2.2.2.2.2.2.2.2.1, hne2_code.2.2.2.2.2.2.2.2.2.2, rowK, Enc.decL_map, hcl, hr_bl, hne_bl, hne1_bl, hne2_bl.1, hne2_bl.2.1, hne2_bl.2.2.1, hne2_bl.2.2.2.1, hne2_bl.2.2.2.2.1, hne2_bl.2.2.2.2.2.1, hne2_bl.2.2.2.2.2.2.1, hne2_bl.2.2.2.2.2.2.2.1, hne2_bl.2.2.2.2.2.2.2.2.1, hne2_bl.2.2.2.2.2.2.2.2.2.1, hne2_bl.2.2.2.2.2.2.2.2.2.2]; done) hx_bl rfl

theorem laws_FnPresses_loop0 {H0 H : AHeap} {b_code i_code : Nat} {k_code : ABlk} {code : List UInt8} (hwf0 : H0.WF) (hs0 : Sub H0 H) (hwf : H.WF) (hat0_code : eU.At H0 b_code i_code k_code code) {bl : Nat} {ps : List Pr} {ra : Int} {fi : Bool} (hpl : ps.length ≤ 14) (hr_bl : H.b bl = some (rowK ePr 34 ps)) (hx_bl : H0.n ≤ bl) {Q : Exit → AFrame → AHeap → Prop} (hfin : ∀ (s v : Int), (fi = true → s = lsGo ra ps 0) → Q (.exit 0) [(0, .c (.sl b_code i_code code.length)), (3, .c (.sl (bl) (0) (ps.length))), (18, .c (.int .i64 (ra))), (19, .c (.bool (fi))), (22, .c (.int .i64 (s))), (23, .c (.int .i64 (v))), (148, .c (.bool (false)))] H) : ALoop Tryd.prog 338 H0.n laws_FnPresses_l0 [(0, .c (.sl b_code i_code code.length)), (3, .c (.sl (bl) (0) (ps.length))), (18, .c (.int .i64 (ra))), (19, .c (.bool (fi))), (22, .c (.int .i64 (0))), (23, .c (.int .i64 (0)))] H Q := by
  have hat_code : eU.At H b_code i_code k_code code := ⟨hs0.1.2 _ _ hat0_code.blk, hat0_code.esz, hat0_code.len, hat0_code.els⟩
  have hE := soundE_cons laws_rBig_s (soundE_cons spec_DrawNextPrinting_s (soundE_cons impl_NextPrinting_s (soundE_cons spec_NextPrinting_s (soundE_cons laws_rPrintings_s (soundE_cons impl_SheetsBy_s (soundE_cons impl_RarestPrinting_s (soundE_cons spec_RarestPrinting_s (soundE_cons spec_DrawUniqueTones_s (soundE_cons impl_UniqueTones_s (soundE_cons spec_UniqueTones_s (soundE_cons laws_rInts_s (soundE_cons impl_CanBeOf_s (soundE_cons spec_DrawStampsUntil_s (soundE_cons impl_StampsUntil_s (soundE_cons spec_StampsUntil_s (soundE_cons impl_LongestPause_s (soundE_cons spec_LongestPause_s (soundE_cons spec_DrawPrintingText_s (soundE_cons impl_PrintingText_s (soundE_cons spec_PrintingText_s (soundE_nil (P := Tryd.prog))))))))))))))))))))))
  have hn0 : H0.n ≤ H.n := hs0.1.1
  have hb_code : b_code < H.n := (hwf b_code k_code hat_code.blk).1
  have hne_code : (b_code = H.n) = False := eq_false (by omega)
  have hne1_code : ∀ i, (b_code = H.n + i) = False := fun i => eq_false (by omega)
  have hne2_code : (b_code = H.n + 1 + 1) = False ∧ (b_code = H.n + 1 + 1 + 1) = False ∧ (b_code = H.n + 1 + 1 + 1 + 1) = False ∧ (b_code = H.n + 1 + 1 + 1 + 1 + 1) = False ∧ (b_code = H.n + 1 + 1 + 1 + 1 + 1 + 1) = False ∧ (b_code = H.n + 1 + 1 + 1 + 1 + 1 + 1 + 1) = False ∧ (b_code = H.n + 1 + 1 + 1 + 1 + 1 + 1 + 1 + 1) = False ∧ (b_code = H.n + 1 + 1 + 1 + 1 + 1 + 1 + 1 + 1 + 1) = False ∧ (b_code = H.n + 1 + 1 + 1 + 1 + 1 + 1 + 1 + 1 + 1 + 1) = False ∧ (b_code = H.n + 1 + 1 + 1 + 1 + 1 + 1 + 1 + 1 + 1 + 1 + 1) = False ∧ (b_code = H.n + 1 + 1 + 1 + 1 + 1 + 1 + 1 + 1 + 1 + 1 + 1 + 1) = False := ⟨eq_false (by omega), eq_false (by omega), eq_false (by omega), eq_false (by omega), eq_false (by omega), eq_false (by omega), eq_false (by omega), eq_false (by omega), eq_false (by omega), eq_false (by omega), eq_false (by omega)⟩
  have hmx_code : code.length ≤ 9223372036854775807 := by have h1 := (hwf b_code k_code hat_code.blk).2.2; have h2 := hat_code.len; omega
  have hl0_code : b_code < H.n := by omega
  have hl1_code : b_code < H.n + 1 := by omega
  have hl2_code : b_code < H.n + 1 + 1 := by omega
  have hl3_code : b_code < H.n + 1 + 1 + 1 := by omega
  have hl4_code : b_code < H.n + 1 + 1 + 1 + 1 := by omega
  have hl5_code : b_code < H.n + 1 + 1 + 1 + 1 + 1 := by omega
  have hl6_code : b_code < H.n + 1 + 1 + 1 + 1 + 1 + 1 := by omega
  have hl7_code : b_code < H.n + 1 + 1 + 1 + 1 + 1 + 1 + 1 := by omega
  have hb_bl : bl < H.n := (hwf bl _ hr_bl).1
  have hne_bl : (bl = H.n) = False := eq_false (by omega)
  have hne1_bl : ∀ i, (bl = H.n + i) = False := fun i => eq_false (by omega)
  have hne2_bl : (bl = H.n + 1 + 1) = False ∧ (bl = H.n + 1 + 1 + 1) = False ∧ (bl = H.n + 1 + 1 + 1 + 1) = False ∧ (bl = H.n + 1 + 1 + 1 + 1 + 1) = False ∧ (bl = H.n + 1 + 1 + 1 + 1 + 1 + 1) = False ∧ (bl = H.n + 1 + 1 + 1 + 1 + 1 + 1 + 1) = False ∧ (bl = H.n + 1 + 1 + 1 + 1 + 1 + 1 + 1 + 1) = False ∧ (bl = H.n + 1 + 1 + 1 + 1 + 1 + 1 + 1 + 1 + 1) = False ∧ (bl = H.n + 1 + 1 + 1 + 1 + 1 + 1 + 1 + 1 + 1 + 1) = False ∧ (bl = H.n + 1 + 1 + 1 + 1 + 1 + 1 + 1 + 1 + 1 + 1 + 1) = False ∧ (bl = H.n + 1 + 1 + 1 + 1 + 1 + 1 + 1 + 1 + 1 + 1 + 1 + 1) = False := ⟨eq_false (by omega), eq_false (by omega), eq_false (by omega), eq_false (by omega), eq_false (by omega), eq_false (by omega), eq_false (by omega), eq_false (by omega), eq_false (by omega), eq_false (by omega), eq_false (by omega)⟩
  have hl0_bl : bl < H.n := by omega
  have hl1_bl : bl < H.n + 1 := by omega
  have hl2_bl : bl < H.n + 1 + 1 := by omega
  have hl3_bl : bl < H.n + 1 + 1 + 1 := by omega
  have hl4_bl : bl < H.n + 1 + 1 + 1 + 1 := by omega
  have hl5_bl : bl < H.n + 1 + 1 + 1 + 1 + 1 := by omega
  have hl6_bl : bl < H.n + 1 + 1 + 1 + 1 + 1 + 1 := by omega
  have hl7_bl : bl < H.n + 1 + 1 + 1 + 1 + 1 + 1 + 1 := by omega
  cases fi with
  | false =>
    refine aloop_list ([] : List Pr) (fun j _ => [(0, .c (.sl b_code i_code code.length)), (3, .c (.sl (bl) (0) (ps.length))), (18, .c (.int .i64 (ra))), (19, .c (.bool (false))), (22, .c (.int .i64 (0))), (23, .c (.int .i64 (0)))]) (fun _ _ => H) (fun j l _ => True) hE _ () trivial (.since hn0 hwf (.refl _) (by simp [frOk, AV.okR, AV.ok1, AC.okR, AV.ren, AV.ren1, AC.ren, AFrame.get, pl1_old, hl0_code, hl1_code, hl2_code, hl3_code, hl4_code, hl5_code, hl6_code, hl7_code, hl0_bl, hl1_bl, hl2_bl, hl3_bl, hl4_bl, hl5_bl, hl6_bl, hl7_bl]; first | done | rfl | omega)) (fun j _ hlt _ => absurd hlt (Nat.not_lt_zero _)) fun _ _ => ?_
    have hf := hfin 0 0 (fun e => by cases e)
    by_cases hu : 0 < ps.length
    · have hu2 : (0 : Int) < (ps.length : Int) := by omega
      simp (config := {contextual := true, implicitDefEqProofs := false, maxSteps := 2000000}) [-Int.not_le, -Int.not_lt, argsF, laws_FnPresses_l0, hat_code.blk, hat_code.esz, hat_code.len, hat_code.els, hne_code, hne1_code, hne2_code.1, hne2_code.2.1, hne2_code.2.2.1, hne2_code.2.2.2.1, hne2_code.2.2.2.2.1, hne2_code.2.2.2.2.2.1, hne2_code.2.2.2.2.2.2.1, hne2_code.2.2.2.2.2.2.2.1, hne2_code.2.2.2.2.2.2.2.2.1, hne2_code.2.2.2.2.2.2.2.2.2.1, hne2_code.2.2.2.2.2.2.2.2.2.2, rowK, Enc.decL_map, hr_bl, hne_bl, hne1_bl, hne2_bl.1, hne2_bl.2.1, hne2_bl.2.2.1, hne2_bl.2.2.2.1, hne2_bl.2.2.2.2.1, hne2_bl.2.2.2.2.2.1, hne2_bl.2.2.2.2.2.2.1, hne2_bl.2.2.2.2.2.2.2.1, hne2_bl.2.2.2.2.2.2.2.2.1, hne2_bl.2.2.2.2.2.2.2.2.2.1, hne2_bl.2.2.2.2.2.2.2.2.2.2, hu, hu2]
      exact hf
    · have hu2 : ¬ (0 : Int) < (ps.length : Int) := by omega
      have hu3 : ps.length = 0 := by omega
      simp (config := {contextual := true, implicitDefEqProofs := false, maxSteps := 2000000}) [-Int.not_le, -Int.not_lt, argsF, laws_FnPresses_l0, hat_code.blk, hat_code.esz, hat_code.len, hat_code.els, hne_code, hne1_code, hne2_code.1, hne2_code.2.1, hne2_code.2.2.1, hne2_code.2.2.2.1, hne2_code.2.2.2.2.1, hne2_code.2.2.2.2.2.1, hne2_code.2.2.2.2.2.2.1, hne2_code.2.2.2.2.2.2.2.1, hne2_code.2.2.2.2.2.2.2.2.1, hne2_code.2.2.2.2.2.2.2.2.2.1, hne2_code.2.2.2.2.2.2.2.2.2.2, rowK, Enc.decL_map, hr_bl, hne_bl, hne1_bl, hne2_bl.1, hne2_bl.2.1, hne2_bl.2.2.1, hne2_bl.2.2.2.1, hne2_bl.2.2.2.2.1, hne2_bl.2.2.2.2.2.1, hne2_bl.2.2.2.2.2.2.1, hne2_bl.2.2.2.2.2.2.2.1, hne2_bl.2.2.2.2.2.2.2.2.1, hne2_bl.2.2.2.2.2.2.2.2.2.1, hne2_bl.2.2.2.2.2.2.2.2.2.2, hu2, hu3]
      rw [hu3] at hf
      exact hf
  | true =>
    refine aloop_list ps (fun j (s : Int) => [(0, .c (.sl b_code i_code code.length)), (3, .c (.sl (bl) (0) (ps.length))), (18, .c (.int .i64 (ra))), (19, .c (.bool (true))), (22, .c (.int .i64 (s))), (23, .c (.int .i64 ((j : Int))))]) (fun _ _ => H) (fun j l s => lsGo ra l s = lsGo ra ps 0) hE _ 0 rfl (.since hn0 hwf (.refl _) (by simp [frOk, AV.okR, AV.ok1, AC.okR, AV.ren, AV.ren1, AC.ren, AFrame.get, pl1_old, hl0_code, hl1_code, hl2_code, hl3_code, hl4_code, hl5_code, hl6_code, hl7_code, hl0_bl, hl1_bl, hl2_bl, hl3_bl, hl4_bl, hl5_bl, hl6_bl, hl7_bl]; first | done | rfl | omega)) (fun j s hlt hi => ?_) fun s hi => ?_
    · have hj1 := idx_lt hlt
      have w1 : IntKind.i64.wrap ((j : Int) + 1) = (j : Int) + 1 := wrap_id (by omega) (by omega)
      simp only [lsGo] at hi
      by_cases hc : ps[j].num = ra
      · rw [if_pos hc] at hi
        simp (config := {contextual := true, implicitDefEqProofs := false, maxSteps := 2000000}) [-Int.not_le, -Int.not_lt, argsF, laws_FnPresses_l0, hat_code.blk, hat_code.esz, hat_code.len, hat_code.els, hne_code, hne1_code, hne2_code.1, hne2_code.2.1, hne2_code.2.2.1, hne2_code.2.2.2.1, hne2_code.2.2.2.2.1, hne2_code.2.2.2.2.2.1, hne2_code.2.2.2.2.2.2.1, hne2_code.2.2.2.2.2.2.2.1, hne2_code.2.2.2.2.2.2.2.2.1, hne2_code.2.2.2.2.2.2.2.2.2.1, hne2_code.2.2.2.2.2.2.2.2.2.2, rowK, Enc.decL_map, hr_bl, hne_bl, hne1_bl, hne2_bl.1, hne2_bl.2.1, hne2_bl.2.2.1, hne2_bl.2.2.2.1, hne2_bl.2.2.2.2.1, hne2_bl.2.2.2.2.2.1, hne2_bl.2.2.2.2.2.2.1, hne2_bl.2.2.2.2.2.2.2.1, hne2_bl.2.2.2.2.2.2.2.2.1, hne2_bl.2.2.2.2.2.2.2.2.2.1, hne2_bl.2.2.2.2.2.2.2.2.2.2, hj1, w1, hlt, hc]
        exact ⟨_, hi, .since hn0 hwf (.refl _) (by simp [frOk, AV.okR, AV.ok1, AC.okR, AV.ren, AV.ren1, AC.ren, AFrame.get, pl1_old, hl0_code, hl1_code, hl2_code, hl3_code, hl4_code, hl5_code, hl6_code, hl7_code, hl0_bl, hl1_bl, hl2_bl, hl3_bl, hl4_bl, hl5_bl, hl6_bl, hl7_bl]; first | done | rfl | omega)⟩
      · rw [if_neg hc] at hi
        simp (config := {contextual := true, implicitDefEqProofs := false, maxSteps := 2000000}) [-Int.not_le, -Int.not_lt, argsF, laws_FnPresses_l0, hat_code.blk, hat_code.esz, hat_code.len, hat_code.els, hne_code, hne1_code, hne2_code.1, hne2_code.2.1, hne2_code.2.2.1, hne2_code.2.2.2.1, hne2_code.2.2.2.2.1, hne2_code.2.2.2.2.2.1, hne2_code.2.2.2.2.2.2.1, hne2_code.2.2.2.2.2.2.2.1, hne2_code.2.2.2.2.2.2.2.2.1, hne2_code.2.2.2.2.2.2.2.2.2.1, hne2_code.2.2.2.2.2.2.2.2.2.2, rowK, Enc.decL_map, hr_bl, hne_bl, hne1_bl, hne2_bl.1, hne2_bl.2.1, hne2_bl.2.2.1, hne2_bl.2.2.2.1, hne2_bl.2.2.2.2.1, hne2_bl.2.2.2.2.2.1, hne2_bl.2.2.2.2.2.2.1, hne2_bl.2.2.2.2.2.2.2.1, hne2_bl.2.2.2.2.2.2.2.2.1, hne2_bl.2.2.2.2.2.2.2.2.2.1, hne2_bl.2.2.2.2.2.2.2.2.2.2, hj1, w1, hlt, hc]
        exact ⟨_, hi, .since hn0 hwf (.refl _) (by simp [frOk, AV.okR, AV.ok1, AC.okR, AV.ren, AV.ren1, AC.ren, AFrame.get, pl1_old, hl0_code, hl1_code, hl2_code, hl3_code, hl4_code, hl5_code, hl6_code, hl7_code, hl0_bl, hl1_bl, hl2_bl, hl3_bl, hl4_bl, hl5_bl, hl6_bl, hl7_bl]; first | done | rfl | omega)⟩
    · have hf := hfin s (ps.length : Int) (fun _ => hi)
      simp (config := {contextual := true, implicitDefEqProofs := false, maxSteps := 2000000}) [-Int.not_le, -Int.not_lt, argsF, laws_FnPresses_l0, hat_code.blk, hat_code.esz, hat_code.len, hat_code.els, hne_code, hne1_code, hne2_code.1, hne2_code.2.1, hne2_code.2.2.1, hne2_code.2.2.2.1, hne2_code.2.2.2.2.1, hne2_code.2.2.2.2.2.1, hne2_code.2.2.2.2.2.2.1, hne2_code.2.2.2.2.2.2.2.1, hne2_code.2.2.2.2.2.2.2.2.1, hne2_code.2.2.2.2.2.2.2.2.2.1, hne2_code.2.2.2.2.2.2.2.2.2.2, rowK, Enc.decL_map, hr_bl, hne_bl, hne1_bl, hne2_bl.1, hne2_bl.2.1, hne2_bl.2.2.1, hne2_bl.2.2.2.1, hne2_bl.2.2.2.2.1, hne2_bl.2.2.2.2.2.1, hne2_bl.2.2.2.2.2.2.1, hne2_bl.2.2.2.2.2.2.2.1, hne2_bl.2.2.2.2.2.2.2.2.1, hne2_bl.2.2.2.2.2.2.2.2.2.1, hne2_bl.2.2.2.2.2.2.2.2.2.2]
      exact hf

theorem laws_FnPresses_loop1 {H0 H : AHeap} {b_code i_code : Nat} {k_code : ABlk} {code : List UInt8} (hwf0 : H0.WF) (hs0 : Sub H0 H) (hwf : H.WF) (hat0_code : eU.At H0 b_code i_code k_code code) {bl : Nat} {ps : List Pr} {m : Int} {fi : Bool} (hpl : ps.length ≤ 14) (hm : fi = true → ∀ p ∈ ps, ¬ p.sheets < m) (hr_bl : H.b bl = some (rowK ePr 34 ps)) (hx_bl : H0.n ≤ bl) {Q : Exit → AFrame → AHeap → Prop} (hfin : ∀ (v : Int), Q (.exit 2) [(0, .c (.sl b_code i_code code.length)), (3, .c (.sl (bl) (0) (ps.length))), (19, .c (.bool (fi))), (22, .c (.int .i64 (m))), (24, .c (.int .i64 (v))), (169, .c (.bool (false)))] H) : ALoop Tryd.prog 338 H0.n laws_FnPresses_l1 [(0, .c (.sl b_code i_code code.length)), (3, .c (.sl (bl) (0) (ps.length))), (19, .c (.bool (fi))), (22, .c (.int .i64 (m))), (24, .c (.int .i64 (0)))] H Q := by
  have hat_code : eU.At H b_code i_code k_code code := ⟨hs0.1.2 _ _ hat0_code.blk, hat0_code.esz, hat0_code.len, hat0_code.els⟩
  have hE := soundE_cons laws_rBig_s (soundE_cons spec_DrawNextPrinting_s (soundE_cons impl_NextPrinting_s (soundE_cons spec_NextPrinting_s (soundE_cons laws_rPrintings_s (soundE_cons impl_SheetsBy_s (soundE_cons impl_RarestPrinting_s (soundE_cons spec_RarestPrinting_s (soundE_cons spec_DrawUniqueTones_s (soundE_cons impl_UniqueTones_s (soundE_cons spec_UniqueTones_s (soundE_cons laws_rInts_s (soundE_cons impl_CanBeOf_s (soundE_cons spec_DrawStampsUntil_s (soundE_cons impl_StampsUntil_s (soundE_cons spec_StampsUntil_s (soundE_cons impl_LongestPause_s (soundE_cons spec_LongestPause_s (soundE_cons spec_DrawPrintingText_s (soundE_cons impl_PrintingText_s (soundE_cons spec_PrintingText_s (soundE_nil (P := Tryd.prog))))))))))))))))))))))
  have hn0 : H0.n ≤ H.n := hs0.1.1
  have hb_code : b_code < H.n := (hwf b_code k_code hat_code.blk).1
  have hne_code : (b_code = H.n) = False := eq_false (by omega)
  have hne1_code : ∀ i, (b_code = H.n + i) = False := fun i => eq_false (by omega)
  have hne2_code : (b_code = H.n + 1 + 1) = False ∧ (b_code = H.n + 1 + 1 + 1) = False ∧ (b_code = H.n + 1 + 1 + 1 + 1) = False ∧ (b_code = H.n + 1 + 1 + 1 + 1 + 1) = False ∧ (b_code = H.n + 1 + 1 + 1 + 1 + 1 + 1) = False ∧ (b_code = H.n + 1 + 1 + 1 + 1 + 1 + 1 + 1) = False ∧ (b_code = H.n + 1 + 1 + 1 + 1 + 1 + 1 + 1 + 1) = False ∧ (b_code = H.n + 1 + 1 + 1 + 1 + 1 + 1 + 1 + 1 + 1) = False ∧ (b_code = H.n + 1 + 1 + 1 + 1 + 1 + 1 + 1 + 1 + 1 + 1) = False ∧ (b_code = H.n + 1 + 1 + 1 + 1 + 1 + 1 + 1 + 1 + 1 + 1 + 1) = False ∧ (b_code = H.n + 1 + 1 + 1 + 1 + 1 + 1 + 1 + 1 + 1 + 1 + 1 + 1) = False := ⟨eq_false (by omega), eq_false (by omega), eq_false (by omega), eq_false (by omega), eq_false (by omega), eq_false (by omega), eq_false (by omega), eq_false (by omega), eq_false (by omega), eq_false (by omega), eq_false (by omega)⟩
  have hmx_code : code.length ≤ 9223372036854775807 := by have h1 := (hwf b_code k_code hat_code.blk).2.2; have h2 := hat_code.len; omega
  have hl0_code : b_code < H.n := by omega
  have hl1_code : b_code < H.n + 1 := by omega
  have hl2_code : b_code < H.n + 1 + 1 := by omega
  have hl3_code : b_code < H.n + 1 + 1 + 1 := by omega
  have hl4_code : b_code < H.n + 1 + 1 + 1 + 1 := by omega
  have hl5_code : b_code < H.n + 1 + 1 + 1 + 1 + 1 := by omega
  have hl6_code : b_code < H.n + 1 + 1 + 1 + 1 + 1 + 1 := by omega
  have hl7_code : b_code < H.n + 1 + 1 + 1 + 1 + 1 + 1 + 1 := by omega
  have hb_bl : bl < H.n := (hwf bl _ hr_bl).1
  have hne_bl : (bl = H.n) = False := eq_false (by omega)
  have hne1_bl : ∀ i, (bl = H.n + i) = False := fun i => eq_false (by omega)
  have hne2_bl : (bl = H.n + 1 + 1) = False ∧ (bl = H.n + 1 + 1 + 1) = False ∧ (bl = H.n + 1 + 1 + 1 + 1) = False ∧ (bl = H.n + 1 + 1 + 1 + 1 + 1) = False ∧ (bl = H.n + 1 + 1 + 1 + 1 + 1 + 1) = False ∧ (bl = H.n + 1 + 1 + 1 + 1 + 1 + 1 + 1) = False ∧ (bl = H.n + 1 + 1 + 1 + 1 + 1 + 1 + 1 + 1) = False ∧ (bl = H.n + 1 + 1 + 1 + 1 + 1 + 1 + 1 + 1 + 1) = False ∧ (bl = H.n + 1 + 1 + 1 + 1 + 1 + 1 + 1 + 1 + 1 + 1) = False ∧ (bl = H.n + 1 + 1 + 1 + 1 + 1 + 1 + 1 + 1 + 1 + 1 + 1) = False ∧ (bl = H.n + 1 + 1 + 1 + 1 + 1 + 1 + 1 + 1 + 1 + 1 + 1 + 1) = False := ⟨eq_false (by omega), eq_false (by omega), eq_false (by omega), eq_false (by omega), eq_false (by omega), eq_false (by omega), eq_false (by omega), eq_false (by omega), eq_false (by omega), eq_false (by omega), eq_false (by omega)⟩
  have hl0_bl : bl < H.n := by omega
  have hl1_bl : bl < H.n + 1 := by omega
  have hl2_bl : bl < H.n + 1 + 1 := by omega
  have hl3_bl : bl < H.n + 1 + 1 + 1 := by omega
  have hl4_bl : bl < H.n + 1 + 1 + 1 + 1 := by omega
  have hl5_bl : bl < H.n + 1 + 1 + 1 + 1 + 1 := by omega
  have hl6_bl : bl < H.n + 1 + 1 + 1 + 1 + 1 + 1 := by omega
  have hl7_bl : bl < H.n + 1 + 1 + 1 + 1 + 1 + 1 + 1 := by omega
  cases fi with
  | false =>
    refine aloop_list ([] : List Pr) (fun j _ => [(0, .c (.sl b_code i_code code.length)), (3, .c (.sl (bl) (0) (ps.length))), (19, .c (.bool (false))), (22, .c (.int .i64 (m))), (24, .c (.int .i64 (0)))]) (fun _ _ => H) (fun j l _ => True) hE _ () trivial (.since hn0 hwf (.refl _) (by simp [frOk, AV.okR, AV.ok1, AC.okR, AV.ren, AV.ren1, AC.ren, AFrame.get, pl1_old, hl0_code, hl1_code, hl2_code, hl3_code, hl4_code, hl5_code, hl6_code, hl7_code, hl0_bl, hl1_bl, hl2_bl, hl3_bl, hl4_bl, hl5_bl, hl6_bl, hl7_bl]; first | done | rfl | omega)) (fun j _ hlt _ => absurd hlt (Nat.not_lt_zero _)) fun _ _ => ?_
    have hf := hfin 0
    by_cases hu : 0 < ps.length
    · have hu2 : (0 : Int) < (ps.length : Int) := by omega
      simp (config := {contextual := true, implicitDefEqProofs := false, maxSteps := 2000000}) [-Int.not_le, -Int.not_lt, argsF, laws_FnPresses_l1, hat_code.blk, hat_code.esz, hat_code.len, hat_code.els, hne_code, hne1_code, hne2_code.1, hne2_code.2.1, hne2_code.2.2.1, hne2_code.2.2.2.1, hne2_code.2.2.2.2.1, hne2_code.2.2.2.2.2.1, hne2_code.2.2.2.2.2.2.1, hne2_code.2.2.2.2.2.2.2.1, hne2_code.2.2.2.2.2.2.2.2.1, hne2_code.2.2.2.2.2.2.2.2.2.1, hne2_code.2.2.2.2.2.2.2.2.2.2, rowK, Enc.decL_map, hr_bl, hne_bl, hne1_bl, hne2_bl.1, hne2_bl.2.1, hne2_bl.2.2.1, hne2_bl.2.2.2.1, hne2_bl.2.2.2.2.1, hne2_bl.2.2.2.2.2.1, hne2_bl.2.2.2.2.2.2.1, hne2_bl.2.2.2.2.2.2.2.1, hne2_bl.2.2.2.2.2.2.2.2.1, hne2_bl.2.2.2.2.2.2.2.2.2.1, hne2_bl.2.2.2.2.2.2.2.2.2.2, hu, hu2]
      exact hf
    · have hu2 : ¬ (0 : Int) < (ps.length : Int) := by omega
      have hu3 : ps.length = 0 := by omega
      simp (config := {contextual := true, implicitDefEqProofs := false, maxSteps := 2000000}) [-Int.not_le, -Int.not_lt, argsF, laws_FnPresses_l1, hat_code.blk, hat_code.esz, hat_code.len, hat_code.els, hne_code, hne1_code, hne2_code.1, hne2_code.2.1, hne2_code.2.2.1, hne2_code.2.2.2.1, hne2_code.2.2.2.2.1, hne2_code.2.2.2.2.2.1, hne2_code.2.2.2.2.2.2.1, hne2_code.2.2.2.2.2.2.2.1, hne2_code.2.2.2.2.2.2.2.2.1, hne2_code.2.2.2.2.2.2.2.2.2.1, hne2_code.2.2.2.2.2.2.2.2.2.2, rowK, Enc.decL_map, hr_bl, hne_bl, hne1_bl, hne2_bl.1, hne2_bl.2.1, hne2_bl.2.2.1, hne2_bl.2.2.2.1, hne2_bl.2.2.2.2.1, hne2_bl.2.2.2.2.2.1, hne2_bl.2.2.2.2.2.2.1, hne2_bl.2.2.2.2.2.2.2.1, hne2_bl.2.2.2.2.2.2.2.2.1, hne2_bl.2.2.2.2.2.2.2.2.2.1, hne2_bl.2.2.2.2.2.2.2.2.2.2, hu2, hu3]
      rw [hu3] at hf
      exact hf
  | true =>
    refine aloop_list ps (fun j _ => [(0, .c (.sl b_code i_code code.length)), (3, .c (.sl (bl) (0) (ps.length))), (19, .c (.bool (true))), (22, .c (.int .i64 (m))), (24, .c (.int .i64 ((j : Int))))]) (fun _ _ => H) (fun j l _ => True) hE _ () trivial (.since hn0 hwf (.refl _) (by simp [frOk, AV.okR, AV.ok1, AC.okR, AV.ren, AV.ren1, AC.ren, AFrame.get, pl1_old, hl0_code, hl1_code, hl2_code, hl3_code, hl4_code, hl5_code, hl6_code, hl7_code, hl0_bl, hl1_bl, hl2_bl, hl3_bl, hl4_bl, hl5_bl, hl6_bl, hl7_bl]; first | done | rfl | omega)) (fun j _ hlt _ => ?_) fun _ _ => ?_
    · have hj1 := idx_lt hlt
      have w1 : IntKind.i64.wrap ((j : Int) + 1) = (j : Int) + 1 := wrap_id (by omega) (by omega)
      have hc := hm rfl _ (List.getElem_mem hlt)
      clear hm
      simp (config := {contextual := true, implicitDefEqProofs := false, maxSteps := 2000000}) [-Int.not_le, -Int.not_lt, argsF, laws_FnPresses_l1, hat_code.blk, hat_code.esz, hat_code.len, hat_code.els, hne_code, hne1_code, hne2_code.1, hne2_code.2.1, hne2_code.2.2.1, hne2_code.2.2.2.1, hne2_code.2.2.2.2.1, hne2_code.2.2.2.2.2.1, hne2_code.2.2.2.2.2.2.1, hne2_code.2.2.2.2.2.2.2.1, hne2_code.2.2.2.2.2.2.2.2.1, hne2_code.2.2.2.2.2.2.2.2.2.1, hne2_code.2.2.2.2.2.2.2.2.2.2, rowK, Enc.decL_map, hr_bl, hne_bl, hne1_bl, hne2_bl.1, hne2_bl.2.1, hne2_bl.2.2.1, hne2_bl.2.2.2.1, hne2_bl.2.2.2.2.1, hne2_bl.2.2.2.2.2.1, hne2_bl.2.2.2.2.2.2.1, hne2_bl.2.2.2.2.2.2.2.1, hne2_bl.2.2.2.2.2.2.2.2.1, hne2_bl.2.2.2.2.2.2.2.2.2.1, hne2_bl.2.2.2.2.2.2.2.2.2.2, hj1, w1, hlt, hc]
      exact ⟨(), trivial, .since hn0 hwf (.refl _) (by simp [frOk, AV.okR, AV.ok1, AC.okR, AV.ren, AV.ren1, AC.ren, AFrame.get, pl1_old, hl0_code, hl1_code, hl2_code, hl3_code, hl4_code, hl5_code, hl6_code, hl7_code, hl0_bl, hl1_bl, hl2_bl, hl3_bl, hl4_bl, hl5_bl, hl6_bl, hl7_bl]; first | done | rfl | omega)⟩
    · have hf := hfin (ps.length : Int)
      clear hm
      simp (config := {contextual := true, implicitDefEqProofs := false, maxSteps := 2000000}) [-Int.not_le, -Int.not_lt, argsF, laws_FnPresses_l1, hat_code.blk, hat_code.esz, hat_code.len, hat_code.els, hne_code, hne1_code, hne2_code.1, hne2_code.2.1, hne2_code.2.2.1, hne2_code.2.2.2.1, hne2_code.2.2.2.2.1, hne2_code.2.2.2.2.2.1, hne2_code.2.2.2.2.2.2.1, hne2_code.2.2.2.2.2.2.2.1, hne2_code.2.2.2.2.2.2.2.2.1, hne2_code.2.2.2.2.2.2.2.2.2.1, hne2_code.2.2.2.2.2.2.2.2.2.2, rowK, Enc.decL_map, hr_bl, hne_bl, hne1_bl, hne2_bl.1, hne2_bl.2.1, hne2_bl.2.2.1, hne2_bl.2.2.2.1, hne2_bl.2.2.2.2.1, hne2_bl.2.2.2.2.2.1, hne2_bl.2.2.2.2.2.2.1, hne2_bl.2.2.2.2.2.2.2.1, hne2_bl.2.2.2.2.2.2.2.2.1, hne2_bl.2.2.2.2.2.2.2.2.2.1, hne2_bl.2.2.2.2.2.2.2.2.2.2]
      exact hf

theorem laws_FnPresses_p6 {H0 H : AHeap} {K : AV → AHeap → Prop} {b_code i_code : Nat} {k_code : ABlk} {code : List UInt8} (hwf0 : H0.WF) (hs0 : Sub H0 H) (hwf : H.WF) (hat0_code : eU.At H0 b_code i_code k_code code) (h : K (.c (.bool true)) H0) (hcl : code.length ≤ 65536) (hI0 : ∀ w, H0.I w → tabI w) {bl : Nat} {ps : List Pr} (hpl : ps.length ≤ 14) (hr_bl : H.b bl = some (rowK ePr 34 ps)) (hx_bl : H0.n ≤ bl) {F : AFrame} (hF : F.keep [0, 3] = [(0, .c (.sl b_code i_code code.length)), (3, .c (.sl (bl) (0) (ps.length)))]) : avc Tryd.prog [(4, q_rBig), (5, q_DNp), (6, q_np), (7, q_np), (8, q_rPrintings), (9, q_sb), (10, q_rp), (11, q_rp), (12, q_DSh), (13, q_ut), (14, q_ut), (15, q_rInts), (16, q_cb), (17, q_DSu), (18, q_su), (19, q_su), (20, q_lp), (21, q_lp), (22, q_DPt), (23, q_pt), (24, q_pt)] 338 H0.n laws_FnPresses_t6 F H (endK Tryd.prog H0.n [.tmp 2] K) := by
  refine (show avc _ _ _ _ _ _ _ _ = _ from avc_cut _ _).mpr ?_
  rw [hF]
  have hat_code : eU.At H b_code i_code k_code code := ⟨hs0.1.2 _ _ hat0_code.blk, hat0_code.esz, hat0_code.len, hat0_code.els⟩
  have hE := soundE_cons laws_rBig_s (soundE_cons spec_DrawNextPrinting_s (soundE_cons impl_NextPrinting_s (soundE_cons spec_NextPrinting_s (soundE_cons laws_rPrintings_s (soundE_cons impl_SheetsBy_s (soundE_cons impl_RarestPrinting_s (soundE_cons spec_RarestPrinting_s (soundE_cons spec_DrawUniqueTones_s (soundE_cons impl_UniqueTones_s (soundE_cons spec_UniqueTones_s (soundE_cons laws_rInts_s (soundE_cons impl_CanBeOf_s (soundE_cons spec_DrawStampsUntil_s (soundE_cons impl_StampsUntil_s (soundE_cons spec_StampsUntil_s (soundE_cons impl_LongestPause_s (soundE_cons spec_LongestPause_s (soundE_cons spec_DrawPrintingText_s (soundE_cons impl_PrintingText_s (soundE_cons spec_PrintingText_s (soundE_nil (P := Tryd.prog))))))))))))))))))))))
  have hn0 : H0.n ≤ H.n := hs0.1.1
  have hb_code : b_code < H.n := (hwf b_code k_code hat_code.blk).1
  have hne_code : (b_code = H.n) = False := eq_false (by omega)
  have hne1_code : ∀ i, (b_code = H.n + i) = False := fun i => eq_false (by omega)
  have hne2_code : (b_code = H.n + 1 + 1) = False ∧ (b_code = H.n + 1 + 1 + 1) = False ∧ (b_code = H.n + 1 + 1 + 1 + 1) = False ∧ (b_code = H.n + 1 + 1 + 1 + 1 + 1) = False ∧ (b_code = H.n + 1 + 1 + 1 + 1 + 1 + 1) = False ∧ (b_code = H.n + 1 + 1 + 1 + 1 + 1 + 1 + 1) = False ∧ (b_code = H.n + 1 + 1 + 1 + 1 + 1 + 1 + 1 + 1) = False ∧ (b_code = H.n + 1 + 1 + 1 + 1 + 1 + 1 + 1 + 1 + 1) = False ∧ (b_code = H.n + 1 + 1 + 1 + 1 + 1 + 1 + 1 + 1 + 1 + 1) = False ∧ (b_code = H.n + 1 + 1 + 1 + 1 + 1 + 1 + 1 + 1 + 1 + 1 + 1) = False ∧ (b_code = H.n + 1 + 1 + 1 + 1 + 1 + 1 + 1 + 1 + 1 + 1 + 1 + 1) = False := ⟨eq_false (by omega), eq_false (by omega), eq_false (by omega), eq_false (by omega), eq_false (by omega), eq_false (by omega), eq_false (by omega), eq_false (by omega), eq_false (by omega), eq_false (by omega), eq_false (by omega)⟩
  have hmx_code : code.length ≤ 9223372036854775807 := by have h1 := (hwf b_code k_code hat_code.blk).2.2; have h2 := hat_code.len; omega
  have hl0_code : b_code < H.n := by omega
  have hl1_code : b_code < H.n + 1 := by omega
  have hl2_code : b_code < H.n + 1 + 1 := by omega
  have hl3_code : b_code < H.n + 1 + 1 + 1 := by omega
  have hl4_code : b_code < H.n + 1 + 1 + 1 + 1 := by omega
  have hl5_code : b_code < H.n + 1 + 1 + 1 + 1 + 1 := by omega
  have hl6_code : b_code < H.n + 1 + 1 + 1 + 1 + 1 + 1 := by omega
  have hl7_code : b_code < H.n + 1 + 1 + 1 + 1 + 1 + 1 + 1 := by omega
  have hb_bl : bl < H.n := (hwf bl _ hr_bl).1
  have hne_bl : (bl = H.n) = False := eq_false (by omega)
  have hne1_bl : ∀ i, (bl = H.n + i) = False := fun i => eq_false (by omega)
  have hne2_bl : (bl = H.n + 1 + 1) = False ∧ (bl = H.n + 1 + 1 + 1) = False ∧ (bl = H.n + 1 + 1 + 1 + 1) = False ∧ (bl = H.n + 1 + 1 + 1 + 1 + 1) = False ∧ (bl = H.n + 1 + 1 + 1 + 1 + 1 + 1) = False ∧ (bl = H.n + 1 + 1 + 1 + 1 + 1 + 1 + 1) = False ∧ (bl = H.n + 1 + 1 + 1 + 1 + 1 + 1 + 1 + 1) = False ∧ (bl = H.n + 1 + 1 + 1 + 1 + 1 + 1 + 1 + 1 + 1) = False ∧ (bl = H.n + 1 + 1 + 1 + 1 + 1 + 1 + 1 + 1 + 1 + 1) = False ∧ (bl = H.n + 1 + 1 + 1 + 1 + 1 + 1 + 1 + 1 + 1 + 1 + 1) = False ∧ (bl = H.n + 1 + 1 + 1 + 1 + 1 + 1 + 1 + 1 + 1 + 1 + 1 + 1) = False := ⟨eq_false (by omega), eq_false (by omega), eq_false (by omega), eq_false (by omega), eq_false (by omega), eq_false (by omega), eq_false (by omega), eq_false (by omega), eq_false (by omega), eq_false (by omega), eq_false (by omega)⟩
  have hl0_bl : bl < H.n := by omega
  have hl1_bl : bl < H.n + 1 := by omega
  have hl2_bl : bl < H.n + 1 + 1 := by omega
  have hl3_bl : bl < H.n + 1 + 1 + 1 := by omega
  have hl4_bl : bl < H.n + 1 + 1 + 1 + 1 := by omega
  have hl5_bl : bl < H.n + 1 + 1 + 1 + 1 + 1 := by omega
  have hl6_bl : bl < H.n + 1 + 1 + 1 + 1 + 1 + 1 := by omega
  have hl7_bl : bl < H.n + 1 + 1 + 1 + 1 + 1 + 1 + 1 := by omega
  simp (config := {contextual := true, implicitDefEqProofs := false, maxSteps := 2000000}) [-Int.not_le, -Int.not_lt, argsF, laws_FnPresses_t6, laws_FnPresses_t7, laws_FnPresses_t8, laws_FnPresses_t9, hat_code.blk, hat_code.esz, hat_code.len, hat_code.els, hne_code, hne1_code, hne2_code.1, hne2_code.2.1, hne2_code.2.2.1, hne2_code.2.2.2.1, hne2_code.2.2.2.2.1, hne2_code.2.2.2.2.2.1, hne2_code.2.2.2.2.2.2.1, hne2_code.2.2.2.2.2.2.2.1, hne2_code.2.2.2.2.2.2.2.2.1, hne2_code.2.2.2.2.2.2.2.2.2.1, hne2_code.2.2.2.2.2.2.2.2.2.2, rowK, Enc.decL_map, hcl, hr_bl, hne_bl, hne1_bl, hne2_bl.1, hne2_bl.2.1, hne2_bl.2.2.1, hne2_bl.2.2.2.1, hne2_bl.2.2.2.2.1, hne2_bl.2.2.2.2.2.1, hne2_bl.2.2.2.2.2.2.1, hne2_bl.2.2.2.2.2.2.2.1, hne2_bl.2.2.2.2.2.2.2.2.1, hne2_bl.2.2.2.2.2.2.2.2.2.1, hne2_bl.2.2.2.2.2.2.2.2.2.2, ite_self]
  refine laws_FnPresses_loop0 hwf0 hs0 hwf hat0_code hpl hr_bl hx_bl fun s v hs => ?_
  simp (config := {contextual := true, implicitDefEqProofs := false, maxSteps := 2000000}) [-Int.not_le, -Int.not_lt, argsF, laws_FnPresses_t9, laws_FnPresses_t10, hat_code.blk, hat_code.esz, hat_code.len, hat_code.els, hne_code, hne1_code, hne2_code.1, hne2_code.2.1, hne2_code.2.2.1, hne2_code.2.2.2.1, hne2_code.2.2.2.2.1, hne2_code.2.2.2.2.2.1, hne2_code.2.2.2.2.2.2.1, hne2_code.2.2.2.2.2.2.2.1, hne2_code.2.2.2.2.2.2.2.2.1, hne2_code.2.2.2.2.2.2.2.2.2.1, hne2_code.2.2.2.2.2.2.2.2.2.2, rowK, Enc.decL_map, hcl, hr_bl, hne_bl, hne1_bl, hne2_bl.1, hne2_bl.2.1, hne2_bl.2.2.1, hne2_bl.2.2.2.1, hne2_bl.2.2.2.2.1, hne2_bl.2.2.2.2.2.1, hne2_bl.2.2.2.2.2.2.1, hne2_bl.2.2.2.2.2.2.2.1, hne2_bl.2.2.2.2.2.2.2.2.1, hne2_bl.2.2.2.2.2.2.2.2.2.1, hne2_bl.2.2.2.2.2.2.2.2.2.2]
  refine laws_FnPresses_loop1 hwf0 hs0 hwf hat0_code hpl (fun hf => by rw [hs hf]; exact rp_all hf) hr_bl hx_bl fun v => ?_
  clear hs
  simp (config := {contextual := true, implicitDefEqProofs := false, maxSteps := 2000000}) [-Int.not_le, -Int.not_lt, argsF, laws_FnPresses_t10, hat_code.blk, hat_code.esz, hat_code.len, hat_code.els, hne_code, hne1_code, hne2_code.1, hne2_code.2.1, hne2_code.2.2.1, hne2_code.2.2.2.1, hne2_code.2.2.2.2.1, hne2_code.2.2.2.2.2.1, hne2_code.2.2.2.2.2.2.1, hne2_code.2.2.2.2.2.2.2.1, hne2_code.2.2.2.2.2.2.2.2.1, hne2_code.2.2.2.2.2.2.2.2.2.1, hne2_code.2.2.2.2.2.2.2.2.2.2, rowK, Enc.decL_map, hcl, hr_bl, hne_bl, hne1_bl, hne2_bl.1, hne2_bl.2.1, hne2_bl.2.2.1, hne2_bl.2.2.2.1, hne2_bl.2.2.2.2.1, hne2_bl.2.2.2.2.2.1, hne2_bl.2.2.2.2.2.2.1, hne2_bl.2.2.2.2.2.2.2.1, hne2_bl.2.2.2.2.2.2.2.2.1, hne2_bl.2.2.2.2.2.2.2.2.2.1, hne2_bl.2.2.2.2.2.2.2.2.2.2]
  exact laws_FnPresses_p11 hwf0 (by (repeat first | exact Sub.refl _ | refine Sub.push hwf0 ?_ _ | refine Sub.set hwf0 ?_ (by first | exact Nat.le_refl _ | omega | (simp only [push_n, set_n, kill_n]; omega)) _ | refine Sub.kill hwf0 ?_ (by first | exact Nat.le_refl _ | omega | (simp only [push_n, set_n, kill_n]; omega))); exact hs0) (by repeat first | exact hwf | refine WF.push ?_ (plain_map (fun _ => rfl) _) (by first | (simp; done) | (simp; omega))) hat0_code h hcl hI0 hpl (by simp [push_b, set_b, kill_b, hat_code.blk, hat_code.esz, hat_code.len, hat_code.els, hne_code, hne1_code, hne2_code.1, hne2_code.2.1, hne2_code.2.2.1, hne2_code.2.2.2.1, hne2_code.2.2.2.2.1, hne2_code.2.2.2.2.2.1, hne2_code.2.2.2.2.2.2.1, hne2_code.2.2.2.2.2.2.2.1, hne2_code.2.2.2.2.2.2.2.2.1, hne2_code.2.2.2.2.2.2.2.2.2.1, hne2_code.2.2.2.2.2.2.2.2.2.2, rowK, Enc.decL_map, hcl, hr_bl, hne_bl, hne1_bl, hne2_bl.1, hne2_bl.2.1, hne2_bl.2.2.1, hne2_bl.2.2.2.1, hne2_bl.2.2.2.2.1, hne2_bl.2.2.2.2.2.1, hne2_bl.2.2.2.2.2.2.1, hne2_bl.2.2.2.2.2.2.2.1, hne2_bl.2.2.2.2.2.2.2.2.1, hne2_bl.2.2.2.2.2.2.2.2.2.1, hne2_bl.2.2.2.2.2.2.2.2.2.2]; done) hx_bl rfl

theorem laws_FnPresses_p5 {H0 H : AHeap} {K : AV → AHeap → Prop} {b_code i_code : Nat} {k_code : ABlk} {code : List UInt8} (hwf0 : H0.WF) (hs0 : Sub H0 H) (hwf : H.WF) (hat0_code : eU.At H0 b_code i_code k_code code) (h : K (.c (.bool true)) H0) (hcl : code.length ≤ 65536) (hI0 : ∀ w, H0.I w → tabI w) {bl : Nat} {ps : List Pr} (hpl : ps.length ≤ 14) {bo : Nat} {d sh hu sp : Int} (hr_bl : H.b bl = some (rowK ePr 34 ps)) (hx_bl : H0.n ≤ bl) (hr_bo : H.b bo = some (rowK ePr 34 (npRes ps d sh hu sp).1)) (hx_bo : H0.n ≤ bo) {F : AFrame} (hF : F.keep [0, 3, 4, 5, 8, 10] = [(0, .c (.sl b_code i_code code.length)), (3, .c (.sl (bl) (0) (ps.length))), (4, .c (.int .i64 (d))), (5, .c (.int .i64 (sh))), (8, .c (.sl (bo) (0) ((npRes ps d sh hu sp).1.length))), (10, .c (.bool ((npRes ps d sh hu sp).2.2)))]) : avc Tryd.prog [(4, q_rBig), (5, q_DNp), (6, q_np), (7, q_np), (8, q_rPrintings), (9, q_sb), (10, q_rp), (11, q_rp), (12, q_DSh), (13, q_ut), (14, q_ut), (15, q_rInts), (16, q_cb), (17, q_DSu), (18, q_su), (19, q_su), (20, q_lp), (21, q_lp), (22, q_DPt), (23, q_pt), (24, q_pt)] 338 H0.n laws_FnPresses_t5 F H (endK Tryd.prog H0.n [.tmp 2] K) := by
  refine (show avc _ _ _ _ _ _ _ _ = _ from avc_cut _ _).mpr ?_
  rw [hF]
  have hat_code : eU.At H b_code i_code k_code code := ⟨hs0.1.2 _ _ hat0_code.blk, hat0_code.esz, hat0_code.len, hat0_code.els⟩
  have hE := soundE_cons laws_rBig_s (soundE_cons spec_DrawNextPrinting_s (soundE_cons impl_NextPrinting_s (soundE_cons spec_NextPrinting_s (soundE_cons laws_rPrintings_s (soundE_cons impl_SheetsBy_s (soundE_cons impl_RarestPrinting_s (soundE_cons spec_RarestPrinting_s (soundE_cons spec_DrawUniqueTones_s (soundE_cons impl_UniqueTones_s (soundE_cons spec_UniqueTones_s (soundE_cons laws_rInts_s (soundE_cons impl_CanBeOf_s (soundE_cons spec_DrawStampsUntil_s (soundE_cons impl_StampsUntil_s (soundE_cons spec_StampsUntil_s (soundE_cons impl_LongestPause_s (soundE_cons spec_LongestPause_s (soundE_cons spec_DrawPrintingText_s (soundE_cons impl_PrintingText_s (soundE_cons spec_PrintingText_s (soundE_nil (P := Tryd.prog))))))))))))))))))))))
  have hn0 : H0.n ≤ H.n := hs0.1.1
  have hb_code : b_code < H.n := (hwf b_code k_code hat_code.blk).1
  have hne_code : (b_code = H.n) = False := eq_false (by omega)
  have hne1_code : ∀ i, (b_code = H.n + i) = False := fun i => eq_false (by omega)
  have hne2_code : (b_code = H.n + 1 + 1) = False ∧ (b_code = H.n + 1 + 1 + 1) = False ∧ (b_code = H.n + 1 + 1 + 1 + 1) = False ∧ (b_code = H.n + 1 + 1 + 1 + 1 + 1) = False ∧ (b_code = H.n + 1 + 1 + 1 + 1 + 1 + 1) = False ∧ (b_code = H.n + 1 + 1 + 1 + 1 + 1 + 1 + 1) = False ∧ (b_code = H.n + 1 + 1 + 1 + 1 + 1 + 1 + 1 + 1) = False ∧ (b_code = H.n + 1 + 1 + 1 + 1 + 1 + 1 + 1 + 1 + 1) = False ∧ (b_code = H.n + 1 + 1 + 1 + 1 + 1 + 1 + 1 + 1 + 1 + 1) = False ∧ (b_code = H.n + 1 + 1 + 1 + 1 + 1 + 1 + 1 + 1 + 1 + 1 + 1) = False ∧ (b_code = H.n + 1 + 1 + 1 + 1 + 1 + 1 + 1 + 1 + 1 + 1 + 1 + 1) = False := ⟨eq_false (by omega), eq_false (by omega), eq_false (by omega), eq_false (by omega), eq_false (by omega), eq_false (by omega), eq_false (by omega), eq_false (by omega), eq_false (by omega), eq_false (by omega), eq_false (by omega)⟩
  have hmx_code : code.length ≤ 9223372036854775807 := by have h1 := (hwf b_code k_code hat_code.blk).2.2; have h2 := hat_code.len; omega
  have hl0_code : b_code < H.n := by omega
  have hl1_code : b_code < H.n + 1 := by omega
  have hl2_code : b_code < H.n + 1 + 1 := by omega
  have hl3_code : b_code < H.n + 1 + 1 + 1 := by omega
  have hl4_code : b_code < H.n + 1 + 1 + 1 + 1 := by omega
  have hl5_code : b_code < H.n + 1 + 1 + 1 + 1 + 1 := by omega
  have hl6_code : b_code < H.n + 1 + 1 + 1 + 1 + 1 + 1 := by omega
  have hl7_code : b_code < H.n + 1 + 1 + 1 + 1 + 1 + 1 + 1 := by omega
  have hb_bl : bl < H.n := (hwf bl _ hr_bl).1
  have hne_bl : (bl = H.n) = False := eq_false (by omega)
  have hne1_bl : ∀ i, (bl = H.n + i) = False := fun i => eq_false (by omega)
  have hne2_bl : (bl = H.n + 1 + 1) = False ∧ (bl = H.n + 1 + 1 + 1) = False ∧ (bl = H.n + 1 + 1 + 1 + 1) = False ∧ (bl = H.n + 1 + 1 + 1 + 1 + 1) = False ∧ (bl = H.n + 1 + 1 + 1 + 1 + 1 + 1) = False ∧ (bl = H.n + 1 + 1 + 1 + 1 + 1 + 1 + 1) = False ∧ (bl = H.n + 1 + 1 + 1 + 1 + 1 + 1 + 1 + 1) = False ∧ (bl = H.n + 1 + 1 + 1 + 1 + 1 + 1 + 1 + 1 + 1) = False ∧ (bl = H.n + 1 + 1 + 1 + 1 + 1 + 1 + 1 + 1 + 1 + 1) = False ∧ (bl = H.n + 1 + 1 + 1 + 1 + 1 + 1 + 1 + 1 + 1 + 1 + 1) = False ∧ (bl = H.n + 1 + 1 + 1 + 1 + 1 + 1 + 1 + 1 + 1 + 1 + 1 + 1) = False := ⟨eq_false (by omega), eq_false (by omega), eq_false (by omega), eq_false (by omega), eq_false (by omega), eq_false (by omega), eq_false (by omega), eq_false (by omega), eq_false (by omega), eq_false (by omega), eq_false (by omega)⟩
  have hl0_bl : bl < H.n := by omega
  have hl1_bl : bl < H.n + 1 := by omega
  have hl2_bl : bl < H.n + 1 + 1 := by omega
  have hl3_bl : bl < H.n + 1 + 1 + 1 := by omega
  have hl4_bl : bl < H.n + 1 + 1 + 1 + 1 := by omega
  have hl5_bl : bl < H.n + 1 + 1 + 1 + 1 + 1 := by omega
  have hl6_bl : bl < H.n + 1 + 1 + 1 + 1 + 1 + 1 := by omega
  have hl7_bl : bl < H.n + 1 + 1 + 1 + 1 + 1 + 1 + 1 := by omega
  have hb_bo : bo < H.n := (hwf bo _ hr_bo).1
  have hne_bo : (bo = H.n) = False := eq_false (by omega)
  have hne1_bo : ∀ i, (bo = H.n + i) = False := fun i => eq_false (by omega)
  have hne2_bo : (bo = H.n + 1 + 1) = False ∧ (bo = H.n + 1 + 1 + 1) = False ∧ (bo = H.n + 1 + 1 + 1 + 1) = False ∧ (bo = H.n + 1 + 1 + 1 + 1 + 1) = False ∧ (bo = H.n + 1 + 1 + 1 + 1 + 1 + 1) = False ∧ (bo = H.n + 1 + 1 + 1 + 1 + 1 + 1 + 1) = False ∧ (bo = H.n + 1 + 1 + 1 + 1 + 1 + 1 + 1 + 1) = False ∧ (bo = H.n + 1 + 1 + 1 + 1 + 1 + 1 + 1 + 1 + 1) = False ∧ (bo = H.n + 1 + 1 + 1 + 1 + 1 + 1 + 1 + 1 + 1 + 1) = False ∧ (bo = H.n + 1 + 1 + 1 + 1 + 1 + 1 + 1 + 1 + 1 + 1 + 1) = False ∧ (bo = H.n + 1 + 1 + 1 + 1 + 1 + 1 + 1 + 1 + 1 + 1 + 1 + 1) = False := ⟨eq_false (by omega), eq_false (by omega), eq_false (by omega), eq_false (by omega), eq_false (by omega), eq_false (by omega), eq_false (by omega), eq_false (by omega), eq_false (by omega), eq_false (by omega), eq_false (by omega)⟩
  have hl0_bo : bo < H.n := by omega
  have hl1_bo : bo < H.n + 1 := by omega
  have hl2_bo : bo < H.n + 1 + 1 := by omega
  have hl3_bo : bo < H.n + 1 + 1 + 1 := by omega
  have hl4_bo : bo < H.n + 1 + 1 + 1 + 1 := by omega
  have hl5_bo : bo < H.n + 1 + 1 + 1 + 1 + 1 := by omega
  have hl6_bo : bo < H.n + 1 + 1 + 1 + 1 + 1 + 1 := by omega
  have hl7_bo : bo < H.n + 1 + 1 + 1 + 1 + 1 + 1 + 1 := by omega
  by_cases hok : (npRes ps d sh hu sp).2.2 = true
  · have ha := np_all hok
    have ha1 := ha.1
    have ha2 := ha.2.1
    have ha3 := ha.2.2
    clear ha
    simp (config := {contextual := true, implicitDefEqProofs := false, maxSteps := 2000000}) [-Int.not_le, -Int.not_lt, argsF, laws_FnPresses_t5, hat_code.blk, hat_code.esz, hat_code.len, hat_code.els, hne_code, hne1_code, hne2_code.1, hne2_code.2.1, hne2_code.2.2.1, hne2_code.2.2.2.1, hne2_code.2.2.2.2.1, hne2_code.2.2.2.2.2.1, hne2_code.2.2.2.2.2.2.1, hne2_code.2.2.2.2.2.2.2.1, hne2_code.2.2.2.2.2.2.2.2.1, hne2_code.2.2.2.2.2.2.2.2.2.1, hne2_code.2.2.2.2.2.2.2.2.2.2, rowK, Enc.decL_map, hcl, hr_bl, hne_bl, hne1_bl, hne2_bl.1, hne2_bl.2.1, hne2_bl.2.2.1, hne2_bl.2.2.2.1, hne2_bl.2.2.2.2.1, hne2_bl.2.2.2.2.2.1, hne2_bl.2.2.2.2.2.2.1, hne2_bl.2.2.2.2.2.2.2.1, hne2_bl.2.2.2.2.2.2.2.2.1, hne2_bl.2.2.2.2.2.2.2.2.2.1, hne2_bl.2.2.2.2.2.2.2.2.2.2, hr_bo, hne_bo, hne1_bo, hne2_bo.1, hne2_bo.2.1, hne2_bo.2.2.1, hne2_bo.2.2.2.1, hne2_bo.2.2.2.2.1, hne2_bo.2.2.2.2.2.1, hne2_bo.2.2.2.2.2.2.1, hne2_bo.2.2.2.2.2.2.2.1, hne2_bo.2.2.2.2.2.2.2.2.1, hne2_bo.2.2.2.2.2.2.2.2.2.1, hne2_bo.2.2.2.2.2.2.2.2.2.2, hok, ha1, ha2, ha3]
    exact laws_FnPresses_p6 hwf0 (by (repeat first | exact Sub.refl _ | refine Sub.push hwf0 ?_ _ | refine Sub.set hwf0 ?_ (by first | exact Nat.le_refl _ | omega | (simp only [push_n, set_n, kill_n]; omega)) _ | refine Sub.kill hwf0 ?_ (by first | exact Nat.le_refl _ | omega | (simp only [push_n, set_n, kill_n]; omega))); exact hs0) (by repeat first | exact hwf | refine WF.push ?_ (plain_map (fun _ => rfl) _) (by first | (simp; done) | (simp; omega))) hat0_code h hcl hI0 hpl (by simp [push_b, set_b, kill_b, hat_code.blk, hat_code.esz, hat_code.len, hat_code.els, hne_code, hne1_code, hne2_code.1, hne2_code.2.1, hne2_code.2.2.1, hne2_code.2.2.2.1, hne2_code.2.2.2.2.1, hne2_code.2.2.2.2.2.1, hne2_code.2.2.2.2.2.2.1, hne2_code.2.2.2.2.2.2.2.1, hne2_code.2.2.2.2.2.2.2.2.1, hne2_code.2.2.2.2.2.2.2.2.2.1, hne2_code.2.2.2.2.2.2.2.2.2.2, rowK, Enc.decL_map, hcl, hr_bl, hne_bl, hne1_bl, hne2_bl.1, hne2_bl.2.1, hne2_bl.2.2.1, hne2_bl.2.2.2.1, hne2_bl.2.2.2.2.1, hne2_bl.2.2.2.2.2.1, hne2_bl.2.2.2.2.2.2.1, hne2_bl.2.2.2.2.2.2.2.1, hne2_bl.2.2.2.2.2.2.2.2.1, hne2_bl.2.2.2.2.2.2.2.2.2.1, hne2_bl.2.2.2.2.2.2.2.2.2.2]; done) hx_bl rfl
  · have hok' : (npRes ps d sh hu sp).2.2 = false := by simpa using hok
    simp (config := {contextual := true, implicitDefEqProofs := false, maxSteps := 2000000}) [-Int.not_le, -Int.not_lt, argsF, laws_FnPresses_t5, hat_code.blk, hat_code.esz, hat_code.len, hat_code.els, hne_code, hne1_code, hne2_code.1, hne2_code.2.1, hne2_code.2.2.1, hne2_code.2.2.2.1, hne2_code.2.2.2.2.1, hne2_code.2.2.2.2.2.1, hne2_code.2.2.2.2.2.2.1, hne2_code.2.2.2.2.2.2.2.1, hne2_code.2.2.2.2.2.2.2.2.1, hne2_code.2.2.2.2.2.2.2.2.2.1, hne2_code.2.2.2.2.2.2.2.2.2.2, rowK, Enc.decL_map, hcl, hr_bl, hne_bl, hne1_bl, hne2_bl.1, hne2_bl.2.1, hne2_bl.2.2.1, hne2_bl.2.2.2.1, hne2_bl.2.2.2.2.1, hne2_bl.2.2.2.2.2.1, hne2_bl.2.2.2.2.2.2.1, hne2_bl.2.2.2.2.2.2.2.1, hne2_bl.2.2.2.2.2.2.2.2.1, hne2_bl.2.2.2.2.2.2.2.2.2.1, hne2_bl.2.2.2.2.2.2.2.2.2.2, hr_bo, hne_bo, hne1_bo, hne2_bo.1, hne2_bo.2.1, hne2_bo.2.2.1, hne2_bo.2.2.2.1, hne2_bo.2.2.2.2.1, hne2_bo.2.2.2.2.2.1, hne2_bo.2.2.2.2.2.2.1, hne2_bo.2.2.2.2.2.2.2.1, hne2_bo.2.2.2.2.2.2.2.2.1, hne2_bo.2.2.2.2.2.2.2.2.2.1, hne2_bo.2.2.2.2.2.2.2.2.2.2, hok']
    exact laws_FnPresses_p6 hwf0 (by (repeat first | exact Sub.refl _ | refine Sub.push hwf0 ?_ _ | refine Sub.set hwf0 ?_ (by first | exact Nat.le_refl _ | omega | (simp only [push_n, set_n, kill_n]; omega)) _ | refine Sub.kill hwf0 ?_ (by first | exact Nat.le_refl _ | omega | (simp only [push_n, set_n, kill_n]; omega))); exact hs0) (by repeat first | exact hwf | refine WF.push ?_ (plain_map (fun _ => rfl) _) (by first | (simp; done) | (simp; omega))) hat0_code h hcl hI0 hpl (by simp [push_b, set_b, kill_b, hat_code.blk, hat_code.esz, hat_code.len, hat_code.els, hne_code, hne1_code, hne2_code.1, hne2_code.2.1, hne2_code.2.2.1, hne2_code.2.2.2.1, hne2_code.2.2.2.2.1, hne2_code.2.2.2.2.2.1, hne2_code.2.2.2.2.2.2.1, hne2_code.2.2.2.2.2.2.2.1, hne2_code.2.2.2.2.2.2.2.2.1, hne2_code.2.2.2.2.2.2.2.2.2.1, hne2_code.2.2.2.2.2.2.2.2.2.2, rowK, Enc.decL_map, hcl, hr_bl, hne_bl, hne1_bl, hne2_bl.1, hne2_bl.2.1, hne2_bl.2.2.1, hne2_bl.2.2.2.1, hne2_bl.2.2.2.2.1, hne2_bl.2.2.2.2.2.1, hne2_bl.2.2.2.2.2.2.1, hne2_bl.2.2.2.2.2.2.2.1, hne2_bl.2.2.2.2.2.2.2.2.1, hne2_bl.2.2.2.2.2.2.2.2.2.1, hne2_bl.2.2.2.2.2.2.2.2.2.2]; done) hx_bl rfl

end Go.Proofs.YtegmlgikdniohaaDoor
