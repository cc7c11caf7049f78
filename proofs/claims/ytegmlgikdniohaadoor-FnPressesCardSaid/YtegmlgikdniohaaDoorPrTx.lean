/- The text of a printing. -/
import Derived.Test.YtegmlgikdniohaaDoorPrW
import Derived.Test.YtegmlgikdniohaaDoorNum
set_option maxRecDepth 8000
set_option linter.unusedSimpArgs false
set_option linter.unusedVariables false
namespace Go.Proofs.YtegmlgikdniohaaDoor
open Go Go.RowKit

set_option maxHeartbeats 1000000

def ptTxt (p : Pr) : List UInt8 := ((((((([110] ++ numT p.num) ++ [32, 111, 110, 32]) ++ numT p.day) ++ [58, 32]) ++ numT p.sheets) ++ [32, 115, 104, 101, 101, 116, 115, 32]) ++ numT p.hue)
def ptRes (p : Pr) : List UInt8 × Bool := if isPr p = true then if p.spread = 0 then (ptTxt p, true) else (ptTxt p ++ ([43, 45] ++ numT p.spread), true) else ([], false)

def q_pt : Con := fun args H K => match args with
  | [.agg p_e] => onv (ePr.dec p_e) fun p => (∀ w, H.I w → tabI w) ∧ K (.tup [.c (.str ((ptRes p).1)), .c (.bool ((ptRes p).2))]) H
  | _ => False
@[simp ↓] theorem q_pt_eq (p_e : List AC) (H : AHeap) (K : AV → AHeap → Prop) : q_pt [.agg p_e] H K = (onv (ePr.dec p_e) fun p => (∀ w, H.I w → tabI w) ∧ K (.tup [.c (.str ((ptRes p).1)), .c (.bool ((ptRes p).2))]) H) := rfl

theorem impl_PrintingText_s : Sound Tryd.prog 23 q_pt := by
  intro args H K h
  unfold q_pt at h
  split at h
  rotate_left
  all_goals first | exact False.elim h | skip
  rename_i p_e
  have h1 := onv_iff.1 h
  clear h
  obtain ⟨p, hd_p, h⟩ := h1
  obtain rfl := ePr.cd _ _ hd_p
  clear hd_p
  have hE := soundE_cons impl_isPrinting_s (soundE_cons strconv_Itoa_s (soundE_nil (P := Tryd.prog)))
  refine acalls_fn impl_PrintingText_k hE ⟨by simp, fun hwf => ?_⟩
  obtain ⟨hI, h⟩ := h
  by_cases hv : isPr p = true
  rotate_left
  · simp (config := {contextual := true, implicitDefEqProofs := false, maxSteps := 60000}) [-Int.not_le, -Int.not_lt, argsF, impl_PrintingText_c, hv]
    simp only [ptRes, hv, if_false, reduceCtorEq] at h
    (refine Out.plain hwf ?_ rfl ?_; (repeat first | exact Sub.refl _ | refine Sub.push hwf ?_ _ | refine Sub.set hwf ?_ (by first | exact Nat.le_refl _ | omega | (simp only [push_n, set_n, kill_n]; omega)) _ | refine Sub.kill hwf ?_ (by first | exact Nat.le_refl _ | omega | (simp only [push_n, set_n, kill_n]; omega)))); exact h
  · have hb := isPr_b hv
    have l0 := numT_len19 (n := p.num) (by omega) (by omega)
    have p0 : 0 ≤ p.num := by omega
    have r0 : p.num ≤ 9223372036854775807 := by omega
    have l1 := numT_len19 (n := p.day) (by omega) (by omega)
    have p1 : 0 ≤ p.day := by omega
    have r1 : p.day ≤ 9223372036854775807 := by omega
    have l2 := numT_len19 (n := p.sheets) (by omega) (by omega)
    have p2 : 0 ≤ p.sheets := by omega
    have r2 : p.sheets ≤ 9223372036854775807 := by omega
    have l3 := numT_len19 (n := p.hue) (by omega) (by omega)
    have p3 : 0 ≤ p.hue := by omega
    have r3 : p.hue ≤ 9223372036854775807 := by omega
    have l4 := numT_len19 (n := p.spread) (by omega) (by omega)
    have p4 : 0 ≤ p.spread := by omega
    have r4 : p.spread ≤ 9223372036854775807 := by omega
    have hs : (0 < p.spread) = ¬ (p.spread = 0) := propext (by omega)
    simp (config := {contextual := true, implicitDefEqProofs := false, maxSteps := 60000}) [-Int.not_le, -Int.not_lt, argsF, impl_PrintingText_c, hv, hI, hs, p0, r0, p1, r1, p2, r2, p3, r3, p4, r4]
    repeat (refine ⟨by first | omega | (simp; omega), ?_⟩)
    by_cases h0 : p.spread = 0
    · simp only [ptRes, ptTxt, hv, h0, if_true] at h
      rw [if_pos h0]
      (refine Out.plain hwf ?_ rfl ?_; (repeat first | exact Sub.refl _ | refine Sub.push hwf ?_ _ | refine Sub.set hwf ?_ (by first | exact Nat.le_refl _ | omega | (simp only [push_n, set_n, kill_n]; omega)) _ | refine Sub.kill hwf ?_ (by first | exact Nat.le_refl _ | omega | (simp only [push_n, set_n, kill_n]; omega)))); simpa using h
    · simp only [ptRes, ptTxt, hv, h0, if_true, if_false, reduceCtorEq] at h
      rw [if_neg h0]
      repeat (refine ⟨by first | omega | (simp; omega), ?_⟩)
      (refine Out.plain hwf ?_ rfl ?_; (repeat first | exact Sub.refl _ | refine Sub.push hwf ?_ _ | refine Sub.set hwf ?_ (by first | exact Nat.le_refl _ | omega | (simp only [push_n, set_n, kill_n]; omega)) _ | refine Sub.kill hwf ?_ (by first | exact Nat.le_refl _ | omega | (simp only [push_n, set_n, kill_n]; omega)))); simpa using h

theorem spec_PrintingText_s : Sound Tryd.prog 24 q_pt := by
  intro args H K h
  unfold q_pt at h
  split at h
  rotate_left
  all_goals first | exact False.elim h | skip
  rename_i p_e
  have h1 := onv_iff.1 h
  clear h
  obtain ⟨p, hd_p, h⟩ := h1
  obtain rfl := ePr.cd _ _ hd_p
  clear hd_p
  have hE := soundE_cons spec_l14One_s (soundE_cons spec_l1Num_s (soundE_nil (P := Tryd.prog)))
  refine acalls_fn spec_PrintingText_k hE ⟨by simp, fun hwf => ?_⟩
  obtain ⟨hI, h⟩ := h
  by_cases hv : isPr p = true
  rotate_left
  · simp (config := {contextual := true, implicitDefEqProofs := false, maxSteps := 60000}) [-Int.not_le, -Int.not_lt, argsF, spec_PrintingText_c, hv]
    simp only [ptRes, hv, if_false, reduceCtorEq] at h
    (refine Out.plain hwf ?_ rfl ?_; (repeat first | exact Sub.refl _ | refine Sub.push hwf ?_ _ | refine Sub.set hwf ?_ (by first | exact Nat.le_refl _ | omega | (simp only [push_n, set_n, kill_n]; omega)) _ | refine Sub.kill hwf ?_ (by first | exact Nat.le_refl _ | omega | (simp only [push_n, set_n, kill_n]; omega)))); exact h
  · have hb := isPr_b hv
    have l0 := numT_len19 (n := p.num) (by omega) (by omega)
    have p0 : 0 ≤ p.num := by omega
    have r0 : p.num ≤ 9223372036854775807 := by omega
    have l1 := numT_len19 (n := p.day) (by omega) (by omega)
    have p1 : 0 ≤ p.day := by omega
    have r1 : p.day ≤ 9223372036854775807 := by omega
    have l2 := numT_len19 (n := p.sheets) (by omega) (by omega)
    have p2 : 0 ≤ p.sheets := by omega
    have r2 : p.sheets ≤ 9223372036854775807 := by omega
    have l3 := numT_len19 (n := p.hue) (by omega) (by omega)
    have p3 : 0 ≤ p.hue := by omega
    have r3 : p.hue ≤ 9223372036854775807 := by omega
    have l4 := numT_len19 (n := p.spread) (by omega) (by omega)
    have p4 : 0 ≤ p.spread := by omega
    have r4 : p.spread ≤ 9223372036854775807 := by omega
    have hs : (0 < p.spread) = ¬ (p.spread = 0) := propext (by omega)
    simp (config := {contextual := true, implicitDefEqProofs := false, maxSteps := 60000}) [-Int.not_le, -Int.not_lt, argsF, spec_PrintingText_c, hv, hI, hs, p0, r0, p1, r1, p2, r2, p3, r3, p4, r4]
    repeat (refine ⟨by first | omega | (simp; omega), ?_⟩)
    by_cases h0 : p.spread = 0
    · simp only [ptRes, ptTxt, hv, h0, if_true] at h
      rw [if_pos h0]
      (refine Out.plain hwf ?_ rfl ?_; (repeat first | exact Sub.refl _ | refine Sub.push hwf ?_ _ | refine Sub.set hwf ?_ (by first | exact Nat.le_refl _ | omega | (simp only [push_n, set_n, kill_n]; omega)) _ | refine Sub.kill hwf ?_ (by first | exact Nat.le_refl _ | omega | (simp only [push_n, set_n, kill_n]; omega)))); simpa using h
    · simp only [ptRes, ptTxt, hv, h0, if_true, if_false, reduceCtorEq] at h
      rw [if_neg h0]
      repeat (refine ⟨by first | omega | (simp; omega), ?_⟩)
      (refine Out.plain hwf ?_ rfl ?_; (repeat first | exact Sub.refl _ | refine Sub.push hwf ?_ _ | refine Sub.set hwf ?_ (by first | exact Nat.le_refl _ | omega | (simp only [push_n, set_n, kill_n]; omega)) _ | refine Sub.kill hwf ?_ (by first | exact Nat.le_refl _ | omega | (simp only [push_n, set_n, kill_n]; omega)))); simpa using h

end Go.Proofs.YtegmlgikdniohaaDoor
