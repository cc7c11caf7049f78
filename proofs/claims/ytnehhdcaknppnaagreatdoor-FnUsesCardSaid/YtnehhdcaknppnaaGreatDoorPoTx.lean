/- The text of a postmark. -/
import Derived.Test.YtnehhdcaknppnaaGreatDoorPoS
import Derived.Test.YtnehhdcaknppnaaGreatDoorNum
set_option maxRecDepth 8000
set_option linter.unusedSimpArgs false
set_option linter.unusedVariables false
namespace Go.Proofs.YtnehhdcaknppnaaGreatDoor
open Go Go.RowKit

def ptRes (p : Po) : List UInt8 × Bool := if isPo p = true then ((((((((([112] ++ numT p.id) ++ [32]) ++ shown p) ++ [32, 107]) ++ numT p.kind) ++ [32]) ++ numT p.first) ++ [45]) ++ numT p.last, true) else ([], false)

def q_pt : Con := fun args H K => match args with
  | [.agg p_e] => onv (ePo.dec p_e) fun p => (∀ w, H.I w → tabI w) ∧ txP p ∧ K (.tup [.c (.str ((ptRes p).1)), .c (.bool ((ptRes p).2))]) H
  | _ => False
@[simp ↓] theorem q_pt_eq (p_e : List AC) (H : AHeap) (K : AV → AHeap → Prop) : q_pt [.agg p_e] H K = (onv (ePo.dec p_e) fun p => (∀ w, H.I w → tabI w) ∧ txP p ∧ K (.tup [.c (.str ((ptRes p).1)), .c (.bool ((ptRes p).2))]) H) := rfl

theorem impl_PostmarkText_s : Sound Tryz.prog 17 q_pt := by
  intro args H K h
  unfold q_pt at h
  split at h
  rotate_left
  all_goals first | exact False.elim h | skip
  rename_i p_e
  have h1 := onv_iff.1 h
  clear h
  obtain ⟨p, hd_p, h⟩ := h1
  obtain rfl := ePo.cd _ _ hd_p
  clear hd_p
  have hE := soundE_cons impl_isPostmark_s (soundE_cons impl_shownBy_s (soundE_cons strconv_Itoa_s (soundE_nil (P := Tryz.prog))))
  refine acalls_fn impl_PostmarkText_k hE ⟨by simp, fun hwf => ?_⟩
  obtain ⟨hI, hok, h⟩ := h
  by_cases hv : isPo p = true
  rotate_left
  · simp (config := {contextual := true, implicitDefEqProofs := false, maxSteps := 2000000}) [-Int.not_le, -Int.not_lt, argsF, impl_PostmarkText_c, hok, hv]
    simp only [ptRes, hv, if_false, reduceCtorEq] at h
    (refine Out.plain hwf ?_ rfl ?_; (repeat first | exact Sub.refl _ | refine Sub.push hwf ?_ _ | refine Sub.set hwf ?_ (by first | exact Nat.le_refl _ | omega) _ | refine Sub.kill hwf ?_ (by first | exact Nat.le_refl _ | omega))); exact h
  · have hb := isPo_b hv
    have b1 : p.lost.length = p.town.length := by omega
    have b2 : p.town.length ≤ 1000 := by omega
    have b3 := shown_len b1
    have l0 := numT_len19 (n := p.id) (by omega) (by omega)
    have p0 : 0 ≤ p.id := by omega
    have r0 : p.id ≤ 9223372036854775807 := by omega
    have l1 := numT_len19 (n := p.kind) (by omega) (by omega)
    have p1 : 0 ≤ p.kind := by omega
    have r1 : p.kind ≤ 9223372036854775807 := by omega
    have l2 := numT_len19 (n := p.first) (by omega) (by omega)
    have p2 : 0 ≤ p.first := by omega
    have r2 : p.first ≤ 9223372036854775807 := by omega
    have l3 := numT_len19 (n := p.last) (by omega) (by omega)
    have p3 : 0 ≤ p.last := by omega
    have r3 : p.last ≤ 9223372036854775807 := by omega
    simp (config := {contextual := true, implicitDefEqProofs := false, maxSteps := 2000000}) [-Int.not_le, -Int.not_lt, argsF, impl_PostmarkText_c, hok, hv, hI, b1, b2, p0, r0, p1, r1, p2, r2, p3, r3]
    repeat (refine ⟨by omega, ?_⟩)
    simp only [ptRes, hv, if_true] at h
    (refine Out.plain hwf ?_ rfl ?_; (repeat first | exact Sub.refl _ | refine Sub.push hwf ?_ _ | refine Sub.set hwf ?_ (by first | exact Nat.le_refl _ | omega) _ | refine Sub.kill hwf ?_ (by first | exact Nat.le_refl _ | omega))); simpa using h

theorem spec_PostmarkText_s : Sound Tryz.prog 18 q_pt := by
  intro args H K h
  unfold q_pt at h
  split at h
  rotate_left
  all_goals first | exact False.elim h | skip
  rename_i p_e
  have h1 := onv_iff.1 h
  clear h
  obtain ⟨p, hd_p, h⟩ := h1
  obtain rfl := ePo.cd _ _ hd_p
  clear hd_p
  have hE := soundE_cons spec_l11One_s (soundE_cons spec_l11Shown_s (soundE_cons spec_l1Num_s (soundE_nil (P := Tryz.prog))))
  refine acalls_fn spec_PostmarkText_k hE ⟨by simp, fun hwf => ?_⟩
  obtain ⟨hI, hok, h⟩ := h
  by_cases hv : isPo p = true
  rotate_left
  · simp (config := {contextual := true, implicitDefEqProofs := false, maxSteps := 2000000}) [-Int.not_le, -Int.not_lt, argsF, spec_PostmarkText_c, hok, hv]
    simp only [ptRes, hv, if_false, reduceCtorEq] at h
    (refine Out.plain hwf ?_ rfl ?_; (repeat first | exact Sub.refl _ | refine Sub.push hwf ?_ _ | refine Sub.set hwf ?_ (by first | exact Nat.le_refl _ | omega) _ | refine Sub.kill hwf ?_ (by first | exact Nat.le_refl _ | omega))); exact h
  · have hb := isPo_b hv
    have b1 : p.lost.length = p.town.length := by omega
    have b2 : p.town.length ≤ 1000 := by omega
    have b3 := shown_len b1
    have l0 := numT_len19 (n := p.id) (by omega) (by omega)
    have p0 : 0 ≤ p.id := by omega
    have r0 : p.id ≤ 9223372036854775807 := by omega
    have l1 := numT_len19 (n := p.kind) (by omega) (by omega)
    have p1 : 0 ≤ p.kind := by omega
    have r1 : p.kind ≤ 9223372036854775807 := by omega
    have l2 := numT_len19 (n := p.first) (by omega) (by omega)
    have p2 : 0 ≤ p.first := by omega
    have r2 : p.first ≤ 9223372036854775807 := by omega
    have l3 := numT_len19 (n := p.last) (by omega) (by omega)
    have p3 : 0 ≤ p.last := by omega
    have r3 : p.last ≤ 9223372036854775807 := by omega
    simp (config := {contextual := true, implicitDefEqProofs := false, maxSteps := 2000000}) [-Int.not_le, -Int.not_lt, argsF, spec_PostmarkText_c, hok, hv, hI, b1, b2, p0, r0, p1, r1, p2, r2, p3, r3]
    repeat (refine ⟨by omega, ?_⟩)
    simp only [ptRes, hv, if_true] at h
    (refine Out.plain hwf ?_ rfl ?_; (repeat first | exact Sub.refl _ | refine Sub.push hwf ?_ _ | refine Sub.set hwf ?_ (by first | exact Nat.le_refl _ | omega) _ | refine Sub.kill hwf ?_ (by first | exact Nat.le_refl _ | omega))); simpa using h

end Go.Proofs.YtnehhdcaknppnaaGreatDoor
