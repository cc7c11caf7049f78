/- The text of a printing. -/
import Derived.Test.YticknbohoolhgaaDoorNum
set_option maxRecDepth 8000
set_option linter.unusedSimpArgs false
set_option linter.unusedVariables false
namespace Go.Proofs.YticknbohoolhgaaDoor
open Go Go.RowKit

structure Pr where
  num : Int
  day : Int
  sheets : Int
  hue : Int
  spread : Int
  deriving DecidableEq, Inhabited

def ePr : Enc Pr where
  n := 5
  cells p := [.int .i64 p.num, .int .i64 p.day, .int .i64 p.sheets, .int .i64 p.hue, .int .i64 p.spread]
  dec e := match e with
    | [.int .i64 x0, .int .i64 x1, .int .i64 x2, .int .i64 x3, .int .i64 x4] => some ⟨x0, x1, x2, x3, x4⟩
    | _ => none
  dc _ := rfl
  cd e p h := by
    split at h
    · cases h; rfl
    · cases h
  len _ := rfl

@[simp] theorem ePr_n : ePr.n = 5 := (rfl)
@[simp] theorem ePr_cells (p : Pr) : ePr.cells p = [.int .i64 p.num, .int .i64 p.day, .int .i64 p.sheets, .int .i64 p.hue, .int .i64 p.spread] := (rfl)
@[simp] theorem ePr_dec (x0 : Int) (x1 : Int) (x2 : Int) (x3 : Int) (x4 : Int) : ePr.dec [.int .i64 x0, .int .i64 x1, .int .i64 x2, .int .i64 x3, .int .i64 x4] = some ⟨x0, x1, x2, x3, x4⟩ := (rfl)
@[simp] theorem ePr_eta (p : Pr) : (⟨p.num, p.day, p.sheets, p.hue, p.spread⟩ : Pr) = p := (rfl)

def q_inRange : Con := fun args H K => match args with
  | [.c (.int .i64 n), .c (.int .i64 lo), .c (.int .i64 hi)] => K (.c (.bool (inR n lo hi))) H
  | _ => False
@[simp ↓] theorem q_inRange_eq (n : Int) (lo : Int) (hi : Int) (H : AHeap) (K : AV → AHeap → Prop) : q_inRange [.c (.int .i64 n), .c (.int .i64 lo), .c (.int .i64 hi)] H K = (K (.c (.bool (inR n lo hi))) H) := rfl

theorem impl_inRange_s : Sound Tryd.prog 51 q_inRange := by
  intro args H K h
  unfold q_inRange at h
  split at h
  rotate_left
  all_goals first | exact False.elim h | skip
  rename_i n lo hi
  have hE := soundE_nil (P := Tryd.prog)
  refine acalls_fn impl_inRange_k hE ⟨by simp, fun hwf => ?_⟩
  simp (config := {contextual := true, implicitDefEqProofs := false, maxSteps := 60000}) [-Int.not_le, -Int.not_lt, argsF, impl_inRange_c]
  split <;> ((refine Out.plain hwf ?_ rfl ?_; (repeat first | exact Sub.refl _ | refine Sub.push hwf ?_ _ | refine Sub.set hwf ?_ (by first | exact Nat.le_refl _ | omega) _ | refine Sub.kill hwf ?_ (by first | exact Nat.le_refl _ | omega))); simp_all [inR])

theorem spec_l1In_s : Sound Tryd.prog 52 q_inRange := by
  intro args H K h
  unfold q_inRange at h
  split at h
  rotate_left
  all_goals first | exact False.elim h | skip
  rename_i n lo hi
  have hE := soundE_nil (P := Tryd.prog)
  refine acalls_fn spec_l1In_k hE ⟨by simp, fun hwf => ?_⟩
  simp (config := {contextual := true, implicitDefEqProofs := false, maxSteps := 60000}) [-Int.not_le, -Int.not_lt, argsF, spec_l1In_c]
  split <;> ((refine Out.plain hwf ?_ rfl ?_; (repeat first | exact Sub.refl _ | refine Sub.push hwf ?_ _ | refine Sub.set hwf ?_ (by first | exact Nat.le_refl _ | omega) _ | refine Sub.kill hwf ?_ (by first | exact Nat.le_refl _ | omega))); simp_all [inR])

def q_isDay : Con := fun args H K => match args with
  | [.c (.int .i64 n)] => K (.c (.bool (inR n 0 4000))) H
  | _ => False
@[simp ↓] theorem q_isDay_eq (n : Int) (H : AHeap) (K : AV → AHeap → Prop) : q_isDay [.c (.int .i64 n)] H K = (K (.c (.bool (inR n 0 4000))) H) := rfl

theorem impl_isDay_s : Sound Tryd.prog 39 q_isDay := by
  intro args H K h
  unfold q_isDay at h
  split at h
  rotate_left
  all_goals first | exact False.elim h | skip
  rename_i n
  have hE := soundE_cons impl_inRange_s (soundE_nil (P := Tryd.prog))
  refine acalls_fn impl_isDay_k hE ⟨by simp, fun hwf => ?_⟩
  simp (config := {contextual := true, implicitDefEqProofs := false, maxSteps := 60000}) [-Int.not_le, -Int.not_lt, argsF, impl_isDay_c]
  (refine Out.plain hwf ?_ rfl ?_; (repeat first | exact Sub.refl _ | refine Sub.push hwf ?_ _ | refine Sub.set hwf ?_ (by first | exact Nat.le_refl _ | omega) _ | refine Sub.kill hwf ?_ (by first | exact Nat.le_refl _ | omega))); exact h

theorem spec_l2Day_s : Sound Tryd.prog 53 q_isDay := by
  intro args H K h
  unfold q_isDay at h
  split at h
  rotate_left
  all_goals first | exact False.elim h | skip
  rename_i n
  have hE := soundE_cons spec_l1In_s (soundE_nil (P := Tryd.prog))
  refine acalls_fn spec_l2Day_k hE ⟨by simp, fun hwf => ?_⟩
  simp (config := {contextual := true, implicitDefEqProofs := false, maxSteps := 60000}) [-Int.not_le, -Int.not_lt, argsF, spec_l2Day_c]
  (refine Out.plain hwf ?_ rfl ?_; (repeat first | exact Sub.refl _ | refine Sub.push hwf ?_ _ | refine Sub.set hwf ?_ (by first | exact Nat.le_refl _ | omega) _ | refine Sub.kill hwf ?_ (by first | exact Nat.le_refl _ | omega))); exact h

def isPr (p : Pr) : Bool := inR p.num 1 99 && (inR p.day 0 4000 && (inR p.sheets 1 9999 && (inR p.hue 0 100 && inR p.spread 0 20)))
theorem isPr_b {p : Pr} (h : isPr p = true) : 1 ≤ p.num ∧ p.num ≤ 99 ∧ 0 ≤ p.day ∧ p.day ≤ 4000 ∧ 1 ≤ p.sheets ∧ p.sheets ≤ 9999 ∧ 0 ≤ p.hue ∧ p.hue ≤ 100 ∧ 0 ≤ p.spread ∧ p.spread ≤ 20 := by
  simp only [isPr, inR, Bool.and_eq_true, decide_eq_true_eq] at h; omega
def ptTxt (p : Pr) : List UInt8 := ((((((([110] ++ numT p.num) ++ [32, 111, 110, 32]) ++ numT p.day) ++ [58, 32]) ++ numT p.sheets) ++ [32, 115, 104, 101, 101, 116, 115, 32]) ++ numT p.hue)
def ptRes (p : Pr) : List UInt8 × Bool := if isPr p = true then if p.spread = 0 then (ptTxt p, true) else (ptTxt p ++ ([43, 45] ++ numT p.spread), true) else ([], false)

def q_isPr : Con := fun args H K => match args with
  | [.agg p_e] => onv (ePr.dec p_e) fun p => K (.c (.bool (isPr p))) H
  | _ => False
@[simp ↓] theorem q_isPr_eq (p_e : List AC) (H : AHeap) (K : AV → AHeap → Prop) : q_isPr [.agg p_e] H K = (onv (ePr.dec p_e) fun p => K (.c (.bool (isPr p))) H) := rfl

theorem impl_isPrinting_s : Sound Tryd.prog 29 q_isPr := by
  intro args H K h
  unfold q_isPr at h
  split at h
  rotate_left
  all_goals first | exact False.elim h | skip
  rename_i p_e
  have h1 := onv_iff.1 h
  clear h
  obtain ⟨p, hd_p, h⟩ := h1
  obtain rfl := ePr.cd _ _ hd_p
  clear hd_p
  have hE := soundE_cons impl_inRange_s (soundE_cons impl_isDay_s (soundE_nil (P := Tryd.prog)))
  refine acalls_fn impl_isPrinting_k hE ⟨by simp, fun hwf => ?_⟩
  simp (config := {contextual := true, implicitDefEqProofs := false, maxSteps := 60000}) [-Int.not_le, -Int.not_lt, argsF, impl_isPrinting_c]
  repeat' split
  all_goals ((refine Out.plain hwf ?_ rfl ?_; (repeat first | exact Sub.refl _ | refine Sub.push hwf ?_ _ | refine Sub.set hwf ?_ (by first | exact Nat.le_refl _ | omega) _ | refine Sub.kill hwf ?_ (by first | exact Nat.le_refl _ | omega))); simp_all [isPr])

theorem spec_l14One_s : Sound Tryd.prog 27 q_isPr := by
  intro args H K h
  unfold q_isPr at h
  split at h
  rotate_left
  all_goals first | exact False.elim h | skip
  rename_i p_e
  have h1 := onv_iff.1 h
  clear h
  obtain ⟨p, hd_p, h⟩ := h1
  obtain rfl := ePr.cd _ _ hd_p
  clear hd_p
  have hE := soundE_cons spec_l1In_s (soundE_cons spec_l2Day_s (soundE_nil (P := Tryd.prog)))
  refine acalls_fn spec_l14One_k hE ⟨by simp, fun hwf => ?_⟩
  simp (config := {contextual := true, implicitDefEqProofs := false, maxSteps := 60000}) [-Int.not_le, -Int.not_lt, argsF, spec_l14One_c]
  repeat' split
  all_goals ((refine Out.plain hwf ?_ rfl ?_; (repeat first | exact Sub.refl _ | refine Sub.push hwf ?_ _ | refine Sub.set hwf ?_ (by first | exact Nat.le_refl _ | omega) _ | refine Sub.kill hwf ?_ (by first | exact Nat.le_refl _ | omega))); simp_all [isPr])

def q_pt : Con := fun args H K => match args with
  | [.agg p_e] => onv (ePr.dec p_e) fun p => (∀ w, H.I w → tabI w) ∧ K (.tup [.c (.str ((ptRes p).1)), .c (.bool ((ptRes p).2))]) H
  | _ => False
@[simp ↓] theorem q_pt_eq (p_e : List AC) (H : AHeap) (K : AV → AHeap → Prop) : q_pt [.agg p_e] H K = (onv (ePr.dec p_e) fun p => (∀ w, H.I w → tabI w) ∧ K (.tup [.c (.str ((ptRes p).1)), .c (.bool ((ptRes p).2))]) H) := rfl

theorem impl_PrintingText_s : Sound Tryd.prog 7 q_pt := by
  intro args H K h
  unfold q_pt at h
  split at h
  rotate_left
  all_goals first | exact False.elim h | skip
  rename_i p_e
  have h1 := onv_iff.1 h
  clear h
  obtain ⟨p, hd_p, h⟩ := h1
  obtain rfl := ePr.cd _ _ hd_p
  clear hd_p
  have hE := soundE_cons impl_isPrinting_s (soundE_cons strconv_Itoa_s (soundE_nil (P := Tryd.prog)))
  refine acalls_fn impl_PrintingText_k hE ⟨by simp, fun hwf => ?_⟩
  obtain ⟨hI, h⟩ := h
  by_cases hv : isPr p = true
  rotate_left
  · simp (config := {contextual := true, implicitDefEqProofs := false, maxSteps := 60000}) [-Int.not_le, -Int.not_lt, argsF, impl_PrintingText_c, hv]
    simp only [ptRes, hv, if_false, reduceCtorEq] at h
    (refine Out.plain hwf ?_ rfl ?_; (repeat first | exact Sub.refl _ | refine Sub.push hwf ?_ _ | refine Sub.set hwf ?_ (by first | exact Nat.le_refl _ | omega) _ | refine Sub.kill hwf ?_ (by first | exact Nat.le_refl _ | omega))); exact h
  · have hb := isPr_b hv
    have l0 := numT_len19 (n := p.num) (by omega) (by omega)
    have p0 : 0 ≤ p.num := by omega
    have r0 : p.num ≤ 9223372036854775807 := by omega
    have l1 := numT_len19 (n := p.day) (by omega) (by omega)
    have p1 : 0 ≤ p.day := by omega
    have r1 : p.day ≤ 9223372036854775807 := by omega
    have l2 := numT_len19 (n := p.sheets) (by omega) (by omega)
    have p2 : 0 ≤ p.sheets := by omega
    have r2 : p.sheets ≤ 9223372036854775807 := by omega
    have l3 := numT_len19 (n := p.hue) (by omega) (by omega)
    have p3 : 0 ≤ p.hue := by omega
    have r3 : p.hue ≤ 9223372036854775807 := by omega
    have l4 := numT_len19 (n := p.spread) (by omega) (by omega)
    have p4 : 0 ≤ p.spread := by omega
    have r4 : p.spread ≤ 9223372036854775807 := by omega
    have hs : (0 < p.spread) = ¬ (p.spread = 0) := propext (by omega)
    simp (config := {contextual := true, implicitDefEqProofs := false, maxSteps := 60000}) [-Int.not_le, -Int.not_lt, argsF, impl_PrintingText_c, hv, hI, hs, p0, r0, p1, r1, p2, r2, p3, r3, p4, r4]
    repeat (refine ⟨by first | omega | (simp; omega), ?_⟩)
    by_cases h0 : p.spread = 0
    · simp only [ptRes, ptTxt, hv, h0, if_true] at h
      rw [if_pos h0]
      (refine Out.plain hwf ?_ rfl ?_; (repeat first | exact Sub.refl _ | refine Sub.push hwf ?_ _ | refine Sub.set hwf ?_ (by first | exact Nat.le_refl _ | omega) _ | refine Sub.kill hwf ?_ (by first | exact Nat.le_refl _ | omega))); simpa using h
    · simp only [ptRes, ptTxt, hv, h0, if_true, if_false, reduceCtorEq] at h
      rw [if_neg h0]
      repeat (refine ⟨by first | omega | (simp; omega), ?_⟩)
      (refine Out.plain hwf ?_ rfl ?_; (repeat first | exact Sub.refl _ | refine Sub.push hwf ?_ _ | refine Sub.set hwf ?_ (by first | exact Nat.le_refl _ | omega) _ | refine Sub.kill hwf ?_ (by first | exact Nat.le_refl _ | omega))); simpa using h

theorem spec_PrintingText_s : Sound Tryd.prog 5 q_pt := by
  intro args H K h
  unfold q_pt at h
  split at h
  rotate_left
  all_goals first | exact False.elim h | skip
  rename_i p_e
  have h1 := onv_iff.1 h
  clear h
  obtain ⟨p, hd_p, h⟩ := h1
  obtain rfl := ePr.cd _ _ hd_p
  clear hd_p
  have hE := soundE_cons spec_l14One_s (soundE_cons spec_l1Num_s (soundE_nil (P := Tryd.prog)))
  refine acalls_fn spec_PrintingText_k hE ⟨by simp, fun hwf => ?_⟩
  obtain ⟨hI, h⟩ := h
  by_cases hv : isPr p = true
  rotate_left
  · simp (config := {contextual := true, implicitDefEqProofs := false, maxSteps := 60000}) [-Int.not_le, -Int.not_lt, argsF, spec_PrintingText_c, hv]
    simp only [ptRes, hv, if_false, reduceCtorEq] at h
    (refine Out.plain hwf ?_ rfl ?_; (repeat first | exact Sub.refl _ | refine Sub.push hwf ?_ _ | refine Sub.set hwf ?_ (by first | exact Nat.le_refl _ | omega) _ | refine Sub.kill hwf ?_ (by first | exact Nat.le_refl _ | omega))); exact h
  · have hb := isPr_b hv
    have l0 := numT_len19 (n := p.num) (by omega) (by omega)
    have p0 : 0 ≤ p.num := by omega
    have r0 : p.num ≤ 9223372036854775807 := by omega
    have l1 := numT_len19 (n := p.day) (by omega) (by omega)
    have p1 : 0 ≤ p.day := by omega
    have r1 : p.day ≤ 9223372036854775807 := by omega
    have l2 := numT_len19 (n := p.sheets) (by omega) (by omega)
    have p2 : 0 ≤ p.sheets := by omega
    have r2 : p.sheets ≤ 9223372036854775807 := by omega
    have l3 := numT_len19 (n := p.hue) (by omega) (by omega)
    have p3 : 0 ≤ p.hue := by omega
    have r3 : p.hue ≤ 9223372036854775807 := by omega
    have l4 := numT_len19 (n := p.spread) (by omega) (by omega)
    have p4 : 0 ≤ p.spread := by omega
    have r4 : p.spread ≤ 9223372036854775807 := by omega
    have hs : (0 < p.spread) = ¬ (p.spread = 0) := propext (by omega)
    simp (config := {contextual := true, implicitDefEqProofs := false, maxSteps := 60000}) [-Int.not_le, -Int.not_lt, argsF, spec_PrintingText_c, hv, hI, hs, p0, r0, p1, r1, p2, r2, p3, r3, p4, r4]
    repeat (refine ⟨by first | omega | (simp; omega), ?_⟩)
    by_cases h0 : p.spread = 0
    · simp only [ptRes, ptTxt, hv, h0, if_true] at h
      rw [if_pos h0]
      (refine Out.plain hwf ?_ rfl ?_; (repeat first | exact Sub.refl _ | refine Sub.push hwf ?_ _ | refine Sub.set hwf ?_ (by first | exact Nat.le_refl _ | omega) _ | refine Sub.kill hwf ?_ (by first | exact Nat.le_refl _ | omega))); simpa using h
    · simp only [ptRes, ptTxt, hv, h0, if_true, if_false, reduceCtorEq] at h
      rw [if_neg h0]
      repeat (refine ⟨by first | omega | (simp; omega), ?_⟩)
      (refine Out.plain hwf ?_ rfl ?_; (repeat first | exact Sub.refl _ | refine Sub.push hwf ?_ _ | refine Sub.set hwf ?_ (by first | exact Nat.le_refl _ | omega) _ | refine Sub.kill hwf ?_ (by first | exact Nat.le_refl _ | omega))); simpa using h

end Go.Proofs.YticknbohoolhgaaDoor
