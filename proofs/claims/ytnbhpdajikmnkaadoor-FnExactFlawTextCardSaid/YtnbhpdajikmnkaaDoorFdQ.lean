/- The text of a flaw. -/
import Derived.Test.YtnbhpdajikmnkaaDoorNum
set_option maxRecDepth 8000
set_option linter.unusedSimpArgs false
set_option linter.unusedVariables false
namespace Go.Proofs.YtnbhpdajikmnkaaDoor
open Go Go.RowKit

structure Fl where
  row : Int
  col : Int
  code : Int
  frm : Int
  deriving DecidableEq, Inhabited

def eFl : Enc Fl where
  n := 4
  cells p := [.int .i64 p.row, .int .i64 p.col, .int .i64 p.code, .int .i64 p.frm]
  dec e := match e with
    | [.int .i64 x0, .int .i64 x1, .int .i64 x2, .int .i64 x3] => some ⟨x0, x1, x2, x3⟩
    | _ => none
  dc _ := rfl
  cd e p h := by
    split at h
    · cases h; rfl
    · cases h
  len _ := rfl

@[simp] theorem eFl_n : eFl.n = 4 := (rfl)
@[simp] theorem eFl_cells (p : Fl) : eFl.cells p = [.int .i64 p.row, .int .i64 p.col, .int .i64 p.code, .int .i64 p.frm] := (rfl)
@[simp] theorem eFl_dec (x0 : Int) (x1 : Int) (x2 : Int) (x3 : Int) : eFl.dec [.int .i64 x0, .int .i64 x1, .int .i64 x2, .int .i64 x3] = some ⟨x0, x1, x2, x3⟩ := (rfl)
@[simp] theorem eFl_eta (p : Fl) : (⟨p.row, p.col, p.code, p.frm⟩ : Fl) = p := (rfl)

def q_inRange : Con := fun args H K => match args with
  | [.c (.int .i64 n), .c (.int .i64 lo), .c (.int .i64 hi)] => K (.c (.bool (inR n lo hi))) H
  | _ => False
@[simp ↓] theorem q_inRange_eq (n : Int) (lo : Int) (hi : Int) (H : AHeap) (K : AV → AHeap → Prop) : q_inRange [.c (.int .i64 n), .c (.int .i64 lo), .c (.int .i64 hi)] H K = (K (.c (.bool (inR n lo hi))) H) := rfl

theorem impl_inRange_s : Sound Tryd.prog 13 q_inRange := by
  intro args H K h
  unfold q_inRange at h
  split at h
  rotate_left
  all_goals first | exact False.elim h | skip
  rename_i n lo hi
  have hE := soundE_nil (P := Tryd.prog)
  refine acalls_fn impl_inRange_k hE ⟨by simp, fun hwf => ?_⟩
  simp (config := {contextual := true, implicitDefEqProofs := false, maxSteps := 60000}) [-Int.not_le, -Int.not_lt, argsF, impl_inRange_c]
  split <;> ((refine Out.plain hwf ?_ rfl ?_; (repeat first | exact Sub.refl _ | refine Sub.push hwf ?_ _ | refine Sub.set hwf ?_ (by first | exact Nat.le_refl _ | omega) _ | refine Sub.kill hwf ?_ (by first | exact Nat.le_refl _ | omega))); simp_all [inR])

theorem spec_l1In_s : Sound Tryd.prog 11 q_inRange := by
  intro args H K h
  unfold q_inRange at h
  split at h
  rotate_left
  all_goals first | exact False.elim h | skip
  rename_i n lo hi
  have hE := soundE_nil (P := Tryd.prog)
  refine acalls_fn spec_l1In_k hE ⟨by simp, fun hwf => ?_⟩
  simp (config := {contextual := true, implicitDefEqProofs := false, maxSteps := 60000}) [-Int.not_le, -Int.not_lt, argsF, spec_l1In_c]
  split <;> ((refine Out.plain hwf ?_ rfl ?_; (repeat first | exact Sub.refl _ | refine Sub.push hwf ?_ _ | refine Sub.set hwf ?_ (by first | exact Nat.le_refl _ | omega) _ | refine Sub.kill hwf ?_ (by first | exact Nat.le_refl _ | omega))); simp_all [inR])

def isFl (x : Fl) : Bool := inR x.row 0 9 && (inR x.col 0 9 && (inR x.code 1 99 && inR x.frm 1 9))
theorem isFl_b {x : Fl} (h : isFl x = true) : 0 ≤ x.row ∧ x.row ≤ 9 ∧ 0 ≤ x.col ∧ x.col ≤ 9 ∧ 1 ≤ x.code ∧ x.code ≤ 99 ∧ 1 ≤ x.frm ∧ x.frm ≤ 9 := by
  simp only [isFl, inR, Bool.and_eq_true, decide_eq_true_eq] at h; omega
def ftRes (x : Fl) : List UInt8 × Bool := if isFl x = true then ((((((([114] ++ numT x.row) ++ [32, 99]) ++ numT x.col) ++ [32, 102]) ++ numT x.code) ++ [32, 102, 114, 111, 109, 32]) ++ numT x.frm, true) else ([], false)

def q_state : Con := fun args H K => match args with
  | [.c (.int .i64 n)] => K (.c (.bool (inR n 1 9))) H
  | _ => False
@[simp ↓] theorem q_state_eq (n : Int) (H : AHeap) (K : AV → AHeap → Prop) : q_state [.c (.int .i64 n)] H K = (K (.c (.bool (inR n 1 9))) H) := rfl

theorem impl_isState_s : Sound Tryd.prog 14 q_state := by
  intro args H K h
  unfold q_state at h
  split at h
  rotate_left
  all_goals first | exact False.elim h | skip
  rename_i n
  have hE := soundE_cons impl_inRange_s (soundE_nil (P := Tryd.prog))
  refine acalls_fn impl_isState_k hE ⟨by simp, fun hwf => ?_⟩
  simp (config := {contextual := true, implicitDefEqProofs := false, maxSteps := 60000}) [-Int.not_le, -Int.not_lt, argsF, impl_isState_c]
  (refine Out.plain hwf ?_ rfl ?_; (repeat first | exact Sub.refl _ | refine Sub.push hwf ?_ _ | refine Sub.set hwf ?_ (by first | exact Nat.le_refl _ | omega) _ | refine Sub.kill hwf ?_ (by first | exact Nat.le_refl _ | omega))); exact h

theorem spec_l15State_s : Sound Tryd.prog 12 q_state := by
  intro args H K h
  unfold q_state at h
  split at h
  rotate_left
  all_goals first | exact False.elim h | skip
  rename_i n
  have hE := soundE_cons spec_l1In_s (soundE_nil (P := Tryd.prog))
  refine acalls_fn spec_l15State_k hE ⟨by simp, fun hwf => ?_⟩
  simp (config := {contextual := true, implicitDefEqProofs := false, maxSteps := 60000}) [-Int.not_le, -Int.not_lt, argsF, spec_l15State_c]
  (refine Out.plain hwf ?_ rfl ?_; (repeat first | exact Sub.refl _ | refine Sub.push hwf ?_ _ | refine Sub.set hwf ?_ (by first | exact Nat.le_refl _ | omega) _ | refine Sub.kill hwf ?_ (by first | exact Nat.le_refl _ | omega))); exact h

def q_isFl : Con := fun args H K => match args with
  | [.agg x_e] => onv (eFl.dec x_e) fun x => K (.c (.bool (isFl x))) H
  | _ => False
@[simp ↓] theorem q_isFl_eq (x_e : List AC) (H : AHeap) (K : AV → AHeap → Prop) : q_isFl [.agg x_e] H K = (onv (eFl.dec x_e) fun x => K (.c (.bool (isFl x))) H) := rfl

theorem impl_isFlaw_s : Sound Tryd.prog 9 q_isFl := by
  intro args H K h
  unfold q_isFl at h
  split at h
  rotate_left
  all_goals first | exact False.elim h | skip
  rename_i x_e
  have h1 := onv_iff.1 h
  clear h
  obtain ⟨x, hd_x, h⟩ := h1
  obtain rfl := eFl.cd _ _ hd_x
  clear hd_x
  have hE := soundE_cons impl_inRange_s (soundE_cons impl_isState_s (soundE_nil (P := Tryd.prog)))
  refine acalls_fn impl_isFlaw_k hE ⟨by simp, fun hwf => ?_⟩
  simp (config := {contextual := true, implicitDefEqProofs := false, maxSteps := 60000}) [-Int.not_le, -Int.not_lt, argsF, impl_isFlaw_c]
  repeat' split
  all_goals ((refine Out.plain hwf ?_ rfl ?_; (repeat first | exact Sub.refl _ | refine Sub.push hwf ?_ _ | refine Sub.set hwf ?_ (by first | exact Nat.le_refl _ | omega) _ | refine Sub.kill hwf ?_ (by first | exact Nat.le_refl _ | omega))); simp_all [isFl])

theorem spec_l15One_s : Sound Tryd.prog 7 q_isFl := by
  intro args H K h
  unfold q_isFl at h
  split at h
  rotate_left
  all_goals first | exact False.elim h | skip
  rename_i x_e
  have h1 := onv_iff.1 h
  clear h
  obtain ⟨x, hd_x, h⟩ := h1
  obtain rfl := eFl.cd _ _ hd_x
  clear hd_x
  have hE := soundE_cons spec_l1In_s (soundE_cons spec_l15State_s (soundE_nil (P := Tryd.prog)))
  refine acalls_fn spec_l15One_k hE ⟨by simp, fun hwf => ?_⟩
  simp (config := {contextual := true, implicitDefEqProofs := false, maxSteps := 60000}) [-Int.not_le, -Int.not_lt, argsF, spec_l15One_c]
  repeat' split
  all_goals ((refine Out.plain hwf ?_ rfl ?_; (repeat first | exact Sub.refl _ | refine Sub.push hwf ?_ _ | refine Sub.set hwf ?_ (by first | exact Nat.le_refl _ | omega) _ | refine Sub.kill hwf ?_ (by first | exact Nat.le_refl _ | omega))); simp_all [isFl])

def q_ft : Con := fun args H K => match args with
  | [.agg x_e] => onv (eFl.dec x_e) fun x => (∀ w, H.I w → tabI w) ∧ K (.tup [.c (.str ((ftRes x).1)), .c (.bool ((ftRes x).2))]) H
  | _ => False
@[simp ↓] theorem q_ft_eq (x_e : List AC) (H : AHeap) (K : AV → AHeap → Prop) : q_ft [.agg x_e] H K = (onv (eFl.dec x_e) fun x => (∀ w, H.I w → tabI w) ∧ K (.tup [.c (.str ((ftRes x).1)), .c (.bool ((ftRes x).2))]) H) := rfl

theorem impl_FlawText_s : Sound Tryd.prog 6 q_ft := by
  intro args H K h
  unfold q_ft at h
  split at h
  rotate_left
  all_goals first | exact False.elim h | skip
  rename_i x_e
  have h1 := onv_iff.1 h
  clear h
  obtain ⟨x, hd_x, h⟩ := h1
  obtain rfl := eFl.cd _ _ hd_x
  clear hd_x
  have hE := soundE_cons impl_isFlaw_s (soundE_cons strconv_Itoa_s (soundE_nil (P := Tryd.prog)))
  refine acalls_fn impl_FlawText_k hE ⟨by simp, fun hwf => ?_⟩
  obtain ⟨hI, h⟩ := h
  by_cases hv : isFl x = true
  rotate_left
  · simp (config := {contextual := true, implicitDefEqProofs := false, maxSteps := 60000}) [-Int.not_le, -Int.not_lt, argsF, impl_FlawText_c, hv]
    simp only [ftRes, hv, if_false, reduceCtorEq] at h
    (refine Out.plain hwf ?_ rfl ?_; (repeat first | exact Sub.refl _ | refine Sub.push hwf ?_ _ | refine Sub.set hwf ?_ (by first | exact Nat.le_refl _ | omega) _ | refine Sub.kill hwf ?_ (by first | exact Nat.le_refl _ | omega))); exact h
  · have hb := isFl_b hv
    have l0 := numT_len19 (n := x.row) (by omega) (by omega)
    have p0 : 0 ≤ x.row := by omega
    have r0 : x.row ≤ 9223372036854775807 := by omega
    have l1 := numT_len19 (n := x.col) (by omega) (by omega)
    have p1 : 0 ≤ x.col := by omega
    have r1 : x.col ≤ 9223372036854775807 := by omega
    have l2 := numT_len19 (n := x.code) (by omega) (by omega)
    have p2 : 0 ≤ x.code := by omega
    have r2 : x.code ≤ 9223372036854775807 := by omega
    have l3 := numT_len19 (n := x.frm) (by omega) (by omega)
    have p3 : 0 ≤ x.frm := by omega
    have r3 : x.frm ≤ 9223372036854775807 := by omega
    simp (config := {contextual := true, implicitDefEqProofs := false, maxSteps := 60000}) [-Int.not_le, -Int.not_lt, argsF, impl_FlawText_c, hv, hI, p0, p1, p2, p3, r0, r1, r2, r3]
    repeat (refine ⟨by omega, ?_⟩)
    simp only [ftRes, hv, if_true] at h
    (refine Out.plain hwf ?_ rfl ?_; (repeat first | exact Sub.refl _ | refine Sub.push hwf ?_ _ | refine Sub.set hwf ?_ (by first | exact Nat.le_refl _ | omega) _ | refine Sub.kill hwf ?_ (by first | exact Nat.le_refl _ | omega))); simpa using h

theorem spec_FlawText_s : Sound Tryd.prog 4 q_ft := by
  intro args H K h
  unfold q_ft at h
  split at h
  rotate_left
  all_goals first | exact False.elim h | skip
  rename_i x_e
  have h1 := onv_iff.1 h
  clear h
  obtain ⟨x, hd_x, h⟩ := h1
  obtain rfl := eFl.cd _ _ hd_x
  clear hd_x
  have hE := soundE_cons spec_l15One_s (soundE_cons spec_l1Num_s (soundE_nil (P := Tryd.prog)))
  refine acalls_fn spec_FlawText_k hE ⟨by simp, fun hwf => ?_⟩
  obtain ⟨hI, h⟩ := h
  by_cases hv : isFl x = true
  rotate_left
  · simp (config := {contextual := true, implicitDefEqProofs := false, maxSteps := 60000}) [-Int.not_le, -Int.not_lt, argsF, spec_FlawText_c, hv]
    simp only [ftRes, hv, if_false, reduceCtorEq] at h
    (refine Out.plain hwf ?_ rfl ?_; (repeat first | exact Sub.refl _ | refine Sub.push hwf ?_ _ | refine Sub.set hwf ?_ (by first | exact Nat.le_refl _ | omega) _ | refine Sub.kill hwf ?_ (by first | exact Nat.le_refl _ | omega))); exact h
  · have hb := isFl_b hv
    have l0 := numT_len19 (n := x.row) (by omega) (by omega)
    have p0 : 0 ≤ x.row := by omega
    have r0 : x.row ≤ 9223372036854775807 := by omega
    have l1 := numT_len19 (n := x.col) (by omega) (by omega)
    have p1 : 0 ≤ x.col := by omega
    have r1 : x.col ≤ 9223372036854775807 := by omega
    have l2 := numT_len19 (n := x.code) (by omega) (by omega)
    have p2 : 0 ≤ x.code := by omega
    have r2 : x.code ≤ 9223372036854775807 := by omega
    have l3 := numT_len19 (n := x.frm) (by omega) (by omega)
    have p3 : 0 ≤ x.frm := by omega
    have r3 : x.frm ≤ 9223372036854775807 := by omega
    simp (config := {contextual := true, implicitDefEqProofs := false, maxSteps := 60000}) [-Int.not_le, -Int.not_lt, argsF, spec_FlawText_c, hv, hI, p0, p1, p2, p3, r0, r1, r2, r3]
    repeat (refine ⟨by omega, ?_⟩)
    simp only [ftRes, hv, if_true] at h
    (refine Out.plain hwf ?_ rfl ?_; (repeat first | exact Sub.refl _ | refine Sub.push hwf ?_ _ | refine Sub.set hwf ?_ (by first | exact Nat.le_refl _ | omega) _ | refine Sub.kill hwf ?_ (by first | exact Nat.le_refl _ | omega))); simpa using h

end Go.Proofs.YtnbhpdajikmnkaaDoor
