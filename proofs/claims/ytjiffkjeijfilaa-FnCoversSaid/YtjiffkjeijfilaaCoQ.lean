/- Covers, rates, mails: what is valid. -/
import Derived.Test.YtjiffkjeijfilaaBas
import Derived.Test.YtjiffkjeijfilaaCoC
set_option maxRecDepth 8000
set_option linter.unusedSimpArgs false
set_option linter.unusedVariables false
namespace Go.Proofs.Ytjiffkjeijfilaa
open Go Go.RowKit

structure Cv where
  id : Int
  day : Int
  zone : Int
  grams : Int
  paid : Int
  frm : Int
  to : Int
  leave : Int
  arrive : Int
  deriving DecidableEq, Inhabited

def eCv : Enc Cv where
  n := 9
  cells p := [.int .i64 p.id, .int .i64 p.day, .int .i64 p.zone, .int .i64 p.grams, .int .i64 p.paid, .int .i64 p.frm, .int .i64 p.to, .int .i64 p.leave, .int .i64 p.arrive]
  dec e := match e with
    | [.int .i64 x0, .int .i64 x1, .int .i64 x2, .int .i64 x3, .int .i64 x4, .int .i64 x5, .int .i64 x6, .int .i64 x7, .int .i64 x8] => some ⟨x0, x1, x2, x3, x4, x5, x6, x7, x8⟩
    | _ => none
  dc _ := rfl
  cd e p h := by
    split at h
    · cases h; rfl
    · cases h
  len _ := rfl

@[simp] theorem eCv_n : eCv.n = 9 := (rfl)
@[simp] theorem eCv_cells (p : Cv) : eCv.cells p = [.int .i64 p.id, .int .i64 p.day, .int .i64 p.zone, .int .i64 p.grams, .int .i64 p.paid, .int .i64 p.frm, .int .i64 p.to, .int .i64 p.leave, .int .i64 p.arrive] := (rfl)
@[simp] theorem eCv_dec (x0 : Int) (x1 : Int) (x2 : Int) (x3 : Int) (x4 : Int) (x5 : Int) (x6 : Int) (x7 : Int) (x8 : Int) : eCv.dec [.int .i64 x0, .int .i64 x1, .int .i64 x2, .int .i64 x3, .int .i64 x4, .int .i64 x5, .int .i64 x6, .int .i64 x7, .int .i64 x8] = some ⟨x0, x1, x2, x3, x4, x5, x6, x7, x8⟩ := (rfl)
@[simp] theorem eCv_eta (p : Cv) : (⟨p.id, p.day, p.zone, p.grams, p.paid, p.frm, p.to, p.leave, p.arrive⟩ : Cv) = p := (rfl)

structure Ra where
  zone : Int
  grams : Int
  frm : Int
  til : Int
  cents : Int
  deriving DecidableEq, Inhabited

def eRa : Enc Ra where
  n := 5
  cells p := [.int .i64 p.zone, .int .i64 p.grams, .int .i64 p.frm, .int .i64 p.til, .int .i64 p.cents]
  dec e := match e with
    | [.int .i64 x0, .int .i64 x1, .int .i64 x2, .int .i64 x3, .int .i64 x4] => some ⟨x0, x1, x2, x3, x4⟩
    | _ => none
  dc _ := rfl
  cd e p h := by
    split at h
    · cases h; rfl
    · cases h
  len _ := rfl

@[simp] theorem eRa_n : eRa.n = 5 := (rfl)
@[simp] theorem eRa_cells (p : Ra) : eRa.cells p = [.int .i64 p.zone, .int .i64 p.grams, .int .i64 p.frm, .int .i64 p.til, .int .i64 p.cents] := (rfl)
@[simp] theorem eRa_dec (x0 : Int) (x1 : Int) (x2 : Int) (x3 : Int) (x4 : Int) : eRa.dec [.int .i64 x0, .int .i64 x1, .int .i64 x2, .int .i64 x3, .int .i64 x4] = some ⟨x0, x1, x2, x3, x4⟩ := (rfl)
@[simp] theorem eRa_eta (p : Ra) : (⟨p.zone, p.grams, p.frm, p.til, p.cents⟩ : Ra) = p := (rfl)

structure Ma where
  leave : Int
  frm : Int
  to : Int
  arrive : Int
  deriving DecidableEq, Inhabited

def eMa : Enc Ma where
  n := 4
  cells p := [.int .i64 p.leave, .int .i64 p.frm, .int .i64 p.to, .int .i64 p.arrive]
  dec e := match e with
    | [.int .i64 x0, .int .i64 x1, .int .i64 x2, .int .i64 x3] => some ⟨x0, x1, x2, x3⟩
    | _ => none
  dc _ := rfl
  cd e p h := by
    split at h
    · cases h; rfl
    · cases h
  len _ := rfl

@[simp] theorem eMa_n : eMa.n = 4 := (rfl)
@[simp] theorem eMa_cells (p : Ma) : eMa.cells p = [.int .i64 p.leave, .int .i64 p.frm, .int .i64 p.to, .int .i64 p.arrive] := (rfl)
@[simp] theorem eMa_dec (x0 : Int) (x1 : Int) (x2 : Int) (x3 : Int) : eMa.dec [.int .i64 x0, .int .i64 x1, .int .i64 x2, .int .i64 x3] = some ⟨x0, x1, x2, x3⟩ := (rfl)
@[simp] theorem eMa_eta (p : Ma) : (⟨p.leave, p.frm, p.to, p.arrive⟩ : Ma) = p := (rfl)

def q_inRange : Con := fun args H K => match args with
  | [.c (.int .i64 n), .c (.int .i64 lo), .c (.int .i64 hi)] => K (.c (.bool (inR n lo hi))) H
  | _ => False
@[simp ↓] theorem q_inRange_eq (n : Int) (lo : Int) (hi : Int) (H : AHeap) (K : AV → AHeap → Prop) : q_inRange [.c (.int .i64 n), .c (.int .i64 lo), .c (.int .i64 hi)] H K = (K (.c (.bool (inR n lo hi))) H) := rfl

theorem impl_inRange_s : Sound Try.prog 90 q_inRange := by
  intro args H K h
  unfold q_inRange at h
  split at h
  rotate_left
  all_goals first | exact False.elim h | skip
  rename_i n lo hi
  have hE := soundE_nil (P := Try.prog)
  refine acalls_fn impl_inRange_k hE ⟨by simp, fun hwf => ?_⟩
  simp (config := {contextual := true, implicitDefEqProofs := false, maxSteps := 60000}) [-Int.not_le, -Int.not_lt, argsF, impl_inRange_c]
  split <;> ((refine Out.plain hwf ?_ rfl ?_; (repeat first | exact Sub.refl _ | refine Sub.push hwf ?_ _ | refine Sub.set hwf ?_ (by first | exact Nat.le_refl _ | omega | (simp only [push_n, set_n, kill_n]; omega)) _ | refine Sub.kill hwf ?_ (by first | exact Nat.le_refl _ | omega | (simp only [push_n, set_n, kill_n]; omega)))); simp_all [inR])

theorem spec_l1In_s : Sound Try.prog 91 q_inRange := by
  intro args H K h
  unfold q_inRange at h
  split at h
  rotate_left
  all_goals first | exact False.elim h | skip
  rename_i n lo hi
  have hE := soundE_nil (P := Try.prog)
  refine acalls_fn spec_l1In_k hE ⟨by simp, fun hwf => ?_⟩
  simp (config := {contextual := true, implicitDefEqProofs := false, maxSteps := 60000}) [-Int.not_le, -Int.not_lt, argsF, spec_l1In_c]
  split <;> ((refine Out.plain hwf ?_ rfl ?_; (repeat first | exact Sub.refl _ | refine Sub.push hwf ?_ _ | refine Sub.set hwf ?_ (by first | exact Nat.le_refl _ | omega | (simp only [push_n, set_n, kill_n]; omega)) _ | refine Sub.kill hwf ?_ (by first | exact Nat.le_refl _ | omega | (simp only [push_n, set_n, kill_n]; omega)))); simp_all [inR])

def q_isDay : Con := fun args H K => match args with
  | [.c (.int .i64 n)] => K (.c (.bool (inR n 0 4000))) H
  | _ => False
@[simp ↓] theorem q_isDay_eq (n : Int) (H : AHeap) (K : AV → AHeap → Prop) : q_isDay [.c (.int .i64 n)] H K = (K (.c (.bool (inR n 0 4000))) H) := rfl

theorem impl_isDay_s : Sound Try.prog 127 q_isDay := by
  intro args H K h
  unfold q_isDay at h
  split at h
  rotate_left
  all_goals first | exact False.elim h | skip
  rename_i n
  have hE := soundE_cons impl_inRange_s (soundE_nil (P := Try.prog))
  refine acalls_fn impl_isDay_k hE ⟨by simp, fun hwf => ?_⟩
  simp (config := {contextual := true, implicitDefEqProofs := false, maxSteps := 60000}) [-Int.not_le, -Int.not_lt, argsF, impl_isDay_c]
  (refine Out.plain hwf ?_ rfl ?_; (repeat first | exact Sub.refl _ | refine Sub.push hwf ?_ _ | refine Sub.set hwf ?_ (by first | exact Nat.le_refl _ | omega | (simp only [push_n, set_n, kill_n]; omega)) _ | refine Sub.kill hwf ?_ (by first | exact Nat.le_refl _ | omega | (simp only [push_n, set_n, kill_n]; omega)))); exact h

theorem spec_l2Day_s : Sound Try.prog 134 q_isDay := by
  intro args H K h
  unfold q_isDay at h
  split at h
  rotate_left
  all_goals first | exact False.elim h | skip
  rename_i n
  have hE := soundE_cons spec_l1In_s (soundE_nil (P := Try.prog))
  refine acalls_fn spec_l2Day_k hE ⟨by simp, fun hwf => ?_⟩
  simp (config := {contextual := true, implicitDefEqProofs := false, maxSteps := 60000}) [-Int.not_le, -Int.not_lt, argsF, spec_l2Day_c]
  (refine Out.plain hwf ?_ rfl ?_; (repeat first | exact Sub.refl _ | refine Sub.push hwf ?_ _ | refine Sub.set hwf ?_ (by first | exact Nat.le_refl _ | omega | (simp only [push_n, set_n, kill_n]; omega)) _ | refine Sub.kill hwf ?_ (by first | exact Nat.le_refl _ | omega | (simp only [push_n, set_n, kill_n]; omega)))); exact h

def q_isZone : Con := fun args H K => match args with
  | [.c (.int .i64 n)] => K (.c (.bool (inR n 0 9))) H
  | _ => False
@[simp ↓] theorem q_isZone_eq (n : Int) (H : AHeap) (K : AV → AHeap → Prop) : q_isZone [.c (.int .i64 n)] H K = (K (.c (.bool (inR n 0 9))) H) := rfl

theorem impl_isZone_s : Sound Try.prog 128 q_isZone := by
  intro args H K h
  unfold q_isZone at h
  split at h
  rotate_left
  all_goals first | exact False.elim h | skip
  rename_i n
  have hE := soundE_cons impl_inRange_s (soundE_nil (P := Try.prog))
  refine acalls_fn impl_isZone_k hE ⟨by simp, fun hwf => ?_⟩
  simp (config := {contextual := true, implicitDefEqProofs := false, maxSteps := 60000}) [-Int.not_le, -Int.not_lt, argsF, impl_isZone_c]
  (refine Out.plain hwf ?_ rfl ?_; (repeat first | exact Sub.refl _ | refine Sub.push hwf ?_ _ | refine Sub.set hwf ?_ (by first | exact Nat.le_refl _ | omega | (simp only [push_n, set_n, kill_n]; omega)) _ | refine Sub.kill hwf ?_ (by first | exact Nat.le_refl _ | omega | (simp only [push_n, set_n, kill_n]; omega)))); exact h

theorem spec_l8Zone_s : Sound Try.prog 135 q_isZone := by
  intro args H K h
  unfold q_isZone at h
  split at h
  rotate_left
  all_goals first | exact False.elim h | skip
  rename_i n
  have hE := soundE_cons spec_l1In_s (soundE_nil (P := Try.prog))
  refine acalls_fn spec_l8Zone_k hE ⟨by simp, fun hwf => ?_⟩
  simp (config := {contextual := true, implicitDefEqProofs := false, maxSteps := 60000}) [-Int.not_le, -Int.not_lt, argsF, spec_l8Zone_c]
  (refine Out.plain hwf ?_ rfl ?_; (repeat first | exact Sub.refl _ | refine Sub.push hwf ?_ _ | refine Sub.set hwf ?_ (by first | exact Nat.le_refl _ | omega | (simp only [push_n, set_n, kill_n]; omega)) _ | refine Sub.kill hwf ?_ (by first | exact Nat.le_refl _ | omega | (simp only [push_n, set_n, kill_n]; omega)))); exact h

def q_isWeight : Con := fun args H K => match args with
  | [.c (.int .i64 n)] => K (.c (.bool (inR n 1 2000))) H
  | _ => False
@[simp ↓] theorem q_isWeight_eq (n : Int) (H : AHeap) (K : AV → AHeap → Prop) : q_isWeight [.c (.int .i64 n)] H K = (K (.c (.bool (inR n 1 2000))) H) := rfl

theorem impl_isWeight_s : Sound Try.prog 129 q_isWeight := by
  intro args H K h
  unfold q_isWeight at h
  split at h
  rotate_left
  all_goals first | exact False.elim h | skip
  rename_i n
  have hE := soundE_cons impl_inRange_s (soundE_nil (P := Try.prog))
  refine acalls_fn impl_isWeight_k hE ⟨by simp, fun hwf => ?_⟩
  simp (config := {contextual := true, implicitDefEqProofs := false, maxSteps := 60000}) [-Int.not_le, -Int.not_lt, argsF, impl_isWeight_c]
  (refine Out.plain hwf ?_ rfl ?_; (repeat first | exact Sub.refl _ | refine Sub.push hwf ?_ _ | refine Sub.set hwf ?_ (by first | exact Nat.le_refl _ | omega | (simp only [push_n, set_n, kill_n]; omega)) _ | refine Sub.kill hwf ?_ (by first | exact Nat.le_refl _ | omega | (simp only [push_n, set_n, kill_n]; omega)))); exact h

theorem spec_l8Grams_s : Sound Try.prog 136 q_isWeight := by
  intro args H K h
  unfold q_isWeight at h
  split at h
  rotate_left
  all_goals first | exact False.elim h | skip
  rename_i n
  have hE := soundE_cons spec_l1In_s (soundE_nil (P := Try.prog))
  refine acalls_fn spec_l8Grams_k hE ⟨by simp, fun hwf => ?_⟩
  simp (config := {contextual := true, implicitDefEqProofs := false, maxSteps := 60000}) [-Int.not_le, -Int.not_lt, argsF, spec_l8Grams_c]
  (refine Out.plain hwf ?_ rfl ?_; (repeat first | exact Sub.refl _ | refine Sub.push hwf ?_ _ | refine Sub.set hwf ?_ (by first | exact Nat.le_refl _ | omega | (simp only [push_n, set_n, kill_n]; omega)) _ | refine Sub.kill hwf ?_ (by first | exact Nat.le_refl _ | omega | (simp only [push_n, set_n, kill_n]; omega)))); exact h

def q_isCents : Con := fun args H K => match args with
  | [.c (.int .i64 n)] => K (.c (.bool (inR n 1 9999))) H
  | _ => False
@[simp ↓] theorem q_isCents_eq (n : Int) (H : AHeap) (K : AV → AHeap → Prop) : q_isCents [.c (.int .i64 n)] H K = (K (.c (.bool (inR n 1 9999))) H) := rfl

theorem impl_isCents_s : Sound Try.prog 130 q_isCents := by
  intro args H K h
  unfold q_isCents at h
  split at h
  rotate_left
  all_goals first | exact False.elim h | skip
  rename_i n
  have hE := soundE_cons impl_inRange_s (soundE_nil (P := Try.prog))
  refine acalls_fn impl_isCents_k hE ⟨by simp, fun hwf => ?_⟩
  simp (config := {contextual := true, implicitDefEqProofs := false, maxSteps := 60000}) [-Int.not_le, -Int.not_lt, argsF, impl_isCents_c]
  (refine Out.plain hwf ?_ rfl ?_; (repeat first | exact Sub.refl _ | refine Sub.push hwf ?_ _ | refine Sub.set hwf ?_ (by first | exact Nat.le_refl _ | omega | (simp only [push_n, set_n, kill_n]; omega)) _ | refine Sub.kill hwf ?_ (by first | exact Nat.le_refl _ | omega | (simp only [push_n, set_n, kill_n]; omega)))); exact h

theorem spec_l8Cents_s : Sound Try.prog 137 q_isCents := by
  intro args H K h
  unfold q_isCents at h
  split at h
  rotate_left
  all_goals first | exact False.elim h | skip
  rename_i n
  have hE := soundE_cons spec_l1In_s (soundE_nil (P := Try.prog))
  refine acalls_fn spec_l8Cents_k hE ⟨by simp, fun hwf => ?_⟩
  simp (config := {contextual := true, implicitDefEqProofs := false, maxSteps := 60000}) [-Int.not_le, -Int.not_lt, argsF, spec_l8Cents_c]
  (refine Out.plain hwf ?_ rfl ?_; (repeat first | exact Sub.refl _ | refine Sub.push hwf ?_ _ | refine Sub.set hwf ?_ (by first | exact Nat.le_refl _ | omega | (simp only [push_n, set_n, kill_n]; omega)) _ | refine Sub.kill hwf ?_ (by first | exact Nat.le_refl _ | omega | (simp only [push_n, set_n, kill_n]; omega)))); exact h

def q_isOffice : Con := fun args H K => match args with
  | [.c (.int .i64 n)] => K (.c (.bool (inR n 0 9))) H
  | _ => False
@[simp ↓] theorem q_isOffice_eq (n : Int) (H : AHeap) (K : AV → AHeap → Prop) : q_isOffice [.c (.int .i64 n)] H K = (K (.c (.bool (inR n 0 9))) H) := rfl

theorem impl_isOffice_s : Sound Try.prog 83 q_isOffice := by
  intro args H K h
  unfold q_isOffice at h
  split at h
  rotate_left
  all_goals first | exact False.elim h | skip
  rename_i n
  have hE := soundE_cons impl_inRange_s (soundE_nil (P := Try.prog))
  refine acalls_fn impl_isOffice_k hE ⟨by simp, fun hwf => ?_⟩
  simp (config := {contextual := true, implicitDefEqProofs := false, maxSteps := 60000}) [-Int.not_le, -Int.not_lt, argsF, impl_isOffice_c]
  (refine Out.plain hwf ?_ rfl ?_; (repeat first | exact Sub.refl _ | refine Sub.push hwf ?_ _ | refine Sub.set hwf ?_ (by first | exact Nat.le_refl _ | omega | (simp only [push_n, set_n, kill_n]; omega)) _ | refine Sub.kill hwf ?_ (by first | exact Nat.le_refl _ | omega | (simp only [push_n, set_n, kill_n]; omega)))); exact h

theorem spec_l9Office_s : Sound Try.prog 107 q_isOffice := by
  intro args H K h
  unfold q_isOffice at h
  split at h
  rotate_left
  all_goals first | exact False.elim h | skip
  rename_i n
  have hE := soundE_cons spec_l1In_s (soundE_nil (P := Try.prog))
  refine acalls_fn spec_l9Office_k hE ⟨by simp, fun hwf => ?_⟩
  simp (config := {contextual := true, implicitDefEqProofs := false, maxSteps := 60000}) [-Int.not_le, -Int.not_lt, argsF, spec_l9Office_c]
  (refine Out.plain hwf ?_ rfl ?_; (repeat first | exact Sub.refl _ | refine Sub.push hwf ?_ _ | refine Sub.set hwf ?_ (by first | exact Nat.le_refl _ | omega | (simp only [push_n, set_n, kill_n]; omega)) _ | refine Sub.kill hwf ?_ (by first | exact Nat.le_refl _ | omega | (simp only [push_n, set_n, kill_n]; omega)))); exact h

def q_isMinute : Con := fun args H K => match args with
  | [.c (.int .i64 n)] => K (.c (.bool (inR n 0 9999))) H
  | _ => False
@[simp ↓] theorem q_isMinute_eq (n : Int) (H : AHeap) (K : AV → AHeap → Prop) : q_isMinute [.c (.int .i64 n)] H K = (K (.c (.bool (inR n 0 9999))) H) := rfl

theorem impl_isMinute_s : Sound Try.prog 84 q_isMinute := by
  intro args H K h
  unfold q_isMinute at h
  split at h
  rotate_left
  all_goals first | exact False.elim h | skip
  rename_i n
  have hE := soundE_cons impl_inRange_s (soundE_nil (P := Try.prog))
  refine acalls_fn impl_isMinute_k hE ⟨by simp, fun hwf => ?_⟩
  simp (config := {contextual := true, implicitDefEqProofs := false, maxSteps := 60000}) [-Int.not_le, -Int.not_lt, argsF, impl_isMinute_c]
  (refine Out.plain hwf ?_ rfl ?_; (repeat first | exact Sub.refl _ | refine Sub.push hwf ?_ _ | refine Sub.set hwf ?_ (by first | exact Nat.le_refl _ | omega | (simp only [push_n, set_n, kill_n]; omega)) _ | refine Sub.kill hwf ?_ (by first | exact Nat.le_refl _ | omega | (simp only [push_n, set_n, kill_n]; omega)))); exact h

theorem spec_l9Minute_s : Sound Try.prog 138 q_isMinute := by
  intro args H K h
  unfold q_isMinute at h
  split at h
  rotate_left
  all_goals first | exact False.elim h | skip
  rename_i n
  have hE := soundE_cons spec_l1In_s (soundE_nil (P := Try.prog))
  refine acalls_fn spec_l9Minute_k hE ⟨by simp, fun hwf => ?_⟩
  simp (config := {contextual := true, implicitDefEqProofs := false, maxSteps := 60000}) [-Int.not_le, -Int.not_lt, argsF, spec_l9Minute_c]
  (refine Out.plain hwf ?_ rfl ?_; (repeat first | exact Sub.refl _ | refine Sub.push hwf ?_ _ | refine Sub.set hwf ?_ (by first | exact Nat.le_refl _ | omega | (simp only [push_n, set_n, kill_n]; omega)) _ | refine Sub.kill hwf ?_ (by first | exact Nat.le_refl _ | omega | (simp only [push_n, set_n, kill_n]; omega)))); exact h

def isCv (x : Cv) : Bool := inR x.id 1 999 && (inR x.day 0 4000 && (inR x.zone 0 9 && (inR x.grams 1 2000 && (inR x.paid 1 9999 && (inR x.frm 0 9 && (inR x.to 0 9 && (decide (x.frm ≠ x.to) && (inR x.leave 0 x.arrive && inR x.arrive 0 9999))))))))

def q_isCv : Con := fun args H K => match args with
  | [.agg x_e] => onv (eCv.dec x_e) fun x => K (.c (.bool (isCv x))) H
  | _ => False
@[simp ↓] theorem q_isCv_eq (x_e : List AC) (H : AHeap) (K : AV → AHeap → Prop) : q_isCv [.agg x_e] H K = (onv (eCv.dec x_e) fun x => K (.c (.bool (isCv x))) H) := rfl

theorem impl_isCover_s : Sound Try.prog 72 q_isCv := by
  intro args H K h
  unfold q_isCv at h
  split at h
  rotate_left
  all_goals first | exact False.elim h | skip
  rename_i x_e
  have h1 := onv_iff.1 h
  clear h
  obtain ⟨x, hd_x, h⟩ := h1
  obtain rfl := eCv.cd _ _ hd_x
  clear hd_x
  have hE := soundE_cons impl_inRange_s (soundE_cons impl_isDay_s (soundE_cons impl_isZone_s (soundE_cons impl_isWeight_s (soundE_cons impl_isCents_s (soundE_cons impl_isOffice_s (soundE_cons impl_isMinute_s (soundE_nil (P := Try.prog))))))))
  refine acalls_fn impl_isCover_k hE ⟨by simp, fun hwf => ?_⟩
  simp (config := {contextual := true, implicitDefEqProofs := false, maxSteps := 2000000}) [-Int.not_le, -Int.not_lt, argsF, impl_isCover_c]
  repeat' (refine ite_i (fun _ => ?_) (fun _ => ?_))
  all_goals ((refine Out.plain hwf ?_ rfl ?_; (repeat first | exact Sub.refl _ | refine Sub.push hwf ?_ _ | refine Sub.set hwf ?_ (by first | exact Nat.le_refl _ | omega | (simp only [push_n, set_n, kill_n]; omega)) _ | refine Sub.kill hwf ?_ (by first | exact Nat.le_refl _ | omega | (simp only [push_n, set_n, kill_n]; omega)))); simp_all [isCv])

theorem spec_l10One_s : Sound Try.prog 76 q_isCv := by
  intro args H K h
  unfold q_isCv at h
  split at h
  rotate_left
  all_goals first | exact False.elim h | skip
  rename_i x_e
  have h1 := onv_iff.1 h
  clear h
  obtain ⟨x, hd_x, h⟩ := h1
  obtain rfl := eCv.cd _ _ hd_x
  clear hd_x
  have hE := soundE_cons spec_l1In_s (soundE_cons spec_l2Day_s (soundE_cons spec_l8Zone_s (soundE_cons spec_l8Grams_s (soundE_cons spec_l8Cents_s (soundE_cons spec_l9Office_s (soundE_cons spec_l9Minute_s (soundE_nil (P := Try.prog))))))))
  refine acalls_fn spec_l10One_k hE ⟨by simp, fun hwf => ?_⟩
  simp (config := {contextual := true, implicitDefEqProofs := false, maxSteps := 2000000}) [-Int.not_le, -Int.not_lt, argsF, spec_l10One_c]
  repeat' (refine ite_i (fun _ => ?_) (fun _ => ?_))
  all_goals ((refine Out.plain hwf ?_ rfl ?_; (repeat first | exact Sub.refl _ | refine Sub.push hwf ?_ _ | refine Sub.set hwf ?_ (by first | exact Nat.le_refl _ | omega | (simp only [push_n, set_n, kill_n]; omega)) _ | refine Sub.kill hwf ?_ (by first | exact Nat.le_refl _ | omega | (simp only [push_n, set_n, kill_n]; omega)))); simp_all [isCv])
  all_goals (simp_all [Bool.and_comm])

end Go.Proofs.Ytjiffkjeijfilaa
