/- The printings: what is valid. -/
import Derived.Test.YtegmlgikdniohaaDoorBas
import Derived.Test.YtegmlgikdniohaaDoorPrC
set_option maxRecDepth 8000
set_option linter.unusedSimpArgs false
set_option linter.unusedVariables false
namespace Go.Proofs.YtegmlgikdniohaaDoor
open Go Go.RowKit

structure Pr where
  num : Int
  day : Int
  sheets : Int
  hue : Int
  spread : Int
  deriving DecidableEq, Inhabited

def ePr : Enc Pr where
  n := 5
  cells p := [.int .i64 p.num, .int .i64 p.day, .int .i64 p.sheets, .int .i64 p.hue, .int .i64 p.spread]
  dec e := match e with
    | [.int .i64 x0, .int .i64 x1, .int .i64 x2, .int .i64 x3, .int .i64 x4] => some ⟨x0, x1, x2, x3, x4⟩
    | _ => none
  dc _ := rfl
  cd e p h := by
    split at h
    · cases h; rfl
    · cases h
  len _ := rfl

@[simp] theorem ePr_n : ePr.n = 5 := (rfl)
@[simp] theorem ePr_cells (p : Pr) : ePr.cells p = [.int .i64 p.num, .int .i64 p.day, .int .i64 p.sheets, .int .i64 p.hue, .int .i64 p.spread] := (rfl)
@[simp] theorem ePr_dec (x0 : Int) (x1 : Int) (x2 : Int) (x3 : Int) (x4 : Int) : ePr.dec [.int .i64 x0, .int .i64 x1, .int .i64 x2, .int .i64 x3, .int .i64 x4] = some ⟨x0, x1, x2, x3, x4⟩ := (rfl)
@[simp] theorem ePr_eta (p : Pr) : (⟨p.num, p.day, p.sheets, p.hue, p.spread⟩ : Pr) = p := (rfl)

def isPr (p : Pr) : Bool := inR p.num 1 99 && (inR p.day 0 4000 && (inR p.sheets 1 9999 && (inR p.hue 0 100 && inR p.spread 0 20)))
def hasT (p : Pr) (t : Int) : Bool := inR t (IntKind.i64.wrap (p.hue - p.spread)) (IntKind.i64.wrap (p.hue + p.spread))
def canBe (p : Pr) (d t : Int) : Bool := decide (p.day ≤ d) && hasT p t

def q_inRange : Con := fun args H K => match args with
  | [.c (.int .i64 n), .c (.int .i64 lo), .c (.int .i64 hi)] => K (.c (.bool (inR n lo hi))) H
  | _ => False
@[simp ↓] theorem q_inRange_eq (n : Int) (lo : Int) (hi : Int) (H : AHeap) (K : AV → AHeap → Prop) : q_inRange [.c (.int .i64 n), .c (.int .i64 lo), .c (.int .i64 hi)] H K = (K (.c (.bool (inR n lo hi))) H) := rfl

theorem impl_inRange_s : Sound Tryd.prog 45 q_inRange := by
  intro args H K h
  unfold q_inRange at h
  split at h
  rotate_left
  all_goals first | exact False.elim h | skip
  rename_i n lo hi
  have hE := soundE_nil (P := Tryd.prog)
  refine acalls_fn impl_inRange_k hE ⟨by simp, fun hwf => ?_⟩
  simp (config := {contextual := true, implicitDefEqProofs := false, maxSteps := 60000}) [-Int.not_le, -Int.not_lt, argsF, impl_inRange_c]
  split <;> ((refine Out.plain hwf ?_ rfl ?_; (repeat first | exact Sub.refl _ | refine Sub.push hwf ?_ _ | refine Sub.set hwf ?_ (by first | exact Nat.le_refl _ | omega | (simp only [push_n, set_n, kill_n]; omega)) _ | refine Sub.kill hwf ?_ (by first | exact Nat.le_refl _ | omega | (simp only [push_n, set_n, kill_n]; omega)))); simp_all [inR])

theorem spec_l1In_s : Sound Tryd.prog 46 q_inRange := by
  intro args H K h
  unfold q_inRange at h
  split at h
  rotate_left
  all_goals first | exact False.elim h | skip
  rename_i n lo hi
  have hE := soundE_nil (P := Tryd.prog)
  refine acalls_fn spec_l1In_k hE ⟨by simp, fun hwf => ?_⟩
  simp (config := {contextual := true, implicitDefEqProofs := false, maxSteps := 60000}) [-Int.not_le, -Int.not_lt, argsF, spec_l1In_c]
  split <;> ((refine Out.plain hwf ?_ rfl ?_; (repeat first | exact Sub.refl _ | refine Sub.push hwf ?_ _ | refine Sub.set hwf ?_ (by first | exact Nat.le_refl _ | omega | (simp only [push_n, set_n, kill_n]; omega)) _ | refine Sub.kill hwf ?_ (by first | exact Nat.le_refl _ | omega | (simp only [push_n, set_n, kill_n]; omega)))); simp_all [inR])

def q_isDay : Con := fun args H K => match args with
  | [.c (.int .i64 n)] => K (.c (.bool (inR n 0 4000))) H
  | _ => False
@[simp ↓] theorem q_isDay_eq (n : Int) (H : AHeap) (K : AV → AHeap → Prop) : q_isDay [.c (.int .i64 n)] H K = (K (.c (.bool (inR n 0 4000))) H) := rfl

theorem impl_isDay_s : Sound Tryd.prog 33 q_isDay := by
  intro args H K h
  unfold q_isDay at h
  split at h
  rotate_left
  all_goals first | exact False.elim h | skip
  rename_i n
  have hE := soundE_cons impl_inRange_s (soundE_nil (P := Tryd.prog))
  refine acalls_fn impl_isDay_k hE ⟨by simp, fun hwf => ?_⟩
  simp (config := {contextual := true, implicitDefEqProofs := false, maxSteps := 60000}) [-Int.not_le, -Int.not_lt, argsF, impl_isDay_c]
  (refine Out.plain hwf ?_ rfl ?_; (repeat first | exact Sub.refl _ | refine Sub.push hwf ?_ _ | refine Sub.set hwf ?_ (by first | exact Nat.le_refl _ | omega | (simp only [push_n, set_n, kill_n]; omega)) _ | refine Sub.kill hwf ?_ (by first | exact Nat.le_refl _ | omega | (simp only [push_n, set_n, kill_n]; omega)))); exact h

theorem spec_l2Day_s : Sound Tryd.prog 56 q_isDay := by
  intro args H K h
  unfold q_isDay at h
  split at h
  rotate_left
  all_goals first | exact False.elim h | skip
  rename_i n
  have hE := soundE_cons spec_l1In_s (soundE_nil (P := Tryd.prog))
  refine acalls_fn spec_l2Day_k hE ⟨by simp, fun hwf => ?_⟩
  simp (config := {contextual := true, implicitDefEqProofs := false, maxSteps := 60000}) [-Int.not_le, -Int.not_lt, argsF, spec_l2Day_c]
  (refine Out.plain hwf ?_ rfl ?_; (repeat first | exact Sub.refl _ | refine Sub.push hwf ?_ _ | refine Sub.set hwf ?_ (by first | exact Nat.le_refl _ | omega | (simp only [push_n, set_n, kill_n]; omega)) _ | refine Sub.kill hwf ?_ (by first | exact Nat.le_refl _ | omega | (simp only [push_n, set_n, kill_n]; omega)))); exact h

def q_isTone : Con := fun args H K => match args with
  | [.c (.int .i64 n)] => K (.c (.bool (inR n (-20) 120))) H
  | _ => False
@[simp ↓] theorem q_isTone_eq (n : Int) (H : AHeap) (K : AV → AHeap → Prop) : q_isTone [.c (.int .i64 n)] H K = (K (.c (.bool (inR n (-20) 120))) H) := rfl

theorem impl_isTone_s : Sound Tryd.prog 39 q_isTone := by
  intro args H K h
  unfold q_isTone at h
  split at h
  rotate_left
  all_goals first | exact False.elim h | skip
  rename_i n
  have hE := soundE_cons impl_inRange_s (soundE_nil (P := Tryd.prog))
  refine acalls_fn impl_isTone_k hE ⟨by simp, fun hwf => ?_⟩
  simp (config := {contextual := true, implicitDefEqProofs := false, maxSteps := 60000}) [-Int.not_le, -Int.not_lt, argsF, impl_isTone_c]
  (refine Out.plain hwf ?_ rfl ?_; (repeat first | exact Sub.refl _ | refine Sub.push hwf ?_ _ | refine Sub.set hwf ?_ (by first | exact Nat.le_refl _ | omega | (simp only [push_n, set_n, kill_n]; omega)) _ | refine Sub.kill hwf ?_ (by first | exact Nat.le_refl _ | omega | (simp only [push_n, set_n, kill_n]; omega)))); exact h

def q_isPr : Con := fun args H K => match args with
  | [.agg p_e] => onv (ePr.dec p_e) fun p => K (.c (.bool (isPr p))) H
  | _ => False
@[simp ↓] theorem q_isPr_eq (p_e : List AC) (H : AHeap) (K : AV → AHeap → Prop) : q_isPr [.agg p_e] H K = (onv (ePr.dec p_e) fun p => K (.c (.bool (isPr p))) H) := rfl

theorem impl_isPrinting_s : Sound Tryd.prog 47 q_isPr := by
  intro args H K h
  unfold q_isPr at h
  split at h
  rotate_left
  all_goals first | exact False.elim h | skip
  rename_i p_e
  have h1 := onv_iff.1 h
  clear h
  obtain ⟨p, hd_p, h⟩ := h1
  obtain rfl := ePr.cd _ _ hd_p
  clear hd_p
  have hE := soundE_cons impl_inRange_s (soundE_cons impl_isDay_s (soundE_nil (P := Tryd.prog)))
  refine acalls_fn impl_isPrinting_k hE ⟨by simp, fun hwf => ?_⟩
  simp (config := {contextual := true, implicitDefEqProofs := false, maxSteps := 60000}) [-Int.not_le, -Int.not_lt, argsF, impl_isPrinting_c]
  repeat' split
  all_goals ((refine Out.plain hwf ?_ rfl ?_; (repeat first | exact Sub.refl _ | refine Sub.push hwf ?_ _ | refine Sub.set hwf ?_ (by first | exact Nat.le_refl _ | omega | (simp only [push_n, set_n, kill_n]; omega)) _ | refine Sub.kill hwf ?_ (by first | exact Nat.le_refl _ | omega | (simp only [push_n, set_n, kill_n]; omega)))); simp_all [isPr])

theorem spec_l14One_s : Sound Tryd.prog 49 q_isPr := by
  intro args H K h
  unfold q_isPr at h
  split at h
  rotate_left
  all_goals first | exact False.elim h | skip
  rename_i p_e
  have h1 := onv_iff.1 h
  clear h
  obtain ⟨p, hd_p, h⟩ := h1
  obtain rfl := ePr.cd _ _ hd_p
  clear hd_p
  have hE := soundE_cons spec_l1In_s (soundE_cons spec_l2Day_s (soundE_nil (P := Tryd.prog)))
  refine acalls_fn spec_l14One_k hE ⟨by simp, fun hwf => ?_⟩
  simp (config := {contextual := true, implicitDefEqProofs := false, maxSteps := 60000}) [-Int.not_le, -Int.not_lt, argsF, spec_l14One_c]
  repeat' split
  all_goals ((refine Out.plain hwf ?_ rfl ?_; (repeat first | exact Sub.refl _ | refine Sub.push hwf ?_ _ | refine Sub.set hwf ?_ (by first | exact Nat.le_refl _ | omega | (simp only [push_n, set_n, kill_n]; omega)) _ | refine Sub.kill hwf ?_ (by first | exact Nat.le_refl _ | omega | (simp only [push_n, set_n, kill_n]; omega)))); simp_all [isPr])

def q_has : Con := fun args H K => match args with
  | [.agg p_e, .c (.int .i64 t)] => onv (ePr.dec p_e) fun p => K (.c (.bool (hasT p t))) H
  | _ => False
@[simp ↓] theorem q_has_eq (p_e : List AC) (t : Int) (H : AHeap) (K : AV → AHeap → Prop) : q_has [.agg p_e, .c (.int .i64 t)] H K = (onv (ePr.dec p_e) fun p => K (.c (.bool (hasT p t))) H) := rfl

theorem impl_Printing__has_s : Sound Tryd.prog 36 q_has := by
  intro args H K h
  unfold q_has at h
  split at h
  rotate_left
  all_goals first | exact False.elim h | skip
  rename_i p_e t
  have h1 := onv_iff.1 h
  clear h
  obtain ⟨p, hd_p, h⟩ := h1
  obtain rfl := ePr.cd _ _ hd_p
  clear hd_p
  have hE := soundE_cons impl_inRange_s (soundE_nil (P := Tryd.prog))
  refine acalls_fn _impl_Printing__has_k hE ⟨by simp, fun hwf => ?_⟩
  simp (config := {contextual := true, implicitDefEqProofs := false, maxSteps := 60000}) [-Int.not_le, -Int.not_lt, argsF, _impl_Printing__has_c]
  (refine Out.plain hwf ?_ rfl ?_; (repeat first | exact Sub.refl _ | refine Sub.push hwf ?_ _ | refine Sub.set hwf ?_ (by first | exact Nat.le_refl _ | omega | (simp only [push_n, set_n, kill_n]; omega)) _ | refine Sub.kill hwf ?_ (by first | exact Nat.le_refl _ | omega | (simp only [push_n, set_n, kill_n]; omega)))); exact h

theorem spec_l14Has_s : Sound Tryd.prog 38 q_has := by
  intro args H K h
  unfold q_has at h
  split at h
  rotate_left
  all_goals first | exact False.elim h | skip
  rename_i p_e t
  have h1 := onv_iff.1 h
  clear h
  obtain ⟨p, hd_p, h⟩ := h1
  obtain rfl := ePr.cd _ _ hd_p
  clear hd_p
  have hE := soundE_cons spec_l1In_s (soundE_nil (P := Tryd.prog))
  refine acalls_fn spec_l14Has_k hE ⟨by simp, fun hwf => ?_⟩
  simp (config := {contextual := true, implicitDefEqProofs := false, maxSteps := 60000}) [-Int.not_le, -Int.not_lt, argsF, spec_l14Has_c]
  (refine Out.plain hwf ?_ rfl ?_; (repeat first | exact Sub.refl _ | refine Sub.push hwf ?_ _ | refine Sub.set hwf ?_ (by first | exact Nat.le_refl _ | omega | (simp only [push_n, set_n, kill_n]; omega)) _ | refine Sub.kill hwf ?_ (by first | exact Nat.le_refl _ | omega | (simp only [push_n, set_n, kill_n]; omega)))); exact h

def q_canBe : Con := fun args H K => match args with
  | [.agg p_e, .c (.int .i64 d), .c (.int .i64 t)] => onv (ePr.dec p_e) fun p => K (.c (.bool (canBe p d t))) H
  | _ => False
@[simp ↓] theorem q_canBe_eq (p_e : List AC) (d : Int) (t : Int) (H : AHeap) (K : AV → AHeap → Prop) : q_canBe [.agg p_e, .c (.int .i64 d), .c (.int .i64 t)] H K = (onv (ePr.dec p_e) fun p => K (.c (.bool (canBe p d t))) H) := rfl

theorem impl_Printing__canBe_s : Sound Tryd.prog 40 q_canBe := by
  intro args H K h
  unfold q_canBe at h
  split at h
  rotate_left
  all_goals first | exact False.elim h | skip
  rename_i p_e d t
  have h1 := onv_iff.1 h
  clear h
  obtain ⟨p, hd_p, h⟩ := h1
  obtain rfl := ePr.cd _ _ hd_p
  clear hd_p
  have hE := soundE_cons impl_Printing__has_s (soundE_nil (P := Tryd.prog))
  refine acalls_fn _impl_Printing__canBe_k hE ⟨by simp, fun hwf => ?_⟩
  simp (config := {contextual := true, implicitDefEqProofs := false, maxSteps := 60000}) [-Int.not_le, -Int.not_lt, argsF, _impl_Printing__canBe_c]
  repeat' split
  all_goals ((refine Out.plain hwf ?_ rfl ?_; (repeat first | exact Sub.refl _ | refine Sub.push hwf ?_ _ | refine Sub.set hwf ?_ (by first | exact Nat.le_refl _ | omega | (simp only [push_n, set_n, kill_n]; omega)) _ | refine Sub.kill hwf ?_ (by first | exact Nat.le_refl _ | omega | (simp only [push_n, set_n, kill_n]; omega)))); simp_all [canBe])

end Go.Proofs.YtegmlgikdniohaaDoor
