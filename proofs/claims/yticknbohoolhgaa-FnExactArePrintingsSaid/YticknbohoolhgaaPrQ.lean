/- The printings: contracts. -/
import Derived.Test.YticknbohoolhgaaPrC
import Derived.Test.YticknbohoolhgaaAbsQ
set_option maxRecDepth 8000
set_option linter.unusedSimpArgs false
namespace Go.Proofs.Yticknbohoolhgaa
open Go Go.RowKit


structure Pr where
  num : Int
  day : Int
  sheets : Int
  hue : Int
  spread : Int
  deriving DecidableEq
def ePr : Enc Pr where
  n := 5
  cells p := [.int .i64 p.num, .int .i64 p.day, .int .i64 p.sheets, .int .i64 p.hue, .int .i64 p.spread]
  dec e := match e with
    | [.int .i64 a, .int .i64 b, .int .i64 c, .int .i64 d, .int .i64 e] => some ⟨a, b, c, d, e⟩
    | _ => none
  dc _ := rfl
  cd e p h := by
    split at h
    · cases h; rfl
    · cases h
  len _ := rfl
@[simp] theorem ePr_n : ePr.n = 5 := (rfl)
@[simp] theorem ePr_cells (p : Pr) : ePr.cells p = [.int .i64 p.num, .int .i64 p.day, .int .i64 p.sheets, .int .i64 p.hue, .int .i64 p.spread] := (rfl)
@[simp] theorem ePr_dec (a b c d e : Int) : ePr.dec [.int .i64 a, .int .i64 b, .int .i64 c, .int .i64 d, .int .i64 e] = some ⟨a, b, c, d, e⟩ := (rfl)
@[simp] theorem pr_eta (p : Pr) : (⟨p.num, p.day, p.sheets, p.hue, p.spread⟩ : Pr) = p := (rfl)
def inR (n lo hi : Int) : Bool := decide (lo ≤ n ∧ n ≤ hi)
def isPr (p : Pr) : Bool := inR p.num 1 99 && (inR p.day 0 4000 && (inR p.sheets 1 9999 && (inR p.hue 0 100 && inR p.spread 0 20)))

def q_inRange : Con := fun args H K => match args with
  | [.c (.int .i64 n), .c (.int .i64 lo), .c (.int .i64 hi)] => K (.c (.bool (inR n lo hi))) H
  | _ => False
@[simp ↓] theorem q_inRange_eq (n lo hi : Int) (H : AHeap) (K : AV → AHeap → Prop) : q_inRange [.c (.int .i64 n), .c (.int .i64 lo), .c (.int .i64 hi)] H K = K (.c (.bool (inR n lo hi))) H := rfl
theorem inRange_s : Sound Try.prog 57 q_inRange := by
  intro args H K h
  unfold q_inRange at h
  split at h
  rotate_left
  all_goals first | exact False.elim h | skip
  refine acalls_fn impl_inRange_k soundE_nil ⟨by simp, fun hwf => ?_⟩
  simp (config := {contextual := true, implicitDefEqProofs := false, maxSteps := 40000}) [-Int.not_le, -Int.not_lt, argsF, impl_inRange_c]
  split <;> ((refine Out.plain hwf ?_ rfl ?_; (repeat first | exact Sub.refl _ | refine Sub.push hwf ?_ _ | refine Sub.set hwf ?_ (by first | exact Nat.le_refl _ | omega) _ | refine Sub.kill hwf ?_ (by first | exact Nat.le_refl _ | omega))); simp_all [inR])
theorem l1In_s : Sound Try.prog 56 q_inRange := by
  intro args H K h
  unfold q_inRange at h
  split at h
  rotate_left
  all_goals first | exact False.elim h | skip
  refine acalls_fn spec_l1In_k soundE_nil ⟨by simp, fun hwf => ?_⟩
  simp (config := {contextual := true, implicitDefEqProofs := false, maxSteps := 40000}) [-Int.not_le, -Int.not_lt, argsF, spec_l1In_c]
  split <;> ((refine Out.plain hwf ?_ rfl ?_; (repeat first | exact Sub.refl _ | refine Sub.push hwf ?_ _ | refine Sub.set hwf ?_ (by first | exact Nat.le_refl _ | omega) _ | refine Sub.kill hwf ?_ (by first | exact Nat.le_refl _ | omega))); simp_all [inR])

def q_isDay : Con := fun args H K => match args with
  | [.c (.int .i64 n)] => K (.c (.bool (inR n 0 4000))) H
  | _ => False
@[simp ↓] theorem q_isDay_eq (n : Int) (H : AHeap) (K : AV → AHeap → Prop) : q_isDay [.c (.int .i64 n)] H K = K (.c (.bool (inR n 0 4000))) H := rfl
theorem isDay_s : Sound Try.prog 64 q_isDay := by
  intro args H K h
  unfold q_isDay at h
  split at h
  rotate_left
  all_goals first | exact False.elim h | skip
  refine acalls_fn impl_isDay_k (soundE_cons inRange_s soundE_nil) ⟨by simp, fun hwf => ?_⟩
  simp (config := {contextual := true, implicitDefEqProofs := false, maxSteps := 40000}) [-Int.not_le, -Int.not_lt, argsF, impl_isDay_c]
  (refine Out.plain hwf ?_ rfl ?_; (repeat first | exact Sub.refl _ | refine Sub.push hwf ?_ _ | refine Sub.set hwf ?_ (by first | exact Nat.le_refl _ | omega) _ | refine Sub.kill hwf ?_ (by first | exact Nat.le_refl _ | omega))); exact h
theorem l2Day_s : Sound Try.prog 62 q_isDay := by
  intro args H K h
  unfold q_isDay at h
  split at h
  rotate_left
  all_goals first | exact False.elim h | skip
  refine acalls_fn spec_l2Day_k (soundE_cons l1In_s soundE_nil) ⟨by simp, fun hwf => ?_⟩
  simp (config := {contextual := true, implicitDefEqProofs := false, maxSteps := 40000}) [-Int.not_le, -Int.not_lt, argsF, spec_l2Day_c]
  (refine Out.plain hwf ?_ rfl ?_; (repeat first | exact Sub.refl _ | refine Sub.push hwf ?_ _ | refine Sub.set hwf ?_ (by first | exact Nat.le_refl _ | omega) _ | refine Sub.kill hwf ?_ (by first | exact Nat.le_refl _ | omega))); exact h

def q_isPr : Con := fun args H K => match args with
  | [.agg e] => onv (ePr.dec e) fun p => K (.c (.bool (isPr p))) H
  | _ => False
@[simp ↓] theorem q_isPr_eq (e : List AC) (H : AHeap) (K : AV → AHeap → Prop) : q_isPr [.agg e] H K = onv (ePr.dec e) fun p => K (.c (.bool (isPr p))) H := rfl
theorem isPrinting_s : Sound Try.prog 77 q_isPr := by
  intro args H K h
  unfold q_isPr at h
  split at h
  rotate_left
  all_goals first | exact False.elim h | skip
  obtain ⟨p, hp, h⟩ := onv_iff.1 h
  cases ePr.cd _ _ hp
  refine acalls_fn impl_isPrinting_k (soundE_cons inRange_s (soundE_cons isDay_s soundE_nil)) ⟨by simp, fun hwf => ?_⟩
  simp (config := {contextual := true, implicitDefEqProofs := false, maxSteps := 40000}) [-Int.not_le, -Int.not_lt, argsF, impl_isPrinting_c]
  repeat' split
  all_goals ((refine Out.plain hwf ?_ rfl ?_; (repeat first | exact Sub.refl _ | refine Sub.push hwf ?_ _ | refine Sub.set hwf ?_ (by first | exact Nat.le_refl _ | omega) _ | refine Sub.kill hwf ?_ (by first | exact Nat.le_refl _ | omega))); simp_all [isPr])
theorem l14One_s : Sound Try.prog 76 q_isPr := by
  intro args H K h
  unfold q_isPr at h
  split at h
  rotate_left
  all_goals first | exact False.elim h | skip
  obtain ⟨p, hp, h⟩ := onv_iff.1 h
  cases ePr.cd _ _ hp
  refine acalls_fn spec_l14One_k (soundE_cons l1In_s (soundE_cons l2Day_s soundE_nil)) ⟨by simp, fun hwf => ?_⟩
  simp (config := {contextual := true, implicitDefEqProofs := false, maxSteps := 40000}) [-Int.not_le, -Int.not_lt, argsF, spec_l14One_c]
  repeat' split
  all_goals ((refine Out.plain hwf ?_ rfl ?_; (repeat first | exact Sub.refl _ | refine Sub.push hwf ?_ _ | refine Sub.set hwf ?_ (by first | exact Nat.le_refl _ | omega) _ | refine Sub.kill hwf ?_ (by first | exact Nat.le_refl _ | omega))); simp_all [isPr])

end Go.Proofs.Yticknbohoolhgaa
