/- The least change, the cheapest one: impl. -/
import Derived.Test.YtjiffkjeijfilaaCoC1
set_option maxRecDepth 8000
set_option linter.unusedSimpArgs false
set_option linter.unusedVariables false
namespace Go.Proofs.Ytjiffkjeijfilaa
open Go Go.RowKit

set_option maxHeartbeats 4000000
theorem wrapU_id {n : Int} (h1 : 0 ≤ n) (h2 : n < 18446744073709551616) : IntKind.u64.wrap n = n := by
  have h0 : (2 : Int) ^ 64 = 18446744073709551616 := by decide
  simp only [IntKind.wrap, IntKind.bits, IntKind.signed, h0, Bool.false_and]
  simp
  omega
theorem smaller_or (a b : Int) : (orI [cmpI (ones a) (ones b), cmpI a b] < 0) = (smaller a b = true) := by
  have e : orI [cmpI (ones a) (ones b), cmpI a b] = if ones a < ones b then -1 else if ones b < ones a then 1 else if a < b then -1 else if b < a then 1 else 0 := by
    simp only [orI, cmpI]
    repeat' split
    all_goals omega
  rw [e, eq_iff_iff]
  simp only [smaller, decide_eq_true_eq]
  generalize ones a = p
  generalize ones b = q
  by_cases c1 : p < q
  · simp [c1]
  · by_cases c2 : q < p
    · simp [c1, c2]; omega
    · have c3 : p = q := by omega
      subst c3
      by_cases c4 : a < b
      · simp [c4]
      · by_cases c5 : b < a
        · simp [c4, c5]
        · simp [c4, c5]
theorem better_one (x b : Int) : better ⟨1, 1, 1, 1⟩ x b = smaller x b := by
  have hs : smaller x b = true ↔ (ones x < ones b ∨ ones x = ones b ∧ x < b) := decide_eq_true_iff
  rw [Bool.eq_iff_iff]
  unfold better
  rw [Bool.or_eq_true, Bool.and_eq_true, decide_eq_true_eq, decide_eq_true_eq]
  constructor
  · rintro (h | ⟨h, h2⟩)
    · exact hs.2 (.inl h)
    · exact h2
  · intro h
    rcases hs.1 h with h1 | h1
    · exact .inl h1
    · exact .inr ⟨h1.1, h⟩
def minGo : List Int → Int → Int
  | [], m => m
  | x :: r, m => minGo r (if x < m then x else m)
def maxGo : List Int → Int → Int
  | [], m => m
  | x :: r, m => maxGo r (if x > m then x else m)
theorem c4_min (c : C4) : (c4ok c = true) = (¬ minGo [c.b, c.c, c.d] c.a < 0 ∧ ¬ 1000 < maxGo [c.b, c.c, c.d] c.a) := by
  simp only [c4ok, inR, Bool.and_eq_true, decide_eq_true_eq, minGo, maxGo, eq_iff_iff]
  constructor
  · intro h
    constructor
    · repeat' split
      all_goals omega
    · repeat' split
      all_goals omega
  · intro h
    obtain ⟨h1, h2⟩ := h
    have a1 : 0 ≤ c.a ∧ 0 ≤ c.b ∧ 0 ≤ c.c ∧ 0 ≤ c.d := by
      clear h2
      revert h1
      repeat' split
      all_goals (intro h1; omega)
    have a2 : c.a ≤ 1000 ∧ c.b ≤ 1000 ∧ c.c ≤ 1000 ∧ c.d ≤ 1000 := by
      clear h1
      revert h2
      repeat' split
      all_goals (intro h2; omega)
    omega

def q_onesC : Con := fun args H K => match args with
  | [.c (.int .u64 n)] => 0 ≤ n ∧ n ≤ 15 ∧ K (.c (.int .i64 (ones n))) H
  | _ => False
@[simp ↓] theorem q_onesC_eq (n : Int) (H : AHeap) (K : AV → AHeap → Prop) : q_onesC [.c (.int .u64 n)] H K = (0 ≤ n ∧ n ≤ 15 ∧ K (.c (.int .i64 (ones n))) H) := rfl

theorem math_bits_OnesCount64_s : Sound Try.prog 160 q_onesC := by
  intro args H K h
  unfold q_onesC at h
  split at h
  rotate_left
  all_goals first | exact False.elim h | skip
  rename_i n
  have hE := soundE_nil (P := Try.prog)
  refine acalls_fn math_bits_OnesCount64_k hE ⟨by simp, fun hwf => ?_⟩
  obtain ⟨h0, h1, h⟩ := h
  have hc : n = 0 ∨ n = 1 ∨ n = 2 ∨ n = 3 ∨ n = 4 ∨ n = 5 ∨ n = 6 ∨ n = 7 ∨ n = 8 ∨ n = 9 ∨ n = 10 ∨ n = 11 ∨ n = 12 ∨ n = 13 ∨ n = 14 ∨ n = 15 := by omega
  rcases hc with rfl | rfl | rfl | rfl | rfl | rfl | rfl | rfl | rfl | rfl | rfl | rfl | rfl | rfl | rfl | rfl
  · rw [show ones 0 = 0 by decide] at h
    simp (config := {contextual := true, implicitDefEqProofs := false, maxSteps := 2000000}) [-Int.not_le, -Int.not_lt, argsF, math_bits_OnesCount64_c]
    (refine Out.plain hwf ?_ rfl ?_; (repeat first | exact Sub.refl _ | refine Sub.push hwf ?_ _ | refine Sub.set hwf ?_ (by first | exact Nat.le_refl _ | omega | (simp only [push_n, set_n, kill_n]; omega)) _ | refine Sub.kill hwf ?_ (by first | exact Nat.le_refl _ | omega | (simp only [push_n, set_n, kill_n]; omega)))); exact h
  · rw [show ones 1 = 1 by decide] at h
    simp (config := {contextual := true, implicitDefEqProofs := false, maxSteps := 2000000}) [-Int.not_le, -Int.not_lt, argsF, math_bits_OnesCount64_c]
    (refine Out.plain hwf ?_ rfl ?_; (repeat first | exact Sub.refl _ | refine Sub.push hwf ?_ _ | refine Sub.set hwf ?_ (by first | exact Nat.le_refl _ | omega | (simp only [push_n, set_n, kill_n]; omega)) _ | refine Sub.kill hwf ?_ (by first | exact Nat.le_refl _ | omega | (simp only [push_n, set_n, kill_n]; omega)))); exact h
  · rw [show ones 2 = 1 by decide] at h
    simp (config := {contextual := true, implicitDefEqProofs := false, maxSteps := 2000000}) [-Int.not_le, -Int.not_lt, argsF, math_bits_OnesCount64_c]
    (refine Out.plain hwf ?_ rfl ?_; (repeat first | exact Sub.refl _ | refine Sub.push hwf ?_ _ | refine Sub.set hwf ?_ (by first | exact Nat.le_refl _ | omega | (simp only [push_n, set_n, kill_n]; omega)) _ | refine Sub.kill hwf ?_ (by first | exact Nat.le_refl _ | omega | (simp only [push_n, set_n, kill_n]; omega)))); exact h
  · rw [show ones 3 = 2 by decide] at h
    simp (config := {contextual := true, implicitDefEqProofs := false, maxSteps := 2000000}) [-Int.not_le, -Int.not_lt, argsF, math_bits_OnesCount64_c]
    (refine Out.plain hwf ?_ rfl ?_; (repeat first | exact Sub.refl _ | refine Sub.push hwf ?_ _ | refine Sub.set hwf ?_ (by first | exact Nat.le_refl _ | omega | (simp only [push_n, set_n, kill_n]; omega)) _ | refine Sub.kill hwf ?_ (by first | exact Nat.le_refl _ | omega | (simp only [push_n, set_n, kill_n]; omega)))); exact h
  · rw [show ones 4 = 1 by decide] at h
    simp (config := {contextual := true, implicitDefEqProofs := false, maxSteps := 2000000}) [-Int.not_le, -Int.not_lt, argsF, math_bits_OnesCount64_c]
    (refine Out.plain hwf ?_ rfl ?_; (repeat first | exact Sub.refl _ | refine Sub.push hwf ?_ _ | refine Sub.set hwf ?_ (by first | exact Nat.le_refl _ | omega | (simp only [push_n, set_n, kill_n]; omega)) _ | refine Sub.kill hwf ?_ (by first | exact Nat.le_refl _ | omega | (simp only [push_n, set_n, kill_n]; omega)))); exact h
  · rw [show ones 5 = 2 by decide] at h
    simp (config := {contextual := true, implicitDefEqProofs := false, maxSteps := 2000000}) [-Int.not_le, -Int.not_lt, argsF, math_bits_OnesCount64_c]
    (refine Out.plain hwf ?_ rfl ?_; (repeat first | exact Sub.refl _ | refine Sub.push hwf ?_ _ | refine Sub.set hwf ?_ (by first | exact Nat.le_refl _ | omega | (simp only [push_n, set_n, kill_n]; omega)) _ | refine Sub.kill hwf ?_ (by first | exact Nat.le_refl _ | omega | (simp only [push_n, set_n, kill_n]; omega)))); exact h
  · rw [show ones 6 = 2 by decide] at h
    simp (config := {contextual := true, implicitDefEqProofs := false, maxSteps := 2000000}) [-Int.not_le, -Int.not_lt, argsF, math_bits_OnesCount64_c]
    (refine Out.plain hwf ?_ rfl ?_; (repeat first | exact Sub.refl _ | refine Sub.push hwf ?_ _ | refine Sub.set hwf ?_ (by first | exact Nat.le_refl _ | omega | (simp only [push_n, set_n, kill_n]; omega)) _ | refine Sub.kill hwf ?_ (by first | exact Nat.le_refl _ | omega | (simp only [push_n, set_n, kill_n]; omega)))); exact h
  · rw [show ones 7 = 3 by decide] at h
    simp (config := {contextual := true, implicitDefEqProofs := false, maxSteps := 2000000}) [-Int.not_le, -Int.not_lt, argsF, math_bits_OnesCount64_c]
    (refine Out.plain hwf ?_ rfl ?_; (repeat first | exact Sub.refl _ | refine Sub.push hwf ?_ _ | refine Sub.set hwf ?_ (by first | exact Nat.le_refl _ | omega | (simp only [push_n, set_n, kill_n]; omega)) _ | refine Sub.kill hwf ?_ (by first | exact Nat.le_refl _ | omega | (simp only [push_n, set_n, kill_n]; omega)))); exact h
  · rw [show ones 8 = 1 by decide] at h
    simp (config := {contextual := true, implicitDefEqProofs := false, maxSteps := 2000000}) [-Int.not_le, -Int.not_lt, argsF, math_bits_OnesCount64_c]
    (refine Out.plain hwf ?_ rfl ?_; (repeat first | exact Sub.refl _ | refine Sub.push hwf ?_ _ | refine Sub.set hwf ?_ (by first | exact Nat.le_refl _ | omega | (simp only [push_n, set_n, kill_n]; omega)) _ | refine Sub.kill hwf ?_ (by first | exact Nat.le_refl _ | omega | (simp only [push_n, set_n, kill_n]; omega)))); exact h
  · rw [show ones 9 = 2 by decide] at h
    simp (config := {contextual := true, implicitDefEqProofs := false, maxSteps := 2000000}) [-Int.not_le, -Int.not_lt, argsF, math_bits_OnesCount64_c]
    (refine Out.plain hwf ?_ rfl ?_; (repeat first | exact Sub.refl _ | refine Sub.push hwf ?_ _ | refine Sub.set hwf ?_ (by first | exact Nat.le_refl _ | omega | (simp only [push_n, set_n, kill_n]; omega)) _ | refine Sub.kill hwf ?_ (by first | exact Nat.le_refl _ | omega | (simp only [push_n, set_n, kill_n]; omega)))); exact h
  · rw [show ones 10 = 2 by decide] at h
    simp (config := {contextual := true, implicitDefEqProofs := false, maxSteps := 2000000}) [-Int.not_le, -Int.not_lt, argsF, math_bits_OnesCount64_c]
    (refine Out.plain hwf ?_ rfl ?_; (repeat first | exact Sub.refl _ | refine Sub.push hwf ?_ _ | refine Sub.set hwf ?_ (by first | exact Nat.le_refl _ | omega | (simp only [push_n, set_n, kill_n]; omega)) _ | refine Sub.kill hwf ?_ (by first | exact Nat.le_refl _ | omega | (simp only [push_n, set_n, kill_n]; omega)))); exact h
  · rw [show ones 11 = 3 by decide] at h
    simp (config := {contextual := true, implicitDefEqProofs := false, maxSteps := 2000000}) [-Int.not_le, -Int.not_lt, argsF, math_bits_OnesCount64_c]
    (refine Out.plain hwf ?_ rfl ?_; (repeat first | exact Sub.refl _ | refine Sub.push hwf ?_ _ | refine Sub.set hwf ?_ (by first | exact Nat.le_refl _ | omega | (simp only [push_n, set_n, kill_n]; omega)) _ | refine Sub.kill hwf ?_ (by first | exact Nat.le_refl _ | omega | (simp only [push_n, set_n, kill_n]; omega)))); exact h
  · rw [show ones 12 = 2 by decide] at h
    simp (config := {contextual := true, implicitDefEqProofs := false, maxSteps := 2000000}) [-Int.not_le, -Int.not_lt, argsF, math_bits_OnesCount64_c]
    (refine Out.plain hwf ?_ rfl ?_; (repeat first | exact Sub.refl _ | refine Sub.push hwf ?_ _ | refine Sub.set hwf ?_ (by first | exact Nat.le_refl _ | omega | (simp only [push_n, set_n, kill_n]; omega)) _ | refine Sub.kill hwf ?_ (by first | exact Nat.le_refl _ | omega | (simp only [push_n, set_n, kill_n]; omega)))); exact h
  · rw [show ones 13 = 3 by decide] at h
    simp (config := {contextual := true, implicitDefEqProofs := false, maxSteps := 2000000}) [-Int.not_le, -Int.not_lt, argsF, math_bits_OnesCount64_c]
    (refine Out.plain hwf ?_ rfl ?_; (repeat first | exact Sub.refl _ | refine Sub.push hwf ?_ _ | refine Sub.set hwf ?_ (by first | exact Nat.le_refl _ | omega | (simp only [push_n, set_n, kill_n]; omega)) _ | refine Sub.kill hwf ?_ (by first | exact Nat.le_refl _ | omega | (simp only [push_n, set_n, kill_n]; omega)))); exact h
  · rw [show ones 14 = 3 by decide] at h
    simp (config := {contextual := true, implicitDefEqProofs := false, maxSteps := 2000000}) [-Int.not_le, -Int.not_lt, argsF, math_bits_OnesCount64_c]
    (refine Out.plain hwf ?_ rfl ?_; (repeat first | exact Sub.refl _ | refine Sub.push hwf ?_ _ | refine Sub.set hwf ?_ (by first | exact Nat.le_refl _ | omega | (simp only [push_n, set_n, kill_n]; omega)) _ | refine Sub.kill hwf ?_ (by first | exact Nat.le_refl _ | omega | (simp only [push_n, set_n, kill_n]; omega)))); exact h
  · rw [show ones 15 = 4 by decide] at h
    simp (config := {contextual := true, implicitDefEqProofs := false, maxSteps := 2000000}) [-Int.not_le, -Int.not_lt, argsF, math_bits_OnesCount64_c]
    (refine Out.plain hwf ?_ rfl ?_; (repeat first | exact Sub.refl _ | refine Sub.push hwf ?_ _ | refine Sub.set hwf ?_ (by first | exact Nat.le_refl _ | omega | (simp only [push_n, set_n, kill_n]; omega)) _ | refine Sub.kill hwf ?_ (by first | exact Nat.le_refl _ | omega | (simp only [push_n, set_n, kill_n]; omega)))); exact h

theorem math_bits_OnesCount_s : Sound Try.prog 145 q_onesC := by
  intro args H K h
  unfold q_onesC at h
  split at h
  rotate_left
  all_goals first | exact False.elim h | skip
  rename_i n
  have hE := soundE_cons math_bits_OnesCount64_s (soundE_nil (P := Try.prog))
  refine acalls_fn math_bits_OnesCount_k hE ⟨by simp, fun hwf => ?_⟩
  obtain ⟨h0, h1, h⟩ := h
  simp (config := {contextual := true, implicitDefEqProofs := false, maxSteps := 2000000}) [-Int.not_le, -Int.not_lt, argsF, math_bits_OnesCount_c, h0, h1]
  (refine Out.plain hwf ?_ rfl ?_; (repeat first | exact Sub.refl _ | refine Sub.push hwf ?_ _ | refine Sub.set hwf ?_ (by first | exact Nat.le_refl _ | omega | (simp only [push_n, set_n, kill_n]; omega)) _ | refine Sub.kill hwf ?_ (by first | exact Nat.le_refl _ | omega | (simp only [push_n, set_n, kill_n]; omega)))); exact h

def q_cmpC : Con := fun args H K => match args with
  | [.c (.int .i64 a), .c (.int .i64 b)] => 0 ≤ a ∧ a ≤ 15 ∧ 0 ≤ b ∧ b ≤ 15 ∧ K (.c (.int .i64 (orI [cmpI (ones a) (ones b), cmpI a b]))) H
  | _ => False
@[simp ↓] theorem q_cmpC_eq (a : Int) (b : Int) (H : AHeap) (K : AV → AHeap → Prop) : q_cmpC [.c (.int .i64 a), .c (.int .i64 b)] H K = (0 ≤ a ∧ a ≤ 15 ∧ 0 ≤ b ∧ b ≤ 15 ∧ K (.c (.int .i64 (orI [cmpI (ones a) (ones b), cmpI a b]))) H) := rfl

theorem impl_compareChanges_s : Sound Try.prog 95 q_cmpC := by
  intro args H K h
  unfold q_cmpC at h
  split at h
  rotate_left
  all_goals first | exact False.elim h | skip
  rename_i a b
  have hE := soundE_cons math_bits_OnesCount_s (soundE_cons cmp_Compare_int_s (soundE_cons cmp_Or_int_s (soundE_nil (P := Try.prog))))
  refine acalls_fn impl_compareChanges_k hE ⟨by simp, fun hwf => ?_⟩
  obtain ⟨h0, h1, h2, h3, h⟩ := h
  have wa : IntKind.u64.wrap a = a := wrapU_id h0 (by omega)
  have wb : IntKind.u64.wrap b = b := wrapU_id h2 (by omega)
  simp (config := {contextual := true, implicitDefEqProofs := false, maxSteps := 2000000}) [-Int.not_le, -Int.not_lt, argsF, impl_compareChanges_c, h0, h1, h2, h3, wa, wb]
  (refine Out.plain hwf ?_ rfl ?_; (repeat first | exact Sub.refl _ | refine Sub.push hwf ?_ _ | refine Sub.set hwf ?_ (by first | exact Nat.le_refl _ | omega | (simp only [push_n, set_n, kill_n]; omega)) _ | refine Sub.kill hwf ?_ (by first | exact Nat.le_refl _ | omega | (simp only [push_n, set_n, kill_n]; omega)))); exact h

def q_minF : Con := fun args H K => match args with
  | [ps_v, .c (.fn g_g [])] => eI.rd H (fun ps => g_g = 95 ∧ ¬ ps = [] ∧ (∀ a ∈ ps, 0 ≤ a ∧ a ≤ 15) ∧ ps.length ≤ 1000 ∧ K (.c (.int .i64 ((bsRes ⟨1, 1, 1, 1⟩ ps).1))) H) ps_v
  | _ => False
@[simp ↓] theorem q_minF_eq (ps_v : AV) (g_g : Nat) (H : AHeap) (K : AV → AHeap → Prop) : q_minF [ps_v, .c (.fn g_g [])] H K = (eI.rd H (fun ps => g_g = 95 ∧ ¬ ps = [] ∧ (∀ a ∈ ps, 0 ≤ a ∧ a ≤ 15) ∧ ps.length ≤ 1000 ∧ K (.c (.int .i64 ((bsRes ⟨1, 1, 1, 1⟩ ps).1))) H) ps_v) := rfl

def lcRes (ps : List Ra) (x : Cv) : Int × Cv × Bool := if areRa ps = true then if isCv x = true then if allM ps x = [] then (0, zeroC, false) else ((bsRes ⟨1, 1, 1, 1⟩ (allM ps x)).1, (pairM (mkM ps x (bsRes ⟨1, 1, 1, 1⟩ (allM ps x)).1)).1, true) else (0, zeroC, false) else (0, zeroC, false)
theorem bsRes_b (c : C4) {L : List Int} (hb : ∀ a ∈ L, 0 ≤ a ∧ a ≤ 15) : 0 ≤ (bsRes c L).1 ∧ (bsRes c L).1 ≤ 15 := by
  cases L with
  | nil => simp [bsRes]
  | cons a r =>
    simp only [bsRes]
    rcases bestGo_mem c r a with h | h
    · rw [h]; exact hb a (by simp)
    · exact hb _ (by simp [h])
theorem bsRes_2 (c : C4) {L : List Int} (h : ¬ L = []) : (bsRes c L).2 = true := by
  cases L with
  | nil => exact absurd rfl h
  | cons a r => rfl

def q_Least : Con := fun args H K => match args with
  | [ps_v, .agg x_e] => eRa.rd H (fun ps => onv (eCv.dec x_e) fun x => K (.tup [.c (.int .i64 ((lcRes ps x).1)), .agg (eCv.cells (lcRes ps x).2.1), .c (.bool ((lcRes ps x).2.2))]) H) ps_v
  | _ => False
@[simp ↓] theorem q_Least_eq (ps_v : AV) (x_e : List AC) (H : AHeap) (K : AV → AHeap → Prop) : q_Least [ps_v, .agg x_e] H K = (eRa.rd H (fun ps => onv (eCv.dec x_e) fun x => K (.tup [.c (.int .i64 ((lcRes ps x).1)), .agg (eCv.cells (lcRes ps x).2.1), .c (.bool ((lcRes ps x).2.2))]) H) ps_v) := rfl

end Go.Proofs.Ytjiffkjeijfilaa
