/- The costs of changes: the reference. -/
import Derived.Test.YtjiffkjeijfilaaCoB
set_option maxRecDepth 8000
set_option linter.unusedSimpArgs false
set_option linter.unusedVariables false
namespace Go.Proofs.Ytjiffkjeijfilaa
open Go Go.RowKit

structure C4 where
  a : Int
  b : Int
  c : Int
  d : Int
  deriving DecidableEq, Inhabited

def eC4 : Enc C4 where
  n := 4
  cells p := [.int .i64 p.a, .int .i64 p.b, .int .i64 p.c, .int .i64 p.d]
  dec e := match e with
    | [.int .i64 x0, .int .i64 x1, .int .i64 x2, .int .i64 x3] => some ⟨x0, x1, x2, x3⟩
    | _ => none
  dc _ := rfl
  cd e p h := by
    split at h
    · cases h; rfl
    · cases h
  len _ := rfl

@[simp] theorem eC4_n : eC4.n = 4 := (rfl)
@[simp] theorem eC4_cells (p : C4) : eC4.cells p = [.int .i64 p.a, .int .i64 p.b, .int .i64 p.c, .int .i64 p.d] := (rfl)
@[simp] theorem eC4_dec (x0 : Int) (x1 : Int) (x2 : Int) (x3 : Int) : eC4.dec [.int .i64 x0, .int .i64 x1, .int .i64 x2, .int .i64 x3] = some ⟨x0, x1, x2, x3⟩ := (rfl)
@[simp] theorem eC4_eta (p : C4) : (⟨p.a, p.b, p.c, p.d⟩ : C4) = p := (rfl)

set_option maxHeartbeats 4000000
def c4L (c : C4) : List Int := [c.a, c.b, c.c, c.d]
def c4ok (c : C4) : Bool := inR c.a 0 1000 && (inR c.b 0 1000 && (inR c.c 0 1000 && inR c.d 0 1000))
theorem c4ok_b {c : C4} (h : c4ok c = true) : ∀ x ∈ c4L c, 0 ≤ x ∧ x ≤ 1000 := by
  simp only [c4ok, inR, Bool.and_eq_true, decide_eq_true_eq] at h
  simp only [c4L, List.mem_cons, List.not_mem_nil, or_false]
  rintro x (rfl | rfl | rfl | rfl) <;> omega
def costGo (ch : Int) : List Int → Nat → Int
  | [], _ => 0
  | x :: r, j => (if chB ch (2 ^ j) = true then x else 0) + costGo ch r (j + 1)
def costI (c : C4) (ch : Int) : Int := costGo ch (c4L c) 0
theorem costGo_b (ch : Int) : ∀ (l : List Int) (j : Nat), (∀ x ∈ l, 0 ≤ x ∧ x ≤ 1000) → 0 ≤ costGo ch l j ∧ costGo ch l j ≤ 1000 * (l.length : Int)
  | [], _, _ => by simp [costGo]
  | x :: r, j, h => by
    have h1 := costGo_b ch r (j + 1) fun y hy => h y (by simp [hy])
    have h2 := h x (by simp)
    simp only [costGo, List.length_cons]
    push_cast
    split <;> omega
theorem costI_b {c : C4} (h : c4ok c = true) (ch : Int) : 0 ≤ costI c ch ∧ costI c ch ≤ 4000 := costGo_b ch (c4L c) 0 (c4ok_b h)
def one4 : C4 := ⟨1, 1, 1, 1⟩
theorem one4_ok : c4ok ⟨1, 1, 1, 1⟩ = true := by decide
def ones (ch : Int) : Int := costI ⟨1, 1, 1, 1⟩ ch
def smaller (a b : Int) : Bool := decide (ones a < ones b ∨ ones a = ones b ∧ a < b)
def better (c : C4) (x b : Int) : Bool := decide (costI c x < costI c b) || (decide (costI c x = costI c b) && smaller x b)
def bestGo (c : C4) : List Int → Int → Int
  | [], b => b
  | x :: r, b => bestGo c r (if better c x b = true then x else b)
def bsRes (c : C4) : List Int → Int × Bool
  | [] => (0, false)
  | a :: r => (bestGo c r a, true)
theorem bestGo_mem (c : C4) : ∀ (l : List Int) (b : Int), bestGo c l b = b ∨ bestGo c l b ∈ l
  | [], b => .inl rfl
  | x :: r, b => by
    simp only [bestGo]
    split
    · rcases bestGo_mem c r x with h | h
      · rw [h]; exact .inr (by simp)
      · exact .inr (by simp [h])
    · rcases bestGo_mem c r b with h | h
      · exact .inl h
      · exact .inr (by simp [h])

def q_cost : Con := fun args H K => match args with
  | [.c (.int .i64 ch), .agg c_e] => onv (eC4.dec c_e) fun c => 0 ≤ ch ∧ ch ≤ 15 ∧ c4ok c = true ∧ K (.c (.int .i64 (costI c ch))) H
  | _ => False
@[simp ↓] theorem q_cost_eq (ch : Int) (c_e : List AC) (H : AHeap) (K : AV → AHeap → Prop) : q_cost [.c (.int .i64 ch), .agg c_e] H K = (onv (eC4.dec c_e) fun c => 0 ≤ ch ∧ ch ≤ 15 ∧ c4ok c = true ∧ K (.c (.int .i64 (costI c ch))) H) := rfl

theorem spec_l12Cost_s : Sound Try.prog 118 q_cost := by
  intro args H K h
  unfold q_cost at h
  split at h
  rotate_left
  all_goals first | exact False.elim h | skip
  rename_i ch c_e
  have h1 := onv_iff.1 h
  clear h
  obtain ⟨c, hd_c, h⟩ := h1
  obtain rfl := eC4.cd _ _ hd_c
  clear hd_c
  have hE := soundE_cons spec_l12Has_s (soundE_nil (P := Try.prog))
  refine acalls_fn spec_l12Cost_k hE ⟨by simp, fun hwf => ?_⟩
  obtain ⟨h0, h1, hc, h⟩ := h
  have hb := c4ok_b hc
  have hwf1 : (H.push (rowK eI 55 (c4L c))).WF := WF.push hwf (plain_map (fun _ => rfl) _) (by simp [c4L])
  have htot := costI_b hc ch
  simp (config := {contextual := true, implicitDefEqProofs := false, maxSteps := 2000000}) [-Int.not_le, -Int.not_lt, argsF, spec_l12Cost_c]
  refine aloop_list (c4L c) (fun j (s : Int) => [(0, .c (.int .i64 (ch))), (3, .c (.ptr H.n 0 0)), (5, .c (.int .i64 (s))), (6, .c (.int .i64 ((j : Int))))]) (fun j _ => H.push (rowK eI 55 (c4L c))) (fun j l s => s + costGo ch l j = costI c ch ∧ 0 ≤ s ∧ s ≤ 1000 * (j : Int)) hE _ 0 ⟨by simp [costI], by omega, by simp⟩ (.since (by simp only [push_n]; omega) hwf1 (.refl _) (by simp [frOk, AV.okR, AV.ok1, AC.okR, AV.ren, AV.ren1, AC.ren, AFrame.get, pl1_old, *]; first | done | rfl | omega)) (fun j s hlt hi => ?_) fun s hi => ?_
  · obtain ⟨hi, hs0, hs1⟩ := hi
    have hj4 : j < 4 := hlt
    have hbj := hb _ (List.getElem_mem hlt)
    have w1 : IntKind.i64.wrap ((j : Int) + 1) = (j : Int) + 1 := wrap_id (by omega) (by omega)
    have hjj : j = 0 ∨ j = 1 ∨ j = 2 ∨ j = 3 := by omega
    simp only [costGo] at hi
    have hM4 : (c4L c).length = 4 := rfl
    rcases hjj with rfl | rfl | rfl | rfl
    · have hp2 : ((2 : Int) ^ 0) = 1 := by decide
      have hg : (c4L c)[0]? = some c.a := rfl
      have hg2 : ∀ h, (c4L c)[0]'h = c.a := fun _ => rfl
      rw [hp2, hg2] at hi
      have wk : IntKind.i64.wrap 1 = 1 := by decide
      have hbk : 0 ≤ c.a ∧ c.a ≤ 1000 := hbj
      have w2 : IntKind.i64.wrap (s + c.a) = s + c.a := wrap_id (by omega) (by omega)
      by_cases hp : chB ch 1 = true
      · rw [if_pos hp] at hi
        simp (config := {contextual := true, implicitDefEqProofs := false, maxSteps := 2000000}) [-Int.not_le, -Int.not_lt, argsF, spec_l12Cost_l0, hM4, rowK, h0, h1, hp, wk, w2, hg]
        exact ⟨s + c.a, ⟨by omega, by omega, by omega⟩, .since (by simp only [push_n]; omega) hwf1 (by have hwf := hwf1; (repeat first | exact Sub.refl _ | refine Sub.push hwf ?_ _ | refine Sub.set hwf ?_ (by first | exact Nat.le_refl _ | omega | (simp only [push_n, set_n, kill_n]; omega)) _ | refine Sub.kill hwf ?_ (by first | exact Nat.le_refl _ | omega | (simp only [push_n, set_n, kill_n]; omega)))) (by simp [frOk, AV.okR, AV.ok1, AC.okR, AV.ren, AV.ren1, AC.ren, AFrame.get, pl1_old, *]; first | done | rfl | omega)⟩
      · rw [if_neg hp] at hi
        simp (config := {contextual := true, implicitDefEqProofs := false, maxSteps := 2000000}) [-Int.not_le, -Int.not_lt, argsF, spec_l12Cost_l0, hM4, rowK, h0, h1, hp, wk, w2, hg]
        exact ⟨s, ⟨by omega, by omega, by omega⟩, .since (by simp only [push_n]; omega) hwf1 (by have hwf := hwf1; (repeat first | exact Sub.refl _ | refine Sub.push hwf ?_ _ | refine Sub.set hwf ?_ (by first | exact Nat.le_refl _ | omega | (simp only [push_n, set_n, kill_n]; omega)) _ | refine Sub.kill hwf ?_ (by first | exact Nat.le_refl _ | omega | (simp only [push_n, set_n, kill_n]; omega)))) (by simp [frOk, AV.okR, AV.ok1, AC.okR, AV.ren, AV.ren1, AC.ren, AFrame.get, pl1_old, *]; first | done | rfl | omega)⟩
    · have hp2 : ((2 : Int) ^ 1) = 2 := by decide
      have hg : (c4L c)[1]? = some c.b := rfl
      have hg2 : ∀ h, (c4L c)[1]'h = c.b := fun _ => rfl
      rw [hp2, hg2] at hi
      have wk : IntKind.i64.wrap 2 = 2 := by decide
      have hbk : 0 ≤ c.b ∧ c.b ≤ 1000 := hbj
      have w2 : IntKind.i64.wrap (s + c.b) = s + c.b := wrap_id (by omega) (by omega)
      by_cases hp : chB ch 2 = true
      · rw [if_pos hp] at hi
        simp (config := {contextual := true, implicitDefEqProofs := false, maxSteps := 2000000}) [-Int.not_le, -Int.not_lt, argsF, spec_l12Cost_l0, hM4, rowK, h0, h1, hp, wk, w2, hg]
        exact ⟨s + c.b, ⟨by omega, by omega, by omega⟩, .since (by simp only [push_n]; omega) hwf1 (by have hwf := hwf1; (repeat first | exact Sub.refl _ | refine Sub.push hwf ?_ _ | refine Sub.set hwf ?_ (by first | exact Nat.le_refl _ | omega | (simp only [push_n, set_n, kill_n]; omega)) _ | refine Sub.kill hwf ?_ (by first | exact Nat.le_refl _ | omega | (simp only [push_n, set_n, kill_n]; omega)))) (by simp [frOk, AV.okR, AV.ok1, AC.okR, AV.ren, AV.ren1, AC.ren, AFrame.get, pl1_old, *]; first | done | rfl | omega)⟩
      · rw [if_neg hp] at hi
        simp (config := {contextual := true, implicitDefEqProofs := false, maxSteps := 2000000}) [-Int.not_le, -Int.not_lt, argsF, spec_l12Cost_l0, hM4, rowK, h0, h1, hp, wk, w2, hg]
        exact ⟨s, ⟨by omega, by omega, by omega⟩, .since (by simp only [push_n]; omega) hwf1 (by have hwf := hwf1; (repeat first | exact Sub.refl _ | refine Sub.push hwf ?_ _ | refine Sub.set hwf ?_ (by first | exact Nat.le_refl _ | omega | (simp only [push_n, set_n, kill_n]; omega)) _ | refine Sub.kill hwf ?_ (by first | exact Nat.le_refl _ | omega | (simp only [push_n, set_n, kill_n]; omega)))) (by simp [frOk, AV.okR, AV.ok1, AC.okR, AV.ren, AV.ren1, AC.ren, AFrame.get, pl1_old, *]; first | done | rfl | omega)⟩
    · have hp2 : ((2 : Int) ^ 2) = 4 := by decide
      have hg : (c4L c)[2]? = some c.c := rfl
      have hg2 : ∀ h, (c4L c)[2]'h = c.c := fun _ => rfl
      rw [hp2, hg2] at hi
      have wk : IntKind.i64.wrap 3 = 3 := by decide
      have hbk : 0 ≤ c.c ∧ c.c ≤ 1000 := hbj
      have w2 : IntKind.i64.wrap (s + c.c) = s + c.c := wrap_id (by omega) (by omega)
      by_cases hp : chB ch 4 = true
      · rw [if_pos hp] at hi
        simp (config := {contextual := true, implicitDefEqProofs := false, maxSteps := 2000000}) [-Int.not_le, -Int.not_lt, argsF, spec_l12Cost_l0, hM4, rowK, h0, h1, hp, wk, w2, hg]
        exact ⟨s + c.c, ⟨by omega, by omega, by omega⟩, .since (by simp only [push_n]; omega) hwf1 (by have hwf := hwf1; (repeat first | exact Sub.refl _ | refine Sub.push hwf ?_ _ | refine Sub.set hwf ?_ (by first | exact Nat.le_refl _ | omega | (simp only [push_n, set_n, kill_n]; omega)) _ | refine Sub.kill hwf ?_ (by first | exact Nat.le_refl _ | omega | (simp only [push_n, set_n, kill_n]; omega)))) (by simp [frOk, AV.okR, AV.ok1, AC.okR, AV.ren, AV.ren1, AC.ren, AFrame.get, pl1_old, *]; first | done | rfl | omega)⟩
      · rw [if_neg hp] at hi
        simp (config := {contextual := true, implicitDefEqProofs := false, maxSteps := 2000000}) [-Int.not_le, -Int.not_lt, argsF, spec_l12Cost_l0, hM4, rowK, h0, h1, hp, wk, w2, hg]
        exact ⟨s, ⟨by omega, by omega, by omega⟩, .since (by simp only [push_n]; omega) hwf1 (by have hwf := hwf1; (repeat first | exact Sub.refl _ | refine Sub.push hwf ?_ _ | refine Sub.set hwf ?_ (by first | exact Nat.le_refl _ | omega | (simp only [push_n, set_n, kill_n]; omega)) _ | refine Sub.kill hwf ?_ (by first | exact Nat.le_refl _ | omega | (simp only [push_n, set_n, kill_n]; omega)))) (by simp [frOk, AV.okR, AV.ok1, AC.okR, AV.ren, AV.ren1, AC.ren, AFrame.get, pl1_old, *]; first | done | rfl | omega)⟩
    · have hp2 : ((2 : Int) ^ 3) = 8 := by decide
      have hg : (c4L c)[3]? = some c.d := rfl
      have hg2 : ∀ h, (c4L c)[3]'h = c.d := fun _ => rfl
      rw [hp2, hg2] at hi
      have wk : IntKind.i64.wrap 4 = 4 := by decide
      have hbk : 0 ≤ c.d ∧ c.d ≤ 1000 := hbj
      have w2 : IntKind.i64.wrap (s + c.d) = s + c.d := wrap_id (by omega) (by omega)
      by_cases hp : chB ch 8 = true
      · rw [if_pos hp] at hi
        simp (config := {contextual := true, implicitDefEqProofs := false, maxSteps := 2000000}) [-Int.not_le, -Int.not_lt, argsF, spec_l12Cost_l0, hM4, rowK, h0, h1, hp, wk, w2, hg]
        exact ⟨s + c.d, ⟨by omega, by omega, by omega⟩, .since (by simp only [push_n]; omega) hwf1 (by have hwf := hwf1; (repeat first | exact Sub.refl _ | refine Sub.push hwf ?_ _ | refine Sub.set hwf ?_ (by first | exact Nat.le_refl _ | omega | (simp only [push_n, set_n, kill_n]; omega)) _ | refine Sub.kill hwf ?_ (by first | exact Nat.le_refl _ | omega | (simp only [push_n, set_n, kill_n]; omega)))) (by simp [frOk, AV.okR, AV.ok1, AC.okR, AV.ren, AV.ren1, AC.ren, AFrame.get, pl1_old, *]; first | done | rfl | omega)⟩
      · rw [if_neg hp] at hi
        simp (config := {contextual := true, implicitDefEqProofs := false, maxSteps := 2000000}) [-Int.not_le, -Int.not_lt, argsF, spec_l12Cost_l0, hM4, rowK, h0, h1, hp, wk, w2, hg]
        exact ⟨s, ⟨by omega, by omega, by omega⟩, .since (by simp only [push_n]; omega) hwf1 (by have hwf := hwf1; (repeat first | exact Sub.refl _ | refine Sub.push hwf ?_ _ | refine Sub.set hwf ?_ (by first | exact Nat.le_refl _ | omega | (simp only [push_n, set_n, kill_n]; omega)) _ | refine Sub.kill hwf ?_ (by first | exact Nat.le_refl _ | omega | (simp only [push_n, set_n, kill_n]; omega)))) (by simp [frOk, AV.okR, AV.ok1, AC.okR, AV.ren, AV.ren1, AC.ren, AFrame.get, pl1_old, *]; first | done | rfl | omega)⟩
  · obtain ⟨hi, hs0, hs1⟩ := hi
    simp only [costGo, Int.add_zero] at hi
    have h4 : (c4L c).length = 4 := rfl
    simp (config := {contextual := true, implicitDefEqProofs := false, maxSteps := 2000000}) [-Int.not_le, -Int.not_lt, argsF, spec_l12Cost_l0, h4]
    rw [← hi] at h
    (refine Out.plain hwf ?_ rfl ?_; (repeat first | exact Sub.refl _ | refine Sub.push hwf ?_ _ | refine Sub.set hwf ?_ (by first | exact Nat.le_refl _ | omega | (simp only [push_n, set_n, kill_n]; omega)) _ | refine Sub.kill hwf ?_ (by first | exact Nat.le_refl _ | omega | (simp only [push_n, set_n, kill_n]; omega)))); exact h

def q_smaller : Con := fun args H K => match args with
  | [.c (.int .i64 a), .c (.int .i64 b)] => 0 ≤ a ∧ a ≤ 15 ∧ 0 ≤ b ∧ b ≤ 15 ∧ K (.c (.bool (smaller a b))) H
  | _ => False
@[simp ↓] theorem q_smaller_eq (a : Int) (b : Int) (H : AHeap) (K : AV → AHeap → Prop) : q_smaller [.c (.int .i64 a), .c (.int .i64 b)] H K = (0 ≤ a ∧ a ≤ 15 ∧ 0 ≤ b ∧ b ≤ 15 ∧ K (.c (.bool (smaller a b))) H) := rfl

theorem spec_l12Smaller_s : Sound Try.prog 148 q_smaller := by
  intro args H K h
  unfold q_smaller at h
  split at h
  rotate_left
  all_goals first | exact False.elim h | skip
  rename_i a b
  have hE := soundE_cons spec_l12Cost_s (soundE_nil (P := Try.prog))
  refine acalls_fn spec_l12Smaller_k hE ⟨by simp, fun hwf => ?_⟩
  obtain ⟨h0, h1, h2, h3, h⟩ := h
  have e : smaller a b = decide (ones a < ones b ∨ ones a = ones b ∧ a < b) := rfl
  rw [e] at h
  unfold ones at h
  by_cases c1 : costI ⟨1, 1, 1, 1⟩ a < costI ⟨1, 1, 1, 1⟩ b
  · rw [decide_eq_true (.inl c1)] at h
    simp (config := {contextual := true, implicitDefEqProofs := false, maxSteps := 2000000}) [-Int.not_le, -Int.not_lt, argsF, spec_l12Smaller_c, h0, h1, h2, h3, one4_ok, c1]
    (refine Out.plain hwf ?_ rfl ?_; (repeat first | exact Sub.refl _ | refine Sub.push hwf ?_ _ | refine Sub.set hwf ?_ (by first | exact Nat.le_refl _ | omega | (simp only [push_n, set_n, kill_n]; omega)) _ | refine Sub.kill hwf ?_ (by first | exact Nat.le_refl _ | omega | (simp only [push_n, set_n, kill_n]; omega)))); exact h
  · by_cases c2 : costI ⟨1, 1, 1, 1⟩ a = costI ⟨1, 1, 1, 1⟩ b
    · have e2 : decide (costI ⟨1, 1, 1, 1⟩ a < costI ⟨1, 1, 1, 1⟩ b ∨ costI ⟨1, 1, 1, 1⟩ a = costI ⟨1, 1, 1, 1⟩ b ∧ a < b) = decide (a < b) := by rw [decide_eq_decide]; omega
      rw [e2] at h
      simp (config := {contextual := true, implicitDefEqProofs := false, maxSteps := 2000000}) [-Int.not_le, -Int.not_lt, argsF, spec_l12Smaller_c, h0, h1, h2, h3, one4_ok, c1, c2]
      (refine Out.plain hwf ?_ rfl ?_; (repeat first | exact Sub.refl _ | refine Sub.push hwf ?_ _ | refine Sub.set hwf ?_ (by first | exact Nat.le_refl _ | omega | (simp only [push_n, set_n, kill_n]; omega)) _ | refine Sub.kill hwf ?_ (by first | exact Nat.le_refl _ | omega | (simp only [push_n, set_n, kill_n]; omega)))); exact h
    · have e2 : decide (costI ⟨1, 1, 1, 1⟩ a < costI ⟨1, 1, 1, 1⟩ b ∨ costI ⟨1, 1, 1, 1⟩ a = costI ⟨1, 1, 1, 1⟩ b ∧ a < b) = false := decide_eq_false (by omega)
      rw [e2] at h
      simp (config := {contextual := true, implicitDefEqProofs := false, maxSteps := 2000000}) [-Int.not_le, -Int.not_lt, argsF, spec_l12Smaller_c, h0, h1, h2, h3, one4_ok, c1, c2]
      (refine Out.plain hwf ?_ rfl ?_; (repeat first | exact Sub.refl _ | refine Sub.push hwf ?_ _ | refine Sub.set hwf ?_ (by first | exact Nat.le_refl _ | omega | (simp only [push_n, set_n, kill_n]; omega)) _ | refine Sub.kill hwf ?_ (by first | exact Nat.le_refl _ | omega | (simp only [push_n, set_n, kill_n]; omega)))); exact h

def q_best : Con := fun args H K => match args with
  | [ps_v, .agg x_e, .agg c_e] => eRa.rd H (fun ps => onv (eCv.dec x_e) fun x => onv (eC4.dec c_e) fun c => areRa ps = true ∧ c4ok c = true ∧ K (.tup [.c (.int .i64 ((bsRes c (allM ps x)).1)), .c (.bool ((bsRes c (allM ps x)).2))]) H) ps_v
  | _ => False
@[simp ↓] theorem q_best_eq (ps_v : AV) (x_e : List AC) (c_e : List AC) (H : AHeap) (K : AV → AHeap → Prop) : q_best [ps_v, .agg x_e, .agg c_e] H K = (eRa.rd H (fun ps => onv (eCv.dec x_e) fun x => onv (eC4.dec c_e) fun c => areRa ps = true ∧ c4ok c = true ∧ K (.tup [.c (.int .i64 ((bsRes c (allM ps x)).1)), .c (.bool ((bsRes c (allM ps x)).2))]) H) ps_v) := rfl

theorem spec_l12Best_s : Sound Try.prog 97 q_best := by
  intro args H K h
  unfold q_best at h
  split at h
  rotate_left
  all_goals first | exact False.elim h | skip
  rename_i ps_v x_e c_e
  have h1 := Enc.rd_at h
  clear h
  obtain ⟨b_ps, i_ps, k_ps, ps, rfl, hat_ps, h⟩ := h1
  have h1 := onv_iff.1 h
  clear h
  obtain ⟨x, hd_x, h⟩ := h1
  obtain rfl := eCv.cd _ _ hd_x
  clear hd_x
  have h1 := onv_iff.1 h
  clear h
  obtain ⟨c, hd_c, h⟩ := h1
  obtain rfl := eC4.cd _ _ hd_c
  clear hd_c
  have hE := soundE_cons spec_l12All_s (soundE_cons spec_l12Cost_s (soundE_cons spec_l12Smaller_s (soundE_nil (P := Try.prog))))
  refine acalls_fn spec_l12Best_k hE ⟨by simp, fun hwf => ?_⟩
  have hb_ps : b_ps < H.n := (hwf b_ps k_ps hat_ps.blk).1
  have hne_ps : (b_ps = H.n) = False := eq_false (by omega)
  have hne1_ps : ∀ i, (b_ps = H.n + i) = False := fun i => eq_false (by omega)
  have hne2_ps : (b_ps = H.n + 1 + 1) = False ∧ (b_ps = H.n + 1 + 1 + 1) = False ∧ (b_ps = H.n + 1 + 1 + 1 + 1) = False ∧ (b_ps = H.n + 1 + 1 + 1 + 1 + 1) = False ∧ (b_ps = H.n + 1 + 1 + 1 + 1 + 1 + 1) = False ∧ (b_ps = H.n + 1 + 1 + 1 + 1 + 1 + 1 + 1) = False ∧ (b_ps = H.n + 1 + 1 + 1 + 1 + 1 + 1 + 1 + 1) = False ∧ (b_ps = H.n + 1 + 1 + 1 + 1 + 1 + 1 + 1 + 1 + 1) = False ∧ (b_ps = H.n + 1 + 1 + 1 + 1 + 1 + 1 + 1 + 1 + 1 + 1) = False ∧ (b_ps = H.n + 1 + 1 + 1 + 1 + 1 + 1 + 1 + 1 + 1 + 1 + 1) = False ∧ (b_ps = H.n + 1 + 1 + 1 + 1 + 1 + 1 + 1 + 1 + 1 + 1 + 1 + 1) = False := ⟨eq_false (by omega), eq_false (by omega), eq_false (by omega), eq_false (by omega), eq_false (by omega), eq_false (by omega), eq_false (by omega), eq_false (by omega), eq_false (by omega), eq_false (by omega), eq_false (by omega)⟩
  have hmx_ps : ps.length ≤ 9223372036854775807 := by have h1 := (hwf b_ps k_ps hat_ps.blk).2.2; have h2 := hat_ps.len; omega
  obtain ⟨hv, hc, h⟩ := h
  have hwf2 : (((H.push (boxC x)).push (rowK eI 55 (c4L c))).push (rowK eI 3 (allM ps x))).WF := row_wf (WF.push (boxC_wf hwf x) (plain_map (fun _ => rfl) _) (by simp [c4L])) _ (by have := allM_len ps x; omega)
  have hb := allM_b (ps := ps) (x := x)
  have hal := allM_len ps x
  simp (config := {contextual := true, implicitDefEqProofs := false, maxSteps := 2000000}) [-Int.not_le, -Int.not_lt, argsF, spec_l12Best_c, hat_ps.blk, hat_ps.esz, hat_ps.len, hat_ps.els, hne_ps, hne1_ps, hne2_ps.1, hne2_ps.2.1, hne2_ps.2.2.1, hne2_ps.2.2.2.1, hne2_ps.2.2.2.2.1, hne2_ps.2.2.2.2.2.1, hne2_ps.2.2.2.2.2.2.1, hne2_ps.2.2.2.2.2.2.2.1, hne2_ps.2.2.2.2.2.2.2.2.1, hne2_ps.2.2.2.2.2.2.2.2.2.1, hne2_ps.2.2.2.2.2.2.2.2.2.2, hv]
  generalize allM ps x = L at h hb hal hwf2 ⊢
  by_cases hL : L = []
  · subst hL
    simp (config := {contextual := true, implicitDefEqProofs := false, maxSteps := 2000000}) [-Int.not_le, -Int.not_lt, argsF, spec_l12Best_c, hat_ps.blk, hat_ps.esz, hat_ps.len, hat_ps.els, hne_ps, hne1_ps, hne2_ps.1, hne2_ps.2.1, hne2_ps.2.2.1, hne2_ps.2.2.2.1, hne2_ps.2.2.2.2.1, hne2_ps.2.2.2.2.2.1, hne2_ps.2.2.2.2.2.2.1, hne2_ps.2.2.2.2.2.2.2.1, hne2_ps.2.2.2.2.2.2.2.2.1, hne2_ps.2.2.2.2.2.2.2.2.2.1, hne2_ps.2.2.2.2.2.2.2.2.2.2, hv]
    (refine Out.plain hwf ?_ rfl ?_; (repeat first | exact Sub.refl _ | refine Sub.push hwf ?_ _ | refine Sub.set hwf ?_ (by first | exact Nat.le_refl _ | omega | (simp only [push_n, set_n, kill_n]; omega)) _ | refine Sub.kill hwf ?_ (by first | exact Nat.le_refl _ | omega | (simp only [push_n, set_n, kill_n]; omega)))); exact h
  obtain ⟨a, r, rfl⟩ := List.exists_cons_of_ne_nil hL
  have hba := hb a (by simp)
  have hl0 : ¬ (a :: r).length = 0 := by simp
  simp (config := {contextual := true, implicitDefEqProofs := false, maxSteps := 2000000}) [-Int.not_le, -Int.not_lt, argsF, spec_l12Best_c, hat_ps.blk, hat_ps.esz, hat_ps.len, hat_ps.els, hne_ps, hne1_ps, hne2_ps.1, hne2_ps.2.1, hne2_ps.2.2.1, hne2_ps.2.2.2.1, hne2_ps.2.2.2.2.1, hne2_ps.2.2.2.2.2.1, hne2_ps.2.2.2.2.2.2.1, hne2_ps.2.2.2.2.2.2.2.1, hne2_ps.2.2.2.2.2.2.2.2.1, hne2_ps.2.2.2.2.2.2.2.2.2.1, hne2_ps.2.2.2.2.2.2.2.2.2.2, hv, hl0, rowK]
  refine aloop_list r (fun j (b : Int) => [(5, .c (.ptr (H.n + 1) 0 0)), (8, .c (.sl (H.n + 1 + 1) (0) (r.length + 1))), (9, .c (.int .i64 (b))), (10, .c (.int .i64 ((j : Int) + 1)))]) (fun j _ => ((H.push (boxC x)).push (rowK eI 55 (c4L c))).push (rowK eI 3 (a :: r))) (fun j l b => bestGo c l b = bestGo c r a ∧ 0 ≤ b ∧ b ≤ 15) hE _ a ⟨rfl, hba⟩ (.since (by simp only [push_n]; omega) hwf2 (.refl _) (by simp [frOk, AV.okR, AV.ok1, AC.okR, AV.ren, AV.ren1, AC.ren, AFrame.get, pl1_old, *]; first | done | rfl | omega)) (fun j b hlt hi => ?_) fun b hi => ?_
  · obtain ⟨hi, hb0, hb1⟩ := hi
    simp only [List.length_cons] at hal
    have hbj := hb r[j] (by simp)
    have w1 : IntKind.i64.wrap ((j : Int) + 1 + 1) = (j : Int) + 1 + 1 := wrap_id (by omega) (by omega)
    have hj1 : (j : Int) + 1 < (r.length : Int) + 1 := by omega
    have hj2 : (0 : Int) ≤ (j : Int) + 1 := by omega
    have hj3 : ((j : Int) + 1).toNat = j + 1 := by omega
    simp only [bestGo] at hi
    by_cases hbt : better c r[j] b = true
    · rw [if_pos hbt] at hi
      simp only [better, Bool.or_eq_true, Bool.and_eq_true, decide_eq_true_eq] at hbt
      by_cases c1 : costI c r[j] < costI c b
      · simp (config := {contextual := true, implicitDefEqProofs := false, maxSteps := 2000000}) [-Int.not_le, -Int.not_lt, argsF, spec_l12Best_l0, hj1, hj2, hj3, w1, hlt, rowK, c4L, hbj.1, hbj.2, hb0, hb1, hc, c1]
        exact ⟨_, ⟨hi, hbj⟩, .since (by simp only [push_n]; omega) hwf2 (.refl _) (by simp [frOk, AV.okR, AV.ok1, AC.okR, AV.ren, AV.ren1, AC.ren, AFrame.get, pl1_old, *]; first | done | rfl | omega)⟩
      · obtain ⟨c2, c3⟩ := hbt.resolve_left c1
        simp (config := {contextual := true, implicitDefEqProofs := false, maxSteps := 2000000}) [-Int.not_le, -Int.not_lt, argsF, spec_l12Best_l0, hj1, hj2, hj3, w1, hlt, rowK, c4L, hbj.1, hbj.2, hb0, hb1, hc, c1, c2, c3]
        exact ⟨_, ⟨hi, hbj⟩, .since (by simp only [push_n]; omega) hwf2 (.refl _) (by simp [frOk, AV.okR, AV.ok1, AC.okR, AV.ren, AV.ren1, AC.ren, AFrame.get, pl1_old, *]; first | done | rfl | omega)⟩
    · rw [if_neg hbt] at hi
      simp only [better, Bool.or_eq_true, Bool.and_eq_true, decide_eq_true_eq, not_or, not_and, Bool.not_eq_true] at hbt
      obtain ⟨c1, c3⟩ := hbt
      by_cases c2 : costI c r[j] = costI c b
      · have c4 := c3 c2
        simp (config := {contextual := true, implicitDefEqProofs := false, maxSteps := 2000000}) [-Int.not_le, -Int.not_lt, argsF, spec_l12Best_l0, hj1, hj2, hj3, w1, hlt, rowK, c4L, hbj.1, hbj.2, hb0, hb1, hc, c1, c2, c4]
        exact ⟨_, ⟨hi, hb0, hb1⟩, .since (by simp only [push_n]; omega) hwf2 (.refl _) (by simp [frOk, AV.okR, AV.ok1, AC.okR, AV.ren, AV.ren1, AC.ren, AFrame.get, pl1_old, *]; first | done | rfl | omega)⟩
      · simp (config := {contextual := true, implicitDefEqProofs := false, maxSteps := 2000000}) [-Int.not_le, -Int.not_lt, argsF, spec_l12Best_l0, hj1, hj2, hj3, w1, hlt, rowK, c4L, hbj.1, hbj.2, hb0, hb1, hc, c1, c2]
        exact ⟨_, ⟨hi, hb0, hb1⟩, .since (by simp only [push_n]; omega) hwf2 (.refl _) (by simp [frOk, AV.okR, AV.ok1, AC.okR, AV.ren, AV.ren1, AC.ren, AFrame.get, pl1_old, *]; first | done | rfl | omega)⟩
  · obtain ⟨hi, hb0, hb1⟩ := hi
    simp only [bestGo] at hi
    have hj1 : ¬ (r.length : Int) + 1 < (r.length : Int) + 1 := by omega
    simp (config := {contextual := true, implicitDefEqProofs := false, maxSteps := 2000000}) [-Int.not_le, -Int.not_lt, argsF, spec_l12Best_l0, hj1]
    simp only [bsRes, ← hi] at h
    (refine Out.plain hwf ?_ rfl ?_; (repeat first | exact Sub.refl _ | refine Sub.push hwf ?_ _ | refine Sub.set hwf ?_ (by first | exact Nat.le_refl _ | omega | (simp only [push_n, set_n, kill_n]; omega)) _ | refine Sub.kill hwf ?_ (by first | exact Nat.le_refl _ | omega | (simp only [push_n, set_n, kill_n]; omega)))); exact h

end Go.Proofs.Ytjiffkjeijfilaa
