/- Fractions in lowest terms. -/
import Derived.Test.YtegmlgikdniohaaPrV
set_option maxRecDepth 8000
set_option linter.unusedSimpArgs false
set_option linter.unusedVariables false
namespace Go.Proofs.Ytegmlgikdniohaa
open Go Go.RowKit

theorem gcd_step {a b : Nat} : Nat.gcd a b = Nat.gcd b (a % b) := by rw [Nat.gcd_comm a b, Nat.gcd_rec b a, Nat.gcd_comm]
theorem tmod_nat (a b : Nat) : (a : Int).tmod (b : Int) = ((a % b : Nat) : Int) := (Int.ofNat_tmod a b).symm
theorem tdiv_nat (a b : Nat) : (a : Int).tdiv (b : Int) = ((a / b : Nat) : Int) := (Int.ofNat_tdiv a b).symm

/-- a fraction in lowest terms -/
def frac (a b : Int) : Int × Int := (((a.toNat / Nat.gcd a.toNat b.toNat : Nat) : Int), ((b.toNat / Nat.gcd a.toNat b.toNat : Nat) : Int))
theorem frac_0 {b : Int} (h : 0 < b) : frac 0 b = (0, 1) := by
  obtain ⟨n, rfl⟩ := Int.eq_ofNat_of_zero_le (Int.le_of_lt h)
  have : 0 < n := by omega
  simp [frac, Nat.div_self this]

def q_gcd : Con := fun args H K => match args with
  | [.c (.int .i64 a), .c (.int .i64 b)] => 0 ≤ a ∧ 0 ≤ b ∧ K (.c (.int .i64 ((Nat.gcd a.toNat b.toNat : Int)))) H
  | _ => False
@[simp ↓] theorem q_gcd_eq (a : Int) (b : Int) (H : AHeap) (K : AV → AHeap → Prop) : q_gcd [.c (.int .i64 a), .c (.int .i64 b)] H K = (0 ≤ a ∧ 0 ≤ b ∧ K (.c (.int .i64 ((Nat.gcd a.toNat b.toNat : Int)))) H) := rfl

theorem impl_gcd_s : Sound Try.prog 54 q_gcd := by
  intro args H K h
  unfold q_gcd at h
  split at h
  rotate_left
  all_goals first | exact False.elim h | skip
  rename_i a b
  have hE := soundE_nil (P := Try.prog)
  refine acalls_fn impl_gcd_k hE ⟨by simp, fun hwf => ?_⟩

  obtain ⟨ha, hb, h⟩ := h
  obtain ⟨m, rfl⟩ := Int.eq_ofNat_of_zero_le ha
  obtain ⟨n, rfl⟩ := Int.eq_ofNat_of_zero_le hb
  simp only [Int.toNat_natCast] at h
  simp (config := {contextual := true, implicitDefEqProofs := false, maxSteps := 60000}) [-Int.not_le, -Int.not_lt, argsF, impl_gcd_c]
  refine aloop_at (X := Nat × Nat) (fun x => [(0, .c (.int .i64 ((x.1 : Int)))), (1, .c (.int .i64 ((x.2 : Int))))]) (fun _ => H) (fun x => Nat.gcd x.1 x.2 = Nat.gcd m n) (fun x => x.2) hE _ (m, n) rfl (.same hwf (by simp [frOk, AV.okR, AV.ok1, AC.okR, AV.ren, AV.ren1, AC.ren, AFrame.get, pl1_old, *]; first | done | omega)) fun x hx => ?_
  obtain ⟨x, y⟩ := x
  rcases Nat.eq_zero_or_pos y with hy | hy
  · subst hy
    simp (config := {contextual := true, implicitDefEqProofs := false, maxSteps := 60000}) [-Int.not_le, -Int.not_lt, argsF, impl_gcd_l0]
    simp only [Nat.gcd_zero_right] at hx
    rw [hx]
    (refine Out.plain hwf ?_ rfl ?_; (repeat first | exact Sub.refl _ | refine Sub.push hwf ?_ _ | refine Sub.set hwf ?_ (by first | exact Nat.le_refl _ | omega | (simp only [push_n, set_n, kill_n]; omega)) _ | refine Sub.kill hwf ?_ (by first | exact Nat.le_refl _ | omega | (simp only [push_n, set_n, kill_n]; omega)))); exact h
  · have hy1 : ((y : Int) = 0) = False := eq_false (by omega)
    have hy2 : (y = 0) = False := eq_false (by omega)
    simp (config := {contextual := true, implicitDefEqProofs := false, maxSteps := 60000}) [-Int.not_le, -Int.not_lt, argsF, impl_gcd_l0, hy1, hy2, tmod_nat]
    exact ⟨(y, x % y), by rw [← hx]; exact gcd_step.symm, Nat.mod_lt _ hy, .drop hwf (by (repeat first | exact Sub.refl _ | refine Sub.push hwf ?_ _ | refine Sub.set hwf ?_ (by first | exact Nat.le_refl _ | omega | (simp only [push_n, set_n, kill_n]; omega)) _ | refine Sub.kill hwf ?_ (by first | exact Nat.le_refl _ | omega | (simp only [push_n, set_n, kill_n]; omega)))) (by simp [frOk, AV.okR, AV.ok1, AC.okR, AV.ren, AV.ren1, AC.ren, AFrame.get, pl1_old, *]; first | done | omega)⟩

def q_fr : Con := fun args H K => match args with
  | [.c (.int .i64 a), .c (.int .i64 b)] => 0 ≤ a ∧ a ≤ 9223372036854775807 ∧ 0 < b ∧ b ≤ 9223372036854775807 ∧ K (.tup [.c (.int .i64 ((frac a b).1)), .c (.int .i64 ((frac a b).2))]) H
  | _ => False
@[simp ↓] theorem q_fr_eq (a : Int) (b : Int) (H : AHeap) (K : AV → AHeap → Prop) : q_fr [.c (.int .i64 a), .c (.int .i64 b)] H K = (0 ≤ a ∧ a ≤ 9223372036854775807 ∧ 0 < b ∧ b ≤ 9223372036854775807 ∧ K (.tup [.c (.int .i64 ((frac a b).1)), .c (.int .i64 ((frac a b).2))]) H) := rfl

theorem impl_fraction_s : Sound Try.prog 37 q_fr := by
  intro args H K h
  unfold q_fr at h
  split at h
  rotate_left
  all_goals first | exact False.elim h | skip
  rename_i a b
  have hE := soundE_cons impl_gcd_s (soundE_nil (P := Try.prog))
  refine acalls_fn impl_fraction_k hE ⟨by simp, fun hwf => ?_⟩

  obtain ⟨ha, ha', hb, hb', h⟩ := h
  obtain ⟨m, rfl⟩ := Int.eq_ofNat_of_zero_le ha
  obtain ⟨n, rfl⟩ := Int.eq_ofNat_of_zero_le (Int.le_of_lt hb)
  simp only [frac, Int.toNat_natCast] at h
  have hn : 0 < n := by omega
  have hg : 0 < Nat.gcd m n := Nat.gcd_pos_of_pos_right m hn
  have hg1 : (((Nat.gcd m n : Nat) : Int) = 0) = False := eq_false (by omega)
  have hg2 : (Nat.gcd m n = 0) = False := eq_false (by omega)
  have w1 : IntKind.i64.wrap (0 - (m : Int)) = 0 - (m : Int) := wrap_id (by omega) (by omega)
  have w1' : IntKind.i64.wrap (-(m : Int)) = -(m : Int) := wrap_id (by omega) (by omega)
  have w2 : IntKind.i64.wrap ((m : Int) / ((Nat.gcd m n : Nat) : Int)) = ((m / Nat.gcd m n : Nat) : Int) := by rw [← Int.natCast_ediv]; exact wrap_nat (Int.le_trans (Int.ofNat_le.2 (Nat.div_le_self m _)) ha')
  have w3 : IntKind.i64.wrap ((n : Int) / ((Nat.gcd m n : Nat) : Int)) = ((n / Nat.gcd m n : Nat) : Int) := by rw [← Int.natCast_ediv]; exact wrap_nat (Int.le_trans (Int.ofNat_le.2 (Nat.div_le_self n _)) hb')
  have hmx : (if (m : Int) < -(m : Int) then -(m : Int) else (m : Int)) = (m : Int) := if_neg (by omega)
  have hmx2 : (if -(m : Int) < (m : Int) then (m : Int) else -(m : Int)) = (m : Int) := by split <;> omega
  have hmx3 : ((m : Int) < -(m : Int)) = False := eq_false (by omega)
  simp (config := {contextual := true, implicitDefEqProofs := false, maxSteps := 60000}) [-Int.not_le, -Int.not_lt, argsF, impl_fraction_c, w1, w1', w2, w3, hmx, hmx2, hmx3, hg1, hg2, tdiv_nat, maxI, ints]
  (refine Out.plain hwf ?_ rfl ?_; (repeat first | exact Sub.refl _ | refine Sub.push hwf ?_ _ | refine Sub.set hwf ?_ (by first | exact Nat.le_refl _ | omega | (simp only [push_n, set_n, kill_n]; omega)) _ | refine Sub.kill hwf ?_ (by first | exact Nat.le_refl _ | omega | (simp only [push_n, set_n, kill_n]; omega)))); exact h

theorem spec_l2Reduce_s : Sound Try.prog 40 q_fr := by
  intro args H K h
  unfold q_fr at h
  split at h
  rotate_left
  all_goals first | exact False.elim h | skip
  rename_i a b
  have hE := soundE_cons spec_l1Most_s (soundE_nil (P := Try.prog))
  refine acalls_fn spec_l2Reduce_k hE ⟨by simp, fun hwf => ?_⟩

  obtain ⟨ha, ha', hb, hb', h⟩ := h
  obtain ⟨m, rfl⟩ := Int.eq_ofNat_of_zero_le ha
  obtain ⟨n, rfl⟩ := Int.eq_ofNat_of_zero_le (Int.le_of_lt hb)
  simp only [frac, Int.toNat_natCast] at h
  have hn : 0 < n := by omega
  have hg : 0 < Nat.gcd m n := Nat.gcd_pos_of_pos_right m hn
  have hg1 : (((Nat.gcd m n : Nat) : Int) = 0) = False := eq_false (by omega)
  have hg2 : (Nat.gcd m n = 0) = False := eq_false (by omega)
  have w1 : IntKind.i64.wrap (0 - (m : Int)) = 0 - (m : Int) := wrap_id (by omega) (by omega)
  have w1' : IntKind.i64.wrap (-(m : Int)) = -(m : Int) := wrap_id (by omega) (by omega)
  have w2 : IntKind.i64.wrap ((m : Int) / ((Nat.gcd m n : Nat) : Int)) = ((m / Nat.gcd m n : Nat) : Int) := by rw [← Int.natCast_ediv]; exact wrap_nat (Int.le_trans (Int.ofNat_le.2 (Nat.div_le_self m _)) ha')
  have w3 : IntKind.i64.wrap ((n : Int) / ((Nat.gcd m n : Nat) : Int)) = ((n / Nat.gcd m n : Nat) : Int) := by rw [← Int.natCast_ediv]; exact wrap_nat (Int.le_trans (Int.ofNat_le.2 (Nat.div_le_self n _)) hb')
  have hmx : (if (m : Int) < -(m : Int) then -(m : Int) else (m : Int)) = (m : Int) := if_neg (by omega)
  have hmx2 : (if -(m : Int) < (m : Int) then (m : Int) else -(m : Int)) = (m : Int) := by split <;> omega
  have hmx3 : ((m : Int) < -(m : Int)) = False := eq_false (by omega)
  simp (config := {contextual := true, implicitDefEqProofs := false, maxSteps := 60000}) [-Int.not_le, -Int.not_lt, argsF, spec_l2Reduce_c, w1, w1', w2, w3, hmx, hmx2, hmx3, hg1, hg2, tdiv_nat, maxI, ints]
  refine aloop_at (X := Nat × Nat) (fun x => [(0, .c (.int .i64 ((m : Int)))), (1, .c (.int .i64 ((n : Int)))), (6, .c (.int .i64 ((x.1 : Int)))), (7, .c (.int .i64 ((x.2 : Int))))]) (fun _ => H) (fun x => Nat.gcd x.1 x.2 = Nat.gcd m n) (fun x => x.2) hE _ (m, n) rfl (.same hwf (by simp [frOk, AV.okR, AV.ok1, AC.okR, AV.ren, AV.ren1, AC.ren, AFrame.get, pl1_old, *]; first | done | omega)) fun x hx => ?_
  obtain ⟨x, y⟩ := x
  rcases Nat.eq_zero_or_pos y with hy | hy
  · subst hy
    simp only [Nat.gcd_zero_right] at hx
    subst hx
    simp (config := {contextual := true, implicitDefEqProofs := false, maxSteps := 60000}) [-Int.not_le, -Int.not_lt, argsF, spec_l2Reduce_l0, w1, w1', w2, w3, hmx, hmx2, hmx3, hg1, hg2, tdiv_nat, maxI, ints]
    (refine Out.plain hwf ?_ rfl ?_; (repeat first | exact Sub.refl _ | refine Sub.push hwf ?_ _ | refine Sub.set hwf ?_ (by first | exact Nat.le_refl _ | omega | (simp only [push_n, set_n, kill_n]; omega)) _ | refine Sub.kill hwf ?_ (by first | exact Nat.le_refl _ | omega | (simp only [push_n, set_n, kill_n]; omega)))); exact h
  · have hy1 : ((y : Int) = 0) = False := eq_false (by omega)
    have hy2 : (y = 0) = False := eq_false (by omega)
    simp (config := {contextual := true, implicitDefEqProofs := false, maxSteps := 60000}) [-Int.not_le, -Int.not_lt, argsF, spec_l2Reduce_l0, hy1, hy2, tmod_nat]
    exact ⟨(y, x % y), by rw [← hx]; exact gcd_step.symm, Nat.mod_lt _ hy, .drop hwf (by (repeat first | exact Sub.refl _ | refine Sub.push hwf ?_ _ | refine Sub.set hwf ?_ (by first | exact Nat.le_refl _ | omega | (simp only [push_n, set_n, kill_n]; omega)) _ | refine Sub.kill hwf ?_ (by first | exact Nat.le_refl _ | omega | (simp only [push_n, set_n, kill_n]; omega)))) (by simp [frOk, AV.okR, AV.ok1, AC.okR, AV.ren, AV.ren1, AC.ren, AFrame.get, pl1_old, *]; first | done | omega)⟩

end Go.Proofs.Ytegmlgikdniohaa
