/- Fractions in lowest terms. -/
import Derived.Test.YtegmlgikdniohaaDoorPrV
set_option maxRecDepth 8000
set_option linter.unusedSimpArgs false
set_option linter.unusedVariables false
namespace Go.Proofs.YtegmlgikdniohaaDoor
open Go Go.RowKit

theorem gcd_step {a b : Nat} : Nat.gcd a b = Nat.gcd b (a % b) := by rw [Nat.gcd_comm a b, Nat.gcd_rec b a, Nat.gcd_comm]
theorem tmod_nat (a b : Nat) : (a : Int).tmod (b : Int) = ((a % b : Nat) : Int) := (Int.ofNat_tmod a b).symm
theorem tdiv_nat (a b : Nat) : (a : Int).tdiv (b : Int) = ((a / b : Nat) : Int) := (Int.ofNat_tdiv a b).symm

/-- a fraction in lowest terms -/
def frac (a b : Int) : Int × Int := (((a.toNat / Nat.gcd a.toNat b.toNat : Nat) : Int), ((b.toNat / Nat.gcd a.toNat b.toNat : Nat) : Int))
theorem frac_0 {b : Int} (h : 0 < b) : frac 0 b = (0, 1) := by
  obtain ⟨n, rfl⟩ := Int.eq_ofNat_of_zero_le (Int.le_of_lt h)
  have : 0 < n := by omega
  simp [frac, Nat.div_self this]

def q_gcd : Con := fun args H K => match args with
  | [.c (.int .i64 a), .c (.int .i64 b)] => 0 ≤ a ∧ 0 ≤ b ∧ K (.c (.int .i64 ((Nat.gcd a.toNat b.toNat : Int)))) H
  | _ => False
@[simp ↓] theorem q_gcd_eq (a : Int) (b : Int) (H : AHeap) (K : AV → AHeap → Prop) : q_gcd [.c (.int .i64 a), .c (.int .i64 b)] H K = (0 ≤ a ∧ 0 ≤ b ∧ K (.c (.int .i64 ((Nat.gcd a.toNat b.toNat : Int)))) H) := rfl

def q_fr : Con := fun args H K => match args with
  | [.c (.int .i64 a), .c (.int .i64 b)] => 0 ≤ a ∧ a ≤ 9223372036854775807 ∧ 0 < b ∧ b ≤ 9223372036854775807 ∧ K (.tup [.c (.int .i64 ((frac a b).1)), .c (.int .i64 ((frac a b).2))]) H
  | _ => False
@[simp ↓] theorem q_fr_eq (a : Int) (b : Int) (H : AHeap) (K : AV → AHeap → Prop) : q_fr [.c (.int .i64 a), .c (.int .i64 b)] H K = (0 ≤ a ∧ a ≤ 9223372036854775807 ∧ 0 < b ∧ b ≤ 9223372036854775807 ∧ K (.tup [.c (.int .i64 ((frac a b).1)), .c (.int .i64 ((frac a b).2))]) H) := rfl

end Go.Proofs.YtegmlgikdniohaaDoor
