/- The numbers that are in each change. -/
import Derived.Test.YtjiffkjeijfilaaCoA
set_option maxRecDepth 8000
set_option linter.unusedSimpArgs false
set_option linter.unusedVariables false
namespace Go.Proofs.Ytjiffkjeijfilaa
open Go Go.RowKit

set_option maxHeartbeats 4000000
def P4 (b1 b2 b4 b8 : Bool) : Int := (if b1 = true then 1 else 0) + (if b2 = true then 2 else 0) + (if b4 = true then 4 else 0) + (if b8 = true then 8 else 0)
theorem P4_b (b1 b2 b4 b8 : Bool) : 0 ≤ P4 b1 b2 b4 b8 ∧ P4 b1 b2 b4 b8 ≤ 15 := by cases b1 <;> cases b2 <;> cases b4 <;> cases b8 <;> decide
theorem P4_of {ch : Int} (h0 : 0 ≤ ch) (h1 : ch ≤ 15) : P4 (chB ch 1) (chB ch 2) (chB ch 4) (chB ch 8) = ch := by
  have hc : ch = 0 ∨ ch = 1 ∨ ch = 2 ∨ ch = 3 ∨ ch = 4 ∨ ch = 5 ∨ ch = 6 ∨ ch = 7 ∨ ch = 8 ∨ ch = 9 ∨ ch = 10 ∨ ch = 11 ∨ ch = 12 ∨ ch = 13 ∨ ch = 14 ∨ ch = 15 := by omega
  rcases hc with rfl | rfl | rfl | rfl | rfl | rfl | rfl | rfl | rfl | rfl | rfl | rfl | rfl | rfl | rfl | rfl <;> decide
theorem and_P4 : ∀ b1 b2 b4 b8 c1 c2 c4 c8 : Bool, IntKind.i64.wrap (((P4 b1 b2 b4 b8 % 2 ^ IntKind.i64.bits).toNat &&& (P4 c1 c2 c4 c8 % 2 ^ IntKind.i64.bits).toNat : Nat) : Int) = P4 (b1 && c1) (b2 && c2) (b4 && c4) (b8 && c8) := by decide
theorem and_ch (b1 b2 b4 b8 : Bool) {ch : Int} (h0 : 0 ≤ ch) (h1 : ch ≤ 15) : IntKind.i64.wrap (((P4 b1 b2 b4 b8 % 2 ^ IntKind.i64.bits).toNat &&& (ch % 2 ^ IntKind.i64.bits).toNat : Nat) : Int) = P4 (b1 && chB ch 1) (b2 && chB ch 2) (b4 && chB ch 4) (b8 && chB ch 8) := by
  have := and_P4 b1 b2 b4 b8 (chB ch 1) (chB ch 2) (chB ch 4) (chB ch 8)
  rwa [P4_of h0 h1] at this
def ndS (l : List Int) : Int := P4 (l.all fun c => chB c 1) (l.all fun c => chB c 2) (l.all fun c => chB c 4) (l.all fun c => chB c 8)
def ndRes (ps : List Ra) (x : Cv) : Int × Bool := if areRa ps = true then if isCv x = true then if (allM ps x) = [] then (0, false) else (ndS (allM ps x), true) else (0, false) else (0, false)
/-- what the numbers from one on give -/
def ndGo (L : List Int) : List Int → Int
  | [] => 0
  | o :: r => (if (L.all fun c => chB c o) = true then o else 0) + ndGo L r
theorem ndGo_all (L : List Int) : ndGo L [1, 2, 4, 8] = ndS L := by simp only [ndGo, ndS, P4]; omega
theorem ndGo_b (L : List Int) : ∀ l : List Int, (∀ o ∈ l, 0 ≤ o ∧ o ≤ 8) → 0 ≤ ndGo L l ∧ ndGo L l ≤ 8 * (l.length : Int)
  | [], _ => by simp [ndGo]
  | o :: r, h => by
    have h1 := ndGo_b L r fun x hx => h x (by simp [hx])
    have h2 := h o (by simp)
    simp only [ndGo, List.length_cons]
    push_cast
    split <;> omega
theorem cnt_all {p : Int → Bool} {L : List Int} : ((L.countP p : Nat) = L.length) = (L.all p = true) := by
  rw [List.countP_eq_length, List.all_eq_true]

def q_Needed : Con := fun args H K => match args with
  | [ps_v, .agg x_e] => eRa.rd H (fun ps => onv (eCv.dec x_e) fun x => K (.tup [.c (.int .i64 ((ndRes ps x).1)), .c (.bool ((ndRes ps x).2))]) H) ps_v
  | _ => False
@[simp ↓] theorem q_Needed_eq (ps_v : AV) (x_e : List AC) (H : AHeap) (K : AV → AHeap → Prop) : q_Needed [ps_v, .agg x_e] H K = (eRa.rd H (fun ps => onv (eCv.dec x_e) fun x => K (.tup [.c (.int .i64 ((ndRes ps x).1)), .c (.bool ((ndRes ps x).2))]) H) ps_v) := rfl

end Go.Proofs.Ytjiffkjeijfilaa
