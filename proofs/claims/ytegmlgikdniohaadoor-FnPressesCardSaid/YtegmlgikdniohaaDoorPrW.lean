/- The printings: shares and chances. -/
import Derived.Test.YtegmlgikdniohaaDoorGcd
set_option maxRecDepth 8000
set_option linter.unusedSimpArgs false
set_option linter.unusedVariables false
namespace Go.Proofs.YtegmlgikdniohaaDoor
open Go Go.RowKit

def sumAll : List Pr → Int → Int
  | [], s => s
  | p :: r, s => sumAll r (IntKind.i64.wrap (s + p.sheets))
theorem isPr_all {ps : List Pr} (h : arePr ps = true) : ∀ p ∈ ps, isPr p = true := fun p hp => by
  obtain ⟨i, hi, rfl⟩ := List.getElem_of_mem hp
  exact arePr_at h hi
theorem isPr_b {p : Pr} (h : isPr p = true) : 1 ≤ p.num ∧ p.num ≤ 99 ∧ 0 ≤ p.day ∧ p.day ≤ 4000 ∧ 1 ≤ p.sheets ∧ p.sheets ≤ 9999 ∧ 0 ≤ p.hue ∧ p.hue ≤ 100 ∧ 0 ≤ p.spread ∧ p.spread ≤ 20 := by
  simp only [isPr, inR, Bool.and_eq_true, decide_eq_true_eq] at h; omega
theorem sumGo_all : ∀ (l : List Pr) (s : Int), (∀ p ∈ l, isPr p = true) → sumGo 4000 l s = sumAll l s
  | [], s, _ => rfl
  | p :: r, s, h => by
    have := isPr_b (h p (by simp))
    simp only [sumGo, sumAll]
    rw [if_pos (by omega), sumGo_all r _ fun q hq => h q (by simp [hq])]
theorem sumAll_b : ∀ (l : List Pr) (s : Int), (∀ p ∈ l, isPr p = true) → 0 ≤ s → s + 9999 * (l.length : Int) ≤ 1000000000000 → s + (l.length : Int) ≤ sumAll l s ∧ sumAll l s ≤ s + 9999 * (l.length : Int)
  | [], s, _, _, _ => by simp [sumAll]
  | p :: r, s, h, h0, hb => by
    have := isPr_b (h p (by simp))
    simp only [List.length_cons] at hb ⊢
    push_cast at hb ⊢
    have hw : IntKind.i64.wrap (s + p.sheets) = s + p.sheets := wrap_id (by omega) (by omega)
    have ih := sumAll_b r (s + p.sheets) (fun q hq => h q (by simp [hq])) (by omega) (by omega)
    simp only [sumAll, hw]
    omega
theorem sumAll_ok {ps : List Pr} (h : arePr ps = true) (h0 : 0 < ps.length) : 0 < sumAll ps 0 ∧ sumAll ps 0 ≤ 9223372036854775807 := by
  have h1 := arePr_len h
  have := sumAll_b ps 0 (isPr_all h) (by omega) (by omega)
  omega
def shRes (ps : List Pr) (n : Int) : Int × Int × Bool := if arePr ps = true then match ps.find? fun p => decide (p.num = n) with
  | none => (0, 0, false)
  | some p => ((frac p.sheets (sumAll ps 0)).1, (frac p.sheets (sumAll ps 0)).2, true) else (0, 0, false)

def q_sh : Con := fun args H K => match args with
  | [ps_v, .c (.int .i64 n)] => ePr.rd H (fun ps => K (.tup [.c (.int .i64 ((shRes ps n).1)), .c (.int .i64 ((shRes ps n).2.1)), .c (.bool ((shRes ps n).2.2))]) H) ps_v
  | _ => False
@[simp ↓] theorem q_sh_eq (ps_v : AV) (n : Int) (H : AHeap) (K : AV → AHeap → Prop) : q_sh [ps_v, .c (.int .i64 n)] H K = (ePr.rd H (fun ps => K (.tup [.c (.int .i64 ((shRes ps n).1)), .c (.int .i64 ((shRes ps n).2.1)), .c (.bool ((shRes ps n).2.2))]) H) ps_v) := rfl

def chGo (d t : Int) : List Pr → Int → Int
  | [], s => s
  | p :: r, s => if canBe p d t = true then chGo d t r (IntKind.i64.wrap (s + p.sheets)) else chGo d t r s
theorem chGo_b (d t : Int) : ∀ (l : List Pr) (s : Int), (∀ p ∈ l, isPr p = true) → 0 ≤ s → s + 9999 * (l.length : Int) ≤ 1000000000000 → s ≤ chGo d t l s ∧ chGo d t l s ≤ s + 9999 * (l.length : Int)
  | [], s, _, _, _ => by simp [chGo]
  | p :: r, s, h, h0, hb => by
    have := isPr_b (h p (by simp))
    simp only [List.length_cons] at hb ⊢
    push_cast at hb ⊢
    have hw : IntKind.i64.wrap (s + p.sheets) = s + p.sheets := wrap_id (by omega) (by omega)
    simp only [chGo, hw]
    split
    · have ih := chGo_b d t r (s + p.sheets) (fun q hq => h q (by simp [hq])) (by omega) (by omega)
      omega
    · have ih := chGo_b d t r s (fun q hq => h q (by simp [hq])) (by omega) (by omega)
      omega
theorem chGo_ok {ps : List Pr} (d t : Int) (h : arePr ps = true) : 0 ≤ chGo d t ps 0 ∧ chGo d t ps 0 ≤ 9223372036854775807 := by
  have h1 := arePr_len h
  have := chGo_b d t ps 0 (isPr_all h) (by omega) (by omega)
  omega
def ownGo (m : Nat) (d t : Int) : List Pr → Nat → Int → Int
  | [], _, o => o
  | p :: r, j, o => if canBe p d t = true then if (j : Int) = (m : Int) then ownGo m d t r (j + 1) p.sheets else ownGo m d t r (j + 1) o else ownGo m d t r (j + 1) o
theorem ownGo_past (m : Nat) (d t : Int) : ∀ (l : List Pr) (j : Nat) (o : Int), m < j → ownGo m d t l j o = o
  | [], _, _, _ => rfl
  | p :: r, j, o, h => by
    simp only [ownGo]
    rw [if_neg (show ¬ (j : Int) = (m : Int) by omega), ite_self, ownGo_past m d t r _ o (by omega)]
theorem ownGo_at (m : Nat) (d t : Int) : ∀ (l : List Pr) (j : Nat) (o : Int) (p : Pr), j ≤ m → l[m - j]? = some p → ownGo m d t l j o = if canBe p d t = true then p.sheets else o
  | [], _, _, _, _, h => by simp at h
  | q :: r, j, o, p, hj, h => by
    simp only [ownGo]
    rcases Nat.eq_or_lt_of_le hj with e | hlt
    · subst e
      simp at h
      subst h
      simp only [if_true, ownGo_past _ d t r _ _ (Nat.lt_succ_self j)]
    · rw [if_neg (show ¬ (j : Int) = (m : Int) by omega), ite_self]
      refine ownGo_at m d t r (j + 1) o p (by omega) ?_
      rw [show m - j = (m - (j + 1)) + 1 by omega] at h
      simpa using h
def chRes (ps : List Pr) (n d t : Int) : Int × Int × Bool := if arePr ps = true then match ps.find? fun p => decide (p.num = n) with
  | none => (0, 0, false)
  | some p => if inR d 0 4000 = true then if inR t (-20) 120 = true then if chGo d t ps 0 = 0 then (0, 0, false) else
      if canBe p d t = true then ((frac p.sheets (chGo d t ps 0)).1, (frac p.sheets (chGo d t ps 0)).2, true) else (0, 1, true) else (0, 0, false) else (0, 0, false) else (0, 0, false)

def q_ch : Con := fun args H K => match args with
  | [ps_v, .c (.int .i64 n), .c (.int .i64 d), .c (.int .i64 t)] => ePr.rd H (fun ps => K (.tup [.c (.int .i64 ((chRes ps n d t).1)), .c (.int .i64 ((chRes ps n d t).2.1)), .c (.bool ((chRes ps n d t).2.2))]) H) ps_v
  | _ => False
@[simp ↓] theorem q_ch_eq (ps_v : AV) (n : Int) (d : Int) (t : Int) (H : AHeap) (K : AV → AHeap → Prop) : q_ch [ps_v, .c (.int .i64 n), .c (.int .i64 d), .c (.int .i64 t)] H K = (ePr.rd H (fun ps => K (.tup [.c (.int .i64 ((chRes ps n d t).1)), .c (.int .i64 ((chRes ps n d t).2.1)), .c (.bool ((chRes ps n d t).2.2))]) H) ps_v) := rfl

end Go.Proofs.YtegmlgikdniohaaDoor
