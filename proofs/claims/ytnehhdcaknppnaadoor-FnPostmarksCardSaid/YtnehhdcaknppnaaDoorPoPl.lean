/- The postmarks: plain facts on lists. -/
import Derived.Test.YtnehhdcaknppnaaDoorPoT
set_option maxRecDepth 8000
set_option linter.unusedSimpArgs false
set_option linter.unusedVariables false
namespace Go.Proofs.YtnehhdcaknppnaaDoor
open Go Go.RowKit

set_option maxHeartbeats 2000000
theorem poGo_id {p q : Po} (h : p.id = q.id) : ∀ l : List Po, poGo (some p) l = poGo (some q) l
  | [] => rfl
  | x :: r => by simp only [poGo, h]
theorem poGo_set : ∀ (l : List Po) (o : Option Po) (m : Nat) (hm : m < l.length) (p : Po), isPo p = true → isPo l[m] = true → p.id = l[m].id → poGo o (l.set m p) = poGo o l
  | x :: r, o, 0, hm, p, h1, h2, h3 => by
    simp only [List.getElem_cons_zero] at h2 h3
    simp only [List.set_cons_zero, poGo, h1, h2, if_true, h3, poGo_id h3]
  | x :: r, o, m + 1, hm, p, h1, h2, h3 => by
    simp only [List.getElem_cons_succ] at h2 h3
    simp only [List.set_cons_succ, poGo]
    rw [poGo_set r (some x) m (by simpa using hm) p h1 h2 h3]
theorem arePo_set {ps : List Po} (h : arePo ps = true) {m : Nat} (hm : m < ps.length) {p : Po} (h1 : isPo p = true) (h3 : p.id = ps[m].id) : arePo (ps.set m p) = true := by
  have h2 := arePo_at h (List.getElem_mem hm)
  unfold arePo at *
  rw [poGo_set ps none m hm p h1 h2 h3, List.length_set]
  exact h
theorem poGo_up : ∀ (l : List Po) (o : Option Po), poGo o l = true → l.Pairwise (fun a b => a.id < b.id) ∧ ∀ q, o = some q → ∀ p ∈ l, q.id < p.id
  | [], _, _ => ⟨.nil, fun _ _ _ h => by cases h⟩
  | x :: r, o, h => by
    simp only [poGo, Bool.if_false_right, Bool.and_eq_true, decide_eq_true_eq] at h
    obtain ⟨_, hx, hr⟩ := h
    obtain ⟨h1, h2⟩ := poGo_up r _ hr
    refine ⟨List.pairwise_cons.2 ⟨h2 x rfl, h1⟩, fun q hq p hp => ?_⟩
    subst hq
    have hx' : q.id < x.id := by simpa using hx
    rcases List.mem_cons.1 hp with rfl | hp
    · exact hx'
    · have := h2 x rfl p hp; omega
theorem arePo_one {ps : List Po} (h : arePo ps = true) {i j : Nat} (hi : i < ps.length) (hj : j < ps.length) (e : ps[i].id = ps[j].id) : i = j := by
  simp only [arePo, Bool.and_eq_true] at h
  have hp := List.pairwise_iff_getElem.1 (poGo_up ps none h.1).1
  rcases Nat.lt_trichotomy i j with g | g | g
  · have := hp i j hi hj g; omega
  · exact g
  · have := hp j i hj hi g; omega

end Go.Proofs.YtnehhdcaknppnaaDoor
