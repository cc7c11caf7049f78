/- The printings: boxes, places, rows of numbers. -/
import Derived.Test.YtegmlgikdniohaaPrS
set_option maxRecDepth 8000
set_option linter.unusedSimpArgs false
set_option linter.unusedVariables false
namespace Go.Proofs.Ytegmlgikdniohaa
open Go Go.RowKit

theorem arePr_len {ps : List Pr} (h : arePr ps = true) : ps.length ≤ 12 := by
  simp only [arePr, Bool.and_eq_true, decide_eq_true_eq] at h; exact h.2
theorem arePr_at {ps : List Pr} (h : arePr ps = true) {j : Nat} (hj : j < ps.length) : isPr ps[j] = true := by
  simp only [arePr, Bool.and_eq_true, List.all_eq_true, List.mem_range] at h
  have := h.1 j hj
  simp only [okAt, List.getElem?_eq_getElem hj, Bool.and_eq_true] at this
  exact this.1
theorem isPr_sheets {p : Pr} (h : isPr p = true) : 1 ≤ p.sheets ∧ p.sheets ≤ 9999 := by
  simp only [isPr, inR, Bool.and_eq_true, decide_eq_true_eq] at h; omega
theorem rpGo_first {p : Pr} {r : List Pr} (h : isPr p = true) : rpGo (p :: r) p.num p.sheets = rpGo (p :: r) 0 10000 := by
  have := isPr_sheets h
  simp only [rpGo]
  rw [if_neg (by omega), if_pos (by omega)]

theorem getElem_tail' {α : Type} {ps : List α} {j : Nat} (h : j < ps.tail.length) : ps.tail[j] = ps[j + 1]'(by simp at h; omega) := by simp

end Go.Proofs.Ytegmlgikdniohaa
