/- The printings: plain facts for the great law. -/
import Derived.Test.YtegmlgikdniohaaDoorPrW
set_option maxRecDepth 8000
set_option linter.unusedSimpArgs false
set_option linter.unusedVariables false
namespace Go.Proofs.YtegmlgikdniohaaDoor
open Go Go.RowKit

set_option maxHeartbeats 2000000
theorem arePr_step {ps : List Pr} (h : arePr ps = true) {i : Nat} (hi : i + 1 < ps.length) : ps[i].num < ps[i + 1].num ∧ ps[i].day < ps[i + 1].day := by
  simp only [arePr, Bool.and_eq_true, List.all_eq_true, List.mem_range] at h
  have := h.1 (i + 1) hi
  rw [okAt_s hi] at this
  simp only [Bool.and_eq_true, decide_eq_true_eq] at this
  exact this.2
theorem arePr_lt {ps : List Pr} (h : arePr ps = true) : ∀ (k i : Nat) (hj : i + k + 1 < ps.length), ps[i].num < ps[i + k + 1].num ∧ ps[i].day < ps[i + k + 1].day
  | 0, i, hj => arePr_step h hj
  | k + 1, i, hj => by
    have h1 := arePr_lt h k i (by omega)
    have h2 := arePr_step h (i := i + k + 1) (by omega)
    have e : i + (k + 1) + 1 = i + k + 1 + 1 := by omega
    simp only [e]
    omega
theorem arePr_up {ps : List Pr} (h : arePr ps = true) {i j : Nat} (hij : i < j) (hj : j < ps.length) : ps[i].num < ps[j].num ∧ ps[i].day < ps[j].day := by
  obtain ⟨k, rfl⟩ : ∃ k, j = i + k + 1 := ⟨j - i - 1, by omega⟩
  exact arePr_lt h k i hj
theorem arePr_one {ps : List Pr} (h : arePr ps = true) {i j : Nat} (hi : i < ps.length) (hj : j < ps.length) (e : ps[i].num = ps[j].num) : i = j := by
  rcases Nat.lt_trichotomy i j with g | g | g
  · have := (arePr_up h g hj).1; omega
  · exact g
  · have := (arePr_up h g hi).1; omega
theorem euGo_spec (d t : Int) : ∀ (l : List Pr), l.Pairwise (fun a b => a.day < b.day) → ((∃ p ∈ l, canBe p d t = true) ↔ (euGo t l).2 = true ∧ (euGo t l).1 ≤ d)
  | [], _ => by simp [euGo]
  | x :: r, h => by
    rw [List.pairwise_cons] at h
    simp only [euGo]
    by_cases hx : hasT x t = true
    · rw [if_pos hx]
      constructor
      · rintro ⟨p, hp, hc⟩
        simp only [canBe, Bool.and_eq_true, decide_eq_true_eq] at hc
        refine ⟨rfl, ?_⟩
        rcases List.mem_cons.1 hp with rfl | hp
        · exact hc.1
        · have := h.1 p hp; show x.day ≤ d; omega
      · rintro ⟨_, hd⟩
        exact ⟨x, by simp, by simp only [canBe, hx, Bool.and_true, decide_eq_true_eq]; exact hd⟩
    · rw [if_neg hx, ← euGo_spec d t r h.2]
      constructor
      · rintro ⟨p, hp, hc⟩
        rcases List.mem_cons.1 hp with rfl | hp
        · simp only [canBe, Bool.and_eq_true] at hc; exact absurd hc.2 hx
        · exact ⟨p, hp, hc⟩
      · rintro ⟨p, hp, hc⟩
        exact ⟨p, by simp [hp], hc⟩
theorem arePr_days {ps : List Pr} (h : arePr ps = true) : ps.Pairwise (fun a b => a.day < b.day) := List.pairwise_iff_getElem.2 fun i j hi hj hij => (arePr_up h hij hj).2
theorem cb_ok {ps : List Pr} {d t : Int} (h : (cbRes ps d t).2 = true) : arePr ps = true ∧ inR d 0 4000 = true ∧ inR t (-20) 120 = true ∧ (cbRes ps d t).1 = accM (fun p => canBe p d t) (fun p => p.num) ps [] := by
  by_cases h1 : arePr ps = true
  rotate_left
  · unfold cbRes at h; rw [if_neg h1] at h; cases h
  by_cases h2 : inR d 0 4000 = true
  rotate_left
  · unfold cbRes at h; rw [if_pos h1, if_neg h2] at h; cases h
  by_cases h3 : inR t (-20) 120 = true
  rotate_left
  · unfold cbRes at h; rw [if_pos h1, if_pos h2, if_neg h3] at h; cases h
  exact ⟨h1, h2, h3, by unfold cbRes; rw [if_pos h1, if_pos h2, if_pos h3]⟩
theorem cb_mem {ps : List Pr} {d t n : Int} (h : (cbRes ps d t).2 = true) : n ∈ (cbRes ps d t).1 ↔ ∃ p ∈ ps, canBe p d t = true ∧ p.num = n := by
  rw [(cb_ok h).2.2.2, accM_eq, List.nil_append, List.mem_map]
  constructor
  · rintro ⟨p, hp, e⟩
    exact ⟨p, (List.mem_filter.1 hp).1, (List.mem_filter.1 hp).2, e⟩
  · rintro ⟨p, hp, hc, e⟩
    exact ⟨p, List.mem_filter.2 ⟨hp, hc⟩, e⟩
theorem cb_eu {ps : List Pr} {d t : Int} (h : (cbRes ps d t).2 = true) : (0 < (cbRes ps d t).1.length) ↔ ((euRes ps t).2 = true ∧ (euRes ps t).1 ≤ d) := by
  obtain ⟨h1, h2, h3, _⟩ := cb_ok h
  have e : euRes ps t = euGo t ps := by unfold euRes; rw [if_pos h1, if_pos h3]
  rw [e, ← euGo_spec d t ps (arePr_days h1), List.length_pos_iff_exists_mem]
  constructor
  · rintro ⟨n, hn⟩
    obtain ⟨p, hp, hc, _⟩ := (cb_mem h).1 hn
    exact ⟨p, hp, hc⟩
  · rintro ⟨p, hp, hc⟩
    exact ⟨p.num, (cb_mem h).2 ⟨p, hp, hc, rfl⟩⟩
theorem cb_has {ps : List Pr} {d t : Int} (h : (cbRes ps d t).2 = true) {j : Nat} (hj : j < ps.length) : ((cbRes ps d t).1.any fun x => decide (x = ps[j].num)) = canBe ps[j] d t := by
  rw [Bool.eq_iff_iff, List.any_eq_true]
  constructor
  · rintro ⟨n, hn, e⟩
    simp only [decide_eq_true_eq] at e
    subst e
    obtain ⟨p, hp, hc, e⟩ := (cb_mem h).1 hn
    obtain ⟨i, hi, rfl⟩ := List.getElem_of_mem hp
    obtain rfl := arePr_one (cb_ok h).1 hi hj e
    exact hc
  · intro hc
    exact ⟨ps[j].num, (cb_mem h).2 ⟨_, List.getElem_mem hj, hc, rfl⟩, by simp⟩
theorem find_at {ps : List Pr} (h : arePr ps = true) {j : Nat} (hj : j < ps.length) : (ps.find? fun p => decide (p.num = ps[j].num)) = some ps[j] := by
  rw [List.find?_eq_some_iff_getElem]
  refine ⟨by simp, j, hj, rfl, fun i hi => ?_⟩
  have := (arePr_up h hi hj).1
  simp only [Bool.not_eq_true', decide_eq_false_iff_not]
  omega
theorem frac_mul {a b : Int} (ha : 0 ≤ a) (hb : 0 < b) : (frac a b).1 * b = a * (frac a b).2 := by
  obtain ⟨m, rfl⟩ := Int.eq_ofNat_of_zero_le ha
  obtain ⟨n, rfl⟩ := Int.eq_ofNat_of_zero_le (Int.le_of_lt hb)
  simp only [frac, Int.toNat_natCast]
  have h1 : m / Nat.gcd m n * n = m * (n / Nat.gcd m n) := by
    obtain ⟨x, hx⟩ := Nat.gcd_dvd_left m n
    obtain ⟨y, hy⟩ := Nat.gcd_dvd_right m n
    have hg : 0 < Nat.gcd m n := Nat.gcd_pos_of_pos_right m (by omega)
    have e1 : m / Nat.gcd m n = x := Nat.div_eq_of_eq_mul_right hg hx
    have e2 : n / Nat.gcd m n = y := Nat.div_eq_of_eq_mul_right hg hy
    rw [e1, e2]
    calc x * n = x * (Nat.gcd m n * y) := by rw [← hy]
      _ = (Nat.gcd m n * x) * y := by rw [Nat.mul_left_comm, Nat.mul_assoc]
      _ = m * y := by rw [← hx]
  exact_mod_cast h1
theorem chGo_ge (d t : Int) : ∀ (l : List Pr) (s : Int), (∀ p ∈ l, isPr p = true) → 0 ≤ s → s + 9999 * (l.length : Int) ≤ 1000000000000 → (s ≤ chGo d t l s ∧ chGo d t l s ≤ s + 9999 * (l.length : Int)) ∧ ((∃ p ∈ l, canBe p d t = true) → s < chGo d t l s)
  | [], s, _, _, _ => ⟨by simp [chGo], by rintro ⟨p, hp, _⟩; cases hp⟩
  | p :: r, s, h, h0, hb => by
    have hp := isPr_b (h p (by simp))
    simp only [List.length_cons] at hb ⊢
    push_cast at hb ⊢
    have hr : ∀ q ∈ r, isPr q = true := fun q hq => h q (by simp [hq])
    have hw : IntKind.i64.wrap (s + p.sheets) = s + p.sheets := wrap_id (by omega) (by omega)
    simp only [chGo]
    by_cases hc : canBe p d t = true
    · rw [if_pos hc, hw]
      obtain ⟨ih, _⟩ := chGo_ge d t r (s + p.sheets) hr (by omega) (by omega)
      exact ⟨by omega, fun _ => by omega⟩
    · rw [if_neg hc]
      obtain ⟨ih, ih2⟩ := chGo_ge d t r s hr h0 (by omega)
      refine ⟨by omega, ?_⟩
      rintro ⟨q, hq, hqc⟩
      rcases List.mem_cons.1 hq with rfl | hq
      · exact absurd hqc hc
      · exact ih2 ⟨q, hq, hqc⟩
/-- the chance of each printing, where there is one -/
theorem ch_all {ps : List Pr} {d t : Int} (h : (cbRes ps d t).2 = true) (hne : 0 < (cbRes ps d t).1.length) {j : Nat} (hj : j < ps.length) :
    (chRes ps ps[j].num d t).2.2 = true ∧ 0 ≤ chGo d t ps 0 ∧ chGo d t ps 0 ≤ 119988 ∧
    (canBe ps[j] d t = false → (chRes ps ps[j].num d t).1 = 0) ∧
    (canBe ps[j] d t = true → IntKind.i64.wrap ((chRes ps ps[j].num d t).1 * chGo d t ps 0) = IntKind.i64.wrap (ps[j].sheets * (chRes ps ps[j].num d t).2.1)) := by
  obtain ⟨h1, h2, h3, _⟩ := cb_ok h
  have hl := arePr_len h1
  obtain ⟨hb, hx⟩ := chGo_ge d t ps 0 (isPr_all h1) (by omega) (by omega)
  have hex : ∃ p ∈ ps, canBe p d t = true := by
    obtain ⟨n, hn⟩ := List.length_pos_iff_exists_mem.1 hne
    obtain ⟨p, hp, hc, _⟩ := (cb_mem h).1 hn
    exact ⟨p, hp, hc⟩
  have hpos := hx hex
  have hp := isPr_b (arePr_at h1 hj)
  have e : chRes ps ps[j].num d t = if canBe ps[j] d t = true then ((frac ps[j].sheets (chGo d t ps 0)).1, (frac ps[j].sheets (chGo d t ps 0)).2, true) else (0, 1, true) := by
    unfold chRes
    rw [if_pos h1, find_at h1 hj]
    simp only
    rw [if_pos h2, if_pos h3, if_neg (by omega)]
  rw [e]
  refine ⟨by split <;> rfl, by omega, by omega, fun hc => by rw [hc]; rfl, fun hc => ?_⟩
  rw [if_pos hc]
  simp only
  rw [frac_mul (by omega) hpos]
/-- the share of a printing -/
theorem sh_all {ps : List Pr} {n : Int} (h : (shRes ps n).2.2 = true) : sbRes ps 4000 = (sumAll ps 0, true) ∧ ∀ (j : Nat) (hj : j < ps.length), ps[j].num = n → IntKind.i64.wrap ((shRes ps n).1 * sumAll ps 0) = IntKind.i64.wrap (ps[j].sheets * (shRes ps n).2.1) := by
  by_cases h1 : arePr ps = true
  rotate_left
  · unfold shRes at h; rw [if_neg h1] at h; cases h
  refine ⟨by unfold sbRes; rw [if_pos h1, if_pos (by decide), sumGo_all ps 0 (isPr_all h1)], fun j hj hn => ?_⟩
  subst hn
  have hp := isPr_b (arePr_at h1 hj)
  have hs := sumAll_ok h1 (by omega)
  unfold shRes
  rw [if_pos h1, find_at h1 hj]
  simp only
  rw [frac_mul (by omega) hs.1]

end Go.Proofs.YtegmlgikdniohaaDoor
