/- The printings: plain facts for the law on presses. -/
import Derived.Test.YtegmlgikdniohaaDoorPrPl
import Derived.Test.YtegmlgikdniohaaDoorPrY
import Derived.Test.YtegmlgikdniohaaDoorPrX
import Derived.Test.YtegmlgikdniohaaDoorPrT
set_option maxRecDepth 8000
set_option linter.unusedSimpArgs false
set_option linter.unusedVariables false
namespace Go.Proofs.YtegmlgikdniohaaDoor
open Go Go.RowKit

set_option maxHeartbeats 2000000
theorem sumGo_b (d : Int) : ∀ (l : List Pr) (s : Int), (∀ p ∈ l, isPr p = true) → 0 ≤ s → s + 9999 * (l.length : Int) ≤ 1000000000000 → s ≤ sumGo d l s ∧ sumGo d l s ≤ s + 9999 * (l.length : Int)
  | [], s, _, _, _ => by simp [sumGo]
  | p :: r, s, h, h0, hb => by
    have hp := isPr_b (h p (by simp))
    simp only [List.length_cons] at hb ⊢
    push_cast at hb ⊢
    have hr : ∀ q ∈ r, isPr q = true := fun q hq => h q (by simp [hq])
    have hw : IntKind.i64.wrap (s + p.sheets) = s + p.sheets := wrap_id (by omega) (by omega)
    simp only [sumGo]
    split
    · rw [hw]; have := sumGo_b d r (s + p.sheets) hr (by omega) (by omega); omega
    · have := sumGo_b d r s hr h0 (by omega); omega
theorem sumGo_app (d : Int) (x : Pr) (hx : x.day ≤ d) : ∀ (l : List Pr) (s : Int), sumGo d (l ++ [x]) s = IntKind.i64.wrap (sumGo d l s + x.sheets)
  | [], s => by simp [sumGo, hx]
  | p :: r, s => by
    simp only [List.cons_append, sumGo]
    split
    · exact sumGo_app d x hx r _
    · exact sumGo_app d x hx r _
/-- a new printing adds its sheets -/
theorem np_all {ps : List Pr} {d s hu sp : Int} (h : (npRes ps d s hu sp).2.2 = true) : (sbRes ps d).2 = true ∧ (sbRes (npRes ps d s hu sp).1 d).2 = true ∧ IntKind.i64.wrap ((sbRes (npRes ps d s hu sp).1 d).1 - (sbRes ps d).1) = s := by
  by_cases h1 : arePr ps = true
  rotate_left
  · unfold npRes at h; rw [if_neg h1] at h; cases h
  by_cases h2 : arePr (npOut ps d s hu sp) = true
  rotate_left
  · unfold npRes at h; rw [if_pos h1, if_neg h2] at h; cases h
  have e : (npRes ps d s hu sp).1 = npOut ps d s hu sp := by unfold npRes; rw [if_pos h1, if_pos h2]
  rw [e]
  have hx := isPr_all h2 ⟨nextNum ps, d, s, hu, sp⟩ (by simp [npOut])
  have hb := isPr_b hx
  simp only at hb
  have hd : inR d 0 4000 = true := decide_eq_true (by omega)
  have hl := arePr_len h1
  have hs := sumGo_b d ps 0 (isPr_all h1) (by omega) (by omega)
  have e2 : sumGo d (npOut ps d s hu sp) 0 = sumGo d ps 0 + s := by
    unfold npOut
    rw [sumGo_app d _ (Int.le_refl _)]
    exact wrap_id (by simp only; omega) (by simp only; omega)
  unfold sbRes
  rw [if_pos h1, if_pos hd, if_pos h2, if_pos hd, e2]
  refine ⟨rfl, rfl, ?_⟩
  simp only
  rw [wrap_id (by omega) (by omega)]
  omega
/-- the sheets of the printing with a number -/
def lsGo (n : Int) : List Pr → Int → Int
  | [], m => m
  | p :: r, m => lsGo n r (if p.num = n then p.sheets else m)
theorem lsGo_no (n : Int) : ∀ (l : List Pr) (m : Int), (∀ p ∈ l, p.num ≠ n) → lsGo n l m = m
  | [], _, _ => rfl
  | p :: r, m, h => by
    simp only [lsGo]
    rw [if_neg (h p (by simp)), lsGo_no n r m fun q hq => h q (by simp [hq])]
theorem lsGo_at (n : Int) : ∀ (l : List Pr) (m : Int), l.Pairwise (fun a b => a.num ≠ b.num) → ∀ p ∈ l, p.num = n → lsGo n l m = p.sheets
  | x :: r, m, h, p, hp, hn => by
    rw [List.pairwise_cons] at h
    simp only [lsGo]
    rcases List.mem_cons.1 hp with rfl | hp
    · rw [if_pos hn, lsGo_no n r _ fun q hq e => h.1 q hq (by rw [hn, e])]
    · exact lsGo_at n r _ h.2 p hp hn
theorem rpGo_ok : ∀ (l : List Pr) (b m : Int), (rpGo l b m = b ∧ ∀ p ∈ l, m ≤ p.sheets) ∨ ∃ p ∈ l, rpGo l b m = p.num ∧ p.sheets < m ∧ ∀ q ∈ l, p.sheets ≤ q.sheets
  | [], b, m => .inl ⟨rfl, by simp⟩
  | x :: r, b, m => by
    simp only [rpGo]
    by_cases hx : x.sheets < m
    · rw [if_pos hx]
      rcases rpGo_ok r x.num x.sheets with ⟨h1, h2⟩ | ⟨p, hp, h1, h2, h3⟩
      · exact .inr ⟨x, by simp, h1, hx, fun q hq => by rcases List.mem_cons.1 hq with rfl | hq; exact Int.le_refl _; exact h2 q hq⟩
      · exact .inr ⟨p, by simp [hp], h1, by omega, fun q hq => by rcases List.mem_cons.1 hq with rfl | hq; omega; exact h3 q hq⟩
    · rw [if_neg hx]
      rcases rpGo_ok r b m with ⟨h1, h2⟩ | ⟨p, hp, h1, h2, h3⟩
      · exact .inl ⟨h1, fun q hq => by rcases List.mem_cons.1 hq with rfl | hq; omega; exact h2 q hq⟩
      · exact .inr ⟨p, by simp [hp], h1, h2, fun q hq => by rcases List.mem_cons.1 hq with rfl | hq; omega; exact h3 q hq⟩
theorem arePr_nums {ps : List Pr} (h : arePr ps = true) : ps.Pairwise (fun a b => a.num < b.num) := List.pairwise_iff_getElem.2 fun i j hi hj hij => (arePr_up h hij hj).1
theorem rp_all {ps : List Pr} (h : (rpRes ps).2 = true) : ∀ p ∈ ps, ¬ p.sheets < lsGo (rpRes ps).1 ps 0 := by
  by_cases h1 : arePr ps = true
  rotate_left
  · unfold rpRes at h; rw [if_neg h1] at h; cases h
  by_cases h2 : ps = []
  · unfold rpRes at h; rw [if_pos h1, if_pos h2] at h; cases h
  have e : (rpRes ps).1 = rpGo ps 0 10000 := by unfold rpRes; rw [if_pos h1, if_neg h2]
  rw [e]
  rcases rpGo_ok ps 0 10000 with ⟨_, h3⟩ | ⟨p, hp, h3, _, h4⟩
  · obtain ⟨x, r, rfl⟩ := List.exists_cons_of_ne_nil h2
    have := h3 x (by simp)
    have := isPr_b (isPr_all h1 x (by simp))
    omega
  · rw [h3, lsGo_at p.num ps 0 ((arePr_nums h1).imp fun {a b} hab => by omega) p hp rfl]
    intro q hq
    have := h4 q hq
    omega
/-- a tone of one printing alone -/
theorem ut_all {ps : List Pr} {n t : Int} (h : t ∈ (utRes ps n).1) : cbRes ps 4000 t = ([n], true) := by
  by_cases h1 : arePr ps = true
  rotate_left
  · unfold utRes at h; rw [if_neg h1] at h; cases h
  rcases ixOf_at (fun p : Pr => decide (p.num = n)) ps 0 with ⟨e, _⟩ | ⟨m, hm, e, hn, _⟩
  · unfold utRes at h; rw [if_pos h1, e, if_pos (by omega)] at h; cases h
  rw [Nat.zero_add] at e
  have hn' : ps[m].num = n := by simpa using hn
  unfold utRes at h
  rw [if_pos h1, e, if_neg (by omega), Int.toNat_natCast] at h
  simp only at h
  rw [accM_eq, List.nil_append, List.map_id'] at h
  obtain ⟨h2, h3⟩ := List.mem_filter.1 h
  have ht := mem_rangeI.1 h2
  have ha := (aloGo_iff m t ps 0).1 h3
  simp only [Nat.zero_add] at ha
  have hc : ∀ (i : Nat) (hi : i < ps.length), canBe ps[i] 4000 t = decide (i = m) := fun i hi => by
    have hb := isPr_b (isPr_all h1 _ (List.getElem_mem hi))
    rw [← ha i hi]
    simp only [canBe]
    rw [decide_eq_true (by omega), Bool.true_and]
  have hone : (ps.filter fun p => canBe p 4000 t) = [ps[m]] := by
    have hlen := (one_only (p := fun p => canBe p 4000 t) ps m hm (by rw [hc m hm]; simp)).2 hc
    obtain ⟨y, hy⟩ := List.length_eq_one_iff.1 hlen
    have : ps[m] ∈ ps.filter fun p => canBe p 4000 t := List.mem_filter.2 ⟨List.getElem_mem hm, by rw [hc m hm]; simp⟩
    rw [hy, List.mem_singleton] at this
    rw [hy, this]
  unfold cbRes
  rw [if_pos h1, if_pos (by decide), if_pos (show inR t (-20) 120 = true from decide_eq_true (by omega)), accM_eq, hone]
  simp [hn']
theorem suGo_mem (per want : Int) : ∀ (l : List Pr) (s : Int), (suGo per want l s).2 = true → ∃ p ∈ l, (suGo per want l s).1 = p.num
  | [], s, h => by cases h
  | p :: r, s, h => by
    simp only [suGo] at h ⊢
    split
    · exact ⟨p, by simp, rfl⟩
    · rename_i hc
      rw [if_neg hc] at h
      obtain ⟨q, hq, e⟩ := suGo_mem per want r _ h
      exact ⟨q, by simp [hq], e⟩
/-- enough stamps, and not a printing earlier -/
def SuInv (per want at_ : Int) (l : List Pr) (s : Int) : Prop := (suGo per want l s = (at_, true) ∧ s < want ∧ l.Pairwise (fun a b => a.num < b.num)) ∨ (want ≤ s ∧ ∀ p ∈ l, at_ < p.num)
theorem su_start {ps : List Pr} {per want : Int} (h : (suRes ps per want).2 = true) : SuInv per want (suRes ps per want).1 ps 0 := by
  by_cases h1 : arePr ps = true
  rotate_left
  · unfold suRes at h; rw [if_neg h1] at h; cases h
  by_cases h2 : inR per 1 400 = true
  rotate_left
  · unfold suRes at h; rw [if_pos h1, if_neg h2] at h; cases h
  by_cases h3 : inR want 1 50000000 = true
  rotate_left
  · unfold suRes at h; rw [if_pos h1, if_pos h2, if_neg h3] at h; cases h
  have e : suRes ps per want = suGo per want ps 0 := by unfold suRes; rw [if_pos h1, if_pos h2, if_pos h3]
  rw [e] at h ⊢
  have hw : 1 ≤ want := (of_decide_eq_true h3).1
  exact .inl ⟨Prod.ext rfl h, by omega, arePr_nums h1⟩
theorem su_step {per want at_ s : Int} {p : Pr} {r : List Pr} (h : SuInv per want at_ (p :: r) s) : (p.num ≤ at_ → ¬ want ≤ s ∧ SuInv per want at_ r (IntKind.i64.wrap (s + IntKind.i64.wrap (p.sheets * per)))) ∧ (¬ p.num ≤ at_ → SuInv per want at_ r s) := by
  rcases h with ⟨h1, h2, h3⟩ | ⟨h1, h2⟩
  · rw [List.pairwise_cons] at h3
    simp only [suGo] at h1
    by_cases hc : want ≤ IntKind.i64.wrap (s + IntKind.i64.wrap (p.sheets * per))
    · rw [if_pos hc] at h1
      have ha : at_ = p.num := by cases h1; rfl
      subst ha
      exact ⟨fun _ => ⟨by omega, .inr ⟨hc, h3.1⟩⟩, fun hn => absurd (Int.le_refl _) hn⟩
    · rw [if_neg hc] at h1
      obtain ⟨q, hq, e⟩ := suGo_mem per want r _ (by rw [h1])
      rw [h1] at e
      have := h3.1 q hq
      simp only at e
      exact ⟨fun _ => ⟨by omega, .inl ⟨h1, by omega, h3.2⟩⟩, fun hn => by omega⟩
  · have := h2 p (by simp)
    exact ⟨fun hn => by omega, fun _ => .inr ⟨h1, fun q hq => h2 q (by simp [hq])⟩⟩
theorem su_end {per want at_ s : Int} (h : SuInv per want at_ [] s) : ¬ s < want := by
  rcases h with ⟨h1, _, _⟩ | ⟨h1, _⟩
  · cases h1
  · omega

end Go.Proofs.YtegmlgikdniohaaDoor
