/- The postmarks: what the law on uses asks, plainly. -/
import Derived.Test.YtnehhdcaknppnaaGreatDoorPoPl
import Derived.Test.YtnehhdcaknppnaaGreatDoorPoW
import Derived.Test.YtnehhdcaknppnaaGreatDoorPoV
import Derived.Test.YtnehhdcaknppnaaGreatDoorPoY
set_option maxRecDepth 8000
set_option linter.unusedSimpArgs false
set_option linter.unusedVariables false
namespace Go.Proofs.YtnehhdcaknppnaaGreatDoor
open Go Go.RowKit

set_option maxHeartbeats 2000000
theorem isPo_eu {p : Po} {d : Int} (h : isPo p = true) (hd : inR d 0 4000 = true) : isPo (euP p d) = true := by
  have hb := isPo_b h
  have hd2 : 0 ≤ d ∧ d ≤ 4000 := by simpa [inR] using hd
  simp only [isPo, euP, Bool.and_eq_true] at h ⊢
  obtain ⟨h1, h2, h3, h4, h5, h6⟩ := h
  refine ⟨h1, h2, h3, ?_, ?_, h6⟩
  · simp only [inR, decide_eq_true_eq]
    split <;> omega
  · simp only [inR, decide_eq_true_eq]
    by_cases c1 : d < p.first
    · by_cases c2 : p.last < d
      · omega
      · rw [if_pos c1, if_neg c2]; omega
    · by_cases c2 : p.last < d
      · rw [if_neg c1, if_pos c2]; omega
      · rw [if_neg c1, if_neg c2]; omega
theorem any_town {l : List (List UInt8)} {t : List UInt8} (h : t ∈ l) : (l.any fun x => decide (x = t)) = true := List.any_eq_true.2 ⟨t, h, by simp⟩
theorem insAll_mem {l : List (List UInt8)} {t : List UInt8} : t ∈ insAll l [] ↔ t ∈ l := by rw [(insAll_up l (o := []) (by simp)).2]; simp
theorem towns_mem {d : Int} {ps : List Po} {p : Po} (h : p ∈ ps) (hd : inR d p.first p.last = true) : p.town ∈ insAll (towns d ps) [] := by
  rw [insAll_mem, towns_eq]
  exact List.mem_map.2 ⟨p, List.mem_filter.2 ⟨h, hd⟩, rfl⟩
theorem eu_in {p : Po} {d : Int} (h : isPo p = true) : inR d (euP p d).first (euP p d).last = true := by
  have hb := isPo_b h
  refine decide_eq_true ⟨?_, ?_⟩
  · simp only [euP]; split <;> omega
  · simp only [euP]; split <;> omega
theorem eu_grow {p : Po} {d : Int} (h : isPo p = true) : (euP p d).last - (euP p d).first = p.last - p.first + euG p d := by
  have hb := isPo_b h
  simp only [euP, euG]
  by_cases c1 : d < p.first
  · by_cases c2 : p.last < d
    · omega
    · rw [if_pos c1, if_neg c2, if_pos c1, if_neg c2]; omega
  · by_cases c2 : p.last < d
    · rw [if_neg c1, if_pos c2, if_neg c1, if_pos c2]; omega
    · rw [if_neg c1, if_neg c2, if_neg c1, if_neg c2]; omega
/-- what stands in the way of a use that reaches to a day: nothing -/
theorem eu_all {ps : List Po} {i d : Int} (h : (euRes ps i d).2.2 = true) : arePo ps = true ∧ inR d 0 4000 = true ∧ ∃ (m : Nat) (hm : m < ps.length), ps[m].id = i ∧ euRes ps i d = (ps.set m (euP ps[m] d), euG ps[m] d, true) ∧ arePo (ps.set m (euP ps[m] d)) = true := by
  by_cases hv : arePo ps = true
  rotate_left
  · unfold euRes at h; rw [if_neg hv] at h; cases h
  rcases ixOf_at (fun p : Po => decide (p.id = i)) ps 0 with ⟨h1, _⟩ | ⟨m, hm, h1, h2, _⟩
  · unfold euRes at h; rw [if_pos hv, h1] at h; cases h
  rw [Nat.zero_add] at h1
  by_cases hd : inR d 0 4000 = true
  rotate_left
  · unfold euRes at h; rw [if_pos hv, h1, if_neg (by omega), if_neg hd] at h; cases h
  have hgd : ps.getD m default = ps[m] := by simp [List.getD_eq_getElem?_getD, hm]
  refine ⟨hv, hd, m, hm, by simpa using h2, ?_, arePo_set hv hm (isPo_eu (arePo_at hv (List.getElem_mem hm)) hd) rfl⟩
  unfold euRes
  rw [if_pos hv, h1, if_neg (by omega), if_pos hd, Int.toNat_natCast, hgd]
/-- a town's first and last day, as the law seeks them -/
def gL0 (t : List UInt8) : List Po → Int → Int
  | [], m => m
  | p :: r, m => gL0 t r (if p.town = t then (if m < p.last then p.last else m) else m)
theorem gL0_eq (t : List UInt8) : ∀ (l : List Po), (∀ p ∈ l, isPo p = true) → 0 ≤ gL t l (-1) → gL0 t l 0 = gL t l (-1)
  | [], _, h => by simp [gL] at h
  | p :: r, hp, h => by
    have hb := isPo_b (hp p (by simp))
    have hr : ∀ p ∈ r, isPo p = true := fun q hq => hp q (by simp [hq])
    have key : ∀ (l : List Po) (m : Int), gL0 t l m = gL t l m := fun l => by
      induction l with
      | nil => intro m; rfl
      | cons x l ih => intro m; simp only [gL0, gL]; rw [ih]
    simp only [gL0, gL] at h ⊢
    split
    · rename_i hc
      rw [if_pos hc] at h
      rw [key]
      congr 1
      rw [if_pos (show (-1 : Int) < p.last by omega)]
      split
      · rfl
      · omega
    · rename_i hc
      rw [if_neg hc] at h
      exact gL0_eq t r hr h
theorem gF_mem (t : List UInt8) : ∀ (l : List Po) (f : Int), gF t l f = f ∨ ∃ p ∈ l, p.town = t ∧ p.first = gF t l f
  | [], f => .inl rfl
  | p :: r, f => by
    simp only [gF]
    by_cases hc : p.town = t
    · rw [if_pos hc]
      by_cases hf : p.first < f
      · rw [if_pos hf]
        rcases gF_mem t r p.first with h | ⟨q, hq, h⟩
        · exact .inr ⟨p, by simp, hc, h.symm⟩
        · exact .inr ⟨q, by simp [hq], h⟩
      · rw [if_neg hf]
        exact (gF_mem t r f).imp id fun ⟨q, hq, h⟩ => ⟨q, by simp [hq], h⟩
    · rw [if_neg hc]
      exact (gF_mem t r f).imp id fun ⟨q, hq, h⟩ => ⟨q, by simp [hq], h⟩
theorem gF_le (t : List UInt8) : ∀ (l : List Po) (f : Int), gF t l f ≤ f ∧ ∀ p ∈ l, p.town = t → gF t l f ≤ p.first
  | [], f => ⟨Int.le_refl _, fun p hp => by cases hp⟩
  | p :: r, f => by
    simp only [gF]
    by_cases hc : p.town = t
    · rw [if_pos hc]
      by_cases hf : p.first < f
      · rw [if_pos hf]
        obtain ⟨h1, h2⟩ := gF_le t r p.first
        refine ⟨by omega, fun q hq ht => ?_⟩
        rcases List.mem_cons.1 hq with rfl | hq
        · exact h1
        · exact h2 q hq ht
      · rw [if_neg hf]
        obtain ⟨h1, h2⟩ := gF_le t r f
        refine ⟨h1, fun q hq ht => ?_⟩
        rcases List.mem_cons.1 hq with rfl | hq
        · omega
        · exact h2 q hq ht
    · rw [if_neg hc]
      obtain ⟨h1, h2⟩ := gF_le t r f
      refine ⟨h1, fun q hq ht => ?_⟩
      rcases List.mem_cons.1 hq with rfl | hq
      · exact absurd ht hc
      · exact h2 q hq ht
theorem gL_ge (t : List UInt8) : ∀ (l : List Po) (m : Int), m ≤ gL t l m ∧ ∀ p ∈ l, p.town = t → p.last ≤ gL t l m
  | [], m => ⟨Int.le_refl _, fun p hp => by cases hp⟩
  | p :: r, m => by
    simp only [gL]
    by_cases hc : p.town = t
    · rw [if_pos hc]
      by_cases hf : m < p.last
      · rw [if_pos hf]
        obtain ⟨h1, h2⟩ := gL_ge t r p.last
        refine ⟨by omega, fun q hq ht => ?_⟩
        rcases List.mem_cons.1 hq with rfl | hq
        · exact h1
        · exact h2 q hq ht
      · rw [if_neg hf]
        obtain ⟨h1, h2⟩ := gL_ge t r m
        refine ⟨h1, fun q hq ht => ?_⟩
        rcases List.mem_cons.1 hq with rfl | hq
        · omega
        · exact h2 q hq ht
    · rw [if_neg hc]
      obtain ⟨h1, h2⟩ := gL_ge t r m
      refine ⟨h1, fun q hq ht => ?_⟩
      rcases List.mem_cons.1 hq with rfl | hq
      · exact absurd ht hc
      · exact h2 q hq ht
theorem gL_ex (t : List UInt8) : ∀ (l : List Po) (m : Int), gL t l m = m ∨ ∃ p ∈ l, p.town = t
  | [], m => .inl rfl
  | p :: r, m => by
    simp only [gL]
    by_cases hc : p.town = t
    · exact .inr ⟨p, by simp, hc⟩
    · rw [if_neg hc]
      exact (gL_ex t r m).imp id fun ⟨q, hq, h⟩ => ⟨q, by simp [hq], h⟩
theorem gap_ok {ps : List Po} {t : List UInt8} (h : (gapRes ps t).2 = true) : arePo ps = true ∧ 0 ≤ gL t ps (-1) ∧ 0 ≤ (gapRes ps t).1 ∧ (gapRes ps t).1 ≤ gL t ps (-1) - gF t ps 4000 ∧ 0 ≤ gF t ps 4000 ∧ gF t ps 4000 ≤ 4000 ∧ gL t ps (-1) ≤ 4000 := by
  by_cases hv : arePo ps = true
  rotate_left
  · unfold gapRes at h; rw [if_neg hv] at h; cases h
  by_cases hw : isWord t = true
  rotate_left
  · unfold gapRes at h; rw [if_pos hv, if_neg hw] at h; cases h
  by_cases hl : gL t ps (-1) < 0
  · unfold gapRes at h; rw [if_pos hv, if_pos hw, if_pos hl] at h; cases h
  have hvv : ∀ p ∈ ps, isPo p = true := fun p hp => arePo_at hv hp
  have e : (gapRes ps t).1 = freeGo (usedD t ps) (gL t ps (-1) + 1 - gF t ps 4000).toNat (gF t ps 4000) 0 := by unfold gapRes; rw [if_pos hv, if_pos hw, if_neg hl]
  have hb := gF_b t ps 4000 hvv (by omega)
  have hb2 := gL_b t ps (-1) hvv (by omega) (by omega)
  have hex : ∃ p ∈ ps, p.town = t := (gL_ex t ps (-1)).resolve_left (by omega)
  have key : ∃ p ∈ ps, p.town = t ∧ p.first = gF t ps 4000 := by
    rcases gF_mem t ps 4000 with h0 | h0
    · obtain ⟨p, hp, ht⟩ := hex
      have h1 := (gF_le t ps 4000).2 p hp ht
      have h2 := isPo_b (hvv p hp)
      exact ⟨p, hp, ht, by omega⟩
    · exact h0
  obtain ⟨p, hp, ht, hf⟩ := key
  have h2 := isPo_b (hvv p hp)
  have h3 := (gL_ge t ps (-1)).2 p hp ht
  have hu : usedD t ps (gF t ps 4000) = true := by
    unfold usedD
    refine List.any_eq_true.2 ⟨p, hp, ?_⟩
    rw [decide_eq_true ht, Bool.true_and]
    simp only [inR, decide_eq_true_eq]
    omega
  obtain ⟨n, hn⟩ : ∃ n : Nat, (gL t ps (-1) + 1 - gF t ps 4000).toNat = n + 1 := ⟨(gL t ps (-1) - gF t ps 4000).toNat, by omega⟩
  rw [hn, freeGo, hu, if_pos rfl] at e
  have hg := freeGo_b (usedD t ps) n (gF t ps 4000 + 1) 0
  rw [e]
  exact ⟨hv, by omega, hg.1, by omega, hb.1, hb.2, hb2.2⟩

end Go.Proofs.YtnehhdcaknppnaaGreatDoor
