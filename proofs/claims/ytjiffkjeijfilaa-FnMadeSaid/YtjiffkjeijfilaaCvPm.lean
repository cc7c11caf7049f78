/- A made cover: plain facts for its great law. -/
import Derived.Test.YtjiffkjeijfilaaCvPl
import Derived.Test.YtjiffkjeijfilaaCoR
set_option maxRecDepth 8000
set_option linter.unusedSimpArgs false
set_option linter.unusedVariables false
namespace Go.Proofs.Ytjiffkjeijfilaa
open Go Go.RowKit

theorem chRes_comm (x y : Cv) : chRes y x = chRes x y := by
  have e1 : sameBut y x = sameBut x y := by
    rw [Bool.eq_iff_iff]
    simp only [sameBut, Bool.and_eq_true, decide_eq_true_eq]
    constructor <;> (rintro ⟨h1, h2, h3, h4, h5⟩; exact ⟨h1.symm, h2.symm, h3.symm, h4.symm, h5.symm⟩)
  have ec : ∀ a b : Int, decide (a = b) = decide (b = a) := fun a b => by rw [decide_eq_decide]; exact eq_comm
  have e2 : chSum y x = chSum x y := by
    unfold chSum
    rw [ec y.day, ec y.zone, ec y.grams, ec y.paid]
  unfold chRes
  rw [e1, e2, Bool.and_comm]
theorem chSum_P4 (x y : Cv) : chSum x y = P4 (!decide (x.day = y.day)) (!decide (x.zone = y.zone)) (!decide (x.grams = y.grams)) (!decide (x.paid = y.paid)) := rfl
theorem made_ok {ps : List Ra} {x : Cv} {ch : Int} (h : (mcRes ps x ch).2 = true) : (chRes x (mcRes ps x ch).1).2 = true ∧ isCv (mcRes ps x ch).1 = true ∧
    IntKind.i64.wrap ((((chRes x (mcRes ps x ch).1).1 % 2 ^ IntKind.i64.bits).toNat &&& (ch % 2 ^ IntKind.i64.bits).toNat : Nat) : Int) = (chRes x (mcRes ps x ch).1).1 ∧
    ((chRes x (mcRes ps x ch).1).1 = 0 → (exRes ps x).1 = true ∧ (exRes ps x).2 = true) := by
  by_cases hv : areRa ps = true
  rotate_left
  · unfold mcRes at h; rw [if_neg hv] at h; cases h
  by_cases hx : isCv x = true
  rotate_left
  · unfold mcRes at h; rw [if_pos hv, if_neg hx] at h; cases h
  by_cases hr : inR ch 0 15 = true
  rotate_left
  · unfold mcRes at h; rw [if_pos hv, if_pos hx, if_neg hr] at h; cases h
  have hr2 : 0 ≤ ch ∧ ch ≤ 15 := by simpa [inR] using hr
  have e1 : mcRes ps x ch = pairM (mkM ps x ch) := by unfold mcRes; rw [if_pos hv, if_pos hx, if_pos hr]
  rw [e1] at h ⊢
  cases hy : mkM ps x ch with
  | none => rw [hy] at h; cases h
  | some y =>
    obtain ⟨h1, h2, ⟨d, z, g, c, h3⟩, h4, h5, h6, h7⟩ := made hv hx hy
    show (chRes x y).2 = true ∧ isCv y = true ∧ IntKind.i64.wrap ((((chRes x y).1 % 2 ^ IntKind.i64.bits).toNat &&& (ch % 2 ^ IntKind.i64.bits).toNat : Nat) : Int) = (chRes x y).1 ∧ ((chRes x y).1 = 0 → (exRes ps x).1 = true ∧ (exRes ps x).2 = true)
    have hs : sameBut x y = true := by rw [h3]; simp [sameBut, setCv]
    have e2 : chRes x y = (chSum x y, true) := by unfold chRes; rw [if_pos (by simp [hx, h1]), if_pos hs]
    rw [e2]
    refine ⟨rfl, h1, ?_, fun h0 => ?_⟩
    · simp only
      rw [chSum_P4, and_ch _ _ _ _ hr2.1 hr2.2]
      have k : ∀ (b c : Bool) (p : Prop) [Decidable p], (c = false → p) → ((!decide p) && c) = !decide p := fun b c p _ hp => by
        cases c with
        | true => simp
        | false => simp [hp rfl]
      rw [k true _ _ fun hc => (h4 hc).symm, k true _ _ fun hc => (h5 hc).symm, k true _ _ fun hc => (h6 hc).symm, k true _ _ fun hc => (h7 hc).symm]
    · simp only [chSum_P4] at h0
      have hd : x.day = y.day ∧ x.zone = y.zone ∧ x.grams = y.grams ∧ x.paid = y.paid := by
        by_cases d1 : x.day = y.day <;> by_cases d2 : x.zone = y.zone <;> by_cases d3 : x.grams = y.grams <;> by_cases d4 : x.paid = y.paid <;> simp [P4, d1, d2, d3, d4] at h0 ⊢
      have e3 : exRes ps x = (decide ((forGo x.day x.zone x.grams ps).1 = x.paid), true) := by unfold exRes; rw [if_pos (by simp [hv, hx])]
      rw [e3, hd.1, hd.2.1, hd.2.2.1, hd.2.2.2]
      exact ⟨decide_eq_true h2, rfl⟩
theorem best_in (c : C4) {L : List Int} (h : L ≠ []) : (bsRes c L).1 ∈ L := by
  cases L with
  | nil => exact absurd rfl h
  | cons a r =>
    simp only [bsRes]
    rcases bestGo_mem c r a with e | e
    · rw [e]; simp
    · simp [e]
theorem cheap_ok {ps : List Ra} {x : Cv} {c : C4} (h : (ccRes ps x c).2.2 = true) : (mcRes ps x (ccRes ps x c).1).2 = true := by
  by_cases h0 : c4ok c = true
  rotate_left
  · unfold ccRes at h; rw [if_neg h0] at h; cases h
  by_cases hv : areRa ps = true
  rotate_left
  · unfold ccRes at h; rw [if_pos h0, if_neg hv] at h; cases h
  by_cases hx : isCv x = true
  rotate_left
  · unfold ccRes at h; rw [if_pos h0, if_pos hv, if_neg hx] at h; cases h
  by_cases hL : allM ps x = []
  · unfold ccRes at h; rw [if_pos h0, if_pos hv, if_pos hx, if_pos hL] at h; cases h
  have e : (ccRes ps x c).1 = (bsRes c (allM ps x)).1 := by unfold ccRes; rw [if_pos h0, if_pos hv, if_pos hx, if_neg hL]
  obtain ⟨hb, hh⟩ := mem_all.1 (best_in c hL)
  rw [e]
  unfold mcRes
  rw [if_pos hv, if_pos hx, if_pos (by simp only [inR, decide_eq_true_eq]; omega), pairM_snd]
  exact hh

end Go.Proofs.Ytjiffkjeijfilaa
