/- The printings: shares and chances. -/
import Derived.Test.YtegmlgikdniohaaGcd
set_option maxRecDepth 8000
set_option linter.unusedSimpArgs false
set_option linter.unusedVariables false
namespace Go.Proofs.Ytegmlgikdniohaa
open Go Go.RowKit

def sumAll : List Pr → Int → Int
  | [], s => s
  | p :: r, s => sumAll r (IntKind.i64.wrap (s + p.sheets))
theorem isPr_all {ps : List Pr} (h : arePr ps = true) : ∀ p ∈ ps, isPr p = true := fun p hp => by
  obtain ⟨i, hi, rfl⟩ := List.getElem_of_mem hp
  exact arePr_at h hi
theorem isPr_b {p : Pr} (h : isPr p = true) : 1 ≤ p.num ∧ p.num ≤ 99 ∧ 0 ≤ p.day ∧ p.day ≤ 4000 ∧ 1 ≤ p.sheets ∧ p.sheets ≤ 9999 ∧ 0 ≤ p.hue ∧ p.hue ≤ 100 ∧ 0 ≤ p.spread ∧ p.spread ≤ 20 := by
  simp only [isPr, inR, Bool.and_eq_true, decide_eq_true_eq] at h; omega
theorem sumGo_all : ∀ (l : List Pr) (s : Int), (∀ p ∈ l, isPr p = true) → sumGo 4000 l s = sumAll l s
  | [], s, _ => rfl
  | p :: r, s, h => by
    have := isPr_b (h p (by simp))
    simp only [sumGo, sumAll]
    rw [if_pos (by omega), sumGo_all r _ fun q hq => h q (by simp [hq])]
theorem sumAll_b : ∀ (l : List Pr) (s : Int), (∀ p ∈ l, isPr p = true) → 0 ≤ s → s + 9999 * (l.length : Int) ≤ 1000000000000 → s + (l.length : Int) ≤ sumAll l s ∧ sumAll l s ≤ s + 9999 * (l.length : Int)
  | [], s, _, _, _ => by simp [sumAll]
  | p :: r, s, h, h0, hb => by
    have := isPr_b (h p (by simp))
    simp only [List.length_cons] at hb ⊢
    push_cast at hb ⊢
    have hw : IntKind.i64.wrap (s + p.sheets) = s + p.sheets := wrap_id (by omega) (by omega)
    have ih := sumAll_b r (s + p.sheets) (fun q hq => h q (by simp [hq])) (by omega) (by omega)
    simp only [sumAll, hw]
    omega
theorem sumAll_ok {ps : List Pr} (h : arePr ps = true) (h0 : 0 < ps.length) : 0 < sumAll ps 0 ∧ sumAll ps 0 ≤ 9223372036854775807 := by
  have h1 := arePr_len h
  have := sumAll_b ps 0 (isPr_all h) (by omega) (by omega)
  omega
def shRes (ps : List Pr) (n : Int) : Int × Int × Bool := if arePr ps = true then match ps.find? fun p => decide (p.num = n) with
  | none => (0, 0, false)
  | some p => ((frac p.sheets (sumAll ps 0)).1, (frac p.sheets (sumAll ps 0)).2, true) else (0, 0, false)

def q_sh : Con := fun args H K => match args with
  | [ps_v, .c (.int .i64 n)] => ePr.rd H (fun ps => K (.tup [.c (.int .i64 ((shRes ps n).1)), .c (.int .i64 ((shRes ps n).2.1)), .c (.bool ((shRes ps n).2.2))]) H) ps_v
  | _ => False
@[simp ↓] theorem q_sh_eq (ps_v : AV) (n : Int) (H : AHeap) (K : AV → AHeap → Prop) : q_sh [ps_v, .c (.int .i64 n)] H K = (ePr.rd H (fun ps => K (.tup [.c (.int .i64 ((shRes ps n).1)), .c (.int .i64 ((shRes ps n).2.1)), .c (.bool ((shRes ps n).2.2))]) H) ps_v) := rfl

theorem impl_ShareOfSheets_s : Sound Try.prog 16 q_sh := by
  intro args H K h
  unfold q_sh at h
  split at h
  rotate_left
  all_goals first | exact False.elim h | skip
  rename_i ps_v n
  have h1 := Enc.rd_at h
  clear h
  obtain ⟨b_ps, i_ps, k_ps, ps, rfl, hat_ps, h⟩ := h1
  have hE := soundE_cons impl_printingAt_s (soundE_cons impl_arePrintings_s (soundE_cons impl_fraction_s (soundE_nil (P := Try.prog))))
  refine acalls_fn impl_ShareOfSheets_k hE ⟨by simp, fun hwf => ?_⟩
  have hb_ps : b_ps < H.n := (hwf b_ps k_ps hat_ps.blk).1
  have hne_ps : (b_ps = H.n) = False := eq_false (by omega)
  have hne1_ps : ∀ i, (b_ps = H.n + i) = False := fun i => eq_false (by omega)
  have hne2_ps : (b_ps = H.n + 1 + 1) = False ∧ (b_ps = H.n + 1 + 1 + 1) = False ∧ (b_ps = H.n + 1 + 1 + 1 + 1) = False ∧ (b_ps = H.n + 1 + 1 + 1 + 1 + 1) = False ∧ (b_ps = H.n + 1 + 1 + 1 + 1 + 1 + 1) = False ∧ (b_ps = H.n + 1 + 1 + 1 + 1 + 1 + 1 + 1) = False ∧ (b_ps = H.n + 1 + 1 + 1 + 1 + 1 + 1 + 1 + 1) = False ∧ (b_ps = H.n + 1 + 1 + 1 + 1 + 1 + 1 + 1 + 1 + 1) = False ∧ (b_ps = H.n + 1 + 1 + 1 + 1 + 1 + 1 + 1 + 1 + 1 + 1) = False ∧ (b_ps = H.n + 1 + 1 + 1 + 1 + 1 + 1 + 1 + 1 + 1 + 1 + 1) = False ∧ (b_ps = H.n + 1 + 1 + 1 + 1 + 1 + 1 + 1 + 1 + 1 + 1 + 1 + 1) = False := ⟨eq_false (by omega), eq_false (by omega), eq_false (by omega), eq_false (by omega), eq_false (by omega), eq_false (by omega), eq_false (by omega), eq_false (by omega), eq_false (by omega), eq_false (by omega), eq_false (by omega)⟩
  have hmx_ps : ps.length ≤ 9223372036854775807 := by have h1 := (hwf b_ps k_ps hat_ps.blk).2.2; have h2 := hat_ps.len; omega
  rcases ixOf_find (fun p : Pr => decide (p.num = n)) ps with ⟨e, hf⟩ | ⟨m, hm, e, hf, _⟩
  · simp (config := {contextual := true, implicitDefEqProofs := false, maxSteps := 60000}) [-Int.not_le, -Int.not_lt, argsF, impl_ShareOfSheets_c, hat_ps.blk, hat_ps.esz, hat_ps.len, hat_ps.els, hne_ps, hne1_ps, hne2_ps.1, hne2_ps.2.1, hne2_ps.2.2.1, hne2_ps.2.2.2.1, hne2_ps.2.2.2.2.1, hne2_ps.2.2.2.2.2.1, hne2_ps.2.2.2.2.2.2.1, hne2_ps.2.2.2.2.2.2.2.1, hne2_ps.2.2.2.2.2.2.2.2.1, hne2_ps.2.2.2.2.2.2.2.2.2.1, hne2_ps.2.2.2.2.2.2.2.2.2.2, e]
    unfold shRes at h
    simp only [hf, ite_self] at h
    (refine Out.plain hwf ?_ rfl ?_; (repeat first | exact Sub.refl _ | refine Sub.push hwf ?_ _ | refine Sub.set hwf ?_ (by first | exact Nat.le_refl _ | omega | (simp only [push_n, set_n, kill_n]; omega)) _ | refine Sub.kill hwf ?_ (by first | exact Nat.le_refl _ | omega | (simp only [push_n, set_n, kill_n]; omega)))); exact h
  · have hm0 : ((m : Int) < 0) = False := eq_false (by omega)
    have hm1 := idx_lt hm
    have em := hat_ps.get hm
    by_cases hv : arePr ps = true
    rotate_left
    · simp (config := {contextual := true, implicitDefEqProofs := false, maxSteps := 60000}) [-Int.not_le, -Int.not_lt, argsF, impl_ShareOfSheets_c, hat_ps.blk, hat_ps.esz, hat_ps.len, hat_ps.els, hne_ps, hne1_ps, hne2_ps.1, hne2_ps.2.1, hne2_ps.2.2.1, hne2_ps.2.2.2.1, hne2_ps.2.2.2.2.1, hne2_ps.2.2.2.2.2.1, hne2_ps.2.2.2.2.2.2.1, hne2_ps.2.2.2.2.2.2.2.1, hne2_ps.2.2.2.2.2.2.2.2.1, hne2_ps.2.2.2.2.2.2.2.2.2.1, hne2_ps.2.2.2.2.2.2.2.2.2.2, e, hm0, hv]
      unfold shRes at h
      simp only [hv, if_false, reduceCtorEq] at h
      (refine Out.plain hwf ?_ rfl ?_; (repeat first | exact Sub.refl _ | refine Sub.push hwf ?_ _ | refine Sub.set hwf ?_ (by first | exact Nat.le_refl _ | omega | (simp only [push_n, set_n, kill_n]; omega)) _ | refine Sub.kill hwf ?_ (by first | exact Nat.le_refl _ | omega | (simp only [push_n, set_n, kill_n]; omega)))); exact h
    have hb := isPr_b (arePr_at hv hm)
    have hs := sumAll_ok hv (by omega)
    have hsg : sumGo 4000 ps 0 = sumAll ps 0 := sumGo_all ps 0 (isPr_all hv)
    have hb1 : 0 ≤ ps[m].sheets := by omega
    have hb2 : ps[m].sheets ≤ 9223372036854775807 := by omega
    unfold shRes at h
    simp only [hf, hv, if_true] at h
    simp (config := {contextual := true, implicitDefEqProofs := false, maxSteps := 60000}) [-Int.not_le, -Int.not_lt, argsF, impl_ShareOfSheets_c, hat_ps.blk, hat_ps.esz, hat_ps.len, hat_ps.els, hne_ps, hne1_ps, hne2_ps.1, hne2_ps.2.1, hne2_ps.2.2.1, hne2_ps.2.2.2.1, hne2_ps.2.2.2.2.1, hne2_ps.2.2.2.2.2.1, hne2_ps.2.2.2.2.2.2.1, hne2_ps.2.2.2.2.2.2.2.1, hne2_ps.2.2.2.2.2.2.2.2.1, hne2_ps.2.2.2.2.2.2.2.2.2.1, hne2_ps.2.2.2.2.2.2.2.2.2.2, e, hm0, hv]
    refine aloop_list ps (fun j s => [(0, .c (.sl b_ps i_ps ps.length)), (7, .c (.int .i64 ((m : Int)))), (8, .c (.int .i64 (s))), (23, .c (.sl b_ps i_ps ps.length)), (24, .c (.int .i64 ps.length)), (25, .c (.int .i64 (j)))]) (fun j s => H) (fun j l s => sumAll l s = sumAll ps 0) hE _ (0) (rfl) (.same hwf (by simp [frOk, AV.okR, AV.ok1, AC.okR, AV.ren, AV.ren1, AC.ren, AFrame.get, pl1_old, *]; first | done | omega)) (fun j s hlt hi => ?_) fun s hi => ?_
    ·
      have e1 := hat_ps.get hlt
      have hj1 := idx_lt hlt
      have w1 : IntKind.i64.wrap ((j : Int) + 1) = (j : Int) + 1 := wrap_id (by omega) (by omega)
      clear em e hf
      simp (config := {contextual := true, implicitDefEqProofs := false, maxSteps := 60000}) [-Int.not_le, -Int.not_lt, argsF, impl_ShareOfSheets_l0, hat_ps.blk, hat_ps.esz, hat_ps.len, hat_ps.els, hne_ps, hne1_ps, hne2_ps.1, hne2_ps.2.1, hne2_ps.2.2.1, hne2_ps.2.2.2.1, hne2_ps.2.2.2.2.1, hne2_ps.2.2.2.2.2.1, hne2_ps.2.2.2.2.2.2.1, hne2_ps.2.2.2.2.2.2.2.1, hne2_ps.2.2.2.2.2.2.2.2.1, hne2_ps.2.2.2.2.2.2.2.2.2.1, hne2_ps.2.2.2.2.2.2.2.2.2.2, e1, hj1, w1]
      simp only [sumAll] at hi
      repeat' split
      all_goals try simp only [*, if_true, if_false, reduceCtorEq, and_self, and_true, true_and, and_false, false_and, not_true_eq_false, not_false_eq_true] at hi
      all_goals first | ((refine Out.plain hwf ?_ rfl ?_; (repeat first | exact Sub.refl _ | refine Sub.push hwf ?_ _ | refine Sub.set hwf ?_ (by first | exact Nat.le_refl _ | omega | (simp only [push_n, set_n, kill_n]; omega)) _ | refine Sub.kill hwf ?_ (by first | exact Nat.le_refl _ | omega | (simp only [push_n, set_n, kill_n]; omega)))); exact hi) | exact ⟨_, hi, .drop hwf (by (repeat first | exact Sub.refl _ | refine Sub.push hwf ?_ _ | refine Sub.set hwf ?_ (by first | exact Nat.le_refl _ | omega | (simp only [push_n, set_n, kill_n]; omega)) _ | refine Sub.kill hwf ?_ (by first | exact Nat.le_refl _ | omega | (simp only [push_n, set_n, kill_n]; omega)))) (by simp [frOk, AV.okR, AV.ok1, AC.okR, AV.ren, AV.ren1, AC.ren, AFrame.get, pl1_old, *]; first | done | omega)⟩
    ·
      simp only [sumAll] at hi
      subst hi
      simp (config := {contextual := true, implicitDefEqProofs := false, maxSteps := 60000}) [-Int.not_le, -Int.not_lt, argsF, impl_ShareOfSheets_l0, hat_ps.blk, hat_ps.esz, hat_ps.len, hat_ps.els, hne_ps, hne1_ps, hne2_ps.1, hne2_ps.2.1, hne2_ps.2.2.1, hne2_ps.2.2.2.1, hne2_ps.2.2.2.2.1, hne2_ps.2.2.2.2.2.1, hne2_ps.2.2.2.2.2.2.1, hne2_ps.2.2.2.2.2.2.2.1, hne2_ps.2.2.2.2.2.2.2.2.1, hne2_ps.2.2.2.2.2.2.2.2.2.1, hne2_ps.2.2.2.2.2.2.2.2.2.2, hm0, hm1, em, hb1, hb2, hs.1, hs.2]
      (refine Out.plain hwf ?_ rfl ?_; (repeat first | exact Sub.refl _ | refine Sub.push hwf ?_ _ | refine Sub.set hwf ?_ (by first | exact Nat.le_refl _ | omega | (simp only [push_n, set_n, kill_n]; omega)) _ | refine Sub.kill hwf ?_ (by first | exact Nat.le_refl _ | omega | (simp only [push_n, set_n, kill_n]; omega)))); exact h

theorem spec_ShareOfSheets_s : Sound Try.prog 17 q_sh := by
  intro args H K h
  unfold q_sh at h
  split at h
  rotate_left
  all_goals first | exact False.elim h | skip
  rename_i ps_v n
  have h1 := Enc.rd_at h
  clear h
  obtain ⟨b_ps, i_ps, k_ps, ps, rfl, hat_ps, h⟩ := h1
  have hE := soundE_cons spec_l14Find_s (soundE_cons spec_l14Good_s (soundE_cons spec_l14Sum_s (soundE_cons spec_l2Reduce_s (soundE_nil (P := Try.prog)))))
  refine acalls_fn spec_ShareOfSheets_k hE ⟨by simp, fun hwf => ?_⟩
  have hb_ps : b_ps < H.n := (hwf b_ps k_ps hat_ps.blk).1
  have hne_ps : (b_ps = H.n) = False := eq_false (by omega)
  have hne1_ps : ∀ i, (b_ps = H.n + i) = False := fun i => eq_false (by omega)
  have hne2_ps : (b_ps = H.n + 1 + 1) = False ∧ (b_ps = H.n + 1 + 1 + 1) = False ∧ (b_ps = H.n + 1 + 1 + 1 + 1) = False ∧ (b_ps = H.n + 1 + 1 + 1 + 1 + 1) = False ∧ (b_ps = H.n + 1 + 1 + 1 + 1 + 1 + 1) = False ∧ (b_ps = H.n + 1 + 1 + 1 + 1 + 1 + 1 + 1) = False ∧ (b_ps = H.n + 1 + 1 + 1 + 1 + 1 + 1 + 1 + 1) = False ∧ (b_ps = H.n + 1 + 1 + 1 + 1 + 1 + 1 + 1 + 1 + 1) = False ∧ (b_ps = H.n + 1 + 1 + 1 + 1 + 1 + 1 + 1 + 1 + 1 + 1) = False ∧ (b_ps = H.n + 1 + 1 + 1 + 1 + 1 + 1 + 1 + 1 + 1 + 1 + 1) = False ∧ (b_ps = H.n + 1 + 1 + 1 + 1 + 1 + 1 + 1 + 1 + 1 + 1 + 1 + 1) = False := ⟨eq_false (by omega), eq_false (by omega), eq_false (by omega), eq_false (by omega), eq_false (by omega), eq_false (by omega), eq_false (by omega), eq_false (by omega), eq_false (by omega), eq_false (by omega), eq_false (by omega)⟩
  have hmx_ps : ps.length ≤ 9223372036854775807 := by have h1 := (hwf b_ps k_ps hat_ps.blk).2.2; have h2 := hat_ps.len; omega
  rcases ixOf_find (fun p : Pr => decide (p.num = n)) ps with ⟨e, hf⟩ | ⟨m, hm, e, hf, _⟩
  · simp (config := {contextual := true, implicitDefEqProofs := false, maxSteps := 60000}) [-Int.not_le, -Int.not_lt, argsF, spec_ShareOfSheets_c, hat_ps.blk, hat_ps.esz, hat_ps.len, hat_ps.els, hne_ps, hne1_ps, hne2_ps.1, hne2_ps.2.1, hne2_ps.2.2.1, hne2_ps.2.2.2.1, hne2_ps.2.2.2.2.1, hne2_ps.2.2.2.2.2.1, hne2_ps.2.2.2.2.2.2.1, hne2_ps.2.2.2.2.2.2.2.1, hne2_ps.2.2.2.2.2.2.2.2.1, hne2_ps.2.2.2.2.2.2.2.2.2.1, hne2_ps.2.2.2.2.2.2.2.2.2.2, e]
    unfold shRes at h
    simp only [hf, ite_self] at h
    (refine Out.plain hwf ?_ rfl ?_; (repeat first | exact Sub.refl _ | refine Sub.push hwf ?_ _ | refine Sub.set hwf ?_ (by first | exact Nat.le_refl _ | omega | (simp only [push_n, set_n, kill_n]; omega)) _ | refine Sub.kill hwf ?_ (by first | exact Nat.le_refl _ | omega | (simp only [push_n, set_n, kill_n]; omega)))); exact h
  · have hm0 : ((m : Int) < 0) = False := eq_false (by omega)
    have hm1 := idx_lt hm
    have em := hat_ps.get hm
    by_cases hv : arePr ps = true
    rotate_left
    · simp (config := {contextual := true, implicitDefEqProofs := false, maxSteps := 60000}) [-Int.not_le, -Int.not_lt, argsF, spec_ShareOfSheets_c, hat_ps.blk, hat_ps.esz, hat_ps.len, hat_ps.els, hne_ps, hne1_ps, hne2_ps.1, hne2_ps.2.1, hne2_ps.2.2.1, hne2_ps.2.2.2.1, hne2_ps.2.2.2.2.1, hne2_ps.2.2.2.2.2.1, hne2_ps.2.2.2.2.2.2.1, hne2_ps.2.2.2.2.2.2.2.1, hne2_ps.2.2.2.2.2.2.2.2.1, hne2_ps.2.2.2.2.2.2.2.2.2.1, hne2_ps.2.2.2.2.2.2.2.2.2.2, e, hm0, hv]
      unfold shRes at h
      simp only [hv, if_false, reduceCtorEq] at h
      (refine Out.plain hwf ?_ rfl ?_; (repeat first | exact Sub.refl _ | refine Sub.push hwf ?_ _ | refine Sub.set hwf ?_ (by first | exact Nat.le_refl _ | omega | (simp only [push_n, set_n, kill_n]; omega)) _ | refine Sub.kill hwf ?_ (by first | exact Nat.le_refl _ | omega | (simp only [push_n, set_n, kill_n]; omega)))); exact h
    have hb := isPr_b (arePr_at hv hm)
    have hs := sumAll_ok hv (by omega)
    have hsg : sumGo 4000 ps 0 = sumAll ps 0 := sumGo_all ps 0 (isPr_all hv)
    have hb1 : 0 ≤ ps[m].sheets := by omega
    have hb2 : ps[m].sheets ≤ 9223372036854775807 := by omega
    unfold shRes at h
    simp only [hf, hv, if_true] at h
    simp (config := {contextual := true, implicitDefEqProofs := false, maxSteps := 60000}) [-Int.not_le, -Int.not_lt, argsF, spec_ShareOfSheets_c, hat_ps.blk, hat_ps.esz, hat_ps.len, hat_ps.els, hne_ps, hne1_ps, hne2_ps.1, hne2_ps.2.1, hne2_ps.2.2.1, hne2_ps.2.2.2.1, hne2_ps.2.2.2.2.1, hne2_ps.2.2.2.2.2.1, hne2_ps.2.2.2.2.2.2.1, hne2_ps.2.2.2.2.2.2.2.1, hne2_ps.2.2.2.2.2.2.2.2.1, hne2_ps.2.2.2.2.2.2.2.2.2.1, hne2_ps.2.2.2.2.2.2.2.2.2.2, e, hm0, hm, hm1, em, hv, hsg, hb1, hb2, hs.1, hs.2]
    (refine Out.plain hwf ?_ rfl ?_; (repeat first | exact Sub.refl _ | refine Sub.push hwf ?_ _ | refine Sub.set hwf ?_ (by first | exact Nat.le_refl _ | omega | (simp only [push_n, set_n, kill_n]; omega)) _ | refine Sub.kill hwf ?_ (by first | exact Nat.le_refl _ | omega | (simp only [push_n, set_n, kill_n]; omega)))); exact h

def chGo (d t : Int) : List Pr → Int → Int
  | [], s => s
  | p :: r, s => if canBe p d t = true then chGo d t r (IntKind.i64.wrap (s + p.sheets)) else chGo d t r s
theorem chGo_b (d t : Int) : ∀ (l : List Pr) (s : Int), (∀ p ∈ l, isPr p = true) → 0 ≤ s → s + 9999 * (l.length : Int) ≤ 1000000000000 → s ≤ chGo d t l s ∧ chGo d t l s ≤ s + 9999 * (l.length : Int)
  | [], s, _, _, _ => by simp [chGo]
  | p :: r, s, h, h0, hb => by
    have := isPr_b (h p (by simp))
    simp only [List.length_cons] at hb ⊢
    push_cast at hb ⊢
    have hw : IntKind.i64.wrap (s + p.sheets) = s + p.sheets := wrap_id (by omega) (by omega)
    simp only [chGo, hw]
    split
    · have ih := chGo_b d t r (s + p.sheets) (fun q hq => h q (by simp [hq])) (by omega) (by omega)
      omega
    · have ih := chGo_b d t r s (fun q hq => h q (by simp [hq])) (by omega) (by omega)
      omega
theorem chGo_ok {ps : List Pr} (d t : Int) (h : arePr ps = true) : 0 ≤ chGo d t ps 0 ∧ chGo d t ps 0 ≤ 9223372036854775807 := by
  have h1 := arePr_len h
  have := chGo_b d t ps 0 (isPr_all h) (by omega) (by omega)
  omega
def ownGo (m : Nat) (d t : Int) : List Pr → Nat → Int → Int
  | [], _, o => o
  | p :: r, j, o => if canBe p d t = true then if (j : Int) = (m : Int) then ownGo m d t r (j + 1) p.sheets else ownGo m d t r (j + 1) o else ownGo m d t r (j + 1) o
theorem ownGo_past (m : Nat) (d t : Int) : ∀ (l : List Pr) (j : Nat) (o : Int), m < j → ownGo m d t l j o = o
  | [], _, _, _ => rfl
  | p :: r, j, o, h => by
    simp only [ownGo]
    rw [if_neg (show ¬ (j : Int) = (m : Int) by omega), ite_self, ownGo_past m d t r _ o (by omega)]
theorem ownGo_at (m : Nat) (d t : Int) : ∀ (l : List Pr) (j : Nat) (o : Int) (p : Pr), j ≤ m → l[m - j]? = some p → ownGo m d t l j o = if canBe p d t = true then p.sheets else o
  | [], _, _, _, _, h => by simp at h
  | q :: r, j, o, p, hj, h => by
    simp only [ownGo]
    rcases Nat.eq_or_lt_of_le hj with e | hlt
    · subst e
      simp at h
      subst h
      simp only [if_true, ownGo_past _ d t r _ _ (Nat.lt_succ_self j)]
    · rw [if_neg (show ¬ (j : Int) = (m : Int) by omega), ite_self]
      refine ownGo_at m d t r (j + 1) o p (by omega) ?_
      rw [show m - j = (m - (j + 1)) + 1 by omega] at h
      simpa using h
def chRes (ps : List Pr) (n d t : Int) : Int × Int × Bool := if arePr ps = true then match ps.find? fun p => decide (p.num = n) with
  | none => (0, 0, false)
  | some p => if inR d 0 4000 = true then if inR t (-20) 120 = true then if chGo d t ps 0 = 0 then (0, 0, false) else
      if canBe p d t = true then ((frac p.sheets (chGo d t ps 0)).1, (frac p.sheets (chGo d t ps 0)).2, true) else (0, 1, true) else (0, 0, false) else (0, 0, false) else (0, 0, false)

def q_ch : Con := fun args H K => match args with
  | [ps_v, .c (.int .i64 n), .c (.int .i64 d), .c (.int .i64 t)] => ePr.rd H (fun ps => K (.tup [.c (.int .i64 ((chRes ps n d t).1)), .c (.int .i64 ((chRes ps n d t).2.1)), .c (.bool ((chRes ps n d t).2.2))]) H) ps_v
  | _ => False
@[simp ↓] theorem q_ch_eq (ps_v : AV) (n : Int) (d : Int) (t : Int) (H : AHeap) (K : AV → AHeap → Prop) : q_ch [ps_v, .c (.int .i64 n), .c (.int .i64 d), .c (.int .i64 t)] H K = (ePr.rd H (fun ps => K (.tup [.c (.int .i64 ((chRes ps n d t).1)), .c (.int .i64 ((chRes ps n d t).2.1)), .c (.bool ((chRes ps n d t).2.2))]) H) ps_v) := rfl

theorem spec_ChanceOf_s : Sound Try.prog 14 q_ch := by
  intro args H K h
  unfold q_ch at h
  split at h
  rotate_left
  all_goals first | exact False.elim h | skip
  rename_i ps_v n d t
  have h1 := Enc.rd_at h
  clear h
  obtain ⟨b_ps, i_ps, k_ps, ps, rfl, hat_ps, h⟩ := h1
  have hE := soundE_cons spec_l14Find_s (soundE_cons spec_l14Good_s (soundE_cons spec_l2Day_s (soundE_cons spec_l14Tone_s (soundE_cons spec_l14Can_s (soundE_cons spec_l2Reduce_s (soundE_nil (P := Try.prog)))))))
  refine acalls_fn spec_ChanceOf_k hE ⟨by simp, fun hwf => ?_⟩
  have hb_ps : b_ps < H.n := (hwf b_ps k_ps hat_ps.blk).1
  have hne_ps : (b_ps = H.n) = False := eq_false (by omega)
  have hne1_ps : ∀ i, (b_ps = H.n + i) = False := fun i => eq_false (by omega)
  have hne2_ps : (b_ps = H.n + 1 + 1) = False ∧ (b_ps = H.n + 1 + 1 + 1) = False ∧ (b_ps = H.n + 1 + 1 + 1 + 1) = False ∧ (b_ps = H.n + 1 + 1 + 1 + 1 + 1) = False ∧ (b_ps = H.n + 1 + 1 + 1 + 1 + 1 + 1) = False ∧ (b_ps = H.n + 1 + 1 + 1 + 1 + 1 + 1 + 1) = False ∧ (b_ps = H.n + 1 + 1 + 1 + 1 + 1 + 1 + 1 + 1) = False ∧ (b_ps = H.n + 1 + 1 + 1 + 1 + 1 + 1 + 1 + 1 + 1) = False ∧ (b_ps = H.n + 1 + 1 + 1 + 1 + 1 + 1 + 1 + 1 + 1 + 1) = False ∧ (b_ps = H.n + 1 + 1 + 1 + 1 + 1 + 1 + 1 + 1 + 1 + 1 + 1) = False ∧ (b_ps = H.n + 1 + 1 + 1 + 1 + 1 + 1 + 1 + 1 + 1 + 1 + 1 + 1) = False := ⟨eq_false (by omega), eq_false (by omega), eq_false (by omega), eq_false (by omega), eq_false (by omega), eq_false (by omega), eq_false (by omega), eq_false (by omega), eq_false (by omega), eq_false (by omega), eq_false (by omega)⟩
  have hmx_ps : ps.length ≤ 9223372036854775807 := by have h1 := (hwf b_ps k_ps hat_ps.blk).2.2; have h2 := hat_ps.len; omega
  rcases ixOf_find (fun p : Pr => decide (p.num = n)) ps with ⟨e, hf⟩ | ⟨m, hm, e, hf, _⟩
  · simp (config := {contextual := true, implicitDefEqProofs := false, maxSteps := 60000}) [-Int.not_le, -Int.not_lt, argsF, spec_ChanceOf_c, hat_ps.blk, hat_ps.esz, hat_ps.len, hat_ps.els, hne_ps, hne1_ps, hne2_ps.1, hne2_ps.2.1, hne2_ps.2.2.1, hne2_ps.2.2.2.1, hne2_ps.2.2.2.2.1, hne2_ps.2.2.2.2.2.1, hne2_ps.2.2.2.2.2.2.1, hne2_ps.2.2.2.2.2.2.2.1, hne2_ps.2.2.2.2.2.2.2.2.1, hne2_ps.2.2.2.2.2.2.2.2.2.1, hne2_ps.2.2.2.2.2.2.2.2.2.2, e]
    unfold chRes at h
    simp only [hf, ite_self] at h
    (refine Out.plain hwf ?_ rfl ?_; (repeat first | exact Sub.refl _ | refine Sub.push hwf ?_ _ | refine Sub.set hwf ?_ (by first | exact Nat.le_refl _ | omega | (simp only [push_n, set_n, kill_n]; omega)) _ | refine Sub.kill hwf ?_ (by first | exact Nat.le_refl _ | omega | (simp only [push_n, set_n, kill_n]; omega)))); exact h
  · have hm0 : ((m : Int) < 0) = False := eq_false (by omega)
    have hm1 := idx_lt hm
    have em := hat_ps.get hm
    by_cases hv : arePr ps = true
    rotate_left
    · simp (config := {contextual := true, implicitDefEqProofs := false, maxSteps := 60000}) [-Int.not_le, -Int.not_lt, argsF, spec_ChanceOf_c, hat_ps.blk, hat_ps.esz, hat_ps.len, hat_ps.els, hne_ps, hne1_ps, hne2_ps.1, hne2_ps.2.1, hne2_ps.2.2.1, hne2_ps.2.2.2.1, hne2_ps.2.2.2.2.1, hne2_ps.2.2.2.2.2.1, hne2_ps.2.2.2.2.2.2.1, hne2_ps.2.2.2.2.2.2.2.1, hne2_ps.2.2.2.2.2.2.2.2.1, hne2_ps.2.2.2.2.2.2.2.2.2.1, hne2_ps.2.2.2.2.2.2.2.2.2.2, e, hm0, hv]
      unfold chRes at h
      simp only [hv, if_false, reduceCtorEq] at h
      (refine Out.plain hwf ?_ rfl ?_; (repeat first | exact Sub.refl _ | refine Sub.push hwf ?_ _ | refine Sub.set hwf ?_ (by first | exact Nat.le_refl _ | omega | (simp only [push_n, set_n, kill_n]; omega)) _ | refine Sub.kill hwf ?_ (by first | exact Nat.le_refl _ | omega | (simp only [push_n, set_n, kill_n]; omega)))); exact h
    have hb := isPr_b (arePr_at hv hm)
    have hc := chGo_ok d t hv
    have hb1 : 0 ≤ ps[m].sheets := by omega
    have hb2 : ps[m].sheets ≤ 9223372036854775807 := by omega
    unfold chRes at h
    simp only [hf, hv, if_true] at h
    simp (config := {contextual := true, implicitDefEqProofs := false, maxSteps := 60000}) [-Int.not_le, -Int.not_lt, argsF, spec_ChanceOf_c, hat_ps.blk, hat_ps.esz, hat_ps.len, hat_ps.els, hne_ps, hne1_ps, hne2_ps.1, hne2_ps.2.1, hne2_ps.2.2.1, hne2_ps.2.2.2.1, hne2_ps.2.2.2.2.1, hne2_ps.2.2.2.2.2.1, hne2_ps.2.2.2.2.2.2.1, hne2_ps.2.2.2.2.2.2.2.1, hne2_ps.2.2.2.2.2.2.2.2.1, hne2_ps.2.2.2.2.2.2.2.2.2.1, hne2_ps.2.2.2.2.2.2.2.2.2.2, e, hm0, hv]
    repeat' split
    all_goals simp only [*, if_true, if_false, reduceCtorEq] at h
    all_goals first | ((refine Out.plain hwf ?_ rfl ?_; (repeat first | exact Sub.refl _ | refine Sub.push hwf ?_ _ | refine Sub.set hwf ?_ (by first | exact Nat.le_refl _ | omega | (simp only [push_n, set_n, kill_n]; omega)) _ | refine Sub.kill hwf ?_ (by first | exact Nat.le_refl _ | omega | (simp only [push_n, set_n, kill_n]; omega)))); exact h) | skip
    refine aloop_list ps (fun j s => [(0, .c (.sl b_ps i_ps ps.length)), (2, .c (.int .i64 (d))), (3, .c (.int .i64 (t))), (11, .c (.int .i64 ((m : Int)))), (12, .c (.int .i64 (s))), (13, .c (.int .i64 (j)))]) (fun j s => H) (fun j l s => chGo d t l s = chGo d t ps 0) hE _ (0) (rfl) (.same hwf (by simp [frOk, AV.okR, AV.ok1, AC.okR, AV.ren, AV.ren1, AC.ren, AFrame.get, pl1_old, *]; first | done | omega)) (fun j s hlt hi => ?_) fun s hi => ?_
    ·
      have e1 := hat_ps.get hlt
      have hj1 := idx_lt hlt
      have w1 : IntKind.i64.wrap ((j : Int) + 1) = (j : Int) + 1 := wrap_id (by omega) (by omega)
      clear em e hf
      simp (config := {contextual := true, implicitDefEqProofs := false, maxSteps := 60000}) [-Int.not_le, -Int.not_lt, argsF, spec_ChanceOf_l0, hat_ps.blk, hat_ps.esz, hat_ps.len, hat_ps.els, hne_ps, hne1_ps, hne2_ps.1, hne2_ps.2.1, hne2_ps.2.2.1, hne2_ps.2.2.2.1, hne2_ps.2.2.2.2.1, hne2_ps.2.2.2.2.2.1, hne2_ps.2.2.2.2.2.2.1, hne2_ps.2.2.2.2.2.2.2.1, hne2_ps.2.2.2.2.2.2.2.2.1, hne2_ps.2.2.2.2.2.2.2.2.2.1, hne2_ps.2.2.2.2.2.2.2.2.2.2, e1, hj1, w1]
      simp only [chGo] at hi
      repeat' split
      all_goals try simp only [*, if_true, if_false, reduceCtorEq, and_self, and_true, true_and, and_false, false_and, not_true_eq_false, not_false_eq_true] at hi
      all_goals first | ((refine Out.plain hwf ?_ rfl ?_; (repeat first | exact Sub.refl _ | refine Sub.push hwf ?_ _ | refine Sub.set hwf ?_ (by first | exact Nat.le_refl _ | omega | (simp only [push_n, set_n, kill_n]; omega)) _ | refine Sub.kill hwf ?_ (by first | exact Nat.le_refl _ | omega | (simp only [push_n, set_n, kill_n]; omega)))); exact hi) | exact ⟨_, hi, .drop hwf (by (repeat first | exact Sub.refl _ | refine Sub.push hwf ?_ _ | refine Sub.set hwf ?_ (by first | exact Nat.le_refl _ | omega | (simp only [push_n, set_n, kill_n]; omega)) _ | refine Sub.kill hwf ?_ (by first | exact Nat.le_refl _ | omega | (simp only [push_n, set_n, kill_n]; omega)))) (by simp [frOk, AV.okR, AV.ok1, AC.okR, AV.ren, AV.ren1, AC.ren, AFrame.get, pl1_old, *]; first | done | omega)⟩
    ·
      simp only [chGo] at hi
      subst hi
      have hc3 : ∀ h : ¬ chGo d t ps 0 = 0, 0 < chGo d t ps 0 := by omega
      simp (config := {contextual := true, implicitDefEqProofs := false, maxSteps := 60000}) [-Int.not_le, -Int.not_lt, argsF, spec_ChanceOf_l0, hat_ps.blk, hat_ps.esz, hat_ps.len, hat_ps.els, hne_ps, hne1_ps, hne2_ps.1, hne2_ps.2.1, hne2_ps.2.2.1, hne2_ps.2.2.2.1, hne2_ps.2.2.2.2.1, hne2_ps.2.2.2.2.2.1, hne2_ps.2.2.2.2.2.2.1, hne2_ps.2.2.2.2.2.2.2.1, hne2_ps.2.2.2.2.2.2.2.2.1, hne2_ps.2.2.2.2.2.2.2.2.2.1, hne2_ps.2.2.2.2.2.2.2.2.2.2, hm, hm0, hm1, em, hb1, hb2, hc.1, hc.2, hc3]
      repeat' split
      all_goals simp only [*, if_true, if_false, reduceCtorEq, not_true_eq_false, not_false_eq_true] at h
      all_goals ((refine Out.plain hwf ?_ rfl ?_; (repeat first | exact Sub.refl _ | refine Sub.push hwf ?_ _ | refine Sub.set hwf ?_ (by first | exact Nat.le_refl _ | omega | (simp only [push_n, set_n, kill_n]; omega)) _ | refine Sub.kill hwf ?_ (by first | exact Nat.le_refl _ | omega | (simp only [push_n, set_n, kill_n]; omega)))); exact h)

theorem impl_ChanceOf_s : Sound Try.prog 12 q_ch := by
  intro args H K h
  unfold q_ch at h
  split at h
  rotate_left
  all_goals first | exact False.elim h | skip
  rename_i ps_v n d t
  have h1 := Enc.rd_at h
  clear h
  obtain ⟨b_ps, i_ps, k_ps, ps, rfl, hat_ps, h⟩ := h1
  have hE := soundE_cons impl_printingAt_s (soundE_cons impl_arePrintings_s (soundE_cons impl_isDay_s (soundE_cons impl_isTone_s (soundE_cons impl_Printing__canBe_s (soundE_cons impl_fraction_s (soundE_nil (P := Try.prog)))))))
  refine acalls_fn impl_ChanceOf_k hE ⟨by simp, fun hwf => ?_⟩
  have hb_ps : b_ps < H.n := (hwf b_ps k_ps hat_ps.blk).1
  have hne_ps : (b_ps = H.n) = False := eq_false (by omega)
  have hne1_ps : ∀ i, (b_ps = H.n + i) = False := fun i => eq_false (by omega)
  have hne2_ps : (b_ps = H.n + 1 + 1) = False ∧ (b_ps = H.n + 1 + 1 + 1) = False ∧ (b_ps = H.n + 1 + 1 + 1 + 1) = False ∧ (b_ps = H.n + 1 + 1 + 1 + 1 + 1) = False ∧ (b_ps = H.n + 1 + 1 + 1 + 1 + 1 + 1) = False ∧ (b_ps = H.n + 1 + 1 + 1 + 1 + 1 + 1 + 1) = False ∧ (b_ps = H.n + 1 + 1 + 1 + 1 + 1 + 1 + 1 + 1) = False ∧ (b_ps = H.n + 1 + 1 + 1 + 1 + 1 + 1 + 1 + 1 + 1) = False ∧ (b_ps = H.n + 1 + 1 + 1 + 1 + 1 + 1 + 1 + 1 + 1 + 1) = False ∧ (b_ps = H.n + 1 + 1 + 1 + 1 + 1 + 1 + 1 + 1 + 1 + 1 + 1) = False ∧ (b_ps = H.n + 1 + 1 + 1 + 1 + 1 + 1 + 1 + 1 + 1 + 1 + 1 + 1) = False := ⟨eq_false (by omega), eq_false (by omega), eq_false (by omega), eq_false (by omega), eq_false (by omega), eq_false (by omega), eq_false (by omega), eq_false (by omega), eq_false (by omega), eq_false (by omega), eq_false (by omega)⟩
  have hmx_ps : ps.length ≤ 9223372036854775807 := by have h1 := (hwf b_ps k_ps hat_ps.blk).2.2; have h2 := hat_ps.len; omega
  rcases ixOf_find (fun p : Pr => decide (p.num = n)) ps with ⟨e, hf⟩ | ⟨m, hm, e, hf, _⟩
  · simp (config := {contextual := true, implicitDefEqProofs := false, maxSteps := 60000}) [-Int.not_le, -Int.not_lt, argsF, impl_ChanceOf_c, hat_ps.blk, hat_ps.esz, hat_ps.len, hat_ps.els, hne_ps, hne1_ps, hne2_ps.1, hne2_ps.2.1, hne2_ps.2.2.1, hne2_ps.2.2.2.1, hne2_ps.2.2.2.2.1, hne2_ps.2.2.2.2.2.1, hne2_ps.2.2.2.2.2.2.1, hne2_ps.2.2.2.2.2.2.2.1, hne2_ps.2.2.2.2.2.2.2.2.1, hne2_ps.2.2.2.2.2.2.2.2.2.1, hne2_ps.2.2.2.2.2.2.2.2.2.2, e]
    unfold chRes at h
    simp only [hf, ite_self] at h
    (refine Out.plain hwf ?_ rfl ?_; (repeat first | exact Sub.refl _ | refine Sub.push hwf ?_ _ | refine Sub.set hwf ?_ (by first | exact Nat.le_refl _ | omega | (simp only [push_n, set_n, kill_n]; omega)) _ | refine Sub.kill hwf ?_ (by first | exact Nat.le_refl _ | omega | (simp only [push_n, set_n, kill_n]; omega)))); exact h
  · have hm0 : ((m : Int) < 0) = False := eq_false (by omega)
    have hm1 := idx_lt hm
    have em := hat_ps.get hm
    by_cases hv : arePr ps = true
    rotate_left
    · simp (config := {contextual := true, implicitDefEqProofs := false, maxSteps := 60000}) [-Int.not_le, -Int.not_lt, argsF, impl_ChanceOf_c, hat_ps.blk, hat_ps.esz, hat_ps.len, hat_ps.els, hne_ps, hne1_ps, hne2_ps.1, hne2_ps.2.1, hne2_ps.2.2.1, hne2_ps.2.2.2.1, hne2_ps.2.2.2.2.1, hne2_ps.2.2.2.2.2.1, hne2_ps.2.2.2.2.2.2.1, hne2_ps.2.2.2.2.2.2.2.1, hne2_ps.2.2.2.2.2.2.2.2.1, hne2_ps.2.2.2.2.2.2.2.2.2.1, hne2_ps.2.2.2.2.2.2.2.2.2.2, e, hm0, hv]
      unfold chRes at h
      simp only [hv, if_false, reduceCtorEq] at h
      (refine Out.plain hwf ?_ rfl ?_; (repeat first | exact Sub.refl _ | refine Sub.push hwf ?_ _ | refine Sub.set hwf ?_ (by first | exact Nat.le_refl _ | omega | (simp only [push_n, set_n, kill_n]; omega)) _ | refine Sub.kill hwf ?_ (by first | exact Nat.le_refl _ | omega | (simp only [push_n, set_n, kill_n]; omega)))); exact h
    have hb := isPr_b (arePr_at hv hm)
    have hc := chGo_ok d t hv
    have hb1 : 0 ≤ ps[m].sheets := by omega
    have hb2 : ps[m].sheets ≤ 9223372036854775807 := by omega
    unfold chRes at h
    simp only [hf, hv, if_true] at h
    simp (config := {contextual := true, implicitDefEqProofs := false, maxSteps := 60000}) [-Int.not_le, -Int.not_lt, argsF, impl_ChanceOf_c, hat_ps.blk, hat_ps.esz, hat_ps.len, hat_ps.els, hne_ps, hne1_ps, hne2_ps.1, hne2_ps.2.1, hne2_ps.2.2.1, hne2_ps.2.2.2.1, hne2_ps.2.2.2.2.1, hne2_ps.2.2.2.2.2.1, hne2_ps.2.2.2.2.2.2.1, hne2_ps.2.2.2.2.2.2.2.1, hne2_ps.2.2.2.2.2.2.2.2.1, hne2_ps.2.2.2.2.2.2.2.2.2.1, hne2_ps.2.2.2.2.2.2.2.2.2.2, e, hm0, hv]
    repeat' split
    all_goals simp only [*, if_true, if_false, reduceCtorEq] at h
    all_goals first | ((refine Out.plain hwf ?_ rfl ?_; (repeat first | exact Sub.refl _ | refine Sub.push hwf ?_ _ | refine Sub.set hwf ?_ (by first | exact Nat.le_refl _ | omega | (simp only [push_n, set_n, kill_n]; omega)) _ | refine Sub.kill hwf ?_ (by first | exact Nat.le_refl _ | omega | (simp only [push_n, set_n, kill_n]; omega)))); exact h) | skip
    refine aloop_list2 ps (fun j s o => [(2, .c (.int .i64 (d))), (3, .c (.int .i64 (t))), (11, .c (.int .i64 ((m : Int)))), (12, .c (.int .i64 (s))), (13, .c (.int .i64 (o))), (38, .c (.sl b_ps i_ps ps.length)), (39, .c (.int .i64 ps.length)), (40, .c (.int .i64 (j)))]) (fun j s o => H) (fun j l s o => (ownGo m d t l j o = ownGo m d t ps 0 0) ∧ chGo d t l s = chGo d t ps 0) hE _ (0) (0) (⟨rfl, rfl⟩) (.same hwf (by simp [frOk, AV.okR, AV.ok1, AC.okR, AV.ren, AV.ren1, AC.ren, AFrame.get, pl1_old, *]; first | done | omega)) (fun j s o hlt hi => ?_) fun s o hi => ?_
    ·
      have e1 := hat_ps.get hlt
      have hj1 := idx_lt hlt
      have w1 : IntKind.i64.wrap ((j : Int) + 1) = (j : Int) + 1 := wrap_id (by omega) (by omega)
      obtain ⟨hs, hi⟩ := hi
      clear em e hf
      have wm : IntKind.i64.wrap ((m : Int) + 1) = (m : Int) + 1 := wrap_id (by omega) (by omega)
      simp (config := {contextual := true, implicitDefEqProofs := false, maxSteps := 60000}) [-Int.not_le, -Int.not_lt, argsF, impl_ChanceOf_l0, hat_ps.blk, hat_ps.esz, hat_ps.len, hat_ps.els, hne_ps, hne1_ps, hne2_ps.1, hne2_ps.2.1, hne2_ps.2.2.1, hne2_ps.2.2.2.1, hne2_ps.2.2.2.2.1, hne2_ps.2.2.2.2.2.1, hne2_ps.2.2.2.2.2.2.1, hne2_ps.2.2.2.2.2.2.2.1, hne2_ps.2.2.2.2.2.2.2.2.1, hne2_ps.2.2.2.2.2.2.2.2.2.1, hne2_ps.2.2.2.2.2.2.2.2.2.2, e1, hj1, w1]
      simp only [chGo, ownGo] at hi hs
      repeat' split
      all_goals try simp only [*, if_true, if_false, reduceCtorEq] at hi hs
      all_goals exact ⟨_, _, ⟨hs, hi⟩, .drop hwf (by (repeat first | exact Sub.refl _ | refine Sub.push hwf ?_ _ | refine Sub.set hwf ?_ (by first | exact Nat.le_refl _ | omega | (simp only [push_n, set_n, kill_n]; omega)) _ | refine Sub.kill hwf ?_ (by first | exact Nat.le_refl _ | omega | (simp only [push_n, set_n, kill_n]; omega)))) (by simp [frOk, AV.okR, AV.ok1, AC.okR, AV.ren, AV.ren1, AC.ren, AFrame.get, pl1_old, *]; first | done | omega)⟩
    ·
      obtain ⟨hs, hi⟩ := hi
      simp only [chGo, ownGo] at hi hs
      subst hi hs
      have ho := ownGo_at m d t ps 0 0 ps[m] (Nat.zero_le m) (by simp [hm])
      simp (config := {contextual := true, implicitDefEqProofs := false, maxSteps := 60000}) [-Int.not_le, -Int.not_lt, argsF, impl_ChanceOf_l0, hat_ps.blk, hat_ps.esz, hat_ps.len, hat_ps.els, hne_ps, hne1_ps, hne2_ps.1, hne2_ps.2.1, hne2_ps.2.2.1, hne2_ps.2.2.2.1, hne2_ps.2.2.2.2.1, hne2_ps.2.2.2.2.2.1, hne2_ps.2.2.2.2.2.2.1, hne2_ps.2.2.2.2.2.2.2.1, hne2_ps.2.2.2.2.2.2.2.2.1, hne2_ps.2.2.2.2.2.2.2.2.2.1, hne2_ps.2.2.2.2.2.2.2.2.2.2, hm, hm0, hm1, em, hb1, hb2, hc.1, hc.2]
      rw [ho]
      by_cases hc0 : chGo d t ps 0 = 0
      · simp only [hc0, if_true] at h ⊢
        (refine Out.plain hwf ?_ rfl ?_; (repeat first | exact Sub.refl _ | refine Sub.push hwf ?_ _ | refine Sub.set hwf ?_ (by first | exact Nat.le_refl _ | omega | (simp only [push_n, set_n, kill_n]; omega)) _ | refine Sub.kill hwf ?_ (by first | exact Nat.le_refl _ | omega | (simp only [push_n, set_n, kill_n]; omega)))); exact h
      · have hc1 : 0 < chGo d t ps 0 := by omega
        rw [if_neg hc0] at h ⊢
        by_cases hcb : canBe ps[m] d t = true
        · rw [if_pos hcb] at h ⊢
          refine ⟨hb1, hb2, hc1, ?_⟩
          (refine Out.plain hwf ?_ rfl ?_; (repeat first | exact Sub.refl _ | refine Sub.push hwf ?_ _ | refine Sub.set hwf ?_ (by first | exact Nat.le_refl _ | omega | (simp only [push_n, set_n, kill_n]; omega)) _ | refine Sub.kill hwf ?_ (by first | exact Nat.le_refl _ | omega | (simp only [push_n, set_n, kill_n]; omega)))); exact h
        · rw [if_neg hcb] at h ⊢
          refine ⟨by omega, by omega, hc1, ?_⟩
          rw [frac_0 hc1]
          (refine Out.plain hwf ?_ rfl ?_; (repeat first | exact Sub.refl _ | refine Sub.push hwf ?_ _ | refine Sub.set hwf ?_ (by first | exact Nat.le_refl _ | omega | (simp only [push_n, set_n, kill_n]; omega)) _ | refine Sub.kill hwf ?_ (by first | exact Nat.le_refl _ | omega | (simp only [push_n, set_n, kill_n]; omega)))); exact h

end Go.Proofs.Ytegmlgikdniohaa
