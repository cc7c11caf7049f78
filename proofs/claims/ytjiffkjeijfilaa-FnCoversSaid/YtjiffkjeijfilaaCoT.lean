/- Rates: a valid list. -/
import Derived.Test.YtjiffkjeijfilaaCoS
set_option maxRecDepth 8000
set_option linter.unusedSimpArgs false
set_option linter.unusedVariables false
namespace Go.Proofs.Ytjiffkjeijfilaa
open Go Go.RowKit

set_option maxHeartbeats 4000000

def q_areRa : Con := fun args H K => match args with
  | [ps_v] => eRa.rd H (fun ps => K (.c (.bool (areRa ps))) H) ps_v
  | _ => False
@[simp ↓] theorem q_areRa_eq (ps_v : AV) (H : AHeap) (K : AV → AHeap → Prop) : q_areRa [ps_v] H K = (eRa.rd H (fun ps => K (.c (.bool (areRa ps))) H) ps_v) := rfl

theorem impl_areRates_s : Sound Try.prog 70 q_areRa := by
  intro args H K h
  unfold q_areRa at h
  split at h
  rotate_left
  all_goals first | exact False.elim h | skip
  rename_i ps_v
  have h1 := Enc.rd_at h
  clear h
  obtain ⟨b_ps, i_ps, k_ps, ps, rfl, hat_ps, h⟩ := h1
  have hE := soundE_cons impl_isRate_s (soundE_cons cmp_Compare_int_s (soundE_cons cmp_Or_int_s (soundE_nil (P := Try.prog))))
  refine acalls_fn impl_areRates_k hE ⟨by simp, fun hwf => ?_⟩
  have hb_ps : b_ps < H.n := (hwf b_ps k_ps hat_ps.blk).1
  have hne_ps : (b_ps = H.n) = False := eq_false (by omega)
  have hne1_ps : ∀ i, (b_ps = H.n + i) = False := fun i => eq_false (by omega)
  have hne2_ps : (b_ps = H.n + 1 + 1) = False ∧ (b_ps = H.n + 1 + 1 + 1) = False ∧ (b_ps = H.n + 1 + 1 + 1 + 1) = False ∧ (b_ps = H.n + 1 + 1 + 1 + 1 + 1) = False ∧ (b_ps = H.n + 1 + 1 + 1 + 1 + 1 + 1) = False ∧ (b_ps = H.n + 1 + 1 + 1 + 1 + 1 + 1 + 1) = False ∧ (b_ps = H.n + 1 + 1 + 1 + 1 + 1 + 1 + 1 + 1) = False ∧ (b_ps = H.n + 1 + 1 + 1 + 1 + 1 + 1 + 1 + 1 + 1) = False ∧ (b_ps = H.n + 1 + 1 + 1 + 1 + 1 + 1 + 1 + 1 + 1 + 1) = False ∧ (b_ps = H.n + 1 + 1 + 1 + 1 + 1 + 1 + 1 + 1 + 1 + 1 + 1) = False ∧ (b_ps = H.n + 1 + 1 + 1 + 1 + 1 + 1 + 1 + 1 + 1 + 1 + 1 + 1) = False := ⟨eq_false (by omega), eq_false (by omega), eq_false (by omega), eq_false (by omega), eq_false (by omega), eq_false (by omega), eq_false (by omega), eq_false (by omega), eq_false (by omega), eq_false (by omega), eq_false (by omega)⟩
  have hmx_ps : ps.length ≤ 9223372036854775807 := by have h1 := (hwf b_ps k_ps hat_ps.blk).2.2; have h2 := hat_ps.len; omega
  simp (config := {contextual := true, implicitDefEqProofs := false, maxSteps := 60000}) [-Int.not_le, -Int.not_lt, argsF, impl_areRates_c, hat_ps.blk, hat_ps.esz, hat_ps.len, hat_ps.els, hne_ps, hne1_ps, hne2_ps.1, hne2_ps.2.1, hne2_ps.2.2.1, hne2_ps.2.2.2.1, hne2_ps.2.2.2.2.1, hne2_ps.2.2.2.2.2.1, hne2_ps.2.2.2.2.2.2.1, hne2_ps.2.2.2.2.2.2.2.1, hne2_ps.2.2.2.2.2.2.2.2.1, hne2_ps.2.2.2.2.2.2.2.2.2.1, hne2_ps.2.2.2.2.2.2.2.2.2.2]
  refine aloop_list ps (fun j _ => [(0, .c (.sl b_ps i_ps ps.length)), (7, .c (.sl b_ps i_ps ps.length)), (8, .c (.int .i64 ps.length)), (9, .c (.int .i64 (j)))]) (fun j _ => H) (fun j l _ => (∀ p, prevOf ps j = some p → isRa p = true) ∧ K (.c (.bool (raGo (prevOf ps j) l && decide (ps.length ≤ 16)))) H) hE _ () (⟨fun p hp => (by cases hp), by exact h⟩) (.same hwf (by simp [frOk, AV.okR, AV.ok1, AC.okR, AV.ren, AV.ren1, AC.ren, AFrame.get, pl1_old, *]; first | done | rfl | omega)) (fun j _ hlt hi => ?_) fun _ hi => ?_
  ·
    obtain ⟨hs, hi⟩ := hi
    have hpn := prevOf_succ hlt
    cases j with
    | zero =>
      have e1 := hat_ps.get hlt
      rw [Nat.add_zero] at e1
      have h0i : (0 : Int) < (ps.length : Int) := by omega
      simp (config := {contextual := true, implicitDefEqProofs := false, maxSteps := 60000}) [-Int.not_le, -Int.not_lt, argsF, impl_areRates_l0, hat_ps.blk, hat_ps.esz, hat_ps.len, hat_ps.els, hne_ps, hne1_ps, hne2_ps.1, hne2_ps.2.1, hne2_ps.2.2.1, hne2_ps.2.2.2.1, hne2_ps.2.2.2.2.1, hne2_ps.2.2.2.2.2.1, hne2_ps.2.2.2.2.2.2.1, hne2_ps.2.2.2.2.2.2.2.1, hne2_ps.2.2.2.2.2.2.2.2.1, hne2_ps.2.2.2.2.2.2.2.2.2.1, hne2_ps.2.2.2.2.2.2.2.2.2.2, e1, hlt, h0i, wrap_1]
      simp only [prevOf_0, raGo, decide_eq_true_eq] at hi
      try simp only [ite_not]
      repeat' split
      all_goals try simp only [*, if_true, if_false, reduceCtorEq, Bool.true_and, Bool.false_and, Bool.and_false, Bool.and_true, and_self, and_true, true_and, and_false, false_and, not_true_eq_false, not_false_eq_true] at hi
      all_goals first | ((refine Out.plain hwf ?_ rfl ?_; (repeat first | exact Sub.refl _ | refine Sub.push hwf ?_ _ | refine Sub.set hwf ?_ (by first | exact Nat.le_refl _ | omega | (simp only [push_n, set_n, kill_n]; omega)) _ | refine Sub.kill hwf ?_ (by first | exact Nat.le_refl _ | omega | (simp only [push_n, set_n, kill_n]; omega)))); exact hi) | exact ⟨(), ⟨fun p hp => (by rw [hpn] at hp; cases hp; assumption), by rw [hpn]; exact hi⟩, .drop hwf (by (repeat first | exact Sub.refl _ | refine Sub.push hwf ?_ _ | refine Sub.set hwf ?_ (by first | exact Nat.le_refl _ | omega | (simp only [push_n, set_n, kill_n]; omega)) _ | refine Sub.kill hwf ?_ (by first | exact Nat.le_refl _ | omega | (simp only [push_n, set_n, kill_n]; omega)))) (by simp [frOk, AV.okR, AV.ok1, AC.okR, AV.ren, AV.ren1, AC.ren, AFrame.get, pl1_old, *]; first | done | rfl | omega)⟩ | ((refine Out.plain hwf ?_ rfl ?_; (repeat first | exact Sub.refl _ | refine Sub.push hwf ?_ _ | refine Sub.set hwf ?_ (by first | exact Nat.le_refl _ | omega | (simp only [push_n, set_n, kill_n]; omega)) _ | refine Sub.kill hwf ?_ (by first | exact Nat.le_refl _ | omega | (simp only [push_n, set_n, kill_n]; omega)))); simpa using hi)
    | succ j =>
      have hj := Nat.lt_of_succ_lt hlt
      have e1 := hat_ps.get hlt
      have e0 := hat_ps.get hj
      have hpp := prevOf_succ hj
      rw [hpp] at hi
      try rw [hpp] at hs
      have hj1 : (j : Int) + 1 < (ps.length : Int) := by omega
      have hj2 : (j : Int) < (ps.length : Int) := by omega
      have hj3 : (0 : Int) ≤ (j : Int) + 1 := by omega
      have hj4 : (0 : Int) < (j : Int) + 1 := by omega
      have ej : ((j : Int) + 1).toNat = j + 1 := by omega
      have w0 : IntKind.i64.wrap (j : Int) = (j : Int) := wrap_id (by omega) (by omega)
      have w1 : IntKind.i64.wrap ((j : Int) + 1 + 1) = (j : Int) + 1 + 1 := wrap_id (by omega) (by omega)
      have hj5 : ((j : Int) + 1 = 0) = False := eq_false (by omega)
      simp (config := {contextual := true, implicitDefEqProofs := false, maxSteps := 60000}) [-Int.not_le, -Int.not_lt, argsF, impl_areRates_l0, hat_ps.blk, hat_ps.esz, hat_ps.len, hat_ps.els, hne_ps, hne1_ps, hne2_ps.1, hne2_ps.2.1, hne2_ps.2.2.1, hne2_ps.2.2.2.1, hne2_ps.2.2.2.2.1, hne2_ps.2.2.2.2.2.1, hne2_ps.2.2.2.2.2.2.1, hne2_ps.2.2.2.2.2.2.2.1, hne2_ps.2.2.2.2.2.2.2.2.1, hne2_ps.2.2.2.2.2.2.2.2.2.1, hne2_ps.2.2.2.2.2.2.2.2.2.2, e1, e0, hlt, hj, hj1, hj2, hj3, hj4, ej, w0, w1, hj5]
      by_cases hx : isRa ps[j + 1] = true
      rotate_left
      · simp only [raGo, hx, if_false, if_true, reduceCtorEq, Bool.false_and] at hi ⊢
        (refine Out.plain hwf ?_ rfl ?_; (repeat first | exact Sub.refl _ | refine Sub.push hwf ?_ _ | refine Sub.set hwf ?_ (by first | exact Nat.le_refl _ | omega | (simp only [push_n, set_n, kill_n]; omega)) _ | refine Sub.kill hwf ?_ (by first | exact Nat.le_refl _ | omega | (simp only [push_n, set_n, kill_n]; omega)))); exact hi
      have hp := hs _ rfl
      simp only [raGo, hx, if_true] at hi ⊢
      
      have hor : orI [cmpI ps[j].zone ps[j + 1].zone, cmpI ps[j].grams ps[j + 1].grams] = if ps[j].zone < ps[j + 1].zone then -1 else if ps[j + 1].zone < ps[j].zone then 1 else if ps[j].grams < ps[j + 1].grams then -1 else if ps[j + 1].grams < ps[j].grams then 1 else 0 := by
        simp only [orI, cmpI]
        repeat' split
        all_goals omega
      have hV : okRa ps[j] ps[j + 1] = true ↔ (orI [cmpI ps[j].zone ps[j + 1].zone, cmpI ps[j].grams ps[j + 1].grams] < 0 ∨ (orI [cmpI ps[j].zone ps[j + 1].zone, cmpI ps[j].grams ps[j + 1].grams] = 0 ∧ ps[j].til < ps[j + 1].frm)) := by
        rw [hor]
        simp only [okRa, Bool.or_eq_true, Bool.and_eq_true, decide_eq_true_eq]
        repeat' split
        all_goals omega
      generalize orI [cmpI ps[j].zone ps[j + 1].zone, cmpI ps[j].grams ps[j + 1].grams] = V at hV ⊢
      cases hk : okRa ps[j] ps[j + 1]
      · simp only [hk, if_false, reduceCtorEq, Bool.false_and] at hi
        have hV' : ¬ (V < 0 ∨ (V = 0 ∧ ps[j].til < ps[j + 1].frm)) := fun h0 => by rw [hV.2 h0] at hk; cases hk
        repeat' (refine ite_i (fun _ => ?_) (fun _ => ?_))
        all_goals first | (exfalso; omega) | ((refine Out.plain hwf ?_ rfl ?_; (repeat first | exact Sub.refl _ | refine Sub.push hwf ?_ _ | refine Sub.set hwf ?_ (by first | exact Nat.le_refl _ | omega | (simp only [push_n, set_n, kill_n]; omega)) _ | refine Sub.kill hwf ?_ (by first | exact Nat.le_refl _ | omega | (simp only [push_n, set_n, kill_n]; omega)))); exact hi)
      · simp only [hk, if_true] at hi
        have hV' := hV.1 hk
        repeat' (refine ite_i (fun _ => ?_) (fun _ => ?_))
        all_goals first | (exfalso; omega) | exact ⟨(), ⟨fun p hp => (by rw [hpn] at hp; cases hp; assumption), by rw [hpn]; exact hi⟩, .drop hwf (by (repeat first | exact Sub.refl _ | refine Sub.push hwf ?_ _ | refine Sub.set hwf ?_ (by first | exact Nat.le_refl _ | omega | (simp only [push_n, set_n, kill_n]; omega)) _ | refine Sub.kill hwf ?_ (by first | exact Nat.le_refl _ | omega | (simp only [push_n, set_n, kill_n]; omega)))) (by simp [frOk, AV.okR, AV.ok1, AC.okR, AV.ren, AV.ren1, AC.ren, AFrame.get, pl1_old, *]; first | done | rfl | omega)⟩
  ·
    obtain ⟨hs, hi⟩ := hi
    simp (config := {contextual := true, implicitDefEqProofs := false, maxSteps := 60000}) [-Int.not_le, -Int.not_lt, argsF, impl_areRates_l0]
    simp only [prevOf_0, raGo, decide_eq_true_eq] at hi
    rw [Bool.true_and] at hi
    (refine Out.plain hwf ?_ rfl ?_; (repeat first | exact Sub.refl _ | refine Sub.push hwf ?_ _ | refine Sub.set hwf ?_ (by first | exact Nat.le_refl _ | omega | (simp only [push_n, set_n, kill_n]; omega)) _ | refine Sub.kill hwf ?_ (by first | exact Nat.le_refl _ | omega | (simp only [push_n, set_n, kill_n]; omega))))
    have e : decide ((ps.length : Int) ≤ 16) = decide (ps.length ≤ 16) := by rw [decide_eq_decide]; omega
    rw [e]; exact hi

theorem spec_l8Good_s : Sound Try.prog 74 q_areRa := by
  intro args H K h
  unfold q_areRa at h
  split at h
  rotate_left
  all_goals first | exact False.elim h | skip
  rename_i ps_v
  have h1 := Enc.rd_at h
  clear h
  obtain ⟨b_ps, i_ps, k_ps, ps, rfl, hat_ps, h⟩ := h1
  have hE := soundE_cons spec_l8One_s (soundE_cons spec_l8Code_s (soundE_nil (P := Try.prog)))
  refine acalls_fn spec_l8Good_k hE ⟨by simp, fun hwf => ?_⟩
  have hb_ps : b_ps < H.n := (hwf b_ps k_ps hat_ps.blk).1
  have hne_ps : (b_ps = H.n) = False := eq_false (by omega)
  have hne1_ps : ∀ i, (b_ps = H.n + i) = False := fun i => eq_false (by omega)
  have hne2_ps : (b_ps = H.n + 1 + 1) = False ∧ (b_ps = H.n + 1 + 1 + 1) = False ∧ (b_ps = H.n + 1 + 1 + 1 + 1) = False ∧ (b_ps = H.n + 1 + 1 + 1 + 1 + 1) = False ∧ (b_ps = H.n + 1 + 1 + 1 + 1 + 1 + 1) = False ∧ (b_ps = H.n + 1 + 1 + 1 + 1 + 1 + 1 + 1) = False ∧ (b_ps = H.n + 1 + 1 + 1 + 1 + 1 + 1 + 1 + 1) = False ∧ (b_ps = H.n + 1 + 1 + 1 + 1 + 1 + 1 + 1 + 1 + 1) = False ∧ (b_ps = H.n + 1 + 1 + 1 + 1 + 1 + 1 + 1 + 1 + 1 + 1) = False ∧ (b_ps = H.n + 1 + 1 + 1 + 1 + 1 + 1 + 1 + 1 + 1 + 1 + 1) = False ∧ (b_ps = H.n + 1 + 1 + 1 + 1 + 1 + 1 + 1 + 1 + 1 + 1 + 1 + 1) = False := ⟨eq_false (by omega), eq_false (by omega), eq_false (by omega), eq_false (by omega), eq_false (by omega), eq_false (by omega), eq_false (by omega), eq_false (by omega), eq_false (by omega), eq_false (by omega), eq_false (by omega)⟩
  have hmx_ps : ps.length ≤ 9223372036854775807 := by have h1 := (hwf b_ps k_ps hat_ps.blk).2.2; have h2 := hat_ps.len; omega
  simp (config := {contextual := true, implicitDefEqProofs := false, maxSteps := 60000}) [-Int.not_le, -Int.not_lt, argsF, spec_l8Good_c, hat_ps.blk, hat_ps.esz, hat_ps.len, hat_ps.els, hne_ps, hne1_ps, hne2_ps.1, hne2_ps.2.1, hne2_ps.2.2.1, hne2_ps.2.2.2.1, hne2_ps.2.2.2.2.1, hne2_ps.2.2.2.2.2.1, hne2_ps.2.2.2.2.2.2.1, hne2_ps.2.2.2.2.2.2.2.1, hne2_ps.2.2.2.2.2.2.2.2.1, hne2_ps.2.2.2.2.2.2.2.2.2.1, hne2_ps.2.2.2.2.2.2.2.2.2.2]
  refine aloop_list ps (fun j _ => [(0, .c (.sl b_ps i_ps ps.length)), (3, .c (.int .i64 (j)))]) (fun j _ => H) (fun j l _ => (∀ p, prevOf ps j = some p → isRa p = true) ∧ K (.c (.bool (raGo (prevOf ps j) l && decide (ps.length ≤ 16)))) H) hE _ () (⟨fun p hp => (by cases hp), by exact h⟩) (.same hwf (by simp [frOk, AV.okR, AV.ok1, AC.okR, AV.ren, AV.ren1, AC.ren, AFrame.get, pl1_old, *]; first | done | rfl | omega)) (fun j _ hlt hi => ?_) fun _ hi => ?_
  ·
    obtain ⟨hs, hi⟩ := hi
    have hpn := prevOf_succ hlt
    cases j with
    | zero =>
      have e1 := hat_ps.get hlt
      rw [Nat.add_zero] at e1
      have h0i : (0 : Int) < (ps.length : Int) := by omega
      simp (config := {contextual := true, implicitDefEqProofs := false, maxSteps := 60000}) [-Int.not_le, -Int.not_lt, argsF, spec_l8Good_l0, hat_ps.blk, hat_ps.esz, hat_ps.len, hat_ps.els, hne_ps, hne1_ps, hne2_ps.1, hne2_ps.2.1, hne2_ps.2.2.1, hne2_ps.2.2.2.1, hne2_ps.2.2.2.2.1, hne2_ps.2.2.2.2.2.1, hne2_ps.2.2.2.2.2.2.1, hne2_ps.2.2.2.2.2.2.2.1, hne2_ps.2.2.2.2.2.2.2.2.1, hne2_ps.2.2.2.2.2.2.2.2.2.1, hne2_ps.2.2.2.2.2.2.2.2.2.2, e1, hlt, h0i, wrap_1]
      simp only [prevOf_0, raGo, decide_eq_true_eq] at hi
      try simp only [ite_not]
      repeat' split
      all_goals try simp only [*, if_true, if_false, reduceCtorEq, Bool.true_and, Bool.false_and, Bool.and_false, Bool.and_true, and_self, and_true, true_and, and_false, false_and, not_true_eq_false, not_false_eq_true] at hi
      all_goals first | ((refine Out.plain hwf ?_ rfl ?_; (repeat first | exact Sub.refl _ | refine Sub.push hwf ?_ _ | refine Sub.set hwf ?_ (by first | exact Nat.le_refl _ | omega | (simp only [push_n, set_n, kill_n]; omega)) _ | refine Sub.kill hwf ?_ (by first | exact Nat.le_refl _ | omega | (simp only [push_n, set_n, kill_n]; omega)))); exact hi) | exact ⟨(), ⟨fun p hp => (by rw [hpn] at hp; cases hp; assumption), by rw [hpn]; exact hi⟩, .drop hwf (by (repeat first | exact Sub.refl _ | refine Sub.push hwf ?_ _ | refine Sub.set hwf ?_ (by first | exact Nat.le_refl _ | omega | (simp only [push_n, set_n, kill_n]; omega)) _ | refine Sub.kill hwf ?_ (by first | exact Nat.le_refl _ | omega | (simp only [push_n, set_n, kill_n]; omega)))) (by simp [frOk, AV.okR, AV.ok1, AC.okR, AV.ren, AV.ren1, AC.ren, AFrame.get, pl1_old, *]; first | done | rfl | omega)⟩ | ((refine Out.plain hwf ?_ rfl ?_; (repeat first | exact Sub.refl _ | refine Sub.push hwf ?_ _ | refine Sub.set hwf ?_ (by first | exact Nat.le_refl _ | omega | (simp only [push_n, set_n, kill_n]; omega)) _ | refine Sub.kill hwf ?_ (by first | exact Nat.le_refl _ | omega | (simp only [push_n, set_n, kill_n]; omega)))); simpa using hi)
    | succ j =>
      have hj := Nat.lt_of_succ_lt hlt
      have e1 := hat_ps.get hlt
      have e0 := hat_ps.get hj
      have hpp := prevOf_succ hj
      rw [hpp] at hi
      try rw [hpp] at hs
      have hj1 : (j : Int) + 1 < (ps.length : Int) := by omega
      have hj2 : (j : Int) < (ps.length : Int) := by omega
      have hj3 : (0 : Int) ≤ (j : Int) + 1 := by omega
      have hj4 : (0 : Int) < (j : Int) + 1 := by omega
      have ej : ((j : Int) + 1).toNat = j + 1 := by omega
      have w0 : IntKind.i64.wrap (j : Int) = (j : Int) := wrap_id (by omega) (by omega)
      have w1 : IntKind.i64.wrap ((j : Int) + 1 + 1) = (j : Int) + 1 + 1 := wrap_id (by omega) (by omega)
      simp (config := {contextual := true, implicitDefEqProofs := false, maxSteps := 60000}) [-Int.not_le, -Int.not_lt, argsF, spec_l8Good_l0, hat_ps.blk, hat_ps.esz, hat_ps.len, hat_ps.els, hne_ps, hne1_ps, hne2_ps.1, hne2_ps.2.1, hne2_ps.2.2.1, hne2_ps.2.2.2.1, hne2_ps.2.2.2.2.1, hne2_ps.2.2.2.2.2.1, hne2_ps.2.2.2.2.2.2.1, hne2_ps.2.2.2.2.2.2.2.1, hne2_ps.2.2.2.2.2.2.2.2.1, hne2_ps.2.2.2.2.2.2.2.2.2.1, hne2_ps.2.2.2.2.2.2.2.2.2.2, e1, e0, hlt, hj, hj1, hj2, hj3, hj4, ej, w0, w1]
      by_cases h16 : (j : Int) + 1 ≤ 16
      rotate_left
      · simp only [h16, if_false]
        have e : decide (ps.length ≤ 16) = false := by simp; omega
        rw [e, Bool.and_false] at hi
        have e2 : decide ((ps.length : Int) ≤ 16) = false := by simp; omega
        rw [e2]
        (refine Out.plain hwf ?_ rfl ?_; (repeat first | exact Sub.refl _ | refine Sub.push hwf ?_ _ | refine Sub.set hwf ?_ (by first | exact Nat.le_refl _ | omega | (simp only [push_n, set_n, kill_n]; omega)) _ | refine Sub.kill hwf ?_ (by first | exact Nat.le_refl _ | omega | (simp only [push_n, set_n, kill_n]; omega)))); exact hi
      simp only [h16, if_true]
      by_cases hx : isRa ps[j + 1] = true
      rotate_left
      · simp only [raGo, hx, if_false, if_true, reduceCtorEq, Bool.false_and] at hi ⊢
        (refine Out.plain hwf ?_ rfl ?_; (repeat first | exact Sub.refl _ | refine Sub.push hwf ?_ _ | refine Sub.set hwf ?_ (by first | exact Nat.le_refl _ | omega | (simp only [push_n, set_n, kill_n]; omega)) _ | refine Sub.kill hwf ?_ (by first | exact Nat.le_refl _ | omega | (simp only [push_n, set_n, kill_n]; omega)))); exact hi
      have hp := hs _ rfl
      simp only [raGo, hx, if_true] at hi ⊢
      
      have hb := isRa_b hp
      have hb2 := isRa_b hx
      have hc1 := codeW_eq hp
      have hc2 := codeW_eq hx
      unfold codeRa at hc1 hc2
      have hV : okRa ps[j] ps[j + 1] = true ↔ (¬ codeW ps[j + 1] ≤ codeW ps[j] ∧ ¬ (ps[j].zone = ps[j + 1].zone ∧ ps[j].grams = ps[j + 1].grams ∧ ps[j + 1].frm ≤ ps[j].til)) := by
        simp only [okRa, Bool.or_eq_true, Bool.and_eq_true, decide_eq_true_eq]
        omega
      cases hk : okRa ps[j] ps[j + 1]
      · simp only [hk, if_false, reduceCtorEq, Bool.false_and] at hi
        have hV' : ¬ (¬ codeW ps[j + 1] ≤ codeW ps[j] ∧ ¬ (ps[j].zone = ps[j + 1].zone ∧ ps[j].grams = ps[j + 1].grams ∧ ps[j + 1].frm ≤ ps[j].til)) := fun h0 => by rw [hV.2 h0] at hk; cases hk
        repeat' (refine ite_i (fun _ => ?_) (fun _ => ?_))
        all_goals first | (exfalso; omega) | ((refine Out.plain hwf ?_ rfl ?_; (repeat first | exact Sub.refl _ | refine Sub.push hwf ?_ _ | refine Sub.set hwf ?_ (by first | exact Nat.le_refl _ | omega | (simp only [push_n, set_n, kill_n]; omega)) _ | refine Sub.kill hwf ?_ (by first | exact Nat.le_refl _ | omega | (simp only [push_n, set_n, kill_n]; omega)))); exact hi)
      · simp only [hk, if_true] at hi
        have hV' := hV.1 hk
        repeat' (refine ite_i (fun _ => ?_) (fun _ => ?_))
        all_goals first | (exfalso; omega) | exact ⟨(), ⟨fun p hp => (by rw [hpn] at hp; cases hp; assumption), by rw [hpn]; exact hi⟩, .drop hwf (by (repeat first | exact Sub.refl _ | refine Sub.push hwf ?_ _ | refine Sub.set hwf ?_ (by first | exact Nat.le_refl _ | omega | (simp only [push_n, set_n, kill_n]; omega)) _ | refine Sub.kill hwf ?_ (by first | exact Nat.le_refl _ | omega | (simp only [push_n, set_n, kill_n]; omega)))) (by simp [frOk, AV.okR, AV.ok1, AC.okR, AV.ren, AV.ren1, AC.ren, AFrame.get, pl1_old, *]; first | done | rfl | omega)⟩
  ·
    obtain ⟨hs, hi⟩ := hi
    simp (config := {contextual := true, implicitDefEqProofs := false, maxSteps := 60000}) [-Int.not_le, -Int.not_lt, argsF, spec_l8Good_l0]
    simp only [prevOf_0, raGo, decide_eq_true_eq] at hi
    rw [Bool.true_and] at hi
    (refine Out.plain hwf ?_ rfl ?_; (repeat first | exact Sub.refl _ | refine Sub.push hwf ?_ _ | refine Sub.set hwf ?_ (by first | exact Nat.le_refl _ | omega | (simp only [push_n, set_n, kill_n]; omega)) _ | refine Sub.kill hwf ?_ (by first | exact Nat.le_refl _ | omega | (simp only [push_n, set_n, kill_n]; omega))))
    have e : decide ((ps.length : Int) ≤ 16) = decide (ps.length ≤ 16) := by rw [decide_eq_decide]; omega
    rw [e]; exact hi

end Go.Proofs.Ytjiffkjeijfilaa
