/- Evidence of two sightings of a list; the strongest pair. -/
import Derived.Test.YtafenginfojcmaaSiU
set_option maxRecDepth 8000
set_option linter.unusedSimpArgs false
set_option linter.unusedVariables false
namespace Go.Proofs.Ytafenginfojcmaa
open Go Go.RowKit

def evOf (ps : List Si) (a b : Int) : Int × Bool := if areSi ps = true then match ps.find? fun s => decide (s.id = a), ps.find? fun s => decide (s.id = b) with
  | some x, some y => (evid x y, true)
  | _, _ => (0, false) else (0, false)

def q_evOf : Con := fun args H K => match args with
  | [ps_v, .c (.int .i64 a), .c (.int .i64 b)] => eSi.rd H (fun ps => (∀ p ∈ ps, p.traits.length ≤ 1048576) ∧ K (.tup [.c (.int .i64 ((evOf ps a b).1)), .c (.bool ((evOf ps a b).2))]) H) ps_v
  | _ => False
@[simp ↓] theorem q_evOf_eq (ps_v : AV) (a : Int) (b : Int) (H : AHeap) (K : AV → AHeap → Prop) : q_evOf [ps_v, .c (.int .i64 a), .c (.int .i64 b)] H K = (eSi.rd H (fun ps => (∀ p ∈ ps, p.traits.length ≤ 1048576) ∧ K (.tup [.c (.int .i64 ((evOf ps a b).1)), .c (.bool ((evOf ps a b).2))]) H) ps_v) := rfl

theorem impl_EvidenceOf_s : Sound Try.prog 9 q_evOf := by
  intro args H K h
  unfold q_evOf at h
  split at h
  rotate_left
  all_goals first | exact False.elim h | skip
  rename_i ps_v a b
  have h1 := EncH.rd_at h
  clear h
  obtain ⟨b_ps, i_ps, k_ps, ps, rfl, hat_ps, h⟩ := h1
  have hE := soundE_cons impl_sightingAt_s (soundE_cons impl_areSightings_s (soundE_cons impl_evidence_s (soundE_nil (P := Try.prog))))
  refine acalls_fn impl_EvidenceOf_k hE ⟨by simp, fun hwf => ?_⟩
  have hsr : SubE H H := SubE.refl H
  have hsp : ∀ H' k, H.n ≤ H'.n → SubE H H' → SubE H (H'.push k) := fun H' k hn hs => SubE.push hwf hn hs k
  have hst : ∀ H', SubE H H' → SubE H H'.toRo := fun H' hs => hs.toRo
  have hss : ∀ H' i k, H.n ≤ i → SubE H H' → SubE H (H'.set i k) := fun H' i k hn hs => SubE.set hwf hn hs k
  have hsk : ∀ H' i, H.n ≤ i → SubE H H' → SubE H (H'.kill i) := fun H' i hn hs => SubE.kill hwf hn hs
  have hon_ps := hat_ps.on
  have hb_ps : b_ps < H.n := (hwf b_ps k_ps hat_ps.blk).1
  have hne_ps : (b_ps = H.n) = False := eq_false (by omega)
  have hne1_ps : ∀ i, (b_ps = H.n + i) = False := fun i => eq_false (by omega)
  have hne2_ps : (b_ps = H.n + 1 + 1) = False ∧ (b_ps = H.n + 1 + 1 + 1) = False ∧ (b_ps = H.n + 1 + 1 + 1 + 1) = False ∧ (b_ps = H.n + 1 + 1 + 1 + 1 + 1) = False ∧ (b_ps = H.n + 1 + 1 + 1 + 1 + 1 + 1) = False ∧ (b_ps = H.n + 1 + 1 + 1 + 1 + 1 + 1 + 1) = False ∧ (b_ps = H.n + 1 + 1 + 1 + 1 + 1 + 1 + 1 + 1) = False ∧ (b_ps = H.n + 1 + 1 + 1 + 1 + 1 + 1 + 1 + 1 + 1) = False ∧ (b_ps = H.n + 1 + 1 + 1 + 1 + 1 + 1 + 1 + 1 + 1 + 1) = False ∧ (b_ps = H.n + 1 + 1 + 1 + 1 + 1 + 1 + 1 + 1 + 1 + 1 + 1) = False ∧ (b_ps = H.n + 1 + 1 + 1 + 1 + 1 + 1 + 1 + 1 + 1 + 1 + 1 + 1) = False := ⟨eq_false (by omega), eq_false (by omega), eq_false (by omega), eq_false (by omega), eq_false (by omega), eq_false (by omega), eq_false (by omega), eq_false (by omega), eq_false (by omega), eq_false (by omega), eq_false (by omega)⟩
  have hmx_ps : ps.length ≤ 9223372036854775807 := by have h1 := (hwf b_ps k_ps hat_ps.blk).2.2; have h2 := hat_ps.len; omega
  obtain ⟨hl, h⟩ := h
  unfold evOf at h
  rcases ixOf_find (fun s : Si => decide (s.id = a)) ps with ⟨e1, f1⟩ | ⟨m, hm, e1, f1, _⟩
  · simp (config := {contextual := true, implicitDefEqProofs := false, maxSteps := 2000000}) [-Int.not_le, -Int.not_lt, argsF, impl_EvidenceOf_c, hat_ps.blk, hat_ps.esz, hat_ps.len, hon_ps, hne_ps, hne1_ps, hne2_ps.1, hne2_ps.2.1, hne2_ps.2.2.1, hne2_ps.2.2.2.1, hne2_ps.2.2.2.2.1, hne2_ps.2.2.2.2.2.1, hne2_ps.2.2.2.2.2.2.1, hne2_ps.2.2.2.2.2.2.2.1, hne2_ps.2.2.2.2.2.2.2.2.1, hne2_ps.2.2.2.2.2.2.2.2.2.1, hne2_ps.2.2.2.2.2.2.2.2.2.2, hsr, hsp, hst, hss, hsk, e1]
    simp only [f1, ite_self] at h
    repeat' (refine ite_i (fun _ => ?_) (fun _ => ?_))
    all_goals ((refine Out.plain hwf ?_ rfl ?_; (repeat first | exact Sub.refl _ | refine Sub.push hwf ?_ _ | refine Sub.set hwf ?_ (by first | exact Nat.le_refl _ | omega | (simp only [push_n, set_n, kill_n]; omega)) _ | refine Sub.kill hwf ?_ (by first | exact Nat.le_refl _ | omega | (simp only [push_n, set_n, kill_n]; omega)))); simpa using h)
  rcases ixOf_find (fun s : Si => decide (s.id = b)) ps with ⟨e2, f2⟩ | ⟨n, hn, e2, f2, _⟩
  · simp (config := {contextual := true, implicitDefEqProofs := false, maxSteps := 2000000}) [-Int.not_le, -Int.not_lt, argsF, impl_EvidenceOf_c, hat_ps.blk, hat_ps.esz, hat_ps.len, hon_ps, hne_ps, hne1_ps, hne2_ps.1, hne2_ps.2.1, hne2_ps.2.2.1, hne2_ps.2.2.2.1, hne2_ps.2.2.2.2.1, hne2_ps.2.2.2.2.2.1, hne2_ps.2.2.2.2.2.2.1, hne2_ps.2.2.2.2.2.2.2.1, hne2_ps.2.2.2.2.2.2.2.2.1, hne2_ps.2.2.2.2.2.2.2.2.2.1, hne2_ps.2.2.2.2.2.2.2.2.2.2, hsr, hsp, hst, hss, hsk, e1, e2]
    simp only [f1, f2, ite_self] at h
    repeat' (refine ite_i (fun _ => ?_) (fun _ => ?_))
    all_goals ((refine Out.plain hwf ?_ rfl ?_; (repeat first | exact Sub.refl _ | refine Sub.push hwf ?_ _ | refine Sub.set hwf ?_ (by first | exact Nat.le_refl _ | omega | (simp only [push_n, set_n, kill_n]; omega)) _ | refine Sub.kill hwf ?_ (by first | exact Nat.le_refl _ | omega | (simp only [push_n, set_n, kill_n]; omega)))); simpa using h)
  by_cases hv : areSi ps = true
  rotate_left
  · simp (config := {contextual := true, implicitDefEqProofs := false, maxSteps := 2000000}) [-Int.not_le, -Int.not_lt, argsF, impl_EvidenceOf_c, hat_ps.blk, hat_ps.esz, hat_ps.len, hon_ps, hne_ps, hne1_ps, hne2_ps.1, hne2_ps.2.1, hne2_ps.2.2.1, hne2_ps.2.2.2.1, hne2_ps.2.2.2.2.1, hne2_ps.2.2.2.2.2.1, hne2_ps.2.2.2.2.2.2.1, hne2_ps.2.2.2.2.2.2.2.1, hne2_ps.2.2.2.2.2.2.2.2.1, hne2_ps.2.2.2.2.2.2.2.2.2.1, hne2_ps.2.2.2.2.2.2.2.2.2.2, hsr, hsp, hst, hss, hsk, e1, e2, hv]
    simp only [hv, if_false, reduceCtorEq] at h
    (refine Out.plain hwf ?_ rfl ?_; (repeat first | exact Sub.refl _ | refine Sub.push hwf ?_ _ | refine Sub.set hwf ?_ (by first | exact Nat.le_refl _ | omega | (simp only [push_n, set_n, kill_n]; omega)) _ | refine Sub.kill hwf ?_ (by first | exact Nat.le_refl _ | omega | (simp only [push_n, set_n, kill_n]; omega)))); exact h
  simp only [f1, f2, hv, if_true] at h
  obtain ⟨ex_x, e_x, hd_x⟩ := hat_ps.get hm
  obtain ⟨b_x, i_x, k_x, rfl, hat_x, htx_x⟩ := eSi_at hd_x
  have hb_x : b_x < H.n := (hwf b_x k_x hat_x.blk).1
  have hne_x : (b_x = H.n) = False := eq_false (by omega)
  have hne1_x : ∀ i, (b_x = H.n + i) = False := fun i => eq_false (by omega)
  have hne2_x : (b_x = H.n + 1 + 1) = False ∧ (b_x = H.n + 1 + 1 + 1) = False ∧ (b_x = H.n + 1 + 1 + 1 + 1) = False ∧ (b_x = H.n + 1 + 1 + 1 + 1 + 1) = False ∧ (b_x = H.n + 1 + 1 + 1 + 1 + 1 + 1) = False ∧ (b_x = H.n + 1 + 1 + 1 + 1 + 1 + 1 + 1) = False ∧ (b_x = H.n + 1 + 1 + 1 + 1 + 1 + 1 + 1 + 1) = False ∧ (b_x = H.n + 1 + 1 + 1 + 1 + 1 + 1 + 1 + 1 + 1) = False ∧ (b_x = H.n + 1 + 1 + 1 + 1 + 1 + 1 + 1 + 1 + 1 + 1) = False ∧ (b_x = H.n + 1 + 1 + 1 + 1 + 1 + 1 + 1 + 1 + 1 + 1 + 1) = False ∧ (b_x = H.n + 1 + 1 + 1 + 1 + 1 + 1 + 1 + 1 + 1 + 1 + 1 + 1) = False := ⟨eq_false (by omega), eq_false (by omega), eq_false (by omega), eq_false (by omega), eq_false (by omega), eq_false (by omega), eq_false (by omega), eq_false (by omega), eq_false (by omega), eq_false (by omega), eq_false (by omega)⟩
  obtain ⟨ex_y, e_y, hd_y⟩ := hat_ps.get hn
  obtain ⟨b_y, i_y, k_y, rfl, hat_y, htx_y⟩ := eSi_at hd_y
  have hb_y : b_y < H.n := (hwf b_y k_y hat_y.blk).1
  have hne_y : (b_y = H.n) = False := eq_false (by omega)
  have hne1_y : ∀ i, (b_y = H.n + i) = False := fun i => eq_false (by omega)
  have hne2_y : (b_y = H.n + 1 + 1) = False ∧ (b_y = H.n + 1 + 1 + 1) = False ∧ (b_y = H.n + 1 + 1 + 1 + 1) = False ∧ (b_y = H.n + 1 + 1 + 1 + 1 + 1) = False ∧ (b_y = H.n + 1 + 1 + 1 + 1 + 1 + 1) = False ∧ (b_y = H.n + 1 + 1 + 1 + 1 + 1 + 1 + 1) = False ∧ (b_y = H.n + 1 + 1 + 1 + 1 + 1 + 1 + 1 + 1) = False ∧ (b_y = H.n + 1 + 1 + 1 + 1 + 1 + 1 + 1 + 1 + 1) = False ∧ (b_y = H.n + 1 + 1 + 1 + 1 + 1 + 1 + 1 + 1 + 1 + 1) = False ∧ (b_y = H.n + 1 + 1 + 1 + 1 + 1 + 1 + 1 + 1 + 1 + 1 + 1) = False ∧ (b_y = H.n + 1 + 1 + 1 + 1 + 1 + 1 + 1 + 1 + 1 + 1 + 1 + 1) = False := ⟨eq_false (by omega), eq_false (by omega), eq_false (by omega), eq_false (by omega), eq_false (by omega), eq_false (by omega), eq_false (by omega), eq_false (by omega), eq_false (by omega), eq_false (by omega), eq_false (by omega)⟩
  have hm0 : ((m : Int) < 0) = False := eq_false (by omega)
  have hn0 : ((n : Int) < 0) = False := eq_false (by omega)
  have hm1 : ((m : Int) < (ps.length : Int)) = True := eq_true (by omega)
  have hn1 : ((n : Int) < (ps.length : Int)) = True := eq_true (by omega)
  have hm2 : (0 ≤ (m : Int)) = True := eq_true (by omega)
  have hn2 : (0 ≤ (n : Int)) = True := eq_true (by omega)
  have hla := hl _ (List.getElem_mem hm)
  have hlb := hl _ (List.getElem_mem hn)
  simp (config := {contextual := true, implicitDefEqProofs := false, maxSteps := 2000000}) [-Int.not_le, -Int.not_lt, argsF, impl_EvidenceOf_c, hat_ps.blk, hat_ps.esz, hat_ps.len, hon_ps, hne_ps, hne1_ps, hne2_ps.1, hne2_ps.2.1, hne2_ps.2.2.1, hne2_ps.2.2.2.1, hne2_ps.2.2.2.2.1, hne2_ps.2.2.2.2.2.1, hne2_ps.2.2.2.2.2.2.1, hne2_ps.2.2.2.2.2.2.2.1, hne2_ps.2.2.2.2.2.2.2.2.1, hne2_ps.2.2.2.2.2.2.2.2.2.1, hne2_ps.2.2.2.2.2.2.2.2.2.2, hsr, hsp, hst, hss, hsk, e1, e2, hv, hm0, hn0, hm1, hn1, hm2, hn2, hm, hn, hla, hlb, e_x, htx_x, hat_x.blk, hat_x.esz, hat_x.len, hat_x.els, hne_x, hne1_x, hne2_x.1, hne2_x.2.1, hne2_x.2.2.1, hne2_x.2.2.2.1, hne2_x.2.2.2.2.1, hne2_x.2.2.2.2.2.1, hne2_x.2.2.2.2.2.2.1, hne2_x.2.2.2.2.2.2.2.1, hne2_x.2.2.2.2.2.2.2.2.1, hne2_x.2.2.2.2.2.2.2.2.2.1, hne2_x.2.2.2.2.2.2.2.2.2.2, e_y, htx_y, hat_y.blk, hat_y.esz, hat_y.len, hat_y.els, hne_y, hne1_y, hne2_y.1, hne2_y.2.1, hne2_y.2.2.1, hne2_y.2.2.2.1, hne2_y.2.2.2.2.1, hne2_y.2.2.2.2.2.1, hne2_y.2.2.2.2.2.2.1, hne2_y.2.2.2.2.2.2.2.1, hne2_y.2.2.2.2.2.2.2.2.1, hne2_y.2.2.2.2.2.2.2.2.2.1, hne2_y.2.2.2.2.2.2.2.2.2.2]
  (refine Out.plain hwf ?_ rfl ?_; (repeat first | exact Sub.refl _ | refine Sub.push hwf ?_ _ | refine Sub.set hwf ?_ (by first | exact Nat.le_refl _ | omega | (simp only [push_n, set_n, kill_n]; omega)) _ | refine Sub.kill hwf ?_ (by first | exact Nat.le_refl _ | omega | (simp only [push_n, set_n, kill_n]; omega)))); exact h

theorem spec_EvidenceOf_s : Sound Try.prog 10 q_evOf := by
  intro args H K h
  unfold q_evOf at h
  split at h
  rotate_left
  all_goals first | exact False.elim h | skip
  rename_i ps_v a b
  have h1 := EncH.rd_at h
  clear h
  obtain ⟨b_ps, i_ps, k_ps, ps, rfl, hat_ps, h⟩ := h1
  have hE := soundE_cons spec_l13Find_s (soundE_cons spec_l13Good_s (soundE_cons spec_l13Evidence_s (soundE_nil (P := Try.prog))))
  refine acalls_fn spec_EvidenceOf_k hE ⟨by simp, fun hwf => ?_⟩
  have hsr : SubE H H := SubE.refl H
  have hsp : ∀ H' k, H.n ≤ H'.n → SubE H H' → SubE H (H'.push k) := fun H' k hn hs => SubE.push hwf hn hs k
  have hst : ∀ H', SubE H H' → SubE H H'.toRo := fun H' hs => hs.toRo
  have hss : ∀ H' i k, H.n ≤ i → SubE H H' → SubE H (H'.set i k) := fun H' i k hn hs => SubE.set hwf hn hs k
  have hsk : ∀ H' i, H.n ≤ i → SubE H H' → SubE H (H'.kill i) := fun H' i hn hs => SubE.kill hwf hn hs
  have hon_ps := hat_ps.on
  have hb_ps : b_ps < H.n := (hwf b_ps k_ps hat_ps.blk).1
  have hne_ps : (b_ps = H.n) = False := eq_false (by omega)
  have hne1_ps : ∀ i, (b_ps = H.n + i) = False := fun i => eq_false (by omega)
  have hne2_ps : (b_ps = H.n + 1 + 1) = False ∧ (b_ps = H.n + 1 + 1 + 1) = False ∧ (b_ps = H.n + 1 + 1 + 1 + 1) = False ∧ (b_ps = H.n + 1 + 1 + 1 + 1 + 1) = False ∧ (b_ps = H.n + 1 + 1 + 1 + 1 + 1 + 1) = False ∧ (b_ps = H.n + 1 + 1 + 1 + 1 + 1 + 1 + 1) = False ∧ (b_ps = H.n + 1 + 1 + 1 + 1 + 1 + 1 + 1 + 1) = False ∧ (b_ps = H.n + 1 + 1 + 1 + 1 + 1 + 1 + 1 + 1 + 1) = False ∧ (b_ps = H.n + 1 + 1 + 1 + 1 + 1 + 1 + 1 + 1 + 1 + 1) = False ∧ (b_ps = H.n + 1 + 1 + 1 + 1 + 1 + 1 + 1 + 1 + 1 + 1 + 1) = False ∧ (b_ps = H.n + 1 + 1 + 1 + 1 + 1 + 1 + 1 + 1 + 1 + 1 + 1 + 1) = False := ⟨eq_false (by omega), eq_false (by omega), eq_false (by omega), eq_false (by omega), eq_false (by omega), eq_false (by omega), eq_false (by omega), eq_false (by omega), eq_false (by omega), eq_false (by omega), eq_false (by omega)⟩
  have hmx_ps : ps.length ≤ 9223372036854775807 := by have h1 := (hwf b_ps k_ps hat_ps.blk).2.2; have h2 := hat_ps.len; omega
  obtain ⟨hl, h⟩ := h
  unfold evOf at h
  rcases ixOf_find (fun s : Si => decide (s.id = a)) ps with ⟨e1, f1⟩ | ⟨m, hm, e1, f1, _⟩
  · simp (config := {contextual := true, implicitDefEqProofs := false, maxSteps := 2000000}) [-Int.not_le, -Int.not_lt, argsF, spec_EvidenceOf_c, hat_ps.blk, hat_ps.esz, hat_ps.len, hon_ps, hne_ps, hne1_ps, hne2_ps.1, hne2_ps.2.1, hne2_ps.2.2.1, hne2_ps.2.2.2.1, hne2_ps.2.2.2.2.1, hne2_ps.2.2.2.2.2.1, hne2_ps.2.2.2.2.2.2.1, hne2_ps.2.2.2.2.2.2.2.1, hne2_ps.2.2.2.2.2.2.2.2.1, hne2_ps.2.2.2.2.2.2.2.2.2.1, hne2_ps.2.2.2.2.2.2.2.2.2.2, hsr, hsp, hst, hss, hsk, e1]
    simp only [f1, ite_self] at h
    repeat' (refine ite_i (fun _ => ?_) (fun _ => ?_))
    all_goals ((refine Out.plain hwf ?_ rfl ?_; (repeat first | exact Sub.refl _ | refine Sub.push hwf ?_ _ | refine Sub.set hwf ?_ (by first | exact Nat.le_refl _ | omega | (simp only [push_n, set_n, kill_n]; omega)) _ | refine Sub.kill hwf ?_ (by first | exact Nat.le_refl _ | omega | (simp only [push_n, set_n, kill_n]; omega)))); simpa using h)
  rcases ixOf_find (fun s : Si => decide (s.id = b)) ps with ⟨e2, f2⟩ | ⟨n, hn, e2, f2, _⟩
  · simp (config := {contextual := true, implicitDefEqProofs := false, maxSteps := 2000000}) [-Int.not_le, -Int.not_lt, argsF, spec_EvidenceOf_c, hat_ps.blk, hat_ps.esz, hat_ps.len, hon_ps, hne_ps, hne1_ps, hne2_ps.1, hne2_ps.2.1, hne2_ps.2.2.1, hne2_ps.2.2.2.1, hne2_ps.2.2.2.2.1, hne2_ps.2.2.2.2.2.1, hne2_ps.2.2.2.2.2.2.1, hne2_ps.2.2.2.2.2.2.2.1, hne2_ps.2.2.2.2.2.2.2.2.1, hne2_ps.2.2.2.2.2.2.2.2.2.1, hne2_ps.2.2.2.2.2.2.2.2.2.2, hsr, hsp, hst, hss, hsk, e1, e2]
    simp only [f1, f2, ite_self] at h
    repeat' (refine ite_i (fun _ => ?_) (fun _ => ?_))
    all_goals ((refine Out.plain hwf ?_ rfl ?_; (repeat first | exact Sub.refl _ | refine Sub.push hwf ?_ _ | refine Sub.set hwf ?_ (by first | exact Nat.le_refl _ | omega | (simp only [push_n, set_n, kill_n]; omega)) _ | refine Sub.kill hwf ?_ (by first | exact Nat.le_refl _ | omega | (simp only [push_n, set_n, kill_n]; omega)))); simpa using h)
  by_cases hv : areSi ps = true
  rotate_left
  · simp (config := {contextual := true, implicitDefEqProofs := false, maxSteps := 2000000}) [-Int.not_le, -Int.not_lt, argsF, spec_EvidenceOf_c, hat_ps.blk, hat_ps.esz, hat_ps.len, hon_ps, hne_ps, hne1_ps, hne2_ps.1, hne2_ps.2.1, hne2_ps.2.2.1, hne2_ps.2.2.2.1, hne2_ps.2.2.2.2.1, hne2_ps.2.2.2.2.2.1, hne2_ps.2.2.2.2.2.2.1, hne2_ps.2.2.2.2.2.2.2.1, hne2_ps.2.2.2.2.2.2.2.2.1, hne2_ps.2.2.2.2.2.2.2.2.2.1, hne2_ps.2.2.2.2.2.2.2.2.2.2, hsr, hsp, hst, hss, hsk, e1, e2, hv]
    simp only [hv, if_false, reduceCtorEq] at h
    (refine Out.plain hwf ?_ rfl ?_; (repeat first | exact Sub.refl _ | refine Sub.push hwf ?_ _ | refine Sub.set hwf ?_ (by first | exact Nat.le_refl _ | omega | (simp only [push_n, set_n, kill_n]; omega)) _ | refine Sub.kill hwf ?_ (by first | exact Nat.le_refl _ | omega | (simp only [push_n, set_n, kill_n]; omega)))); exact h
  simp only [f1, f2, hv, if_true] at h
  obtain ⟨ex_x, e_x, hd_x⟩ := hat_ps.get hm
  obtain ⟨b_x, i_x, k_x, rfl, hat_x, htx_x⟩ := eSi_at hd_x
  have hb_x : b_x < H.n := (hwf b_x k_x hat_x.blk).1
  have hne_x : (b_x = H.n) = False := eq_false (by omega)
  have hne1_x : ∀ i, (b_x = H.n + i) = False := fun i => eq_false (by omega)
  have hne2_x : (b_x = H.n + 1 + 1) = False ∧ (b_x = H.n + 1 + 1 + 1) = False ∧ (b_x = H.n + 1 + 1 + 1 + 1) = False ∧ (b_x = H.n + 1 + 1 + 1 + 1 + 1) = False ∧ (b_x = H.n + 1 + 1 + 1 + 1 + 1 + 1) = False ∧ (b_x = H.n + 1 + 1 + 1 + 1 + 1 + 1 + 1) = False ∧ (b_x = H.n + 1 + 1 + 1 + 1 + 1 + 1 + 1 + 1) = False ∧ (b_x = H.n + 1 + 1 + 1 + 1 + 1 + 1 + 1 + 1 + 1) = False ∧ (b_x = H.n + 1 + 1 + 1 + 1 + 1 + 1 + 1 + 1 + 1 + 1) = False ∧ (b_x = H.n + 1 + 1 + 1 + 1 + 1 + 1 + 1 + 1 + 1 + 1 + 1) = False ∧ (b_x = H.n + 1 + 1 + 1 + 1 + 1 + 1 + 1 + 1 + 1 + 1 + 1 + 1) = False := ⟨eq_false (by omega), eq_false (by omega), eq_false (by omega), eq_false (by omega), eq_false (by omega), eq_false (by omega), eq_false (by omega), eq_false (by omega), eq_false (by omega), eq_false (by omega), eq_false (by omega)⟩
  obtain ⟨ex_y, e_y, hd_y⟩ := hat_ps.get hn
  obtain ⟨b_y, i_y, k_y, rfl, hat_y, htx_y⟩ := eSi_at hd_y
  have hb_y : b_y < H.n := (hwf b_y k_y hat_y.blk).1
  have hne_y : (b_y = H.n) = False := eq_false (by omega)
  have hne1_y : ∀ i, (b_y = H.n + i) = False := fun i => eq_false (by omega)
  have hne2_y : (b_y = H.n + 1 + 1) = False ∧ (b_y = H.n + 1 + 1 + 1) = False ∧ (b_y = H.n + 1 + 1 + 1 + 1) = False ∧ (b_y = H.n + 1 + 1 + 1 + 1 + 1) = False ∧ (b_y = H.n + 1 + 1 + 1 + 1 + 1 + 1) = False ∧ (b_y = H.n + 1 + 1 + 1 + 1 + 1 + 1 + 1) = False ∧ (b_y = H.n + 1 + 1 + 1 + 1 + 1 + 1 + 1 + 1) = False ∧ (b_y = H.n + 1 + 1 + 1 + 1 + 1 + 1 + 1 + 1 + 1) = False ∧ (b_y = H.n + 1 + 1 + 1 + 1 + 1 + 1 + 1 + 1 + 1 + 1) = False ∧ (b_y = H.n + 1 + 1 + 1 + 1 + 1 + 1 + 1 + 1 + 1 + 1 + 1) = False ∧ (b_y = H.n + 1 + 1 + 1 + 1 + 1 + 1 + 1 + 1 + 1 + 1 + 1 + 1) = False := ⟨eq_false (by omega), eq_false (by omega), eq_false (by omega), eq_false (by omega), eq_false (by omega), eq_false (by omega), eq_false (by omega), eq_false (by omega), eq_false (by omega), eq_false (by omega), eq_false (by omega)⟩
  have hm0 : ((m : Int) < 0) = False := eq_false (by omega)
  have hn0 : ((n : Int) < 0) = False := eq_false (by omega)
  have hm1 : ((m : Int) < (ps.length : Int)) = True := eq_true (by omega)
  have hn1 : ((n : Int) < (ps.length : Int)) = True := eq_true (by omega)
  have hm2 : (0 ≤ (m : Int)) = True := eq_true (by omega)
  have hn2 : (0 ≤ (n : Int)) = True := eq_true (by omega)
  have hla := hl _ (List.getElem_mem hm)
  have hlb := hl _ (List.getElem_mem hn)
  simp (config := {contextual := true, implicitDefEqProofs := false, maxSteps := 2000000}) [-Int.not_le, -Int.not_lt, argsF, spec_EvidenceOf_c, hat_ps.blk, hat_ps.esz, hat_ps.len, hon_ps, hne_ps, hne1_ps, hne2_ps.1, hne2_ps.2.1, hne2_ps.2.2.1, hne2_ps.2.2.2.1, hne2_ps.2.2.2.2.1, hne2_ps.2.2.2.2.2.1, hne2_ps.2.2.2.2.2.2.1, hne2_ps.2.2.2.2.2.2.2.1, hne2_ps.2.2.2.2.2.2.2.2.1, hne2_ps.2.2.2.2.2.2.2.2.2.1, hne2_ps.2.2.2.2.2.2.2.2.2.2, hsr, hsp, hst, hss, hsk, e1, e2, hv, hm0, hn0, hm1, hn1, hm2, hn2, hm, hn, hla, hlb, e_x, htx_x, hat_x.blk, hat_x.esz, hat_x.len, hat_x.els, hne_x, hne1_x, hne2_x.1, hne2_x.2.1, hne2_x.2.2.1, hne2_x.2.2.2.1, hne2_x.2.2.2.2.1, hne2_x.2.2.2.2.2.1, hne2_x.2.2.2.2.2.2.1, hne2_x.2.2.2.2.2.2.2.1, hne2_x.2.2.2.2.2.2.2.2.1, hne2_x.2.2.2.2.2.2.2.2.2.1, hne2_x.2.2.2.2.2.2.2.2.2.2, e_y, htx_y, hat_y.blk, hat_y.esz, hat_y.len, hat_y.els, hne_y, hne1_y, hne2_y.1, hne2_y.2.1, hne2_y.2.2.1, hne2_y.2.2.2.1, hne2_y.2.2.2.2.1, hne2_y.2.2.2.2.2.1, hne2_y.2.2.2.2.2.2.1, hne2_y.2.2.2.2.2.2.2.1, hne2_y.2.2.2.2.2.2.2.2.1, hne2_y.2.2.2.2.2.2.2.2.2.1, hne2_y.2.2.2.2.2.2.2.2.2.2]
  (refine Out.plain hwf ?_ rfl ?_; (repeat first | exact Sub.refl _ | refine Sub.push hwf ?_ _ | refine Sub.set hwf ?_ (by first | exact Nat.le_refl _ | omega | (simp only [push_n, set_n, kill_n]; omega)) _ | refine Sub.kill hwf ?_ (by first | exact Nat.le_refl _ | omega | (simp only [push_n, set_n, kill_n]; omega)))); exact h

end Go.Proofs.Ytafenginfojcmaa
