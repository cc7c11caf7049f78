/- The sightings: evidence. -/
import Derived.Test.YtafenginfojcmaaSiR
set_option maxRecDepth 8000
set_option linter.unusedSimpArgs false
set_option linter.unusedVariables false
namespace Go.Proofs.Ytafenginfojcmaa
open Go Go.RowKit

def evGo (t : List Int) : List Int → Nat → Nat
  | [], n => n
  | x :: r, n => if t.contains x = true then evGo t r (n + 1) else evGo t r n
theorem evGo_b (t : List Int) : ∀ (l : List Int) (n : Nat), n ≤ evGo t l n ∧ evGo t l n ≤ n + l.length
  | [], n => by simp [evGo]
  | x :: r, n => by
    simp only [evGo, List.length_cons]
    split
    · have := evGo_b t r (n + 1); omega
    · have := evGo_b t r n; omega
def evid (s t : Si) : Int := 4 * (evGo t.traits s.traits 0 : Int) - s.traits.length - t.traits.length - (if s.town = t.town then 0 else 10)

def q_evid : Con := fun args H K => match args with
  | [.agg s_e, .agg t_e] => onv (eSi.dec H s_e) fun s => onv (eSi.dec H t_e) fun t => s.traits.length ≤ 1048576 ∧ t.traits.length ≤ 1048576 ∧ K (.c (.int .i64 (evid s t))) H
  | _ => False
@[simp ↓] theorem q_evid_eq (s_e : List AC) (t_e : List AC) (H : AHeap) (K : AV → AHeap → Prop) : q_evid [.agg s_e, .agg t_e] H K = (onv (eSi.dec H s_e) fun s => onv (eSi.dec H t_e) fun t => s.traits.length ≤ 1048576 ∧ t.traits.length ≤ 1048576 ∧ K (.c (.int .i64 (evid s t))) H) := rfl

def boxS (b i : Nat) (s : Si) : ABlk := ⟨51, 4, false, false, [[.int .i64 s.id, .int .i64 s.year, .str s.town, .sl b i s.traits.length]]⟩

theorem impl_evidence_s : Sound Try.prog 39 q_evid := by
  intro args H K h
  unfold q_evid at h
  split at h
  rotate_left
  all_goals first | exact False.elim h | skip
  rename_i s_e t_e
  have h1 := onv_iff.1 h
  clear h
  obtain ⟨s, hd_s, h⟩ := h1
  obtain ⟨b_s, i_s, k_s, rfl, hat_s, htx_s⟩ := eSi_at hd_s
  have h1 := onv_iff.1 h
  clear h
  obtain ⟨t, hd_t, h⟩ := h1
  obtain ⟨b_t, i_t, k_t, rfl, hat_t, htx_t⟩ := eSi_at hd_t
  have hE := soundE_cons slices_Contains___int_int_s (soundE_nil (P := Try.prog))
  refine acalls_fn impl_evidence_k hE ⟨by simp, fun hwf => ?_⟩
  have hsr : SubE H H := SubE.refl H
  have hsp : ∀ H' k, H.n ≤ H'.n → SubE H H' → SubE H (H'.push k) := fun H' k hn hs => SubE.push hwf hn hs k
  have hst : ∀ H', SubE H H' → SubE H H'.toRo := fun H' hs => hs.toRo
  have hss : ∀ H' i k, H.n ≤ i → SubE H H' → SubE H (H'.set i k) := fun H' i k hn hs => SubE.set hwf hn hs k
  have hsk : ∀ H' i, H.n ≤ i → SubE H H' → SubE H (H'.kill i) := fun H' i hn hs => SubE.kill hwf hn hs
  have hb_s : b_s < H.n := (hwf b_s k_s hat_s.blk).1
  have hne_s : (b_s = H.n) = False := eq_false (by omega)
  have hne1_s : ∀ i, (b_s = H.n + i) = False := fun i => eq_false (by omega)
  have hne2_s : (b_s = H.n + 1 + 1) = False ∧ (b_s = H.n + 1 + 1 + 1) = False ∧ (b_s = H.n + 1 + 1 + 1 + 1) = False ∧ (b_s = H.n + 1 + 1 + 1 + 1 + 1) = False ∧ (b_s = H.n + 1 + 1 + 1 + 1 + 1 + 1) = False ∧ (b_s = H.n + 1 + 1 + 1 + 1 + 1 + 1 + 1) = False ∧ (b_s = H.n + 1 + 1 + 1 + 1 + 1 + 1 + 1 + 1) = False ∧ (b_s = H.n + 1 + 1 + 1 + 1 + 1 + 1 + 1 + 1 + 1) = False ∧ (b_s = H.n + 1 + 1 + 1 + 1 + 1 + 1 + 1 + 1 + 1 + 1) = False ∧ (b_s = H.n + 1 + 1 + 1 + 1 + 1 + 1 + 1 + 1 + 1 + 1 + 1) = False ∧ (b_s = H.n + 1 + 1 + 1 + 1 + 1 + 1 + 1 + 1 + 1 + 1 + 1 + 1) = False := ⟨eq_false (by omega), eq_false (by omega), eq_false (by omega), eq_false (by omega), eq_false (by omega), eq_false (by omega), eq_false (by omega), eq_false (by omega), eq_false (by omega), eq_false (by omega), eq_false (by omega)⟩
  have hmx_s : s.traits.length ≤ 9223372036854775807 := by have h1 := (hwf b_s k_s hat_s.blk).2.2; have h2 := hat_s.len; omega
  have hb_t : b_t < H.n := (hwf b_t k_t hat_t.blk).1
  have hne_t : (b_t = H.n) = False := eq_false (by omega)
  have hne1_t : ∀ i, (b_t = H.n + i) = False := fun i => eq_false (by omega)
  have hne2_t : (b_t = H.n + 1 + 1) = False ∧ (b_t = H.n + 1 + 1 + 1) = False ∧ (b_t = H.n + 1 + 1 + 1 + 1) = False ∧ (b_t = H.n + 1 + 1 + 1 + 1 + 1) = False ∧ (b_t = H.n + 1 + 1 + 1 + 1 + 1 + 1) = False ∧ (b_t = H.n + 1 + 1 + 1 + 1 + 1 + 1 + 1) = False ∧ (b_t = H.n + 1 + 1 + 1 + 1 + 1 + 1 + 1 + 1) = False ∧ (b_t = H.n + 1 + 1 + 1 + 1 + 1 + 1 + 1 + 1 + 1) = False ∧ (b_t = H.n + 1 + 1 + 1 + 1 + 1 + 1 + 1 + 1 + 1 + 1) = False ∧ (b_t = H.n + 1 + 1 + 1 + 1 + 1 + 1 + 1 + 1 + 1 + 1 + 1) = False ∧ (b_t = H.n + 1 + 1 + 1 + 1 + 1 + 1 + 1 + 1 + 1 + 1 + 1 + 1) = False := ⟨eq_false (by omega), eq_false (by omega), eq_false (by omega), eq_false (by omega), eq_false (by omega), eq_false (by omega), eq_false (by omega), eq_false (by omega), eq_false (by omega), eq_false (by omega), eq_false (by omega)⟩
  have hmx_t : t.traits.length ≤ 9223372036854775807 := by have h1 := (hwf b_t k_t hat_t.blk).2.2; have h2 := hat_t.len; omega
  obtain ⟨hl1, hl2, h⟩ := h
  simp (config := {contextual := true, implicitDefEqProofs := false, maxSteps := 60000}) [-Int.not_le, -Int.not_lt, argsF, impl_evidence_c, hat_s.blk, hat_s.esz, hat_s.len, hat_s.els, hne_s, hne1_s, hne2_s.1, hne2_s.2.1, hne2_s.2.2.1, hne2_s.2.2.2.1, hne2_s.2.2.2.2.1, hne2_s.2.2.2.2.2.1, hne2_s.2.2.2.2.2.2.1, hne2_s.2.2.2.2.2.2.2.1, hne2_s.2.2.2.2.2.2.2.2.1, hne2_s.2.2.2.2.2.2.2.2.2.1, hne2_s.2.2.2.2.2.2.2.2.2.2, hat_t.blk, hat_t.esz, hat_t.len, hat_t.els, hne_t, hne1_t, hne2_t.1, hne2_t.2.1, hne2_t.2.2.1, hne2_t.2.2.2.1, hne2_t.2.2.2.2.1, hne2_t.2.2.2.2.2.1, hne2_t.2.2.2.2.2.2.1, hne2_t.2.2.2.2.2.2.2.1, hne2_t.2.2.2.2.2.2.2.2.1, hne2_t.2.2.2.2.2.2.2.2.2.1, hne2_t.2.2.2.2.2.2.2.2.2.2, htx_s, htx_t, hsr, hsp, hst, hss, hsk]
  have hwf1 : ((H.push (boxS b_s i_s s)).push (boxS b_t i_t t)).WF := WF.push (WF.push hwf (by simp [boxS, AC.okR, hb_s]) (by simp [boxS])) (by simp [boxS, AC.okR]; omega) (by simp [boxS])
  refine aloop_list s.traits (fun j (n : Nat) => [(2, .c (.ptr H.n 0 0)), (3, .c (.ptr (H.n + 1) 0 0)), (5, .c (.int .i64 ((n : Int)))), (10, .c (.sl b_s i_s s.traits.length)), (11, .c (.int .i64 s.traits.length)), (12, .c (.int .i64 (j)))]) (fun j (n : Nat) => (H.push (boxS b_s i_s s)).push (boxS b_t i_t t)) (fun j l (n : Nat) => n ≤ j ∧ evGo t.traits l n = evGo t.traits s.traits 0) hE _ 0 ⟨Nat.le_refl _, rfl⟩ (.since (by simp only [push_n]; omega) hwf1 (.refl _) (by simp [frOk, AV.okR, AV.ok1, AC.okR, AV.ren, AV.ren1, AC.ren, AFrame.get, pl1_old, *]; first | done | rfl | omega)) (fun j n hlt hi => ?_) fun n hi => ?_
  · obtain ⟨hs, hi⟩ := hi
    have e1 := hat_s.get hlt
    have hj1 := idx_lt hlt
    have w1 : IntKind.i64.wrap ((j : Int) + 1) = (j : Int) + 1 := wrap_id (by omega) (by omega)
    have w2 : IntKind.i64.wrap ((n : Int) + 1) = (n : Int) + 1 := wrap_id (by omega) (by omega)
    simp only [evGo] at hi
    simp (config := {contextual := true, implicitDefEqProofs := false, maxSteps := 60000}) [-Int.not_le, -Int.not_lt, argsF, impl_evidence_l0, boxS, hat_s.blk, hat_s.esz, hat_s.len, hat_s.els, hne_s, hne1_s, hne2_s.1, hne2_s.2.1, hne2_s.2.2.1, hne2_s.2.2.2.1, hne2_s.2.2.2.2.1, hne2_s.2.2.2.2.2.1, hne2_s.2.2.2.2.2.2.1, hne2_s.2.2.2.2.2.2.2.1, hne2_s.2.2.2.2.2.2.2.2.1, hne2_s.2.2.2.2.2.2.2.2.2.1, hne2_s.2.2.2.2.2.2.2.2.2.2, hat_t.blk, hat_t.esz, hat_t.len, hat_t.els, hne_t, hne1_t, hne2_t.1, hne2_t.2.1, hne2_t.2.2.1, hne2_t.2.2.2.1, hne2_t.2.2.2.2.1, hne2_t.2.2.2.2.2.1, hne2_t.2.2.2.2.2.2.1, hne2_t.2.2.2.2.2.2.2.1, hne2_t.2.2.2.2.2.2.2.2.1, hne2_t.2.2.2.2.2.2.2.2.2.1, hne2_t.2.2.2.2.2.2.2.2.2.2, e1, hj1, w1, w2, hlt]
    split
    · rename_i hc
      have hc' : t.traits.contains s.traits[j] = true := by simpa using hc
      simp only [hc', if_true] at hi
      exact ⟨n + 1, ⟨by omega, hi⟩, .since (by simp only [push_n]; omega) hwf1 (.refl _) (by simp [frOk, AV.okR, AV.ok1, AC.okR, AV.ren, AV.ren1, AC.ren, AFrame.get, pl1_old, *]; first | done | rfl | omega)⟩
    · rename_i hc
      have hc' : t.traits.contains s.traits[j] = false := by simpa using hc
      simp only [hc', if_false, reduceCtorEq] at hi
      exact ⟨n, ⟨by omega, hi⟩, .since (by simp only [push_n]; omega) hwf1 (.refl _) (by simp [frOk, AV.okR, AV.ok1, AC.okR, AV.ren, AV.ren1, AC.ren, AFrame.get, pl1_old, *]; first | done | rfl | omega)⟩
  · obtain ⟨hs, hi⟩ := hi
    simp only [evGo] at hi
    have hev := evGo_b t.traits s.traits 0
    rw [← hi] at hev
    have w1 : IntKind.i64.wrap (4 * (n : Int)) = 4 * (n : Int) := wrap_id (by omega) (by omega)
    have w2 : IntKind.i64.wrap (4 * (n : Int) - (s.traits.length : Int)) = 4 * (n : Int) - (s.traits.length : Int) := wrap_id (by omega) (by omega)
    have w3 : IntKind.i64.wrap (4 * (n : Int) - (s.traits.length : Int) - (t.traits.length : Int)) = 4 * (n : Int) - (s.traits.length : Int) - (t.traits.length : Int) := wrap_id (by omega) (by omega)
    have w4 : IntKind.i64.wrap (4 * (n : Int) - (s.traits.length : Int) - (t.traits.length : Int) - 10) = 4 * (n : Int) - (s.traits.length : Int) - (t.traits.length : Int) - 10 := wrap_id (by omega) (by omega)
    have w5 : IntKind.i64.wrap (2 * (n : Int)) = 2 * (n : Int) := wrap_id (by omega) (by omega)
    have w6 : IntKind.i64.wrap ((s.traits.length : Int) - (n : Int)) = (s.traits.length : Int) - (n : Int) := wrap_id (by omega) (by omega)
    have w7 : IntKind.i64.wrap (2 * (n : Int) - ((s.traits.length : Int) - (n : Int))) = 2 * (n : Int) - ((s.traits.length : Int) - (n : Int)) := wrap_id (by omega) (by omega)
    have w8 : IntKind.i64.wrap ((t.traits.length : Int) - (n : Int)) = (t.traits.length : Int) - (n : Int) := wrap_id (by omega) (by omega)
    have w9 : IntKind.i64.wrap (2 * (n : Int) - ((s.traits.length : Int) - (n : Int)) - ((t.traits.length : Int) - (n : Int))) = 4 * (n : Int) - (s.traits.length : Int) - (t.traits.length : Int) := (wrap_id (by omega) (by omega)).trans (by omega)
    simp (config := {contextual := true, implicitDefEqProofs := false, maxSteps := 60000}) [-Int.not_le, -Int.not_lt, argsF, impl_evidence_l0, boxS, hat_s.blk, hat_s.esz, hat_s.len, hat_s.els, hne_s, hne1_s, hne2_s.1, hne2_s.2.1, hne2_s.2.2.1, hne2_s.2.2.2.1, hne2_s.2.2.2.2.1, hne2_s.2.2.2.2.2.1, hne2_s.2.2.2.2.2.2.1, hne2_s.2.2.2.2.2.2.2.1, hne2_s.2.2.2.2.2.2.2.2.1, hne2_s.2.2.2.2.2.2.2.2.2.1, hne2_s.2.2.2.2.2.2.2.2.2.2, hat_t.blk, hat_t.esz, hat_t.len, hat_t.els, hne_t, hne1_t, hne2_t.1, hne2_t.2.1, hne2_t.2.2.1, hne2_t.2.2.2.1, hne2_t.2.2.2.2.1, hne2_t.2.2.2.2.2.1, hne2_t.2.2.2.2.2.2.1, hne2_t.2.2.2.2.2.2.2.1, hne2_t.2.2.2.2.2.2.2.2.1, hne2_t.2.2.2.2.2.2.2.2.2.1, hne2_t.2.2.2.2.2.2.2.2.2.2, w1, w2, w3, w4, w5, w6, w7, w8, w9]
    unfold evid at h
    rw [← hi] at h
    split
    · rename_i hc
      rw [if_pos hc, Int.sub_zero] at h
      (refine Out.plain hwf ?_ rfl ?_; (repeat first | exact Sub.refl _ | refine Sub.push hwf ?_ _ | refine Sub.set hwf ?_ (by first | exact Nat.le_refl _ | omega | (simp only [push_n, set_n, kill_n]; omega)) _ | refine Sub.kill hwf ?_ (by first | exact Nat.le_refl _ | omega | (simp only [push_n, set_n, kill_n]; omega)))); exact h
    · rename_i hc
      rw [if_neg hc] at h
      (refine Out.plain hwf ?_ rfl ?_; (repeat first | exact Sub.refl _ | refine Sub.push hwf ?_ _ | refine Sub.set hwf ?_ (by first | exact Nat.le_refl _ | omega | (simp only [push_n, set_n, kill_n]; omega)) _ | refine Sub.kill hwf ?_ (by first | exact Nat.le_refl _ | omega | (simp only [push_n, set_n, kill_n]; omega)))); exact h

theorem spec_l13Evidence_s : Sound Try.prog 40 q_evid := by
  intro args H K h
  unfold q_evid at h
  split at h
  rotate_left
  all_goals first | exact False.elim h | skip
  rename_i s_e t_e
  have h1 := onv_iff.1 h
  clear h
  obtain ⟨s, hd_s, h⟩ := h1
  obtain ⟨b_s, i_s, k_s, rfl, hat_s, htx_s⟩ := eSi_at hd_s
  have h1 := onv_iff.1 h
  clear h
  obtain ⟨t, hd_t, h⟩ := h1
  obtain ⟨b_t, i_t, k_t, rfl, hat_t, htx_t⟩ := eSi_at hd_t
  have hE := soundE_cons spec_l1Has_s (soundE_nil (P := Try.prog))
  refine acalls_fn spec_l13Evidence_k hE ⟨by simp, fun hwf => ?_⟩
  have hsr : SubE H H := SubE.refl H
  have hsp : ∀ H' k, H.n ≤ H'.n → SubE H H' → SubE H (H'.push k) := fun H' k hn hs => SubE.push hwf hn hs k
  have hst : ∀ H', SubE H H' → SubE H H'.toRo := fun H' hs => hs.toRo
  have hss : ∀ H' i k, H.n ≤ i → SubE H H' → SubE H (H'.set i k) := fun H' i k hn hs => SubE.set hwf hn hs k
  have hsk : ∀ H' i, H.n ≤ i → SubE H H' → SubE H (H'.kill i) := fun H' i hn hs => SubE.kill hwf hn hs
  have hb_s : b_s < H.n := (hwf b_s k_s hat_s.blk).1
  have hne_s : (b_s = H.n) = False := eq_false (by omega)
  have hne1_s : ∀ i, (b_s = H.n + i) = False := fun i => eq_false (by omega)
  have hne2_s : (b_s = H.n + 1 + 1) = False ∧ (b_s = H.n + 1 + 1 + 1) = False ∧ (b_s = H.n + 1 + 1 + 1 + 1) = False ∧ (b_s = H.n + 1 + 1 + 1 + 1 + 1) = False ∧ (b_s = H.n + 1 + 1 + 1 + 1 + 1 + 1) = False ∧ (b_s = H.n + 1 + 1 + 1 + 1 + 1 + 1 + 1) = False ∧ (b_s = H.n + 1 + 1 + 1 + 1 + 1 + 1 + 1 + 1) = False ∧ (b_s = H.n + 1 + 1 + 1 + 1 + 1 + 1 + 1 + 1 + 1) = False ∧ (b_s = H.n + 1 + 1 + 1 + 1 + 1 + 1 + 1 + 1 + 1 + 1) = False ∧ (b_s = H.n + 1 + 1 + 1 + 1 + 1 + 1 + 1 + 1 + 1 + 1 + 1) = False ∧ (b_s = H.n + 1 + 1 + 1 + 1 + 1 + 1 + 1 + 1 + 1 + 1 + 1 + 1) = False := ⟨eq_false (by omega), eq_false (by omega), eq_false (by omega), eq_false (by omega), eq_false (by omega), eq_false (by omega), eq_false (by omega), eq_false (by omega), eq_false (by omega), eq_false (by omega), eq_false (by omega)⟩
  have hmx_s : s.traits.length ≤ 9223372036854775807 := by have h1 := (hwf b_s k_s hat_s.blk).2.2; have h2 := hat_s.len; omega
  have hb_t : b_t < H.n := (hwf b_t k_t hat_t.blk).1
  have hne_t : (b_t = H.n) = False := eq_false (by omega)
  have hne1_t : ∀ i, (b_t = H.n + i) = False := fun i => eq_false (by omega)
  have hne2_t : (b_t = H.n + 1 + 1) = False ∧ (b_t = H.n + 1 + 1 + 1) = False ∧ (b_t = H.n + 1 + 1 + 1 + 1) = False ∧ (b_t = H.n + 1 + 1 + 1 + 1 + 1) = False ∧ (b_t = H.n + 1 + 1 + 1 + 1 + 1 + 1) = False ∧ (b_t = H.n + 1 + 1 + 1 + 1 + 1 + 1 + 1) = False ∧ (b_t = H.n + 1 + 1 + 1 + 1 + 1 + 1 + 1 + 1) = False ∧ (b_t = H.n + 1 + 1 + 1 + 1 + 1 + 1 + 1 + 1 + 1) = False ∧ (b_t = H.n + 1 + 1 + 1 + 1 + 1 + 1 + 1 + 1 + 1 + 1) = False ∧ (b_t = H.n + 1 + 1 + 1 + 1 + 1 + 1 + 1 + 1 + 1 + 1 + 1) = False ∧ (b_t = H.n + 1 + 1 + 1 + 1 + 1 + 1 + 1 + 1 + 1 + 1 + 1 + 1) = False := ⟨eq_false (by omega), eq_false (by omega), eq_false (by omega), eq_false (by omega), eq_false (by omega), eq_false (by omega), eq_false (by omega), eq_false (by omega), eq_false (by omega), eq_false (by omega), eq_false (by omega)⟩
  have hmx_t : t.traits.length ≤ 9223372036854775807 := by have h1 := (hwf b_t k_t hat_t.blk).2.2; have h2 := hat_t.len; omega
  obtain ⟨hl1, hl2, h⟩ := h
  simp (config := {contextual := true, implicitDefEqProofs := false, maxSteps := 60000}) [-Int.not_le, -Int.not_lt, argsF, spec_l13Evidence_c, hat_s.blk, hat_s.esz, hat_s.len, hat_s.els, hne_s, hne1_s, hne2_s.1, hne2_s.2.1, hne2_s.2.2.1, hne2_s.2.2.2.1, hne2_s.2.2.2.2.1, hne2_s.2.2.2.2.2.1, hne2_s.2.2.2.2.2.2.1, hne2_s.2.2.2.2.2.2.2.1, hne2_s.2.2.2.2.2.2.2.2.1, hne2_s.2.2.2.2.2.2.2.2.2.1, hne2_s.2.2.2.2.2.2.2.2.2.2, hat_t.blk, hat_t.esz, hat_t.len, hat_t.els, hne_t, hne1_t, hne2_t.1, hne2_t.2.1, hne2_t.2.2.1, hne2_t.2.2.2.1, hne2_t.2.2.2.2.1, hne2_t.2.2.2.2.2.1, hne2_t.2.2.2.2.2.2.1, hne2_t.2.2.2.2.2.2.2.1, hne2_t.2.2.2.2.2.2.2.2.1, hne2_t.2.2.2.2.2.2.2.2.2.1, hne2_t.2.2.2.2.2.2.2.2.2.2, htx_s, htx_t, hsr, hsp, hst, hss, hsk]
  have hwf1 : ((H.push (boxS b_s i_s s)).push (boxS b_t i_t t)).WF := WF.push (WF.push hwf (by simp [boxS, AC.okR, hb_s]) (by simp [boxS])) (by simp [boxS, AC.okR]; omega) (by simp [boxS])
  refine aloop_list s.traits (fun j (n : Nat) => [(2, .c (.ptr H.n 0 0)), (3, .c (.ptr (H.n + 1) 0 0)), (5, .c (.int .i64 ((n : Int)))), (6, .c (.int .i64 (j)))]) (fun j (n : Nat) => (H.push (boxS b_s i_s s)).push (boxS b_t i_t t)) (fun j l (n : Nat) => n ≤ j ∧ evGo t.traits l n = evGo t.traits s.traits 0) hE _ 0 ⟨Nat.le_refl _, rfl⟩ (.since (by simp only [push_n]; omega) hwf1 (.refl _) (by simp [frOk, AV.okR, AV.ok1, AC.okR, AV.ren, AV.ren1, AC.ren, AFrame.get, pl1_old, *]; first | done | rfl | omega)) (fun j n hlt hi => ?_) fun n hi => ?_
  · obtain ⟨hs, hi⟩ := hi
    have e1 := hat_s.get hlt
    have hj1 := idx_lt hlt
    have w1 : IntKind.i64.wrap ((j : Int) + 1) = (j : Int) + 1 := wrap_id (by omega) (by omega)
    have w2 : IntKind.i64.wrap ((n : Int) + 1) = (n : Int) + 1 := wrap_id (by omega) (by omega)
    simp only [evGo] at hi
    simp (config := {contextual := true, implicitDefEqProofs := false, maxSteps := 60000}) [-Int.not_le, -Int.not_lt, argsF, spec_l13Evidence_l0, boxS, hat_s.blk, hat_s.esz, hat_s.len, hat_s.els, hne_s, hne1_s, hne2_s.1, hne2_s.2.1, hne2_s.2.2.1, hne2_s.2.2.2.1, hne2_s.2.2.2.2.1, hne2_s.2.2.2.2.2.1, hne2_s.2.2.2.2.2.2.1, hne2_s.2.2.2.2.2.2.2.1, hne2_s.2.2.2.2.2.2.2.2.1, hne2_s.2.2.2.2.2.2.2.2.2.1, hne2_s.2.2.2.2.2.2.2.2.2.2, hat_t.blk, hat_t.esz, hat_t.len, hat_t.els, hne_t, hne1_t, hne2_t.1, hne2_t.2.1, hne2_t.2.2.1, hne2_t.2.2.2.1, hne2_t.2.2.2.2.1, hne2_t.2.2.2.2.2.1, hne2_t.2.2.2.2.2.2.1, hne2_t.2.2.2.2.2.2.2.1, hne2_t.2.2.2.2.2.2.2.2.1, hne2_t.2.2.2.2.2.2.2.2.2.1, hne2_t.2.2.2.2.2.2.2.2.2.2, e1, hj1, w1, w2, hlt]
    split
    · rename_i hc
      have hc' : t.traits.contains s.traits[j] = true := by simpa using hc
      simp only [hc', if_true] at hi
      exact ⟨n + 1, ⟨by omega, hi⟩, .since (by simp only [push_n]; omega) hwf1 (.refl _) (by simp [frOk, AV.okR, AV.ok1, AC.okR, AV.ren, AV.ren1, AC.ren, AFrame.get, pl1_old, *]; first | done | rfl | omega)⟩
    · rename_i hc
      have hc' : t.traits.contains s.traits[j] = false := by simpa using hc
      simp only [hc', if_false, reduceCtorEq] at hi
      exact ⟨n, ⟨by omega, hi⟩, .since (by simp only [push_n]; omega) hwf1 (.refl _) (by simp [frOk, AV.okR, AV.ok1, AC.okR, AV.ren, AV.ren1, AC.ren, AFrame.get, pl1_old, *]; first | done | rfl | omega)⟩
  · obtain ⟨hs, hi⟩ := hi
    simp only [evGo] at hi
    have hev := evGo_b t.traits s.traits 0
    rw [← hi] at hev
    have w1 : IntKind.i64.wrap (4 * (n : Int)) = 4 * (n : Int) := wrap_id (by omega) (by omega)
    have w2 : IntKind.i64.wrap (4 * (n : Int) - (s.traits.length : Int)) = 4 * (n : Int) - (s.traits.length : Int) := wrap_id (by omega) (by omega)
    have w3 : IntKind.i64.wrap (4 * (n : Int) - (s.traits.length : Int) - (t.traits.length : Int)) = 4 * (n : Int) - (s.traits.length : Int) - (t.traits.length : Int) := wrap_id (by omega) (by omega)
    have w4 : IntKind.i64.wrap (4 * (n : Int) - (s.traits.length : Int) - (t.traits.length : Int) - 10) = 4 * (n : Int) - (s.traits.length : Int) - (t.traits.length : Int) - 10 := wrap_id (by omega) (by omega)
    have w5 : IntKind.i64.wrap (2 * (n : Int)) = 2 * (n : Int) := wrap_id (by omega) (by omega)
    have w6 : IntKind.i64.wrap ((s.traits.length : Int) - (n : Int)) = (s.traits.length : Int) - (n : Int) := wrap_id (by omega) (by omega)
    have w7 : IntKind.i64.wrap (2 * (n : Int) - ((s.traits.length : Int) - (n : Int))) = 2 * (n : Int) - ((s.traits.length : Int) - (n : Int)) := wrap_id (by omega) (by omega)
    have w8 : IntKind.i64.wrap ((t.traits.length : Int) - (n : Int)) = (t.traits.length : Int) - (n : Int) := wrap_id (by omega) (by omega)
    have w9 : IntKind.i64.wrap (2 * (n : Int) - ((s.traits.length : Int) - (n : Int)) - ((t.traits.length : Int) - (n : Int))) = 4 * (n : Int) - (s.traits.length : Int) - (t.traits.length : Int) := (wrap_id (by omega) (by omega)).trans (by omega)
    simp (config := {contextual := true, implicitDefEqProofs := false, maxSteps := 60000}) [-Int.not_le, -Int.not_lt, argsF, spec_l13Evidence_l0, boxS, hat_s.blk, hat_s.esz, hat_s.len, hat_s.els, hne_s, hne1_s, hne2_s.1, hne2_s.2.1, hne2_s.2.2.1, hne2_s.2.2.2.1, hne2_s.2.2.2.2.1, hne2_s.2.2.2.2.2.1, hne2_s.2.2.2.2.2.2.1, hne2_s.2.2.2.2.2.2.2.1, hne2_s.2.2.2.2.2.2.2.2.1, hne2_s.2.2.2.2.2.2.2.2.2.1, hne2_s.2.2.2.2.2.2.2.2.2.2, hat_t.blk, hat_t.esz, hat_t.len, hat_t.els, hne_t, hne1_t, hne2_t.1, hne2_t.2.1, hne2_t.2.2.1, hne2_t.2.2.2.1, hne2_t.2.2.2.2.1, hne2_t.2.2.2.2.2.1, hne2_t.2.2.2.2.2.2.1, hne2_t.2.2.2.2.2.2.2.1, hne2_t.2.2.2.2.2.2.2.2.1, hne2_t.2.2.2.2.2.2.2.2.2.1, hne2_t.2.2.2.2.2.2.2.2.2.2, w1, w2, w3, w4, w5, w6, w7, w8, w9]
    unfold evid at h
    rw [← hi] at h
    split
    · rename_i hc
      rw [if_pos hc, Int.sub_zero] at h
      (refine Out.plain hwf ?_ rfl ?_; (repeat first | exact Sub.refl _ | refine Sub.push hwf ?_ _ | refine Sub.set hwf ?_ (by first | exact Nat.le_refl _ | omega | (simp only [push_n, set_n, kill_n]; omega)) _ | refine Sub.kill hwf ?_ (by first | exact Nat.le_refl _ | omega | (simp only [push_n, set_n, kill_n]; omega)))); exact h
    · rename_i hc
      rw [if_neg hc] at h
      (refine Out.plain hwf ?_ rfl ?_; (repeat first | exact Sub.refl _ | refine Sub.push hwf ?_ _ | refine Sub.set hwf ?_ (by first | exact Nat.le_refl _ | omega | (simp only [push_n, set_n, kill_n]; omega)) _ | refine Sub.kill hwf ?_ (by first | exact Nat.le_refl _ | omega | (simp only [push_n, set_n, kill_n]; omega)))); exact h

end Go.Proofs.Ytafenginfojcmaa
