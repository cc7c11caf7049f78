/- The sightings: places, evidence asked for. -/
import Derived.Test.YtafenginfojcmaaSiS
set_option maxRecDepth 8000
set_option linter.unusedSimpArgs false
set_option linter.unusedVariables false
namespace Go.Proofs.Ytafenginfojcmaa
open Go Go.RowKit

def q_sfind : Con := fun args H K => match args with
  | [ps_v, .c (.int .i64 n)] => eSi.rd H (fun ps => K (.c (.int .i64 (ixOf (fun s : Si => decide (s.id = n)) ps 0))) H) ps_v
  | _ => False
@[simp ↓] theorem q_sfind_eq (ps_v : AV) (n : Int) (H : AHeap) (K : AV → AHeap → Prop) : q_sfind [ps_v, .c (.int .i64 n)] H K = (eSi.rd H (fun ps => K (.c (.int .i64 (ixOf (fun s : Si => decide (s.id = n)) ps 0))) H) ps_v) := rfl

theorem spec_l13Find_s : Sound Try.prog 35 q_sfind := by
  intro args H K h
  unfold q_sfind at h
  split at h
  rotate_left
  all_goals first | exact False.elim h | skip
  rename_i ps_v n
  have h1 := EncH.rd_at h
  clear h
  obtain ⟨b_ps, i_ps, k_ps, ps, rfl, hat_ps, h⟩ := h1
  have hE := soundE_nil (P := Try.prog)
  refine acalls_fn spec_l13Find_k hE ⟨by simp, fun hwf => ?_⟩
  have hsr : SubE H H := SubE.refl H
  have hsp : ∀ H' k, H.n ≤ H'.n → SubE H H' → SubE H (H'.push k) := fun H' k hn hs => SubE.push hwf hn hs k
  have hst : ∀ H', SubE H H' → SubE H H'.toRo := fun H' hs => hs.toRo
  have hss : ∀ H' i k, H.n ≤ i → SubE H H' → SubE H (H'.set i k) := fun H' i k hn hs => SubE.set hwf hn hs k
  have hsk : ∀ H' i, H.n ≤ i → SubE H H' → SubE H (H'.kill i) := fun H' i hn hs => SubE.kill hwf hn hs
  have hon_ps := hat_ps.on
  have hb_ps : b_ps < H.n := (hwf b_ps k_ps hat_ps.blk).1
  have hne_ps : (b_ps = H.n) = False := eq_false (by omega)
  have hne1_ps : ∀ i, (b_ps = H.n + i) = False := fun i => eq_false (by omega)
  have hne2_ps : (b_ps = H.n + 1 + 1) = False ∧ (b_ps = H.n + 1 + 1 + 1) = False ∧ (b_ps = H.n + 1 + 1 + 1 + 1) = False ∧ (b_ps = H.n + 1 + 1 + 1 + 1 + 1) = False ∧ (b_ps = H.n + 1 + 1 + 1 + 1 + 1 + 1) = False ∧ (b_ps = H.n + 1 + 1 + 1 + 1 + 1 + 1 + 1) = False ∧ (b_ps = H.n + 1 + 1 + 1 + 1 + 1 + 1 + 1 + 1) = False ∧ (b_ps = H.n + 1 + 1 + 1 + 1 + 1 + 1 + 1 + 1 + 1) = False ∧ (b_ps = H.n + 1 + 1 + 1 + 1 + 1 + 1 + 1 + 1 + 1 + 1) = False ∧ (b_ps = H.n + 1 + 1 + 1 + 1 + 1 + 1 + 1 + 1 + 1 + 1 + 1) = False ∧ (b_ps = H.n + 1 + 1 + 1 + 1 + 1 + 1 + 1 + 1 + 1 + 1 + 1 + 1) = False := ⟨eq_false (by omega), eq_false (by omega), eq_false (by omega), eq_false (by omega), eq_false (by omega), eq_false (by omega), eq_false (by omega), eq_false (by omega), eq_false (by omega), eq_false (by omega), eq_false (by omega)⟩
  have hmx_ps : ps.length ≤ 9223372036854775807 := by have h1 := (hwf b_ps k_ps hat_ps.blk).2.2; have h2 := hat_ps.len; omega
  simp (config := {contextual := true, implicitDefEqProofs := false, maxSteps := 60000}) [-Int.not_le, -Int.not_lt, argsF, spec_l13Find_c, hat_ps.blk, hat_ps.esz, hat_ps.len, hon_ps, hne_ps, hne1_ps, hne2_ps.1, hne2_ps.2.1, hne2_ps.2.2.1, hne2_ps.2.2.2.1, hne2_ps.2.2.2.2.1, hne2_ps.2.2.2.2.2.1, hne2_ps.2.2.2.2.2.2.1, hne2_ps.2.2.2.2.2.2.2.1, hne2_ps.2.2.2.2.2.2.2.2.1, hne2_ps.2.2.2.2.2.2.2.2.2.1, hne2_ps.2.2.2.2.2.2.2.2.2.2, hsr, hsp, hst, hss, hsk]
  refine aloop_list ps (fun j _ => [(0, .c (.sl b_ps i_ps ps.length)), (1, .c (.int .i64 (n))), (5, .c (.int .i64 (j)))]) (fun j _ => H) (fun j l _ => K (.c (.int .i64 (ixOf (fun s : Si => decide (s.id = n)) l j))) H) hE _ (()) (h) (.same hwf (by simp [frOk, AV.okR, AV.ok1, AC.okR, AV.ren, AV.ren1, AC.ren, AFrame.get, pl1_old, *]; first | done | rfl | omega)) (fun j _ hlt hi => ?_) fun _ hi => ?_
  ·
    have hj1 := idx_lt hlt
    have w1 : IntKind.i64.wrap ((j : Int) + 1) = (j : Int) + 1 := wrap_id (by omega) (by omega)
    obtain ⟨ex_x, e_x, hd_x⟩ := hat_ps.get hlt
    obtain ⟨b_x, i_x, k_x, rfl, hat_x, htx_x⟩ := eSi_at hd_x
    have hb_x : b_x < H.n := (hwf b_x k_x hat_x.blk).1
    have hne_x : (b_x = H.n) = False := eq_false (by omega)
    have hne1_x : ∀ i, (b_x = H.n + i) = False := fun i => eq_false (by omega)
    have hne2_x : (b_x = H.n + 1 + 1) = False ∧ (b_x = H.n + 1 + 1 + 1) = False ∧ (b_x = H.n + 1 + 1 + 1 + 1) = False ∧ (b_x = H.n + 1 + 1 + 1 + 1 + 1) = False ∧ (b_x = H.n + 1 + 1 + 1 + 1 + 1 + 1) = False ∧ (b_x = H.n + 1 + 1 + 1 + 1 + 1 + 1 + 1) = False ∧ (b_x = H.n + 1 + 1 + 1 + 1 + 1 + 1 + 1 + 1) = False ∧ (b_x = H.n + 1 + 1 + 1 + 1 + 1 + 1 + 1 + 1 + 1) = False ∧ (b_x = H.n + 1 + 1 + 1 + 1 + 1 + 1 + 1 + 1 + 1 + 1) = False ∧ (b_x = H.n + 1 + 1 + 1 + 1 + 1 + 1 + 1 + 1 + 1 + 1 + 1) = False ∧ (b_x = H.n + 1 + 1 + 1 + 1 + 1 + 1 + 1 + 1 + 1 + 1 + 1 + 1) = False := ⟨eq_false (by omega), eq_false (by omega), eq_false (by omega), eq_false (by omega), eq_false (by omega), eq_false (by omega), eq_false (by omega), eq_false (by omega), eq_false (by omega), eq_false (by omega), eq_false (by omega)⟩
    simp (config := {contextual := true, implicitDefEqProofs := false, maxSteps := 60000}) [-Int.not_le, -Int.not_lt, argsF, spec_l13Find_l0, hat_ps.blk, hat_ps.esz, hat_ps.len, hon_ps, hne_ps, hne1_ps, hne2_ps.1, hne2_ps.2.1, hne2_ps.2.2.1, hne2_ps.2.2.2.1, hne2_ps.2.2.2.2.1, hne2_ps.2.2.2.2.2.1, hne2_ps.2.2.2.2.2.2.1, hne2_ps.2.2.2.2.2.2.2.1, hne2_ps.2.2.2.2.2.2.2.2.1, hne2_ps.2.2.2.2.2.2.2.2.2.1, hne2_ps.2.2.2.2.2.2.2.2.2.2, hsr, hsp, hst, hss, hsk, hj1, w1, e_x, htx_x, hat_x.blk, hat_x.esz, hat_x.len, hat_x.els, hne_x, hne1_x, hne2_x.1, hne2_x.2.1, hne2_x.2.2.1, hne2_x.2.2.2.1, hne2_x.2.2.2.2.1, hne2_x.2.2.2.2.2.1, hne2_x.2.2.2.2.2.2.1, hne2_x.2.2.2.2.2.2.2.1, hne2_x.2.2.2.2.2.2.2.2.1, hne2_x.2.2.2.2.2.2.2.2.2.1, hne2_x.2.2.2.2.2.2.2.2.2.2]
    simp only [ixOf, decide_eq_true_eq] at hi
    repeat' split
    all_goals try simp only [*, if_true, if_false, reduceCtorEq, and_self, and_true, true_and, and_false, false_and, not_true_eq_false, not_false_eq_true] at hi
    all_goals first | ((refine Out.plain hwf ?_ rfl ?_; (repeat first | exact Sub.refl _ | refine Sub.push hwf ?_ _ | refine Sub.set hwf ?_ (by first | exact Nat.le_refl _ | omega | (simp only [push_n, set_n, kill_n]; omega)) _ | refine Sub.kill hwf ?_ (by first | exact Nat.le_refl _ | omega | (simp only [push_n, set_n, kill_n]; omega)))); exact hi) | exact ⟨(), hi, .drop hwf (by (repeat first | exact Sub.refl _ | refine Sub.push hwf ?_ _ | refine Sub.set hwf ?_ (by first | exact Nat.le_refl _ | omega | (simp only [push_n, set_n, kill_n]; omega)) _ | refine Sub.kill hwf ?_ (by first | exact Nat.le_refl _ | omega | (simp only [push_n, set_n, kill_n]; omega)))) (by simp [frOk, AV.okR, AV.ok1, AC.okR, AV.ren, AV.ren1, AC.ren, AFrame.get, pl1_old, *]; first | done | rfl | omega)⟩
  ·
    simp (config := {contextual := true, implicitDefEqProofs := false, maxSteps := 60000}) [-Int.not_le, -Int.not_lt, argsF, spec_l13Find_l0]
    simp only [ixOf, decide_eq_true_eq] at hi
    (refine Out.plain hwf ?_ rfl ?_; (repeat first | exact Sub.refl _ | refine Sub.push hwf ?_ _ | refine Sub.set hwf ?_ (by first | exact Nat.le_refl _ | omega | (simp only [push_n, set_n, kill_n]; omega)) _ | refine Sub.kill hwf ?_ (by first | exact Nat.le_refl _ | omega | (simp only [push_n, set_n, kill_n]; omega)))); exact hi

def q_sa1 : Con := fun args H K => match args with
  | [.agg s_e, .c (.ptr n_c 0 0)] => onv (eSi.dec H s_e) fun s => onv (H.b n_c) fun n_k => onv (boxI n_k) fun n => K (.c (.bool (decide (s.id = n)))) H
  | _ => False
@[simp ↓] theorem q_sa1_eq (s_e : List AC) (n_c : Nat) (H : AHeap) (K : AV → AHeap → Prop) : q_sa1 [.agg s_e, .c (.ptr n_c 0 0)] H K = (onv (eSi.dec H s_e) fun s => onv (H.b n_c) fun n_k => onv (boxI n_k) fun n => K (.c (.bool (decide (s.id = n)))) H) := rfl

theorem impl_sightingAt_1_s : Sound Try.prog 57 q_sa1 := by
  intro args H K h
  unfold q_sa1 at h
  split at h
  rotate_left
  all_goals first | exact False.elim h | skip
  rename_i s_e n_c
  have h1 := onv_iff.1 h
  clear h
  obtain ⟨s, hd_s, h⟩ := h1
  obtain ⟨b_s, i_s, k_s, rfl, hat_s, htx_s⟩ := eSi_at hd_s
  have h1 := onv_iff.1 h
  clear h
  obtain ⟨n_k, hk_n, h⟩ := h1
  have h1 := onv_iff.1 h
  clear h
  obtain ⟨n, hd_n, h⟩ := h1
  have he_n := boxI_els hd_n
  have hE := soundE_nil (P := Try.prog)
  refine acalls_fn impl_sightingAt_1_k hE ⟨by simp, fun hwf => ?_⟩
  have hsr : SubE H H := SubE.refl H
  have hsp : ∀ H' k, H.n ≤ H'.n → SubE H H' → SubE H (H'.push k) := fun H' k hn hs => SubE.push hwf hn hs k
  have hst : ∀ H', SubE H H' → SubE H H'.toRo := fun H' hs => hs.toRo
  have hss : ∀ H' i k, H.n ≤ i → SubE H H' → SubE H (H'.set i k) := fun H' i k hn hs => SubE.set hwf hn hs k
  have hsk : ∀ H' i, H.n ≤ i → SubE H H' → SubE H (H'.kill i) := fun H' i hn hs => SubE.kill hwf hn hs
  have hb_s : b_s < H.n := (hwf b_s k_s hat_s.blk).1
  have hne_s : (b_s = H.n) = False := eq_false (by omega)
  have hne1_s : ∀ i, (b_s = H.n + i) = False := fun i => eq_false (by omega)
  have hne2_s : (b_s = H.n + 1 + 1) = False ∧ (b_s = H.n + 1 + 1 + 1) = False ∧ (b_s = H.n + 1 + 1 + 1 + 1) = False ∧ (b_s = H.n + 1 + 1 + 1 + 1 + 1) = False ∧ (b_s = H.n + 1 + 1 + 1 + 1 + 1 + 1) = False ∧ (b_s = H.n + 1 + 1 + 1 + 1 + 1 + 1 + 1) = False ∧ (b_s = H.n + 1 + 1 + 1 + 1 + 1 + 1 + 1 + 1) = False ∧ (b_s = H.n + 1 + 1 + 1 + 1 + 1 + 1 + 1 + 1 + 1) = False ∧ (b_s = H.n + 1 + 1 + 1 + 1 + 1 + 1 + 1 + 1 + 1 + 1) = False ∧ (b_s = H.n + 1 + 1 + 1 + 1 + 1 + 1 + 1 + 1 + 1 + 1 + 1) = False ∧ (b_s = H.n + 1 + 1 + 1 + 1 + 1 + 1 + 1 + 1 + 1 + 1 + 1 + 1) = False := ⟨eq_false (by omega), eq_false (by omega), eq_false (by omega), eq_false (by omega), eq_false (by omega), eq_false (by omega), eq_false (by omega), eq_false (by omega), eq_false (by omega), eq_false (by omega), eq_false (by omega)⟩
  have hmx_s : s.traits.length ≤ 9223372036854775807 := by have h1 := (hwf b_s k_s hat_s.blk).2.2; have h2 := hat_s.len; omega
  have hb_n : n_c < H.n := (hwf n_c n_k hk_n).1
  have hne_n : (n_c = H.n) = False := eq_false (by omega)
  have hne1_n : ∀ i, (n_c = H.n + i) = False := fun i => eq_false (by omega)
  have hne2_n : (n_c = H.n + 1 + 1) = False ∧ (n_c = H.n + 1 + 1 + 1) = False ∧ (n_c = H.n + 1 + 1 + 1 + 1) = False ∧ (n_c = H.n + 1 + 1 + 1 + 1 + 1) = False ∧ (n_c = H.n + 1 + 1 + 1 + 1 + 1 + 1) = False ∧ (n_c = H.n + 1 + 1 + 1 + 1 + 1 + 1 + 1) = False ∧ (n_c = H.n + 1 + 1 + 1 + 1 + 1 + 1 + 1 + 1) = False ∧ (n_c = H.n + 1 + 1 + 1 + 1 + 1 + 1 + 1 + 1 + 1) = False ∧ (n_c = H.n + 1 + 1 + 1 + 1 + 1 + 1 + 1 + 1 + 1 + 1) = False ∧ (n_c = H.n + 1 + 1 + 1 + 1 + 1 + 1 + 1 + 1 + 1 + 1 + 1) = False ∧ (n_c = H.n + 1 + 1 + 1 + 1 + 1 + 1 + 1 + 1 + 1 + 1 + 1 + 1) = False := ⟨eq_false (by omega), eq_false (by omega), eq_false (by omega), eq_false (by omega), eq_false (by omega), eq_false (by omega), eq_false (by omega), eq_false (by omega), eq_false (by omega), eq_false (by omega), eq_false (by omega)⟩
  simp (config := {contextual := true, implicitDefEqProofs := false, maxSteps := 60000}) [-Int.not_le, -Int.not_lt, argsF, impl_sightingAt_1_c, hat_s.blk, hat_s.esz, hat_s.len, hat_s.els, hne_s, hne1_s, hne2_s.1, hne2_s.2.1, hne2_s.2.2.1, hne2_s.2.2.2.1, hne2_s.2.2.2.2.1, hne2_s.2.2.2.2.2.1, hne2_s.2.2.2.2.2.2.1, hne2_s.2.2.2.2.2.2.2.1, hne2_s.2.2.2.2.2.2.2.2.1, hne2_s.2.2.2.2.2.2.2.2.2.1, hne2_s.2.2.2.2.2.2.2.2.2.2, htx_s, hsr, hsp, hst, hss, hsk, hk_n, he_n, hd_n, hne_n, hne1_n, hne2_n.1, hne2_n.2.1, hne2_n.2.2.1, hne2_n.2.2.2.1, hne2_n.2.2.2.2.1, hne2_n.2.2.2.2.2.1, hne2_n.2.2.2.2.2.2.1, hne2_n.2.2.2.2.2.2.2.1, hne2_n.2.2.2.2.2.2.2.2.1, hne2_n.2.2.2.2.2.2.2.2.2.1, hne2_n.2.2.2.2.2.2.2.2.2.2]
  (refine Out.plain hwf ?_ rfl ?_; (repeat first | exact Sub.refl _ | refine Sub.push hwf ?_ _ | refine Sub.set hwf ?_ (by first | exact Nat.le_refl _ | omega | (simp only [push_n, set_n, kill_n]; omega)) _ | refine Sub.kill hwf ?_ (by first | exact Nat.le_refl _ | omega | (simp only [push_n, set_n, kill_n]; omega)))); exact h

def q_ixs : Con := fun args H K => match args with
  | [ps_v, .c (.fn n_g [n_c])] => eSi.rd H (fun ps => n_g = 57 ∧ onv (H.b n_c) fun n_k => onv (boxI n_k) fun n => K (.c (.int .i64 (ixOf (fun s : Si => decide (s.id = n)) ps 0))) H) ps_v
  | _ => False
@[simp ↓] theorem q_ixs_eq (ps_v : AV) (n_g n_c : Nat) (H : AHeap) (K : AV → AHeap → Prop) : q_ixs [ps_v, .c (.fn n_g [n_c])] H K = (eSi.rd H (fun ps => n_g = 57 ∧ onv (H.b n_c) fun n_k => onv (boxI n_k) fun n => K (.c (.int .i64 (ixOf (fun s : Si => decide (s.id = n)) ps 0))) H) ps_v) := rfl

theorem slices_IndexFunc___impl_Sighting_impl_Sighting_s : Sound Try.prog 56 q_ixs := by
  intro args H K h
  unfold q_ixs at h
  split at h
  rotate_left
  all_goals first | exact False.elim h | skip
  rename_i ps_v n_g n_c
  have h1 := EncH.rd_at h
  clear h
  obtain ⟨b_ps, i_ps, k_ps, ps, rfl, hat_ps, h⟩ := h1
  obtain ⟨rfl, h⟩ := h
  have h1 := onv_iff.1 h
  clear h
  obtain ⟨n_k, hk_n, h⟩ := h1
  have h1 := onv_iff.1 h
  clear h
  obtain ⟨n, hd_n, h⟩ := h1
  have he_n := boxI_els hd_n
  have hE := soundE_cons impl_sightingAt_1_s (soundE_nil (P := Try.prog))
  refine acalls_fn slices_IndexFunc___impl_Sighting_impl_Sighting__k hE ⟨by simp, fun hwf => ?_⟩
  have hsr : SubE H H := SubE.refl H
  have hsp : ∀ H' k, H.n ≤ H'.n → SubE H H' → SubE H (H'.push k) := fun H' k hn hs => SubE.push hwf hn hs k
  have hst : ∀ H', SubE H H' → SubE H H'.toRo := fun H' hs => hs.toRo
  have hss : ∀ H' i k, H.n ≤ i → SubE H H' → SubE H (H'.set i k) := fun H' i k hn hs => SubE.set hwf hn hs k
  have hsk : ∀ H' i, H.n ≤ i → SubE H H' → SubE H (H'.kill i) := fun H' i hn hs => SubE.kill hwf hn hs
  have hon_ps := hat_ps.on
  have hb_ps : b_ps < H.n := (hwf b_ps k_ps hat_ps.blk).1
  have hne_ps : (b_ps = H.n) = False := eq_false (by omega)
  have hne1_ps : ∀ i, (b_ps = H.n + i) = False := fun i => eq_false (by omega)
  have hne2_ps : (b_ps = H.n + 1 + 1) = False ∧ (b_ps = H.n + 1 + 1 + 1) = False ∧ (b_ps = H.n + 1 + 1 + 1 + 1) = False ∧ (b_ps = H.n + 1 + 1 + 1 + 1 + 1) = False ∧ (b_ps = H.n + 1 + 1 + 1 + 1 + 1 + 1) = False ∧ (b_ps = H.n + 1 + 1 + 1 + 1 + 1 + 1 + 1) = False ∧ (b_ps = H.n + 1 + 1 + 1 + 1 + 1 + 1 + 1 + 1) = False ∧ (b_ps = H.n + 1 + 1 + 1 + 1 + 1 + 1 + 1 + 1 + 1) = False ∧ (b_ps = H.n + 1 + 1 + 1 + 1 + 1 + 1 + 1 + 1 + 1 + 1) = False ∧ (b_ps = H.n + 1 + 1 + 1 + 1 + 1 + 1 + 1 + 1 + 1 + 1 + 1) = False ∧ (b_ps = H.n + 1 + 1 + 1 + 1 + 1 + 1 + 1 + 1 + 1 + 1 + 1 + 1) = False := ⟨eq_false (by omega), eq_false (by omega), eq_false (by omega), eq_false (by omega), eq_false (by omega), eq_false (by omega), eq_false (by omega), eq_false (by omega), eq_false (by omega), eq_false (by omega), eq_false (by omega)⟩
  have hmx_ps : ps.length ≤ 9223372036854775807 := by have h1 := (hwf b_ps k_ps hat_ps.blk).2.2; have h2 := hat_ps.len; omega
  have hb_n : n_c < H.n := (hwf n_c n_k hk_n).1
  have hne_n : (n_c = H.n) = False := eq_false (by omega)
  have hne1_n : ∀ i, (n_c = H.n + i) = False := fun i => eq_false (by omega)
  have hne2_n : (n_c = H.n + 1 + 1) = False ∧ (n_c = H.n + 1 + 1 + 1) = False ∧ (n_c = H.n + 1 + 1 + 1 + 1) = False ∧ (n_c = H.n + 1 + 1 + 1 + 1 + 1) = False ∧ (n_c = H.n + 1 + 1 + 1 + 1 + 1 + 1) = False ∧ (n_c = H.n + 1 + 1 + 1 + 1 + 1 + 1 + 1) = False ∧ (n_c = H.n + 1 + 1 + 1 + 1 + 1 + 1 + 1 + 1) = False ∧ (n_c = H.n + 1 + 1 + 1 + 1 + 1 + 1 + 1 + 1 + 1) = False ∧ (n_c = H.n + 1 + 1 + 1 + 1 + 1 + 1 + 1 + 1 + 1 + 1) = False ∧ (n_c = H.n + 1 + 1 + 1 + 1 + 1 + 1 + 1 + 1 + 1 + 1 + 1) = False ∧ (n_c = H.n + 1 + 1 + 1 + 1 + 1 + 1 + 1 + 1 + 1 + 1 + 1 + 1) = False := ⟨eq_false (by omega), eq_false (by omega), eq_false (by omega), eq_false (by omega), eq_false (by omega), eq_false (by omega), eq_false (by omega), eq_false (by omega), eq_false (by omega), eq_false (by omega), eq_false (by omega)⟩
  simp (config := {contextual := true, implicitDefEqProofs := false, maxSteps := 60000}) [-Int.not_le, -Int.not_lt, argsF, slices_IndexFunc___impl_Sighting_impl_Sighting__c, hat_ps.blk, hat_ps.esz, hat_ps.len, hon_ps, hne_ps, hne1_ps, hne2_ps.1, hne2_ps.2.1, hne2_ps.2.2.1, hne2_ps.2.2.2.1, hne2_ps.2.2.2.2.1, hne2_ps.2.2.2.2.2.1, hne2_ps.2.2.2.2.2.2.1, hne2_ps.2.2.2.2.2.2.2.1, hne2_ps.2.2.2.2.2.2.2.2.1, hne2_ps.2.2.2.2.2.2.2.2.2.1, hne2_ps.2.2.2.2.2.2.2.2.2.2, hsr, hsp, hst, hss, hsk, hk_n, he_n, hd_n, hne_n, hne1_n, hne2_n.1, hne2_n.2.1, hne2_n.2.2.1, hne2_n.2.2.2.1, hne2_n.2.2.2.2.1, hne2_n.2.2.2.2.2.1, hne2_n.2.2.2.2.2.2.1, hne2_n.2.2.2.2.2.2.2.1, hne2_n.2.2.2.2.2.2.2.2.1, hne2_n.2.2.2.2.2.2.2.2.2.1, hne2_n.2.2.2.2.2.2.2.2.2.2]
  refine aloop_list ps (fun j _ => [(0, .c (.sl b_ps i_ps ps.length)), (1, .c (.fn 57 [n_c])), (7, .c (.int .i64 ps.length)), (8, .c (.int .i64 (j)))]) (fun j _ => H) (fun j l _ => K (.c (.int .i64 (ixOf (fun s : Si => decide (s.id = n)) l j))) H) hE _ (()) (h) (.same hwf (by simp [frOk, AV.okR, AV.ok1, AC.okR, AV.ren, AV.ren1, AC.ren, AFrame.get, pl1_old, *]; first | done | rfl | omega)) (fun j _ hlt hi => ?_) fun _ hi => ?_
  ·
    have hj1 := idx_lt hlt
    have w1 : IntKind.i64.wrap ((j : Int) + 1) = (j : Int) + 1 := wrap_id (by omega) (by omega)
    obtain ⟨ex_x, e_x, hd_x⟩ := hat_ps.get hlt
    obtain ⟨b_x, i_x, k_x, rfl, hat_x, htx_x⟩ := eSi_at hd_x
    have hb_x : b_x < H.n := (hwf b_x k_x hat_x.blk).1
    have hne_x : (b_x = H.n) = False := eq_false (by omega)
    have hne1_x : ∀ i, (b_x = H.n + i) = False := fun i => eq_false (by omega)
    have hne2_x : (b_x = H.n + 1 + 1) = False ∧ (b_x = H.n + 1 + 1 + 1) = False ∧ (b_x = H.n + 1 + 1 + 1 + 1) = False ∧ (b_x = H.n + 1 + 1 + 1 + 1 + 1) = False ∧ (b_x = H.n + 1 + 1 + 1 + 1 + 1 + 1) = False ∧ (b_x = H.n + 1 + 1 + 1 + 1 + 1 + 1 + 1) = False ∧ (b_x = H.n + 1 + 1 + 1 + 1 + 1 + 1 + 1 + 1) = False ∧ (b_x = H.n + 1 + 1 + 1 + 1 + 1 + 1 + 1 + 1 + 1) = False ∧ (b_x = H.n + 1 + 1 + 1 + 1 + 1 + 1 + 1 + 1 + 1 + 1) = False ∧ (b_x = H.n + 1 + 1 + 1 + 1 + 1 + 1 + 1 + 1 + 1 + 1 + 1) = False ∧ (b_x = H.n + 1 + 1 + 1 + 1 + 1 + 1 + 1 + 1 + 1 + 1 + 1 + 1) = False := ⟨eq_false (by omega), eq_false (by omega), eq_false (by omega), eq_false (by omega), eq_false (by omega), eq_false (by omega), eq_false (by omega), eq_false (by omega), eq_false (by omega), eq_false (by omega), eq_false (by omega)⟩
    simp (config := {contextual := true, implicitDefEqProofs := false, maxSteps := 60000}) [-Int.not_le, -Int.not_lt, argsF, slices_IndexFunc___impl_Sighting_impl_Sighting__l0, hat_ps.blk, hat_ps.esz, hat_ps.len, hon_ps, hne_ps, hne1_ps, hne2_ps.1, hne2_ps.2.1, hne2_ps.2.2.1, hne2_ps.2.2.2.1, hne2_ps.2.2.2.2.1, hne2_ps.2.2.2.2.2.1, hne2_ps.2.2.2.2.2.2.1, hne2_ps.2.2.2.2.2.2.2.1, hne2_ps.2.2.2.2.2.2.2.2.1, hne2_ps.2.2.2.2.2.2.2.2.2.1, hne2_ps.2.2.2.2.2.2.2.2.2.2, hsr, hsp, hst, hss, hsk, hj1, w1, e_x, htx_x, hat_x.blk, hat_x.esz, hat_x.len, hat_x.els, hne_x, hne1_x, hne2_x.1, hne2_x.2.1, hne2_x.2.2.1, hne2_x.2.2.2.1, hne2_x.2.2.2.2.1, hne2_x.2.2.2.2.2.1, hne2_x.2.2.2.2.2.2.1, hne2_x.2.2.2.2.2.2.2.1, hne2_x.2.2.2.2.2.2.2.2.1, hne2_x.2.2.2.2.2.2.2.2.2.1, hne2_x.2.2.2.2.2.2.2.2.2.2, hk_n, he_n, hd_n, hne_n, hne1_n, hne2_n.1, hne2_n.2.1, hne2_n.2.2.1, hne2_n.2.2.2.1, hne2_n.2.2.2.2.1, hne2_n.2.2.2.2.2.1, hne2_n.2.2.2.2.2.2.1, hne2_n.2.2.2.2.2.2.2.1, hne2_n.2.2.2.2.2.2.2.2.1, hne2_n.2.2.2.2.2.2.2.2.2.1, hne2_n.2.2.2.2.2.2.2.2.2.2]
    simp only [ixOf, decide_eq_true_eq] at hi
    repeat' split
    all_goals try simp only [*, if_true, if_false, reduceCtorEq, and_self, and_true, true_and, and_false, false_and, not_true_eq_false, not_false_eq_true] at hi
    all_goals first | ((refine Out.plain hwf ?_ rfl ?_; (repeat first | exact Sub.refl _ | refine Sub.push hwf ?_ _ | refine Sub.set hwf ?_ (by first | exact Nat.le_refl _ | omega | (simp only [push_n, set_n, kill_n]; omega)) _ | refine Sub.kill hwf ?_ (by first | exact Nat.le_refl _ | omega | (simp only [push_n, set_n, kill_n]; omega)))); exact hi) | exact ⟨(), hi, .drop hwf (by (repeat first | exact Sub.refl _ | refine Sub.push hwf ?_ _ | refine Sub.set hwf ?_ (by first | exact Nat.le_refl _ | omega | (simp only [push_n, set_n, kill_n]; omega)) _ | refine Sub.kill hwf ?_ (by first | exact Nat.le_refl _ | omega | (simp only [push_n, set_n, kill_n]; omega)))) (by simp [frOk, AV.okR, AV.ok1, AC.okR, AV.ren, AV.ren1, AC.ren, AFrame.get, pl1_old, *]; first | done | rfl | omega)⟩
  ·
    simp (config := {contextual := true, implicitDefEqProofs := false, maxSteps := 60000}) [-Int.not_le, -Int.not_lt, argsF, slices_IndexFunc___impl_Sighting_impl_Sighting__l0]
    simp only [ixOf, decide_eq_true_eq] at hi
    (refine Out.plain hwf ?_ rfl ?_; (repeat first | exact Sub.refl _ | refine Sub.push hwf ?_ _ | refine Sub.set hwf ?_ (by first | exact Nat.le_refl _ | omega | (simp only [push_n, set_n, kill_n]; omega)) _ | refine Sub.kill hwf ?_ (by first | exact Nat.le_refl _ | omega | (simp only [push_n, set_n, kill_n]; omega)))); exact hi

theorem impl_sightingAt_s : Sound Try.prog 31 q_sfind := by
  intro args H K h
  unfold q_sfind at h
  split at h
  rotate_left
  all_goals first | exact False.elim h | skip
  rename_i ps_v n
  have h1 := EncH.rd_at h
  clear h
  obtain ⟨b_ps, i_ps, k_ps, ps, rfl, hat_ps, h⟩ := h1
  have hE := soundE_cons slices_IndexFunc___impl_Sighting_impl_Sighting_s (soundE_nil (P := Try.prog))
  refine acalls_fn impl_sightingAt_k hE ⟨by simp, fun hwf => ?_⟩
  have hsr : SubE H H := SubE.refl H
  have hsp : ∀ H' k, H.n ≤ H'.n → SubE H H' → SubE H (H'.push k) := fun H' k hn hs => SubE.push hwf hn hs k
  have hst : ∀ H', SubE H H' → SubE H H'.toRo := fun H' hs => hs.toRo
  have hss : ∀ H' i k, H.n ≤ i → SubE H H' → SubE H (H'.set i k) := fun H' i k hn hs => SubE.set hwf hn hs k
  have hsk : ∀ H' i, H.n ≤ i → SubE H H' → SubE H (H'.kill i) := fun H' i hn hs => SubE.kill hwf hn hs
  have hon_ps := hat_ps.on
  have hb_ps : b_ps < H.n := (hwf b_ps k_ps hat_ps.blk).1
  have hne_ps : (b_ps = H.n) = False := eq_false (by omega)
  have hne1_ps : ∀ i, (b_ps = H.n + i) = False := fun i => eq_false (by omega)
  have hne2_ps : (b_ps = H.n + 1 + 1) = False ∧ (b_ps = H.n + 1 + 1 + 1) = False ∧ (b_ps = H.n + 1 + 1 + 1 + 1) = False ∧ (b_ps = H.n + 1 + 1 + 1 + 1 + 1) = False ∧ (b_ps = H.n + 1 + 1 + 1 + 1 + 1 + 1) = False ∧ (b_ps = H.n + 1 + 1 + 1 + 1 + 1 + 1 + 1) = False ∧ (b_ps = H.n + 1 + 1 + 1 + 1 + 1 + 1 + 1 + 1) = False ∧ (b_ps = H.n + 1 + 1 + 1 + 1 + 1 + 1 + 1 + 1 + 1) = False ∧ (b_ps = H.n + 1 + 1 + 1 + 1 + 1 + 1 + 1 + 1 + 1 + 1) = False ∧ (b_ps = H.n + 1 + 1 + 1 + 1 + 1 + 1 + 1 + 1 + 1 + 1 + 1) = False ∧ (b_ps = H.n + 1 + 1 + 1 + 1 + 1 + 1 + 1 + 1 + 1 + 1 + 1 + 1) = False := ⟨eq_false (by omega), eq_false (by omega), eq_false (by omega), eq_false (by omega), eq_false (by omega), eq_false (by omega), eq_false (by omega), eq_false (by omega), eq_false (by omega), eq_false (by omega), eq_false (by omega)⟩
  have hmx_ps : ps.length ≤ 9223372036854775807 := by have h1 := (hwf b_ps k_ps hat_ps.blk).2.2; have h2 := hat_ps.len; omega
  simp (config := {contextual := true, implicitDefEqProofs := false, maxSteps := 60000}) [-Int.not_le, -Int.not_lt, argsF, impl_sightingAt_c, hat_ps.blk, hat_ps.esz, hat_ps.len, hon_ps, hne_ps, hne1_ps, hne2_ps.1, hne2_ps.2.1, hne2_ps.2.2.1, hne2_ps.2.2.2.1, hne2_ps.2.2.2.2.1, hne2_ps.2.2.2.2.2.1, hne2_ps.2.2.2.2.2.2.1, hne2_ps.2.2.2.2.2.2.2.1, hne2_ps.2.2.2.2.2.2.2.2.1, hne2_ps.2.2.2.2.2.2.2.2.2.1, hne2_ps.2.2.2.2.2.2.2.2.2.2, hsr, hsp, hst, hss, hsk]
  (refine Out.plain hwf ?_ rfl ?_; (repeat first | exact Sub.refl _ | refine Sub.push hwf ?_ _ | refine Sub.set hwf ?_ (by first | exact Nat.le_refl _ | omega | (simp only [push_n, set_n, kill_n]; omega)) _ | refine Sub.kill hwf ?_ (by first | exact Nat.le_refl _ | omega | (simp only [push_n, set_n, kill_n]; omega)))); exact h

end Go.Proofs.Ytafenginfojcmaa
