/- AreSightings, EvidenceOf: the walks of their laws. -/
import Derived.Test.YtnbjiigcldmgoaaTkSi
import Derived.Test.YtnbjiigcldmgoaaSiX
set_option maxRecDepth 8000
set_option linter.unusedSimpArgs false
set_option linter.unusedVariables false
namespace Go.Proofs.Ytnbjiigcldmgoaa
open Go Go.RowKit

set_option maxHeartbeats 4000000

theorem impl_AreSightings_s : Sound Try.prog 17 q_areSi := by
  intro args H K h
  unfold q_areSi at h
  split at h
  rotate_left
  all_goals first | exact False.elim h | skip
  rename_i ps_v
  have h1 := EncH.rd_at h
  clear h
  obtain ⟨b_ps, i_ps, k_ps, ps, rfl, hat_ps, h⟩ := h1
  have hE := soundE_cons impl_areSightings_s (soundE_nil (P := Try.prog))
  refine acalls_fn impl_AreSightings_k hE ⟨by simp, fun hwf => ?_⟩
  have hsr : SubE H H := SubE.refl H
  have hsp : ∀ H' k, H.n ≤ H'.n → SubE H H' → SubE H (H'.push k) := fun H' k hn hs => SubE.push hwf hn hs k
  have hst : ∀ H', SubE H H' → SubE H H'.toRo := fun H' hs => hs.toRo
  have hss : ∀ H' i k, H.n ≤ i → SubE H H' → SubE H (H'.set i k) := fun H' i k hn hs => SubE.set hwf hn hs k
  have hsk : ∀ H' i, H.n ≤ i → SubE H H' → SubE H (H'.kill i) := fun H' i hn hs => SubE.kill hwf hn hs
  have hon_ps := hat_ps.on
  have hb_ps : b_ps < H.n := (hwf b_ps k_ps hat_ps.blk).1
  have hne_ps : (b_ps = H.n) = False := eq_false (by omega)
  have hne1_ps : ∀ i, (b_ps = H.n + i) = False := fun i => eq_false (by omega)
  have hne2_ps : (b_ps = H.n + 1 + 1) = False ∧ (b_ps = H.n + 1 + 1 + 1) = False ∧ (b_ps = H.n + 1 + 1 + 1 + 1) = False ∧ (b_ps = H.n + 1 + 1 + 1 + 1 + 1) = False ∧ (b_ps = H.n + 1 + 1 + 1 + 1 + 1 + 1) = False ∧ (b_ps = H.n + 1 + 1 + 1 + 1 + 1 + 1 + 1) = False ∧ (b_ps = H.n + 1 + 1 + 1 + 1 + 1 + 1 + 1 + 1) = False ∧ (b_ps = H.n + 1 + 1 + 1 + 1 + 1 + 1 + 1 + 1 + 1) = False ∧ (b_ps = H.n + 1 + 1 + 1 + 1 + 1 + 1 + 1 + 1 + 1 + 1) = False ∧ (b_ps = H.n + 1 + 1 + 1 + 1 + 1 + 1 + 1 + 1 + 1 + 1 + 1) = False ∧ (b_ps = H.n + 1 + 1 + 1 + 1 + 1 + 1 + 1 + 1 + 1 + 1 + 1 + 1) = False := ⟨eq_false (by omega), eq_false (by omega), eq_false (by omega), eq_false (by omega), eq_false (by omega), eq_false (by omega), eq_false (by omega), eq_false (by omega), eq_false (by omega), eq_false (by omega), eq_false (by omega)⟩
  have hmx_ps : ps.length ≤ 9223372036854775807 := by have h1 := (hwf b_ps k_ps hat_ps.blk).2.2; have h2 := hat_ps.len; omega
  simp (config := {contextual := true, implicitDefEqProofs := false, maxSteps := 60000}) [-Int.not_le, -Int.not_lt, argsF, impl_AreSightings_c, hat_ps.blk, hat_ps.esz, hat_ps.len, hon_ps, hne_ps, hne1_ps, hne2_ps.1, hne2_ps.2.1, hne2_ps.2.2.1, hne2_ps.2.2.2.1, hne2_ps.2.2.2.2.1, hne2_ps.2.2.2.2.2.1, hne2_ps.2.2.2.2.2.2.1, hne2_ps.2.2.2.2.2.2.2.1, hne2_ps.2.2.2.2.2.2.2.2.1, hne2_ps.2.2.2.2.2.2.2.2.2.1, hne2_ps.2.2.2.2.2.2.2.2.2.2, hsr, hsp, hst, hss, hsk]
  (refine Out.plain hwf ?_ rfl ?_; (repeat first | exact Sub.refl _ | refine Sub.push hwf ?_ _ | refine Sub.set hwf ?_ (by first | exact Nat.le_refl _ | omega) _ | refine Sub.kill hwf ?_ (by first | exact Nat.le_refl _ | omega))); exact h

def q_tAreSi : Con := fun args H K => match args with
  | [ps_v] => eSi.rd H (fun ps => K (.c (.bool (true))) H) ps_v
  | _ => False
@[simp ↓] theorem q_tAreSi_eq (ps_v : AV) (H : AHeap) (K : AV → AHeap → Prop) : q_tAreSi [ps_v] H K = (eSi.rd H (fun ps => K (.c (.bool (true))) H) ps_v) := rfl

theorem laws_FnExactAreSightings_s : Sound Try.prog 3 q_tAreSi := by
  intro args H K h
  unfold q_tAreSi at h
  split at h
  rotate_left
  all_goals first | exact False.elim h | skip
  rename_i ps_v
  have h1 := EncH.rd_at h
  clear h
  obtain ⟨b_ps, i_ps, k_ps, ps, rfl, hat_ps, h⟩ := h1
  have hE := soundE_cons laws_szSightingS_s (soundE_cons laws_toSightingS_s (soundE_cons laws_eqSightingS_s (soundE_cons impl_AreSightings_s (soundE_cons spec_AreSightings_s (soundE_nil (P := Try.prog))))))
  refine acalls_fn laws_FnExactAreSightings_k hE ⟨by simp, fun hwf => ?_⟩
  have hsr : SubE H H := SubE.refl H
  have hsp : ∀ H' k, H.n ≤ H'.n → SubE H H' → SubE H (H'.push k) := fun H' k hn hs => SubE.push hwf hn hs k
  have hst : ∀ H', SubE H H' → SubE H H'.toRo := fun H' hs => hs.toRo
  have hss : ∀ H' i k, H.n ≤ i → SubE H H' → SubE H (H'.set i k) := fun H' i k hn hs => SubE.set hwf hn hs k
  have hsk : ∀ H' i, H.n ≤ i → SubE H H' → SubE H (H'.kill i) := fun H' i hn hs => SubE.kill hwf hn hs
  have hon_ps := hat_ps.on
  have hb_ps : b_ps < H.n := (hwf b_ps k_ps hat_ps.blk).1
  have hne_ps : (b_ps = H.n) = False := eq_false (by omega)
  have hne1_ps : ∀ i, (b_ps = H.n + i) = False := fun i => eq_false (by omega)
  have hne2_ps : (b_ps = H.n + 1 + 1) = False ∧ (b_ps = H.n + 1 + 1 + 1) = False ∧ (b_ps = H.n + 1 + 1 + 1 + 1) = False ∧ (b_ps = H.n + 1 + 1 + 1 + 1 + 1) = False ∧ (b_ps = H.n + 1 + 1 + 1 + 1 + 1 + 1) = False ∧ (b_ps = H.n + 1 + 1 + 1 + 1 + 1 + 1 + 1) = False ∧ (b_ps = H.n + 1 + 1 + 1 + 1 + 1 + 1 + 1 + 1) = False ∧ (b_ps = H.n + 1 + 1 + 1 + 1 + 1 + 1 + 1 + 1 + 1) = False ∧ (b_ps = H.n + 1 + 1 + 1 + 1 + 1 + 1 + 1 + 1 + 1 + 1) = False ∧ (b_ps = H.n + 1 + 1 + 1 + 1 + 1 + 1 + 1 + 1 + 1 + 1 + 1) = False ∧ (b_ps = H.n + 1 + 1 + 1 + 1 + 1 + 1 + 1 + 1 + 1 + 1 + 1 + 1) = False := ⟨eq_false (by omega), eq_false (by omega), eq_false (by omega), eq_false (by omega), eq_false (by omega), eq_false (by omega), eq_false (by omega), eq_false (by omega), eq_false (by omega), eq_false (by omega), eq_false (by omega)⟩
  have hmx_ps : ps.length ≤ 9223372036854775807 := by have h1 := (hwf b_ps k_ps hat_ps.blk).2.2; have h2 := hat_ps.len; omega
  by_cases hz : szSis ps 1048576 < 0
  · simp (config := {contextual := true, implicitDefEqProofs := false, maxSteps := 2000000}) [-Int.not_le, -Int.not_lt, argsF, laws_FnExactAreSightings_c, hat_ps.blk, hat_ps.esz, hat_ps.len, hon_ps, hne_ps, hne1_ps, hne2_ps.1, hne2_ps.2.1, hne2_ps.2.2.1, hne2_ps.2.2.2.1, hne2_ps.2.2.2.2.1, hne2_ps.2.2.2.2.2.1, hne2_ps.2.2.2.2.2.2.1, hne2_ps.2.2.2.2.2.2.2.1, hne2_ps.2.2.2.2.2.2.2.2.1, hne2_ps.2.2.2.2.2.2.2.2.2.1, hne2_ps.2.2.2.2.2.2.2.2.2.2, hsr, hsp, hst, hss, hsk, hz]
    (refine Out.plain hwf ?_ rfl ?_; (repeat first | exact Sub.refl _ | refine Sub.push hwf ?_ _ | refine Sub.set hwf ?_ (by first | exact Nat.le_refl _ | omega) _ | refine Sub.kill hwf ?_ (by first | exact Nat.le_refl _ | omega))); exact h
  · obtain ⟨hl, hl2⟩ := szSis_ok (ps := ps) (by omega)
    simp (config := {contextual := true, implicitDefEqProofs := false, maxSteps := 2000000}) [-Int.not_le, -Int.not_lt, argsF, laws_FnExactAreSightings_c, hat_ps.blk, hat_ps.esz, hat_ps.len, hon_ps, hne_ps, hne1_ps, hne2_ps.1, hne2_ps.2.1, hne2_ps.2.2.1, hne2_ps.2.2.2.1, hne2_ps.2.2.2.2.1, hne2_ps.2.2.2.2.2.1, hne2_ps.2.2.2.2.2.2.1, hne2_ps.2.2.2.2.2.2.2.1, hne2_ps.2.2.2.2.2.2.2.2.1, hne2_ps.2.2.2.2.2.2.2.2.2.1, hne2_ps.2.2.2.2.2.2.2.2.2.2, hsr, hsp, hst, hss, hsk, hz, hl, hl2]
    refine Stop.mk fun H1 b1 hw1 hs1 hn1 => ?_
    obtain ⟨k1, hat1, hlen1⟩ := hn1.at
    have hS1 : Sub H H1 := hs1
    have hon1 := hat1.on
    simp only [List.drop_zero] at hon1
    have hpt1 := hat_ps.sub hS1
    have hpo1 := hpt1.on
    have hr1 : SubE H1 H1 := SubE.refl _
    simp (config := {contextual := true, implicitDefEqProofs := false, maxSteps := 2000000}) [-Int.not_le, -Int.not_lt, argsF, hat1.blk, hat1.esz, hlen1, hon1, hpt1.blk, hpt1.esz, hpt1.len, hpo1, hr1, SubE.toRo hr1, hl, hl2]
    refine Stop.mk fun H2 b2 hw2 hs2 hn2 => ?_
    obtain ⟨k2, hat2, hlen2⟩ := hn2.at
    have hS2 : Sub H H2 := hS1.trans hs2
    have hon2 := hat2.on
    simp only [List.drop_zero] at hon2
    have hpt2 := hat_ps.sub hS2
    have hpo2 := hpt2.on
    have hr2 : SubE H2 H2 := SubE.refl _
    simp (config := {contextual := true, implicitDefEqProofs := false, maxSteps := 2000000}) [-Int.not_le, -Int.not_lt, argsF, hat2.blk, hat2.esz, hlen2, hon2, hpt2.blk, hpt2.esz, hpt2.len, hpo2, hr2, SubE.toRo hr2, hl, hl2]
    refine Stop.mk fun H3 b3 hw3 hs3 hn3 => ?_
    obtain ⟨k3, hat3, hlen3⟩ := hn3.at
    have hS3 : Sub H H3 := hS2.trans hs3
    have hon3 := hat3.on
    simp only [List.drop_zero] at hon3
    have hpt3 := hat_ps.sub hS3
    have hpo3 := hpt3.on
    have hr3 : SubE H3 H3 := SubE.refl _
    have ha := hat2.sub hs3
    have hb := ha.on
    simp only [List.drop_zero] at hb
    simp (config := {contextual := true, implicitDefEqProofs := false, maxSteps := 2000000}) [-Int.not_le, -Int.not_lt, argsF, hat3.blk, hat3.esz, hlen3, hon3, hpt3.blk, hpt3.esz, hpt3.len, hpo3, hr3, SubE.toRo hr3, ha.blk, ha.esz, hlen2, hb]
    refine Out.plain (hwf) hS3 rfl h

def q_tEvOf : Con := fun args H K => match args with
  | [ps_v, .c (.int .i64 a), .c (.int .i64 b)] => eSi.rd H (fun ps => K (.c (.bool (true))) H) ps_v
  | _ => False
@[simp ↓] theorem q_tEvOf_eq (ps_v : AV) (a : Int) (b : Int) (H : AHeap) (K : AV → AHeap → Prop) : q_tEvOf [ps_v, .c (.int .i64 a), .c (.int .i64 b)] H K = (eSi.rd H (fun ps => K (.c (.bool (true))) H) ps_v) := rfl

theorem laws_FnExactEvidenceOf_s : Sound Try.prog 5 q_tEvOf := by
  intro args H K h
  unfold q_tEvOf at h
  split at h
  rotate_left
  all_goals first | exact False.elim h | skip
  rename_i ps_v a b
  have h1 := EncH.rd_at h
  clear h
  obtain ⟨b_ps, i_ps, k_ps, ps, rfl, hat_ps, h⟩ := h1
  have hE := soundE_cons laws_szSightingS_s (soundE_cons laws_toSightingS_s (soundE_cons laws_eqSightingS_s (soundE_cons impl_EvidenceOf_s (soundE_cons spec_EvidenceOf_s (soundE_nil (P := Try.prog))))))
  refine acalls_fn laws_FnExactEvidenceOf_k hE ⟨by simp, fun hwf => ?_⟩
  have hsr : SubE H H := SubE.refl H
  have hsp : ∀ H' k, H.n ≤ H'.n → SubE H H' → SubE H (H'.push k) := fun H' k hn hs => SubE.push hwf hn hs k
  have hst : ∀ H', SubE H H' → SubE H H'.toRo := fun H' hs => hs.toRo
  have hss : ∀ H' i k, H.n ≤ i → SubE H H' → SubE H (H'.set i k) := fun H' i k hn hs => SubE.set hwf hn hs k
  have hsk : ∀ H' i, H.n ≤ i → SubE H H' → SubE H (H'.kill i) := fun H' i hn hs => SubE.kill hwf hn hs
  have hon_ps := hat_ps.on
  have hb_ps : b_ps < H.n := (hwf b_ps k_ps hat_ps.blk).1
  have hne_ps : (b_ps = H.n) = False := eq_false (by omega)
  have hne1_ps : ∀ i, (b_ps = H.n + i) = False := fun i => eq_false (by omega)
  have hne2_ps : (b_ps = H.n + 1 + 1) = False ∧ (b_ps = H.n + 1 + 1 + 1) = False ∧ (b_ps = H.n + 1 + 1 + 1 + 1) = False ∧ (b_ps = H.n + 1 + 1 + 1 + 1 + 1) = False ∧ (b_ps = H.n + 1 + 1 + 1 + 1 + 1 + 1) = False ∧ (b_ps = H.n + 1 + 1 + 1 + 1 + 1 + 1 + 1) = False ∧ (b_ps = H.n + 1 + 1 + 1 + 1 + 1 + 1 + 1 + 1) = False ∧ (b_ps = H.n + 1 + 1 + 1 + 1 + 1 + 1 + 1 + 1 + 1) = False ∧ (b_ps = H.n + 1 + 1 + 1 + 1 + 1 + 1 + 1 + 1 + 1 + 1) = False ∧ (b_ps = H.n + 1 + 1 + 1 + 1 + 1 + 1 + 1 + 1 + 1 + 1 + 1) = False ∧ (b_ps = H.n + 1 + 1 + 1 + 1 + 1 + 1 + 1 + 1 + 1 + 1 + 1 + 1) = False := ⟨eq_false (by omega), eq_false (by omega), eq_false (by omega), eq_false (by omega), eq_false (by omega), eq_false (by omega), eq_false (by omega), eq_false (by omega), eq_false (by omega), eq_false (by omega), eq_false (by omega)⟩
  have hmx_ps : ps.length ≤ 9223372036854775807 := by have h1 := (hwf b_ps k_ps hat_ps.blk).2.2; have h2 := hat_ps.len; omega
  by_cases hz : szSis ps 1048576 < 0
  · simp (config := {contextual := true, implicitDefEqProofs := false, maxSteps := 2000000}) [-Int.not_le, -Int.not_lt, argsF, laws_FnExactEvidenceOf_c, hat_ps.blk, hat_ps.esz, hat_ps.len, hon_ps, hne_ps, hne1_ps, hne2_ps.1, hne2_ps.2.1, hne2_ps.2.2.1, hne2_ps.2.2.2.1, hne2_ps.2.2.2.2.1, hne2_ps.2.2.2.2.2.1, hne2_ps.2.2.2.2.2.2.1, hne2_ps.2.2.2.2.2.2.2.1, hne2_ps.2.2.2.2.2.2.2.2.1, hne2_ps.2.2.2.2.2.2.2.2.2.1, hne2_ps.2.2.2.2.2.2.2.2.2.2, hsr, hsp, hst, hss, hsk, hz]
    (refine Out.plain hwf ?_ rfl ?_; (repeat first | exact Sub.refl _ | refine Sub.push hwf ?_ _ | refine Sub.set hwf ?_ (by first | exact Nat.le_refl _ | omega) _ | refine Sub.kill hwf ?_ (by first | exact Nat.le_refl _ | omega))); exact h
  · obtain ⟨hl, hl2⟩ := szSis_ok (ps := ps) (by omega)
    simp (config := {contextual := true, implicitDefEqProofs := false, maxSteps := 2000000}) [-Int.not_le, -Int.not_lt, argsF, laws_FnExactEvidenceOf_c, hat_ps.blk, hat_ps.esz, hat_ps.len, hon_ps, hne_ps, hne1_ps, hne2_ps.1, hne2_ps.2.1, hne2_ps.2.2.1, hne2_ps.2.2.2.1, hne2_ps.2.2.2.2.1, hne2_ps.2.2.2.2.2.1, hne2_ps.2.2.2.2.2.2.1, hne2_ps.2.2.2.2.2.2.2.1, hne2_ps.2.2.2.2.2.2.2.2.1, hne2_ps.2.2.2.2.2.2.2.2.2.1, hne2_ps.2.2.2.2.2.2.2.2.2.2, hsr, hsp, hst, hss, hsk, hz, hl, hl2]
    refine Stop.mk fun H1 b1 hw1 hs1 hn1 => ?_
    obtain ⟨k1, hat1, hlen1⟩ := hn1.at
    have hS1 : Sub H H1 := hs1
    have hon1 := hat1.on
    simp only [List.drop_zero] at hon1
    have hpt1 := hat_ps.sub hS1
    have hpo1 := hpt1.on
    have hr1 : SubE H1 H1 := SubE.refl _
    simp (config := {contextual := true, implicitDefEqProofs := false, maxSteps := 2000000}) [-Int.not_le, -Int.not_lt, argsF, hat1.blk, hat1.esz, hlen1, hon1, hpt1.blk, hpt1.esz, hpt1.len, hpo1, hr1, SubE.toRo hr1, hl, hl2]
    refine Stop.mk fun H2 b2 hw2 hs2 hn2 => ?_
    obtain ⟨k2, hat2, hlen2⟩ := hn2.at
    have hS2 : Sub H H2 := hS1.trans hs2
    have hon2 := hat2.on
    simp only [List.drop_zero] at hon2
    have hpt2 := hat_ps.sub hS2
    have hpo2 := hpt2.on
    have hr2 : SubE H2 H2 := SubE.refl _
    simp (config := {contextual := true, implicitDefEqProofs := false, maxSteps := 2000000}) [-Int.not_le, -Int.not_lt, argsF, hat2.blk, hat2.esz, hlen2, hon2, hpt2.blk, hpt2.esz, hpt2.len, hpo2, hr2, SubE.toRo hr2, hl, hl2]
    refine Stop.mk fun H3 b3 hw3 hs3 hn3 => ?_
    obtain ⟨k3, hat3, hlen3⟩ := hn3.at
    have hS3 : Sub H H3 := hS2.trans hs3
    have hon3 := hat3.on
    simp only [List.drop_zero] at hon3
    have hpt3 := hat_ps.sub hS3
    have hpo3 := hpt3.on
    have hr3 : SubE H3 H3 := SubE.refl _
    have ha := hat2.sub hs3
    have hb := ha.on
    simp only [List.drop_zero] at hb
    simp (config := {contextual := true, implicitDefEqProofs := false, maxSteps := 2000000}) [-Int.not_le, -Int.not_lt, argsF, hat3.blk, hat3.esz, hlen3, hon3, hpt3.blk, hpt3.esz, hpt3.len, hpo3, hr3, SubE.toRo hr3, ha.blk, ha.esz, hlen2, hb]
    refine Out.plain (hwf) hS3 rfl h

def q_tSp : Con := fun args H K => match args with
  | [ps_v] => eSi.rd H (fun ps => K (.c (.bool (true))) H) ps_v
  | _ => False
@[simp ↓] theorem q_tSp_eq (ps_v : AV) (H : AHeap) (K : AV → AHeap → Prop) : q_tSp [ps_v] H K = (eSi.rd H (fun ps => K (.c (.bool (true))) H) ps_v) := rfl

theorem laws_FnExactStrongestPair_s : Sound Try.prog 4 q_tSp := by
  intro args H K h
  unfold q_tSp at h
  split at h
  rotate_left
  all_goals first | exact False.elim h | skip
  rename_i ps_v
  have h1 := EncH.rd_at h
  clear h
  obtain ⟨b_ps, i_ps, k_ps, ps, rfl, hat_ps, h⟩ := h1
  have hE := soundE_cons laws_szSightingS_s (soundE_cons laws_toSightingS_s (soundE_cons laws_eqSightingS_s (soundE_cons impl_StrongestPair_s (soundE_cons spec_StrongestPair_s (soundE_nil (P := Try.prog))))))
  refine acalls_fn laws_FnExactStrongestPair_k hE ⟨by simp, fun hwf => ?_⟩
  have hsr : SubE H H := SubE.refl H
  have hsp : ∀ H' k, H.n ≤ H'.n → SubE H H' → SubE H (H'.push k) := fun H' k hn hs => SubE.push hwf hn hs k
  have hst : ∀ H', SubE H H' → SubE H H'.toRo := fun H' hs => hs.toRo
  have hss : ∀ H' i k, H.n ≤ i → SubE H H' → SubE H (H'.set i k) := fun H' i k hn hs => SubE.set hwf hn hs k
  have hsk : ∀ H' i, H.n ≤ i → SubE H H' → SubE H (H'.kill i) := fun H' i hn hs => SubE.kill hwf hn hs
  have hon_ps := hat_ps.on
  have hb_ps : b_ps < H.n := (hwf b_ps k_ps hat_ps.blk).1
  have hne_ps : (b_ps = H.n) = False := eq_false (by omega)
  have hne1_ps : ∀ i, (b_ps = H.n + i) = False := fun i => eq_false (by omega)
  have hne2_ps : (b_ps = H.n + 1 + 1) = False ∧ (b_ps = H.n + 1 + 1 + 1) = False ∧ (b_ps = H.n + 1 + 1 + 1 + 1) = False ∧ (b_ps = H.n + 1 + 1 + 1 + 1 + 1) = False ∧ (b_ps = H.n + 1 + 1 + 1 + 1 + 1 + 1) = False ∧ (b_ps = H.n + 1 + 1 + 1 + 1 + 1 + 1 + 1) = False ∧ (b_ps = H.n + 1 + 1 + 1 + 1 + 1 + 1 + 1 + 1) = False ∧ (b_ps = H.n + 1 + 1 + 1 + 1 + 1 + 1 + 1 + 1 + 1) = False ∧ (b_ps = H.n + 1 + 1 + 1 + 1 + 1 + 1 + 1 + 1 + 1 + 1) = False ∧ (b_ps = H.n + 1 + 1 + 1 + 1 + 1 + 1 + 1 + 1 + 1 + 1 + 1) = False ∧ (b_ps = H.n + 1 + 1 + 1 + 1 + 1 + 1 + 1 + 1 + 1 + 1 + 1 + 1) = False := ⟨eq_false (by omega), eq_false (by omega), eq_false (by omega), eq_false (by omega), eq_false (by omega), eq_false (by omega), eq_false (by omega), eq_false (by omega), eq_false (by omega), eq_false (by omega), eq_false (by omega)⟩
  have hmx_ps : ps.length ≤ 9223372036854775807 := by have h1 := (hwf b_ps k_ps hat_ps.blk).2.2; have h2 := hat_ps.len; omega
  by_cases hz : szSis ps 1048576 < 0
  · simp (config := {contextual := true, implicitDefEqProofs := false, maxSteps := 2000000}) [-Int.not_le, -Int.not_lt, argsF, laws_FnExactStrongestPair_c, hat_ps.blk, hat_ps.esz, hat_ps.len, hon_ps, hne_ps, hne1_ps, hne2_ps.1, hne2_ps.2.1, hne2_ps.2.2.1, hne2_ps.2.2.2.1, hne2_ps.2.2.2.2.1, hne2_ps.2.2.2.2.2.1, hne2_ps.2.2.2.2.2.2.1, hne2_ps.2.2.2.2.2.2.2.1, hne2_ps.2.2.2.2.2.2.2.2.1, hne2_ps.2.2.2.2.2.2.2.2.2.1, hne2_ps.2.2.2.2.2.2.2.2.2.2, hsr, hsp, hst, hss, hsk, hz]
    (refine Out.plain hwf ?_ rfl ?_; (repeat first | exact Sub.refl _ | refine Sub.push hwf ?_ _ | refine Sub.set hwf ?_ (by first | exact Nat.le_refl _ | omega) _ | refine Sub.kill hwf ?_ (by first | exact Nat.le_refl _ | omega))); exact h
  · obtain ⟨hl, hl2⟩ := szSis_ok (ps := ps) (by omega)
    simp (config := {contextual := true, implicitDefEqProofs := false, maxSteps := 2000000}) [-Int.not_le, -Int.not_lt, argsF, laws_FnExactStrongestPair_c, hat_ps.blk, hat_ps.esz, hat_ps.len, hon_ps, hne_ps, hne1_ps, hne2_ps.1, hne2_ps.2.1, hne2_ps.2.2.1, hne2_ps.2.2.2.1, hne2_ps.2.2.2.2.1, hne2_ps.2.2.2.2.2.1, hne2_ps.2.2.2.2.2.2.1, hne2_ps.2.2.2.2.2.2.2.1, hne2_ps.2.2.2.2.2.2.2.2.1, hne2_ps.2.2.2.2.2.2.2.2.2.1, hne2_ps.2.2.2.2.2.2.2.2.2.2, hsr, hsp, hst, hss, hsk, hz, hl, hl2]
    refine Stop.mk fun H1 b1 hw1 hs1 hn1 => ?_
    obtain ⟨k1, hat1, hlen1⟩ := hn1.at
    have hS1 : Sub H H1 := hs1
    have hon1 := hat1.on
    simp only [List.drop_zero] at hon1
    have hpt1 := hat_ps.sub hS1
    have hpo1 := hpt1.on
    have hr1 : SubE H1 H1 := SubE.refl _
    simp (config := {contextual := true, implicitDefEqProofs := false, maxSteps := 2000000}) [-Int.not_le, -Int.not_lt, argsF, hat1.blk, hat1.esz, hlen1, hon1, hpt1.blk, hpt1.esz, hpt1.len, hpo1, hr1, SubE.toRo hr1, hl, hl2]
    refine Stop.mk fun H2 b2 hw2 hs2 hn2 => ?_
    obtain ⟨k2, hat2, hlen2⟩ := hn2.at
    have hS2 : Sub H H2 := hS1.trans hs2
    have hon2 := hat2.on
    simp only [List.drop_zero] at hon2
    have hpt2 := hat_ps.sub hS2
    have hpo2 := hpt2.on
    have hr2 : SubE H2 H2 := SubE.refl _
    simp (config := {contextual := true, implicitDefEqProofs := false, maxSteps := 2000000}) [-Int.not_le, -Int.not_lt, argsF, hat2.blk, hat2.esz, hlen2, hon2, hpt2.blk, hpt2.esz, hpt2.len, hpo2, hr2, SubE.toRo hr2, hl, hl2]
    refine Stop.mk fun H3 b3 hw3 hs3 hn3 => ?_
    obtain ⟨k3, hat3, hlen3⟩ := hn3.at
    have hS3 : Sub H H3 := hS2.trans hs3
    have hon3 := hat3.on
    simp only [List.drop_zero] at hon3
    have hpt3 := hat_ps.sub hS3
    have hpo3 := hpt3.on
    have hr3 : SubE H3 H3 := SubE.refl _
    have ha := hat2.sub hs3
    have hb := ha.on
    simp only [List.drop_zero] at hb
    simp (config := {contextual := true, implicitDefEqProofs := false, maxSteps := 2000000}) [-Int.not_le, -Int.not_lt, argsF, hat3.blk, hat3.esz, hlen3, hon3, hpt3.blk, hpt3.esz, hpt3.len, hpo3, hr3, SubE.toRo hr3, ha.blk, ha.esz, hlen2, hb]
    refine Out.plain (hwf) hS3 rfl h

end Go.Proofs.Ytnbjiigcldmgoaa
