/- TraitsSeen: the walk of its law. -/
import Derived.Test.YtnbjiigcldmgoaaSiM
import Derived.Test.YtnbjiigcldmgoaaSiTr
set_option maxRecDepth 8000
set_option linter.unusedSimpArgs false
set_option linter.unusedVariables false
namespace Go.Proofs.Ytnbjiigcldmgoaa
open Go Go.RowKit

set_option maxHeartbeats 40000000

def q_tTr : Con := fun args H K => match args with
  | [ps_v, .c (.int .i64 limit), .c (.int .i64 id)] => eSi.rd H (fun ps => K (.c (.bool (true))) H) ps_v
  | _ => False
@[simp ↓] theorem q_tTr_eq (ps_v : AV) (limit : Int) (id : Int) (H : AHeap) (K : AV → AHeap → Prop) : q_tTr [ps_v, .c (.int .i64 limit), .c (.int .i64 id)] H K = (eSi.rd H (fun ps => K (.c (.bool (true))) H) ps_v) := rfl

theorem laws_FnExactTraitsSeen_s : Sound Try.prog 11 q_tTr := by
  intro args H K h
  unfold q_tTr at h
  split at h
  rotate_left
  all_goals first | exact False.elim h | skip
  rename_i ps_v limit id
  have h1 := EncH.rd_at h
  clear h
  obtain ⟨b_ps, i_ps, k_ps, ps, rfl, hat_ps, h⟩ := h1
  have hE := soundE_cons laws_szSightingS_s (soundE_cons laws_toSightingS_s (soundE_cons laws_eqSightingS_s (soundE_cons laws_eqIntS_s (soundE_cons laws_markSightingS_s (soundE_cons laws_markIntS_s (soundE_cons laws_heldIntS_s (soundE_cons impl_TraitsSeen_s (soundE_cons spec_TraitsSeen_s (soundE_nil (P := Try.prog))))))))))
  refine acalls_fn laws_FnExactTraitsSeen_k hE ⟨by simp, fun hwf => ?_⟩
  have hsr : SubE H H := SubE.refl H
  have hsp : ∀ H' k, H.n ≤ H'.n → SubE H H' → SubE H (H'.push k) := fun H' k hn hs => SubE.push hwf hn hs k
  have hst : ∀ H', SubE H H' → SubE H H'.toRo := fun H' hs => hs.toRo
  have hss : ∀ H' i k, H.n ≤ i → SubE H H' → SubE H (H'.set i k) := fun H' i k hn hs => SubE.set hwf hn hs k
  have hsk : ∀ H' i, H.n ≤ i → SubE H H' → SubE H (H'.kill i) := fun H' i hn hs => SubE.kill hwf hn hs
  have hon_ps := hat_ps.on
  have hb_ps : b_ps < H.n := (hwf b_ps k_ps hat_ps.blk).1
  have hne_ps : (b_ps = H.n) = False := eq_false (by omega)
  have hne1_ps : ∀ i, (b_ps = H.n + i) = False := fun i => eq_false (by omega)
  have hne2_ps : (b_ps = H.n + 1 + 1) = False ∧ (b_ps = H.n + 1 + 1 + 1) = False ∧ (b_ps = H.n + 1 + 1 + 1 + 1) = False ∧ (b_ps = H.n + 1 + 1 + 1 + 1 + 1) = False ∧ (b_ps = H.n + 1 + 1 + 1 + 1 + 1 + 1) = False ∧ (b_ps = H.n + 1 + 1 + 1 + 1 + 1 + 1 + 1) = False ∧ (b_ps = H.n + 1 + 1 + 1 + 1 + 1 + 1 + 1 + 1) = False ∧ (b_ps = H.n + 1 + 1 + 1 + 1 + 1 + 1 + 1 + 1 + 1) = False ∧ (b_ps = H.n + 1 + 1 + 1 + 1 + 1 + 1 + 1 + 1 + 1 + 1) = False ∧ (b_ps = H.n + 1 + 1 + 1 + 1 + 1 + 1 + 1 + 1 + 1 + 1 + 1) = False ∧ (b_ps = H.n + 1 + 1 + 1 + 1 + 1 + 1 + 1 + 1 + 1 + 1 + 1 + 1) = False := ⟨eq_false (by omega), eq_false (by omega), eq_false (by omega), eq_false (by omega), eq_false (by omega), eq_false (by omega), eq_false (by omega), eq_false (by omega), eq_false (by omega), eq_false (by omega), eq_false (by omega)⟩
  have hmx_ps : ps.length ≤ 9223372036854775807 := by have h1 := (hwf b_ps k_ps hat_ps.blk).2.2; have h2 := hat_ps.len; omega
  by_cases hz : szSis ps 1048576 < 0
  · simp (config := {contextual := true, implicitDefEqProofs := false, maxSteps := 2000000}) [-Int.not_le, -Int.not_lt, argsF, laws_FnExactTraitsSeen_c, hat_ps.blk, hat_ps.esz, hat_ps.len, hon_ps, hne_ps, hne1_ps, hne2_ps.1, hne2_ps.2.1, hne2_ps.2.2.1, hne2_ps.2.2.2.1, hne2_ps.2.2.2.2.1, hne2_ps.2.2.2.2.2.1, hne2_ps.2.2.2.2.2.2.1, hne2_ps.2.2.2.2.2.2.2.1, hne2_ps.2.2.2.2.2.2.2.2.1, hne2_ps.2.2.2.2.2.2.2.2.2.1, hne2_ps.2.2.2.2.2.2.2.2.2.2, hsr, hsp, hst, hss, hsk, hz]
    (refine Out.plain hwf ?_ rfl ?_; (repeat first | exact Sub.refl _ | refine Sub.push hwf ?_ _ | refine Sub.set hwf ?_ (by first | exact Nat.le_refl _ | omega) _ | refine Sub.kill hwf ?_ (by first | exact Nat.le_refl _ | omega))); exact h
  obtain ⟨hl, hl2⟩ := szSis_ok (ps := ps) (by omega)
  have htot := szSis_tot (ps := ps) (by omega)
  obtain ⟨R, hR⟩ : ∃ R, trRes ps limit id = R := ⟨_, rfl⟩
  have hRl : R.1.length ≤ 1048576 := by rw [← hR]; exact trRes_len _ _ _
  simp (config := {contextual := true, implicitDefEqProofs := false, maxSteps := 2000000}) [-Int.not_le, -Int.not_lt, argsF, laws_FnExactTraitsSeen_c, hat_ps.blk, hat_ps.esz, hat_ps.len, hon_ps, hne_ps, hne1_ps, hne2_ps.1, hne2_ps.2.1, hne2_ps.2.2.1, hne2_ps.2.2.2.1, hne2_ps.2.2.2.2.1, hne2_ps.2.2.2.2.2.1, hne2_ps.2.2.2.2.2.2.1, hne2_ps.2.2.2.2.2.2.2.1, hne2_ps.2.2.2.2.2.2.2.2.1, hne2_ps.2.2.2.2.2.2.2.2.2.1, hne2_ps.2.2.2.2.2.2.2.2.2.2, hsr, hsp, hst, hss, hsk, hz, hl, hl2]
  refine Stop.mk fun H1 b1 hw1 hs1 hn1 => ?_
  obtain ⟨k1, hat1, hlen1⟩ := hn1.at
  have hS1 : Sub H H1 := hs1
  have hon1 := hat1.on
  simp only [List.drop_zero] at hon1
  have hpt1 := hat_ps.sub hS1
  have hpo1 := hpt1.on
  have hr1 : SubE H1 H1 := SubE.refl _

  have hrp1 : ∀ k, SubE H1 (H1.push k) := fun k => SubE.push hw1 (Nat.le_refl _) (SubE.refl _) k
  have hrq1 : ∀ k, SubE H1 (H1.push k).toRo := fun k => (hrp1 k).toRo
  have hnH1 : H.n ≤ H1.n := hS1.1.1
  have qp1 : (b_ps = H1.n) = False := eq_false (by omega)
  have hbb1 : b1 < H1.n := (hw1 _ _ hat1.blk).1
  have qb1 : (b1 = H1.n) = False := eq_false (by omega)
  simp (config := {contextual := true, implicitDefEqProofs := false, maxSteps := 2000000}) [-Int.not_le, -Int.not_lt, argsF, hat1.blk, hat1.esz, hlen1, hon1, hpt1.blk, hpt1.esz, hpt1.len, hpo1, hr1, SubE.toRo hr1, hrp1, hrq1, qp1, qb1, hl, hl2, hR]
  refine Stop.mk fun H2 b2 hw2 hs2 hn2 => ?_
  simp only [hR] at hs2
  have hs2' : Sub H1 H2 := (Sub.push hw1 (.refl _) _).trans hs2
  obtain ⟨k2, hat2, hlen2⟩ := hn2.at
  have hS2 : Sub H H2 := hS1.trans hs2'
  have hon2 := hat2.on
  simp only [List.drop_zero] at hon2
  have hpt2 := hat_ps.sub hS2
  have hpo2 := hpt2.on
  have hr2 : SubE H2 H2 := SubE.refl _

  have hrp2 : ∀ k, SubE H2 (H2.push k) := fun k => SubE.push hw2 (Nat.le_refl _) (SubE.refl _) k
  have hrq2 : ∀ k, SubE H2 (H2.push k).toRo := fun k => (hrp2 k).toRo
  have hnH2 : H.n ≤ H2.n := hS2.1.1
  have qp2 : (b_ps = H2.n) = False := eq_false (by omega)
  have hbb2 : b2 < H2.n := (hw2 _ _ hat2.blk).1
  have qb2 : (b2 = H2.n) = False := eq_false (by omega)
  have w2 : H2.b H1.n = some (rowK eI 3 R.1) := hs2.1.2 _ _ (by simp [push_b])
  have n12 : H1.n < H2.n := hs2.1.1
  have q12 : (H1.n = H2.n) = False := eq_false (by omega)
  have q21 : (H2.n = H1.n) = False := eq_false (by omega)
  simp (config := {contextual := true, implicitDefEqProofs := false, maxSteps := 2000000}) [-Int.not_le, -Int.not_lt, argsF, hat2.blk, hat2.esz, hlen2, hon2, hpt2.blk, hpt2.esz, hpt2.len, hpo2, hr2, SubE.toRo hr2, hrp2, hrq2, qp2, qb2, hl, hl2, hR, w2, q12, q21]
  refine Stop.mk fun H3 b3 hw3 hs3 hn3 => ?_
  simp only [hR] at hs3
  have hs3' : Sub H2 H3 := (Sub.push hw2 (.refl _) _).trans hs3
  obtain ⟨k3, hat3, hlen3⟩ := hn3.at
  have hS3 : Sub H H3 := hS2.trans hs3'
  have hon3 := hat3.on
  simp only [List.drop_zero] at hon3
  have hpt3 := hat_ps.sub hS3
  have hpo3 := hpt3.on
  have hr3 : SubE H3 H3 := SubE.refl _

  have hrp3 : ∀ k, SubE H3 (H3.push k) := fun k => SubE.push hw3 (Nat.le_refl _) (SubE.refl _) k
  have hrq3 : ∀ k, SubE H3 (H3.push k).toRo := fun k => (hrp3 k).toRo
  have hnH3 : H.n ≤ H3.n := hS3.1.1
  have qp3 : (b_ps = H3.n) = False := eq_false (by omega)
  have hbb3 : b3 < H3.n := (hw3 _ _ hat3.blk).1
  have qb3 : (b3 = H3.n) = False := eq_false (by omega)
  have ha := hat2.sub hs3'
  have hb := ha.on
  simp only [List.drop_zero] at hb
  have w3 : H3.b H1.n = some (rowK eI 3 R.1) := hs3'.1.2 _ _ w2
  have g3 : H3.b H2.n = some (rowK eI 3 R.1) := hs3.1.2 _ _ (by simp [push_b])
  simp (config := {contextual := true, implicitDefEqProofs := false, maxSteps := 2000000}) [-Int.not_le, -Int.not_lt, argsF, hat3.blk, hat3.esz, hlen3, hon3, hpt3.blk, hpt3.esz, hpt3.len, hpo3, hr3, SubE.toRo hr3, hrp3, hrq3, qp3, qb3, ha.blk, ha.esz, hlen2, hb, w3, g3, hR]
  refine Stop.mk ?_
  obtain ⟨cs, hr0, hbd⟩ := hn2.rows hw2
  have hend := endS_eq ps 1
  refine ⟨H1.n + 1, H2.n, cs, ps, rfl, rfl, hr0.sub hs3', hbd, hl, hl2, by omega, by omega, ?_⟩
  intro H4 hw4 hs4 hr4
  have w4 : H4.b H1.n = some (rowK eI 3 R.1) := (hs4.out _ (.inl (Nat.lt_succ_self _))).trans w3
  have g4 : H4.b H2.n = some (rowK eI 3 R.1) := (hs4.out _ (.inr (Nat.le_refl _))).trans g3
  have hS4 : Sub H H4 := hs4.sub hS3 hwf (by omega)
  have hSC : Sub H (H4.set H2.n (rowK eI 3 (mksInt R.1.length 1))) := Sub.set hwf hS4 hnH2 _
  have hpC := hat_ps.sub hSC
  have hoC := hpC.on
  have hrC := SubE.refl (H4.set H2.n (rowK eI 3 (mksInt R.1.length 1)))
  have h4p := (hat_ps.sub hS4).blk
  have gz1 : ¬ (1 + (R.1.length : Int) < 0) := by omega
  have hen0 : ¬ (endS ps 1 < 0) := by omega
  simp (config := {contextual := true, implicitDefEqProofs := false, maxSteps := 2000000}) [-Int.not_le, -Int.not_lt, argsF, hR, w4, g4, hRl, hpC.blk, hpC.esz, hpC.len, hoC, hrC, hrC.toRo, hl, hl2, gz1, hen0, h4p, qp2]
  refine Stop.mk fun H6 b6 hw6 hs6 hn6 => ?_
  simp only [hR] at hs6
  obtain ⟨k6, hat6, hlen6⟩ := hn6.at
  have hS6 : Sub H H6 := hSC.trans hs6
  have hon6 := hat6.on
  simp only [List.drop_zero] at hon6
  have hpt6 := hat_ps.sub hS6
  have hpo6 := hpt6.on
  have hr6 : SubE H6 H6 := SubE.refl _

  have hrp6 : ∀ k, SubE H6 (H6.push k) := fun k => SubE.push hw6 (Nat.le_refl _) (SubE.refl _) k
  have hrq6 : ∀ k, SubE H6 (H6.push k).toRo := fun k => (hrp6 k).toRo
  have hnH6 : H.n ≤ H6.n := hS6.1.1
  have qp6 : (b_ps = H6.n) = False := eq_false (by omega)
  have hbb6 : b6 < H6.n := (hw6 _ _ hat6.blk).1
  have qb6 : (b6 = H6.n) = False := eq_false (by omega)
  have hn4 := hs4.n
  have hn6' : H4.n ≤ H6.n := hs6.1.1
  have hn23 : H2.n < H3.n := hs3.1.1
  have w6 : H6.b H1.n = some (rowK eI 3 R.1) := hs6.1.2 _ _ (by rw [set_b, if_neg (by omega)]; exact w4)
  have g6 : H6.b H2.n = some (rowK eI 3 (mksInt R.1.length 1)) := hs6.1.2 _ _ (by rw [set_b, if_pos rfl])
  have q16 : (H1.n = H6.n) = False := eq_false (by omega)
  have q26 : (H2.n = H6.n) = False := eq_false (by omega)
  simp (config := {contextual := true, implicitDefEqProofs := false, maxSteps := 2000000}) [-Int.not_le, -Int.not_lt, argsF, hat6.blk, hat6.esz, hlen6, hon6, hpt6.blk, hpt6.esz, hpt6.len, hpo6, hr6, SubE.toRo hr6, hrp6, hrq6, qp6, qb6, hl, hl2, hR, w6, g6, q16, q26, gz1]
  first | exact Out.plain (hwf) (Sub.push hwf (hSC.trans hs6) _) rfl h | exact ⟨hRl, Out.plain (hwf) (Sub.push hwf (hSC.trans hs6) _) rfl h⟩

end Go.Proofs.Ytnbjiigcldmgoaa
