/- The law on the census: its walk, part by part. -/
import Derived.Test.YtafenginfojcmaaSiDr
import Derived.Test.YtafenginfojcmaaSiPl
set_option maxRecDepth 8000
set_option linter.unusedSimpArgs false
set_option linter.unusedVariables false
namespace Go.Proofs.Ytafenginfojcmaa
open Go Go.RowKit

set_option maxHeartbeats 4000000

def q_tFnCensus : Con := fun args H K => match args with
  | [code_v] => eU.rd H (fun code => K (.c (.bool (true))) H) code_v
  | _ => False
@[simp ↓] theorem q_tFnCensus_eq (code_v : AV) (H : AHeap) (K : AV → AHeap → Prop) : q_tFnCensus [code_v] H K = (eU.rd H (fun code => K (.c (.bool (true))) H) code_v) := rfl

theorem laws_FnCensus_p15 {H0 H : AHeap} {K : AV → AHeap → Prop} (hwf0 : H0.WF) (hs0 : Sub H0 H) (hwf : H.WF) (h : K (.c (.bool true)) H0) {b_qs i_qs : Nat} {k_qs : ABlk} {qs : List Si} (hat_qs : eSi.At H b_qs i_qs k_qs qs)  {F : AFrame} (hF : F.keep [23] = [(23, .c (.sl b_qs i_qs qs.length))]) : avc Try.prog [(5, q_rBig), (6, q_DEv), (7, q_gl), (8, q_gl), (9, q_evOf), (10, q_evOf), (11, q_cv), (12, q_rHas), (13, q_DCv), (14, q_cv), (15, q_eqII), (16, q_lone), (17, q_lone), (18, q_rInts), (19, q_areSi), (20, q_areSi)] 267 H0.n laws_FnCensus_t15 F H (endK Try.prog H0.n [.tmp 2] K) := by
  refine (show avc _ _ _ _ _ _ _ _ = _ from avc_cut _ _).mpr ?_
  rw [hF]
  have hE := soundE_cons laws_rBig_s (soundE_cons spec_DrawGreatestLimit_s (soundE_cons impl_GreatestLimit_s (soundE_cons spec_GreatestLimit_s (soundE_cons impl_EvidenceOf_s (soundE_cons spec_EvidenceOf_s (soundE_cons impl_CoversSeen_s (soundE_cons laws_rHas_s (soundE_cons spec_DrawCoversSeen_s (soundE_cons spec_CoversSeen_s (soundE_cons laws_rTable_s (soundE_cons impl_LoneSightings_s (soundE_cons spec_LoneSightings_s (soundE_cons laws_rInts_s (soundE_cons impl_AreSightings_s (soundE_cons spec_AreSightings_s (soundE_nil (P := Try.prog)))))))))))))))))
  have hn0 : H0.n ≤ H.n := hs0.1.1
  have hsr : SubE H H := SubE.refl H
  have hsp : ∀ H' k, H.n ≤ H'.n → SubE H H' → SubE H (H'.push k) := fun H' k hn hs => SubE.push hwf hn hs k
  have hst : ∀ H', SubE H H' → SubE H H'.toRo := fun H' hs => hs.toRo
  have hss : ∀ H' i k, H.n ≤ i → SubE H H' → SubE H (H'.set i k) := fun H' i k hn hs => SubE.set hwf hn hs k
  have hsk : ∀ H' i, H.n ≤ i → SubE H H' → SubE H (H'.kill i) := fun H' i hn hs => SubE.kill hwf hn hs
  have hon_qs := hat_qs.on
  have hb_qs : b_qs < H.n := (hwf b_qs k_qs hat_qs.blk).1
  have hne_qs : (b_qs = H.n) = False := eq_false (by omega)
  have hne1_qs : ∀ i, (b_qs = H.n + i) = False := fun i => eq_false (by omega)
  have hne2_qs : (b_qs = H.n + 1 + 1) = False ∧ (b_qs = H.n + 1 + 1 + 1) = False ∧ (b_qs = H.n + 1 + 1 + 1 + 1) = False ∧ (b_qs = H.n + 1 + 1 + 1 + 1 + 1) = False ∧ (b_qs = H.n + 1 + 1 + 1 + 1 + 1 + 1) = False ∧ (b_qs = H.n + 1 + 1 + 1 + 1 + 1 + 1 + 1) = False ∧ (b_qs = H.n + 1 + 1 + 1 + 1 + 1 + 1 + 1 + 1) = False ∧ (b_qs = H.n + 1 + 1 + 1 + 1 + 1 + 1 + 1 + 1 + 1) = False ∧ (b_qs = H.n + 1 + 1 + 1 + 1 + 1 + 1 + 1 + 1 + 1 + 1) = False ∧ (b_qs = H.n + 1 + 1 + 1 + 1 + 1 + 1 + 1 + 1 + 1 + 1 + 1) = False ∧ (b_qs = H.n + 1 + 1 + 1 + 1 + 1 + 1 + 1 + 1 + 1 + 1 + 1 + 1) = False := ⟨eq_false (by omega), eq_false (by omega), eq_false (by omega), eq_false (by omega), eq_false (by omega), eq_false (by omega), eq_false (by omega), eq_false (by omega), eq_false (by omega), eq_false (by omega), eq_false (by omega)⟩
  have hl0_qs : b_qs < H.n := by omega
  have hl1_qs : b_qs < H.n + 1 := by omega
  have hl2_qs : b_qs < H.n + 1 + 1 := by omega
  have hl3_qs : b_qs < H.n + 1 + 1 + 1 := by omega
  have hl4_qs : b_qs < H.n + 1 + 1 + 1 + 1 := by omega
  have hl5_qs : b_qs < H.n + 1 + 1 + 1 + 1 + 1 := by omega
  have hl6_qs : b_qs < H.n + 1 + 1 + 1 + 1 + 1 + 1 := by omega
  have hl7_qs : b_qs < H.n + 1 + 1 + 1 + 1 + 1 + 1 + 1 := by omega
  simp (config := {contextual := true, implicitDefEqProofs := false, maxSteps := 2000000}) [-Int.not_le, -Int.not_lt, argsF, laws_FnCensus_t15, hat_qs.blk, hat_qs.esz, hat_qs.len, hon_qs, hne_qs, hne1_qs, hne2_qs.1, hne2_qs.2.1, hne2_qs.2.2.1, hne2_qs.2.2.2.1, hne2_qs.2.2.2.2.1, hne2_qs.2.2.2.2.2.1, hne2_qs.2.2.2.2.2.2.1, hne2_qs.2.2.2.2.2.2.2.1, hne2_qs.2.2.2.2.2.2.2.2.1, hne2_qs.2.2.2.2.2.2.2.2.2.1, hne2_qs.2.2.2.2.2.2.2.2.2.2, hsr, hsp, hst, hss, hsk]
  (refine Out.plain hwf0 ?_ rfl ?_; (repeat first | exact Sub.refl _ | refine Sub.push hwf0 ?_ _ | refine Sub.set hwf0 ?_ (by first | exact Nat.le_refl _ | omega | (simp only [push_n, set_n, kill_n]; omega)) _ | refine Sub.kill hwf0 ?_ (by first | exact Nat.le_refl _ | omega | (simp only [push_n, set_n, kill_n]; omega))); exact hs0)
  exact h

theorem laws_FnCensus_p14 {H0 H : AHeap} {K : AV → AHeap → Prop} (hwf0 : H0.WF) (hs0 : Sub H0 H) (hwf : H.WF) (h : K (.c (.bool true)) H0) {b_qs i_qs : Nat} {k_qs : ABlk} {qs : List Si} (hat_qs : eSi.At H b_qs i_qs k_qs qs) {b_R i_R : Nat} {k_R : ABlk} {R : List (List Int)} (hat_R : eII.At H b_R i_R k_R R) {b_L i_L : Nat} {k_L : ABlk} {L : List Int} (hat_L : eI.At H b_L i_L k_L L) (hRL : ∀ g ∈ R, ∀ x ∈ g, (L.any fun y => decide (y = x)) = decide (g.length = 1)) {F : AFrame} (hF : F.keep [23, 25, 29] = [(23, .c (.sl b_qs i_qs qs.length)), (25, .c (.sl b_R i_R R.length)), (29, .c (.sl b_L i_L L.length))]) : avc Try.prog [(5, q_rBig), (6, q_DEv), (7, q_gl), (8, q_gl), (9, q_evOf), (10, q_evOf), (11, q_cv), (12, q_rHas), (13, q_DCv), (14, q_cv), (15, q_eqII), (16, q_lone), (17, q_lone), (18, q_rInts), (19, q_areSi), (20, q_areSi)] 267 H0.n laws_FnCensus_t14 F H (endK Try.prog H0.n [.tmp 2] K) := by
  refine (show avc _ _ _ _ _ _ _ _ = _ from avc_cut _ _).mpr ?_
  rw [hF]
  have hE := soundE_cons laws_rBig_s (soundE_cons spec_DrawGreatestLimit_s (soundE_cons impl_GreatestLimit_s (soundE_cons spec_GreatestLimit_s (soundE_cons impl_EvidenceOf_s (soundE_cons spec_EvidenceOf_s (soundE_cons impl_CoversSeen_s (soundE_cons laws_rHas_s (soundE_cons spec_DrawCoversSeen_s (soundE_cons spec_CoversSeen_s (soundE_cons laws_rTable_s (soundE_cons impl_LoneSightings_s (soundE_cons spec_LoneSightings_s (soundE_cons laws_rInts_s (soundE_cons impl_AreSightings_s (soundE_cons spec_AreSightings_s (soundE_nil (P := Try.prog)))))))))))))))))
  have hn0 : H0.n ≤ H.n := hs0.1.1
  have hsr : SubE H H := SubE.refl H
  have hsp : ∀ H' k, H.n ≤ H'.n → SubE H H' → SubE H (H'.push k) := fun H' k hn hs => SubE.push hwf hn hs k
  have hst : ∀ H', SubE H H' → SubE H H'.toRo := fun H' hs => hs.toRo
  have hss : ∀ H' i k, H.n ≤ i → SubE H H' → SubE H (H'.set i k) := fun H' i k hn hs => SubE.set hwf hn hs k
  have hsk : ∀ H' i, H.n ≤ i → SubE H H' → SubE H (H'.kill i) := fun H' i hn hs => SubE.kill hwf hn hs
  have hon_qs := hat_qs.on
  have hb_qs : b_qs < H.n := (hwf b_qs k_qs hat_qs.blk).1
  have hne_qs : (b_qs = H.n) = False := eq_false (by omega)
  have hne1_qs : ∀ i, (b_qs = H.n + i) = False := fun i => eq_false (by omega)
  have hne2_qs : (b_qs = H.n + 1 + 1) = False ∧ (b_qs = H.n + 1 + 1 + 1) = False ∧ (b_qs = H.n + 1 + 1 + 1 + 1) = False ∧ (b_qs = H.n + 1 + 1 + 1 + 1 + 1) = False ∧ (b_qs = H.n + 1 + 1 + 1 + 1 + 1 + 1) = False ∧ (b_qs = H.n + 1 + 1 + 1 + 1 + 1 + 1 + 1) = False ∧ (b_qs = H.n + 1 + 1 + 1 + 1 + 1 + 1 + 1 + 1) = False ∧ (b_qs = H.n + 1 + 1 + 1 + 1 + 1 + 1 + 1 + 1 + 1) = False ∧ (b_qs = H.n + 1 + 1 + 1 + 1 + 1 + 1 + 1 + 1 + 1 + 1) = False ∧ (b_qs = H.n + 1 + 1 + 1 + 1 + 1 + 1 + 1 + 1 + 1 + 1 + 1) = False ∧ (b_qs = H.n + 1 + 1 + 1 + 1 + 1 + 1 + 1 + 1 + 1 + 1 + 1 + 1) = False := ⟨eq_false (by omega), eq_false (by omega), eq_false (by omega), eq_false (by omega), eq_false (by omega), eq_false (by omega), eq_false (by omega), eq_false (by omega), eq_false (by omega), eq_false (by omega), eq_false (by omega)⟩
  have hl0_qs : b_qs < H.n := by omega
  have hl1_qs : b_qs < H.n + 1 := by omega
  have hl2_qs : b_qs < H.n + 1 + 1 := by omega
  have hl3_qs : b_qs < H.n + 1 + 1 + 1 := by omega
  have hl4_qs : b_qs < H.n + 1 + 1 + 1 + 1 := by omega
  have hl5_qs : b_qs < H.n + 1 + 1 + 1 + 1 + 1 := by omega
  have hl6_qs : b_qs < H.n + 1 + 1 + 1 + 1 + 1 + 1 := by omega
  have hl7_qs : b_qs < H.n + 1 + 1 + 1 + 1 + 1 + 1 + 1 := by omega
  have hon_R := hat_R.on
  have hb_R : b_R < H.n := (hwf b_R k_R hat_R.blk).1
  have hne_R : (b_R = H.n) = False := eq_false (by omega)
  have hne1_R : ∀ i, (b_R = H.n + i) = False := fun i => eq_false (by omega)
  have hne2_R : (b_R = H.n + 1 + 1) = False ∧ (b_R = H.n + 1 + 1 + 1) = False ∧ (b_R = H.n + 1 + 1 + 1 + 1) = False ∧ (b_R = H.n + 1 + 1 + 1 + 1 + 1) = False ∧ (b_R = H.n + 1 + 1 + 1 + 1 + 1 + 1) = False ∧ (b_R = H.n + 1 + 1 + 1 + 1 + 1 + 1 + 1) = False ∧ (b_R = H.n + 1 + 1 + 1 + 1 + 1 + 1 + 1 + 1) = False ∧ (b_R = H.n + 1 + 1 + 1 + 1 + 1 + 1 + 1 + 1 + 1) = False ∧ (b_R = H.n + 1 + 1 + 1 + 1 + 1 + 1 + 1 + 1 + 1 + 1) = False ∧ (b_R = H.n + 1 + 1 + 1 + 1 + 1 + 1 + 1 + 1 + 1 + 1 + 1) = False ∧ (b_R = H.n + 1 + 1 + 1 + 1 + 1 + 1 + 1 + 1 + 1 + 1 + 1 + 1) = False := ⟨eq_false (by omega), eq_false (by omega), eq_false (by omega), eq_false (by omega), eq_false (by omega), eq_false (by omega), eq_false (by omega), eq_false (by omega), eq_false (by omega), eq_false (by omega), eq_false (by omega)⟩
  have hl0_R : b_R < H.n := by omega
  have hl1_R : b_R < H.n + 1 := by omega
  have hl2_R : b_R < H.n + 1 + 1 := by omega
  have hl3_R : b_R < H.n + 1 + 1 + 1 := by omega
  have hl4_R : b_R < H.n + 1 + 1 + 1 + 1 := by omega
  have hl5_R : b_R < H.n + 1 + 1 + 1 + 1 + 1 := by omega
  have hl6_R : b_R < H.n + 1 + 1 + 1 + 1 + 1 + 1 := by omega
  have hl7_R : b_R < H.n + 1 + 1 + 1 + 1 + 1 + 1 + 1 := by omega
  have hb_L : b_L < H.n := (hwf b_L k_L hat_L.blk).1
  have hne_L : (b_L = H.n) = False := eq_false (by omega)
  have hne1_L : ∀ i, (b_L = H.n + i) = False := fun i => eq_false (by omega)
  have hne2_L : (b_L = H.n + 1 + 1) = False ∧ (b_L = H.n + 1 + 1 + 1) = False ∧ (b_L = H.n + 1 + 1 + 1 + 1) = False ∧ (b_L = H.n + 1 + 1 + 1 + 1 + 1) = False ∧ (b_L = H.n + 1 + 1 + 1 + 1 + 1 + 1) = False ∧ (b_L = H.n + 1 + 1 + 1 + 1 + 1 + 1 + 1) = False ∧ (b_L = H.n + 1 + 1 + 1 + 1 + 1 + 1 + 1 + 1) = False ∧ (b_L = H.n + 1 + 1 + 1 + 1 + 1 + 1 + 1 + 1 + 1) = False ∧ (b_L = H.n + 1 + 1 + 1 + 1 + 1 + 1 + 1 + 1 + 1 + 1) = False ∧ (b_L = H.n + 1 + 1 + 1 + 1 + 1 + 1 + 1 + 1 + 1 + 1 + 1) = False ∧ (b_L = H.n + 1 + 1 + 1 + 1 + 1 + 1 + 1 + 1 + 1 + 1 + 1 + 1) = False := ⟨eq_false (by omega), eq_false (by omega), eq_false (by omega), eq_false (by omega), eq_false (by omega), eq_false (by omega), eq_false (by omega), eq_false (by omega), eq_false (by omega), eq_false (by omega), eq_false (by omega)⟩
  have hl0_L : b_L < H.n := by omega
  have hl1_L : b_L < H.n + 1 := by omega
  have hl2_L : b_L < H.n + 1 + 1 := by omega
  have hl3_L : b_L < H.n + 1 + 1 + 1 := by omega
  have hl4_L : b_L < H.n + 1 + 1 + 1 + 1 := by omega
  have hl5_L : b_L < H.n + 1 + 1 + 1 + 1 + 1 := by omega
  have hl6_L : b_L < H.n + 1 + 1 + 1 + 1 + 1 + 1 := by omega
  have hl7_L : b_L < H.n + 1 + 1 + 1 + 1 + 1 + 1 + 1 := by omega
  simp (config := {contextual := true, implicitDefEqProofs := false, maxSteps := 2000000}) [-Int.not_le, -Int.not_lt, argsF, laws_FnCensus_t14]
  refine aloop_heap (X := Nat) (fun j => [(23, .c (.sl b_qs i_qs qs.length)), (25, .c (.sl b_R i_R R.length)), (29, .c (.sl b_L i_L L.length)), (33, .c (.int .i64 ((j : Int))))]) (fun _ => H) (fun j => j ≤ R.length) (fun j => R.length - j) hE _ 0 (Nat.zero_le _) (fun hw0 => .since hn0 hw0 (.refl _) (by simp [frOk, AV.okR, AV.ok1, AC.okR, AV.ren, AV.ren1, AC.ren, AFrame.get, pl1_old, hl0_qs, hl1_qs, hl2_qs, hl3_qs, hl4_qs, hl5_qs, hl6_qs, hl7_qs, hl0_R, hl1_R, hl2_R, hl3_R, hl4_R, hl5_R, hl6_R, hl7_R, hl0_L, hl1_L, hl2_L, hl3_L, hl4_L, hl5_L, hl6_L, hl7_L]; first | done | omega)) (fun j hj hwx => ?_)
  have hmR : R.length ≤ 9223372036854775807 := by have h1 := (hwf _ _ hat_R.blk).2.2; have h2 := hat_R.len; omega
  rcases Nat.lt_or_ge j R.length with hlt | hge
  rotate_left
  · have hj0 : j = R.length := by omega
    subst hj0
    simp (config := {contextual := true, implicitDefEqProofs := false, maxSteps := 2000000}) [-Int.not_le, -Int.not_lt, argsF, laws_FnCensus_l3, hat_R.blk, hat_R.esz, hat_R.len, hon_R, hne_R, hne1_R, hne2_R.1, hne2_R.2.1, hne2_R.2.2.1, hne2_R.2.2.2.1, hne2_R.2.2.2.2.1, hne2_R.2.2.2.2.2.1, hne2_R.2.2.2.2.2.2.1, hne2_R.2.2.2.2.2.2.2.1, hne2_R.2.2.2.2.2.2.2.2.1, hne2_R.2.2.2.2.2.2.2.2.2.1, hne2_R.2.2.2.2.2.2.2.2.2.2, hsr, hsp, hst, hss, hsk]
    exact laws_FnCensus_p15 hwf0 hs0 hwf h hat_qs rfl
  · have hj1 := idx_lt hlt
    have w1 : IntKind.i64.wrap ((j : Int) + 1) = (j : Int) + 1 := wrap_id (by omega) (by omega)
    obtain ⟨ex_x, e_x, hd_x⟩ := hat_R.get hlt
    obtain ⟨b_x, i_x, k_x, rfl, hat_x, htx_x⟩ := eII_at3 hd_x
    have hb_x : b_x < H.n := (hwf b_x k_x hat_x.blk).1
    have hne_x : (b_x = H.n) = False := eq_false (by omega)
    have hne1_x : ∀ i, (b_x = H.n + i) = False := fun i => eq_false (by omega)
    have hne2_x : (b_x = H.n + 1 + 1) = False ∧ (b_x = H.n + 1 + 1 + 1) = False ∧ (b_x = H.n + 1 + 1 + 1 + 1) = False ∧ (b_x = H.n + 1 + 1 + 1 + 1 + 1) = False ∧ (b_x = H.n + 1 + 1 + 1 + 1 + 1 + 1) = False ∧ (b_x = H.n + 1 + 1 + 1 + 1 + 1 + 1 + 1) = False ∧ (b_x = H.n + 1 + 1 + 1 + 1 + 1 + 1 + 1 + 1) = False ∧ (b_x = H.n + 1 + 1 + 1 + 1 + 1 + 1 + 1 + 1 + 1) = False ∧ (b_x = H.n + 1 + 1 + 1 + 1 + 1 + 1 + 1 + 1 + 1 + 1) = False ∧ (b_x = H.n + 1 + 1 + 1 + 1 + 1 + 1 + 1 + 1 + 1 + 1 + 1) = False ∧ (b_x = H.n + 1 + 1 + 1 + 1 + 1 + 1 + 1 + 1 + 1 + 1 + 1 + 1) = False := ⟨eq_false (by omega), eq_false (by omega), eq_false (by omega), eq_false (by omega), eq_false (by omega), eq_false (by omega), eq_false (by omega), eq_false (by omega), eq_false (by omega), eq_false (by omega), eq_false (by omega)⟩
    have hmx : R[j].length ≤ 9223372036854775807 := by have h1 := (hwf _ _ hat_x.blk).2.2; have h2 := hat_x.len; omega
    have hRj := hRL _ (List.getElem_mem hlt)
    clear hRL
    simp (config := {contextual := true, implicitDefEqProofs := false, maxSteps := 2000000}) [-Int.not_le, -Int.not_lt, argsF, laws_FnCensus_l3, hat_R.blk, hat_R.esz, hat_R.len, hon_R, hne_R, hne1_R, hne2_R.1, hne2_R.2.1, hne2_R.2.2.1, hne2_R.2.2.2.1, hne2_R.2.2.2.2.1, hne2_R.2.2.2.2.2.1, hne2_R.2.2.2.2.2.2.1, hne2_R.2.2.2.2.2.2.2.1, hne2_R.2.2.2.2.2.2.2.2.1, hne2_R.2.2.2.2.2.2.2.2.2.1, hne2_R.2.2.2.2.2.2.2.2.2.2, hsr, hsp, hst, hss, hsk, hj1, hlt]
    refine aloop_heap (X := Nat) (fun k => [(23, .c (.sl b_qs i_qs qs.length)), (25, .c (.sl b_R i_R R.length)), (29, .c (.sl b_L i_L L.length)), (33, .c (.int .i64 ((j : Int)))), (34, .c (.int .i64 ((k : Int))))]) (fun _ => H) (fun k => k ≤ R[j].length) (fun k => R[j].length - k) hE _ 0 (Nat.zero_le _) (fun hw0 => .since hn0 hw0 (.refl _) (by simp [frOk, AV.okR, AV.ok1, AC.okR, AV.ren, AV.ren1, AC.ren, AFrame.get, pl1_old, hl0_qs, hl1_qs, hl2_qs, hl3_qs, hl4_qs, hl5_qs, hl6_qs, hl7_qs, hl0_R, hl1_R, hl2_R, hl3_R, hl4_R, hl5_R, hl6_R, hl7_R, hl0_L, hl1_L, hl2_L, hl3_L, hl4_L, hl5_L, hl6_L, hl7_L]; first | done | omega)) (fun k hk hwx2 => ?_)
    rcases Nat.lt_or_ge k R[j].length with hlt2 | hge2
    rotate_left
    · have hk0 : k = R[j].length := by omega
      subst hk0
      simp (config := {contextual := true, implicitDefEqProofs := false, maxSteps := 2000000}) [-Int.not_le, -Int.not_lt, argsF, laws_FnCensus_l3, laws_FnCensus_l2, laws_FnCensus_r5, hat_R.blk, hat_R.esz, hat_R.len, hon_R, hne_R, hne1_R, hne2_R.1, hne2_R.2.1, hne2_R.2.2.1, hne2_R.2.2.2.1, hne2_R.2.2.2.2.1, hne2_R.2.2.2.2.2.1, hne2_R.2.2.2.2.2.2.1, hne2_R.2.2.2.2.2.2.2.1, hne2_R.2.2.2.2.2.2.2.2.1, hne2_R.2.2.2.2.2.2.2.2.2.1, hne2_R.2.2.2.2.2.2.2.2.2.2, hsr, hsp, hst, hss, hsk, e_x, hat_x.blk, hat_x.esz, hat_x.len, hat_x.els, hne_x, hne1_x, hne2_x.1, hne2_x.2.1, hne2_x.2.2.1, hne2_x.2.2.2.1, hne2_x.2.2.2.2.1, hne2_x.2.2.2.2.2.1, hne2_x.2.2.2.2.2.2.1, hne2_x.2.2.2.2.2.2.2.1, hne2_x.2.2.2.2.2.2.2.2.1, hne2_x.2.2.2.2.2.2.2.2.2.1, hne2_x.2.2.2.2.2.2.2.2.2.2, hb_x, hj1, hlt, w1]
      exact ⟨fun hw => ⟨j + 1, by omega, by omega, .since hn0 hw (.refl _) (by simp [frOk, AV.okR, AV.ok1, AC.okR, AV.ren, AV.ren1, AC.ren, AFrame.get, pl1_old, hl0_qs, hl1_qs, hl2_qs, hl3_qs, hl4_qs, hl5_qs, hl6_qs, hl7_qs, hl0_R, hl1_R, hl2_R, hl3_R, hl4_R, hl5_R, hl6_R, hl7_R, hl0_L, hl1_L, hl2_L, hl3_L, hl4_L, hl5_L, hl6_L, hl7_L]; first | done | omega)⟩⟩
    · have hk1 := idx_lt hlt2
      have w2 : IntKind.i64.wrap ((k : Int) + 1) = (k : Int) + 1 := wrap_id (by omega) (by omega)
      have er := hat_x.get hlt2
      have hh := hRj _ (List.getElem_mem hlt2)
      by_cases h1 : R[j].length = 1
      · rw [decide_eq_true h1] at hh
        have h1i : (R[j].length : Int) = 1 := by omega
        obtain rfl : k = 0 := by omega
        have w3 : IntKind.i64.wrap 1 = 1 := wrap_id (by omega) (by omega)
        rw [Nat.add_zero] at er
        simp (config := {contextual := true, implicitDefEqProofs := false, maxSteps := 2000000}) [-Int.not_le, -Int.not_lt, argsF, laws_FnCensus_l2, hat_R.blk, hat_R.esz, hat_R.len, hon_R, hne_R, hne1_R, hne2_R.1, hne2_R.2.1, hne2_R.2.2.1, hne2_R.2.2.2.1, hne2_R.2.2.2.2.1, hne2_R.2.2.2.2.2.1, hne2_R.2.2.2.2.2.2.1, hne2_R.2.2.2.2.2.2.2.1, hne2_R.2.2.2.2.2.2.2.2.1, hne2_R.2.2.2.2.2.2.2.2.2.1, hne2_R.2.2.2.2.2.2.2.2.2.2, hsr, hsp, hst, hss, hsk, hat_L.blk, hat_L.esz, hat_L.len, hat_L.els, hne_L, hne1_L, hne2_L.1, hne2_L.2.1, hne2_L.2.2.1, hne2_L.2.2.2.1, hne2_L.2.2.2.2.1, hne2_L.2.2.2.2.2.1, hne2_L.2.2.2.2.2.2.1, hne2_L.2.2.2.2.2.2.2.1, hne2_L.2.2.2.2.2.2.2.2.1, hne2_L.2.2.2.2.2.2.2.2.2.1, hne2_L.2.2.2.2.2.2.2.2.2.2, e_x, hat_x.blk, hat_x.esz, hat_x.len, hat_x.els, hne_x, hne1_x, hne2_x.1, hne2_x.2.1, hne2_x.2.2.1, hne2_x.2.2.2.1, hne2_x.2.2.2.2.1, hne2_x.2.2.2.2.2.1, hne2_x.2.2.2.2.2.2.1, hne2_x.2.2.2.2.2.2.2.1, hne2_x.2.2.2.2.2.2.2.2.1, hne2_x.2.2.2.2.2.2.2.2.2.1, hne2_x.2.2.2.2.2.2.2.2.2.2, hb_x, hj1, hlt, hk1, hlt2, er, hh, h1, h1i, w2, w3]
        exact ⟨fun hw => ⟨1, by omega, by omega, .since hn0 hw (.refl _) (by simp [frOk, AV.okR, AV.ok1, AC.okR, AV.ren, AV.ren1, AC.ren, AFrame.get, pl1_old, hl0_qs, hl1_qs, hl2_qs, hl3_qs, hl4_qs, hl5_qs, hl6_qs, hl7_qs, hl0_R, hl1_R, hl2_R, hl3_R, hl4_R, hl5_R, hl6_R, hl7_R, hl0_L, hl1_L, hl2_L, hl3_L, hl4_L, hl5_L, hl6_L, hl7_L]; first | done | omega)⟩⟩
      · rw [decide_eq_false h1] at hh
        have h1i : ¬ ((R[j].length : Int) = 1) := by omega
        simp (config := {contextual := true, implicitDefEqProofs := false, maxSteps := 2000000}) [-Int.not_le, -Int.not_lt, argsF, laws_FnCensus_l2, hat_R.blk, hat_R.esz, hat_R.len, hon_R, hne_R, hne1_R, hne2_R.1, hne2_R.2.1, hne2_R.2.2.1, hne2_R.2.2.2.1, hne2_R.2.2.2.2.1, hne2_R.2.2.2.2.2.1, hne2_R.2.2.2.2.2.2.1, hne2_R.2.2.2.2.2.2.2.1, hne2_R.2.2.2.2.2.2.2.2.1, hne2_R.2.2.2.2.2.2.2.2.2.1, hne2_R.2.2.2.2.2.2.2.2.2.2, hsr, hsp, hst, hss, hsk, hat_L.blk, hat_L.esz, hat_L.len, hat_L.els, hne_L, hne1_L, hne2_L.1, hne2_L.2.1, hne2_L.2.2.1, hne2_L.2.2.2.1, hne2_L.2.2.2.2.1, hne2_L.2.2.2.2.2.1, hne2_L.2.2.2.2.2.2.1, hne2_L.2.2.2.2.2.2.2.1, hne2_L.2.2.2.2.2.2.2.2.1, hne2_L.2.2.2.2.2.2.2.2.2.1, hne2_L.2.2.2.2.2.2.2.2.2.2, e_x, hat_x.blk, hat_x.esz, hat_x.len, hat_x.els, hne_x, hne1_x, hne2_x.1, hne2_x.2.1, hne2_x.2.2.1, hne2_x.2.2.2.1, hne2_x.2.2.2.2.1, hne2_x.2.2.2.2.2.1, hne2_x.2.2.2.2.2.2.1, hne2_x.2.2.2.2.2.2.2.1, hne2_x.2.2.2.2.2.2.2.2.1, hne2_x.2.2.2.2.2.2.2.2.2.1, hne2_x.2.2.2.2.2.2.2.2.2.2, hj1, hlt, hb_x, hk1, hlt2, er, hh, h1, h1i, w2]
        exact ⟨fun hw => ⟨k + 1, by omega, by omega, .since hn0 hw (.refl _) (by simp [frOk, AV.okR, AV.ok1, AC.okR, AV.ren, AV.ren1, AC.ren, AFrame.get, pl1_old, hl0_qs, hl1_qs, hl2_qs, hl3_qs, hl4_qs, hl5_qs, hl6_qs, hl7_qs, hl0_R, hl1_R, hl2_R, hl3_R, hl4_R, hl5_R, hl6_R, hl7_R, hl0_L, hl1_L, hl2_L, hl3_L, hl4_L, hl5_L, hl6_L, hl7_L]; first | done | omega)⟩⟩

theorem laws_FnCensus_p12 {H0 H : AHeap} {K : AV → AHeap → Prop} (hwf0 : H0.WF) (hs0 : Sub H0 H) (hwf : H.WF) (h : K (.c (.bool true)) H0) {b_qs i_qs : Nat} {k_qs : ABlk} {qs : List Si} (hat_qs : eSi.At H b_qs i_qs k_qs qs) {b_R i_R : Nat} {k_R : ABlk} {R : List (List Int)} (hat_R : eII.At H b_R i_R k_R R) {m : Int} {ok : Bool} (hR : R = (cvRes qs m).1) (hok : ok = (cvRes qs m).2) (hqt : ∀ p ∈ qs, p.traits.length ≤ 1048576) (hql : qs.length ≤ 12) {F : AFrame} (hF : F.keep [23, 24, 25, 26] = [(23, .c (.sl b_qs i_qs qs.length)), (24, .c (.int .i64 (m))), (25, .c (.sl b_R i_R R.length)), (26, .c (.bool (ok)))]) : avc Try.prog [(5, q_rBig), (6, q_DEv), (7, q_gl), (8, q_gl), (9, q_evOf), (10, q_evOf), (11, q_cv), (12, q_rHas), (13, q_DCv), (14, q_cv), (15, q_eqII), (16, q_lone), (17, q_lone), (18, q_rInts), (19, q_areSi), (20, q_areSi)] 267 H0.n laws_FnCensus_t12 F H (endK Try.prog H0.n [.tmp 2] K) := by
  refine (show avc _ _ _ _ _ _ _ _ = _ from avc_cut _ _).mpr ?_
  rw [hF]
  have hE := soundE_cons laws_rBig_s (soundE_cons spec_DrawGreatestLimit_s (soundE_cons impl_GreatestLimit_s (soundE_cons spec_GreatestLimit_s (soundE_cons impl_EvidenceOf_s (soundE_cons spec_EvidenceOf_s (soundE_cons impl_CoversSeen_s (soundE_cons laws_rHas_s (soundE_cons spec_DrawCoversSeen_s (soundE_cons spec_CoversSeen_s (soundE_cons laws_rTable_s (soundE_cons impl_LoneSightings_s (soundE_cons spec_LoneSightings_s (soundE_cons laws_rInts_s (soundE_cons impl_AreSightings_s (soundE_cons spec_AreSightings_s (soundE_nil (P := Try.prog)))))))))))))))))
  have hn0 : H0.n ≤ H.n := hs0.1.1
  have hsr : SubE H H := SubE.refl H
  have hsp : ∀ H' k, H.n ≤ H'.n → SubE H H' → SubE H (H'.push k) := fun H' k hn hs => SubE.push hwf hn hs k
  have hst : ∀ H', SubE H H' → SubE H H'.toRo := fun H' hs => hs.toRo
  have hss : ∀ H' i k, H.n ≤ i → SubE H H' → SubE H (H'.set i k) := fun H' i k hn hs => SubE.set hwf hn hs k
  have hsk : ∀ H' i, H.n ≤ i → SubE H H' → SubE H (H'.kill i) := fun H' i hn hs => SubE.kill hwf hn hs
  have hon_qs := hat_qs.on
  have hb_qs : b_qs < H.n := (hwf b_qs k_qs hat_qs.blk).1
  have hne_qs : (b_qs = H.n) = False := eq_false (by omega)
  have hne1_qs : ∀ i, (b_qs = H.n + i) = False := fun i => eq_false (by omega)
  have hne2_qs : (b_qs = H.n + 1 + 1) = False ∧ (b_qs = H.n + 1 + 1 + 1) = False ∧ (b_qs = H.n + 1 + 1 + 1 + 1) = False ∧ (b_qs = H.n + 1 + 1 + 1 + 1 + 1) = False ∧ (b_qs = H.n + 1 + 1 + 1 + 1 + 1 + 1) = False ∧ (b_qs = H.n + 1 + 1 + 1 + 1 + 1 + 1 + 1) = False ∧ (b_qs = H.n + 1 + 1 + 1 + 1 + 1 + 1 + 1 + 1) = False ∧ (b_qs = H.n + 1 + 1 + 1 + 1 + 1 + 1 + 1 + 1 + 1) = False ∧ (b_qs = H.n + 1 + 1 + 1 + 1 + 1 + 1 + 1 + 1 + 1 + 1) = False ∧ (b_qs = H.n + 1 + 1 + 1 + 1 + 1 + 1 + 1 + 1 + 1 + 1 + 1) = False ∧ (b_qs = H.n + 1 + 1 + 1 + 1 + 1 + 1 + 1 + 1 + 1 + 1 + 1 + 1) = False := ⟨eq_false (by omega), eq_false (by omega), eq_false (by omega), eq_false (by omega), eq_false (by omega), eq_false (by omega), eq_false (by omega), eq_false (by omega), eq_false (by omega), eq_false (by omega), eq_false (by omega)⟩
  have hl0_qs : b_qs < H.n := by omega
  have hl1_qs : b_qs < H.n + 1 := by omega
  have hl2_qs : b_qs < H.n + 1 + 1 := by omega
  have hl3_qs : b_qs < H.n + 1 + 1 + 1 := by omega
  have hl4_qs : b_qs < H.n + 1 + 1 + 1 + 1 := by omega
  have hl5_qs : b_qs < H.n + 1 + 1 + 1 + 1 + 1 := by omega
  have hl6_qs : b_qs < H.n + 1 + 1 + 1 + 1 + 1 + 1 := by omega
  have hl7_qs : b_qs < H.n + 1 + 1 + 1 + 1 + 1 + 1 + 1 := by omega
  have hon_R := hat_R.on
  have hb_R : b_R < H.n := (hwf b_R k_R hat_R.blk).1
  have hne_R : (b_R = H.n) = False := eq_false (by omega)
  have hne1_R : ∀ i, (b_R = H.n + i) = False := fun i => eq_false (by omega)
  have hne2_R : (b_R = H.n + 1 + 1) = False ∧ (b_R = H.n + 1 + 1 + 1) = False ∧ (b_R = H.n + 1 + 1 + 1 + 1) = False ∧ (b_R = H.n + 1 + 1 + 1 + 1 + 1) = False ∧ (b_R = H.n + 1 + 1 + 1 + 1 + 1 + 1) = False ∧ (b_R = H.n + 1 + 1 + 1 + 1 + 1 + 1 + 1) = False ∧ (b_R = H.n + 1 + 1 + 1 + 1 + 1 + 1 + 1 + 1) = False ∧ (b_R = H.n + 1 + 1 + 1 + 1 + 1 + 1 + 1 + 1 + 1) = False ∧ (b_R = H.n + 1 + 1 + 1 + 1 + 1 + 1 + 1 + 1 + 1 + 1) = False ∧ (b_R = H.n + 1 + 1 + 1 + 1 + 1 + 1 + 1 + 1 + 1 + 1 + 1) = False ∧ (b_R = H.n + 1 + 1 + 1 + 1 + 1 + 1 + 1 + 1 + 1 + 1 + 1 + 1) = False := ⟨eq_false (by omega), eq_false (by omega), eq_false (by omega), eq_false (by omega), eq_false (by omega), eq_false (by omega), eq_false (by omega), eq_false (by omega), eq_false (by omega), eq_false (by omega), eq_false (by omega)⟩
  have hl0_R : b_R < H.n := by omega
  have hl1_R : b_R < H.n + 1 := by omega
  have hl2_R : b_R < H.n + 1 + 1 := by omega
  have hl3_R : b_R < H.n + 1 + 1 + 1 := by omega
  have hl4_R : b_R < H.n + 1 + 1 + 1 + 1 := by omega
  have hl5_R : b_R < H.n + 1 + 1 + 1 + 1 + 1 := by omega
  have hl6_R : b_R < H.n + 1 + 1 + 1 + 1 + 1 + 1 := by omega
  have hl7_R : b_R < H.n + 1 + 1 + 1 + 1 + 1 + 1 + 1 := by omega
  have he2 : (loneRes qs m).2 = ok := (cv_ok2 qs m).trans hok.symm
  have hll := loneRes_len qs m
  have hll2 : (loneRes qs m).1.length ≤ 1000000 := by omega
  simp (config := {contextual := true, implicitDefEqProofs := false, maxSteps := 2000000}) [-Int.not_le, -Int.not_lt, argsF, laws_FnCensus_t12, laws_FnCensus_t13, hat_qs.blk, hat_qs.esz, hat_qs.len, hon_qs, hne_qs, hne1_qs, hne2_qs.1, hne2_qs.2.1, hne2_qs.2.2.1, hne2_qs.2.2.2.1, hne2_qs.2.2.2.2.1, hne2_qs.2.2.2.2.2.1, hne2_qs.2.2.2.2.2.2.1, hne2_qs.2.2.2.2.2.2.2.1, hne2_qs.2.2.2.2.2.2.2.2.1, hne2_qs.2.2.2.2.2.2.2.2.2.1, hne2_qs.2.2.2.2.2.2.2.2.2.2, hsr, hsp, hst, hss, hsk, hqt, rowK, Enc.decL_map, he2, ite_self]
  exact laws_FnCensus_p14 hwf0 (by (repeat first | exact Sub.refl _ | refine Sub.push hwf0 ?_ _ | refine Sub.set hwf0 ?_ (by first | exact Nat.le_refl _ | omega | (simp only [push_n, set_n, kill_n]; omega)) _ | refine Sub.kill hwf0 ?_ (by first | exact Nat.le_refl _ | omega | (simp only [push_n, set_n, kill_n]; omega))); exact hs0) (by repeat first | exact hwf | refine WF.push ?_ (plain_map (fun _ => rfl) _) (by first | (simp; done) | (simp; omega))) h (hat_qs.sub (by (repeat first | exact Sub.refl _ | refine Sub.push hwf ?_ _ | refine Sub.set hwf ?_ (by first | exact Nat.le_refl _ | omega | (simp only [push_n, set_n, kill_n]; omega)) _ | refine Sub.kill hwf ?_ (by first | exact Nat.le_refl _ | omega | (simp only [push_n, set_n, kill_n]; omega))))) (hat_R.sub (by (repeat first | exact Sub.refl _ | refine Sub.push hwf ?_ _ | refine Sub.set hwf ?_ (by first | exact Nat.le_refl _ | omega | (simp only [push_n, set_n, kill_n]; omega)) _ | refine Sub.kill hwf ?_ (by first | exact Nat.le_refl _ | omega | (simp only [push_n, set_n, kill_n]; omega))))) (row_at (b := H.n) (l := (loneRes qs m).1) (by simp [push_b, rowK])) (by subst hR; exact cv_lone) rfl

theorem laws_FnCensus_p11 {H0 H : AHeap} {K : AV → AHeap → Prop} (hwf0 : H0.WF) (hs0 : Sub H0 H) (hwf : H.WF) (h : K (.c (.bool true)) H0) {b_qs i_qs : Nat} {k_qs : ABlk} {qs : List Si} (hat_qs : eSi.At H b_qs i_qs k_qs qs) {b_R i_R : Nat} {k_R : ABlk} {R : List (List Int)} (hat_R : eII.At H b_R i_R k_R R) {m : Int} {ok : Bool} (hR : R = (cvRes qs m).1) (hok : ok = (cvRes qs m).2) (hqt : ∀ p ∈ qs, p.traits.length ≤ 1048576) (hql : qs.length ≤ 12) {F : AFrame} (hF : F.keep [23, 24, 25, 26] = [(23, .c (.sl b_qs i_qs qs.length)), (24, .c (.int .i64 (m))), (25, .c (.sl b_R i_R R.length)), (26, .c (.bool (ok)))]) : avc Try.prog [(5, q_rBig), (6, q_DEv), (7, q_gl), (8, q_gl), (9, q_evOf), (10, q_evOf), (11, q_cv), (12, q_rHas), (13, q_DCv), (14, q_cv), (15, q_eqII), (16, q_lone), (17, q_lone), (18, q_rInts), (19, q_areSi), (20, q_areSi)] 267 H0.n laws_FnCensus_t11 F H (endK Try.prog H0.n [.tmp 2] K) := by
  refine (show avc _ _ _ _ _ _ _ _ = _ from avc_cut _ _).mpr ?_
  rw [hF]
  have hE := soundE_cons laws_rBig_s (soundE_cons spec_DrawGreatestLimit_s (soundE_cons impl_GreatestLimit_s (soundE_cons spec_GreatestLimit_s (soundE_cons impl_EvidenceOf_s (soundE_cons spec_EvidenceOf_s (soundE_cons impl_CoversSeen_s (soundE_cons laws_rHas_s (soundE_cons spec_DrawCoversSeen_s (soundE_cons spec_CoversSeen_s (soundE_cons laws_rTable_s (soundE_cons impl_LoneSightings_s (soundE_cons spec_LoneSightings_s (soundE_cons laws_rInts_s (soundE_cons impl_AreSightings_s (soundE_cons spec_AreSightings_s (soundE_nil (P := Try.prog)))))))))))))))))
  have hn0 : H0.n ≤ H.n := hs0.1.1
  have hsr : SubE H H := SubE.refl H
  have hsp : ∀ H' k, H.n ≤ H'.n → SubE H H' → SubE H (H'.push k) := fun H' k hn hs => SubE.push hwf hn hs k
  have hst : ∀ H', SubE H H' → SubE H H'.toRo := fun H' hs => hs.toRo
  have hss : ∀ H' i k, H.n ≤ i → SubE H H' → SubE H (H'.set i k) := fun H' i k hn hs => SubE.set hwf hn hs k
  have hsk : ∀ H' i, H.n ≤ i → SubE H H' → SubE H (H'.kill i) := fun H' i hn hs => SubE.kill hwf hn hs
  have hon_qs := hat_qs.on
  have hb_qs : b_qs < H.n := (hwf b_qs k_qs hat_qs.blk).1
  have hne_qs : (b_qs = H.n) = False := eq_false (by omega)
  have hne1_qs : ∀ i, (b_qs = H.n + i) = False := fun i => eq_false (by omega)
  have hne2_qs : (b_qs = H.n + 1 + 1) = False ∧ (b_qs = H.n + 1 + 1 + 1) = False ∧ (b_qs = H.n + 1 + 1 + 1 + 1) = False ∧ (b_qs = H.n + 1 + 1 + 1 + 1 + 1) = False ∧ (b_qs = H.n + 1 + 1 + 1 + 1 + 1 + 1) = False ∧ (b_qs = H.n + 1 + 1 + 1 + 1 + 1 + 1 + 1) = False ∧ (b_qs = H.n + 1 + 1 + 1 + 1 + 1 + 1 + 1 + 1) = False ∧ (b_qs = H.n + 1 + 1 + 1 + 1 + 1 + 1 + 1 + 1 + 1) = False ∧ (b_qs = H.n + 1 + 1 + 1 + 1 + 1 + 1 + 1 + 1 + 1 + 1) = False ∧ (b_qs = H.n + 1 + 1 + 1 + 1 + 1 + 1 + 1 + 1 + 1 + 1 + 1) = False ∧ (b_qs = H.n + 1 + 1 + 1 + 1 + 1 + 1 + 1 + 1 + 1 + 1 + 1 + 1) = False := ⟨eq_false (by omega), eq_false (by omega), eq_false (by omega), eq_false (by omega), eq_false (by omega), eq_false (by omega), eq_false (by omega), eq_false (by omega), eq_false (by omega), eq_false (by omega), eq_false (by omega)⟩
  have hl0_qs : b_qs < H.n := by omega
  have hl1_qs : b_qs < H.n + 1 := by omega
  have hl2_qs : b_qs < H.n + 1 + 1 := by omega
  have hl3_qs : b_qs < H.n + 1 + 1 + 1 := by omega
  have hl4_qs : b_qs < H.n + 1 + 1 + 1 + 1 := by omega
  have hl5_qs : b_qs < H.n + 1 + 1 + 1 + 1 + 1 := by omega
  have hl6_qs : b_qs < H.n + 1 + 1 + 1 + 1 + 1 + 1 := by omega
  have hl7_qs : b_qs < H.n + 1 + 1 + 1 + 1 + 1 + 1 + 1 := by omega
  have hon_R := hat_R.on
  have hb_R : b_R < H.n := (hwf b_R k_R hat_R.blk).1
  have hne_R : (b_R = H.n) = False := eq_false (by omega)
  have hne1_R : ∀ i, (b_R = H.n + i) = False := fun i => eq_false (by omega)
  have hne2_R : (b_R = H.n + 1 + 1) = False ∧ (b_R = H.n + 1 + 1 + 1) = False ∧ (b_R = H.n + 1 + 1 + 1 + 1) = False ∧ (b_R = H.n + 1 + 1 + 1 + 1 + 1) = False ∧ (b_R = H.n + 1 + 1 + 1 + 1 + 1 + 1) = False ∧ (b_R = H.n + 1 + 1 + 1 + 1 + 1 + 1 + 1) = False ∧ (b_R = H.n + 1 + 1 + 1 + 1 + 1 + 1 + 1 + 1) = False ∧ (b_R = H.n + 1 + 1 + 1 + 1 + 1 + 1 + 1 + 1 + 1) = False ∧ (b_R = H.n + 1 + 1 + 1 + 1 + 1 + 1 + 1 + 1 + 1 + 1) = False ∧ (b_R = H.n + 1 + 1 + 1 + 1 + 1 + 1 + 1 + 1 + 1 + 1 + 1) = False ∧ (b_R = H.n + 1 + 1 + 1 + 1 + 1 + 1 + 1 + 1 + 1 + 1 + 1 + 1) = False := ⟨eq_false (by omega), eq_false (by omega), eq_false (by omega), eq_false (by omega), eq_false (by omega), eq_false (by omega), eq_false (by omega), eq_false (by omega), eq_false (by omega), eq_false (by omega), eq_false (by omega)⟩
  have hl0_R : b_R < H.n := by omega
  have hl1_R : b_R < H.n + 1 := by omega
  have hl2_R : b_R < H.n + 1 + 1 := by omega
  have hl3_R : b_R < H.n + 1 + 1 + 1 := by omega
  have hl4_R : b_R < H.n + 1 + 1 + 1 + 1 := by omega
  have hl5_R : b_R < H.n + 1 + 1 + 1 + 1 + 1 := by omega
  have hl6_R : b_R < H.n + 1 + 1 + 1 + 1 + 1 + 1 := by omega
  have hl7_R : b_R < H.n + 1 + 1 + 1 + 1 + 1 + 1 + 1 := by omega
  simp (config := {contextual := true, implicitDefEqProofs := false, maxSteps := 2000000}) [-Int.not_le, -Int.not_lt, argsF, laws_FnCensus_t11, hat_qs.blk, hat_qs.esz, hat_qs.len, hon_qs, hne_qs, hne1_qs, hne2_qs.1, hne2_qs.2.1, hne2_qs.2.2.1, hne2_qs.2.2.2.1, hne2_qs.2.2.2.2.1, hne2_qs.2.2.2.2.2.1, hne2_qs.2.2.2.2.2.2.1, hne2_qs.2.2.2.2.2.2.2.1, hne2_qs.2.2.2.2.2.2.2.2.1, hne2_qs.2.2.2.2.2.2.2.2.2.1, hne2_qs.2.2.2.2.2.2.2.2.2.2, hsr, hsp, hst, hss, hsk, hqt]
  refine Stop.mk fun HB bB csB hwB hsB hrB hgB => ?_
  have axB : ∃ k, eII.At HB bB 0 k (cvRes qs m).1 := ⟨_, hrB.at⟩
  refine Exists.elim axB fun kB atB => ?_
  have atR := hat_R.sub hsB
  have oB := atB.on
  have oR := atR.on
  have lB := atB.len
  have lR := atR.len
  simp only [Nat.zero_add, List.drop_zero] at lB oB
  have sB := SubE.refl HB
  have sB2 := (SubE.refl HB).toRo
  have hbB := (hwB _ _ atB.blk).1
  have hbR := (hwB _ _ atR.blk).1
  rw [← hR] at atB oB lB
  simp (config := {contextual := true, implicitDefEqProofs := false, maxSteps := 2000000}) [-Int.not_le, -Int.not_lt, argsF, laws_FnCensus_t11, ← hR, ← hok, atB.blk, atB.esz, oB, lB, atR.blk, atR.esz, oR, lR, sB, sB2, ite_self]
  exact laws_FnCensus_p12 hwf0 (hs0.trans hsB) hwB h (hat_qs.sub hsB) atR hR hok hqt hql rfl

theorem laws_FnCensus_p10 {H0 H : AHeap} {K : AV → AHeap → Prop} (hwf0 : H0.WF) (hs0 : Sub H0 H) (hwf : H.WF) (h : K (.c (.bool true)) H0) {b_qs i_qs : Nat} {k_qs : ABlk} {qs : List Si} (hat_qs : eSi.At H b_qs i_qs k_qs qs) {m : Int} (hqt : ∀ p ∈ qs, p.traits.length ≤ 1048576) (hql : qs.length ≤ 12) {F : AFrame} (hF : F.keep [23, 24] = [(23, .c (.sl b_qs i_qs qs.length)), (24, .c (.int .i64 (m)))]) : avc Try.prog [(5, q_rBig), (6, q_DEv), (7, q_gl), (8, q_gl), (9, q_evOf), (10, q_evOf), (11, q_cv), (12, q_rHas), (13, q_DCv), (14, q_cv), (15, q_eqII), (16, q_lone), (17, q_lone), (18, q_rInts), (19, q_areSi), (20, q_areSi)] 267 H0.n laws_FnCensus_t10 F H (endK Try.prog H0.n [.tmp 2] K) := by
  refine (show avc _ _ _ _ _ _ _ _ = _ from avc_cut _ _).mpr ?_
  rw [hF]
  have hE := soundE_cons laws_rBig_s (soundE_cons spec_DrawGreatestLimit_s (soundE_cons impl_GreatestLimit_s (soundE_cons spec_GreatestLimit_s (soundE_cons impl_EvidenceOf_s (soundE_cons spec_EvidenceOf_s (soundE_cons impl_CoversSeen_s (soundE_cons laws_rHas_s (soundE_cons spec_DrawCoversSeen_s (soundE_cons spec_CoversSeen_s (soundE_cons laws_rTable_s (soundE_cons impl_LoneSightings_s (soundE_cons spec_LoneSightings_s (soundE_cons laws_rInts_s (soundE_cons impl_AreSightings_s (soundE_cons spec_AreSightings_s (soundE_nil (P := Try.prog)))))))))))))))))
  have hn0 : H0.n ≤ H.n := hs0.1.1
  have hsr : SubE H H := SubE.refl H
  have hsp : ∀ H' k, H.n ≤ H'.n → SubE H H' → SubE H (H'.push k) := fun H' k hn hs => SubE.push hwf hn hs k
  have hst : ∀ H', SubE H H' → SubE H H'.toRo := fun H' hs => hs.toRo
  have hss : ∀ H' i k, H.n ≤ i → SubE H H' → SubE H (H'.set i k) := fun H' i k hn hs => SubE.set hwf hn hs k
  have hsk : ∀ H' i, H.n ≤ i → SubE H H' → SubE H (H'.kill i) := fun H' i hn hs => SubE.kill hwf hn hs
  have hon_qs := hat_qs.on
  have hb_qs : b_qs < H.n := (hwf b_qs k_qs hat_qs.blk).1
  have hne_qs : (b_qs = H.n) = False := eq_false (by omega)
  have hne1_qs : ∀ i, (b_qs = H.n + i) = False := fun i => eq_false (by omega)
  have hne2_qs : (b_qs = H.n + 1 + 1) = False ∧ (b_qs = H.n + 1 + 1 + 1) = False ∧ (b_qs = H.n + 1 + 1 + 1 + 1) = False ∧ (b_qs = H.n + 1 + 1 + 1 + 1 + 1) = False ∧ (b_qs = H.n + 1 + 1 + 1 + 1 + 1 + 1) = False ∧ (b_qs = H.n + 1 + 1 + 1 + 1 + 1 + 1 + 1) = False ∧ (b_qs = H.n + 1 + 1 + 1 + 1 + 1 + 1 + 1 + 1) = False ∧ (b_qs = H.n + 1 + 1 + 1 + 1 + 1 + 1 + 1 + 1 + 1) = False ∧ (b_qs = H.n + 1 + 1 + 1 + 1 + 1 + 1 + 1 + 1 + 1 + 1) = False ∧ (b_qs = H.n + 1 + 1 + 1 + 1 + 1 + 1 + 1 + 1 + 1 + 1 + 1) = False ∧ (b_qs = H.n + 1 + 1 + 1 + 1 + 1 + 1 + 1 + 1 + 1 + 1 + 1 + 1) = False := ⟨eq_false (by omega), eq_false (by omega), eq_false (by omega), eq_false (by omega), eq_false (by omega), eq_false (by omega), eq_false (by omega), eq_false (by omega), eq_false (by omega), eq_false (by omega), eq_false (by omega)⟩
  have hl0_qs : b_qs < H.n := by omega
  have hl1_qs : b_qs < H.n + 1 := by omega
  have hl2_qs : b_qs < H.n + 1 + 1 := by omega
  have hl3_qs : b_qs < H.n + 1 + 1 + 1 := by omega
  have hl4_qs : b_qs < H.n + 1 + 1 + 1 + 1 := by omega
  have hl5_qs : b_qs < H.n + 1 + 1 + 1 + 1 + 1 := by omega
  have hl6_qs : b_qs < H.n + 1 + 1 + 1 + 1 + 1 + 1 := by omega
  have hl7_qs : b_qs < H.n + 1 + 1 + 1 + 1 + 1 + 1 + 1 := by omega
  simp (config := {contextual := true, implicitDefEqProofs := false, maxSteps := 2000000}) [-Int.not_le, -Int.not_lt, argsF, laws_FnCensus_t10, hat_qs.blk, hat_qs.esz, hat_qs.len, hon_qs, hne_qs, hne1_qs, hne2_qs.1, hne2_qs.2.1, hne2_qs.2.2.1, hne2_qs.2.2.2.1, hne2_qs.2.2.2.2.1, hne2_qs.2.2.2.2.2.1, hne2_qs.2.2.2.2.2.2.1, hne2_qs.2.2.2.2.2.2.2.1, hne2_qs.2.2.2.2.2.2.2.2.1, hne2_qs.2.2.2.2.2.2.2.2.2.1, hne2_qs.2.2.2.2.2.2.2.2.2.2, hsr, hsp, hst, hss, hsk, hqt]
  refine Stop.mk fun HA bA csA hwA hsA hrA hgA => ?_
  have hbA := (hwA _ _ hrA.blk).1
  have hbq := (hwA _ _ (hat_qs.sub hsA).blk).1
  simp (config := {contextual := true, implicitDefEqProofs := false, maxSteps := 2000000}) [-Int.not_le, -Int.not_lt, argsF, laws_FnCensus_t10]
  exact laws_FnCensus_p11 hwf0 (hs0.trans hsA) hwA h (hat_qs.sub hsA) hrA.at rfl rfl hqt hql rfl

theorem laws_FnCensus_p9 {H0 H : AHeap} {K : AV → AHeap → Prop} {b_code i_code : Nat} {k_code : ABlk} {code : List UInt8} (hwf0 : H0.WF) (hs0 : Sub H0 H) (hwf : H.WF) (hat0_code : eU.At H0 b_code i_code k_code code) (h : K (.c (.bool true)) H0) (hcl : code.length ≤ 65536) {F : AFrame} (hF : F.keep [0] = [(0, .c (.sl b_code i_code code.length))]) : avc Try.prog [(5, q_rBig), (6, q_DEv), (7, q_gl), (8, q_gl), (9, q_evOf), (10, q_evOf), (11, q_cv), (12, q_rHas), (13, q_DCv), (14, q_cv), (15, q_eqII), (16, q_lone), (17, q_lone), (18, q_rInts), (19, q_areSi), (20, q_areSi)] 267 H0.n laws_FnCensus_t9 F H (endK Try.prog H0.n [.tmp 2] K) := by
  refine (show avc _ _ _ _ _ _ _ _ = _ from avc_cut _ _).mpr ?_
  rw [hF]
  have hat_code : eU.At H b_code i_code k_code code := ⟨hs0.1.2 _ _ hat0_code.blk, hat0_code.esz, hat0_code.len, hat0_code.els⟩
  have hE := soundE_cons laws_rBig_s (soundE_cons spec_DrawGreatestLimit_s (soundE_cons impl_GreatestLimit_s (soundE_cons spec_GreatestLimit_s (soundE_cons impl_EvidenceOf_s (soundE_cons spec_EvidenceOf_s (soundE_cons impl_CoversSeen_s (soundE_cons laws_rHas_s (soundE_cons spec_DrawCoversSeen_s (soundE_cons spec_CoversSeen_s (soundE_cons laws_rTable_s (soundE_cons impl_LoneSightings_s (soundE_cons spec_LoneSightings_s (soundE_cons laws_rInts_s (soundE_cons impl_AreSightings_s (soundE_cons spec_AreSightings_s (soundE_nil (P := Try.prog)))))))))))))))))
  have hn0 : H0.n ≤ H.n := hs0.1.1
  have hb_code : b_code < H.n := (hwf b_code k_code hat_code.blk).1
  have hne_code : (b_code = H.n) = False := eq_false (by omega)
  have hne1_code : ∀ i, (b_code = H.n + i) = False := fun i => eq_false (by omega)
  have hne2_code : (b_code = H.n + 1 + 1) = False ∧ (b_code = H.n + 1 + 1 + 1) = False ∧ (b_code = H.n + 1 + 1 + 1 + 1) = False ∧ (b_code = H.n + 1 + 1 + 1 + 1 + 1) = False ∧ (b_code = H.n + 1 + 1 + 1 + 1 + 1 + 1) = False ∧ (b_code = H.n + 1 + 1 + 1 + 1 + 1 + 1 + 1) = False ∧ (b_code = H.n + 1 + 1 + 1 + 1 + 1 + 1 + 1 + 1) = False ∧ (b_code = H.n + 1 + 1 + 1 + 1 + 1 + 1 + 1 + 1 + 1) = False ∧ (b_code = H.n + 1 + 1 + 1 + 1 + 1 + 1 + 1 + 1 + 1 + 1) = False ∧ (b_code = H.n + 1 + 1 + 1 + 1 + 1 + 1 + 1 + 1 + 1 + 1 + 1) = False ∧ (b_code = H.n + 1 + 1 + 1 + 1 + 1 + 1 + 1 + 1 + 1 + 1 + 1 + 1) = False := ⟨eq_false (by omega), eq_false (by omega), eq_false (by omega), eq_false (by omega), eq_false (by omega), eq_false (by omega), eq_false (by omega), eq_false (by omega), eq_false (by omega), eq_false (by omega), eq_false (by omega)⟩
  have hmx_code : code.length ≤ 9223372036854775807 := by have h1 := (hwf b_code k_code hat_code.blk).2.2; have h2 := hat_code.len; omega
  have hl0_code : b_code < H.n := by omega
  have hl1_code : b_code < H.n + 1 := by omega
  have hl2_code : b_code < H.n + 1 + 1 := by omega
  have hl3_code : b_code < H.n + 1 + 1 + 1 := by omega
  have hl4_code : b_code < H.n + 1 + 1 + 1 + 1 := by omega
  have hl5_code : b_code < H.n + 1 + 1 + 1 + 1 + 1 := by omega
  have hl6_code : b_code < H.n + 1 + 1 + 1 + 1 + 1 + 1 := by omega
  have hl7_code : b_code < H.n + 1 + 1 + 1 + 1 + 1 + 1 + 1 := by omega
  simp (config := {contextual := true, implicitDefEqProofs := false, maxSteps := 2000000}) [-Int.not_le, -Int.not_lt, argsF, laws_FnCensus_t9, hat_code.blk, hat_code.esz, hat_code.len, hat_code.els, hne_code, hne1_code, hne2_code.1, hne2_code.2.1, hne2_code.2.2.1, hne2_code.2.2.2.1, hne2_code.2.2.2.2.1, hne2_code.2.2.2.2.2.1, hne2_code.2.2.2.2.2.2.1, hne2_code.2.2.2.2.2.2.2.1, hne2_code.2.2.2.2.2.2.2.2.1, hne2_code.2.2.2.2.2.2.2.2.2.1, hne2_code.2.2.2.2.2.2.2.2.2.2, Enc.decL_map, hcl]
  refine Stop.mk fun H2 b2 k2 qs m hw2 hs2 hat2 hpl hsh => ?_
  have hbq := (hw2 _ _ hat2.blk).1
  simp (config := {contextual := true, implicitDefEqProofs := false, maxSteps := 2000000}) [-Int.not_le, -Int.not_lt, argsF, laws_FnCensus_t9]
  exact laws_FnCensus_p10 hwf0 (hs0.trans hs2) hw2 h hat2 (fun p hp => by have := (hsh p hp).1; omega) hpl rfl

set_option maxHeartbeats 4000000

theorem laws_FnCensus_loop0 {H0 H : AHeap} {b_code i_code : Nat} {k_code : ABlk} {code : List UInt8} (hwf0 : H0.WF) (hs0 : Sub H0 H) (hwf : H.WF) (hat0_code : eU.At H0 b_code i_code k_code code) {b_ps i_ps : Nat} {k_ps : ABlk} {ps : List Si} (hat_ps : eSi.At H b_ps i_ps k_ps ps) {b_R i_R : Nat} {k_R : ABlk} {R : List (List Int)} (hat_R : eII.At H b_R i_R k_R R) {a b L n : Int} {o1 : Bool} (hrow : ∀ g ∈ R, (g.any fun x => decide (x = a)) = (g.any fun x => decide (x = b))) (htot : iiTot R ≤ 1000) (hRl : R.length ≤ 1000) {Q : Exit → AFrame → AHeap → Prop} (hfin : Q (.exit 0) [(0, .c (.sl b_code i_code code.length)), (3, .c (.sl b_ps i_ps ps.length)), (4, .c (.int .i64 (a))), (5, .c (.int .i64 (b))), (6, .c (.int .i64 (L))), (10, .c (.int .i64 (n))), (16, .c (.sl b_R i_R R.length)), (17, .c (.bool (o1))), (18, .c (.int .i64 ((iiTot R : Int)))), (19, .c (.int .i64 ((R.length : Int)))), (112, .c (.bool (false)))] H) : ALoop Try.prog 267 H0.n laws_FnCensus_l0 [(0, .c (.sl b_code i_code code.length)), (3, .c (.sl b_ps i_ps ps.length)), (4, .c (.int .i64 (a))), (5, .c (.int .i64 (b))), (6, .c (.int .i64 (L))), (10, .c (.int .i64 (n))), (16, .c (.sl b_R i_R R.length)), (17, .c (.bool (o1))), (18, .c (.int .i64 ((0 : Int)))), (19, .c (.int .i64 ((0 : Int))))] H Q := by
  have hat_code : eU.At H b_code i_code k_code code := ⟨hs0.1.2 _ _ hat0_code.blk, hat0_code.esz, hat0_code.len, hat0_code.els⟩
  have hE := soundE_cons laws_rBig_s (soundE_cons spec_DrawGreatestLimit_s (soundE_cons impl_GreatestLimit_s (soundE_cons spec_GreatestLimit_s (soundE_cons impl_EvidenceOf_s (soundE_cons spec_EvidenceOf_s (soundE_cons impl_CoversSeen_s (soundE_cons laws_rHas_s (soundE_cons spec_DrawCoversSeen_s (soundE_cons spec_CoversSeen_s (soundE_cons laws_rTable_s (soundE_cons impl_LoneSightings_s (soundE_cons spec_LoneSightings_s (soundE_cons laws_rInts_s (soundE_cons impl_AreSightings_s (soundE_cons spec_AreSightings_s (soundE_nil (P := Try.prog)))))))))))))))))
  have hn0 : H0.n ≤ H.n := hs0.1.1
  have hb_code : b_code < H.n := (hwf b_code k_code hat_code.blk).1
  have hne_code : (b_code = H.n) = False := eq_false (by omega)
  have hne1_code : ∀ i, (b_code = H.n + i) = False := fun i => eq_false (by omega)
  have hne2_code : (b_code = H.n + 1 + 1) = False ∧ (b_code = H.n + 1 + 1 + 1) = False ∧ (b_code = H.n + 1 + 1 + 1 + 1) = False ∧ (b_code = H.n + 1 + 1 + 1 + 1 + 1) = False ∧ (b_code = H.n + 1 + 1 + 1 + 1 + 1 + 1) = False ∧ (b_code = H.n + 1 + 1 + 1 + 1 + 1 + 1 + 1) = False ∧ (b_code = H.n + 1 + 1 + 1 + 1 + 1 + 1 + 1 + 1) = False ∧ (b_code = H.n + 1 + 1 + 1 + 1 + 1 + 1 + 1 + 1 + 1) = False ∧ (b_code = H.n + 1 + 1 + 1 + 1 + 1 + 1 + 1 + 1 + 1 + 1) = False ∧ (b_code = H.n + 1 + 1 + 1 + 1 + 1 + 1 + 1 + 1 + 1 + 1 + 1) = False ∧ (b_code = H.n + 1 + 1 + 1 + 1 + 1 + 1 + 1 + 1 + 1 + 1 + 1 + 1) = False := ⟨eq_false (by omega), eq_false (by omega), eq_false (by omega), eq_false (by omega), eq_false (by omega), eq_false (by omega), eq_false (by omega), eq_false (by omega), eq_false (by omega), eq_false (by omega), eq_false (by omega)⟩
  have hmx_code : code.length ≤ 9223372036854775807 := by have h1 := (hwf b_code k_code hat_code.blk).2.2; have h2 := hat_code.len; omega
  have hl0_code : b_code < H.n := by omega
  have hl1_code : b_code < H.n + 1 := by omega
  have hl2_code : b_code < H.n + 1 + 1 := by omega
  have hl3_code : b_code < H.n + 1 + 1 + 1 := by omega
  have hl4_code : b_code < H.n + 1 + 1 + 1 + 1 := by omega
  have hl5_code : b_code < H.n + 1 + 1 + 1 + 1 + 1 := by omega
  have hl6_code : b_code < H.n + 1 + 1 + 1 + 1 + 1 + 1 := by omega
  have hl7_code : b_code < H.n + 1 + 1 + 1 + 1 + 1 + 1 + 1 := by omega
  have hsr : SubE H H := SubE.refl H
  have hsp : ∀ H' k, H.n ≤ H'.n → SubE H H' → SubE H (H'.push k) := fun H' k hn hs => SubE.push hwf hn hs k
  have hst : ∀ H', SubE H H' → SubE H H'.toRo := fun H' hs => hs.toRo
  have hss : ∀ H' i k, H.n ≤ i → SubE H H' → SubE H (H'.set i k) := fun H' i k hn hs => SubE.set hwf hn hs k
  have hsk : ∀ H' i, H.n ≤ i → SubE H H' → SubE H (H'.kill i) := fun H' i hn hs => SubE.kill hwf hn hs
  have hon_ps := hat_ps.on
  have hb_ps : b_ps < H.n := (hwf b_ps k_ps hat_ps.blk).1
  have hne_ps : (b_ps = H.n) = False := eq_false (by omega)
  have hne1_ps : ∀ i, (b_ps = H.n + i) = False := fun i => eq_false (by omega)
  have hne2_ps : (b_ps = H.n + 1 + 1) = False ∧ (b_ps = H.n + 1 + 1 + 1) = False ∧ (b_ps = H.n + 1 + 1 + 1 + 1) = False ∧ (b_ps = H.n + 1 + 1 + 1 + 1 + 1) = False ∧ (b_ps = H.n + 1 + 1 + 1 + 1 + 1 + 1) = False ∧ (b_ps = H.n + 1 + 1 + 1 + 1 + 1 + 1 + 1) = False ∧ (b_ps = H.n + 1 + 1 + 1 + 1 + 1 + 1 + 1 + 1) = False ∧ (b_ps = H.n + 1 + 1 + 1 + 1 + 1 + 1 + 1 + 1 + 1) = False ∧ (b_ps = H.n + 1 + 1 + 1 + 1 + 1 + 1 + 1 + 1 + 1 + 1) = False ∧ (b_ps = H.n + 1 + 1 + 1 + 1 + 1 + 1 + 1 + 1 + 1 + 1 + 1) = False ∧ (b_ps = H.n + 1 + 1 + 1 + 1 + 1 + 1 + 1 + 1 + 1 + 1 + 1 + 1) = False := ⟨eq_false (by omega), eq_false (by omega), eq_false (by omega), eq_false (by omega), eq_false (by omega), eq_false (by omega), eq_false (by omega), eq_false (by omega), eq_false (by omega), eq_false (by omega), eq_false (by omega)⟩
  have hl0_ps : b_ps < H.n := by omega
  have hl1_ps : b_ps < H.n + 1 := by omega
  have hl2_ps : b_ps < H.n + 1 + 1 := by omega
  have hl3_ps : b_ps < H.n + 1 + 1 + 1 := by omega
  have hl4_ps : b_ps < H.n + 1 + 1 + 1 + 1 := by omega
  have hl5_ps : b_ps < H.n + 1 + 1 + 1 + 1 + 1 := by omega
  have hl6_ps : b_ps < H.n + 1 + 1 + 1 + 1 + 1 + 1 := by omega
  have hl7_ps : b_ps < H.n + 1 + 1 + 1 + 1 + 1 + 1 + 1 := by omega
  have hon_R := hat_R.on
  have hb_R : b_R < H.n := (hwf b_R k_R hat_R.blk).1
  have hne_R : (b_R = H.n) = False := eq_false (by omega)
  have hne1_R : ∀ i, (b_R = H.n + i) = False := fun i => eq_false (by omega)
  have hne2_R : (b_R = H.n + 1 + 1) = False ∧ (b_R = H.n + 1 + 1 + 1) = False ∧ (b_R = H.n + 1 + 1 + 1 + 1) = False ∧ (b_R = H.n + 1 + 1 + 1 + 1 + 1) = False ∧ (b_R = H.n + 1 + 1 + 1 + 1 + 1 + 1) = False ∧ (b_R = H.n + 1 + 1 + 1 + 1 + 1 + 1 + 1) = False ∧ (b_R = H.n + 1 + 1 + 1 + 1 + 1 + 1 + 1 + 1) = False ∧ (b_R = H.n + 1 + 1 + 1 + 1 + 1 + 1 + 1 + 1 + 1) = False ∧ (b_R = H.n + 1 + 1 + 1 + 1 + 1 + 1 + 1 + 1 + 1 + 1) = False ∧ (b_R = H.n + 1 + 1 + 1 + 1 + 1 + 1 + 1 + 1 + 1 + 1 + 1) = False ∧ (b_R = H.n + 1 + 1 + 1 + 1 + 1 + 1 + 1 + 1 + 1 + 1 + 1 + 1) = False := ⟨eq_false (by omega), eq_false (by omega), eq_false (by omega), eq_false (by omega), eq_false (by omega), eq_false (by omega), eq_false (by omega), eq_false (by omega), eq_false (by omega), eq_false (by omega), eq_false (by omega)⟩
  have hl0_R : b_R < H.n := by omega
  have hl1_R : b_R < H.n + 1 := by omega
  have hl2_R : b_R < H.n + 1 + 1 := by omega
  have hl3_R : b_R < H.n + 1 + 1 + 1 := by omega
  have hl4_R : b_R < H.n + 1 + 1 + 1 + 1 := by omega
  have hl5_R : b_R < H.n + 1 + 1 + 1 + 1 + 1 := by omega
  have hl6_R : b_R < H.n + 1 + 1 + 1 + 1 + 1 + 1 := by omega
  have hl7_R : b_R < H.n + 1 + 1 + 1 + 1 + 1 + 1 + 1 := by omega
  refine aloop_list R (fun j (s : Nat) => [(0, .c (.sl b_code i_code code.length)), (3, .c (.sl b_ps i_ps ps.length)), (4, .c (.int .i64 (a))), (5, .c (.int .i64 (b))), (6, .c (.int .i64 (L))), (10, .c (.int .i64 (n))), (16, .c (.sl b_R i_R R.length)), (17, .c (.bool (o1))), (18, .c (.int .i64 ((s : Int)))), (19, .c (.int .i64 ((j : Int))))]) (fun _ _ => H) (fun j l s => s + iiTot l = iiTot R) hE _ 0 (by simp) (.since hn0 hwf (.refl _) (by simp [frOk, AV.okR, AV.ok1, AC.okR, AV.ren, AV.ren1, AC.ren, AFrame.get, pl1_old, hl0_code, hl1_code, hl2_code, hl3_code, hl4_code, hl5_code, hl6_code, hl7_code, hl0_ps, hl1_ps, hl2_ps, hl3_ps, hl4_ps, hl5_ps, hl6_ps, hl7_ps, hl0_R, hl1_R, hl2_R, hl3_R, hl4_R, hl5_R, hl6_R, hl7_R]; first | done | omega)) (fun j s hlt hs => ?_) fun s hs => ?_
  · have hj1 := idx_lt hlt
    have w1 : IntKind.i64.wrap ((j : Int) + 1) = (j : Int) + 1 := wrap_id (by omega) (by omega)
    simp only [iiTot, List.map_cons, List.sum_cons] at hs
    have htt := htot
    simp only [iiTot] at htt
    have w2 : IntKind.i64.wrap ((s : Int) + (R[j].length : Int)) = ((s + R[j].length : Nat) : Int) := by rw [wrap_id (by omega) (by omega)]; omega
    obtain ⟨ex_x, e_x, hd_x⟩ := hat_R.get hlt
    obtain ⟨b_x, i_x, k_x, rfl, hat_x, htx_x⟩ := eII_at3 hd_x
    have hb_x : b_x < H.n := (hwf b_x k_x hat_x.blk).1
    have hne_x : (b_x = H.n) = False := eq_false (by omega)
    have hne1_x : ∀ i, (b_x = H.n + i) = False := fun i => eq_false (by omega)
    have hne2_x : (b_x = H.n + 1 + 1) = False ∧ (b_x = H.n + 1 + 1 + 1) = False ∧ (b_x = H.n + 1 + 1 + 1 + 1) = False ∧ (b_x = H.n + 1 + 1 + 1 + 1 + 1) = False ∧ (b_x = H.n + 1 + 1 + 1 + 1 + 1 + 1) = False ∧ (b_x = H.n + 1 + 1 + 1 + 1 + 1 + 1 + 1) = False ∧ (b_x = H.n + 1 + 1 + 1 + 1 + 1 + 1 + 1 + 1) = False ∧ (b_x = H.n + 1 + 1 + 1 + 1 + 1 + 1 + 1 + 1 + 1) = False ∧ (b_x = H.n + 1 + 1 + 1 + 1 + 1 + 1 + 1 + 1 + 1 + 1) = False ∧ (b_x = H.n + 1 + 1 + 1 + 1 + 1 + 1 + 1 + 1 + 1 + 1 + 1) = False ∧ (b_x = H.n + 1 + 1 + 1 + 1 + 1 + 1 + 1 + 1 + 1 + 1 + 1 + 1) = False := ⟨eq_false (by omega), eq_false (by omega), eq_false (by omega), eq_false (by omega), eq_false (by omega), eq_false (by omega), eq_false (by omega), eq_false (by omega), eq_false (by omega), eq_false (by omega), eq_false (by omega)⟩
    have hh := hrow _ (List.getElem_mem hlt)
    clear hrow
    simp (config := {contextual := true, implicitDefEqProofs := false, maxSteps := 2000000}) [-Int.not_le, -Int.not_lt, argsF, laws_FnCensus_l0, hat_R.blk, hat_R.esz, hat_R.len, hon_R, hne_R, hne1_R, hne2_R.1, hne2_R.2.1, hne2_R.2.2.1, hne2_R.2.2.2.1, hne2_R.2.2.2.2.1, hne2_R.2.2.2.2.2.1, hne2_R.2.2.2.2.2.2.1, hne2_R.2.2.2.2.2.2.2.1, hne2_R.2.2.2.2.2.2.2.2.1, hne2_R.2.2.2.2.2.2.2.2.2.1, hne2_R.2.2.2.2.2.2.2.2.2.2, hsr, hsp, hst, hss, hsk, e_x, hat_x.blk, hat_x.esz, hat_x.len, hat_x.els, hne_x, hne1_x, hne2_x.1, hne2_x.2.1, hne2_x.2.2.1, hne2_x.2.2.2.1, hne2_x.2.2.2.2.1, hne2_x.2.2.2.2.2.1, hne2_x.2.2.2.2.2.2.1, hne2_x.2.2.2.2.2.2.2.1, hne2_x.2.2.2.2.2.2.2.2.1, hne2_x.2.2.2.2.2.2.2.2.2.1, hne2_x.2.2.2.2.2.2.2.2.2.2, hb_x, hj1, hlt, w1, w2, hh, ite_self]
    exact ⟨s + R[j].length, by simp only [iiTot]; omega, .since hn0 hwf (.refl _) (by simp [frOk, AV.okR, AV.ok1, AC.okR, AV.ren, AV.ren1, AC.ren, AFrame.get, pl1_old, hl0_code, hl1_code, hl2_code, hl3_code, hl4_code, hl5_code, hl6_code, hl7_code, hl0_ps, hl1_ps, hl2_ps, hl3_ps, hl4_ps, hl5_ps, hl6_ps, hl7_ps, hl0_R, hl1_R, hl2_R, hl3_R, hl4_R, hl5_R, hl6_R, hl7_R]; first | done | omega)⟩
  · simp only [iiTot, List.map_nil, List.sum_nil, Nat.add_zero] at hs
    subst hs
    clear hrow
    simp (config := {contextual := true, implicitDefEqProofs := false, maxSteps := 2000000}) [-Int.not_le, -Int.not_lt, argsF, laws_FnCensus_l0, hat_R.blk, hat_R.esz, hat_R.len, hon_R, hne_R, hne1_R, hne2_R.1, hne2_R.2.1, hne2_R.2.2.1, hne2_R.2.2.2.1, hne2_R.2.2.2.2.1, hne2_R.2.2.2.2.2.1, hne2_R.2.2.2.2.2.2.1, hne2_R.2.2.2.2.2.2.2.1, hne2_R.2.2.2.2.2.2.2.2.1, hne2_R.2.2.2.2.2.2.2.2.2.1, hne2_R.2.2.2.2.2.2.2.2.2.2, hsr, hsp, hst, hss, hsk]
    exact hfin

theorem laws_FnCensus_loop1 {H0 H : AHeap} {b_code i_code : Nat} {k_code : ABlk} {code : List UInt8} (hwf0 : H0.WF) (hs0 : Sub H0 H) (hwf : H.WF) (hat0_code : eU.At H0 b_code i_code k_code code) {b_R i_R : Nat} {k_R : ABlk} {R : List (List Int)} (hat_R : eII.At H b_R i_R k_R R) {a b : Int} {o1 : Bool} (hrow : ∀ g ∈ R, (g.any fun x => decide (x = a)) = true → (g.any fun x => decide (x = b)) = false) (hRl : R.length ≤ 1000) {Q : Exit → AFrame → AHeap → Prop} (hfin : Q (.exit 2) [(0, .c (.sl b_code i_code code.length)), (4, .c (.int .i64 (a))), (5, .c (.int .i64 (b))), (20, .c (.sl b_R i_R R.length)), (21, .c (.bool (o1))), (22, .c (.int .i64 ((R.length : Int)))), (160, .c (.bool (false)))] H) : ALoop Try.prog 267 H0.n laws_FnCensus_l1 [(0, .c (.sl b_code i_code code.length)), (4, .c (.int .i64 (a))), (5, .c (.int .i64 (b))), (20, .c (.sl b_R i_R R.length)), (21, .c (.bool (o1))), (22, .c (.int .i64 ((0 : Int))))] H Q := by
  have hat_code : eU.At H b_code i_code k_code code := ⟨hs0.1.2 _ _ hat0_code.blk, hat0_code.esz, hat0_code.len, hat0_code.els⟩
  have hE := soundE_cons laws_rBig_s (soundE_cons spec_DrawGreatestLimit_s (soundE_cons impl_GreatestLimit_s (soundE_cons spec_GreatestLimit_s (soundE_cons impl_EvidenceOf_s (soundE_cons spec_EvidenceOf_s (soundE_cons impl_CoversSeen_s (soundE_cons laws_rHas_s (soundE_cons spec_DrawCoversSeen_s (soundE_cons spec_CoversSeen_s (soundE_cons laws_rTable_s (soundE_cons impl_LoneSightings_s (soundE_cons spec_LoneSightings_s (soundE_cons laws_rInts_s (soundE_cons impl_AreSightings_s (soundE_cons spec_AreSightings_s (soundE_nil (P := Try.prog)))))))))))))))))
  have hn0 : H0.n ≤ H.n := hs0.1.1
  have hb_code : b_code < H.n := (hwf b_code k_code hat_code.blk).1
  have hne_code : (b_code = H.n) = False := eq_false (by omega)
  have hne1_code : ∀ i, (b_code = H.n + i) = False := fun i => eq_false (by omega)
  have hne2_code : (b_code = H.n + 1 + 1) = False ∧ (b_code = H.n + 1 + 1 + 1) = False ∧ (b_code = H.n + 1 + 1 + 1 + 1) = False ∧ (b_code = H.n + 1 + 1 + 1 + 1 + 1) = False ∧ (b_code = H.n + 1 + 1 + 1 + 1 + 1 + 1) = False ∧ (b_code = H.n + 1 + 1 + 1 + 1 + 1 + 1 + 1) = False ∧ (b_code = H.n + 1 + 1 + 1 + 1 + 1 + 1 + 1 + 1) = False ∧ (b_code = H.n + 1 + 1 + 1 + 1 + 1 + 1 + 1 + 1 + 1) = False ∧ (b_code = H.n + 1 + 1 + 1 + 1 + 1 + 1 + 1 + 1 + 1 + 1) = False ∧ (b_code = H.n + 1 + 1 + 1 + 1 + 1 + 1 + 1 + 1 + 1 + 1 + 1) = False ∧ (b_code = H.n + 1 + 1 + 1 + 1 + 1 + 1 + 1 + 1 + 1 + 1 + 1 + 1) = False := ⟨eq_false (by omega), eq_false (by omega), eq_false (by omega), eq_false (by omega), eq_false (by omega), eq_false (by omega), eq_false (by omega), eq_false (by omega), eq_false (by omega), eq_false (by omega), eq_false (by omega)⟩
  have hmx_code : code.length ≤ 9223372036854775807 := by have h1 := (hwf b_code k_code hat_code.blk).2.2; have h2 := hat_code.len; omega
  have hl0_code : b_code < H.n := by omega
  have hl1_code : b_code < H.n + 1 := by omega
  have hl2_code : b_code < H.n + 1 + 1 := by omega
  have hl3_code : b_code < H.n + 1 + 1 + 1 := by omega
  have hl4_code : b_code < H.n + 1 + 1 + 1 + 1 := by omega
  have hl5_code : b_code < H.n + 1 + 1 + 1 + 1 + 1 := by omega
  have hl6_code : b_code < H.n + 1 + 1 + 1 + 1 + 1 + 1 := by omega
  have hl7_code : b_code < H.n + 1 + 1 + 1 + 1 + 1 + 1 + 1 := by omega
  have hsr : SubE H H := SubE.refl H
  have hsp : ∀ H' k, H.n ≤ H'.n → SubE H H' → SubE H (H'.push k) := fun H' k hn hs => SubE.push hwf hn hs k
  have hst : ∀ H', SubE H H' → SubE H H'.toRo := fun H' hs => hs.toRo
  have hss : ∀ H' i k, H.n ≤ i → SubE H H' → SubE H (H'.set i k) := fun H' i k hn hs => SubE.set hwf hn hs k
  have hsk : ∀ H' i, H.n ≤ i → SubE H H' → SubE H (H'.kill i) := fun H' i hn hs => SubE.kill hwf hn hs
  have hon_R := hat_R.on
  have hb_R : b_R < H.n := (hwf b_R k_R hat_R.blk).1
  have hne_R : (b_R = H.n) = False := eq_false (by omega)
  have hne1_R : ∀ i, (b_R = H.n + i) = False := fun i => eq_false (by omega)
  have hne2_R : (b_R = H.n + 1 + 1) = False ∧ (b_R = H.n + 1 + 1 + 1) = False ∧ (b_R = H.n + 1 + 1 + 1 + 1) = False ∧ (b_R = H.n + 1 + 1 + 1 + 1 + 1) = False ∧ (b_R = H.n + 1 + 1 + 1 + 1 + 1 + 1) = False ∧ (b_R = H.n + 1 + 1 + 1 + 1 + 1 + 1 + 1) = False ∧ (b_R = H.n + 1 + 1 + 1 + 1 + 1 + 1 + 1 + 1) = False ∧ (b_R = H.n + 1 + 1 + 1 + 1 + 1 + 1 + 1 + 1 + 1) = False ∧ (b_R = H.n + 1 + 1 + 1 + 1 + 1 + 1 + 1 + 1 + 1 + 1) = False ∧ (b_R = H.n + 1 + 1 + 1 + 1 + 1 + 1 + 1 + 1 + 1 + 1 + 1) = False ∧ (b_R = H.n + 1 + 1 + 1 + 1 + 1 + 1 + 1 + 1 + 1 + 1 + 1 + 1) = False := ⟨eq_false (by omega), eq_false (by omega), eq_false (by omega), eq_false (by omega), eq_false (by omega), eq_false (by omega), eq_false (by omega), eq_false (by omega), eq_false (by omega), eq_false (by omega), eq_false (by omega)⟩
  have hl0_R : b_R < H.n := by omega
  have hl1_R : b_R < H.n + 1 := by omega
  have hl2_R : b_R < H.n + 1 + 1 := by omega
  have hl3_R : b_R < H.n + 1 + 1 + 1 := by omega
  have hl4_R : b_R < H.n + 1 + 1 + 1 + 1 := by omega
  have hl5_R : b_R < H.n + 1 + 1 + 1 + 1 + 1 := by omega
  have hl6_R : b_R < H.n + 1 + 1 + 1 + 1 + 1 + 1 := by omega
  have hl7_R : b_R < H.n + 1 + 1 + 1 + 1 + 1 + 1 + 1 := by omega
  refine aloop_list R (fun j (_ : Unit) => [(0, .c (.sl b_code i_code code.length)), (4, .c (.int .i64 (a))), (5, .c (.int .i64 (b))), (20, .c (.sl b_R i_R R.length)), (21, .c (.bool (o1))), (22, .c (.int .i64 ((j : Int))))]) (fun _ _ => H) (fun j l _ => True) hE _ () trivial (.since hn0 hwf (.refl _) (by simp [frOk, AV.okR, AV.ok1, AC.okR, AV.ren, AV.ren1, AC.ren, AFrame.get, pl1_old, hl0_code, hl1_code, hl2_code, hl3_code, hl4_code, hl5_code, hl6_code, hl7_code, hl0_R, hl1_R, hl2_R, hl3_R, hl4_R, hl5_R, hl6_R, hl7_R]; first | done | omega)) (fun j _ hlt _ => ?_) fun _ _ => ?_
  · have hj1 := idx_lt hlt
    have w1 : IntKind.i64.wrap ((j : Int) + 1) = (j : Int) + 1 := wrap_id (by omega) (by omega)
    obtain ⟨ex_x, e_x, hd_x⟩ := hat_R.get hlt
    obtain ⟨b_x, i_x, k_x, rfl, hat_x, htx_x⟩ := eII_at3 hd_x
    have hb_x : b_x < H.n := (hwf b_x k_x hat_x.blk).1
    have hne_x : (b_x = H.n) = False := eq_false (by omega)
    have hne1_x : ∀ i, (b_x = H.n + i) = False := fun i => eq_false (by omega)
    have hne2_x : (b_x = H.n + 1 + 1) = False ∧ (b_x = H.n + 1 + 1 + 1) = False ∧ (b_x = H.n + 1 + 1 + 1 + 1) = False ∧ (b_x = H.n + 1 + 1 + 1 + 1 + 1) = False ∧ (b_x = H.n + 1 + 1 + 1 + 1 + 1 + 1) = False ∧ (b_x = H.n + 1 + 1 + 1 + 1 + 1 + 1 + 1) = False ∧ (b_x = H.n + 1 + 1 + 1 + 1 + 1 + 1 + 1 + 1) = False ∧ (b_x = H.n + 1 + 1 + 1 + 1 + 1 + 1 + 1 + 1 + 1) = False ∧ (b_x = H.n + 1 + 1 + 1 + 1 + 1 + 1 + 1 + 1 + 1 + 1) = False ∧ (b_x = H.n + 1 + 1 + 1 + 1 + 1 + 1 + 1 + 1 + 1 + 1 + 1) = False ∧ (b_x = H.n + 1 + 1 + 1 + 1 + 1 + 1 + 1 + 1 + 1 + 1 + 1 + 1) = False := ⟨eq_false (by omega), eq_false (by omega), eq_false (by omega), eq_false (by omega), eq_false (by omega), eq_false (by omega), eq_false (by omega), eq_false (by omega), eq_false (by omega), eq_false (by omega), eq_false (by omega)⟩
    have hh := hrow _ (List.getElem_mem hlt)
    clear hrow
    cases ha : (R[j].any fun x => decide (x = a)) with
    | true =>
      have hb := hh ha
      clear hh
      simp (config := {contextual := true, implicitDefEqProofs := false, maxSteps := 2000000}) [-Int.not_le, -Int.not_lt, argsF, laws_FnCensus_l1, hat_R.blk, hat_R.esz, hat_R.len, hon_R, hne_R, hne1_R, hne2_R.1, hne2_R.2.1, hne2_R.2.2.1, hne2_R.2.2.2.1, hne2_R.2.2.2.2.1, hne2_R.2.2.2.2.2.1, hne2_R.2.2.2.2.2.2.1, hne2_R.2.2.2.2.2.2.2.1, hne2_R.2.2.2.2.2.2.2.2.1, hne2_R.2.2.2.2.2.2.2.2.2.1, hne2_R.2.2.2.2.2.2.2.2.2.2, hsr, hsp, hst, hss, hsk, e_x, hat_x.blk, hat_x.esz, hat_x.len, hat_x.els, hne_x, hne1_x, hne2_x.1, hne2_x.2.1, hne2_x.2.2.1, hne2_x.2.2.2.1, hne2_x.2.2.2.2.1, hne2_x.2.2.2.2.2.1, hne2_x.2.2.2.2.2.2.1, hne2_x.2.2.2.2.2.2.2.1, hne2_x.2.2.2.2.2.2.2.2.1, hne2_x.2.2.2.2.2.2.2.2.2.1, hne2_x.2.2.2.2.2.2.2.2.2.2, hb_x, hj1, hlt, w1, ha, hb]
      exact ⟨(), trivial, .since hn0 hwf (.refl _) (by simp [frOk, AV.okR, AV.ok1, AC.okR, AV.ren, AV.ren1, AC.ren, AFrame.get, pl1_old, hl0_code, hl1_code, hl2_code, hl3_code, hl4_code, hl5_code, hl6_code, hl7_code, hl0_R, hl1_R, hl2_R, hl3_R, hl4_R, hl5_R, hl6_R, hl7_R]; first | done | omega)⟩
    | false =>
      clear hh
      simp (config := {contextual := true, implicitDefEqProofs := false, maxSteps := 2000000}) [-Int.not_le, -Int.not_lt, argsF, laws_FnCensus_l1, hat_R.blk, hat_R.esz, hat_R.len, hon_R, hne_R, hne1_R, hne2_R.1, hne2_R.2.1, hne2_R.2.2.1, hne2_R.2.2.2.1, hne2_R.2.2.2.2.1, hne2_R.2.2.2.2.2.1, hne2_R.2.2.2.2.2.2.1, hne2_R.2.2.2.2.2.2.2.1, hne2_R.2.2.2.2.2.2.2.2.1, hne2_R.2.2.2.2.2.2.2.2.2.1, hne2_R.2.2.2.2.2.2.2.2.2.2, hsr, hsp, hst, hss, hsk, e_x, hat_x.blk, hat_x.esz, hat_x.len, hat_x.els, hne_x, hne1_x, hne2_x.1, hne2_x.2.1, hne2_x.2.2.1, hne2_x.2.2.2.1, hne2_x.2.2.2.2.1, hne2_x.2.2.2.2.2.1, hne2_x.2.2.2.2.2.2.1, hne2_x.2.2.2.2.2.2.2.1, hne2_x.2.2.2.2.2.2.2.2.1, hne2_x.2.2.2.2.2.2.2.2.2.1, hne2_x.2.2.2.2.2.2.2.2.2.2, hb_x, hj1, hlt, w1, ha]
      exact ⟨(), trivial, .since hn0 hwf (.refl _) (by simp [frOk, AV.okR, AV.ok1, AC.okR, AV.ren, AV.ren1, AC.ren, AFrame.get, pl1_old, hl0_code, hl1_code, hl2_code, hl3_code, hl4_code, hl5_code, hl6_code, hl7_code, hl0_R, hl1_R, hl2_R, hl3_R, hl4_R, hl5_R, hl6_R, hl7_R]; first | done | omega)⟩
  · clear hrow
    simp (config := {contextual := true, implicitDefEqProofs := false, maxSteps := 2000000}) [-Int.not_le, -Int.not_lt, argsF, laws_FnCensus_l1, hat_R.blk, hat_R.esz, hat_R.len, hon_R, hne_R, hne1_R, hne2_R.1, hne2_R.2.1, hne2_R.2.2.1, hne2_R.2.2.2.1, hne2_R.2.2.2.2.1, hne2_R.2.2.2.2.2.1, hne2_R.2.2.2.2.2.2.1, hne2_R.2.2.2.2.2.2.2.1, hne2_R.2.2.2.2.2.2.2.2.1, hne2_R.2.2.2.2.2.2.2.2.2.1, hne2_R.2.2.2.2.2.2.2.2.2.2, hsr, hsp, hst, hss, hsk]
    exact hfin

theorem laws_FnCensus_p8 {H0 H : AHeap} {K : AV → AHeap → Prop} {b_code i_code : Nat} {k_code : ABlk} {code : List UInt8} (hwf0 : H0.WF) (hs0 : Sub H0 H) (hwf : H.WF) (hat0_code : eU.At H0 b_code i_code k_code code) (h : K (.c (.bool true)) H0) {b_ps i_ps : Nat} {k_ps : ABlk} {ps : List Si} (hat_ps : eSi.At H b_ps i_ps k_ps ps) {a b L n : Int} {ok : Bool} (hL : L = (glRes ps a b).1) (hok : ok = (glRes ps a b).2) (hn : n = (evOf ps a b).1) (hcl : code.length ≤ 65536) (hqt : ∀ p ∈ ps, p.traits.length ≤ 1048576) (hql : ps.length ≤ 12) {F : AFrame} (hF : F.keep [0, 3, 4, 5, 6, 7, 10] = [(0, .c (.sl b_code i_code code.length)), (3, .c (.sl b_ps i_ps ps.length)), (4, .c (.int .i64 (a))), (5, .c (.int .i64 (b))), (6, .c (.int .i64 (L))), (7, .c (.bool (ok))), (10, .c (.int .i64 (n)))]) : avc Try.prog [(5, q_rBig), (6, q_DEv), (7, q_gl), (8, q_gl), (9, q_evOf), (10, q_evOf), (11, q_cv), (12, q_rHas), (13, q_DCv), (14, q_cv), (15, q_eqII), (16, q_lone), (17, q_lone), (18, q_rInts), (19, q_areSi), (20, q_areSi)] 267 H0.n laws_FnCensus_t8 F H (endK Try.prog H0.n [.tmp 2] K) := by
  refine (show avc _ _ _ _ _ _ _ _ = _ from avc_cut _ _).mpr ?_
  rw [hF]
  have hat_code : eU.At H b_code i_code k_code code := ⟨hs0.1.2 _ _ hat0_code.blk, hat0_code.esz, hat0_code.len, hat0_code.els⟩
  have hE := soundE_cons laws_rBig_s (soundE_cons spec_DrawGreatestLimit_s (soundE_cons impl_GreatestLimit_s (soundE_cons spec_GreatestLimit_s (soundE_cons impl_EvidenceOf_s (soundE_cons spec_EvidenceOf_s (soundE_cons impl_CoversSeen_s (soundE_cons laws_rHas_s (soundE_cons spec_DrawCoversSeen_s (soundE_cons spec_CoversSeen_s (soundE_cons laws_rTable_s (soundE_cons impl_LoneSightings_s (soundE_cons spec_LoneSightings_s (soundE_cons laws_rInts_s (soundE_cons impl_AreSightings_s (soundE_cons spec_AreSightings_s (soundE_nil (P := Try.prog)))))))))))))))))
  have hn0 : H0.n ≤ H.n := hs0.1.1
  have hb_code : b_code < H.n := (hwf b_code k_code hat_code.blk).1
  have hne_code : (b_code = H.n) = False := eq_false (by omega)
  have hne1_code : ∀ i, (b_code = H.n + i) = False := fun i => eq_false (by omega)
  have hne2_code : (b_code = H.n + 1 + 1) = False ∧ (b_code = H.n + 1 + 1 + 1) = False ∧ (b_code = H.n + 1 + 1 + 1 + 1) = False ∧ (b_code = H.n + 1 + 1 + 1 + 1 + 1) = False ∧ (b_code = H.n + 1 + 1 + 1 + 1 + 1 + 1) = False ∧ (b_code = H.n + 1 + 1 + 1 + 1 + 1 + 1 + 1) = False ∧ (b_code = H.n + 1 + 1 + 1 + 1 + 1 + 1 + 1 + 1) = False ∧ (b_code = H.n + 1 + 1 + 1 + 1 + 1 + 1 + 1 + 1 + 1) = False ∧ (b_code = H.n + 1 + 1 + 1 + 1 + 1 + 1 + 1 + 1 + 1 + 1) = False ∧ (b_code = H.n + 1 + 1 + 1 + 1 + 1 + 1 + 1 + 1 + 1 + 1 + 1) = False ∧ (b_code = H.n + 1 + 1 + 1 + 1 + 1 + 1 + 1 + 1 + 1 + 1 + 1 + 1) = False := ⟨eq_false (by omega), eq_false (by omega), eq_false (by omega), eq_false (by omega), eq_false (by omega), eq_false (by omega), eq_false (by omega), eq_false (by omega), eq_false (by omega), eq_false (by omega), eq_false (by omega)⟩
  have hmx_code : code.length ≤ 9223372036854775807 := by have h1 := (hwf b_code k_code hat_code.blk).2.2; have h2 := hat_code.len; omega
  have hl0_code : b_code < H.n := by omega
  have hl1_code : b_code < H.n + 1 := by omega
  have hl2_code : b_code < H.n + 1 + 1 := by omega
  have hl3_code : b_code < H.n + 1 + 1 + 1 := by omega
  have hl4_code : b_code < H.n + 1 + 1 + 1 + 1 := by omega
  have hl5_code : b_code < H.n + 1 + 1 + 1 + 1 + 1 := by omega
  have hl6_code : b_code < H.n + 1 + 1 + 1 + 1 + 1 + 1 := by omega
  have hl7_code : b_code < H.n + 1 + 1 + 1 + 1 + 1 + 1 + 1 := by omega
  have hsr : SubE H H := SubE.refl H
  have hsp : ∀ H' k, H.n ≤ H'.n → SubE H H' → SubE H (H'.push k) := fun H' k hn hs => SubE.push hwf hn hs k
  have hst : ∀ H', SubE H H' → SubE H H'.toRo := fun H' hs => hs.toRo
  have hss : ∀ H' i k, H.n ≤ i → SubE H H' → SubE H (H'.set i k) := fun H' i k hn hs => SubE.set hwf hn hs k
  have hsk : ∀ H' i, H.n ≤ i → SubE H H' → SubE H (H'.kill i) := fun H' i hn hs => SubE.kill hwf hn hs
  have hon_ps := hat_ps.on
  have hb_ps : b_ps < H.n := (hwf b_ps k_ps hat_ps.blk).1
  have hne_ps : (b_ps = H.n) = False := eq_false (by omega)
  have hne1_ps : ∀ i, (b_ps = H.n + i) = False := fun i => eq_false (by omega)
  have hne2_ps : (b_ps = H.n + 1 + 1) = False ∧ (b_ps = H.n + 1 + 1 + 1) = False ∧ (b_ps = H.n + 1 + 1 + 1 + 1) = False ∧ (b_ps = H.n + 1 + 1 + 1 + 1 + 1) = False ∧ (b_ps = H.n + 1 + 1 + 1 + 1 + 1 + 1) = False ∧ (b_ps = H.n + 1 + 1 + 1 + 1 + 1 + 1 + 1) = False ∧ (b_ps = H.n + 1 + 1 + 1 + 1 + 1 + 1 + 1 + 1) = False ∧ (b_ps = H.n + 1 + 1 + 1 + 1 + 1 + 1 + 1 + 1 + 1) = False ∧ (b_ps = H.n + 1 + 1 + 1 + 1 + 1 + 1 + 1 + 1 + 1 + 1) = False ∧ (b_ps = H.n + 1 + 1 + 1 + 1 + 1 + 1 + 1 + 1 + 1 + 1 + 1) = False ∧ (b_ps = H.n + 1 + 1 + 1 + 1 + 1 + 1 + 1 + 1 + 1 + 1 + 1 + 1) = False := ⟨eq_false (by omega), eq_false (by omega), eq_false (by omega), eq_false (by omega), eq_false (by omega), eq_false (by omega), eq_false (by omega), eq_false (by omega), eq_false (by omega), eq_false (by omega), eq_false (by omega)⟩
  have hl0_ps : b_ps < H.n := by omega
  have hl1_ps : b_ps < H.n + 1 := by omega
  have hl2_ps : b_ps < H.n + 1 + 1 := by omega
  have hl3_ps : b_ps < H.n + 1 + 1 + 1 := by omega
  have hl4_ps : b_ps < H.n + 1 + 1 + 1 + 1 := by omega
  have hl5_ps : b_ps < H.n + 1 + 1 + 1 + 1 + 1 := by omega
  have hl6_ps : b_ps < H.n + 1 + 1 + 1 + 1 + 1 + 1 := by omega
  have hl7_ps : b_ps < H.n + 1 + 1 + 1 + 1 + 1 + 1 + 1 := by omega
  cases ok with
  | false =>
    simp (config := {contextual := true, implicitDefEqProofs := false, maxSteps := 2000000}) [-Int.not_le, -Int.not_lt, argsF, laws_FnCensus_t8]
    exact laws_FnCensus_p9 hwf0 hs0 hwf hat0_code h hcl rfl
  | true =>
    have hgo := hok.symm
    have hgi := gl_in hgo
    have hgr := gl_rows hgo
    have hgm := gl_more hgo
    have hgg := (gl_ge hgo).2
    have hgs := gl_sum hgo
    have hv := (gl_facts hgo).1
    rw [← hL] at hgi hgr hgm hgg hgs
    rw [← hn] at hgg
    have he1 : (cvRes ps L).2 = true := by rw [cv_at hv hgi.1 hgi.2]
    have hRl := (cvRes_len ps L).1
    simp (config := {contextual := true, implicitDefEqProofs := false, maxSteps := 2000000}) [-Int.not_le, -Int.not_lt, argsF, laws_FnCensus_t8, hat_ps.blk, hat_ps.esz, hat_ps.len, hon_ps, hne_ps, hne1_ps, hne2_ps.1, hne2_ps.2.1, hne2_ps.2.2.1, hne2_ps.2.2.2.1, hne2_ps.2.2.2.2.1, hne2_ps.2.2.2.2.2.1, hne2_ps.2.2.2.2.2.2.1, hne2_ps.2.2.2.2.2.2.2.1, hne2_ps.2.2.2.2.2.2.2.2.1, hne2_ps.2.2.2.2.2.2.2.2.2.1, hne2_ps.2.2.2.2.2.2.2.2.2.2, hsr, hsp, hst, hss, hsk, hqt]
    refine Stop.mk fun HA bA csA hwA hsA hrA hgA => ?_
    have axA : ∃ k, eII.At HA bA 0 k (cvRes ps L).1 := ⟨_, hrA.at⟩
    refine Exists.elim axA fun kA atA => ?_
    have hbA := (hwA _ _ atA.blk).1
    have hbp := (hwA _ _ (hat_ps.sub hsA).blk).1
    simp (config := {contextual := true, implicitDefEqProofs := false, maxSteps := 2000000}) [-Int.not_le, -Int.not_lt, argsF, laws_FnCensus_t8, he1]
    refine laws_FnCensus_loop0 hwf0 (hs0.trans hsA) hwA hat0_code (hat_ps.sub hsA) atA hgr (by omega) (by omega) ?_
    have atp := hat_ps.sub hsA
    have op := atp.on
    have lp := atp.len
    have sB := SubE.refl HA
    have sB2 := (SubE.refl HA).toRo
    have hsi : (iiTot (cvRes ps L).1 : Int) = (ps.length : Int) := by omega
    have hge : ¬ L < n := by omega
    by_cases hlt : L < 16
    · have hm := hgm hlt
      have he2 : (cvRes ps (L + 1)).2 = true := by rw [cv_at hv (by omega) (by omega)]
      have hRl2 := (cvRes_len ps (L + 1)).1
      have wl : IntKind.i64.wrap (L + 1) = L + 1 := wrap_id (by omega) (by omega)
      clear hgr hgm
      simp (config := {contextual := true, implicitDefEqProofs := false, maxSteps := 2000000}) [-Int.not_le, -Int.not_lt, argsF, laws_FnCensus_r3, hsi, hgs, hge, hlt, wl, atp.blk, atp.esz, op, lp, sB, sB2, hqt]
      refine Stop.mk fun HB bB csB hwB hsB hrB hgB => ?_
      rw [wl] at hrB
      have axB : ∃ k, eII.At HB bB 0 k (cvRes ps (L + 1)).1 := ⟨_, hrB.at⟩
      refine Exists.elim axB fun kB atB => ?_
      have hbB := (hwB _ _ atB.blk).1
      simp (config := {contextual := true, implicitDefEqProofs := false, maxSteps := 2000000}) [-Int.not_le, -Int.not_lt, argsF, he2, wl]
      refine laws_FnCensus_loop1 hwf0 ((hs0.trans hsA).trans hsB) hwB hat0_code atB hm (by omega) ?_
      clear hm
      simp (config := {contextual := true, implicitDefEqProofs := false, maxSteps := 2000000}) [-Int.not_le, -Int.not_lt, argsF, laws_FnCensus_r2]
      exact laws_FnCensus_p9 hwf0 ((hs0.trans hsA).trans hsB) hwB hat0_code h hcl rfl
    · clear hgr hgm
      simp (config := {contextual := true, implicitDefEqProofs := false, maxSteps := 2000000}) [-Int.not_le, -Int.not_lt, argsF, laws_FnCensus_r3, hsi, hgs, hge, hlt, atp.blk, atp.esz, op, lp, sB, sB2]
      exact laws_FnCensus_p9 hwf0 (hs0.trans hsA) hwA hat0_code h hcl rfl

theorem laws_FnCensus_s : Sound Try.prog 3 q_tFnCensus := by
  intro args H K h
  unfold q_tFnCensus at h
  split at h
  rotate_left
  all_goals first | exact False.elim h | skip
  rename_i code_v
  have h1 := Enc.rd_at h
  clear h
  obtain ⟨b_code, i_code, k_code, code, rfl, hat_code, h⟩ := h1
  have hE := soundE_cons laws_rBig_s (soundE_cons spec_DrawGreatestLimit_s (soundE_cons impl_GreatestLimit_s (soundE_cons spec_GreatestLimit_s (soundE_cons impl_EvidenceOf_s (soundE_cons spec_EvidenceOf_s (soundE_cons impl_CoversSeen_s (soundE_cons laws_rHas_s (soundE_cons spec_DrawCoversSeen_s (soundE_cons spec_CoversSeen_s (soundE_cons laws_rTable_s (soundE_cons impl_LoneSightings_s (soundE_cons spec_LoneSightings_s (soundE_cons laws_rInts_s (soundE_cons impl_AreSightings_s (soundE_cons spec_AreSightings_s (soundE_nil (P := Try.prog)))))))))))))))))
  refine acalls_fn laws_FnCensus_k hE ⟨by simp, fun hwf => ?_⟩
  have hb_code : b_code < H.n := (hwf b_code k_code hat_code.blk).1
  have hne_code : (b_code = H.n) = False := eq_false (by omega)
  have hne1_code : ∀ i, (b_code = H.n + i) = False := fun i => eq_false (by omega)
  have hne2_code : (b_code = H.n + 1 + 1) = False ∧ (b_code = H.n + 1 + 1 + 1) = False ∧ (b_code = H.n + 1 + 1 + 1 + 1) = False ∧ (b_code = H.n + 1 + 1 + 1 + 1 + 1) = False ∧ (b_code = H.n + 1 + 1 + 1 + 1 + 1 + 1) = False ∧ (b_code = H.n + 1 + 1 + 1 + 1 + 1 + 1 + 1) = False ∧ (b_code = H.n + 1 + 1 + 1 + 1 + 1 + 1 + 1 + 1) = False ∧ (b_code = H.n + 1 + 1 + 1 + 1 + 1 + 1 + 1 + 1 + 1) = False ∧ (b_code = H.n + 1 + 1 + 1 + 1 + 1 + 1 + 1 + 1 + 1 + 1) = False ∧ (b_code = H.n + 1 + 1 + 1 + 1 + 1 + 1 + 1 + 1 + 1 + 1 + 1) = False ∧ (b_code = H.n + 1 + 1 + 1 + 1 + 1 + 1 + 1 + 1 + 1 + 1 + 1 + 1) = False := ⟨eq_false (by omega), eq_false (by omega), eq_false (by omega), eq_false (by omega), eq_false (by omega), eq_false (by omega), eq_false (by omega), eq_false (by omega), eq_false (by omega), eq_false (by omega), eq_false (by omega)⟩
  have hmx_code : code.length ≤ 9223372036854775807 := by have h1 := (hwf b_code k_code hat_code.blk).2.2; have h2 := hat_code.len; omega
  by_cases hbig : 65536 < code.length
  · simp (config := {contextual := true, implicitDefEqProofs := false, maxSteps := 2000000}) [-Int.not_le, -Int.not_lt, argsF, laws_FnCensus_c, laws_FnCensus_t1, hat_code.blk, hat_code.esz, hat_code.len, hat_code.els, hne_code, hne1_code, hne2_code.1, hne2_code.2.1, hne2_code.2.2.1, hne2_code.2.2.2.1, hne2_code.2.2.2.2.1, hne2_code.2.2.2.2.2.1, hne2_code.2.2.2.2.2.2.1, hne2_code.2.2.2.2.2.2.2.1, hne2_code.2.2.2.2.2.2.2.2.1, hne2_code.2.2.2.2.2.2.2.2.2.1, hne2_code.2.2.2.2.2.2.2.2.2.2, Enc.decL_map, hbig]
    (refine Out.plain hwf ?_ rfl ?_; (repeat first | exact Sub.refl _ | refine Sub.push hwf ?_ _ | refine Sub.set hwf ?_ (by first | exact Nat.le_refl _ | omega | (simp only [push_n, set_n, kill_n]; omega)) _ | refine Sub.kill hwf ?_ (by first | exact Nat.le_refl _ | omega | (simp only [push_n, set_n, kill_n]; omega)))); exact h
  have hcl : code.length ≤ 65536 := by omega
  simp (config := {contextual := true, implicitDefEqProofs := false, maxSteps := 2000000}) [-Int.not_le, -Int.not_lt, argsF, laws_FnCensus_c, laws_FnCensus_t1, laws_FnCensus_t2, hat_code.blk, hat_code.esz, hat_code.len, hat_code.els, hne_code, hne1_code, hne2_code.1, hne2_code.2.1, hne2_code.2.2.1, hne2_code.2.2.2.1, hne2_code.2.2.2.2.1, hne2_code.2.2.2.2.2.1, hne2_code.2.2.2.2.2.2.1, hne2_code.2.2.2.2.2.2.2.1, hne2_code.2.2.2.2.2.2.2.2.1, hne2_code.2.2.2.2.2.2.2.2.2.1, hne2_code.2.2.2.2.2.2.2.2.2.2, Enc.decL_map, hbig, hcl]
  refine Stop.mk fun H2 b2 k2 ps a b hw2 hs2 hat2 hpl hsh => ?_
  have hqt : ∀ p ∈ ps, p.traits.length ≤ 1048576 := fun p hp => by have := (hsh p hp).1; omega
  have hbq := (hw2 _ _ hat2.blk).1
  have hbc := (hw2 _ _ (hs2.1.2 _ _ hat_code.blk)).1
  have op := hat2.on
  have lp := hat2.len
  simp only [Nat.zero_add, List.drop_zero] at lp op
  have sB := SubE.refl H2
  have sB2 := (SubE.refl H2).toRo
  have hcm := evOf_comm ps a b
  simp (config := {contextual := true, implicitDefEqProofs := false, maxSteps := 2000000}) [-Int.not_le, -Int.not_lt, argsF, laws_FnCensus_t2, laws_FnCensus_t3, laws_FnCensus_t4, laws_FnCensus_t5, laws_FnCensus_t6, laws_FnCensus_t7, hat2.blk, hat2.esz, op, lp, sB, sB2, hqt, hcm, ite_self]
  exact laws_FnCensus_p8 hwf hs2 hw2 hat_code h hat2 rfl rfl rfl hcl hqt hpl rfl

end Go.Proofs.Ytafenginfojcmaa
