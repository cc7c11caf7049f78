/- AddSighting: the walk of its law, its end. -/
import Derived.Test.YtnbjiigcldmgoaaSiLa
set_option maxRecDepth 8000
set_option linter.unusedSimpArgs false
set_option linter.unusedVariables false
namespace Go.Proofs.Ytnbjiigcldmgoaa
open Go Go.RowKit

set_option maxHeartbeats 100000000

def q_tAd : Con := fun args H K => match args with
  | [ps_v, .c (.int .i64 year), .c (.str town), traits_v] => eSi.rd H (fun ps => eI.rd H (fun traits => K (.c (.bool (true))) H) traits_v) ps_v
  | _ => False
@[simp ↓] theorem q_tAd_eq (ps_v : AV) (year : Int) (town : List UInt8) (traits_v : AV) (H : AHeap) (K : AV → AHeap → Prop) : q_tAd [ps_v, .c (.int .i64 year), .c (.str town), traits_v] H K = (eSi.rd H (fun ps => eI.rd H (fun traits => K (.c (.bool (true))) H) traits_v) ps_v) := rfl

theorem laws_FnExactAddSighting_s : Sound Try.prog 6 q_tAd := by
  intro args H K h
  unfold q_tAd at h
  split at h
  rotate_left
  all_goals first | exact False.elim h | skip
  rename_i ps_v year town traits_v
  have h1 := EncH.rd_at h
  clear h
  obtain ⟨b_ps, i_ps, k_ps, ps, rfl, hat_ps, h⟩ := h1
  have h1 := Enc.rd_at h
  clear h
  obtain ⟨b_traits, i_traits, k_traits, traits, rfl, hat_traits, h⟩ := h1
  have hE := soundE_cons laws_szSightingS_s (soundE_cons laws_toSightingS_s (soundE_cons laws_toIntS_s (soundE_cons laws_eqSightingS_s (soundE_cons laws_eqIntS_s (soundE_cons laws_markSightingS_s (soundE_cons laws_markIntS_s (soundE_cons laws_heldSightingS_s (soundE_cons impl_AddSighting_s (soundE_cons spec_AddSighting_s (soundE_nil (P := Try.prog)))))))))))
  refine acalls_fn laws_FnExactAddSighting_k hE ⟨by simp, fun hwf => ?_⟩
  have hsr : SubE H H := SubE.refl H
  have hsp : ∀ H' k, H.n ≤ H'.n → SubE H H' → SubE H (H'.push k) := fun H' k hn hs => SubE.push hwf hn hs k
  have hst : ∀ H', SubE H H' → SubE H H'.toRo := fun H' hs => hs.toRo
  have hss : ∀ H' i k, H.n ≤ i → SubE H H' → SubE H (H'.set i k) := fun H' i k hn hs => SubE.set hwf hn hs k
  have hsk : ∀ H' i, H.n ≤ i → SubE H H' → SubE H (H'.kill i) := fun H' i hn hs => SubE.kill hwf hn hs
  have hon_ps := hat_ps.on
  have hb_traits : b_traits < H.n := (hwf b_traits k_traits hat_traits.blk).1
  have hne_traits : (b_traits = H.n) = False := eq_false (by omega)
  have hne1_traits : ∀ i, (b_traits = H.n + i) = False := fun i => eq_false (by omega)
  have hne2_traits : (b_traits = H.n + 1 + 1) = False ∧ (b_traits = H.n + 1 + 1 + 1) = False ∧ (b_traits = H.n + 1 + 1 + 1 + 1) = False ∧ (b_traits = H.n + 1 + 1 + 1 + 1 + 1) = False ∧ (b_traits = H.n + 1 + 1 + 1 + 1 + 1 + 1) = False ∧ (b_traits = H.n + 1 + 1 + 1 + 1 + 1 + 1 + 1) = False ∧ (b_traits = H.n + 1 + 1 + 1 + 1 + 1 + 1 + 1 + 1) = False ∧ (b_traits = H.n + 1 + 1 + 1 + 1 + 1 + 1 + 1 + 1 + 1) = False ∧ (b_traits = H.n + 1 + 1 + 1 + 1 + 1 + 1 + 1 + 1 + 1 + 1) = False ∧ (b_traits = H.n + 1 + 1 + 1 + 1 + 1 + 1 + 1 + 1 + 1 + 1 + 1) = False ∧ (b_traits = H.n + 1 + 1 + 1 + 1 + 1 + 1 + 1 + 1 + 1 + 1 + 1 + 1) = False := ⟨eq_false (by omega), eq_false (by omega), eq_false (by omega), eq_false (by omega), eq_false (by omega), eq_false (by omega), eq_false (by omega), eq_false (by omega), eq_false (by omega), eq_false (by omega), eq_false (by omega)⟩
  have hmx_traits : traits.length ≤ 9223372036854775807 := by have h1 := (hwf b_traits k_traits hat_traits.blk).2.2; have h2 := hat_traits.len; omega
  have hb_ps : b_ps < H.n := (hwf b_ps k_ps hat_ps.blk).1
  have hne_ps : (b_ps = H.n) = False := eq_false (by omega)
  have hne1_ps : ∀ i, (b_ps = H.n + i) = False := fun i => eq_false (by omega)
  have hne2_ps : (b_ps = H.n + 1 + 1) = False ∧ (b_ps = H.n + 1 + 1 + 1) = False ∧ (b_ps = H.n + 1 + 1 + 1 + 1) = False ∧ (b_ps = H.n + 1 + 1 + 1 + 1 + 1) = False ∧ (b_ps = H.n + 1 + 1 + 1 + 1 + 1 + 1) = False ∧ (b_ps = H.n + 1 + 1 + 1 + 1 + 1 + 1 + 1) = False ∧ (b_ps = H.n + 1 + 1 + 1 + 1 + 1 + 1 + 1 + 1) = False ∧ (b_ps = H.n + 1 + 1 + 1 + 1 + 1 + 1 + 1 + 1 + 1) = False ∧ (b_ps = H.n + 1 + 1 + 1 + 1 + 1 + 1 + 1 + 1 + 1 + 1) = False ∧ (b_ps = H.n + 1 + 1 + 1 + 1 + 1 + 1 + 1 + 1 + 1 + 1 + 1) = False ∧ (b_ps = H.n + 1 + 1 + 1 + 1 + 1 + 1 + 1 + 1 + 1 + 1 + 1 + 1) = False := ⟨eq_false (by omega), eq_false (by omega), eq_false (by omega), eq_false (by omega), eq_false (by omega), eq_false (by omega), eq_false (by omega), eq_false (by omega), eq_false (by omega), eq_false (by omega), eq_false (by omega)⟩
  have hmx_ps : ps.length ≤ 9223372036854775807 := by have h1 := (hwf b_ps k_ps hat_ps.blk).2.2; have h2 := hat_ps.len; omega
  by_cases hc1 : (1048576 : Int) < (town.length : Int)
  · simp (config := {contextual := true, implicitDefEqProofs := false, maxSteps := 2000000}) [-Int.not_le, -Int.not_lt, argsF, laws_FnExactAddSighting_c, hat_ps.blk, hat_ps.esz, hat_ps.len, hon_ps, hne_ps, hne1_ps, hne2_ps.1, hne2_ps.2.1, hne2_ps.2.2.1, hne2_ps.2.2.2.1, hne2_ps.2.2.2.2.1, hne2_ps.2.2.2.2.2.1, hne2_ps.2.2.2.2.2.2.1, hne2_ps.2.2.2.2.2.2.2.1, hne2_ps.2.2.2.2.2.2.2.2.1, hne2_ps.2.2.2.2.2.2.2.2.2.1, hne2_ps.2.2.2.2.2.2.2.2.2.2, hsr, hsp, hst, hss, hsk, hc1]
    (refine Out.plain hwf ?_ rfl ?_; (repeat first | exact Sub.refl _ | refine Sub.push hwf ?_ _ | refine Sub.set hwf ?_ (by first | exact Nat.le_refl _ | omega) _ | refine Sub.kill hwf ?_ (by first | exact Nat.le_refl _ | omega))); exact h
  by_cases hc2 : (1048576 : Int) < (traits.length : Int)
  · simp (config := {contextual := true, implicitDefEqProofs := false, maxSteps := 2000000}) [-Int.not_le, -Int.not_lt, argsF, laws_FnExactAddSighting_c, hat_ps.blk, hat_ps.esz, hat_ps.len, hon_ps, hne_ps, hne1_ps, hne2_ps.1, hne2_ps.2.1, hne2_ps.2.2.1, hne2_ps.2.2.2.1, hne2_ps.2.2.2.2.1, hne2_ps.2.2.2.2.2.1, hne2_ps.2.2.2.2.2.2.1, hne2_ps.2.2.2.2.2.2.2.1, hne2_ps.2.2.2.2.2.2.2.2.1, hne2_ps.2.2.2.2.2.2.2.2.2.1, hne2_ps.2.2.2.2.2.2.2.2.2.2, hsr, hsp, hst, hss, hsk, hc1, hc2]
    (refine Out.plain hwf ?_ rfl ?_; (repeat first | exact Sub.refl _ | refine Sub.push hwf ?_ _ | refine Sub.set hwf ?_ (by first | exact Nat.le_refl _ | omega) _ | refine Sub.kill hwf ?_ (by first | exact Nat.le_refl _ | omega))); exact h
  by_cases hz : szSis ps 1048576 < 0
  · simp (config := {contextual := true, implicitDefEqProofs := false, maxSteps := 2000000}) [-Int.not_le, -Int.not_lt, argsF, laws_FnExactAddSighting_c, hat_ps.blk, hat_ps.esz, hat_ps.len, hon_ps, hne_ps, hne1_ps, hne2_ps.1, hne2_ps.2.1, hne2_ps.2.2.1, hne2_ps.2.2.2.1, hne2_ps.2.2.2.2.1, hne2_ps.2.2.2.2.2.1, hne2_ps.2.2.2.2.2.2.1, hne2_ps.2.2.2.2.2.2.2.1, hne2_ps.2.2.2.2.2.2.2.2.1, hne2_ps.2.2.2.2.2.2.2.2.2.1, hne2_ps.2.2.2.2.2.2.2.2.2.2, hsr, hsp, hst, hss, hsk, hc1, hc2, hz]
    (refine Out.plain hwf ?_ rfl ?_; (repeat first | exact Sub.refl _ | refine Sub.push hwf ?_ _ | refine Sub.set hwf ?_ (by first | exact Nat.le_refl _ | omega) _ | refine Sub.kill hwf ?_ (by first | exact Nat.le_refl _ | omega))); exact h
  obtain ⟨hl, hl2⟩ := szSis_ok (ps := ps) (by omega)
  have htot := szSis_tot (ps := ps) (by omega)
  have htw : town.length ≤ 9223372036854775807 := by omega
  have htr : traits.length ≤ 1048576 := by omega
  have htx : ∀ p ∈ ps, p.traits.length ≤ 1048576 ∧ p.town.length ≤ 9223372036854775807 := fun p hp => ⟨hl2 p hp, si_tx hat_ps p hp⟩
  obtain ⟨R, hR⟩ : ∃ R, adRes ps year town traits = R := ⟨_, rfl⟩
  have hRl := adRes_ok (y := year) htx htw htr
  rw [hR] at hRl
  obtain ⟨hRl, hRg⟩ := hRl
  have hRx : ∀ p ∈ R.1, p.town.length ≤ 9223372036854775807 := fun p hp => (hRg p hp).2
  simp (config := {contextual := true, implicitDefEqProofs := false, maxSteps := 2000000}) [-Int.not_le, -Int.not_lt, argsF, laws_FnExactAddSighting_c, hat_ps.blk, hat_ps.esz, hat_ps.len, hon_ps, hne_ps, hne1_ps, hne2_ps.1, hne2_ps.2.1, hne2_ps.2.2.1, hne2_ps.2.2.2.1, hne2_ps.2.2.2.2.1, hne2_ps.2.2.2.2.2.1, hne2_ps.2.2.2.2.2.2.1, hne2_ps.2.2.2.2.2.2.2.1, hne2_ps.2.2.2.2.2.2.2.2.1, hne2_ps.2.2.2.2.2.2.2.2.2.1, hne2_ps.2.2.2.2.2.2.2.2.2.2, hsr, hsp, hst, hss, hsk, hc1, hc2, hz, hl, hl2]
  refine Stop.mk fun H1 b1 hw1 hs1 hn1 => ?_
  refine Exists.elim hn1.at fun k1 hx1 => ?_
  have hat1 := hx1.1
  have hlen1 := hx1.2
  have hS1 : Sub H H1 := hs1
  have hon1 := hat1.on
  simp only [List.drop_zero] at hon1
  have hpt1 := hat_ps.sub hS1
  have hpo1 := hpt1.on
  have hr1 : SubE H1 H1 := SubE.refl _

  have hrp1 : ∀ k, SubE H1 (H1.push k) := fun k => SubE.push hw1 (Nat.le_refl _) (SubE.refl _) k
  have hrq1 : ∀ k, SubE H1 (H1.push k).toRo := fun k => (hrp1 k).toRo
  have hnH1 : H.n ≤ H1.n := hS1.1.1
  have qp1 : (b_ps = H1.n) = False := eq_false (by omega)
  have hbb1 : b1 < H1.n := (hw1 _ _ hat1.blk).1
  have qb1 : (b1 = H1.n) = False := eq_false (by omega)
  have tb_h1 : H1.b b_traits = some k_traits := (hS1).1.2 _ _ hat_traits.blk
  have tn_h1 : b_traits < H1.n := by have := (hS1).1.1; omega
  have tq_h1 : (b_traits = H1.n) = False := eq_false (by omega)
  have qx1 : (b1 = H1.n) = False := eq_false (by omega)
  simp (config := {contextual := true, implicitDefEqProofs := false, maxSteps := 2000000}) [-Int.not_le, -Int.not_lt, argsF, hat1.blk, hat1.esz, hlen1, hon1, hpt1.blk, hpt1.esz, hpt1.len, hpo1, hr1, SubE.toRo hr1, hrp1, hrq1, qp1, qb1, hl, hl2, htx, htw, htr, tb_h1, tq_h1, hat_traits.esz, hat_traits.len, hat_traits.els]
  refine Stop.mk fun HW bw csw hww hsw hrw hgw => ?_
  simp only [hR] at hrw
  have hsw1 : Sub H1 HW := (Sub.push hw1 (.refl _) _).trans hsw
  have hSW : Sub H HW := hS1.trans hsw1
  have pt_pw := hat_ps.sub hSW
  have pb_pw := pt_pw.blk
  have po_pw := pt_pw.on
  have pe_pw := pt_pw.esz
  have pl_pw := pt_pw.len
  have rr_pw := SubE.refl HW
  have rt_pw := (SubE.refl HW).toRo
  simp (config := {contextual := true, implicitDefEqProofs := false, maxSteps := 2000000}) [-Int.not_le, -Int.not_lt, argsF, pb_pw, po_pw, pe_pw, pl_pw, rr_pw, rt_pw, hl, hl2, hR]
  refine Stop.mk fun H2 b2 hw2 hs2 hn2 => ?_
  refine Exists.elim hn2.at fun k2 hx2 => ?_
  have hat2 := hx2.1
  have hlen2 := hx2.2
  have hS2 : Sub H H2 := hSW.trans hs2
  have hon2 := hat2.on
  simp only [List.drop_zero] at hon2
  have hpt2 := hat_ps.sub hS2
  have hpo2 := hpt2.on
  have hr2 : SubE H2 H2 := SubE.refl _

  have hrp2 : ∀ k, SubE H2 (H2.push k) := fun k => SubE.push hw2 (Nat.le_refl _) (SubE.refl _) k
  have hrq2 : ∀ k, SubE H2 (H2.push k).toRo := fun k => (hrp2 k).toRo
  have hnH2 : H.n ≤ H2.n := hS2.1.1
  have qp2 : (b_ps = H2.n) = False := eq_false (by omega)
  have hbb2 : b2 < H2.n := (hw2 _ _ hat2.blk).1
  have qb2 : (b2 = H2.n) = False := eq_false (by omega)
  have tb_h2 : H2.b b_traits = some k_traits := (hS2).1.2 _ _ hat_traits.blk
  have tn_h2 : b_traits < H2.n := by have := (hS2).1.1; omega
  have tq_h2 : (b_traits = H2.n) = False := eq_false (by omega)
  simp (config := {contextual := true, implicitDefEqProofs := false, maxSteps := 2000000}) [-Int.not_le, -Int.not_lt, argsF, hat2.blk, hat2.esz, hlen2, hon2, hpt2.blk, hpt2.esz, hpt2.len, hpo2, hr2, SubE.toRo hr2, hrp2, hrq2, qp2, qb2, tb_h2, tq_h2, hat_traits.esz, hat_traits.len, hat_traits.els, hl, hl2, htx, htw, htr, hR]
  refine Stop.mk fun HG bg csg hwg hsg hrg hgg => ?_
  simp only [hR] at hrg
  have hsg2 : Sub H2 HG := (Sub.push hw2 (.refl _) _).trans hsg
  have hSG : Sub H HG := hS2.trans hsg2
  have hbw := hrw.bnd hww
  have hbg := hrg.bnd hwg
  have hn2W := hs2.1.1
  have hnG2 : H2.n + 1 ≤ HG.n := hsg.1.1
  refine Exists.elim ((hrw.sub (hs2.trans hsg2)).at hRx) fun k_wa ax_wa => ?_
  have at_wa := ax_wa.1
  have bl_wa := at_wa.blk
  have es_wa := at_wa.esz
  have le_wa := at_wa.len
  have on_wa := at_wa.on
  simp only [Nat.zero_add, List.drop_zero, mksS_len] at le_wa on_wa
  have rr_wa := SubE.refl HG
  have rt_wa := (SubE.refl HG).toRo
  refine Exists.elim ((hrg).at hRx) fun k_ga ax_ga => ?_
  have at_ga := ax_ga.1
  have bl_ga := at_ga.blk
  have es_ga := at_ga.esz
  have le_ga := at_ga.len
  have on_ga := at_ga.on
  simp only [Nat.zero_add, List.drop_zero, mksS_len] at le_ga on_ga
  have rr_ga := SubE.refl HG
  have rt_ga := (SubE.refl HG).toRo
  have pt_pg := hat_ps.sub hSG
  have pb_pg := pt_pg.blk
  have po_pg := pt_pg.on
  have pe_pg := pt_pg.esz
  have pl_pg := pt_pg.len
  have rr_pg := SubE.refl HG
  have rt_pg := (SubE.refl HG).toRo
  simp (config := {contextual := true, implicitDefEqProofs := false, maxSteps := 2000000}) [-Int.not_le, -Int.not_lt, argsF, bl_wa, es_wa, le_wa, on_wa, rr_wa, rt_wa, bl_ga, es_ga, le_ga, on_ga, rr_ga, rt_ga, pb_pg, po_pg, pe_pg, pl_pg, rr_pg, rt_pg, hl, hl2, hR]
  refine Stop.mk fun H3 b3 hw3 hs3 hn3 => ?_
  refine Exists.elim hn3.at fun k3 hx3 => ?_
  have hat3 := hx3.1
  have hlen3 := hx3.2
  have hS3 : Sub H H3 := hSG.trans hs3
  have hon3 := hat3.on
  simp only [List.drop_zero] at hon3
  have hpt3 := hat_ps.sub hS3
  have hpo3 := hpt3.on
  have hr3 : SubE H3 H3 := SubE.refl _

  have hrp3 : ∀ k, SubE H3 (H3.push k) := fun k => SubE.push hw3 (Nat.le_refl _) (SubE.refl _) k
  have hrq3 : ∀ k, SubE H3 (H3.push k).toRo := fun k => (hrp3 k).toRo
  have hnH3 : H.n ≤ H3.n := hS3.1.1
  have qp3 : (b_ps = H3.n) = False := eq_false (by omega)
  have hbb3 : b3 < H3.n := (hw3 _ _ hat3.blk).1
  have qb3 : (b3 = H3.n) = False := eq_false (by omega)
  have tb_h3 : H3.b b_traits = some k_traits := (hS3).1.2 _ _ hat_traits.blk
  have tn_h3 : b_traits < H3.n := by have := (hS3).1.1; omega
  have tq_h3 : (b_traits = H3.n) = False := eq_false (by omega)
  have ha := hat2.sub (hsg2.trans hs3)
  have hb := ha.on
  simp only [List.drop_zero] at hb
  have x33 : H3.b H2.n = some (rowK eI 3 traits) := (hsg.trans hs3).1.2 _ _ (by simp [push_b])
  have hn3G := hs3.1.1
  have q23 : (H2.n = H3.n) = False := eq_false (by omega)
  simp (config := {contextual := true, implicitDefEqProofs := false, maxSteps := 2000000}) [-Int.not_le, -Int.not_lt, argsF, hat3.blk, hat3.esz, hlen3, hon3, hpt3.blk, hpt3.esz, hpt3.len, hpo3, hr3, SubE.toRo hr3, hrp3, hrq3, qp3, qb3, tb_h3, tq_h3, hat_traits.esz, hat_traits.len, hat_traits.els, ha.blk, ha.esz, hlen2, hb, x33, q23, htr, hR]
  refine Stop.mk ?_
  refine Exists.elim (hn2.rows hw2) fun cs hrx => ?_
  have hr0 := hrx.1
  have hbd := hrx.2
  have hend := endS_eq ps 1
  have hs3p := Sub.push hw3 (.refl H3) (rowK eI 3 traits)
  refine ⟨HW.n, H2.n, _, ps, rfl, rfl, hr0.sub ((hsg2.trans hs3).trans hs3p), hbd, hl, hl2, by omega, by omega, ?_⟩
  intro H4 hw4 hs4 hr4
  have x34 : H4.b H2.n = some (rowK eI 3 traits) := (hs4.out _ (.inr (Nat.le_refl _))).trans (hs3p.1.2 _ _ x33)
  have hnW := hSW.1.1
  have hS4 : Sub H H4 := hs4.sub (hS3.trans hs3p) hwf hnW
  have hrw4 := (hrw.sub (((hs2.trans hsg2).trans hs3).trans hs3p)).out hs4 fun c hc => .inl (hbw c hc)
  have hrg4 := (hrg.sub (hs3.trans hs3p)).out hs4 fun c hc => .inr (by have := hgg c hc; (try simp only [push_n] at this); omega)
  have hsM : SubOut H2.n (H2.n + 1) H4 (H4.set H2.n (rowK eI 3 (mksInt traits.length (endS ps 1)))) := ⟨rfl, rfl, fun c hc => by rw [set_b, if_neg (by omega)]⟩
  have hrw5 := hrw4.out hsM fun c hc => .inl (Nat.lt_of_lt_of_le (hbw c hc) hn2W)
  have hrg5 := hrg4.out hsM fun c hc => .inr (by have := hgg c hc; (try simp only [push_n] at this); omega)
  have hn2' := hS2.1.1
  have hS5 : Sub H (H4.set H2.n (rowK eI 3 (mksInt traits.length (endS ps 1)))) := Sub.set hwf hS4 hn2' _
  have k0 : 0 ≤ endS ps 1 := by omega
  have k1 : endS ps 1 ≤ 1099511627776 := by omega
  have k2 : ¬ (endS ps 1 + (traits.length : Int) < 0) := by omega
  have qw2 : (bw = H2.n) = False := eq_false (by have := hbw bw (by simp); omega)
  have qg2 : (bg = H2.n) = False := eq_false (by have := hgg bg (by simp); (try simp only [push_n] at this); omega)
  refine Exists.elim ((hrw5).at hRx) fun k_wb ax_wb => ?_
  have at_wb := ax_wb.1
  have bl_wb := at_wb.blk
  have es_wb := at_wb.esz
  have le_wb := at_wb.len
  have on_wb := at_wb.on
  simp only [Nat.zero_add, List.drop_zero, mksS_len] at le_wb on_wb
  have rr_wb := SubE.refl (H4.set H2.n (rowK eI 3 (mksInt traits.length (endS ps 1))))
  have rt_wb := (SubE.refl (H4.set H2.n (rowK eI 3 (mksInt traits.length (endS ps 1))))).toRo
  refine Exists.elim ((hrg5).at hRx) fun k_gb ax_gb => ?_
  have at_gb := ax_gb.1
  have bl_gb := at_gb.blk
  have es_gb := at_gb.esz
  have le_gb := at_gb.len
  have on_gb := at_gb.on
  simp only [Nat.zero_add, List.drop_zero, mksS_len] at le_gb on_gb
  have rr_gb := SubE.refl (H4.set H2.n (rowK eI 3 (mksInt traits.length (endS ps 1))))
  have rt_gb := (SubE.refl (H4.set H2.n (rowK eI 3 (mksInt traits.length (endS ps 1))))).toRo
  have bw4 := bl_wb
  have bg4 := bl_gb
  simp only [set_b, qw2, qg2, if_false] at bw4 bg4
  simp (config := {contextual := true, implicitDefEqProofs := false, maxSteps := 2000000}) [-Int.not_le, -Int.not_lt, argsF, x34, bl_wb, es_wb, le_wb, on_wb, rr_wb, rt_wb, bl_gb, es_gb, le_gb, on_gb, rr_gb, rt_gb, k0, k1, k2, qw2, qg2, bw4, bg4, htr, hR]
  refine Stop.mk ?_
  have hend2 := endS_eq R.1 1
  have htotR : siTot R.1 ≤ R.1.length * 8 := siTot_b fun p hp => (hRg p hp).1
  have hk3 : endS R.1 1 ≤ 1099511627000 := by omega
  have hen1 : ¬ (endS R.1 1 < 0) := by omega
  refine ⟨H2.n + 1, HG.n, csg, R.1, rfl, by first | rfl | rw [hR], hrg5, fun c hc => ⟨by have := hgg c hc; (try simp only [push_n] at this); omega, hbg c hc⟩, by omega, fun p hp => by have := (hRg p hp).1; omega, by omega, hk3, ?_⟩
  intro H5 hw5 hs5 hr5
  have hS6 : Sub H H5 := hs5.sub hS5 hwf (by omega)
  have hrw6 := hrw5.out hs5 fun c hc => .inl (by have := hbw c hc; omega)
  have hmx := mksS_tx R.1 1 (by omega) hk3
  have hml : ∀ p ∈ mksS R.1 1, p.traits.length ≤ 1048576 := mksS_in (fun p hp => by have := (hRg p hp).1; omega) _
  have hmm : heldS (mksS R.1 1) 1 = endS R.1 1 := heldS_mks _ _ (by omega)
  have hk9 : 1 + 1048579 * (R.1.length : Int) ≤ 1099511627000 := by omega
  have hmle := mksS_len R.1 1
  refine Exists.elim ((hr5).at hmx) fun k_gc ax_gc => ?_
  have at_gc := ax_gc.1
  have bl_gc := at_gc.blk
  have es_gc := at_gc.esz
  have le_gc := at_gc.len
  have on_gc := at_gc.on
  simp only [Nat.zero_add, List.drop_zero, mksS_len] at le_gc on_gc
  have rr_gc := SubE.refl H5
  have rt_gc := (SubE.refl H5).toRo
  have pt_p5 := hat_ps.sub hS6
  have pb_p5 := pt_p5.blk
  have po_p5 := pt_p5.on
  have pe_p5 := pt_p5.esz
  have pl_p5 := pt_p5.len
  have rr_p5 := SubE.refl H5
  have rt_p5 := (SubE.refl H5).toRo
  simp (config := {contextual := true, implicitDefEqProofs := false, maxSteps := 2000000}) [-Int.not_le, -Int.not_lt, argsF, bl_gc, es_gc, le_gc, on_gc, rr_gc, rt_gc, pb_p5, po_p5, pe_p5, pl_p5, rr_p5, rt_p5, hml, hmm, hk9, hmle, hen1, hl, hl2, hR]
  refine Stop.mk fun H6 b6 hw6 hs6 hn6 => ?_
  refine Exists.elim hn6.at fun k6 hx6 => ?_
  have hat6 := hx6.1
  have hlen6 := hx6.2
  have hS6b : Sub H H6 := hS6.trans hs6
  have hon6 := hat6.on
  simp only [List.drop_zero] at hon6
  have hpt6 := hat_ps.sub hS6b
  have hpo6 := hpt6.on
  have hr6 : SubE H6 H6 := SubE.refl _

  have hrp6 : ∀ k, SubE H6 (H6.push k) := fun k => SubE.push hw6 (Nat.le_refl _) (SubE.refl _) k
  have hrq6 : ∀ k, SubE H6 (H6.push k).toRo := fun k => (hrp6 k).toRo
  have hnH6 : H.n ≤ H6.n := hS6b.1.1
  have qp6 : (b_ps = H6.n) = False := eq_false (by omega)
  have hbb6 : b6 < H6.n := (hw6 _ _ hat6.blk).1
  have qb6 : (b6 = H6.n) = False := eq_false (by omega)
  have tb_h6 : H6.b b_traits = some k_traits := (hS6.trans hs6).1.2 _ _ hat_traits.blk
  have tn_h6 : b_traits < H6.n := by have := (hS6.trans hs6).1.1; omega
  have tq_h6 : (b_traits = H6.n) = False := eq_false (by omega)
  simp (config := {contextual := true, implicitDefEqProofs := false, maxSteps := 2000000}) [-Int.not_le, -Int.not_lt, argsF, hat6.blk, hat6.esz, hlen6, hon6, hpt6.blk, hpt6.esz, hpt6.len, hpo6, hr6, SubE.toRo hr6, hrp6, hrq6, qp6, qb6, tb_h6, tq_h6, hat_traits.esz, hat_traits.len, hat_traits.els, hl, hl2, htx, htw, htr, hR]
  refine Stop.mk fun HD bd csd hwd hsd hrd hgd => ?_
  simp only [hR] at hrd
  have hsd6 : Sub H6 HD := (Sub.push hw6 (.refl _) _).trans hsd
  refine Exists.elim ((hrw6.sub (hs6.trans hsd6)).at hRx) fun k_wd ax_wd => ?_
  have at_wd := ax_wd.1
  have bl_wd := at_wd.blk
  have es_wd := at_wd.esz
  have le_wd := at_wd.len
  have on_wd := at_wd.on
  simp only [Nat.zero_add, List.drop_zero, mksS_len] at le_wd on_wd
  have rr_wd := SubE.refl HD
  have rt_wd := (SubE.refl HD).toRo
  refine Exists.elim ((hr5.sub (hs6.trans hsd6)).at hmx) fun k_gd ax_gd => ?_
  have at_gd := ax_gd.1
  have bl_gd := at_gd.blk
  have es_gd := at_gd.esz
  have le_gd := at_gd.len
  have on_gd := at_gd.on
  simp only [Nat.zero_add, List.drop_zero, mksS_len] at le_gd on_gd
  have rr_gd := SubE.refl HD
  have rt_gd := (SubE.refl HD).toRo
  refine Exists.elim ((hrd).at hRx) fun k_dd ax_dd => ?_
  have at_dd := ax_dd.1
  have bl_dd := at_dd.blk
  have es_dd := at_dd.esz
  have le_dd := at_dd.len
  have on_dd := at_dd.on
  simp only [Nat.zero_add, List.drop_zero, mksS_len] at le_dd on_dd
  have rr_dd := SubE.refl HD
  have rt_dd := (SubE.refl HD).toRo
  simp (config := {contextual := true, implicitDefEqProofs := false, maxSteps := 2000000}) [-Int.not_le, -Int.not_lt, argsF, bl_wd, es_wd, le_wd, on_wd, rr_wd, rt_wd, bl_gd, es_gd, le_gd, on_gd, rr_gd, rt_gd, bl_dd, es_dd, le_dd, on_dd, rr_dd, rt_dd, hml, hmm, hk9, hmle, hen1, hR]
  refine Out.plain (hwf) ((hS6.trans hs6).trans hsd6) rfl h

end Go.Proofs.Ytnbjiigcldmgoaa
