/- DoubtfulPairs: the walk of its law. -/
import Derived.Test.YtafenginfojcmaaSiD2
set_option maxRecDepth 8000
set_option linter.unusedSimpArgs false
set_option linter.unusedVariables false
namespace Go.Proofs.Ytafenginfojcmaa
open Go Go.RowKit

set_option maxHeartbeats 40000000
theorem mksII_in {n : Nat} : ∀ {rows : List (List Int)} (_ : ∀ p ∈ rows, p.length ≤ n) (k : Int), ∀ p ∈ mksII rows k, p.length ≤ n
  | [], _, _, p, hp => by cases hp
  | g :: r, h, k, p, hp => by
    rcases List.mem_cons.1 hp with rfl | hp
    · rw [mksInt_len]; exact h g (by simp)
    · exact mksII_in (fun x hx => h x (by simp [hx])) _ p hp

def q_tDp : Con := fun args H K => match args with
  | [ps_v, .c (.int .i64 limit)] => eSi.rd H (fun ps => K (.c (.bool (true))) H) ps_v
  | _ => False
@[simp ↓] theorem q_tDp_eq (ps_v : AV) (limit : Int) (H : AHeap) (K : AV → AHeap → Prop) : q_tDp [ps_v, .c (.int .i64 limit)] H K = (eSi.rd H (fun ps => K (.c (.bool (true))) H) ps_v) := rfl

theorem laws_FnExactDoubtfulPairs_s : Sound Try.prog 4 q_tDp := by
  intro args H K h
  unfold q_tDp at h
  split at h
  rotate_left
  all_goals first | exact False.elim h | skip
  rename_i ps_v limit
  have h1 := EncH.rd_at h
  clear h
  obtain ⟨b_ps, i_ps, k_ps, ps, rfl, hat_ps, h⟩ := h1
  have hE := soundE_cons laws_szSightingS_s (soundE_cons laws_toSightingS_s (soundE_cons laws_eqSightingS_s (soundE_cons laws_eqIntSS_s (soundE_cons laws_markSightingS_s (soundE_cons laws_markIntSS_s (soundE_cons laws_heldIntSS_s (soundE_cons impl_DoubtfulPairs_s (soundE_cons spec_DoubtfulPairs_s (soundE_nil (P := Try.prog))))))))))
  refine acalls_fn laws_FnExactDoubtfulPairs_k hE ⟨by simp, fun hwf => ?_⟩
  have hsr : SubE H H := SubE.refl H
  have hsp : ∀ H' k, H.n ≤ H'.n → SubE H H' → SubE H (H'.push k) := fun H' k hn hs => SubE.push hwf hn hs k
  have hst : ∀ H', SubE H H' → SubE H H'.toRo := fun H' hs => hs.toRo
  have hss : ∀ H' i k, H.n ≤ i → SubE H H' → SubE H (H'.set i k) := fun H' i k hn hs => SubE.set hwf hn hs k
  have hsk : ∀ H' i, H.n ≤ i → SubE H H' → SubE H (H'.kill i) := fun H' i hn hs => SubE.kill hwf hn hs
  have hon_ps := hat_ps.on
  have hb_ps : b_ps < H.n := (hwf b_ps k_ps hat_ps.blk).1
  have hne_ps : (b_ps = H.n) = False := eq_false (by omega)
  have hne1_ps : ∀ i, (b_ps = H.n + i) = False := fun i => eq_false (by omega)
  have hne2_ps : (b_ps = H.n + 1 + 1) = False ∧ (b_ps = H.n + 1 + 1 + 1) = False ∧ (b_ps = H.n + 1 + 1 + 1 + 1) = False ∧ (b_ps = H.n + 1 + 1 + 1 + 1 + 1) = False ∧ (b_ps = H.n + 1 + 1 + 1 + 1 + 1 + 1) = False ∧ (b_ps = H.n + 1 + 1 + 1 + 1 + 1 + 1 + 1) = False ∧ (b_ps = H.n + 1 + 1 + 1 + 1 + 1 + 1 + 1 + 1) = False ∧ (b_ps = H.n + 1 + 1 + 1 + 1 + 1 + 1 + 1 + 1 + 1) = False ∧ (b_ps = H.n + 1 + 1 + 1 + 1 + 1 + 1 + 1 + 1 + 1 + 1) = False ∧ (b_ps = H.n + 1 + 1 + 1 + 1 + 1 + 1 + 1 + 1 + 1 + 1 + 1) = False ∧ (b_ps = H.n + 1 + 1 + 1 + 1 + 1 + 1 + 1 + 1 + 1 + 1 + 1 + 1) = False := ⟨eq_false (by omega), eq_false (by omega), eq_false (by omega), eq_false (by omega), eq_false (by omega), eq_false (by omega), eq_false (by omega), eq_false (by omega), eq_false (by omega), eq_false (by omega), eq_false (by omega)⟩
  have hmx_ps : ps.length ≤ 9223372036854775807 := by have h1 := (hwf b_ps k_ps hat_ps.blk).2.2; have h2 := hat_ps.len; omega
  by_cases hz : szSis ps 1048576 < 0
  · simp (config := {contextual := true, implicitDefEqProofs := false, maxSteps := 2000000}) [-Int.not_le, -Int.not_lt, argsF, laws_FnExactDoubtfulPairs_c, hat_ps.blk, hat_ps.esz, hat_ps.len, hon_ps, hne_ps, hne1_ps, hne2_ps.1, hne2_ps.2.1, hne2_ps.2.2.1, hne2_ps.2.2.2.1, hne2_ps.2.2.2.2.1, hne2_ps.2.2.2.2.2.1, hne2_ps.2.2.2.2.2.2.1, hne2_ps.2.2.2.2.2.2.2.1, hne2_ps.2.2.2.2.2.2.2.2.1, hne2_ps.2.2.2.2.2.2.2.2.2.1, hne2_ps.2.2.2.2.2.2.2.2.2.2, hsr, hsp, hst, hss, hsk, hz]
    (refine Out.plain hwf ?_ rfl ?_; (repeat first | exact Sub.refl _ | refine Sub.push hwf ?_ _ | refine Sub.set hwf ?_ (by first | exact Nat.le_refl _ | omega | (simp only [push_n, set_n, kill_n]; omega)) _ | refine Sub.kill hwf ?_ (by first | exact Nat.le_refl _ | omega | (simp only [push_n, set_n, kill_n]; omega)))); exact h
  obtain ⟨hl, hl2⟩ := szSis_ok (ps := ps) (by omega)
  have htot := szSis_tot (ps := ps) (by omega)
  obtain ⟨R, hR⟩ : ∃ R, dpRes ps limit = R := ⟨_, rfl⟩
  have hRl : R.1.length ≤ 1000 ∧ ∀ g ∈ R.1, g.length ≤ 1000 := by rw [← hR]; exact ⟨Nat.le_trans (dpRes_len _ _).1 (by decide), fun g hg => Nat.le_trans ((dpRes_len _ _).2 g hg) (by decide)⟩
  obtain ⟨hRl, hRg⟩ := hRl
  simp (config := {contextual := true, implicitDefEqProofs := false, maxSteps := 2000000}) [-Int.not_le, -Int.not_lt, argsF, laws_FnExactDoubtfulPairs_c, hat_ps.blk, hat_ps.esz, hat_ps.len, hon_ps, hne_ps, hne1_ps, hne2_ps.1, hne2_ps.2.1, hne2_ps.2.2.1, hne2_ps.2.2.2.1, hne2_ps.2.2.2.2.1, hne2_ps.2.2.2.2.2.1, hne2_ps.2.2.2.2.2.2.1, hne2_ps.2.2.2.2.2.2.2.1, hne2_ps.2.2.2.2.2.2.2.2.1, hne2_ps.2.2.2.2.2.2.2.2.2.1, hne2_ps.2.2.2.2.2.2.2.2.2.2, hsr, hsp, hst, hss, hsk, hz, hl, hl2]
  refine Stop.mk fun H1 b1 hw1 hs1 hn1 => ?_
  refine Exists.elim hn1.at fun k1 hx1 => ?_
  have hat1 := hx1.1
  have hlen1 := hx1.2
  have hS1 : Sub H H1 := hs1
  have hon1 := hat1.on
  simp only [List.drop_zero] at hon1
  have hpt1 := hat_ps.sub hS1
  have hpo1 := hpt1.on
  have hr1 : SubE H1 H1 := SubE.refl _

  have hrp1 : ∀ k, SubE H1 (H1.push k) := fun k => SubE.push hw1 (Nat.le_refl _) (SubE.refl _) k
  have hrq1 : ∀ k, SubE H1 (H1.push k).toRo := fun k => (hrp1 k).toRo
  have hnH1 : H.n ≤ H1.n := hS1.1.1
  have qp1 : (b_ps = H1.n) = False := eq_false (by omega)
  have hbb1 : b1 < H1.n := (hw1 _ _ hat1.blk).1
  have qb1 : (b1 = H1.n) = False := eq_false (by omega)
  simp (config := {contextual := true, implicitDefEqProofs := false, maxSteps := 2000000}) [-Int.not_le, -Int.not_lt, argsF, hat1.blk, hat1.esz, hlen1, hon1, hpt1.blk, hpt1.esz, hpt1.len, hpo1, hr1, SubE.toRo hr1, hrp1, hrq1, qp1, qb1, hl, hl2, hR]
  refine Stop.mk fun HW bw csw hww hsw hrw hgw => ?_
  simp only [hR] at hrw
  have hSW : Sub H HW := hS1.trans hsw
  have pt_pw := hat_ps.sub hSW
  have pb_pw := pt_pw.blk
  have po_pw := pt_pw.on
  have pe_pw := pt_pw.esz
  have pl_pw := pt_pw.len
  have rr_pw := SubE.refl HW
  have rt_pw := (SubE.refl HW).toRo
  simp (config := {contextual := true, implicitDefEqProofs := false, maxSteps := 2000000}) [-Int.not_le, -Int.not_lt, argsF, pb_pw, po_pw, pe_pw, pl_pw, rr_pw, rt_pw, hl, hl2, hR]
  refine Stop.mk fun H2 b2 hw2 hs2 hn2 => ?_
  refine Exists.elim hn2.at fun k2 hx2 => ?_
  have hat2 := hx2.1
  have hlen2 := hx2.2
  have hS2 : Sub H H2 := hSW.trans hs2
  have hon2 := hat2.on
  simp only [List.drop_zero] at hon2
  have hpt2 := hat_ps.sub hS2
  have hpo2 := hpt2.on
  have hr2 : SubE H2 H2 := SubE.refl _

  have hrp2 : ∀ k, SubE H2 (H2.push k) := fun k => SubE.push hw2 (Nat.le_refl _) (SubE.refl _) k
  have hrq2 : ∀ k, SubE H2 (H2.push k).toRo := fun k => (hrp2 k).toRo
  have hnH2 : H.n ≤ H2.n := hS2.1.1
  have qp2 : (b_ps = H2.n) = False := eq_false (by omega)
  have hbb2 : b2 < H2.n := (hw2 _ _ hat2.blk).1
  have qb2 : (b2 = H2.n) = False := eq_false (by omega)
  simp (config := {contextual := true, implicitDefEqProofs := false, maxSteps := 2000000}) [-Int.not_le, -Int.not_lt, argsF, hat2.blk, hat2.esz, hlen2, hon2, hpt2.blk, hpt2.esz, hpt2.len, hpo2, hr2, SubE.toRo hr2, hrp2, hrq2, qp2, qb2, hl, hl2, hR]
  refine Stop.mk fun HG bg csg hwg hsg hrg hgg => ?_
  simp only [hR] at hrg
  have hSG : Sub H HG := hS2.trans hsg
  have ax_wa : ∃ k, eII.At HG _ 0 k _ := ⟨_, (hrw.sub (hs2.trans hsg)).at⟩
  refine Exists.elim ax_wa fun k_wa at_wa => ?_
  have bl_wa := at_wa.blk
  have es_wa := at_wa.esz
  have le_wa := at_wa.len
  have on_wa := at_wa.on
  simp only [Nat.zero_add, List.drop_zero, mksII_len] at le_wa on_wa
  have rr_wa := SubE.refl HG
  have rt_wa := (SubE.refl HG).toRo
  have ax_ga : ∃ k, eII.At HG _ 0 k _ := ⟨_, (hrg).at⟩
  refine Exists.elim ax_ga fun k_ga at_ga => ?_
  have bl_ga := at_ga.blk
  have es_ga := at_ga.esz
  have le_ga := at_ga.len
  have on_ga := at_ga.on
  simp only [Nat.zero_add, List.drop_zero, mksII_len] at le_ga on_ga
  have rr_ga := SubE.refl HG
  have rt_ga := (SubE.refl HG).toRo
  have pt_pg := hat_ps.sub hSG
  have pb_pg := pt_pg.blk
  have po_pg := pt_pg.on
  have pe_pg := pt_pg.esz
  have pl_pg := pt_pg.len
  have rr_pg := SubE.refl HG
  have rt_pg := (SubE.refl HG).toRo
  simp (config := {contextual := true, implicitDefEqProofs := false, maxSteps := 2000000}) [-Int.not_le, -Int.not_lt, argsF, bl_wa, es_wa, le_wa, on_wa, rr_wa, rt_wa, bl_ga, es_ga, le_ga, on_ga, rr_ga, rt_ga, pb_pg, po_pg, pe_pg, pl_pg, rr_pg, rt_pg, hl, hl2, hR]
  refine Stop.mk fun H3 b3 hw3 hs3 hn3 => ?_
  refine Exists.elim hn3.at fun k3 hx3 => ?_
  have hat3 := hx3.1
  have hlen3 := hx3.2
  have hS3 : Sub H H3 := hSG.trans hs3
  have hon3 := hat3.on
  simp only [List.drop_zero] at hon3
  have hpt3 := hat_ps.sub hS3
  have hpo3 := hpt3.on
  have hr3 : SubE H3 H3 := SubE.refl _

  have hrp3 : ∀ k, SubE H3 (H3.push k) := fun k => SubE.push hw3 (Nat.le_refl _) (SubE.refl _) k
  have hrq3 : ∀ k, SubE H3 (H3.push k).toRo := fun k => (hrp3 k).toRo
  have hnH3 : H.n ≤ H3.n := hS3.1.1
  have qp3 : (b_ps = H3.n) = False := eq_false (by omega)
  have hbb3 : b3 < H3.n := (hw3 _ _ hat3.blk).1
  have qb3 : (b3 = H3.n) = False := eq_false (by omega)
  have ha := hat2.sub (hsg.trans hs3)
  have hb := ha.on
  simp only [List.drop_zero] at hb
  simp (config := {contextual := true, implicitDefEqProofs := false, maxSteps := 2000000}) [-Int.not_le, -Int.not_lt, argsF, hat3.blk, hat3.esz, hlen3, hon3, hpt3.blk, hpt3.esz, hpt3.len, hpo3, hr3, SubE.toRo hr3, hrp3, hrq3, qp3, qb3, ha.blk, ha.esz, hlen2, hb, hR]
  refine Stop.mk ?_
  refine Exists.elim (hn2.rows hw2) fun cs hrx => ?_
  have hr0 := hrx.1
  have hbd := hrx.2
  have hend := endS_eq ps 1
  refine ⟨HW.n, H2.n, _, ps, rfl, rfl, hr0.sub (hsg.trans hs3), hbd, hl, hl2, by omega, by omega, ?_⟩
  intro H4 hw4 hs4 hr4
  have hnW := hSW.1.1
  have hS4 : Sub H H4 := hs4.sub hS3 hwf hnW
  have hbw := hrw.bnd hww
  have hbg := hrg.bnd hwg
  have hn2W := hs2.1.1
  have hrw4 := (hrw.sub ((hs2.trans hsg).trans hs3)).out hs4 fun c hc => .inl (hbw c hc)
  have hrg4 := (hrg.sub hs3).out hs4 fun c hc => .inr (hgg c hc)
  have ax_wb : ∃ k, eII.At H4 _ 0 k _ := ⟨_, (hrw4).at⟩
  refine Exists.elim ax_wb fun k_wb at_wb => ?_
  have bl_wb := at_wb.blk
  have es_wb := at_wb.esz
  have le_wb := at_wb.len
  have on_wb := at_wb.on
  simp only [Nat.zero_add, List.drop_zero, mksII_len] at le_wb on_wb
  have rr_wb := SubE.refl H4
  have rt_wb := (SubE.refl H4).toRo
  have ax_gb : ∃ k, eII.At H4 _ 0 k _ := ⟨_, (hrg4).at⟩
  refine Exists.elim ax_gb fun k_gb at_gb => ?_
  have bl_gb := at_gb.blk
  have es_gb := at_gb.esz
  have le_gb := at_gb.len
  have on_gb := at_gb.on
  simp only [Nat.zero_add, List.drop_zero, mksII_len] at le_gb on_gb
  have rr_gb := SubE.refl H4
  have rt_gb := (SubE.refl H4).toRo
  have hen0 : ¬ (endS ps 1 < 0) := by omega
  simp (config := {contextual := true, implicitDefEqProofs := false, maxSteps := 2000000}) [-Int.not_le, -Int.not_lt, argsF, bl_wb, es_wb, le_wb, on_wb, rr_wb, rt_wb, bl_gb, es_gb, le_gb, on_gb, rr_gb, rt_gb, hen0, hR]
  refine Stop.mk ?_
  have hend2 := endII_eq R.1 1
  have hsum := sum_le hRg
  have hsum2 : R.1.length * 1000 ≤ 1000000 := by omega
  have hen1 : ¬ (endII R.1 1 < 0) := by omega
  refine ⟨H2.n, HG.n, csg, R.1, rfl, by first | rfl | rw [hR], hrg4, fun c hc => ⟨hgg c hc, hbg c hc⟩, by omega, fun p hp => by have := hRg p hp; omega, by omega, by omega, ?_⟩
  intro H5 hw5 hs5 hr5
  have hn2' := hS2.1.1
  have hS5 : Sub H H5 := hs5.sub hS4 hwf hn2'
  have hrw5 := hrw4.out hs5 fun c hc => .inl (Nat.lt_of_lt_of_le (hbw c hc) hn2W)
  have ax_gc : ∃ k, eII.At H5 _ 0 k _ := ⟨_, (hr5).at⟩
  refine Exists.elim ax_gc fun k_gc at_gc => ?_
  have bl_gc := at_gc.blk
  have es_gc := at_gc.esz
  have le_gc := at_gc.len
  have on_gc := at_gc.on
  simp only [Nat.zero_add, List.drop_zero, mksII_len] at le_gc on_gc
  have rr_gc := SubE.refl H5
  have rt_gc := (SubE.refl H5).toRo
  have pt_p5 := hat_ps.sub hS5
  have pb_p5 := pt_p5.blk
  have po_p5 := pt_p5.on
  have pe_p5 := pt_p5.esz
  have pl_p5 := pt_p5.len
  have rr_p5 := SubE.refl H5
  have rt_p5 := (SubE.refl H5).toRo
  have hml : ∀ p ∈ mksII R.1 1, p.length ≤ 1048576 := mksII_in (fun p hp => by have := hRg p hp; omega) _
  have hmm : heldII (mksII R.1 1) 1 = endII R.1 1 := heldII_mks _ _ (by omega)
  have hk9 : 1 + 1048576 * (R.1.length : Int) ≤ 1099511627776 := by omega
  have hmle := mksII_len R.1 1
  simp (config := {contextual := true, implicitDefEqProofs := false, maxSteps := 2000000}) [-Int.not_le, -Int.not_lt, argsF, bl_gc, es_gc, le_gc, on_gc, rr_gc, rt_gc, pb_p5, po_p5, pe_p5, pl_p5, rr_p5, rt_p5, hml, hmm, hk9, hmle, hen1, hl, hl2, hR]
  refine Stop.mk fun H6 b6 hw6 hs6 hn6 => ?_
  refine Exists.elim hn6.at fun k6 hx6 => ?_
  have hat6 := hx6.1
  have hlen6 := hx6.2
  have hS6 : Sub H H6 := hS5.trans hs6
  have hon6 := hat6.on
  simp only [List.drop_zero] at hon6
  have hpt6 := hat_ps.sub hS6
  have hpo6 := hpt6.on
  have hr6 : SubE H6 H6 := SubE.refl _

  have hrp6 : ∀ k, SubE H6 (H6.push k) := fun k => SubE.push hw6 (Nat.le_refl _) (SubE.refl _) k
  have hrq6 : ∀ k, SubE H6 (H6.push k).toRo := fun k => (hrp6 k).toRo
  have hnH6 : H.n ≤ H6.n := hS6.1.1
  have qp6 : (b_ps = H6.n) = False := eq_false (by omega)
  have hbb6 : b6 < H6.n := (hw6 _ _ hat6.blk).1
  have qb6 : (b6 = H6.n) = False := eq_false (by omega)
  simp (config := {contextual := true, implicitDefEqProofs := false, maxSteps := 2000000}) [-Int.not_le, -Int.not_lt, argsF, hat6.blk, hat6.esz, hlen6, hon6, hpt6.blk, hpt6.esz, hpt6.len, hpo6, hr6, SubE.toRo hr6, hrp6, hrq6, qp6, qb6, hl, hl2, hR]
  refine Stop.mk fun HD bd csd hwd hsd hrd hgd => ?_
  simp only [hR] at hrd
  have ax_wd : ∃ k, eII.At HD _ 0 k _ := ⟨_, (hrw5.sub (hs6.trans hsd)).at⟩
  refine Exists.elim ax_wd fun k_wd at_wd => ?_
  have bl_wd := at_wd.blk
  have es_wd := at_wd.esz
  have le_wd := at_wd.len
  have on_wd := at_wd.on
  simp only [Nat.zero_add, List.drop_zero, mksII_len] at le_wd on_wd
  have rr_wd := SubE.refl HD
  have rt_wd := (SubE.refl HD).toRo
  have ax_gd : ∃ k, eII.At HD _ 0 k _ := ⟨_, (hr5.sub (hs6.trans hsd)).at⟩
  refine Exists.elim ax_gd fun k_gd at_gd => ?_
  have bl_gd := at_gd.blk
  have es_gd := at_gd.esz
  have le_gd := at_gd.len
  have on_gd := at_gd.on
  simp only [Nat.zero_add, List.drop_zero, mksII_len] at le_gd on_gd
  have rr_gd := SubE.refl HD
  have rt_gd := (SubE.refl HD).toRo
  have ax_dd : ∃ k, eII.At HD _ 0 k _ := ⟨_, (hrd).at⟩
  refine Exists.elim ax_dd fun k_dd at_dd => ?_
  have bl_dd := at_dd.blk
  have es_dd := at_dd.esz
  have le_dd := at_dd.len
  have on_dd := at_dd.on
  simp only [Nat.zero_add, List.drop_zero, mksII_len] at le_dd on_dd
  have rr_dd := SubE.refl HD
  have rt_dd := (SubE.refl HD).toRo
  simp (config := {contextual := true, implicitDefEqProofs := false, maxSteps := 2000000}) [-Int.not_le, -Int.not_lt, argsF, bl_wd, es_wd, le_wd, on_wd, rr_wd, rt_wd, bl_gd, es_gd, le_gd, on_gd, rr_gd, rt_gd, bl_dd, es_dd, le_dd, on_dd, rr_dd, rt_dd, hml, hmm, hk9, hmle, hen1, hR]
  refine Out.plain (hwf) ((hS5.trans hs6).trans hsd) rfl h

end Go.Proofs.Ytafenginfojcmaa
