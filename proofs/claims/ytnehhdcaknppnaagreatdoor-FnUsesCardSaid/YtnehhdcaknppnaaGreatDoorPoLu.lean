/- The law on uses: its walk. -/
import Derived.Test.YtnehhdcaknppnaaGreatDoorPoDv
import Derived.Test.YtnehhdcaknppnaaGreatDoorPoPu
import Derived.Test.YtnehhdcaknppnaaGreatDoorPoTx
set_option maxRecDepth 8000
set_option linter.unusedSimpArgs false
set_option linter.unusedVariables false
namespace Go.Proofs.YtnehhdcaknppnaaGreatDoor
open Go Go.RowKit

set_option maxHeartbeats 4000000

def q_tFnUses : Con := fun args H K => match args with
  | [code_v] => eU.rd H (fun code => (∀ w, H.I w → tabI w) ∧ K (.c (.bool (true))) H) code_v
  | _ => False
@[simp ↓] theorem q_tFnUses_eq (code_v : AV) (H : AHeap) (K : AV → AHeap → Prop) : q_tFnUses [code_v] H K = (eU.rd H (fun code => (∀ w, H.I w → tabI w) ∧ K (.c (.bool (true))) H) code_v) := rfl

theorem laws_FnUses_s : Sound Tryz.prog 3 q_tFnUses := by
  intro args H K h
  unfold q_tFnUses at h
  split at h
  rotate_left
  all_goals first | exact False.elim h | skip
  rename_i code_v
  have h1 := Enc.rd_at h
  clear h
  obtain ⟨b_code, i_code, k_code, code, rfl, hat_code, h⟩ := h1
  have hE := soundE_cons laws_rBig_s (soundE_cons spec_DrawExtendUse_s (soundE_cons impl_ExtendUse_s (soundE_cons spec_ExtendUse_s (soundE_cons laws_rMarks_s (soundE_cons impl_TownsOn_s (soundE_cons laws_rHasText_s (soundE_cons spec_DrawGapBetween_s (soundE_cons impl_GapBetween_s (soundE_cons spec_GapBetween_s (soundE_cons spec_DrawTownsOn_s (soundE_cons spec_TownsOn_s (soundE_cons laws_rTexts_s (soundE_cons spec_DrawPostmarkText_s (soundE_cons impl_PostmarkText_s (soundE_cons spec_PostmarkText_s (soundE_nil (P := Tryz.prog)))))))))))))))))
  refine acalls_fn laws_FnUses_k hE ⟨by simp, fun hwf => ?_⟩
  have hb_code : b_code < H.n := (hwf b_code k_code hat_code.blk).1
  have hne_code : (b_code = H.n) = False := eq_false (by omega)
  have hne1_code : ∀ i, (b_code = H.n + i) = False := fun i => eq_false (by omega)
  have hne2_code : (b_code = H.n + 1 + 1) = False ∧ (b_code = H.n + 1 + 1 + 1) = False ∧ (b_code = H.n + 1 + 1 + 1 + 1) = False ∧ (b_code = H.n + 1 + 1 + 1 + 1 + 1) = False ∧ (b_code = H.n + 1 + 1 + 1 + 1 + 1 + 1) = False ∧ (b_code = H.n + 1 + 1 + 1 + 1 + 1 + 1 + 1) = False ∧ (b_code = H.n + 1 + 1 + 1 + 1 + 1 + 1 + 1 + 1) = False ∧ (b_code = H.n + 1 + 1 + 1 + 1 + 1 + 1 + 1 + 1 + 1) = False ∧ (b_code = H.n + 1 + 1 + 1 + 1 + 1 + 1 + 1 + 1 + 1 + 1) = False ∧ (b_code = H.n + 1 + 1 + 1 + 1 + 1 + 1 + 1 + 1 + 1 + 1 + 1) = False ∧ (b_code = H.n + 1 + 1 + 1 + 1 + 1 + 1 + 1 + 1 + 1 + 1 + 1 + 1) = False := ⟨eq_false (by omega), eq_false (by omega), eq_false (by omega), eq_false (by omega), eq_false (by omega), eq_false (by omega), eq_false (by omega), eq_false (by omega), eq_false (by omega), eq_false (by omega), eq_false (by omega)⟩
  have hmx_code : code.length ≤ 9223372036854775807 := by have h1 := (hwf b_code k_code hat_code.blk).2.2; have h2 := hat_code.len; omega
  obtain ⟨hI, h⟩ := h
  by_cases hbig : 65536 < code.length
  · simp (config := {contextual := true, implicitDefEqProofs := false, maxSteps := 2000000}) [-Int.not_le, -Int.not_lt, argsF, laws_FnUses_c, hat_code.blk, hat_code.esz, hat_code.len, hat_code.els, hne_code, hne1_code, hne2_code.1, hne2_code.2.1, hne2_code.2.2.1, hne2_code.2.2.2.1, hne2_code.2.2.2.2.1, hne2_code.2.2.2.2.2.1, hne2_code.2.2.2.2.2.2.1, hne2_code.2.2.2.2.2.2.2.1, hne2_code.2.2.2.2.2.2.2.2.1, hne2_code.2.2.2.2.2.2.2.2.2.1, hne2_code.2.2.2.2.2.2.2.2.2.2, Enc.decL_map, hbig]
    (refine Out.plain hwf ?_ rfl ?_; (repeat first | exact Sub.refl _ | refine Sub.push hwf ?_ _ | refine Sub.set hwf ?_ (by first | exact Nat.le_refl _ | omega) _ | refine Sub.kill hwf ?_ (by first | exact Nat.le_refl _ | omega))); exact h
  have hcl : code.length ≤ 65536 := by omega
  simp (config := {contextual := true, implicitDefEqProofs := false, maxSteps := 2000000}) [-Int.not_le, -Int.not_lt, argsF, laws_FnUses_c, hat_code.blk, hat_code.esz, hat_code.len, hat_code.els, hne_code, hne1_code, hne2_code.1, hne2_code.2.1, hne2_code.2.2.1, hne2_code.2.2.2.1, hne2_code.2.2.2.2.1, hne2_code.2.2.2.2.2.1, hne2_code.2.2.2.2.2.2.1, hne2_code.2.2.2.2.2.2.2.1, hne2_code.2.2.2.2.2.2.2.2.1, hne2_code.2.2.2.2.2.2.2.2.2.1, hne2_code.2.2.2.2.2.2.2.2.2.2, Enc.decL_map, hbig, hcl]
  refine Stop.mk fun ps i d hps hpl => ?_
  have hpx : ∀ p ∈ ps, txP p := fun p hp => shP_tx (hps p hp)
  have hpl2 : ps.length ≤ 1048576 := by omega
  by_cases hE0 : (euRes ps i d).2.2 = true
  rotate_left
  · simp (config := {contextual := true, implicitDefEqProofs := false, maxSteps := 2000000}) [-Int.not_le, -Int.not_lt, argsF, laws_FnUses_c, hat_code.blk, hat_code.esz, hat_code.len, hat_code.els, hne_code, hne1_code, hne2_code.1, hne2_code.2.1, hne2_code.2.2.1, hne2_code.2.2.2.1, hne2_code.2.2.2.2.1, hne2_code.2.2.2.2.2.1, hne2_code.2.2.2.2.2.2.1, hne2_code.2.2.2.2.2.2.2.1, hne2_code.2.2.2.2.2.2.2.2.1, hne2_code.2.2.2.2.2.2.2.2.2.1, hne2_code.2.2.2.2.2.2.2.2.2.2, rowK, Enc.decL_map, hpx, hpl2, hcl, hE0]
    refine Stop.mk fun qs t hqs hql ht => ?_
    have hqx : ∀ p ∈ qs, txP p := fun p hp => shP_tx (hqs p hp)
    have ht6 : t.length ≤ 9223372036854775806 := by omega
    by_cases hg : (gapRes qs t).2 = true
    rotate_left
    · simp (config := {contextual := true, implicitDefEqProofs := false, maxSteps := 2000000}) [-Int.not_le, -Int.not_lt, argsF, laws_FnUses_c, hat_code.blk, hat_code.esz, hat_code.len, hat_code.els, hne_code, hne1_code, hne2_code.1, hne2_code.2.1, hne2_code.2.2.1, hne2_code.2.2.2.1, hne2_code.2.2.2.2.1, hne2_code.2.2.2.2.2.1, hne2_code.2.2.2.2.2.2.1, hne2_code.2.2.2.2.2.2.2.1, hne2_code.2.2.2.2.2.2.2.2.1, hne2_code.2.2.2.2.2.2.2.2.2.1, hne2_code.2.2.2.2.2.2.2.2.2.2, rowK, Enc.decL_map, hqx, ht6, hcl, hg]
      refine Stop.mk fun us du hus hul => ?_
      have hux : ∀ p ∈ us, txP p := fun p hp => shP_tx (hus p hp)
      simp (config := {contextual := true, implicitDefEqProofs := false, maxSteps := 2000000}) [-Int.not_le, -Int.not_lt, argsF, laws_FnUses_c, hat_code.blk, hat_code.esz, hat_code.len, hat_code.els, hne_code, hne1_code, hne2_code.1, hne2_code.2.1, hne2_code.2.2.1, hne2_code.2.2.2.1, hne2_code.2.2.2.2.1, hne2_code.2.2.2.2.2.1, hne2_code.2.2.2.2.2.2.1, hne2_code.2.2.2.2.2.2.2.1, hne2_code.2.2.2.2.2.2.2.2.1, hne2_code.2.2.2.2.2.2.2.2.2.1, hne2_code.2.2.2.2.2.2.2.2.2.2, rowK, Enc.decL_map, hux, hcl, ite_self]
      refine Stop.mk fun p hp => ?_
      have hpx2 : txP p := shP_tx hp
      simp (config := {contextual := true, implicitDefEqProofs := false, maxSteps := 2000000}) [-Int.not_le, -Int.not_lt, argsF, laws_FnUses_c, hat_code.blk, hat_code.esz, hat_code.len, hat_code.els, hne_code, hne1_code, hne2_code.1, hne2_code.2.1, hne2_code.2.2.1, hne2_code.2.2.2.1, hne2_code.2.2.2.2.1, hne2_code.2.2.2.2.2.1, hne2_code.2.2.2.2.2.2.1, hne2_code.2.2.2.2.2.2.2.1, hne2_code.2.2.2.2.2.2.2.2.1, hne2_code.2.2.2.2.2.2.2.2.2.1, hne2_code.2.2.2.2.2.2.2.2.2.2, rowK, Enc.decL_map, hpx2, hI, ite_self]
      (refine Out.plain hwf ?_ rfl ?_; (repeat first | exact Sub.refl _ | refine Sub.push hwf ?_ _ | refine Sub.set hwf ?_ (by first | exact Nat.le_refl _ | omega) _ | refine Sub.kill hwf ?_ (by first | exact Nat.le_refl _ | omega))); exact h
    · simp (config := {contextual := true, implicitDefEqProofs := false, maxSteps := 2000000}) [-Int.not_le, -Int.not_lt, argsF, laws_FnUses_c, hat_code.blk, hat_code.esz, hat_code.len, hat_code.els, hne_code, hne1_code, hne2_code.1, hne2_code.2.1, hne2_code.2.2.1, hne2_code.2.2.2.1, hne2_code.2.2.2.2.1, hne2_code.2.2.2.2.2.1, hne2_code.2.2.2.2.2.2.1, hne2_code.2.2.2.2.2.2.2.1, hne2_code.2.2.2.2.2.2.2.2.1, hne2_code.2.2.2.2.2.2.2.2.2.1, hne2_code.2.2.2.2.2.2.2.2.2.2, rowK, Enc.decL_map, hqx, ht6, hcl, hg]
      obtain ⟨hqv, hql0, g0, g1, f0, f1, l1⟩ := gap_ok hg
      have hqq : ∀ p ∈ qs, isPo p = true := fun p hp => arePo_at hqv hp
      refine aloop_heap (X := Nat × Int × Int) (fun x => [(0, .c (.sl b_code i_code code.length)), (15, .c (.sl (H.n + 1 + 1 + 1) (0) (qs.length))), (16, .c (.str (t))), (17, .c (.int .i64 ((gapRes qs t).1))), (21, .c (.int .i64 (x.2.1))), (22, .c (.int .i64 (x.2.2))), (23, .c (.int .i64 ((x.1 : Int))))]) (fun _ => _) (fun x => x.1 ≤ qs.length ∧ gF t (qs.drop x.1) x.2.1 = gF t qs 4000 ∧ gL0 t (qs.drop x.1) x.2.2 = gL0 t qs 0) (fun x => qs.length - x.1) hE _ (0, 4000, 0) ⟨Nat.zero_le _, rfl, rfl⟩ (fun hw0 => .since (by simp only [push_n, set_n, kill_n]; omega) hw0 (.refl _) (by simp [frOk, AV.okR, AV.ok1, AC.okR, AV.ren, AV.ren1, AC.ren, AFrame.get, pl1_old, *]; first | done | omega)) (fun x hx hwx => ?_)
      obtain ⟨j, f, l⟩ := x
      obtain ⟨hj, hf, hl⟩ := hx
      simp only at hj hf hl
      rcases Nat.lt_or_ge j qs.length with hlt | hge
      · have hj1 := idx_lt hlt
        have w1 : IntKind.i64.wrap ((j : Int) + 1) = (j : Int) + 1 := wrap_id (by omega) (by omega)
        have hcg : qs[j]? = some qs[j] := List.getElem?_eq_getElem hlt
        rw [List.drop_eq_getElem_cons hlt] at hf hl
        simp only [gF, gL0] at hf hl
        by_cases hc : qs[j].town = t
        · rw [if_pos hc] at hf hl
          simp (config := {contextual := true, implicitDefEqProofs := false, maxSteps := 2000000}) [-Int.not_le, -Int.not_lt, argsF, laws_FnUses_l1, hat_code.blk, hat_code.esz, hat_code.len, hat_code.els, hne_code, hne1_code, hne2_code.1, hne2_code.2.1, hne2_code.2.2.1, hne2_code.2.2.2.1, hne2_code.2.2.2.2.1, hne2_code.2.2.2.2.2.1, hne2_code.2.2.2.2.2.2.1, hne2_code.2.2.2.2.2.2.2.1, hne2_code.2.2.2.2.2.2.2.2.1, hne2_code.2.2.2.2.2.2.2.2.2.1, hne2_code.2.2.2.2.2.2.2.2.2.2, rowK, hj1, w1, hcg, hc, hlt]
          refine ite_i (fun q1 => ?_) (fun q1 => ?_)
          · refine ite_i (fun q2 => ?_) (fun q2 => ?_)
            · rw [if_pos q1] at hf
              rw [if_pos q2] at hl
              exact ⟨fun hw => ⟨(j + 1, _, _), ⟨by simp only; omega, hf, hl⟩, by simp only; omega, .since (by simp only [push_n, set_n, kill_n]; omega) hw (.refl _) (by simp [frOk, AV.okR, AV.ok1, AC.okR, AV.ren, AV.ren1, AC.ren, AFrame.get, pl1_old, *]; first | done | omega)⟩⟩
            · rw [if_pos q1] at hf
              rw [if_neg q2] at hl
              exact ⟨fun hw => ⟨(j + 1, _, _), ⟨by simp only; omega, hf, hl⟩, by simp only; omega, .since (by simp only [push_n, set_n, kill_n]; omega) hw (.refl _) (by simp [frOk, AV.okR, AV.ok1, AC.okR, AV.ren, AV.ren1, AC.ren, AFrame.get, pl1_old, *]; first | done | omega)⟩⟩
          · refine ite_i (fun q2 => ?_) (fun q2 => ?_)
            · rw [if_neg q1] at hf
              rw [if_pos q2] at hl
              exact ⟨fun hw => ⟨(j + 1, _, _), ⟨by simp only; omega, hf, hl⟩, by simp only; omega, .since (by simp only [push_n, set_n, kill_n]; omega) hw (.refl _) (by simp [frOk, AV.okR, AV.ok1, AC.okR, AV.ren, AV.ren1, AC.ren, AFrame.get, pl1_old, *]; first | done | omega)⟩⟩
            · rw [if_neg q1] at hf
              rw [if_neg q2] at hl
              exact ⟨fun hw => ⟨(j + 1, _, _), ⟨by simp only; omega, hf, hl⟩, by simp only; omega, .since (by simp only [push_n, set_n, kill_n]; omega) hw (.refl _) (by simp [frOk, AV.okR, AV.ok1, AC.okR, AV.ren, AV.ren1, AC.ren, AFrame.get, pl1_old, *]; first | done | omega)⟩⟩
        · rw [if_neg hc] at hf hl
          simp (config := {contextual := true, implicitDefEqProofs := false, maxSteps := 2000000}) [-Int.not_le, -Int.not_lt, argsF, laws_FnUses_l1, hat_code.blk, hat_code.esz, hat_code.len, hat_code.els, hne_code, hne1_code, hne2_code.1, hne2_code.2.1, hne2_code.2.2.1, hne2_code.2.2.2.1, hne2_code.2.2.2.2.1, hne2_code.2.2.2.2.2.1, hne2_code.2.2.2.2.2.2.1, hne2_code.2.2.2.2.2.2.2.1, hne2_code.2.2.2.2.2.2.2.2.1, hne2_code.2.2.2.2.2.2.2.2.2.1, hne2_code.2.2.2.2.2.2.2.2.2.2, rowK, hj1, w1, hcg, hc, hlt]
          exact ⟨fun hw => ⟨(j + 1, _, _), ⟨by simp only; omega, hf, hl⟩, by simp only; omega, .since (by simp only [push_n, set_n, kill_n]; omega) hw (.refl _) (by simp [frOk, AV.okR, AV.ok1, AC.okR, AV.ren, AV.ren1, AC.ren, AFrame.get, pl1_old, *]; first | done | omega)⟩⟩
      · have hj0 : j = qs.length := by omega
        subst hj0
        rw [List.drop_length] at hf hl
        simp only [gF, gL0] at hf hl
        rw [gL0_eq t qs hqq hql0] at hl
        have wl : IntKind.i64.wrap (l - f) = l - f := wrap_id (by omega) (by omega)
        have g2 : ¬ (gapRes qs t).1 < 0 := by omega
        have g3 : ¬ l - f < (gapRes qs t).1 := by omega
        simp (config := {contextual := true, implicitDefEqProofs := false, maxSteps := 2000000}) [-Int.not_le, -Int.not_lt, argsF, laws_FnUses_l1, hat_code.blk, hat_code.esz, hat_code.len, hat_code.els, hne_code, hne1_code, hne2_code.1, hne2_code.2.1, hne2_code.2.2.1, hne2_code.2.2.2.1, hne2_code.2.2.2.2.1, hne2_code.2.2.2.2.2.1, hne2_code.2.2.2.2.2.2.1, hne2_code.2.2.2.2.2.2.2.1, hne2_code.2.2.2.2.2.2.2.2.1, hne2_code.2.2.2.2.2.2.2.2.2.1, hne2_code.2.2.2.2.2.2.2.2.2.2, rowK, Enc.decL_map, hqx, ht6, hcl, hg, wl, g2, g3]
        refine Stop.mk fun us du hus hul => ?_
        have hux : ∀ p ∈ us, txP p := fun p hp => shP_tx (hus p hp)
        simp (config := {contextual := true, implicitDefEqProofs := false, maxSteps := 2000000}) [-Int.not_le, -Int.not_lt, argsF, laws_FnUses_c, hat_code.blk, hat_code.esz, hat_code.len, hat_code.els, hne_code, hne1_code, hne2_code.1, hne2_code.2.1, hne2_code.2.2.1, hne2_code.2.2.2.1, hne2_code.2.2.2.2.1, hne2_code.2.2.2.2.2.1, hne2_code.2.2.2.2.2.2.1, hne2_code.2.2.2.2.2.2.2.1, hne2_code.2.2.2.2.2.2.2.2.1, hne2_code.2.2.2.2.2.2.2.2.2.1, hne2_code.2.2.2.2.2.2.2.2.2.2, rowK, Enc.decL_map, hux, hcl, ite_self]
        refine Stop.mk fun p hp => ?_
        have hpx2 : txP p := shP_tx hp
        simp (config := {contextual := true, implicitDefEqProofs := false, maxSteps := 2000000}) [-Int.not_le, -Int.not_lt, argsF, laws_FnUses_c, hat_code.blk, hat_code.esz, hat_code.len, hat_code.els, hne_code, hne1_code, hne2_code.1, hne2_code.2.1, hne2_code.2.2.1, hne2_code.2.2.2.1, hne2_code.2.2.2.2.1, hne2_code.2.2.2.2.2.1, hne2_code.2.2.2.2.2.2.1, hne2_code.2.2.2.2.2.2.2.1, hne2_code.2.2.2.2.2.2.2.2.1, hne2_code.2.2.2.2.2.2.2.2.2.1, hne2_code.2.2.2.2.2.2.2.2.2.2, rowK, Enc.decL_map, hpx2, hI, ite_self]
        (refine Out.plain hwf ?_ rfl ?_; (repeat first | exact Sub.refl _ | refine Sub.push hwf ?_ _ | refine Sub.set hwf ?_ (by first | exact Nat.le_refl _ | omega) _ | refine Sub.kill hwf ?_ (by first | exact Nat.le_refl _ | omega))); exact h
  · obtain ⟨hv, hd, m, hm, hid, hEe, hva⟩ := eu_all hE0
    have hvm := arePo_at hv (List.getElem_mem hm)
    have htn : tnRes (ps.set m (euP ps[m] d)) d = (insAll (towns d (ps.set m (euP ps[m] d))) [], true) := by unfold tnRes; rw [if_pos hva, if_pos hd]
    have hnx : ∀ p ∈ ps.set m (euP ps[m] d), txP p := fun p hp => by
      rcases List.mem_or_eq_of_mem_set hp with hp | he
      · exact hpx p hp
      · rw [he]; exact ⟨(hpx _ (List.getElem_mem hm)).1, (hpx _ (List.getElem_mem hm)).2⟩
    have hin : euP ps[m] d ∈ ps.set m (euP ps[m] d) := List.mem_set hm _
    have hto : ((insAll (towns d (ps.set m (euP ps[m] d))) []).any fun x => decide (x = ps[m].town)) = true := any_town (t := ps[m].town) (show (euP ps[m] d).town ∈ _ from towns_mem hin (eu_in hvm))
    have hgr := eu_grow (d := d) hvm
    have hb := isPo_b hvm
    have hb2 := isPo_b (isPo_eu hvm hd)
    have hsl : (ps.set m (euP ps[m] d)).length = ps.length := List.length_set
    generalize hps' : ps.set m (euP ps[m] d) = ps' at *
    generalize htw : insAll (towns d ps') [] = tw at *
    simp (config := {contextual := true, implicitDefEqProofs := false, maxSteps := 2000000}) [-Int.not_le, -Int.not_lt, argsF, laws_FnUses_c, hat_code.blk, hat_code.esz, hat_code.len, hat_code.els, hne_code, hne1_code, hne2_code.1, hne2_code.2.1, hne2_code.2.2.1, hne2_code.2.2.2.1, hne2_code.2.2.2.2.1, hne2_code.2.2.2.2.2.1, hne2_code.2.2.2.2.2.2.1, hne2_code.2.2.2.2.2.2.2.1, hne2_code.2.2.2.2.2.2.2.2.1, hne2_code.2.2.2.2.2.2.2.2.2.1, hne2_code.2.2.2.2.2.2.2.2.2.2, rowK, Enc.decL_map, hpx, hpl2, hcl, hEe, htn, hnx]
    have hg' : ps'[m]? = some (euP ps[m] d) := by rw [← hps', List.getElem?_set, if_pos rfl, if_pos hm]
    refine aloop_heap (X := Nat) (fun j => [(0, .c (.sl b_code i_code code.length)), (3, .c (.sl (H.n) (0) (ps.length))), (4, .c (.int .i64 (i))), (6, .c (.sl (H.n + 1) (0) (ps'.length))), (7, .c (.int .i64 (euG ps[m] d))), (12, .c (.sl (H.n + 1 + 1 + 1) (0) (tw.length))), (14, .c (.int .i64 ((j : Int))))]) (fun _ => _) (fun j => j ≤ ps.length) (fun j => ps.length - j) hE _ 0 (Nat.zero_le _) (fun hw0 => .since (by simp only [push_n, set_n, kill_n]; omega) hw0 (.refl _) (by simp [frOk, AV.okR, AV.ok1, AC.okR, AV.ren, AV.ren1, AC.ren, AFrame.get, pl1_old, *]; first | done | omega)) (fun j hj hwx => ?_)
    rcases Nat.lt_or_ge j ps.length with hlt | hge
    · have hj1 := idx_lt hlt
      have w1 : IntKind.i64.wrap ((j : Int) + 1) = (j : Int) + 1 := wrap_id (by omega) (by omega)
      have hcg : ps[j]? = some ps[j] := List.getElem?_eq_getElem hlt
      by_cases hc : ps[j].id = i
      · obtain rfl : j = m := arePo_one hv hlt hm (by rw [hc, hid])
        simp (config := {contextual := true, implicitDefEqProofs := false, maxSteps := 2000000}) [-Int.not_le, -Int.not_lt, argsF, laws_FnUses_l0, hat_code.blk, hat_code.esz, hat_code.len, hat_code.els, hne_code, hne1_code, hne2_code.1, hne2_code.2.1, hne2_code.2.2.1, hne2_code.2.2.2.1, hne2_code.2.2.2.2.1, hne2_code.2.2.2.2.2.1, hne2_code.2.2.2.2.2.2.1, hne2_code.2.2.2.2.2.2.2.1, hne2_code.2.2.2.2.2.2.2.2.1, hne2_code.2.2.2.2.2.2.2.2.2.1, hne2_code.2.2.2.2.2.2.2.2.2.2, rowK, Enc.decL_map, hj1, w1, hcg, hc, hlt, hto, hg', hsl]
        have hlt' : j < ps'.length := by omega
        have hpj : ps'[j] = euP ps[j] d := by rw [List.getElem?_eq_getElem hlt'] at hg'; exact Option.some.inj hg'
        have hww : IntKind.i64.wrap (ps'[j].last - ps'[j].first) = IntKind.i64.wrap (IntKind.i64.wrap (ps[j].last - ps[j].first) + euG ps[j] d) := by
          rw [hpj, wrap_id (n := ps[j].last - ps[j].first) (by omega) (by omega), wrap_id (n := (euP ps[j] d).last - (euP ps[j] d).first) (by omega) (by omega), wrap_id (by omega) (by omega)]
          exact hgr
        refine ite_i (fun _ => ?_) (fun q => absurd hww q)
        exact ⟨fun hw => ⟨j + 1, by omega, by omega, .since (by simp only [push_n, set_n, kill_n]; omega) hw (.refl _) (by simp [frOk, AV.okR, AV.ok1, AC.okR, AV.ren, AV.ren1, AC.ren, AFrame.get, pl1_old, *]; first | done | omega)⟩⟩
      · simp (config := {contextual := true, implicitDefEqProofs := false, maxSteps := 2000000}) [-Int.not_le, -Int.not_lt, argsF, laws_FnUses_l0, hat_code.blk, hat_code.esz, hat_code.len, hat_code.els, hne_code, hne1_code, hne2_code.1, hne2_code.2.1, hne2_code.2.2.1, hne2_code.2.2.2.1, hne2_code.2.2.2.2.1, hne2_code.2.2.2.2.2.1, hne2_code.2.2.2.2.2.2.1, hne2_code.2.2.2.2.2.2.2.1, hne2_code.2.2.2.2.2.2.2.2.1, hne2_code.2.2.2.2.2.2.2.2.2.1, hne2_code.2.2.2.2.2.2.2.2.2.2, rowK, hj1, w1, hcg, hc, hlt]
        exact ⟨fun hw => ⟨j + 1, by omega, by omega, .since (by simp only [push_n, set_n, kill_n]; omega) hw (.refl _) (by simp [frOk, AV.okR, AV.ok1, AC.okR, AV.ren, AV.ren1, AC.ren, AFrame.get, pl1_old, *]; first | done | omega)⟩⟩
    · have hj0 : j = ps.length := by omega
      subst hj0
      simp (config := {contextual := true, implicitDefEqProofs := false, maxSteps := 2000000}) [-Int.not_le, -Int.not_lt, argsF, laws_FnUses_l0, hat_code.blk, hat_code.esz, hat_code.len, hat_code.els, hne_code, hne1_code, hne2_code.1, hne2_code.2.1, hne2_code.2.2.1, hne2_code.2.2.2.1, hne2_code.2.2.2.2.1, hne2_code.2.2.2.2.2.1, hne2_code.2.2.2.2.2.2.1, hne2_code.2.2.2.2.2.2.2.1, hne2_code.2.2.2.2.2.2.2.2.1, hne2_code.2.2.2.2.2.2.2.2.2.1, hne2_code.2.2.2.2.2.2.2.2.2.2, rowK, Enc.decL_map, hcl]
      refine Stop.mk fun qs t hqs hql ht => ?_
      have hqx : ∀ p ∈ qs, txP p := fun p hp => shP_tx (hqs p hp)
      have ht6 : t.length ≤ 9223372036854775806 := by omega
      by_cases hg : (gapRes qs t).2 = true
      rotate_left
      · simp (config := {contextual := true, implicitDefEqProofs := false, maxSteps := 2000000}) [-Int.not_le, -Int.not_lt, argsF, laws_FnUses_c, hat_code.blk, hat_code.esz, hat_code.len, hat_code.els, hne_code, hne1_code, hne2_code.1, hne2_code.2.1, hne2_code.2.2.1, hne2_code.2.2.2.1, hne2_code.2.2.2.2.1, hne2_code.2.2.2.2.2.1, hne2_code.2.2.2.2.2.2.1, hne2_code.2.2.2.2.2.2.2.1, hne2_code.2.2.2.2.2.2.2.2.1, hne2_code.2.2.2.2.2.2.2.2.2.1, hne2_code.2.2.2.2.2.2.2.2.2.2, rowK, Enc.decL_map, hqx, ht6, hcl, hg]
        refine Stop.mk fun us du hus hul => ?_
        have hux : ∀ p ∈ us, txP p := fun p hp => shP_tx (hus p hp)
        simp (config := {contextual := true, implicitDefEqProofs := false, maxSteps := 2000000}) [-Int.not_le, -Int.not_lt, argsF, laws_FnUses_c, hat_code.blk, hat_code.esz, hat_code.len, hat_code.els, hne_code, hne1_code, hne2_code.1, hne2_code.2.1, hne2_code.2.2.1, hne2_code.2.2.2.1, hne2_code.2.2.2.2.1, hne2_code.2.2.2.2.2.1, hne2_code.2.2.2.2.2.2.1, hne2_code.2.2.2.2.2.2.2.1, hne2_code.2.2.2.2.2.2.2.2.1, hne2_code.2.2.2.2.2.2.2.2.2.1, hne2_code.2.2.2.2.2.2.2.2.2.2, rowK, Enc.decL_map, hux, hcl, ite_self]
        refine Stop.mk fun p hp => ?_
        have hpx2 : txP p := shP_tx hp
        simp (config := {contextual := true, implicitDefEqProofs := false, maxSteps := 2000000}) [-Int.not_le, -Int.not_lt, argsF, laws_FnUses_c, hat_code.blk, hat_code.esz, hat_code.len, hat_code.els, hne_code, hne1_code, hne2_code.1, hne2_code.2.1, hne2_code.2.2.1, hne2_code.2.2.2.1, hne2_code.2.2.2.2.1, hne2_code.2.2.2.2.2.1, hne2_code.2.2.2.2.2.2.1, hne2_code.2.2.2.2.2.2.2.1, hne2_code.2.2.2.2.2.2.2.2.1, hne2_code.2.2.2.2.2.2.2.2.2.1, hne2_code.2.2.2.2.2.2.2.2.2.2, rowK, Enc.decL_map, hpx2, hI, ite_self]
        (refine Out.plain hwf ?_ rfl ?_; (repeat first | exact Sub.refl _ | refine Sub.push hwf ?_ _ | refine Sub.set hwf ?_ (by first | exact Nat.le_refl _ | omega) _ | refine Sub.kill hwf ?_ (by first | exact Nat.le_refl _ | omega))); exact h
      · simp (config := {contextual := true, implicitDefEqProofs := false, maxSteps := 2000000}) [-Int.not_le, -Int.not_lt, argsF, laws_FnUses_c, hat_code.blk, hat_code.esz, hat_code.len, hat_code.els, hne_code, hne1_code, hne2_code.1, hne2_code.2.1, hne2_code.2.2.1, hne2_code.2.2.2.1, hne2_code.2.2.2.2.1, hne2_code.2.2.2.2.2.1, hne2_code.2.2.2.2.2.2.1, hne2_code.2.2.2.2.2.2.2.1, hne2_code.2.2.2.2.2.2.2.2.1, hne2_code.2.2.2.2.2.2.2.2.2.1, hne2_code.2.2.2.2.2.2.2.2.2.2, rowK, Enc.decL_map, hqx, ht6, hcl, hg]
        obtain ⟨hqv, hql0, g0, g1, f0, f1, l1⟩ := gap_ok hg
        have hqq : ∀ p ∈ qs, isPo p = true := fun p hp => arePo_at hqv hp
        refine aloop_heap (X := Nat × Int × Int) (fun x => [(0, .c (.sl b_code i_code code.length)), (15, .c (.sl (H.n + 1 + 1 + 1 + 1) (0) (qs.length))), (16, .c (.str (t))), (17, .c (.int .i64 ((gapRes qs t).1))), (21, .c (.int .i64 (x.2.1))), (22, .c (.int .i64 (x.2.2))), (23, .c (.int .i64 ((x.1 : Int))))]) (fun _ => _) (fun x => x.1 ≤ qs.length ∧ gF t (qs.drop x.1) x.2.1 = gF t qs 4000 ∧ gL0 t (qs.drop x.1) x.2.2 = gL0 t qs 0) (fun x => qs.length - x.1) hE _ (0, 4000, 0) ⟨Nat.zero_le _, rfl, rfl⟩ (fun hw0 => .since (by simp only [push_n, set_n, kill_n]; omega) hw0 (.refl _) (by simp [frOk, AV.okR, AV.ok1, AC.okR, AV.ren, AV.ren1, AC.ren, AFrame.get, pl1_old, *]; first | done | omega)) (fun x hx hwx => ?_)
        obtain ⟨j, f, l⟩ := x
        obtain ⟨hj, hf, hl⟩ := hx
        simp only at hj hf hl
        rcases Nat.lt_or_ge j qs.length with hlt | hge
        · have hj1 := idx_lt hlt
          have w1 : IntKind.i64.wrap ((j : Int) + 1) = (j : Int) + 1 := wrap_id (by omega) (by omega)
          have hcg : qs[j]? = some qs[j] := List.getElem?_eq_getElem hlt
          rw [List.drop_eq_getElem_cons hlt] at hf hl
          simp only [gF, gL0] at hf hl
          by_cases hc : qs[j].town = t
          · rw [if_pos hc] at hf hl
            simp (config := {contextual := true, implicitDefEqProofs := false, maxSteps := 2000000}) [-Int.not_le, -Int.not_lt, argsF, laws_FnUses_l1, hat_code.blk, hat_code.esz, hat_code.len, hat_code.els, hne_code, hne1_code, hne2_code.1, hne2_code.2.1, hne2_code.2.2.1, hne2_code.2.2.2.1, hne2_code.2.2.2.2.1, hne2_code.2.2.2.2.2.1, hne2_code.2.2.2.2.2.2.1, hne2_code.2.2.2.2.2.2.2.1, hne2_code.2.2.2.2.2.2.2.2.1, hne2_code.2.2.2.2.2.2.2.2.2.1, hne2_code.2.2.2.2.2.2.2.2.2.2, rowK, hj1, w1, hcg, hc, hlt]
            refine ite_i (fun q1 => ?_) (fun q1 => ?_)
            · refine ite_i (fun q2 => ?_) (fun q2 => ?_)
              · rw [if_pos q1] at hf
                rw [if_pos q2] at hl
                exact ⟨fun hw => ⟨(j + 1, _, _), ⟨by simp only; omega, hf, hl⟩, by simp only; omega, .since (by simp only [push_n, set_n, kill_n]; omega) hw (.refl _) (by simp [frOk, AV.okR, AV.ok1, AC.okR, AV.ren, AV.ren1, AC.ren, AFrame.get, pl1_old, *]; first | done | omega)⟩⟩
              · rw [if_pos q1] at hf
                rw [if_neg q2] at hl
                exact ⟨fun hw => ⟨(j + 1, _, _), ⟨by simp only; omega, hf, hl⟩, by simp only; omega, .since (by simp only [push_n, set_n, kill_n]; omega) hw (.refl _) (by simp [frOk, AV.okR, AV.ok1, AC.okR, AV.ren, AV.ren1, AC.ren, AFrame.get, pl1_old, *]; first | done | omega)⟩⟩
            · refine ite_i (fun q2 => ?_) (fun q2 => ?_)
              · rw [if_neg q1] at hf
                rw [if_pos q2] at hl
                exact ⟨fun hw => ⟨(j + 1, _, _), ⟨by simp only; omega, hf, hl⟩, by simp only; omega, .since (by simp only [push_n, set_n, kill_n]; omega) hw (.refl _) (by simp [frOk, AV.okR, AV.ok1, AC.okR, AV.ren, AV.ren1, AC.ren, AFrame.get, pl1_old, *]; first | done | omega)⟩⟩
              · rw [if_neg q1] at hf
                rw [if_neg q2] at hl
                exact ⟨fun hw => ⟨(j + 1, _, _), ⟨by simp only; omega, hf, hl⟩, by simp only; omega, .since (by simp only [push_n, set_n, kill_n]; omega) hw (.refl _) (by simp [frOk, AV.okR, AV.ok1, AC.okR, AV.ren, AV.ren1, AC.ren, AFrame.get, pl1_old, *]; first | done | omega)⟩⟩
          · rw [if_neg hc] at hf hl
            simp (config := {contextual := true, implicitDefEqProofs := false, maxSteps := 2000000}) [-Int.not_le, -Int.not_lt, argsF, laws_FnUses_l1, hat_code.blk, hat_code.esz, hat_code.len, hat_code.els, hne_code, hne1_code, hne2_code.1, hne2_code.2.1, hne2_code.2.2.1, hne2_code.2.2.2.1, hne2_code.2.2.2.2.1, hne2_code.2.2.2.2.2.1, hne2_code.2.2.2.2.2.2.1, hne2_code.2.2.2.2.2.2.2.1, hne2_code.2.2.2.2.2.2.2.2.1, hne2_code.2.2.2.2.2.2.2.2.2.1, hne2_code.2.2.2.2.2.2.2.2.2.2, rowK, hj1, w1, hcg, hc, hlt]
            exact ⟨fun hw => ⟨(j + 1, _, _), ⟨by simp only; omega, hf, hl⟩, by simp only; omega, .since (by simp only [push_n, set_n, kill_n]; omega) hw (.refl _) (by simp [frOk, AV.okR, AV.ok1, AC.okR, AV.ren, AV.ren1, AC.ren, AFrame.get, pl1_old, *]; first | done | omega)⟩⟩
        · have hj0 : j = qs.length := by omega
          subst hj0
          rw [List.drop_length] at hf hl
          simp only [gF, gL0] at hf hl
          rw [gL0_eq t qs hqq hql0] at hl
          have wl : IntKind.i64.wrap (l - f) = l - f := wrap_id (by omega) (by omega)
          have g2 : ¬ (gapRes qs t).1 < 0 := by omega
          have g3 : ¬ l - f < (gapRes qs t).1 := by omega
          simp (config := {contextual := true, implicitDefEqProofs := false, maxSteps := 2000000}) [-Int.not_le, -Int.not_lt, argsF, laws_FnUses_l1, hat_code.blk, hat_code.esz, hat_code.len, hat_code.els, hne_code, hne1_code, hne2_code.1, hne2_code.2.1, hne2_code.2.2.1, hne2_code.2.2.2.1, hne2_code.2.2.2.2.1, hne2_code.2.2.2.2.2.1, hne2_code.2.2.2.2.2.2.1, hne2_code.2.2.2.2.2.2.2.1, hne2_code.2.2.2.2.2.2.2.2.1, hne2_code.2.2.2.2.2.2.2.2.2.1, hne2_code.2.2.2.2.2.2.2.2.2.2, rowK, Enc.decL_map, hqx, ht6, hcl, hg, wl, g2, g3]
          refine Stop.mk fun us du hus hul => ?_
          have hux : ∀ p ∈ us, txP p := fun p hp => shP_tx (hus p hp)
          simp (config := {contextual := true, implicitDefEqProofs := false, maxSteps := 2000000}) [-Int.not_le, -Int.not_lt, argsF, laws_FnUses_c, hat_code.blk, hat_code.esz, hat_code.len, hat_code.els, hne_code, hne1_code, hne2_code.1, hne2_code.2.1, hne2_code.2.2.1, hne2_code.2.2.2.1, hne2_code.2.2.2.2.1, hne2_code.2.2.2.2.2.1, hne2_code.2.2.2.2.2.2.1, hne2_code.2.2.2.2.2.2.2.1, hne2_code.2.2.2.2.2.2.2.2.1, hne2_code.2.2.2.2.2.2.2.2.2.1, hne2_code.2.2.2.2.2.2.2.2.2.2, rowK, Enc.decL_map, hux, hcl, ite_self]
          refine Stop.mk fun p hp => ?_
          have hpx2 : txP p := shP_tx hp
          simp (config := {contextual := true, implicitDefEqProofs := false, maxSteps := 2000000}) [-Int.not_le, -Int.not_lt, argsF, laws_FnUses_c, hat_code.blk, hat_code.esz, hat_code.len, hat_code.els, hne_code, hne1_code, hne2_code.1, hne2_code.2.1, hne2_code.2.2.1, hne2_code.2.2.2.1, hne2_code.2.2.2.2.1, hne2_code.2.2.2.2.2.1, hne2_code.2.2.2.2.2.2.1, hne2_code.2.2.2.2.2.2.2.1, hne2_code.2.2.2.2.2.2.2.2.1, hne2_code.2.2.2.2.2.2.2.2.2.1, hne2_code.2.2.2.2.2.2.2.2.2.2, rowK, Enc.decL_map, hpx2, hI, ite_self]
          (refine Out.plain hwf ?_ rfl ?_; (repeat first | exact Sub.refl _ | refine Sub.push hwf ?_ _ | refine Sub.set hwf ?_ (by first | exact Nat.le_refl _ | omega) _ | refine Sub.kill hwf ?_ (by first | exact Nat.le_refl _ | omega))); exact h

end Go.Proofs.YtnehhdcaknppnaaGreatDoor
