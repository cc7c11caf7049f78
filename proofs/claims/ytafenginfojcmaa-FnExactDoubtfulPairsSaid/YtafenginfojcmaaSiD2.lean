/- The doubtful pairs, by the reference. -/
import Derived.Test.YtafenginfojcmaaSiD1
set_option maxRecDepth 8000
set_option linter.unusedSimpArgs false
set_option linter.unusedVariables false
namespace Go.Proofs.Ytafenginfojcmaa
open Go Go.RowKit

set_option maxHeartbeats 4000000

theorem spec_DoubtfulPairs_s : Sound Try.prog 22 q_dp := by
  intro args H K h
  unfold q_dp at h
  split at h
  rotate_left
  all_goals first | exact False.elim h | skip
  rename_i ps_v limit
  have h1 := EncH.rd_at h
  clear h
  obtain ⟨b_ps, i_ps, k_ps, ps, rfl, hat_ps, h⟩ := h1
  have hE := soundE_cons spec_l13Good_s (soundE_cons spec_l13Limit_s (soundE_cons spec_l13Cover_s (soundE_cons spec_l1Has_s (soundE_cons spec_l13Evidence_s (soundE_nil (P := Try.prog))))))
  refine acalls_fn spec_DoubtfulPairs_k hE ⟨by simp, fun hwf => ?_⟩
  have hsr : SubE H H := SubE.refl H
  have hsp : ∀ H' k, H.n ≤ H'.n → SubE H H' → SubE H (H'.push k) := fun H' k hn hs => SubE.push hwf hn hs k
  have hst : ∀ H', SubE H H' → SubE H H'.toRo := fun H' hs => hs.toRo
  have hss : ∀ H' i k, H.n ≤ i → SubE H H' → SubE H (H'.set i k) := fun H' i k hn hs => SubE.set hwf hn hs k
  have hsk : ∀ H' i, H.n ≤ i → SubE H H' → SubE H (H'.kill i) := fun H' i hn hs => SubE.kill hwf hn hs
  have hon_ps := hat_ps.on
  have hb_ps : b_ps < H.n := (hwf b_ps k_ps hat_ps.blk).1
  have hne_ps : (b_ps = H.n) = False := eq_false (by omega)
  have hne1_ps : ∀ i, (b_ps = H.n + i) = False := fun i => eq_false (by omega)
  have hne2_ps : (b_ps = H.n + 1 + 1) = False ∧ (b_ps = H.n + 1 + 1 + 1) = False ∧ (b_ps = H.n + 1 + 1 + 1 + 1) = False ∧ (b_ps = H.n + 1 + 1 + 1 + 1 + 1) = False ∧ (b_ps = H.n + 1 + 1 + 1 + 1 + 1 + 1) = False ∧ (b_ps = H.n + 1 + 1 + 1 + 1 + 1 + 1 + 1) = False ∧ (b_ps = H.n + 1 + 1 + 1 + 1 + 1 + 1 + 1 + 1) = False ∧ (b_ps = H.n + 1 + 1 + 1 + 1 + 1 + 1 + 1 + 1 + 1) = False ∧ (b_ps = H.n + 1 + 1 + 1 + 1 + 1 + 1 + 1 + 1 + 1 + 1) = False ∧ (b_ps = H.n + 1 + 1 + 1 + 1 + 1 + 1 + 1 + 1 + 1 + 1 + 1) = False ∧ (b_ps = H.n + 1 + 1 + 1 + 1 + 1 + 1 + 1 + 1 + 1 + 1 + 1 + 1) = False := ⟨eq_false (by omega), eq_false (by omega), eq_false (by omega), eq_false (by omega), eq_false (by omega), eq_false (by omega), eq_false (by omega), eq_false (by omega), eq_false (by omega), eq_false (by omega), eq_false (by omega)⟩
  have hmx_ps : ps.length ≤ 9223372036854775807 := by have h1 := (hwf b_ps k_ps hat_ps.blk).2.2; have h2 := hat_ps.len; omega
  obtain ⟨hl, h⟩ := h
  by_cases hv : areSi ps = true
  rotate_left
  · have hR : dpRes ps limit = ([], false) := by unfold dpRes; rw [if_neg hv]
    rw [hR] at h
    simp (config := {contextual := true, implicitDefEqProofs := false, maxSteps := 2000000}) [-Int.not_le, -Int.not_lt, argsF, spec_DoubtfulPairs_c, hat_ps.blk, hat_ps.esz, hat_ps.len, hon_ps, hne_ps, hne1_ps, hne2_ps.1, hne2_ps.2.1, hne2_ps.2.2.1, hne2_ps.2.2.2.1, hne2_ps.2.2.2.2.1, hne2_ps.2.2.2.2.2.1, hne2_ps.2.2.2.2.2.2.1, hne2_ps.2.2.2.2.2.2.2.1, hne2_ps.2.2.2.2.2.2.2.2.1, hne2_ps.2.2.2.2.2.2.2.2.2.1, hne2_ps.2.2.2.2.2.2.2.2.2.2, hsr, hsp, hst, hss, hsk, hv]
    exact Out.whole (by simp only [push_n]; omega) (by simp [frOk, AV.okR, AV.ok1, AC.okR, AV.ren, AV.ren1, AC.ren, AFrame.get, pl1_old, *]; first | done | rfl | omega) fun hw => Stop.go h (H.push (iiK [] [])) H.n [] hw (Sub.push hwf (.refl _) _) iiK_rows (by simp)
  by_cases hr : inR limit (-30) 16 = true
  rotate_left
  · have hR : dpRes ps limit = ([], false) := by unfold dpRes; rw [if_pos hv, if_neg hr]
    rw [hR] at h
    simp (config := {contextual := true, implicitDefEqProofs := false, maxSteps := 2000000}) [-Int.not_le, -Int.not_lt, argsF, spec_DoubtfulPairs_c, hat_ps.blk, hat_ps.esz, hat_ps.len, hon_ps, hne_ps, hne1_ps, hne2_ps.1, hne2_ps.2.1, hne2_ps.2.2.1, hne2_ps.2.2.2.1, hne2_ps.2.2.2.2.1, hne2_ps.2.2.2.2.2.1, hne2_ps.2.2.2.2.2.2.1, hne2_ps.2.2.2.2.2.2.2.1, hne2_ps.2.2.2.2.2.2.2.2.1, hne2_ps.2.2.2.2.2.2.2.2.2.1, hne2_ps.2.2.2.2.2.2.2.2.2.2, hsr, hsp, hst, hss, hsk, hv, hr]
    exact Out.whole (by simp only [push_n]; omega) (by simp [frOk, AV.okR, AV.ok1, AC.okR, AV.ren, AV.ren1, AC.ren, AFrame.get, pl1_old, *]; first | done | rfl | omega) fun hw => Stop.go h (H.push (iiK [] [])) H.n [] hw (Sub.push hwf (.refl _) _) iiK_rows (by simp)
  have hR : dpRes ps limit = ((dpS ps limit ps.length).map (dpR ps), true) := by unfold dpRes; rw [if_pos hv, if_pos hr]
  rw [hR] at h
  have hsym := edge_sym (limit := limit) (areSi_nd hv)
  have hpl := areSi_len hv

  have key0 : ∀ {Q : Exit → AFrame → AHeap → Prop} (x : CX) (b2 o2 : Nat) (k2 : ABlk) (cc : List Nat) (k : Nat), x.Ok H H.n → eI.At x.H b2 o2 k2 (nats cc) → b2 ≠ x.b → cc = comp (edge ps limit) ps.length k → k < ps.length → x.rows = (dpS ps limit k).map (dpR ps) →
      (∀ y : CX, y.Ok H H.n → y.b < y.H.n → y.rows = (dpS ps limit (k + 1)).map (dpR ps) → Q (.exit 2) ([(0, .c (.sl b_ps i_ps ps.length)), (1, .c (.int .i64 (limit))), (6, .c (.sl (y.b) (0) (y.rows.length))), (7, .c (.int .i64 ((k : Int)))), (8, .c (.sl (b2) (o2) (cc.length))), (9, .c (.int .i64 ((ps.length : Int)))), (35, .c (.bool (false)))]) y.H) → ALoop Try.prog 69 H.n spec_DoubtfulPairs_l0 ([(0, .c (.sl b_ps i_ps ps.length)), (1, .c (.int .i64 (limit))), (6, .c (.sl (x.b) (0) (x.rows.length))), (7, .c (.int .i64 ((k : Int)))), (8, .c (.sl (b2) (o2) (cc.length))), (9, .c (.int .i64 ((k : Int) + 1)))]) x.H Q := by
    intro Q x b2 o2 k2 cc k hok hatc0 hne0 hcc hk hrw hQ
    have hnx : H.n ≤ x.H.n := hok.sub.1.1
    refine aloop_heap (X := CX × Nat) (fun y => [(0, .c (.sl b_ps i_ps ps.length)), (1, .c (.int .i64 (limit))), (6, .c (.sl (y.1.b) (0) (y.1.rows.length))), (7, .c (.int .i64 ((k : Int)))), (8, .c (.sl (b2) (o2) (cc.length))), (9, .c (.int .i64 ((y.2 : Int))))]) (fun y => y.1.H) (fun y => y.1.Ok H H.n ∧ eI.At y.1.H b2 o2 k2 (nats cc) ∧ b2 ≠ y.1.b ∧ k < y.2 ∧ y.2 ≤ ps.length ∧ y.1.rows = (dpS ps limit k ++ dpT ps limit k y.2).map (dpR ps)) (fun y => ps.length - y.2) hE _ (x, k + 1) ⟨hok, hatc0, hne0, by simp only; omega, hk, by rw [dpT_0, List.append_nil]; exact hrw⟩ (fun hw0 => by have hxb : x.b < x.H.n := hok.rows.bnd hw0 _ (by simp); have hb2 : b2 < x.H.n := (hw0 _ _ hatc0.blk).1; exact .since hnx hw0 (.refl _) (by simp [frOk, AV.okR, AV.ok1, AC.okR, AV.ren, AV.ren1, AC.ren, AFrame.get, pl1_old, *]; first | done | rfl | omega)) (fun y hy hwy => ?_)
    obtain ⟨y, m⟩ := y
    obtain ⟨hoky, hatc, hne, hkm, hm, hrwy⟩ := hy
    simp only at hoky hatc hne hkm hm hrwy
    have hny : H.n ≤ y.H.n := hoky.sub.1.1
    have hyb : y.b < y.H.n := hoky.rows.bnd hwy _ (by simp)
    have hyb0 : H.n ≤ y.b := hoky.ge _ (by simp)
    have hb2 : b2 < y.H.n := (hwy _ _ hatc.blk).1
    rcases Nat.lt_or_ge m ps.length with hmlt | hmge
    rotate_left
    · have hme : m = ps.length := by omega
      subst hme
      rw [← dpS_s] at hrwy
      simp (config := {contextual := true, implicitDefEqProofs := false, maxSteps := 2000000}) [-Int.not_le, -Int.not_lt, argsF, spec_DoubtfulPairs_l0]
      exact hQ y hoky hyb hrwy
    have hmi : ((m : Int) < (ps.length : Int)) = True := eq_true (by omega)
    have hki : ((k : Int) < (ps.length : Int)) = True := eq_true (by omega)
    have w2 : IntKind.i64.wrap ((m : Int) + 1) = (m : Int) + 1 := wrap_id (by omega) (by omega)
    have hrb := hoky.rows.blk
    have hrl := hoky.rows.len
    have hll0 := congrArg List.length hrwy
    have hl1 := dpS_len ps limit k
    have hl1b : k * ps.length ≤ 100 := Nat.le_trans (Nat.mul_le_mul (Nat.le_of_lt hk) (Nat.le_refl _)) (Nat.le_trans (Nat.mul_le_mul hpl hpl) (by decide))
    have hl2b := dpT_len ps limit k m
    rw [List.length_map, List.length_append] at hll0
    have hb3 : (y.rows.length + 1) * 24 ≤ 140737488355328 := by omega
    have hb4 : y.rows.length + 1 ≤ 140737488355328 := by omega
    have qc : (b2 = y.H.n) = False := eq_false (by omega)
    have qp : (b_ps = y.H.n) = False := eq_false (by omega)
    have qb : (y.b = y.H.n) = False := eq_false (by omega)
    have qb2 : (y.b = y.H.n + 1) = False := eq_false (by omega)
    have hat_ps : eSi.At y.H b_ps i_ps k_ps ps := hat_ps.sub hoky.sub
    have hwf0 := hwf
    have hwf := hwy
    have hcl := hatc.len
    have hce := hatc.els
    rw [nats_len] at hcl hce
    obtain ⟨ex_u, e_u, hd_u⟩ := hat_ps.get hk
    obtain ⟨b_u, i_u, k_u, rfl, hat_u, htx_u⟩ := eSi_at hd_u
    have hb_u : b_u < y.H.n := (hwf b_u k_u hat_u.blk).1
    have hne_u : (b_u = y.H.n) = False := eq_false (by omega)
    have hne1_u : ∀ i, (b_u = y.H.n + i) = False := fun i => eq_false (by omega)
    have hne2_u : (b_u = y.H.n + 1 + 1) = False ∧ (b_u = y.H.n + 1 + 1 + 1) = False ∧ (b_u = y.H.n + 1 + 1 + 1 + 1) = False ∧ (b_u = y.H.n + 1 + 1 + 1 + 1 + 1) = False ∧ (b_u = y.H.n + 1 + 1 + 1 + 1 + 1 + 1) = False ∧ (b_u = y.H.n + 1 + 1 + 1 + 1 + 1 + 1 + 1) = False ∧ (b_u = y.H.n + 1 + 1 + 1 + 1 + 1 + 1 + 1 + 1) = False ∧ (b_u = y.H.n + 1 + 1 + 1 + 1 + 1 + 1 + 1 + 1 + 1) = False ∧ (b_u = y.H.n + 1 + 1 + 1 + 1 + 1 + 1 + 1 + 1 + 1 + 1) = False ∧ (b_u = y.H.n + 1 + 1 + 1 + 1 + 1 + 1 + 1 + 1 + 1 + 1 + 1) = False ∧ (b_u = y.H.n + 1 + 1 + 1 + 1 + 1 + 1 + 1 + 1 + 1 + 1 + 1 + 1) = False := ⟨eq_false (by omega), eq_false (by omega), eq_false (by omega), eq_false (by omega), eq_false (by omega), eq_false (by omega), eq_false (by omega), eq_false (by omega), eq_false (by omega), eq_false (by omega), eq_false (by omega)⟩
    obtain ⟨ex_v, e_v, hd_v⟩ := hat_ps.get hmlt
    obtain ⟨b_v, i_v, k_v, rfl, hat_v, htx_v⟩ := eSi_at hd_v
    have hb_v : b_v < y.H.n := (hwf b_v k_v hat_v.blk).1
    have hne_v : (b_v = y.H.n) = False := eq_false (by omega)
    have hne1_v : ∀ i, (b_v = y.H.n + i) = False := fun i => eq_false (by omega)
    have hne2_v : (b_v = y.H.n + 1 + 1) = False ∧ (b_v = y.H.n + 1 + 1 + 1) = False ∧ (b_v = y.H.n + 1 + 1 + 1 + 1) = False ∧ (b_v = y.H.n + 1 + 1 + 1 + 1 + 1) = False ∧ (b_v = y.H.n + 1 + 1 + 1 + 1 + 1 + 1) = False ∧ (b_v = y.H.n + 1 + 1 + 1 + 1 + 1 + 1 + 1) = False ∧ (b_v = y.H.n + 1 + 1 + 1 + 1 + 1 + 1 + 1 + 1) = False ∧ (b_v = y.H.n + 1 + 1 + 1 + 1 + 1 + 1 + 1 + 1 + 1) = False ∧ (b_v = y.H.n + 1 + 1 + 1 + 1 + 1 + 1 + 1 + 1 + 1 + 1) = False ∧ (b_v = y.H.n + 1 + 1 + 1 + 1 + 1 + 1 + 1 + 1 + 1 + 1 + 1) = False ∧ (b_v = y.H.n + 1 + 1 + 1 + 1 + 1 + 1 + 1 + 1 + 1 + 1 + 1 + 1) = False := ⟨eq_false (by omega), eq_false (by omega), eq_false (by omega), eq_false (by omega), eq_false (by omega), eq_false (by omega), eq_false (by omega), eq_false (by omega), eq_false (by omega), eq_false (by omega), eq_false (by omega)⟩
    have hla := hl _ (List.getElem_mem hk)
    have hlb := hl _ (List.getElem_mem hmlt)
    have hsa : sid ps k = ps[k].id := by simp [sid, List.getD_eq_getElem?_getD, hk]
    have hsk : sid ps m = ps[m].id := by simp [sid, List.getD_eq_getElem?_getD, hmlt]
    have hed : edge ps limit k m = decide (limit ≤ evid ps[k] ps[m]) := by simp [edge, List.getD_eq_getElem?_getD, hk, hmlt]
    clear hrw hQ
    by_cases hmc : m ∈ cc
    rotate_left
    · have hmi2 : ((m : Int) ∈ nats cc) = False := eq_false fun hc => hmc (nats_mem.1 hc)
      have hB : dpB ps limit k m = false := by unfold dpB; rw [← hcc]; simp [hmc]
      have hn2 : y.rows = (dpS ps limit k ++ dpT ps limit k (m + 1)).map (dpR ps) := by rw [dpT_s, hB, if_neg (by simp), List.append_nil]; exact hrwy
      simp (config := {contextual := true, implicitDefEqProofs := false, maxSteps := 2000000}) [-Int.not_le, -Int.not_lt, argsF, spec_DoubtfulPairs_l0, hmi, hmlt, hatc.blk, hatc.esz, hcl, hce, hmi2, w2]
      exact ⟨fun hw => ⟨(y, m + 1), ⟨hoky, hatc, hne, by simp only; omega, hmlt, by rw [← List.map_append]; exact hn2⟩, by simp only; omega, .since hny hw (.refl _) (by simp [frOk, AV.okR, AV.ok1, AC.okR, AV.ren, AV.ren1, AC.ren, AFrame.get, pl1_old, *]; first | done | rfl | omega)⟩⟩
    have hmi2 : ((m : Int) ∈ nats cc) = True := eq_true (nats_mem.2 hmc)
    by_cases he : limit ≤ evid ps[k] ps[m]
    · have he2 : ¬ evid ps[k] ps[m] < limit := by omega
      have hB : dpB ps limit k m = false := by unfold dpB; rw [hed, decide_eq_true he]; simp
      have hn2 : y.rows = (dpS ps limit k ++ dpT ps limit k (m + 1)).map (dpR ps) := by rw [dpT_s, hB, if_neg (by simp), List.append_nil]; exact hrwy
      simp (config := {contextual := true, implicitDefEqProofs := false, maxSteps := 2000000}) [-Int.not_le, -Int.not_lt, argsF, spec_DoubtfulPairs_l0, hmi, hki, hmlt, hk, hatc.blk, hatc.esz, hcl, hce, hmi2, hat_ps.blk, hat_ps.esz, hat_ps.len, hon_ps, hne_ps, hne1_ps, hne2_ps.1, hne2_ps.2.1, hne2_ps.2.2.1, hne2_ps.2.2.2.1, hne2_ps.2.2.2.2.1, hne2_ps.2.2.2.2.2.1, hne2_ps.2.2.2.2.2.2.1, hne2_ps.2.2.2.2.2.2.2.1, hne2_ps.2.2.2.2.2.2.2.2.1, hne2_ps.2.2.2.2.2.2.2.2.2.1, hne2_ps.2.2.2.2.2.2.2.2.2.2, e_u, htx_u, hat_u.blk, hat_u.esz, hat_u.len, hat_u.els, hne_u, hne1_u, hne2_u.1, hne2_u.2.1, hne2_u.2.2.1, hne2_u.2.2.2.1, hne2_u.2.2.2.2.1, hne2_u.2.2.2.2.2.1, hne2_u.2.2.2.2.2.2.1, hne2_u.2.2.2.2.2.2.2.1, hne2_u.2.2.2.2.2.2.2.2.1, hne2_u.2.2.2.2.2.2.2.2.2.1, hne2_u.2.2.2.2.2.2.2.2.2.2, e_v, htx_v, hat_v.blk, hat_v.esz, hat_v.len, hat_v.els, hne_v, hne1_v, hne2_v.1, hne2_v.2.1, hne2_v.2.2.1, hne2_v.2.2.2.1, hne2_v.2.2.2.2.1, hne2_v.2.2.2.2.2.1, hne2_v.2.2.2.2.2.2.1, hne2_v.2.2.2.2.2.2.2.1, hne2_v.2.2.2.2.2.2.2.2.1, hne2_v.2.2.2.2.2.2.2.2.2.1, hne2_v.2.2.2.2.2.2.2.2.2.2, hla, hlb, he2, w2]
      exact ⟨fun hw => ⟨(y, m + 1), ⟨hoky, hatc, hne, by simp only; omega, hmlt, by rw [← List.map_append]; exact hn2⟩, by simp only; omega, .since hny hw (.refl _) (by simp [frOk, AV.okR, AV.ok1, AC.okR, AV.ren, AV.ren1, AC.ren, AFrame.get, pl1_old, *]; first | done | rfl | omega)⟩⟩
    · have he2 : evid ps[k] ps[m] < limit := by omega
      have hB : dpB ps limit k m = true := by unfold dpB; rw [hed, decide_eq_false he, ← hcc]; simp [hkm, hmc]
      have hn2 : y.rows ++ [[ps[k].id, ps[m].id]] = (dpS ps limit k ++ dpT ps limit k (m + 1)).map (dpR ps) := by
        rw [dpT_s, hB, if_pos rfl, ← List.append_assoc, List.map_append, ← hrwy]
        show _ = y.rows ++ [[sid ps k, sid ps m]]
        rw [hsa, hsk]
      simp (config := {contextual := true, implicitDefEqProofs := false, maxSteps := 2000000}) [-Int.not_le, -Int.not_lt, argsF, spec_DoubtfulPairs_l0, hmi, hki, hmlt, hk, hatc.blk, hatc.esz, hcl, hce, hmi2, hat_ps.blk, hat_ps.esz, hat_ps.len, hon_ps, hne_ps, hne1_ps, hne2_ps.1, hne2_ps.2.1, hne2_ps.2.2.1, hne2_ps.2.2.2.1, hne2_ps.2.2.2.2.1, hne2_ps.2.2.2.2.2.1, hne2_ps.2.2.2.2.2.2.1, hne2_ps.2.2.2.2.2.2.2.1, hne2_ps.2.2.2.2.2.2.2.2.1, hne2_ps.2.2.2.2.2.2.2.2.2.1, hne2_ps.2.2.2.2.2.2.2.2.2.2, e_u, htx_u, hat_u.blk, hat_u.esz, hat_u.len, hat_u.els, hne_u, hne1_u, hne2_u.1, hne2_u.2.1, hne2_u.2.2.1, hne2_u.2.2.2.1, hne2_u.2.2.2.2.1, hne2_u.2.2.2.2.2.1, hne2_u.2.2.2.2.2.2.1, hne2_u.2.2.2.2.2.2.2.1, hne2_u.2.2.2.2.2.2.2.2.1, hne2_u.2.2.2.2.2.2.2.2.2.1, hne2_u.2.2.2.2.2.2.2.2.2.2, e_v, htx_v, hat_v.blk, hat_v.esz, hat_v.len, hat_v.els, hne_v, hne1_v, hne2_v.1, hne2_v.2.1, hne2_v.2.2.1, hne2_v.2.2.2.1, hne2_v.2.2.2.2.1, hne2_v.2.2.2.2.2.1, hne2_v.2.2.2.2.2.2.1, hne2_v.2.2.2.2.2.2.2.1, hne2_v.2.2.2.2.2.2.2.2.1, hne2_v.2.2.2.2.2.2.2.2.2.1, hne2_v.2.2.2.2.2.2.2.2.2.2, hla, hlb, he2, w2, hrb, hrl, qc, qp, qb, qb2, hb3, hb4]
      rw [iiK_add (m := 2) (C := [ps[k].id, ps[m].id]) hrl rfl]
      have hat2 : eI.At ((((y.H.push (rowK eI 3 [ps[k].id, ps[m].id])).push ⟨32, 1, false, false, [[.sl y.H.n 0 2]]⟩).kill y.b).push (iiK (y.cs ++ [y.H.n]) (y.rows ++ [[ps[k].id, ps[m].id]]))) b2 o2 k2 (nats cc) := ⟨by rw [push_b, if_neg (by simp only [kill_n, push_n]; omega), kill_b, if_neg hne, push_b, if_neg (by simp only [push_n]; omega), push_b, if_neg (by omega)]; exact hatc.blk, hatc.esz, hatc.len, hatc.els⟩
      exact ⟨fun hw => ⟨(⟨_, y.H.n + 1 + 1, y.cs ++ [y.H.n], y.rows ++ [[ps[k].id, ps[m].id]]⟩, m + 1), ⟨hoky.add hwf0 hwy (Nat.le_refl _) hyb0 _ _, hat2, by simp only; omega, by simp only; omega, hmlt, by rw [← List.map_append]; exact hn2⟩, by simp only; omega, .since (by simp only [push_n, kill_n]; omega) hw (.refl _) (by simp [frOk, AV.okR, AV.ok1, AC.okR, AV.ren, AV.ren1, AC.ren, AFrame.get, pl1_old, *]; first | done | rfl | omega)⟩⟩
  simp (config := {contextual := true, implicitDefEqProofs := false, maxSteps := 2000000}) [-Int.not_le, -Int.not_lt, argsF, spec_DoubtfulPairs_c, hat_ps.blk, hat_ps.esz, hat_ps.len, hon_ps, hne_ps, hne1_ps, hne2_ps.1, hne2_ps.2.1, hne2_ps.2.2.1, hne2_ps.2.2.2.1, hne2_ps.2.2.2.2.1, hne2_ps.2.2.2.2.2.1, hne2_ps.2.2.2.2.2.2.1, hne2_ps.2.2.2.2.2.2.2.1, hne2_ps.2.2.2.2.2.2.2.2.1, hne2_ps.2.2.2.2.2.2.2.2.2.1, hne2_ps.2.2.2.2.2.2.2.2.2.2, hsr, hsp, hst, hss, hsk, hv, hr, hpl, hl]
  refine aloop_heap (X := CX × Nat) (fun x => [(0, .c (.sl b_ps i_ps ps.length)), (1, .c (.int .i64 (limit))), (6, .c (.sl (x.1.b) (0) (x.1.rows.length))), (7, .c (.int .i64 ((x.2 : Int))))]) (fun x => x.1.H)
    (fun x => x.1.Ok H H.n ∧ x.2 ≤ ps.length ∧ x.1.rows = (dpS ps limit x.2).map (dpR ps)) (fun x => ps.length - x.2) hE _
    (⟨H.push (iiK [] []), H.n, [], []⟩, 0) ⟨⟨Sub.push hwf (.refl _) _, iiK_rows, by simp⟩, Nat.zero_le _, rfl⟩ (fun hw0 => .since (by simp only [push_n]; omega) hw0 (.refl _) (by simp [frOk, AV.okR, AV.ok1, AC.okR, AV.ren, AV.ren1, AC.ren, AFrame.get, pl1_old, *]; first | done | rfl | omega)) (fun x hx hwx => ?_)
  obtain ⟨x, k⟩ := x
  obtain ⟨hok, hk, hrw⟩ := hx
  simp only at hok hk hrw
  have hnx0 := hok.sub.1.1
  have hxb0 : x.b < x.H.n := hok.rows.bnd hwx _ (by simp)
  rcases Nat.lt_or_ge k ps.length with hlt | hge
  rotate_left
  · obtain rfl : k = ps.length := by omega
    simp (config := {contextual := true, implicitDefEqProofs := false, maxSteps := 2000000}) [-Int.not_le, -Int.not_lt, argsF, spec_DoubtfulPairs_l1]
    rw [← hrw] at h
    exact Out.whole hnx0 (by simp [frOk, AV.okR, AV.ok1, AC.okR, AV.ren, AV.ren1, AC.ren, AFrame.get, pl1_old, *]; first | done | rfl | omega) fun hw => Stop.go h x.H x.b x.cs hw hok.sub hok.rows hok.ge
  have hj1 := idx_lt hlt
  have w1 : IntKind.i64.wrap ((k : Int) + 1) = (k : Int) + 1 := wrap_id (by omega) (by omega)
  have hk0 : (0 ≤ (k : Int)) = True := eq_true (by omega)
  have hpx := hat_ps.sub hok.sub
  have hpxo := hpx.on
  have hrr := SubE.refl x.H
  simp (config := {contextual := true, implicitDefEqProofs := false, maxSteps := 2000000}) [-Int.not_le, -Int.not_lt, argsF, spec_DoubtfulPairs_l1, hpx.blk, hpx.esz, hpx.len, hpxo, hrr, hrr.toRo, hj1, hlt, hk0, hpl, hl]
  refine Stop.mk fun H2 b2 o2 k2 hw2 hs2 hat2 => ?_
  have hrows := hok.rows.sub hs2
  have hok2 : (⟨H2, x.b, x.cs, x.rows⟩ : CX).Ok H H.n := ⟨hok.sub.trans hs2, hrows, hok.ge⟩
  have hm : k ∈ comp (edge ps limit) ps.length k := mem_comp.2 (.refl hlt)
  have hne : b2 ≠ x.b := fun e => by
    have e1 := hat2.blk
    rw [e, hrows.blk] at e1
    have hpos : 0 < (nats (comp (edge ps limit) ps.length k)).length := by rw [nats_len]; exact List.length_pos_of_mem hm
    have e2 := hat2.get (j := 0) hpos
    cases e1
    rw [iiK_els, List.getElem?_zipWith] at e2
    cases h1 : x.cs[o2 + 0]? <;> cases h2 : x.rows[o2 + 0]? <;> rw [h1, h2] at e2 <;> cases e2
  simp (config := {contextual := true, implicitDefEqProofs := false, maxSteps := 2000000}) [-Int.not_le, -Int.not_lt, argsF, w1]
  refine key0 ⟨H2, x.b, x.cs, x.rows⟩ b2 o2 k2 _ k hok2 hat2 hne rfl hlt hrw fun z h1 hzb h3 => ?_
  have hnz := h1.sub.1.1
  simp (config := {contextual := true, implicitDefEqProofs := false, maxSteps := 2000000}) [-Int.not_le, -Int.not_lt, argsF, w1]
  exact ⟨fun hw => ⟨(z, k + 1), ⟨h1, hlt, h3⟩, by simp only; omega, .since hnz hw (.refl _) (by simp [frOk, AV.okR, AV.ok1, AC.okR, AV.ren, AV.ren1, AC.ren, AFrame.get, pl1_old, *]; first | done | rfl | omega)⟩⟩

end Go.Proofs.Ytafenginfojcmaa
