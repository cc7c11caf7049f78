/- The doubtful pairs, by the program. -/
import Derived.Test.YtafenginfojcmaaSiDp
set_option maxRecDepth 8000
set_option linter.unusedSimpArgs false
set_option linter.unusedVariables false
namespace Go.Proofs.Ytafenginfojcmaa
open Go Go.RowKit

set_option maxHeartbeats 4000000

def q_dp : Con := fun args H K => match args with
  | [ps_v, .c (.int .i64 limit)] => eSi.rd H (fun ps => (∀ p ∈ ps, p.traits.length ≤ 1048576) ∧ Stop (∀ H' b cs, H'.WF → Sub H H' → IIRows H' b cs (dpRes ps limit).1 → (∀ c ∈ b :: cs, H.n ≤ c) → K (.tup [.c (.sl (b) (0) ((dpRes ps limit).1.length)), .c (.bool ((dpRes ps limit).2))]) H') ()) ps_v
  | _ => False
@[simp ↓] theorem q_dp_eq (ps_v : AV) (limit : Int) (H : AHeap) (K : AV → AHeap → Prop) : q_dp [ps_v, .c (.int .i64 limit)] H K = (eSi.rd H (fun ps => (∀ p ∈ ps, p.traits.length ≤ 1048576) ∧ Stop (∀ H' b cs, H'.WF → Sub H H' → IIRows H' b cs (dpRes ps limit).1 → (∀ c ∈ b :: cs, H.n ≤ c) → K (.tup [.c (.sl (b) (0) ((dpRes ps limit).1.length)), .c (.bool ((dpRes ps limit).2))]) H') ()) ps_v) := rfl

theorem impl_DoubtfulPairs_s : Sound Try.prog 24 q_dp := by
  intro args H K h
  unfold q_dp at h
  split at h
  rotate_left
  all_goals first | exact False.elim h | skip
  rename_i ps_v limit
  have h1 := EncH.rd_at h
  clear h
  obtain ⟨b_ps, i_ps, k_ps, ps, rfl, hat_ps, h⟩ := h1
  have hE := soundE_cons impl_areSightings_s (soundE_cons impl_inRange_s (soundE_cons impl_sightingGroups_s (soundE_cons impl_evidence_s (soundE_cons slices_SortFunc_____int___int_s (soundE_nil (P := Try.prog))))))
  refine acalls_fn impl_DoubtfulPairs_k hE ⟨by simp, fun hwf => ?_⟩
  have hsr : SubE H H := SubE.refl H
  have hsp : ∀ H' k, H.n ≤ H'.n → SubE H H' → SubE H (H'.push k) := fun H' k hn hs => SubE.push hwf hn hs k
  have hst : ∀ H', SubE H H' → SubE H H'.toRo := fun H' hs => hs.toRo
  have hss : ∀ H' i k, H.n ≤ i → SubE H H' → SubE H (H'.set i k) := fun H' i k hn hs => SubE.set hwf hn hs k
  have hsk : ∀ H' i, H.n ≤ i → SubE H H' → SubE H (H'.kill i) := fun H' i hn hs => SubE.kill hwf hn hs
  have hon_ps := hat_ps.on
  have hb_ps : b_ps < H.n := (hwf b_ps k_ps hat_ps.blk).1
  have hne_ps : (b_ps = H.n) = False := eq_false (by omega)
  have hne1_ps : ∀ i, (b_ps = H.n + i) = False := fun i => eq_false (by omega)
  have hne2_ps : (b_ps = H.n + 1 + 1) = False ∧ (b_ps = H.n + 1 + 1 + 1) = False ∧ (b_ps = H.n + 1 + 1 + 1 + 1) = False ∧ (b_ps = H.n + 1 + 1 + 1 + 1 + 1) = False ∧ (b_ps = H.n + 1 + 1 + 1 + 1 + 1 + 1) = False ∧ (b_ps = H.n + 1 + 1 + 1 + 1 + 1 + 1 + 1) = False ∧ (b_ps = H.n + 1 + 1 + 1 + 1 + 1 + 1 + 1 + 1) = False ∧ (b_ps = H.n + 1 + 1 + 1 + 1 + 1 + 1 + 1 + 1 + 1) = False ∧ (b_ps = H.n + 1 + 1 + 1 + 1 + 1 + 1 + 1 + 1 + 1 + 1) = False ∧ (b_ps = H.n + 1 + 1 + 1 + 1 + 1 + 1 + 1 + 1 + 1 + 1 + 1) = False ∧ (b_ps = H.n + 1 + 1 + 1 + 1 + 1 + 1 + 1 + 1 + 1 + 1 + 1 + 1) = False := ⟨eq_false (by omega), eq_false (by omega), eq_false (by omega), eq_false (by omega), eq_false (by omega), eq_false (by omega), eq_false (by omega), eq_false (by omega), eq_false (by omega), eq_false (by omega), eq_false (by omega)⟩
  have hmx_ps : ps.length ≤ 9223372036854775807 := by have h1 := (hwf b_ps k_ps hat_ps.blk).2.2; have h2 := hat_ps.len; omega
  obtain ⟨hl, h⟩ := h
  by_cases hv : areSi ps = true
  rotate_left
  · have hR : dpRes ps limit = ([], false) := by unfold dpRes; rw [if_neg hv]
    rw [hR] at h
    simp (config := {contextual := true, implicitDefEqProofs := false, maxSteps := 2000000}) [-Int.not_le, -Int.not_lt, argsF, impl_DoubtfulPairs_c, hat_ps.blk, hat_ps.esz, hat_ps.len, hon_ps, hne_ps, hne1_ps, hne2_ps.1, hne2_ps.2.1, hne2_ps.2.2.1, hne2_ps.2.2.2.1, hne2_ps.2.2.2.2.1, hne2_ps.2.2.2.2.2.1, hne2_ps.2.2.2.2.2.2.1, hne2_ps.2.2.2.2.2.2.2.1, hne2_ps.2.2.2.2.2.2.2.2.1, hne2_ps.2.2.2.2.2.2.2.2.2.1, hne2_ps.2.2.2.2.2.2.2.2.2.2, hsr, hsp, hst, hss, hsk, hv]
    exact .one (k := iiK [] []) (c := none) hwf (.refl _) ⟨rfl, rfl⟩ (by simp) (by simp [frOk, AV.okR, AV.ok1, AC.okR, AV.ren, AV.ren1, AC.ren, AFrame.get, pl1_old, *]; first | done | rfl | omega) (Stop.go h (H.push (iiK [] [])) H.n [] (WF.push hwf (by simp) (by simp)) (Sub.push hwf (.refl _) _) iiK_rows (by simp))
  by_cases hr : inR limit (-30) 16 = true
  rotate_left
  · have hR : dpRes ps limit = ([], false) := by unfold dpRes; rw [if_pos hv, if_neg hr]
    rw [hR] at h
    simp (config := {contextual := true, implicitDefEqProofs := false, maxSteps := 2000000}) [-Int.not_le, -Int.not_lt, argsF, impl_DoubtfulPairs_c, hat_ps.blk, hat_ps.esz, hat_ps.len, hon_ps, hne_ps, hne1_ps, hne2_ps.1, hne2_ps.2.1, hne2_ps.2.2.1, hne2_ps.2.2.2.1, hne2_ps.2.2.2.2.1, hne2_ps.2.2.2.2.2.1, hne2_ps.2.2.2.2.2.2.1, hne2_ps.2.2.2.2.2.2.2.1, hne2_ps.2.2.2.2.2.2.2.2.1, hne2_ps.2.2.2.2.2.2.2.2.2.1, hne2_ps.2.2.2.2.2.2.2.2.2.2, hsr, hsp, hst, hss, hsk, hv, hr]
    exact .one (k := iiK [] []) (c := none) hwf (.refl _) ⟨rfl, rfl⟩ (by simp) (by simp [frOk, AV.okR, AV.ok1, AC.okR, AV.ren, AV.ren1, AC.ren, AFrame.get, pl1_old, *]; first | done | rfl | omega) (Stop.go h (H.push (iiK [] [])) H.n [] (WF.push hwf (by simp) (by simp)) (Sub.push hwf (.refl _) _) iiK_rows (by simp))
  have hR : dpRes ps limit = ((dpS ps limit ps.length).map (dpR ps), true) := by unfold dpRes; rw [if_pos hv, if_pos hr]
  rw [hR] at h
  have hsym := edge_sym (limit := limit) (areSi_nd hv)
  have hpl := areSi_len hv

  simp (config := {contextual := true, implicitDefEqProofs := false, maxSteps := 2000000}) [-Int.not_le, -Int.not_lt, argsF, impl_DoubtfulPairs_c, hat_ps.blk, hat_ps.esz, hat_ps.len, hon_ps, hne_ps, hne1_ps, hne2_ps.1, hne2_ps.2.1, hne2_ps.2.2.1, hne2_ps.2.2.2.1, hne2_ps.2.2.2.2.1, hne2_ps.2.2.2.2.2.1, hne2_ps.2.2.2.2.2.2.1, hne2_ps.2.2.2.2.2.2.2.1, hne2_ps.2.2.2.2.2.2.2.2.1, hne2_ps.2.2.2.2.2.2.2.2.2.1, hne2_ps.2.2.2.2.2.2.2.2.2.2, hsr, hsp, hst, hss, hsk, hv, hr, hpl, hl, hsym]
  refine Stop.mk fun H1 b1 k1 hw1 hs1 hat1 => ?_
  have hn1 : H.n ≤ H1.n := hs1.1.1
  have hb1 : b1 < H1.n := (hw1 _ _ hat1.blk).1
  have hbp : b_ps < H1.n := by omega
  have hall : ∀ g ∈ groupsTo (edge ps limit) ps.length ps.length, ∀ x ∈ g, x < ps.length := fun g hg x hx => by
    unfold groupsTo at hg
    obtain ⟨i, _, rfl⟩ := List.mem_map.1 hg
    exact (mem_comp.1 hx).lt
  have hlen : ∀ g ∈ groupsTo (edge ps limit) ps.length ps.length, g.length ≤ ps.length := fun g hg => by
    unfold groupsTo at hg
    obtain ⟨i, _, rfl⟩ := List.mem_map.1 hg
    exact nodup_len _ _ (comp_up.imp fun {a b} h => by omega) fun x hx => (mem_comp.1 hx).lt
  have hgl := groupsTo_len (edge ps limit) ps.length ps.length
  have hP : ∀ (rows : List (List Int)), rows.Perm ((dpP ps limit).map (dpR ps)) → rows.Pairwise lexL → rows = (dpS ps limit ps.length).map (dpR ps) := fun rows => dp_same hv
  have hPn := dp_nd (limit := limit) hv
  have hP2 : ∀ p ∈ (dpP ps limit).map (dpR ps), p.length = 2 := fun p hp => by
    obtain ⟨q, _, rfl⟩ := List.mem_map.1 hp
    rfl
  have hPl : ((dpP ps limit).map (dpR ps)).length ≤ 100 := by
    rw [List.length_map, (dpP_perm hsym).length_eq]
    exact Nat.le_trans (dpS_len ps limit ps.length) (Nat.le_trans (Nat.mul_le_mul hpl hpl) (by decide))
  have hdp : (dpP ps limit).map (dpR ps) = ((groupsTo (edge ps limit) ps.length ps.length).flatMap (pG ps limit)).map (dpR ps) := rfl
  generalize (dpP ps limit).map (dpR ps) = TT at hP hPn hP2 hPl hdp
  generalize (dpS ps limit ps.length).map (dpR ps) = SS at h hP
  generalize hgs : groupsTo (edge ps limit) ps.length ps.length = gs at hat1 hgl hall hlen hdp
  simp (config := {contextual := true, implicitDefEqProofs := false, maxSteps := 2000000}) [-Int.not_le, -Int.not_lt, argsF, hat1.blk, hat1.esz, hgs]
  have key0 : ∀ {Q : Exit → AFrame → AHeap → Prop} (x : CX) (c o : Nat) (kc : ABlk) (gg : List Nat) (jj i a : Nat) (R2 : List (List Int)), x.Ok H1 H.n → H1.n ≤ x.b → eI.At H1 c o kc (nats gg) → (∀ x ∈ gg, x < ps.length) → gg.length ≤ ps.length → i + 1 ≤ gg.length → a < ps.length → x.rows ++ ((pI ps limit a (gg.drop (i + 1))).map (dpR ps) ++ R2) = TT →
      (∀ y : CX, y.Ok H1 H.n → H1.n ≤ y.b → y.b < y.H.n → y.rows ++ R2 = TT → Q (.exit 4) ([(0, .c (.sl b_ps i_ps ps.length)), (1, .c (.int .i64 (limit))), (6, .c (.sl (y.b) (0) (y.rows.length))), (8, .c (.sl (c) (o) (gg.length))), (10, .c (.int .i64 ((a : Int)))), (23, .c (.sl (b1) (0) (gs.length))), (24, .c (.int .i64 gs.length)), (25, .c (.int .i64 ((jj : Int)))), (29, .c (.sl (c) (o) (gg.length))), (30, .c (.int .i64 gg.length)), (31, .c (.int .i64 ((i : Int)))), (39, .c (.sl (c) (o + (i + 1)) (gg.length - (i + 1)))), (40, .c (.int .i64 (((gg.length - (i + 1) : Nat) : Int)))), (41, .c (.int .i64 (((gg.length - (i + 1) : Nat) : Int)))), (42, .c (.bool (false)))]) y.H) → ALoop Try.prog 76 H.n impl_DoubtfulPairs_l0 ([(0, .c (.sl b_ps i_ps ps.length)), (1, .c (.int .i64 (limit))), (6, .c (.sl (x.b) (0) (x.rows.length))), (8, .c (.sl (c) (o) (gg.length))), (10, .c (.int .i64 ((a : Int)))), (23, .c (.sl (b1) (0) (gs.length))), (24, .c (.int .i64 gs.length)), (25, .c (.int .i64 ((jj : Int)))), (29, .c (.sl (c) (o) (gg.length))), (30, .c (.int .i64 gg.length)), (31, .c (.int .i64 ((i : Int)))), (39, .c (.sl (c) (o + (i + 1)) (gg.length - (i + 1)))), (40, .c (.int .i64 (((gg.length - (i + 1) : Nat) : Int)))), (41, .c (.int .i64 (0)))]) x.H Q := by
    intro Q x c o kc gg jj i a R2 hok hbn hatc1 hgall hglen hi ha hrw hQ
    have hnx1 := hok.sub.1.1
    have hnx : H.n ≤ x.H.n := by omega
    have hcb : c < H1.n := (hw1 _ _ hatc1.blk).1
    refine aloop_heap (X := CX × Nat) (fun y => [(0, .c (.sl b_ps i_ps ps.length)), (1, .c (.int .i64 (limit))), (6, .c (.sl (y.1.b) (0) (y.1.rows.length))), (8, .c (.sl (c) (o) (gg.length))), (10, .c (.int .i64 ((a : Int)))), (23, .c (.sl (b1) (0) (gs.length))), (24, .c (.int .i64 gs.length)), (25, .c (.int .i64 ((jj : Int)))), (29, .c (.sl (c) (o) (gg.length))), (30, .c (.int .i64 gg.length)), (31, .c (.int .i64 ((i : Int)))), (39, .c (.sl (c) (o + (i + 1)) (gg.length - (i + 1)))), (40, .c (.int .i64 (((gg.length - (i + 1) : Nat) : Int)))), (41, .c (.int .i64 ((y.2 : Int))))]) (fun y => y.1.H) (fun y => y.1.Ok H1 H.n ∧ H1.n ≤ y.1.b ∧ y.2 ≤ gg.length - (i + 1) ∧ y.1.rows ++ ((pI ps limit a (gg.drop (i + 1 + y.2))).map (dpR ps) ++ R2) = TT) (fun y => gg.length - (i + 1) - y.2) hE _ (x, 0) ⟨hok, hbn, Nat.zero_le _, hrw⟩ (fun hw0 => by have hxb : x.b < x.H.n := hok.rows.bnd hw0 _ (by simp); exact .since hnx hw0 (.refl _) (by simp [frOk, AV.okR, AV.ok1, AC.okR, AV.ren, AV.ren1, AC.ren, AFrame.get, pl1_old, *]; first | done | rfl | omega)) (fun y hy hwy => ?_)
    obtain ⟨y, q⟩ := y
    obtain ⟨hoky, hbny, hq, hrwy⟩ := hy
    simp only at hoky hbny hq hrwy
    have hny1 := hoky.sub.1.1
    have hny : H.n ≤ y.H.n := by omega
    have hyb : y.b < y.H.n := hoky.rows.bnd hwy _ (by simp)
    rcases Nat.lt_or_ge q (gg.length - (i + 1)) with hqlt | hqge
    rotate_left
    · have hqe : q = gg.length - (i + 1) := by omega
      rw [List.drop_eq_nil_of_le (by omega)] at hrwy
      have hnl : ¬ (q : Int) < ((gg.length - (i + 1) : Nat) : Int) := by omega
      clear hrw
      subst hqe
      simp (config := {contextual := true, implicitDefEqProofs := false, maxSteps := 2000000}) [-Int.not_le, -Int.not_lt, argsF, impl_DoubtfulPairs_l0]
      exact hQ y hoky hbny hyb hrwy
    have hk0 : i + 1 + q < gg.length := by omega
    have hq1 : (q : Int) < ((gg.length - (i + 1) : Nat) : Int) := by omega
    have w2 : IntKind.i64.wrap ((q : Int) + 1) = (q : Int) + 1 := wrap_id (by omega) (by omega)
    have hatc : eI.At y.H c o kc (nats gg) := ⟨hoky.sub.1.2 _ _ hatc1.blk, hatc1.esz, hatc1.len, hatc1.els⟩
    have er := hatc.get (j := i + 1 + q) (by rw [nats_len]; exact hk0)
    rw [show (nats gg)[i + 1 + q]'(by rw [nats_len]; exact hk0) = (gg[i + 1 + q] : Int) by simp [nats], ← Nat.add_assoc o (i + 1) q] at er
    have hkp := hgall _ (List.getElem_mem hk0)
    rw [List.drop_eq_getElem_cons hk0, pI_c, List.map_append, List.append_assoc] at hrwy
    generalize gg[i + 1 + q] = k at er hkp hrwy
    have hai : ((a : Int) < (ps.length : Int)) = True := eq_true (by omega)
    have hki : ((k : Int) < (ps.length : Int)) = True := eq_true (by omega)
    have hrb := hoky.rows.blk
    have hrl := hoky.rows.len
    have hll0 := congrArg List.length hrwy
    simp only [List.length_append] at hll0
    have hb3 : (y.rows.length + 1) * 24 ≤ 140737488355328 := by omega
    have hb4 : y.rows.length + 1 ≤ 140737488355328 := by omega
    have qc : (c = y.H.n) = False := eq_false (by omega)
    have qp : (b_ps = y.H.n) = False := eq_false (by omega)
    have qb : (y.b = y.H.n) = False := eq_false (by omega)
    have qb2 : (y.b = y.H.n + 1) = False := eq_false (by omega)
    have hat_ps1 : eSi.At H1 b_ps i_ps k_ps ps := hat_ps.sub hs1
    have hat_ps : eSi.At y.H b_ps i_ps k_ps ps := hat_ps1.sub hoky.sub
    have hwf0 := hwf
    have hwf := hwy
    obtain ⟨ex_u, e_u, hd_u⟩ := hat_ps.get ha
    obtain ⟨b_u, i_u, k_u, rfl, hat_u, htx_u⟩ := eSi_at hd_u
    have hb_u : b_u < y.H.n := (hwf b_u k_u hat_u.blk).1
    have hne_u : (b_u = y.H.n) = False := eq_false (by omega)
    have hne1_u : ∀ i, (b_u = y.H.n + i) = False := fun i => eq_false (by omega)
    have hne2_u : (b_u = y.H.n + 1 + 1) = False ∧ (b_u = y.H.n + 1 + 1 + 1) = False ∧ (b_u = y.H.n + 1 + 1 + 1 + 1) = False ∧ (b_u = y.H.n + 1 + 1 + 1 + 1 + 1) = False ∧ (b_u = y.H.n + 1 + 1 + 1 + 1 + 1 + 1) = False ∧ (b_u = y.H.n + 1 + 1 + 1 + 1 + 1 + 1 + 1) = False ∧ (b_u = y.H.n + 1 + 1 + 1 + 1 + 1 + 1 + 1 + 1) = False ∧ (b_u = y.H.n + 1 + 1 + 1 + 1 + 1 + 1 + 1 + 1 + 1) = False ∧ (b_u = y.H.n + 1 + 1 + 1 + 1 + 1 + 1 + 1 + 1 + 1 + 1) = False ∧ (b_u = y.H.n + 1 + 1 + 1 + 1 + 1 + 1 + 1 + 1 + 1 + 1 + 1) = False ∧ (b_u = y.H.n + 1 + 1 + 1 + 1 + 1 + 1 + 1 + 1 + 1 + 1 + 1 + 1) = False := ⟨eq_false (by omega), eq_false (by omega), eq_false (by omega), eq_false (by omega), eq_false (by omega), eq_false (by omega), eq_false (by omega), eq_false (by omega), eq_false (by omega), eq_false (by omega), eq_false (by omega)⟩
    obtain ⟨ex_v, e_v, hd_v⟩ := hat_ps.get hkp
    obtain ⟨b_v, i_v, k_v, rfl, hat_v, htx_v⟩ := eSi_at hd_v
    have hb_v : b_v < y.H.n := (hwf b_v k_v hat_v.blk).1
    have hne_v : (b_v = y.H.n) = False := eq_false (by omega)
    have hne1_v : ∀ i, (b_v = y.H.n + i) = False := fun i => eq_false (by omega)
    have hne2_v : (b_v = y.H.n + 1 + 1) = False ∧ (b_v = y.H.n + 1 + 1 + 1) = False ∧ (b_v = y.H.n + 1 + 1 + 1 + 1) = False ∧ (b_v = y.H.n + 1 + 1 + 1 + 1 + 1) = False ∧ (b_v = y.H.n + 1 + 1 + 1 + 1 + 1 + 1) = False ∧ (b_v = y.H.n + 1 + 1 + 1 + 1 + 1 + 1 + 1) = False ∧ (b_v = y.H.n + 1 + 1 + 1 + 1 + 1 + 1 + 1 + 1) = False ∧ (b_v = y.H.n + 1 + 1 + 1 + 1 + 1 + 1 + 1 + 1 + 1) = False ∧ (b_v = y.H.n + 1 + 1 + 1 + 1 + 1 + 1 + 1 + 1 + 1 + 1) = False ∧ (b_v = y.H.n + 1 + 1 + 1 + 1 + 1 + 1 + 1 + 1 + 1 + 1 + 1) = False ∧ (b_v = y.H.n + 1 + 1 + 1 + 1 + 1 + 1 + 1 + 1 + 1 + 1 + 1 + 1) = False := ⟨eq_false (by omega), eq_false (by omega), eq_false (by omega), eq_false (by omega), eq_false (by omega), eq_false (by omega), eq_false (by omega), eq_false (by omega), eq_false (by omega), eq_false (by omega), eq_false (by omega)⟩
    have hla := hl _ (List.getElem_mem ha)
    have hlb := hl _ (List.getElem_mem hkp)
    have hsa : sid ps a = ps[a].id := by simp [sid, List.getD_eq_getElem?_getD, ha]
    have hsk : sid ps k = ps[k].id := by simp [sid, List.getD_eq_getElem?_getD, hkp]
    have hed : edge ps limit a k = decide (limit ≤ evid ps[a] ps[k]) := by simp [edge, List.getD_eq_getElem?_getD, ha, hkp]
    clear hrw hQ
    by_cases he : limit ≤ evid ps[a] ps[k]
    · rw [if_pos (by rw [hed]; exact decide_eq_true he)] at hrwy
      have he2 : ¬ evid ps[a] ps[k] < limit := by omega
      simp (config := {contextual := true, implicitDefEqProofs := false, maxSteps := 2000000}) [-Int.not_le, -Int.not_lt, argsF, impl_DoubtfulPairs_l0, hq1, hqlt, hatc.blk, hatc.esz, er, hat_ps.blk, hat_ps.esz, hat_ps.len, hon_ps, hne_ps, hne1_ps, hne2_ps.1, hne2_ps.2.1, hne2_ps.2.2.1, hne2_ps.2.2.2.1, hne2_ps.2.2.2.2.1, hne2_ps.2.2.2.2.2.1, hne2_ps.2.2.2.2.2.2.1, hne2_ps.2.2.2.2.2.2.2.1, hne2_ps.2.2.2.2.2.2.2.2.1, hne2_ps.2.2.2.2.2.2.2.2.2.1, hne2_ps.2.2.2.2.2.2.2.2.2.2, hai, hki, ha, hkp, e_u, htx_u, hat_u.blk, hat_u.esz, hat_u.len, hat_u.els, hne_u, hne1_u, hne2_u.1, hne2_u.2.1, hne2_u.2.2.1, hne2_u.2.2.2.1, hne2_u.2.2.2.2.1, hne2_u.2.2.2.2.2.1, hne2_u.2.2.2.2.2.2.1, hne2_u.2.2.2.2.2.2.2.1, hne2_u.2.2.2.2.2.2.2.2.1, hne2_u.2.2.2.2.2.2.2.2.2.1, hne2_u.2.2.2.2.2.2.2.2.2.2, e_v, htx_v, hat_v.blk, hat_v.esz, hat_v.len, hat_v.els, hne_v, hne1_v, hne2_v.1, hne2_v.2.1, hne2_v.2.2.1, hne2_v.2.2.2.1, hne2_v.2.2.2.2.1, hne2_v.2.2.2.2.2.1, hne2_v.2.2.2.2.2.2.1, hne2_v.2.2.2.2.2.2.2.1, hne2_v.2.2.2.2.2.2.2.2.1, hne2_v.2.2.2.2.2.2.2.2.2.1, hne2_v.2.2.2.2.2.2.2.2.2.2, hla, hlb, he2, w2]
      have hnx2 : y.rows ++ ((pI ps limit a (gg.drop (i + 1 + (q + 1)))).map (dpR ps) ++ R2) = TT := by rw [show i + 1 + (q + 1) = i + 1 + q + 1 by omega]; simpa using hrwy
      exact ⟨fun hw => ⟨(y, q + 1), ⟨hoky, hbny, hqlt, hnx2⟩, by simp only; omega, .since hny hw (.refl _) (by simp [frOk, AV.okR, AV.ok1, AC.okR, AV.ren, AV.ren1, AC.ren, AFrame.get, pl1_old, *]; first | done | rfl | omega)⟩⟩
    · rw [if_neg (by rw [hed]; simpa using he)] at hrwy
      have he2 : evid ps[a] ps[k] < limit := by omega
      simp (config := {contextual := true, implicitDefEqProofs := false, maxSteps := 2000000}) [-Int.not_le, -Int.not_lt, argsF, impl_DoubtfulPairs_l0, hq1, hqlt, hatc.blk, hatc.esz, er, hat_ps.blk, hat_ps.esz, hat_ps.len, hon_ps, hne_ps, hne1_ps, hne2_ps.1, hne2_ps.2.1, hne2_ps.2.2.1, hne2_ps.2.2.2.1, hne2_ps.2.2.2.2.1, hne2_ps.2.2.2.2.2.1, hne2_ps.2.2.2.2.2.2.1, hne2_ps.2.2.2.2.2.2.2.1, hne2_ps.2.2.2.2.2.2.2.2.1, hne2_ps.2.2.2.2.2.2.2.2.2.1, hne2_ps.2.2.2.2.2.2.2.2.2.2, hai, hki, ha, hkp, e_u, htx_u, hat_u.blk, hat_u.esz, hat_u.len, hat_u.els, hne_u, hne1_u, hne2_u.1, hne2_u.2.1, hne2_u.2.2.1, hne2_u.2.2.2.1, hne2_u.2.2.2.2.1, hne2_u.2.2.2.2.2.1, hne2_u.2.2.2.2.2.2.1, hne2_u.2.2.2.2.2.2.2.1, hne2_u.2.2.2.2.2.2.2.2.1, hne2_u.2.2.2.2.2.2.2.2.2.1, hne2_u.2.2.2.2.2.2.2.2.2.2, e_v, htx_v, hat_v.blk, hat_v.esz, hat_v.len, hat_v.els, hne_v, hne1_v, hne2_v.1, hne2_v.2.1, hne2_v.2.2.1, hne2_v.2.2.2.1, hne2_v.2.2.2.2.1, hne2_v.2.2.2.2.2.1, hne2_v.2.2.2.2.2.2.1, hne2_v.2.2.2.2.2.2.2.1, hne2_v.2.2.2.2.2.2.2.2.1, hne2_v.2.2.2.2.2.2.2.2.2.1, hne2_v.2.2.2.2.2.2.2.2.2.2, hla, hlb, he2, w2, hrb, hrl, qc, qp, qb, qb2, hb3, hb4]
      rw [iiK_add (m := 2) (C := [ps[a].id, ps[k].id]) hrl rfl]
      have hnx2 : (y.rows ++ [[ps[a].id, ps[k].id]]) ++ ((pI ps limit a (gg.drop (i + 1 + (q + 1)))).map (dpR ps) ++ R2) = TT := by
        rw [show i + 1 + (q + 1) = i + 1 + q + 1 by omega, List.append_assoc, ← hsa, ← hsk]
        exact hrwy
      exact ⟨fun hw => ⟨(⟨_, y.H.n + 1 + 1, y.cs ++ [y.H.n], y.rows ++ [[ps[a].id, ps[k].id]]⟩, q + 1), ⟨hoky.add hw1 hwy hn1 hbny _ _, by simp only; omega, hqlt, hnx2⟩, by simp only; omega, .since (by simp only [push_n, kill_n]; omega) hw (.refl _) (by simp [frOk, AV.okR, AV.ok1, AC.okR, AV.ren, AV.ren1, AC.ren, AFrame.get, pl1_old, *]; first | done | rfl | omega)⟩⟩
  have key1 : ∀ {Q : Exit → AFrame → AHeap → Prop} (x : CX) (c o : Nat) (kc : ABlk) (gg : List Nat) (j : Nat) (RR : List (List Int)), x.Ok H1 H.n → H1.n ≤ x.b → eI.At H1 c o kc (nats gg) → (∀ x ∈ gg, x < ps.length) → gg.length ≤ ps.length → x.rows ++ ((pG ps limit gg).map (dpR ps) ++ RR) = TT →
      (∀ y : CX, y.Ok H1 H.n → H1.n ≤ y.b → y.b < y.H.n → y.rows ++ RR = TT → Q (.exit 2) ([(0, .c (.sl b_ps i_ps ps.length)), (1, .c (.int .i64 (limit))), (6, .c (.sl (y.b) (0) (y.rows.length))), (8, .c (.sl (c) (o) (gg.length))), (23, .c (.sl (b1) (0) (gs.length))), (24, .c (.int .i64 gs.length)), (25, .c (.int .i64 ((j : Int)))), (29, .c (.sl (c) (o) (gg.length))), (30, .c (.int .i64 gg.length)), (31, .c (.int .i64 gg.length)), (32, .c (.bool (false)))]) y.H) → ALoop Try.prog 76 H.n impl_DoubtfulPairs_l1 ([(0, .c (.sl b_ps i_ps ps.length)), (1, .c (.int .i64 (limit))), (6, .c (.sl (x.b) (0) (x.rows.length))), (8, .c (.sl (c) (o) (gg.length))), (23, .c (.sl (b1) (0) (gs.length))), (24, .c (.int .i64 gs.length)), (25, .c (.int .i64 ((j : Int)))), (29, .c (.sl (c) (o) (gg.length))), (30, .c (.int .i64 gg.length)), (31, .c (.int .i64 (0)))]) x.H Q := by
    intro Q x c o kc gg j RR hok hbn hatc1 hgall hglen hrw hQ
    have hnx1 := hok.sub.1.1
    have hnx : H.n ≤ x.H.n := by omega
    have hcb : c < H1.n := (hw1 _ _ hatc1.blk).1
    have hgl2 : (gg.length : Int) ≤ 10 := by omega
    refine aloop_heap (X := CX × Nat) (fun y => [(0, .c (.sl b_ps i_ps ps.length)), (1, .c (.int .i64 (limit))), (6, .c (.sl (y.1.b) (0) (y.1.rows.length))), (8, .c (.sl (c) (o) (gg.length))), (23, .c (.sl (b1) (0) (gs.length))), (24, .c (.int .i64 gs.length)), (25, .c (.int .i64 ((j : Int)))), (29, .c (.sl (c) (o) (gg.length))), (30, .c (.int .i64 gg.length)), (31, .c (.int .i64 ((y.2 : Int))))]) (fun y => y.1.H) (fun y => y.1.Ok H1 H.n ∧ H1.n ≤ y.1.b ∧ y.2 ≤ gg.length ∧ y.1.rows ++ ((pG ps limit (gg.drop y.2)).map (dpR ps) ++ RR) = TT) (fun y => gg.length - y.2) hE _ (x, 0) ⟨hok, hbn, Nat.zero_le _, by simpa using hrw⟩ (fun hw0 => by have hxb : x.b < x.H.n := hok.rows.bnd hw0 _ (by simp); exact .since hnx hw0 (.refl _) (by simp [frOk, AV.okR, AV.ok1, AC.okR, AV.ren, AV.ren1, AC.ren, AFrame.get, pl1_old, *]; first | done | rfl | omega)) (fun y hy hwy => ?_)
    obtain ⟨y, i⟩ := y
    obtain ⟨hoky, hbny, hi, hrwy⟩ := hy
    simp only at hoky hbny hi hrwy
    have hny1 := hoky.sub.1.1
    have hny : H.n ≤ y.H.n := by omega
    have hyb : y.b < y.H.n := hoky.rows.bnd hwy _ (by simp)
    rcases Nat.lt_or_ge i gg.length with hilt | hige
    rotate_left
    · obtain rfl : i = gg.length := by omega
      simp only [List.drop_length, pG, List.map_nil, List.nil_append] at hrwy
      simp (config := {contextual := true, implicitDefEqProofs := false, maxSteps := 2000000}) [-Int.not_le, -Int.not_lt, argsF, impl_DoubtfulPairs_l1]
      exact hQ y hoky hbny hyb hrwy
    have hi1 := idx_lt hilt
    have w2 : IntKind.i64.wrap ((i : Int) + 1) = (i : Int) + 1 := wrap_id (by omega) (by omega)
    have hatc : eI.At y.H c o kc (nats gg) := ⟨hoky.sub.1.2 _ _ hatc1.blk, hatc1.esz, hatc1.len, hatc1.els⟩
    have er := hatc.get (j := i) (by rw [nats_len]; exact hilt)
    rw [show (nats gg)[i]'(by rw [nats_len]; exact hilt) = (gg[i] : Int) by simp [nats]] at er
    have hcl := hatc.len
    rw [nats_len] at hcl
    have hia := hgall _ (List.getElem_mem hilt)
    rw [List.drop_eq_getElem_cons hilt, pG, List.map_append, List.append_assoc] at hrwy
    generalize hR2 : (pG ps limit (gg.drop (i + 1))).map (dpR ps) ++ RR = R2 at hrwy
    generalize gg[i] = a at hia er hrwy
    have m1 : ((gg.length : Int) - ((i : Int) + 1)).toNat = gg.length - (i + 1) := by omega
    have m2 : max ((gg.length : Int) - ((i : Int) + 1)) 0 = ((gg.length - (i + 1) : Nat) : Int) := by omega
    clear hrw hQ
    simp (config := {contextual := true, implicitDefEqProofs := false, maxSteps := 2000000}) [-Int.not_le, -Int.not_lt, argsF, impl_DoubtfulPairs_l1, hi1, hilt, hatc.blk, hatc.esz, er, hcl, w2, m1, m2]
    refine ⟨by omega, by omega, key0 y c o kc gg j i a R2 hoky hbny hatc1 hgall hglen (by omega) hia hrwy fun z h1 h2 hzb h3 => ?_⟩
    have hnz1 := h1.sub.1.1
    have hnz : H.n ≤ z.H.n := by omega
    simp (config := {contextual := true, implicitDefEqProofs := false, maxSteps := 2000000}) [-Int.not_le, -Int.not_lt, argsF, w2]
    exact ⟨fun hw => ⟨(z, i + 1), ⟨h1, h2, hilt, by rw [hR2]; exact h3⟩, by simp only; omega, .since hnz hw (.refl _) (by simp [frOk, AV.okR, AV.ok1, AC.okR, AV.ren, AV.ren1, AC.ren, AFrame.get, pl1_old, *]; first | done | rfl | omega)⟩⟩
  refine aloop_heap (X := CX × Nat) (fun x => [(0, .c (.sl b_ps i_ps ps.length)), (1, .c (.int .i64 (limit))), (6, .c (.sl (x.1.b) (0) (x.1.rows.length))), (23, .c (.sl (b1) (0) (gs.length))), (24, .c (.int .i64 gs.length)), (25, .c (.int .i64 ((x.2 : Int))))]) (fun x => x.1.H)
    (fun x => x.1.Ok H1 H.n ∧ H1.n ≤ x.1.b ∧ x.2 ≤ gs.length ∧ x.1.rows ++ ((gs.drop x.2).flatMap (pG ps limit)).map (dpR ps) = TT) (fun x => gs.length - x.2) hE _
    (⟨H1.push (iiK [] []), H1.n, [], []⟩, 0) ⟨⟨Sub.push hw1 (.refl _) _, iiK_rows, by simp; omega⟩, Nat.le_refl _, Nat.zero_le _, by simpa using hdp.symm⟩ (fun hw0 => .le hn1 (.one (c := none) hw1 (.refl _) ⟨rfl, rfl⟩ (by simp) (by simp [frOk, AV.okR, AV.ok1, AC.okR, AV.ren, AV.ren1, AC.ren, AFrame.get, pl1_old, *]; first | done | rfl | omega))) (fun x hx hwx => ?_)
  obtain ⟨x, j⟩ := x
  obtain ⟨hok, hbn, hj, hrw⟩ := hx
  simp only at hok hbn hj hrw
  have hnx1 := hok.sub.1.1
  have hnx : H.n ≤ x.H.n := by omega
  have hxb : x.b < x.H.n := hok.rows.bnd hwx _ (by simp)
  rcases Nat.lt_or_ge j gs.length with hlt | hge
  rotate_left
  · obtain rfl : j = gs.length := by omega
    simp only [List.drop_length, List.flatMap_nil, List.map_nil, List.append_nil] at hrw
    simp (config := {contextual := true, implicitDefEqProofs := false, maxSteps := 2000000}) [-Int.not_le, -Int.not_lt, argsF, impl_DoubtfulPairs_l2]
    refine Stop.mk ⟨x.cs, x.rows, rfl, rfl, rfl, rfl, hok.rows, by rw [hrw]; exact hPn, by rw [hrw]; exact hP2, by rw [hrw]; omega, fun cs' rows' hp hs hm hII => ?_⟩
    have er := hP rows' (by rw [← hrw]; exact hp) hs
    subst er
    have hll := hp.length_eq
    rw [← hll]
    refine Out.whole hnx (by simp [frOk, AV.okR, AV.ok1, AC.okR, AV.ren, AV.ren1, AC.ren, AFrame.get, pl1_old, *]; first | done | rfl | omega) fun hw => Stop.go h (x.H.set x.b (iiK cs' rows')) x.b cs' hw (Sub.set hwf (hs1.trans hok.sub) (by omega) _) hII fun c hc => ?_
    rcases List.mem_cons.1 hc with rfl | hc
    · exact hok.ge _ (by simp)
    · exact hok.ge _ (by simp [hm c hc])
  have hj1 := idx_lt hlt
  have w1 : IntKind.i64.wrap ((j : Int) + 1) = (j : Int) + 1 := wrap_id (by omega) (by omega)
  have hat1' := hat1.sub hok.sub
  obtain ⟨ex, ee, hd⟩ := hat1.get (j := j) (by simpa using hlt)
  rw [Nat.zero_add] at ee
  rw [List.getElem_map] at hd
  obtain ⟨c, o, kc, rfl, hatc1⟩ := eII_at hd
  have hgall := hall _ (List.getElem_mem hlt)
  have hglen := hlen _ (List.getElem_mem hlt)
  rw [List.drop_eq_getElem_cons hlt, List.flatMap_cons, List.map_append] at hrw
  generalize hRR : ((gs.drop (j + 1)).flatMap (pG ps limit)).map (dpR ps) = RR at hrw
  generalize gs[j] = gg at hd hatc1 ee hgall hglen hrw
  rw [nats_len] at ee
  have hcb : c < H1.n := (hw1 _ _ hatc1.blk).1
  have hgl2 : (gg.length : Int) ≤ 10 := by omega
  simp (config := {contextual := true, implicitDefEqProofs := false, maxSteps := 2000000}) [-Int.not_le, -Int.not_lt, argsF, impl_DoubtfulPairs_l2, hj1, hlt, hat1'.blk, hat1'.esz, ee]
  refine key1 x c o kc gg j RR hok hbn hatc1 hgall hglen hrw fun z h1 h2 hzb h3 => ?_
  have hnz1 := h1.sub.1.1
  have hnz : H.n ≤ z.H.n := by omega
  simp (config := {contextual := true, implicitDefEqProofs := false, maxSteps := 2000000}) [-Int.not_le, -Int.not_lt, argsF, w1]
  exact ⟨fun hw => ⟨(z, j + 1), ⟨h1, h2, hlt, by rw [hRR]; exact h3⟩, by simp only; omega, .since hnz hw (.refl _) (by simp [frOk, AV.okR, AV.ok1, AC.okR, AV.ren, AV.ren1, AC.ren, AFrame.get, pl1_old, *]; first | done | rfl | omega)⟩⟩

end Go.Proofs.Ytafenginfojcmaa
