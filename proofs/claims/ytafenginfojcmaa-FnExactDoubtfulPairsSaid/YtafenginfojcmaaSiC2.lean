/- The covers. -/
import Derived.Test.YtafenginfojcmaaSiN
import Derived.Test.YtafenginfojcmaaTkII
set_option maxRecDepth 8000
set_option linter.unusedSimpArgs false
set_option linter.unusedVariables false
namespace Go.Proofs.Ytafenginfojcmaa
open Go Go.RowKit

set_option maxHeartbeats 4000000
noncomputable def cvTo (ps : List Si) (limit : Int) (k : Nat) : List (List Int) := (groupsTo (edge ps limit) ps.length k).map fun g => g.map (sid ps)
theorem cvTo_yes {ps : List Si} {limit : Int} {k : Nat} (h : leads (edge ps limit) ps.length k) : cvTo ps limit (k + 1) = cvTo ps limit k ++ [(comp (edge ps limit) ps.length k).map (sid ps)] := by
  rw [cvTo, groupsTo_yes h, List.map_append]; rfl
theorem cvTo_no {ps : List Si} {limit : Int} {k : Nat} (h : ¬ leads (edge ps limit) ps.length k) : cvTo ps limit (k + 1) = cvTo ps limit k := by
  rw [cvTo, groupsTo_no h]; rfl
theorem cvTo_len (ps : List Si) (limit : Int) (k : Nat) : (cvTo ps limit k).length ≤ k := by
  rw [cvTo, List.length_map]; exact groupsTo_len _ _ _
theorem cvTo_in {ps : List Si} {limit : Int} {k : Nat} : ∀ g ∈ cvTo ps limit k, g.length ≤ ps.length := fun g hg => by
  unfold cvTo groupsTo at hg
  obtain ⟨x, hx, rfl⟩ := List.mem_map.1 hg
  obtain ⟨i, _, rfl⟩ := List.mem_map.1 hx
  rw [List.length_map]
  exact nodup_len _ _ (comp_up.imp fun {a b} h => by omega) fun x hx => (mem_comp.1 hx).lt
theorem sum_le {n : Nat} : ∀ {l : List (List Int)}, (∀ g ∈ l, g.length ≤ n) → iiTot l ≤ l.length * n
  | [], _ => by simp [iiTot]
  | g :: r, h => by
    have h1 := sum_le (l := r) fun x hx => h x (by simp [hx])
    have h2 := h g (by simp)
    simp only [iiTot, List.map_cons, List.sum_cons, List.length_cons] at h1 ⊢
    rw [Nat.add_mul]
    omega
/-- a group's first one is the one asked for, just where that one leads -/
theorem comp_head {ps : List Si} {limit : Int} {k : Nat} (hs : ∀ x k, x < ps.length → k < ps.length → edge ps limit x k = true → edge ps limit k x = true) (hk : k < ps.length) :
    ∃ h0 t, comp (edge ps limit) ps.length k = h0 :: t ∧ (h0 < k ↔ ¬ leads (edge ps limit) ps.length k) := by
  have hm : k ∈ comp (edge ps limit) ps.length k := mem_comp.2 (.refl hk)
  have hup := comp_up (e := edge ps limit) (n := ps.length) (i := k)
  cases hc : comp (edge ps limit) ps.length k with
  | nil => rw [hc] at hm; cases hm
  | cons h0 t =>
    rw [hc, List.pairwise_cons] at hup
    refine ⟨h0, t, rfl, fun h hl => ?_, fun h => ?_⟩
    · have h1 : h0 ∈ comp (edge ps limit) ps.length k := by rw [hc]; simp
      exact hl h0 h ((mem_comp.1 h1).symm hs)
    · simp only [leads, Classical.not_forall, Classical.not_not] at h
      obtain ⟨j, hj, hr⟩ := h
      have h1 := mem_comp.2 (hr.symm hs)
      rw [hc] at h1
      rcases List.mem_cons.1 h1 with rfl | h1
      · exact hj
      · have := hup.1 j h1; omega
noncomputable def cvRes (ps : List Si) (limit : Int) : List (List Int) × Bool := if areSi ps = true then if inR limit (-30) 16 = true then (cvTo ps limit ps.length, true) else ([], false) else ([], false)
theorem cvRes_len (ps : List Si) (limit : Int) : (cvRes ps limit).1.length ≤ 10 ∧ ∀ g ∈ (cvRes ps limit).1, g.length ≤ 10 := by
  unfold cvRes
  split
  · rename_i hv
    have h4 := areSi_len hv
    split
    · exact ⟨Nat.le_trans (cvTo_len _ _ _) h4, fun g hg => Nat.le_trans (cvTo_in g hg) h4⟩
    · simp
  · simp
structure CX where
  H : AHeap
  b : Nat
  cs : List Nat
  rows : List (List Int)
structure CX.Ok (x : CX) (H1 : AHeap) (n0 : Nat) : Prop where
  sub : Sub H1 x.H
  rows : IIRows x.H x.b x.cs x.rows
  ge : ∀ c ∈ x.b :: x.cs, n0 ≤ c
theorem iiK_rows {H : AHeap} : IIRows (H.push (iiK [] [])) H.n [] [] := ⟨rfl, by simp, by simp, by simp [push_b], fun j c g hc => by simp at hc⟩
theorem CX.Ok.add {x : CX} {H1 : AHeap} {n0 : Nat} (h : x.Ok H1 n0) (hwf1 : H1.WF) (hw : x.H.WF) (hn : n0 ≤ H1.n) (hb1 : H1.n ≤ x.b) (ids : List Int) (K : ABlk) :
    (⟨(((x.H.push (rowK eI 3 ids)).push K).kill x.b).push (iiK (x.cs ++ [x.H.n]) (x.rows ++ [ids])), x.H.n + 1 + 1, x.cs ++ [x.H.n], x.rows ++ [ids]⟩ : CX).Ok H1 n0 := by
  have hnx := h.sub.1.1
  refine ⟨Sub.push hwf1 (Sub.kill hwf1 (Sub.push hwf1 (Sub.push hwf1 h.sub _) _) hb1) _, h.rows.add hw ids K, fun c hc => ?_⟩
  rcases List.mem_cons.1 hc with rfl | hc
  · simp only; omega
  · rcases List.mem_append.1 hc with hc | hc
    · exact h.ge c (by simp [hc])
    · rw [List.mem_singleton.1 hc]; omega

def q_cv : Con := fun args H K => match args with
  | [ps_v, .c (.int .i64 limit)] => eSi.rd H (fun ps => (∀ p ∈ ps, p.traits.length ≤ 1048576) ∧ Stop (∀ H' b cs, H'.WF → Sub H H' → IIRows H' b cs (cvRes ps limit).1 → (∀ c ∈ b :: cs, H.n ≤ c) → K (.tup [.c (.sl (b) (0) ((cvRes ps limit).1.length)), .c (.bool ((cvRes ps limit).2))]) H') ()) ps_v
  | _ => False
@[simp ↓] theorem q_cv_eq (ps_v : AV) (limit : Int) (H : AHeap) (K : AV → AHeap → Prop) : q_cv [ps_v, .c (.int .i64 limit)] H K = (eSi.rd H (fun ps => (∀ p ∈ ps, p.traits.length ≤ 1048576) ∧ Stop (∀ H' b cs, H'.WF → Sub H H' → IIRows H' b cs (cvRes ps limit).1 → (∀ c ∈ b :: cs, H.n ≤ c) → K (.tup [.c (.sl (b) (0) ((cvRes ps limit).1.length)), .c (.bool ((cvRes ps limit).2))]) H') ()) ps_v) := rfl

theorem impl_CoversSeen_s : Sound Try.prog 11 q_cv := by
  intro args H K h
  unfold q_cv at h
  split at h
  rotate_left
  all_goals first | exact False.elim h | skip
  rename_i ps_v limit
  have h1 := EncH.rd_at h
  clear h
  obtain ⟨b_ps, i_ps, k_ps, ps, rfl, hat_ps, h⟩ := h1
  have hE := soundE_cons impl_areSightings_s (soundE_cons impl_inRange_s (soundE_cons impl_sightingGroups_s (soundE_nil (P := Try.prog))))
  refine acalls_fn impl_CoversSeen_k hE ⟨by simp, fun hwf => ?_⟩
  have hsr : SubE H H := SubE.refl H
  have hsp : ∀ H' k, H.n ≤ H'.n → SubE H H' → SubE H (H'.push k) := fun H' k hn hs => SubE.push hwf hn hs k
  have hst : ∀ H', SubE H H' → SubE H H'.toRo := fun H' hs => hs.toRo
  have hss : ∀ H' i k, H.n ≤ i → SubE H H' → SubE H (H'.set i k) := fun H' i k hn hs => SubE.set hwf hn hs k
  have hsk : ∀ H' i, H.n ≤ i → SubE H H' → SubE H (H'.kill i) := fun H' i hn hs => SubE.kill hwf hn hs
  have hon_ps := hat_ps.on
  have hb_ps : b_ps < H.n := (hwf b_ps k_ps hat_ps.blk).1
  have hne_ps : (b_ps = H.n) = False := eq_false (by omega)
  have hne1_ps : ∀ i, (b_ps = H.n + i) = False := fun i => eq_false (by omega)
  have hne2_ps : (b_ps = H.n + 1 + 1) = False ∧ (b_ps = H.n + 1 + 1 + 1) = False ∧ (b_ps = H.n + 1 + 1 + 1 + 1) = False ∧ (b_ps = H.n + 1 + 1 + 1 + 1 + 1) = False ∧ (b_ps = H.n + 1 + 1 + 1 + 1 + 1 + 1) = False ∧ (b_ps = H.n + 1 + 1 + 1 + 1 + 1 + 1 + 1) = False ∧ (b_ps = H.n + 1 + 1 + 1 + 1 + 1 + 1 + 1 + 1) = False ∧ (b_ps = H.n + 1 + 1 + 1 + 1 + 1 + 1 + 1 + 1 + 1) = False ∧ (b_ps = H.n + 1 + 1 + 1 + 1 + 1 + 1 + 1 + 1 + 1 + 1) = False ∧ (b_ps = H.n + 1 + 1 + 1 + 1 + 1 + 1 + 1 + 1 + 1 + 1 + 1) = False ∧ (b_ps = H.n + 1 + 1 + 1 + 1 + 1 + 1 + 1 + 1 + 1 + 1 + 1 + 1) = False := ⟨eq_false (by omega), eq_false (by omega), eq_false (by omega), eq_false (by omega), eq_false (by omega), eq_false (by omega), eq_false (by omega), eq_false (by omega), eq_false (by omega), eq_false (by omega), eq_false (by omega)⟩
  have hmx_ps : ps.length ≤ 9223372036854775807 := by have h1 := (hwf b_ps k_ps hat_ps.blk).2.2; have h2 := hat_ps.len; omega
  obtain ⟨hl, h⟩ := h
  by_cases hv : areSi ps = true
  rotate_left
  · have hR : cvRes ps limit = ([], false) := by unfold cvRes; rw [if_neg hv]
    rw [hR] at h
    simp (config := {contextual := true, implicitDefEqProofs := false, maxSteps := 2000000}) [-Int.not_le, -Int.not_lt, argsF, impl_CoversSeen_c, hat_ps.blk, hat_ps.esz, hat_ps.len, hon_ps, hne_ps, hne1_ps, hne2_ps.1, hne2_ps.2.1, hne2_ps.2.2.1, hne2_ps.2.2.2.1, hne2_ps.2.2.2.2.1, hne2_ps.2.2.2.2.2.1, hne2_ps.2.2.2.2.2.2.1, hne2_ps.2.2.2.2.2.2.2.1, hne2_ps.2.2.2.2.2.2.2.2.1, hne2_ps.2.2.2.2.2.2.2.2.2.1, hne2_ps.2.2.2.2.2.2.2.2.2.2, hsr, hsp, hst, hss, hsk, hv]
    exact .one (k := iiK [] []) (c := none) hwf (.refl _) ⟨rfl, rfl⟩ (by simp) (by simp [frOk, AV.okR, AV.ok1, AC.okR, AV.ren, AV.ren1, AC.ren, AFrame.get, pl1_old, *]; first | done | rfl | omega) (Stop.go h (H.push (iiK [] [])) H.n [] (WF.push hwf (by simp) (by simp)) (Sub.push hwf (.refl _) _) iiK_rows (by simp))
  by_cases hr : inR limit (-30) 16 = true
  rotate_left
  · have hR : cvRes ps limit = ([], false) := by unfold cvRes; rw [if_pos hv, if_neg hr]
    rw [hR] at h
    simp (config := {contextual := true, implicitDefEqProofs := false, maxSteps := 2000000}) [-Int.not_le, -Int.not_lt, argsF, impl_CoversSeen_c, hat_ps.blk, hat_ps.esz, hat_ps.len, hon_ps, hne_ps, hne1_ps, hne2_ps.1, hne2_ps.2.1, hne2_ps.2.2.1, hne2_ps.2.2.2.1, hne2_ps.2.2.2.2.1, hne2_ps.2.2.2.2.2.1, hne2_ps.2.2.2.2.2.2.1, hne2_ps.2.2.2.2.2.2.2.1, hne2_ps.2.2.2.2.2.2.2.2.1, hne2_ps.2.2.2.2.2.2.2.2.2.1, hne2_ps.2.2.2.2.2.2.2.2.2.2, hsr, hsp, hst, hss, hsk, hv, hr]
    exact .one (k := iiK [] []) (c := none) hwf (.refl _) ⟨rfl, rfl⟩ (by simp) (by simp [frOk, AV.okR, AV.ok1, AC.okR, AV.ren, AV.ren1, AC.ren, AFrame.get, pl1_old, *]; first | done | rfl | omega) (Stop.go h (H.push (iiK [] [])) H.n [] (WF.push hwf (by simp) (by simp)) (Sub.push hwf (.refl _) _) iiK_rows (by simp))
  have hR : cvRes ps limit = (cvTo ps limit ps.length, true) := by unfold cvRes; rw [if_pos hv, if_pos hr]
  rw [hR] at h
  have hsym := edge_sym (limit := limit) (areSi_nd hv)
  have hpl := areSi_len hv

  simp (config := {contextual := true, implicitDefEqProofs := false, maxSteps := 2000000}) [-Int.not_le, -Int.not_lt, argsF, impl_CoversSeen_c, hat_ps.blk, hat_ps.esz, hat_ps.len, hon_ps, hne_ps, hne1_ps, hne2_ps.1, hne2_ps.2.1, hne2_ps.2.2.1, hne2_ps.2.2.2.1, hne2_ps.2.2.2.2.1, hne2_ps.2.2.2.2.2.1, hne2_ps.2.2.2.2.2.2.1, hne2_ps.2.2.2.2.2.2.2.1, hne2_ps.2.2.2.2.2.2.2.2.1, hne2_ps.2.2.2.2.2.2.2.2.2.1, hne2_ps.2.2.2.2.2.2.2.2.2.2, hsr, hsp, hst, hss, hsk, hv, hr, hpl, hl, hsym]
  refine Stop.mk fun H1 b1 k1 hw1 hs1 hat1 => ?_
  have hn1 : H.n ≤ H1.n := hs1.1.1
  have hb1 : b1 < H1.n := (hw1 _ _ hat1.blk).1
  have hbp : b_ps < H1.n := by omega
  have hall : ∀ g ∈ groupsTo (edge ps limit) ps.length ps.length, ∀ x ∈ g, x < ps.length := fun g hg x hx => by
    unfold groupsTo at hg
    obtain ⟨i, _, rfl⟩ := List.mem_map.1 hg
    exact (mem_comp.1 hx).lt
  have hlen : ∀ g ∈ groupsTo (edge ps limit) ps.length ps.length, g.length ≤ ps.length := fun g hg => by
    unfold groupsTo at hg
    obtain ⟨i, _, rfl⟩ := List.mem_map.1 hg
    exact nodup_len _ _ (comp_up.imp fun {a b} h => by omega) fun x hx => (mem_comp.1 hx).lt
  have hgl := groupsTo_len (edge ps limit) ps.length ps.length
  have hcv : cvTo ps limit ps.length = (groupsTo (edge ps limit) ps.length ps.length).map fun g => g.map (sid ps) := rfl
  rw [hcv] at h
  generalize hgs : groupsTo (edge ps limit) ps.length ps.length = gs at hat1 hgl h hall hlen
  simp (config := {contextual := true, implicitDefEqProofs := false, maxSteps := 2000000}) [-Int.not_le, -Int.not_lt, argsF, hat1.blk, hat1.esz, hgs]
  refine aloop_heap (X := CX × Nat) (fun x => [(0, .c (.sl b_ps i_ps ps.length)), (6, .c (.sl (x.1.b) (0) (x.1.rows.length))), (22, .c (.sl (b1) (0) (gs.length))), (23, .c (.int .i64 gs.length)), (24, .c (.int .i64 ((x.2 : Int))))]) (fun x => x.1.H)
    (fun x => x.1.Ok H1 H.n ∧ H1.n ≤ x.1.b ∧ x.2 ≤ gs.length ∧ x.1.rows ++ (gs.drop x.2).map (fun g => g.map (sid ps)) = gs.map fun g => g.map (sid ps)) (fun x => gs.length - x.2) hE _
    (⟨H1.push (iiK [] []), H1.n, [], []⟩, 0) ⟨⟨Sub.push hw1 (.refl _) _, iiK_rows, by simp; omega⟩, Nat.le_refl _, Nat.zero_le _, by simp⟩ (fun hw0 => .le hn1 (.one (c := none) hw1 (.refl _) ⟨rfl, rfl⟩ (by simp) (by simp [frOk, AV.okR, AV.ok1, AC.okR, AV.ren, AV.ren1, AC.ren, AFrame.get, pl1_old, *]; first | done | rfl | omega))) (fun x hx hwx => ?_)
  obtain ⟨x, j⟩ := x
  obtain ⟨hok, hbn, hj, hrw⟩ := hx
  simp only at hok hbn hj hrw
  have hnx1 := hok.sub.1.1
  have hnx : H.n ≤ x.H.n := by omega
  have hxb : x.b < x.H.n := hok.rows.bnd hwx _ (by simp)
  rcases Nat.lt_or_ge j gs.length with hlt | hge
  rotate_left
  · obtain rfl : j = gs.length := by omega
    simp only [List.drop_length, List.map_nil, List.append_nil] at hrw
    simp (config := {contextual := true, implicitDefEqProofs := false, maxSteps := 2000000}) [-Int.not_le, -Int.not_lt, argsF, impl_CoversSeen_l1]
    rw [← hrw] at h
    exact Out.whole hnx (by simp [frOk, AV.okR, AV.ok1, AC.okR, AV.ren, AV.ren1, AC.ren, AFrame.get, pl1_old, *]; first | done | rfl | omega) fun hw => Stop.go h x.H x.b x.cs hw (hs1.trans hok.sub) hok.rows hok.ge
  have hj1 := idx_lt hlt
  have w1 : IntKind.i64.wrap ((j : Int) + 1) = (j : Int) + 1 := wrap_id (by omega) (by omega)
  have hat1' := hat1.sub hok.sub
  obtain ⟨ex, ee, hd⟩ := hat1'.get (j := j) (by simpa using hlt)
  rw [Nat.zero_add] at ee
  rw [List.getElem_map] at hd
  obtain ⟨c, o, kc, rfl, hatc⟩ := eII_at hd
  have hgall := hall _ (List.getElem_mem hlt)
  have hglen := hlen _ (List.getElem_mem hlt)
  rw [List.drop_eq_getElem_cons hlt, List.map_cons] at hrw
  have hll0 := congrArg List.length hrw
  simp only [List.length_append, List.length_map, List.length_cons, List.length_drop] at hll0
  generalize gs[j] = gg at hd hatc ee hgall hglen hrw
  rw [nats_len] at ee
  have hcb : c < x.H.n := (hwx _ _ hatc.blk).1
  have qc : (c = x.H.n) = False := eq_false (by omega)
  have qp : (b_ps = x.H.n) = False := eq_false (by omega)
  have qb : (x.b = x.H.n) = False := eq_false (by omega)
  have qb2 : (x.b = x.H.n + 1) = False := eq_false (by omega)
  have hbpx : b_ps < x.H.n := by omega
  have hb1x : b1 < x.H.n := by omega
  have hrb := hok.rows.blk
  have hrl := hok.rows.len
  have hb3 : (x.rows.length + 1) * 24 ≤ 140737488355328 := by omega
  have hb4 : x.rows.length + 1 ≤ 140737488355328 := by omega
  have hat_ps1 : eSi.At H1 b_ps i_ps k_ps ps := hat_ps.sub hs1
  have hat_ps : eSi.At x.H b_ps i_ps k_ps ps := hat_ps1.sub hok.sub
  have hwf0 := hwf
  have hwf := hwx
  simp (config := {contextual := true, implicitDefEqProofs := false, maxSteps := 2000000}) [-Int.not_le, -Int.not_lt, argsF, impl_CoversSeen_l1, hj1, hlt, hat1'.blk, hat1'.esz, ee]

  refine aloop_list gg (fun i (ids : List Int) => [(0, .c (.sl b_ps i_ps ps.length)), (6, .c (.sl (x.b) (0) (x.rows.length))), (9, .c (.sl (x.H.n) (0) (ids.length))), (22, .c (.sl (b1) (0) (gs.length))), (23, .c (.int .i64 gs.length)), (24, .c (.int .i64 ((j : Int)))), (28, .c (.sl (c) (o) (gg.length))), (29, .c (.int .i64 gg.length)), (30, .c (.int .i64 ((i : Int))))]) (fun i (ids : List Int) => x.H.push (rowK eI 3 ids)) (fun i l (ids : List Int) => ids ++ l.map (sid ps) = gg.map (sid ps)) hE _ [] (by simp) (.le hnx (.one (c := none) hwf (.refl _) ⟨rfl, rfl⟩ (plain_map (fun _ => rfl) _) (by simp [frOk, AV.okR, AV.ok1, AC.okR, AV.ren, AV.ren1, AC.ren, AFrame.get, pl1_old, *]; first | done | rfl | omega))) (fun i ids hilt hi => ?_) fun ids hi => ?_
  · have hgx := hgall _ (List.getElem_mem hilt)
    have hi1 := idx_lt hilt
    have w2 : IntKind.i64.wrap ((i : Int) + 1) = (i : Int) + 1 := wrap_id (by omega) (by omega)
    have hsx : sid ps gg[i] = ps[gg[i]].id := by simp [sid, List.getD_eq_getElem?_getD, hgx]
    have hll := congrArg List.length hi
    simp only [List.length_append, List.length_map, List.length_cons] at hll
    rw [List.map_cons, hsx] at hi
    have hb1' : (ids.length + 1) * 8 ≤ 140737488355328 := by omega
    have hb2' : ids.length + 1 ≤ 140737488355328 := by omega
    obtain ⟨ex_u, e_u, hd_u⟩ := hat_ps.get hgx
    obtain ⟨b_u, i_u, k_u, rfl, hat_u, htx_u⟩ := eSi_at hd_u
    have hb_u : b_u < x.H.n := (hwf b_u k_u hat_u.blk).1
    have hne_u : (b_u = x.H.n) = False := eq_false (by omega)
    have hne1_u : ∀ i, (b_u = x.H.n + i) = False := fun i => eq_false (by omega)
    have hne2_u : (b_u = x.H.n + 1 + 1) = False ∧ (b_u = x.H.n + 1 + 1 + 1) = False ∧ (b_u = x.H.n + 1 + 1 + 1 + 1) = False ∧ (b_u = x.H.n + 1 + 1 + 1 + 1 + 1) = False ∧ (b_u = x.H.n + 1 + 1 + 1 + 1 + 1 + 1) = False ∧ (b_u = x.H.n + 1 + 1 + 1 + 1 + 1 + 1 + 1) = False ∧ (b_u = x.H.n + 1 + 1 + 1 + 1 + 1 + 1 + 1 + 1) = False ∧ (b_u = x.H.n + 1 + 1 + 1 + 1 + 1 + 1 + 1 + 1 + 1) = False ∧ (b_u = x.H.n + 1 + 1 + 1 + 1 + 1 + 1 + 1 + 1 + 1 + 1) = False ∧ (b_u = x.H.n + 1 + 1 + 1 + 1 + 1 + 1 + 1 + 1 + 1 + 1 + 1) = False ∧ (b_u = x.H.n + 1 + 1 + 1 + 1 + 1 + 1 + 1 + 1 + 1 + 1 + 1 + 1) = False := ⟨eq_false (by omega), eq_false (by omega), eq_false (by omega), eq_false (by omega), eq_false (by omega), eq_false (by omega), eq_false (by omega), eq_false (by omega), eq_false (by omega), eq_false (by omega), eq_false (by omega)⟩
    have er := hatc.get (j := i) (by rw [nats_len]; exact hilt)
    rw [show (nats gg)[i]'(by rw [nats_len]; exact hilt) = (gg[i] : Int) by simp [nats]] at er
    have hgi : ((gg[i] : Int) < (ps.length : Int)) = True := eq_true (by omega)
    simp (config := {contextual := true, implicitDefEqProofs := false, maxSteps := 2000000}) [-Int.not_le, -Int.not_lt, argsF, impl_CoversSeen_l0, hi1, hilt, hatc.blk, hatc.esz, er, hgi, hgx, hat_ps.blk, hat_ps.esz, hat_ps.len, hon_ps, hne_ps, hne1_ps, hne2_ps.1, hne2_ps.2.1, hne2_ps.2.2.1, hne2_ps.2.2.2.1, hne2_ps.2.2.2.2.1, hne2_ps.2.2.2.2.2.1, hne2_ps.2.2.2.2.2.2.1, hne2_ps.2.2.2.2.2.2.2.1, hne2_ps.2.2.2.2.2.2.2.2.1, hne2_ps.2.2.2.2.2.2.2.2.2.1, hne2_ps.2.2.2.2.2.2.2.2.2.2, e_u, htx_u, hat_u.blk, hat_u.esz, hat_u.len, hat_u.els, hne_u, hne1_u, hne2_u.1, hne2_u.2.1, hne2_u.2.2.1, hne2_u.2.2.2.1, hne2_u.2.2.2.2.1, hne2_u.2.2.2.2.2.1, hne2_u.2.2.2.2.2.2.1, hne2_u.2.2.2.2.2.2.2.1, hne2_u.2.2.2.2.2.2.2.2.1, hne2_u.2.2.2.2.2.2.2.2.2.1, hne2_u.2.2.2.2.2.2.2.2.2.2, w2, qc, qp, hb1', hb2']
    exact ⟨ids ++ [ps[gg[i]].id], by rw [List.append_assoc]; exact hi, .le hnx (.one (c := some (x.H.n + 1 + 1)) hwf (by (repeat first | exact Sub.refl _ | refine Sub.push hwf ?_ _ | refine Sub.set hwf ?_ (by first | exact Nat.le_refl _ | omega | (simp only [push_n, set_n, kill_n]; omega)) _ | refine Sub.kill hwf ?_ (by first | exact Nat.le_refl _ | omega | (simp only [push_n, set_n, kill_n]; omega)))) ⟨by omega, by simp [push_b, set_b, kill_b, rowK]; done⟩ (plain_map (fun _ => rfl) _) (by simp [frOk, AV.okR, AV.ok1, AC.okR, AV.ren, AV.ren1, AC.ren, AFrame.get, pl1_old, *]; first | done | rfl | omega))⟩
  · simp only [List.map_nil, List.append_nil] at hi
    subst hi
    simp (config := {contextual := true, implicitDefEqProofs := false, maxSteps := 2000000}) [-Int.not_le, -Int.not_lt, argsF, impl_CoversSeen_l0, hrb, hrl, qb, qb2, w1, hb3, hb4]

    rw [iiK_add (C := gg.map (sid ps)) hrl (by simp)]
    exact ⟨fun hw => ⟨(⟨_, x.H.n + 1 + 1, x.cs ++ [x.H.n], x.rows ++ [gg.map (sid ps)]⟩, j + 1), ⟨hok.add hw1 hwf hn1 hbn _ _, by simp only; omega, hlt, by simp only [List.append_assoc, ← List.map_drop]; exact hrw⟩, by simp only; omega, .since (by simp only [push_n, kill_n]; omega) hw (.refl _) (by simp [frOk, AV.okR, AV.ok1, AC.okR, AV.ren, AV.ren1, AC.ren, AFrame.get, pl1_old, *]; first | done | rfl | omega)⟩⟩

theorem spec_CoversSeen_s : Sound Try.prog 14 q_cv := by
  intro args H K h
  unfold q_cv at h
  split at h
  rotate_left
  all_goals first | exact False.elim h | skip
  rename_i ps_v limit
  have h1 := EncH.rd_at h
  clear h
  obtain ⟨b_ps, i_ps, k_ps, ps, rfl, hat_ps, h⟩ := h1
  have hE := soundE_cons spec_l13Good_s (soundE_cons spec_l13Limit_s (soundE_cons spec_l13Cover_s (soundE_nil (P := Try.prog))))
  refine acalls_fn spec_CoversSeen_k hE ⟨by simp, fun hwf => ?_⟩
  have hsr : SubE H H := SubE.refl H
  have hsp : ∀ H' k, H.n ≤ H'.n → SubE H H' → SubE H (H'.push k) := fun H' k hn hs => SubE.push hwf hn hs k
  have hst : ∀ H', SubE H H' → SubE H H'.toRo := fun H' hs => hs.toRo
  have hss : ∀ H' i k, H.n ≤ i → SubE H H' → SubE H (H'.set i k) := fun H' i k hn hs => SubE.set hwf hn hs k
  have hsk : ∀ H' i, H.n ≤ i → SubE H H' → SubE H (H'.kill i) := fun H' i hn hs => SubE.kill hwf hn hs
  have hon_ps := hat_ps.on
  have hb_ps : b_ps < H.n := (hwf b_ps k_ps hat_ps.blk).1
  have hne_ps : (b_ps = H.n) = False := eq_false (by omega)
  have hne1_ps : ∀ i, (b_ps = H.n + i) = False := fun i => eq_false (by omega)
  have hne2_ps : (b_ps = H.n + 1 + 1) = False ∧ (b_ps = H.n + 1 + 1 + 1) = False ∧ (b_ps = H.n + 1 + 1 + 1 + 1) = False ∧ (b_ps = H.n + 1 + 1 + 1 + 1 + 1) = False ∧ (b_ps = H.n + 1 + 1 + 1 + 1 + 1 + 1) = False ∧ (b_ps = H.n + 1 + 1 + 1 + 1 + 1 + 1 + 1) = False ∧ (b_ps = H.n + 1 + 1 + 1 + 1 + 1 + 1 + 1 + 1) = False ∧ (b_ps = H.n + 1 + 1 + 1 + 1 + 1 + 1 + 1 + 1 + 1) = False ∧ (b_ps = H.n + 1 + 1 + 1 + 1 + 1 + 1 + 1 + 1 + 1 + 1) = False ∧ (b_ps = H.n + 1 + 1 + 1 + 1 + 1 + 1 + 1 + 1 + 1 + 1 + 1) = False ∧ (b_ps = H.n + 1 + 1 + 1 + 1 + 1 + 1 + 1 + 1 + 1 + 1 + 1 + 1) = False := ⟨eq_false (by omega), eq_false (by omega), eq_false (by omega), eq_false (by omega), eq_false (by omega), eq_false (by omega), eq_false (by omega), eq_false (by omega), eq_false (by omega), eq_false (by omega), eq_false (by omega)⟩
  have hmx_ps : ps.length ≤ 9223372036854775807 := by have h1 := (hwf b_ps k_ps hat_ps.blk).2.2; have h2 := hat_ps.len; omega
  obtain ⟨hl, h⟩ := h
  by_cases hv : areSi ps = true
  rotate_left
  · have hR : cvRes ps limit = ([], false) := by unfold cvRes; rw [if_neg hv]
    rw [hR] at h
    simp (config := {contextual := true, implicitDefEqProofs := false, maxSteps := 2000000}) [-Int.not_le, -Int.not_lt, argsF, spec_CoversSeen_c, hat_ps.blk, hat_ps.esz, hat_ps.len, hon_ps, hne_ps, hne1_ps, hne2_ps.1, hne2_ps.2.1, hne2_ps.2.2.1, hne2_ps.2.2.2.1, hne2_ps.2.2.2.2.1, hne2_ps.2.2.2.2.2.1, hne2_ps.2.2.2.2.2.2.1, hne2_ps.2.2.2.2.2.2.2.1, hne2_ps.2.2.2.2.2.2.2.2.1, hne2_ps.2.2.2.2.2.2.2.2.2.1, hne2_ps.2.2.2.2.2.2.2.2.2.2, hsr, hsp, hst, hss, hsk, hv]
    exact Out.whole (by simp only [push_n]; omega) (by simp [frOk, AV.okR, AV.ok1, AC.okR, AV.ren, AV.ren1, AC.ren, AFrame.get, pl1_old, *]; first | done | rfl | omega) fun hw => Stop.go h (H.push (iiK [] [])) H.n [] hw (Sub.push hwf (.refl _) _) iiK_rows (by simp)
  by_cases hr : inR limit (-30) 16 = true
  rotate_left
  · have hR : cvRes ps limit = ([], false) := by unfold cvRes; rw [if_pos hv, if_neg hr]
    rw [hR] at h
    simp (config := {contextual := true, implicitDefEqProofs := false, maxSteps := 2000000}) [-Int.not_le, -Int.not_lt, argsF, spec_CoversSeen_c, hat_ps.blk, hat_ps.esz, hat_ps.len, hon_ps, hne_ps, hne1_ps, hne2_ps.1, hne2_ps.2.1, hne2_ps.2.2.1, hne2_ps.2.2.2.1, hne2_ps.2.2.2.2.1, hne2_ps.2.2.2.2.2.1, hne2_ps.2.2.2.2.2.2.1, hne2_ps.2.2.2.2.2.2.2.1, hne2_ps.2.2.2.2.2.2.2.2.1, hne2_ps.2.2.2.2.2.2.2.2.2.1, hne2_ps.2.2.2.2.2.2.2.2.2.2, hsr, hsp, hst, hss, hsk, hv, hr]
    exact Out.whole (by simp only [push_n]; omega) (by simp [frOk, AV.okR, AV.ok1, AC.okR, AV.ren, AV.ren1, AC.ren, AFrame.get, pl1_old, *]; first | done | rfl | omega) fun hw => Stop.go h (H.push (iiK [] [])) H.n [] hw (Sub.push hwf (.refl _) _) iiK_rows (by simp)
  have hR : cvRes ps limit = (cvTo ps limit ps.length, true) := by unfold cvRes; rw [if_pos hv, if_pos hr]
  rw [hR] at h
  have hsym := edge_sym (limit := limit) (areSi_nd hv)
  have hpl := areSi_len hv

  simp (config := {contextual := true, implicitDefEqProofs := false, maxSteps := 2000000}) [-Int.not_le, -Int.not_lt, argsF, spec_CoversSeen_c, hat_ps.blk, hat_ps.esz, hat_ps.len, hon_ps, hne_ps, hne1_ps, hne2_ps.1, hne2_ps.2.1, hne2_ps.2.2.1, hne2_ps.2.2.2.1, hne2_ps.2.2.2.2.1, hne2_ps.2.2.2.2.2.1, hne2_ps.2.2.2.2.2.2.1, hne2_ps.2.2.2.2.2.2.2.1, hne2_ps.2.2.2.2.2.2.2.2.1, hne2_ps.2.2.2.2.2.2.2.2.2.1, hne2_ps.2.2.2.2.2.2.2.2.2.2, hsr, hsp, hst, hss, hsk, hv, hr, hpl, hl]
  refine aloop_heap (X := CX × Nat) (fun x => [(0, .c (.sl b_ps i_ps ps.length)), (1, .c (.int .i64 (limit))), (6, .c (.sl (x.1.b) (0) (x.1.rows.length))), (7, .c (.int .i64 ((x.2 : Int))))]) (fun x => x.1.H)
    (fun x => x.1.Ok H H.n ∧ x.2 ≤ ps.length ∧ x.1.rows = cvTo ps limit x.2) (fun x => ps.length - x.2) hE _
    (⟨H.push (iiK [] []), H.n, [], []⟩, 0) ⟨⟨Sub.push hwf (.refl _) _, iiK_rows, by simp⟩, Nat.zero_le _, rfl⟩ (fun hw0 => .since (by simp only [push_n]; omega) hw0 (.refl _) (by simp [frOk, AV.okR, AV.ok1, AC.okR, AV.ren, AV.ren1, AC.ren, AFrame.get, pl1_old, *]; first | done | rfl | omega)) (fun x hx hwx => ?_)
  obtain ⟨x, k⟩ := x
  obtain ⟨hok, hk, hrw⟩ := hx
  simp only at hok hk hrw
  have hnx0 := hok.sub.1.1
  have hxb0 : x.b < x.H.n := hok.rows.bnd hwx _ (by simp)
  rcases Nat.lt_or_ge k ps.length with hlt | hge
  rotate_left
  · obtain rfl : k = ps.length := by omega
    simp (config := {contextual := true, implicitDefEqProofs := false, maxSteps := 2000000}) [-Int.not_le, -Int.not_lt, argsF, spec_CoversSeen_l1]
    rw [← hrw] at h
    exact Out.whole hnx0 (by simp [frOk, AV.okR, AV.ok1, AC.okR, AV.ren, AV.ren1, AC.ren, AFrame.get, pl1_old, *]; first | done | rfl | omega) fun hw => Stop.go h x.H x.b x.cs hw hok.sub hok.rows hok.ge
  have hj1 := idx_lt hlt
  have w1 : IntKind.i64.wrap ((k : Int) + 1) = (k : Int) + 1 := wrap_id (by omega) (by omega)
  have hk0 : (0 ≤ (k : Int)) = True := eq_true (by omega)
  have hpx := hat_ps.sub hok.sub
  have hpxo := hpx.on
  have hrr := SubE.refl x.H
  simp (config := {contextual := true, implicitDefEqProofs := false, maxSteps := 2000000}) [-Int.not_le, -Int.not_lt, argsF, spec_CoversSeen_l1, hpx.blk, hpx.esz, hpx.len, hpxo, hrr, hrr.toRo, hj1, hlt, hk0, hpl, hl]
  refine Stop.mk fun H2 b2 o2 k2 hw2 hs2 hat2 => ?_
  have hrows := hok.rows.sub hs2
  have hnx2 : x.H.n ≤ H2.n := hs2.1.1
  have hnx : H.n ≤ H2.n := by omega
  have hxb : x.b < H2.n := by omega
  have hb2 : b2 < H2.n := (hw2 _ _ hat2.blk).1
  have hrb := hrows.blk
  have hrl := hrows.len
  obtain ⟨h0, t, hct, hhd⟩ := comp_head (limit := limit) hsym hlt
  have hgall : ∀ y ∈ comp (edge ps limit) ps.length k, y < ps.length := fun y hy => (mem_comp.1 hy).lt
  have hglen : (comp (edge ps limit) ps.length k).length ≤ ps.length := nodup_len _ _ (comp_up.imp fun {a b} h => by omega) hgall
  have er0 := hat2.get (j := 0) (by rw [nats_len, hct]; simp)
  simp only [Nat.add_zero] at er0
  have en0 : (nats (comp (edge ps limit) ps.length k))[0]'(by rw [nats_len, hct]; simp) = (h0 : Int) := by simp [nats, hct]
  rw [en0] at er0
  have hpos : (0 : Int) < ((comp (edge ps limit) ps.length k).length : Int) := by rw [hct]; simp only [List.length_cons]; omega
  have hpos' : 0 < (comp (edge ps limit) ps.length k).length := by omega
  have hll0 := cvTo_len ps limit k
  by_cases hld : leads (edge ps limit) ps.length k
  rotate_left
  · have hc0 : (h0 : Int) < (k : Int) := by have := hhd.2 hld; omega
    simp (config := {contextual := true, implicitDefEqProofs := false, maxSteps := 2000000}) [-Int.not_le, -Int.not_lt, argsF, hat2.blk, hat2.esz, er0, hpos, hpos', hc0, w1]
    exact ⟨fun hw => ⟨(⟨H2, x.b, x.cs, x.rows⟩, k + 1), ⟨⟨hok.sub.trans hs2, hrows, hok.ge⟩, hlt, by rw [cvTo_no hld]; exact hrw⟩, by simp only; omega, .since hnx hw (.refl _) (by simp [frOk, AV.okR, AV.ok1, AC.okR, AV.ren, AV.ren1, AC.ren, AFrame.get, pl1_old, *]; first | done | rfl | omega)⟩⟩
  have hc0 : ¬ ((h0 : Int) < (k : Int)) := fun hc => (hhd.1 (by omega)) hld
  have hcy := cvTo_yes hld
  have hok2 : (⟨H2, x.b, x.cs, x.rows⟩ : CX).Ok H H.n := ⟨hok.sub.trans hs2, hrows, hok.ge⟩
  have hatc := hat2
  simp (config := {contextual := true, implicitDefEqProofs := false, maxSteps := 2000000}) [-Int.not_le, -Int.not_lt, argsF, hat2.blk, hat2.esz, er0, hpos, hpos', hc0]
  generalize comp (edge ps limit) ps.length k = gg at hatc hgall hglen hcy
  have qc : (b2 = H2.n) = False := eq_false (by omega)
  have qp : (b_ps = H2.n) = False := eq_false (by omega)
  have qb : (x.b = H2.n) = False := eq_false (by omega)
  have qb2 : (x.b = H2.n + 1) = False := eq_false (by omega)
  have hbpx : b_ps < H2.n := by omega
  have hb3 : (x.rows.length + 1) * 24 ≤ 140737488355328 := by rw [hrw]; omega
  have hb4 : x.rows.length + 1 ≤ 140737488355328 := by rw [hrw]; omega
  have hat_ps : eSi.At H2 b_ps i_ps k_ps ps := hpx.sub hs2
  have hwf0 := hwf
  have hwf := hw2

  refine aloop_list gg (fun i (ids : List Int) => [(0, .c (.sl b_ps i_ps ps.length)), (1, .c (.int .i64 (limit))), (6, .c (.sl (x.b) (0) (x.rows.length))), (7, .c (.int .i64 ((k : Int)))), (8, .c (.sl (b2) (o2) (gg.length))), (9, .c (.sl (H2.n) (0) (ids.length))), (10, .c (.int .i64 ((i : Int))))]) (fun i (ids : List Int) => H2.push (rowK eI 3 ids)) (fun i l (ids : List Int) => ids ++ l.map (sid ps) = gg.map (sid ps)) hE _ [] (by simp) (.le hnx (.one (c := some H2.n) hwf (by (repeat first | exact Sub.refl _ | refine Sub.push hwf ?_ _ | refine Sub.set hwf ?_ (by first | exact Nat.le_refl _ | omega | (simp only [push_n, set_n, kill_n]; omega)) _ | refine Sub.kill hwf ?_ (by first | exact Nat.le_refl _ | omega | (simp only [push_n, set_n, kill_n]; omega)))) ⟨by omega, by simp [push_b, set_b, kill_b, rowK]; done⟩ (plain_map (fun _ => rfl) _) (by simp [frOk, AV.okR, AV.ok1, AC.okR, AV.ren, AV.ren1, AC.ren, AFrame.get, pl1_old, *]; first | done | rfl | omega))) (fun i ids hilt hi => ?_) fun ids hi => ?_
  · have hgx := hgall _ (List.getElem_mem hilt)
    have hi1 := idx_lt hilt
    have w2 : IntKind.i64.wrap ((i : Int) + 1) = (i : Int) + 1 := wrap_id (by omega) (by omega)
    have hsx : sid ps gg[i] = ps[gg[i]].id := by simp [sid, List.getD_eq_getElem?_getD, hgx]
    have hll := congrArg List.length hi
    simp only [List.length_append, List.length_map, List.length_cons] at hll
    rw [List.map_cons, hsx] at hi
    have hb1' : (ids.length + 1) * 8 ≤ 140737488355328 := by omega
    have hb2' : ids.length + 1 ≤ 140737488355328 := by omega
    obtain ⟨ex_u, e_u, hd_u⟩ := hat_ps.get hgx
    obtain ⟨b_u, i_u, k_u, rfl, hat_u, htx_u⟩ := eSi_at hd_u
    have hb_u : b_u < H2.n := (hwf b_u k_u hat_u.blk).1
    have hne_u : (b_u = H2.n) = False := eq_false (by omega)
    have hne1_u : ∀ i, (b_u = H2.n + i) = False := fun i => eq_false (by omega)
    have hne2_u : (b_u = H2.n + 1 + 1) = False ∧ (b_u = H2.n + 1 + 1 + 1) = False ∧ (b_u = H2.n + 1 + 1 + 1 + 1) = False ∧ (b_u = H2.n + 1 + 1 + 1 + 1 + 1) = False ∧ (b_u = H2.n + 1 + 1 + 1 + 1 + 1 + 1) = False ∧ (b_u = H2.n + 1 + 1 + 1 + 1 + 1 + 1 + 1) = False ∧ (b_u = H2.n + 1 + 1 + 1 + 1 + 1 + 1 + 1 + 1) = False ∧ (b_u = H2.n + 1 + 1 + 1 + 1 + 1 + 1 + 1 + 1 + 1) = False ∧ (b_u = H2.n + 1 + 1 + 1 + 1 + 1 + 1 + 1 + 1 + 1 + 1) = False ∧ (b_u = H2.n + 1 + 1 + 1 + 1 + 1 + 1 + 1 + 1 + 1 + 1 + 1) = False ∧ (b_u = H2.n + 1 + 1 + 1 + 1 + 1 + 1 + 1 + 1 + 1 + 1 + 1 + 1) = False := ⟨eq_false (by omega), eq_false (by omega), eq_false (by omega), eq_false (by omega), eq_false (by omega), eq_false (by omega), eq_false (by omega), eq_false (by omega), eq_false (by omega), eq_false (by omega), eq_false (by omega)⟩
    have er := hatc.get (j := i) (by rw [nats_len]; exact hilt)
    rw [show (nats gg)[i]'(by rw [nats_len]; exact hilt) = (gg[i] : Int) by simp [nats]] at er
    have hgi : ((gg[i] : Int) < (ps.length : Int)) = True := eq_true (by omega)
    simp (config := {contextual := true, implicitDefEqProofs := false, maxSteps := 2000000}) [-Int.not_le, -Int.not_lt, argsF, spec_CoversSeen_l0, hi1, hilt, hatc.blk, hatc.esz, er, hgi, hgx, hat_ps.blk, hat_ps.esz, hat_ps.len, hon_ps, hne_ps, hne1_ps, hne2_ps.1, hne2_ps.2.1, hne2_ps.2.2.1, hne2_ps.2.2.2.1, hne2_ps.2.2.2.2.1, hne2_ps.2.2.2.2.2.1, hne2_ps.2.2.2.2.2.2.1, hne2_ps.2.2.2.2.2.2.2.1, hne2_ps.2.2.2.2.2.2.2.2.1, hne2_ps.2.2.2.2.2.2.2.2.2.1, hne2_ps.2.2.2.2.2.2.2.2.2.2, e_u, htx_u, hat_u.blk, hat_u.esz, hat_u.len, hat_u.els, hne_u, hne1_u, hne2_u.1, hne2_u.2.1, hne2_u.2.2.1, hne2_u.2.2.2.1, hne2_u.2.2.2.2.1, hne2_u.2.2.2.2.2.1, hne2_u.2.2.2.2.2.2.1, hne2_u.2.2.2.2.2.2.2.1, hne2_u.2.2.2.2.2.2.2.2.1, hne2_u.2.2.2.2.2.2.2.2.2.1, hne2_u.2.2.2.2.2.2.2.2.2.2, w2, qc, qp, hb1', hb2']
    exact ⟨ids ++ [ps[gg[i]].id], by rw [List.append_assoc]; exact hi, .le hnx (.one (c := some (H2.n + 1 + 1)) hwf (by (repeat first | exact Sub.refl _ | refine Sub.push hwf ?_ _ | refine Sub.set hwf ?_ (by first | exact Nat.le_refl _ | omega | (simp only [push_n, set_n, kill_n]; omega)) _ | refine Sub.kill hwf ?_ (by first | exact Nat.le_refl _ | omega | (simp only [push_n, set_n, kill_n]; omega)))) ⟨by omega, by simp [push_b, set_b, kill_b, rowK]; done⟩ (plain_map (fun _ => rfl) _) (by simp [frOk, AV.okR, AV.ok1, AC.okR, AV.ren, AV.ren1, AC.ren, AFrame.get, pl1_old, *]; first | done | rfl | omega))⟩
  · simp only [List.map_nil, List.append_nil] at hi
    subst hi
    simp (config := {contextual := true, implicitDefEqProofs := false, maxSteps := 2000000}) [-Int.not_le, -Int.not_lt, argsF, spec_CoversSeen_l0, hrb, hrl, qb, qb2, w1, hb3, hb4]

    rw [iiK_add (C := gg.map (sid ps)) hrl (by simp)]
    exact ⟨fun hw => ⟨(⟨_, H2.n + 1 + 1, x.cs ++ [H2.n], x.rows ++ [gg.map (sid ps)]⟩, k + 1), ⟨hok2.add hwf0 hwf (Nat.le_refl _) (hok.ge _ (by simp)) _ _, hlt, by simp only; rw [hcy, hrw]⟩, by simp only; omega, .since (by simp only [push_n, kill_n]; omega) hw (.refl _) (by simp [frOk, AV.okR, AV.ok1, AC.okR, AV.ren, AV.ren1, AC.ren, AFrame.get, pl1_old, *]; first | done | rfl | omega)⟩⟩

end Go.Proofs.Ytafenginfojcmaa
