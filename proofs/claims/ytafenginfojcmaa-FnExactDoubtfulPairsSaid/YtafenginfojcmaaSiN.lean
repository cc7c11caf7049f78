/- Lone sightings. -/
import Derived.Test.YtafenginfojcmaaSiK
set_option maxRecDepth 8000
set_option linter.unusedSimpArgs false
set_option linter.unusedVariables false
namespace Go.Proofs.Ytafenginfojcmaa
open Go Go.RowKit

set_option maxHeartbeats 4000000
def sid (ps : List Si) (k : Nat) : Int := (ps.getD k default).id
theorem comp_one {e : Nat → Nat → Bool} {n i : Nat} (hi : i < n) (h : (comp e n i).length = 1) : comp e n i = [i] := by
  obtain ⟨x, hx⟩ := List.length_eq_one_iff.1 h
  have hm : i ∈ comp e n i := mem_comp.2 (.refl hi)
  rw [hx] at hm ⊢
  rw [List.mem_singleton.1 hm]
noncomputable def loneTo (ps : List Si) (limit : Int) (k : Nat) : List Int := ((List.range k).filter fun i => decide ((comp (edge ps limit) ps.length i).length = 1)).map (sid ps)
theorem loneTo_0 (ps : List Si) (limit : Int) : loneTo ps limit 0 = [] := rfl
theorem loneTo_yes {ps : List Si} {limit : Int} {k : Nat} (h : (comp (edge ps limit) ps.length k).length = 1) : loneTo ps limit (k + 1) = loneTo ps limit k ++ [sid ps k] := by
  simp [loneTo, List.range_succ, List.filter_append, h]
theorem loneTo_no {ps : List Si} {limit : Int} {k : Nat} (h : ¬ (comp (edge ps limit) ps.length k).length = 1) : loneTo ps limit (k + 1) = loneTo ps limit k := by
  simp [loneTo, List.range_succ, List.filter_append, h]
theorem loneTo_len (ps : List Si) (limit : Int) (k : Nat) : (loneTo ps limit k).length ≤ k := by
  simp only [loneTo, List.length_map]
  have := List.length_filter_le (fun i => decide ((comp (edge ps limit) ps.length i).length = 1)) (List.range k)
  simpa using this
def loneAcc (ps : List Si) (l : List (List Nat)) (o : List Int) : List Int := accM (fun g : List Nat => decide (g.length = 1)) (fun g => sid ps (g.headD 0)) l o
theorem loneAcc_nil (ps : List Si) (o : List Int) : loneAcc ps [] o = o := rfl
theorem loneAcc_one {ps : List Si} {g : List Nat} {x : Nat} (h : g = [x]) (r : List (List Nat)) (o : List Int) : loneAcc ps (g :: r) o = loneAcc ps r (o ++ [sid ps x]) := by subst h; rfl
theorem loneAcc_no {ps : List Si} {g : List Nat} (h : ¬ g.length = 1) (r : List (List Nat)) (o : List Int) : loneAcc ps (g :: r) o = loneAcc ps r o := by simp [loneAcc, accM, h]
/-- the groups of one are the lone ones -/
theorem lone_groups {ps : List Si} {limit : Int} (hs : ∀ x k, x < ps.length → k < ps.length → edge ps limit x k = true → edge ps limit k x = true) :
    loneAcc ps (groupsTo (edge ps limit) ps.length ps.length) [] = loneTo ps limit ps.length := by
  rw [loneAcc, accM_eq, List.nil_append, groupsTo, loneTo, List.filter_map, List.map_map, List.filter_filter]
  have e1 : (List.range ps.length).filter (fun a => ((fun g : List Nat => decide (g.length = 1)) ∘ comp (edge ps limit) ps.length) a && leadB (edge ps limit) ps.length a) = (List.range ps.length).filter fun i => decide ((comp (edge ps limit) ps.length i).length = 1) := by
    apply List.filter_congr
    intro i hi
    have hi' : i < ps.length := List.mem_range.1 hi
    simp only [Function.comp]
    by_cases h1 : (comp (edge ps limit) ps.length i).length = 1
    · have hl : leadB (edge ps limit) ps.length i = true := leadB_t.2 fun j hj hr => by
        have hm := mem_comp.2 (hr.symm hs)
        rw [comp_one hi' h1] at hm
        have := List.mem_singleton.1 hm
        omega
      simp [h1, hl]
    · simp [h1]
  rw [e1]
  apply List.map_congr_left
  intro i hi
  obtain ⟨hi1, hi2⟩ := List.mem_filter.1 hi
  have hi' : i < ps.length := List.mem_range.1 hi1
  simp only [Function.comp, comp_one hi' (of_decide_eq_true hi2), List.headD_cons]
noncomputable def loneRes (ps : List Si) (limit : Int) : List Int × Bool := if areSi ps = true then if inR limit (-30) 16 = true then (loneTo ps limit ps.length, true) else ([], false) else ([], false)
theorem loneRes_len (ps : List Si) (limit : Int) : (loneRes ps limit).1.length ≤ ps.length := by
  unfold loneRes
  split
  · split
    · exact loneTo_len _ _ _
    · simp
  · simp

def q_lone : Con := fun args H K => match args with
  | [ps_v, .c (.int .i64 limit)] => eSi.rd H (fun ps => (∀ p ∈ ps, p.traits.length ≤ 1048576) ∧ K (.tup [.c (.sl (H.n) (0) ((loneRes ps limit).1.length)), .c (.bool ((loneRes ps limit).2))]) (H.push (rowK eI 3 (loneRes ps limit).1))) ps_v
  | _ => False
@[simp ↓] theorem q_lone_eq (ps_v : AV) (limit : Int) (H : AHeap) (K : AV → AHeap → Prop) : q_lone [ps_v, .c (.int .i64 limit)] H K = (eSi.rd H (fun ps => (∀ p ∈ ps, p.traits.length ≤ 1048576) ∧ K (.tup [.c (.sl (H.n) (0) ((loneRes ps limit).1.length)), .c (.bool ((loneRes ps limit).2))]) (H.push (rowK eI 3 (loneRes ps limit).1))) ps_v) := rfl

theorem impl_LoneSightings_s : Sound Try.prog 16 q_lone := by
  intro args H K h
  unfold q_lone at h
  split at h
  rotate_left
  all_goals first | exact False.elim h | skip
  rename_i ps_v limit
  have h1 := EncH.rd_at h
  clear h
  obtain ⟨b_ps, i_ps, k_ps, ps, rfl, hat_ps, h⟩ := h1
  have hE := soundE_cons impl_areSightings_s (soundE_cons impl_inRange_s (soundE_cons impl_sightingGroups_s (soundE_nil (P := Try.prog))))
  refine acalls_fn impl_LoneSightings_k hE ⟨by simp, fun hwf => ?_⟩
  have hsr : SubE H H := SubE.refl H
  have hsp : ∀ H' k, H.n ≤ H'.n → SubE H H' → SubE H (H'.push k) := fun H' k hn hs => SubE.push hwf hn hs k
  have hst : ∀ H', SubE H H' → SubE H H'.toRo := fun H' hs => hs.toRo
  have hss : ∀ H' i k, H.n ≤ i → SubE H H' → SubE H (H'.set i k) := fun H' i k hn hs => SubE.set hwf hn hs k
  have hsk : ∀ H' i, H.n ≤ i → SubE H H' → SubE H (H'.kill i) := fun H' i hn hs => SubE.kill hwf hn hs
  have hon_ps := hat_ps.on
  have hb_ps : b_ps < H.n := (hwf b_ps k_ps hat_ps.blk).1
  have hne_ps : (b_ps = H.n) = False := eq_false (by omega)
  have hne1_ps : ∀ i, (b_ps = H.n + i) = False := fun i => eq_false (by omega)
  have hne2_ps : (b_ps = H.n + 1 + 1) = False ∧ (b_ps = H.n + 1 + 1 + 1) = False ∧ (b_ps = H.n + 1 + 1 + 1 + 1) = False ∧ (b_ps = H.n + 1 + 1 + 1 + 1 + 1) = False ∧ (b_ps = H.n + 1 + 1 + 1 + 1 + 1 + 1) = False ∧ (b_ps = H.n + 1 + 1 + 1 + 1 + 1 + 1 + 1) = False ∧ (b_ps = H.n + 1 + 1 + 1 + 1 + 1 + 1 + 1 + 1) = False ∧ (b_ps = H.n + 1 + 1 + 1 + 1 + 1 + 1 + 1 + 1 + 1) = False ∧ (b_ps = H.n + 1 + 1 + 1 + 1 + 1 + 1 + 1 + 1 + 1 + 1) = False ∧ (b_ps = H.n + 1 + 1 + 1 + 1 + 1 + 1 + 1 + 1 + 1 + 1 + 1) = False ∧ (b_ps = H.n + 1 + 1 + 1 + 1 + 1 + 1 + 1 + 1 + 1 + 1 + 1 + 1) = False := ⟨eq_false (by omega), eq_false (by omega), eq_false (by omega), eq_false (by omega), eq_false (by omega), eq_false (by omega), eq_false (by omega), eq_false (by omega), eq_false (by omega), eq_false (by omega), eq_false (by omega)⟩
  have hmx_ps : ps.length ≤ 9223372036854775807 := by have h1 := (hwf b_ps k_ps hat_ps.blk).2.2; have h2 := hat_ps.len; omega
  obtain ⟨hl, h⟩ := h
  unfold loneRes at h
  by_cases hv : areSi ps = true
  rotate_left
  · simp (config := {contextual := true, implicitDefEqProofs := false, maxSteps := 2000000}) [-Int.not_le, -Int.not_lt, argsF, impl_LoneSightings_c, hat_ps.blk, hat_ps.esz, hat_ps.len, hon_ps, hne_ps, hne1_ps, hne2_ps.1, hne2_ps.2.1, hne2_ps.2.2.1, hne2_ps.2.2.2.1, hne2_ps.2.2.2.2.1, hne2_ps.2.2.2.2.2.1, hne2_ps.2.2.2.2.2.2.1, hne2_ps.2.2.2.2.2.2.2.1, hne2_ps.2.2.2.2.2.2.2.2.1, hne2_ps.2.2.2.2.2.2.2.2.2.1, hne2_ps.2.2.2.2.2.2.2.2.2.2, hsr, hsp, hst, hss, hsk, hv]
    simp only [hv, if_false, reduceCtorEq] at h
    exact (.one (c := none) hwf (by (repeat first | exact Sub.refl _ | refine Sub.push hwf ?_ _ | refine Sub.set hwf ?_ (by first | exact Nat.le_refl _ | omega | (simp only [push_n, set_n, kill_n]; omega)) _ | refine Sub.kill hwf ?_ (by first | exact Nat.le_refl _ | omega | (simp only [push_n, set_n, kill_n]; omega)))) ⟨rfl, rfl⟩ (plain_map (fun _ => rfl) _) (by simp [frOk, AV.okR, AV.ok1, AC.okR, AV.ren, AV.ren1, AC.ren, AFrame.get, pl1_old, *]; first | done | rfl | omega) h)
  simp only [hv, if_true] at h
  by_cases hr : inR limit (-30) 16 = true
  rotate_left
  · simp (config := {contextual := true, implicitDefEqProofs := false, maxSteps := 2000000}) [-Int.not_le, -Int.not_lt, argsF, impl_LoneSightings_c, hat_ps.blk, hat_ps.esz, hat_ps.len, hon_ps, hne_ps, hne1_ps, hne2_ps.1, hne2_ps.2.1, hne2_ps.2.2.1, hne2_ps.2.2.2.1, hne2_ps.2.2.2.2.1, hne2_ps.2.2.2.2.2.1, hne2_ps.2.2.2.2.2.2.1, hne2_ps.2.2.2.2.2.2.2.1, hne2_ps.2.2.2.2.2.2.2.2.1, hne2_ps.2.2.2.2.2.2.2.2.2.1, hne2_ps.2.2.2.2.2.2.2.2.2.2, hsr, hsp, hst, hss, hsk, hv, hr]
    simp only [hr, if_false, reduceCtorEq] at h
    exact (.one (c := none) hwf (by (repeat first | exact Sub.refl _ | refine Sub.push hwf ?_ _ | refine Sub.set hwf ?_ (by first | exact Nat.le_refl _ | omega | (simp only [push_n, set_n, kill_n]; omega)) _ | refine Sub.kill hwf ?_ (by first | exact Nat.le_refl _ | omega | (simp only [push_n, set_n, kill_n]; omega)))) ⟨rfl, rfl⟩ (plain_map (fun _ => rfl) _) (by simp [frOk, AV.okR, AV.ok1, AC.okR, AV.ren, AV.ren1, AC.ren, AFrame.get, pl1_old, *]; first | done | rfl | omega) h)
  simp only [hr, if_true] at h
  have hsym := edge_sym (limit := limit) (areSi_nd hv)
  have hpl := areSi_len hv
  simp (config := {contextual := true, implicitDefEqProofs := false, maxSteps := 2000000}) [-Int.not_le, -Int.not_lt, argsF, impl_LoneSightings_c, hat_ps.blk, hat_ps.esz, hat_ps.len, hon_ps, hne_ps, hne1_ps, hne2_ps.1, hne2_ps.2.1, hne2_ps.2.2.1, hne2_ps.2.2.2.1, hne2_ps.2.2.2.2.1, hne2_ps.2.2.2.2.2.1, hne2_ps.2.2.2.2.2.2.1, hne2_ps.2.2.2.2.2.2.2.1, hne2_ps.2.2.2.2.2.2.2.2.1, hne2_ps.2.2.2.2.2.2.2.2.2.1, hne2_ps.2.2.2.2.2.2.2.2.2.2, hsr, hsp, hst, hss, hsk, hv, hr, hpl, hl, hsym]
  refine Stop.mk fun H1 b1 k1 hw1 hs1 hat1 => ?_
  have hn1 : H.n ≤ H1.n := hs1.1.1
  have hb1 : b1 < H1.n := (hw1 _ _ hat1.blk).1
  have hall : ∀ g ∈ groupsTo (edge ps limit) ps.length ps.length, ∀ x ∈ g, x < ps.length := fun g hg x hx => by
    unfold groupsTo at hg
    obtain ⟨i, _, rfl⟩ := List.mem_map.1 hg
    exact (mem_comp.1 hx).lt
  have hgl := groupsTo_len (edge ps limit) ps.length ps.length
  rw [← lone_groups hsym] at h
  generalize hgs : groupsTo (edge ps limit) ps.length ps.length = gs at hat1 hgl h hall
  simp (config := {contextual := true, implicitDefEqProofs := false, maxSteps := 2000000}) [-Int.not_le, -Int.not_lt, argsF, hat1.blk, hat1.esz, hgs]
  have q1 : (b1 = H1.n) = False := eq_false (by omega)
  have q3 : (b_ps = H1.n) = False := eq_false (by omega)
  have hbp : b_ps < H1.n := by omega
  refine aloop_list gs (fun j (out : List Int) => [(0, .c (.sl b_ps i_ps ps.length)), (6, .c (.sl (H1.n) (0) (out.length))), (19, .c (.sl (b1) (0) (gs.length))), (20, .c (.int .i64 gs.length)), (21, .c (.int .i64 (j)))]) (fun j (out : List Int) => H1.push (rowK eI 3 out)) (fun j l (out : List Int) => out.length ≤ j ∧ loneAcc ps l out = loneAcc ps gs []) hE _ [] ⟨Nat.le_refl _, rfl⟩ (.le hn1 (.one (c := none) hw1 (.refl _) ⟨rfl, rfl⟩ (plain_map (fun _ => rfl) _) (by simp [frOk, AV.okR, AV.ok1, AC.okR, AV.ren, AV.ren1, AC.ren, AFrame.get, pl1_old, *]; first | done | rfl | omega))) (fun j out hlt hi => ?_) fun out hi => ?_
  · obtain ⟨hi0, hi⟩ := hi
    have hj1 := idx_lt hlt
    have w1 : IntKind.i64.wrap ((j : Int) + 1) = (j : Int) + 1 := wrap_id (by omega) (by omega)
    have hb1' : (out.length + 1) * 8 ≤ 140737488355328 := by omega
    have hb2' : out.length + 1 ≤ 140737488355328 := by omega
    obtain ⟨ex, ee, hd⟩ := hat1.get (j := j) (by simpa using hlt)
    rw [Nat.zero_add] at ee
    rw [List.getElem_map] at hd
    obtain ⟨c, o, kc, rfl, hatc⟩ := eII_at hd
    have hcl := hatc.len
    have hce := hatc.els
    rw [nats_len] at ee hcl hce
    have hcb : c < H1.n := (hw1 _ _ hatc.blk).1
    have q2 : (c = H1.n) = False := eq_false (by omega)
    by_cases hg1 : gs[j].length = 1
    · have hg1i : (gs[j].length : Int) = 1 := by omega
      obtain ⟨x, hgx⟩ := List.length_eq_one_iff.1 hg1
      have hx : x < ps.length := hall _ (List.getElem_mem hlt) x (by rw [hgx]; simp)
      have er := hatc.get (j := 0) (by rw [nats_len]; omega)
      simp only [Nat.add_zero, hgx, nats, List.map_cons, List.getElem_cons_zero] at er
      have hxi : ((x : Int) < (ps.length : Int)) = True := eq_true (by omega)
      have hat_ps : eSi.At H1 b_ps i_ps k_ps ps := hat_ps.sub hs1
      have hwf0 := hwf
      have hwf := hw1
      obtain ⟨ex_u, e_u, hd_u⟩ := hat_ps.get hx
      obtain ⟨b_u, i_u, k_u, rfl, hat_u, htx_u⟩ := eSi_at hd_u
      have hb_u : b_u < H1.n := (hwf b_u k_u hat_u.blk).1
      have hne_u : (b_u = H1.n) = False := eq_false (by omega)
      have hne1_u : ∀ i, (b_u = H1.n + i) = False := fun i => eq_false (by omega)
      have hne2_u : (b_u = H1.n + 1 + 1) = False ∧ (b_u = H1.n + 1 + 1 + 1) = False ∧ (b_u = H1.n + 1 + 1 + 1 + 1) = False ∧ (b_u = H1.n + 1 + 1 + 1 + 1 + 1) = False ∧ (b_u = H1.n + 1 + 1 + 1 + 1 + 1 + 1) = False ∧ (b_u = H1.n + 1 + 1 + 1 + 1 + 1 + 1 + 1) = False ∧ (b_u = H1.n + 1 + 1 + 1 + 1 + 1 + 1 + 1 + 1) = False ∧ (b_u = H1.n + 1 + 1 + 1 + 1 + 1 + 1 + 1 + 1 + 1) = False ∧ (b_u = H1.n + 1 + 1 + 1 + 1 + 1 + 1 + 1 + 1 + 1 + 1) = False ∧ (b_u = H1.n + 1 + 1 + 1 + 1 + 1 + 1 + 1 + 1 + 1 + 1 + 1) = False ∧ (b_u = H1.n + 1 + 1 + 1 + 1 + 1 + 1 + 1 + 1 + 1 + 1 + 1 + 1) = False := ⟨eq_false (by omega), eq_false (by omega), eq_false (by omega), eq_false (by omega), eq_false (by omega), eq_false (by omega), eq_false (by omega), eq_false (by omega), eq_false (by omega), eq_false (by omega), eq_false (by omega)⟩
      have hsx : sid ps x = ps[x].id := by simp [sid, List.getD_eq_getElem?_getD, hx]
      rw [loneAcc_one hgx, hsx] at hi
      simp (config := {contextual := true, implicitDefEqProofs := false, maxSteps := 2000000}) [-Int.not_le, -Int.not_lt, argsF, impl_LoneSightings_l0, hj1, hlt, hat1.blk, hat1.esz, ee, hatc.blk, hatc.esz, hcl, hce, hg1, hg1i, er, hxi, hx, hat_ps.blk, hat_ps.esz, hat_ps.len, hon_ps, hne_ps, hne1_ps, hne2_ps.1, hne2_ps.2.1, hne2_ps.2.2.1, hne2_ps.2.2.2.1, hne2_ps.2.2.2.2.1, hne2_ps.2.2.2.2.2.1, hne2_ps.2.2.2.2.2.2.1, hne2_ps.2.2.2.2.2.2.2.1, hne2_ps.2.2.2.2.2.2.2.2.1, hne2_ps.2.2.2.2.2.2.2.2.2.1, hne2_ps.2.2.2.2.2.2.2.2.2.2, e_u, htx_u, hat_u.blk, hat_u.esz, hat_u.len, hat_u.els, hne_u, hne1_u, hne2_u.1, hne2_u.2.1, hne2_u.2.2.1, hne2_u.2.2.2.1, hne2_u.2.2.2.2.1, hne2_u.2.2.2.2.2.1, hne2_u.2.2.2.2.2.2.1, hne2_u.2.2.2.2.2.2.2.1, hne2_u.2.2.2.2.2.2.2.2.1, hne2_u.2.2.2.2.2.2.2.2.2.1, hne2_u.2.2.2.2.2.2.2.2.2.2, w1, q1, q2, q3, hb1', hb2']
      exact ⟨_, ⟨by simp; omega, hi⟩, .le hn1 (.one (c := some (H1.n + 1 + 1)) hwf (by (repeat first | exact Sub.refl _ | refine Sub.push hwf ?_ _ | refine Sub.set hwf ?_ (by first | exact Nat.le_refl _ | omega | (simp only [push_n, set_n, kill_n]; omega)) _ | refine Sub.kill hwf ?_ (by first | exact Nat.le_refl _ | omega | (simp only [push_n, set_n, kill_n]; omega)))) ⟨by omega, by simp [push_b, set_b, kill_b, rowK]; done⟩ (plain_map (fun _ => rfl) _) (by simp [frOk, AV.okR, AV.ok1, AC.okR, AV.ren, AV.ren1, AC.ren, AFrame.get, pl1_old, *]; first | done | rfl | omega))⟩
    · have hg1i : ¬ ((gs[j].length : Int) = 1) := by omega
      rw [loneAcc_no hg1] at hi
      simp (config := {contextual := true, implicitDefEqProofs := false, maxSteps := 2000000}) [-Int.not_le, -Int.not_lt, argsF, impl_LoneSightings_l0, hj1, hlt, hat1.blk, hat1.esz, ee, hatc.blk, hatc.esz, hcl, hce, hg1i, w1, q1, q2, q3]
      exact ⟨_, ⟨by omega, hi⟩, .le hn1 (.one (c := some H1.n) hw1 (Sub.push hw1 (.refl _) _) ⟨by omega, by simp [push_b, set_b, kill_b, rowK]; done⟩ (plain_map (fun _ => rfl) _) (by simp [frOk, AV.okR, AV.ok1, AC.okR, AV.ren, AV.ren1, AC.ren, AFrame.get, pl1_old, *]; first | done | rfl | omega))⟩
  · obtain ⟨hi0, hi⟩ := hi
    rw [loneAcc_nil] at hi
    simp (config := {contextual := true, implicitDefEqProofs := false, maxSteps := 2000000}) [-Int.not_le, -Int.not_lt, argsF, impl_LoneSightings_l0]
    rw [← hi] at h
    exact .one (c := some H1.n) hwf (Sub.push hwf hs1 _) ⟨hn1, by simp [push_b]⟩ (plain_map (fun _ => rfl) _) (by simp [frOk, AV.okR, AV.ok1, AC.okR, AV.ren, AV.ren1, AC.ren, AFrame.get, pl1_old, *]; first | done | rfl | omega) h

theorem spec_LoneSightings_s : Sound Try.prog 17 q_lone := by
  intro args H K h
  unfold q_lone at h
  split at h
  rotate_left
  all_goals first | exact False.elim h | skip
  rename_i ps_v limit
  have h1 := EncH.rd_at h
  clear h
  obtain ⟨b_ps, i_ps, k_ps, ps, rfl, hat_ps, h⟩ := h1
  have hE := soundE_cons spec_l13Good_s (soundE_cons spec_l13Limit_s (soundE_cons spec_l13Cover_s (soundE_nil (P := Try.prog))))
  refine acalls_fn spec_LoneSightings_k hE ⟨by simp, fun hwf => ?_⟩
  have hsr : SubE H H := SubE.refl H
  have hsp : ∀ H' k, H.n ≤ H'.n → SubE H H' → SubE H (H'.push k) := fun H' k hn hs => SubE.push hwf hn hs k
  have hst : ∀ H', SubE H H' → SubE H H'.toRo := fun H' hs => hs.toRo
  have hss : ∀ H' i k, H.n ≤ i → SubE H H' → SubE H (H'.set i k) := fun H' i k hn hs => SubE.set hwf hn hs k
  have hsk : ∀ H' i, H.n ≤ i → SubE H H' → SubE H (H'.kill i) := fun H' i hn hs => SubE.kill hwf hn hs
  have hon_ps := hat_ps.on
  have hb_ps : b_ps < H.n := (hwf b_ps k_ps hat_ps.blk).1
  have hne_ps : (b_ps = H.n) = False := eq_false (by omega)
  have hne1_ps : ∀ i, (b_ps = H.n + i) = False := fun i => eq_false (by omega)
  have hne2_ps : (b_ps = H.n + 1 + 1) = False ∧ (b_ps = H.n + 1 + 1 + 1) = False ∧ (b_ps = H.n + 1 + 1 + 1 + 1) = False ∧ (b_ps = H.n + 1 + 1 + 1 + 1 + 1) = False ∧ (b_ps = H.n + 1 + 1 + 1 + 1 + 1 + 1) = False ∧ (b_ps = H.n + 1 + 1 + 1 + 1 + 1 + 1 + 1) = False ∧ (b_ps = H.n + 1 + 1 + 1 + 1 + 1 + 1 + 1 + 1) = False ∧ (b_ps = H.n + 1 + 1 + 1 + 1 + 1 + 1 + 1 + 1 + 1) = False ∧ (b_ps = H.n + 1 + 1 + 1 + 1 + 1 + 1 + 1 + 1 + 1 + 1) = False ∧ (b_ps = H.n + 1 + 1 + 1 + 1 + 1 + 1 + 1 + 1 + 1 + 1 + 1) = False ∧ (b_ps = H.n + 1 + 1 + 1 + 1 + 1 + 1 + 1 + 1 + 1 + 1 + 1 + 1) = False := ⟨eq_false (by omega), eq_false (by omega), eq_false (by omega), eq_false (by omega), eq_false (by omega), eq_false (by omega), eq_false (by omega), eq_false (by omega), eq_false (by omega), eq_false (by omega), eq_false (by omega)⟩
  have hmx_ps : ps.length ≤ 9223372036854775807 := by have h1 := (hwf b_ps k_ps hat_ps.blk).2.2; have h2 := hat_ps.len; omega
  obtain ⟨hl, h⟩ := h
  unfold loneRes at h
  by_cases hv : areSi ps = true
  rotate_left
  · simp (config := {contextual := true, implicitDefEqProofs := false, maxSteps := 2000000}) [-Int.not_le, -Int.not_lt, argsF, spec_LoneSightings_c, hat_ps.blk, hat_ps.esz, hat_ps.len, hon_ps, hne_ps, hne1_ps, hne2_ps.1, hne2_ps.2.1, hne2_ps.2.2.1, hne2_ps.2.2.2.1, hne2_ps.2.2.2.2.1, hne2_ps.2.2.2.2.2.1, hne2_ps.2.2.2.2.2.2.1, hne2_ps.2.2.2.2.2.2.2.1, hne2_ps.2.2.2.2.2.2.2.2.1, hne2_ps.2.2.2.2.2.2.2.2.2.1, hne2_ps.2.2.2.2.2.2.2.2.2.2, hsr, hsp, hst, hss, hsk, hv]
    simp only [hv, if_false, reduceCtorEq] at h
    exact (.one (c := some (H.n)) hwf (by (repeat first | exact Sub.refl _ | refine Sub.push hwf ?_ _ | refine Sub.set hwf ?_ (by first | exact Nat.le_refl _ | omega | (simp only [push_n, set_n, kill_n]; omega)) _ | refine Sub.kill hwf ?_ (by first | exact Nat.le_refl _ | omega | (simp only [push_n, set_n, kill_n]; omega)))) ⟨by omega, by simp [push_b, set_b, kill_b, rowK]; done⟩ (plain_map (fun _ => rfl) _) (by simp [frOk, AV.okR, AV.ok1, AC.okR, AV.ren, AV.ren1, AC.ren, AFrame.get, pl1_old, *]; first | done | rfl | omega) h)
  simp only [hv, if_true] at h
  by_cases hr : inR limit (-30) 16 = true
  rotate_left
  · simp (config := {contextual := true, implicitDefEqProofs := false, maxSteps := 2000000}) [-Int.not_le, -Int.not_lt, argsF, spec_LoneSightings_c, hat_ps.blk, hat_ps.esz, hat_ps.len, hon_ps, hne_ps, hne1_ps, hne2_ps.1, hne2_ps.2.1, hne2_ps.2.2.1, hne2_ps.2.2.2.1, hne2_ps.2.2.2.2.1, hne2_ps.2.2.2.2.2.1, hne2_ps.2.2.2.2.2.2.1, hne2_ps.2.2.2.2.2.2.2.1, hne2_ps.2.2.2.2.2.2.2.2.1, hne2_ps.2.2.2.2.2.2.2.2.2.1, hne2_ps.2.2.2.2.2.2.2.2.2.2, hsr, hsp, hst, hss, hsk, hv, hr]
    simp only [hr, if_false, reduceCtorEq] at h
    exact (.one (c := some (H.n)) hwf (by (repeat first | exact Sub.refl _ | refine Sub.push hwf ?_ _ | refine Sub.set hwf ?_ (by first | exact Nat.le_refl _ | omega | (simp only [push_n, set_n, kill_n]; omega)) _ | refine Sub.kill hwf ?_ (by first | exact Nat.le_refl _ | omega | (simp only [push_n, set_n, kill_n]; omega)))) ⟨by omega, by simp [push_b, set_b, kill_b, rowK]; done⟩ (plain_map (fun _ => rfl) _) (by simp [frOk, AV.okR, AV.ok1, AC.okR, AV.ren, AV.ren1, AC.ren, AFrame.get, pl1_old, *]; first | done | rfl | omega) h)
  simp only [hr, if_true] at h
  have hpl := areSi_len hv
  simp (config := {contextual := true, implicitDefEqProofs := false, maxSteps := 2000000}) [-Int.not_le, -Int.not_lt, argsF, spec_LoneSightings_c, hat_ps.blk, hat_ps.esz, hat_ps.len, hon_ps, hne_ps, hne1_ps, hne2_ps.1, hne2_ps.2.1, hne2_ps.2.2.1, hne2_ps.2.2.2.1, hne2_ps.2.2.2.2.1, hne2_ps.2.2.2.2.2.1, hne2_ps.2.2.2.2.2.2.1, hne2_ps.2.2.2.2.2.2.2.1, hne2_ps.2.2.2.2.2.2.2.2.1, hne2_ps.2.2.2.2.2.2.2.2.2.1, hne2_ps.2.2.2.2.2.2.2.2.2.2, hsr, hsp, hst, hss, hsk, hv, hr, hpl, hl]
  refine aloop_heap (X := Nat) (fun k => [(0, .c (.sl b_ps i_ps ps.length)), (1, .c (.int .i64 (limit))), (6, .c (.sl (H.n) (0) ((loneTo ps limit k).length))), (7, .c (.int .i64 ((k : Int))))]) (fun k => H.push (rowK eI 3 (loneTo ps limit k))) (fun k => k ≤ ps.length) (fun k => ps.length - k) hE _ 0 (Nat.zero_le _) (fun hw0 => by simp only [loneTo_0]; exact .one (c := some H.n) hwf (by (repeat first | exact Sub.refl _ | refine Sub.push hwf ?_ _ | refine Sub.set hwf ?_ (by first | exact Nat.le_refl _ | omega | (simp only [push_n, set_n, kill_n]; omega)) _ | refine Sub.kill hwf ?_ (by first | exact Nat.le_refl _ | omega | (simp only [push_n, set_n, kill_n]; omega)))) ⟨by omega, by simp [push_b, set_b, kill_b, rowK]; done⟩ (plain_map (fun _ => rfl) _) (by simp [frOk, AV.okR, AV.ok1, AC.okR, AV.ren, AV.ren1, AC.ren, AFrame.get, pl1_old, *]; first | done | rfl | omega)) (fun k hk hwk => ?_)
  rcases Nat.lt_or_ge k ps.length with hlt | hge
  rotate_left
  · obtain rfl : k = ps.length := by omega
    simp (config := {contextual := true, implicitDefEqProofs := false, maxSteps := 2000000}) [-Int.not_le, -Int.not_lt, argsF, spec_LoneSightings_l0]
    exact (.one (c := some (H.n)) hwf (by (repeat first | exact Sub.refl _ | refine Sub.push hwf ?_ _ | refine Sub.set hwf ?_ (by first | exact Nat.le_refl _ | omega | (simp only [push_n, set_n, kill_n]; omega)) _ | refine Sub.kill hwf ?_ (by first | exact Nat.le_refl _ | omega | (simp only [push_n, set_n, kill_n]; omega)))) ⟨by omega, by simp [push_b, set_b, kill_b, rowK]; done⟩ (plain_map (fun _ => rfl) _) (by simp [frOk, AV.okR, AV.ok1, AC.okR, AV.ren, AV.ren1, AC.ren, AFrame.get, pl1_old, *]; first | done | rfl | omega) h)
  · have hj1 := idx_lt hlt
    have w1 : IntKind.i64.wrap ((k : Int) + 1) = (k : Int) + 1 := wrap_id (by omega) (by omega)
    have hk0 : (0 ≤ (k : Int)) = True := eq_true (by omega)
    have hol := loneTo_len ps limit k
    have hb1' : ((loneTo ps limit k).length + 1) * 8 ≤ 140737488355328 := by omega
    have hb2' : (loneTo ps limit k).length + 1 ≤ 140737488355328 := by omega
    obtain ⟨ex_u, e_u, hd_u⟩ := hat_ps.get hlt
    obtain ⟨b_u, i_u, k_u, rfl, hat_u, htx_u⟩ := eSi_at hd_u
    have hb_u : b_u < H.n := (hwf b_u k_u hat_u.blk).1
    have hne_u : (b_u = H.n) = False := eq_false (by omega)
    have hne1_u : ∀ i, (b_u = H.n + i) = False := fun i => eq_false (by omega)
    have hne2_u : (b_u = H.n + 1 + 1) = False ∧ (b_u = H.n + 1 + 1 + 1) = False ∧ (b_u = H.n + 1 + 1 + 1 + 1) = False ∧ (b_u = H.n + 1 + 1 + 1 + 1 + 1) = False ∧ (b_u = H.n + 1 + 1 + 1 + 1 + 1 + 1) = False ∧ (b_u = H.n + 1 + 1 + 1 + 1 + 1 + 1 + 1) = False ∧ (b_u = H.n + 1 + 1 + 1 + 1 + 1 + 1 + 1 + 1) = False ∧ (b_u = H.n + 1 + 1 + 1 + 1 + 1 + 1 + 1 + 1 + 1) = False ∧ (b_u = H.n + 1 + 1 + 1 + 1 + 1 + 1 + 1 + 1 + 1 + 1) = False ∧ (b_u = H.n + 1 + 1 + 1 + 1 + 1 + 1 + 1 + 1 + 1 + 1 + 1) = False ∧ (b_u = H.n + 1 + 1 + 1 + 1 + 1 + 1 + 1 + 1 + 1 + 1 + 1 + 1) = False := ⟨eq_false (by omega), eq_false (by omega), eq_false (by omega), eq_false (by omega), eq_false (by omega), eq_false (by omega), eq_false (by omega), eq_false (by omega), eq_false (by omega), eq_false (by omega), eq_false (by omega)⟩
    have hsx : sid ps k = ps[k].id := by simp [sid, List.getD_eq_getElem?_getD, hlt]
    simp (config := {contextual := true, implicitDefEqProofs := false, maxSteps := 2000000}) [-Int.not_le, -Int.not_lt, argsF, spec_LoneSightings_l0, hat_ps.blk, hat_ps.esz, hat_ps.len, hon_ps, hne_ps, hne1_ps, hne2_ps.1, hne2_ps.2.1, hne2_ps.2.2.1, hne2_ps.2.2.2.1, hne2_ps.2.2.2.2.1, hne2_ps.2.2.2.2.2.1, hne2_ps.2.2.2.2.2.2.1, hne2_ps.2.2.2.2.2.2.2.1, hne2_ps.2.2.2.2.2.2.2.2.1, hne2_ps.2.2.2.2.2.2.2.2.2.1, hne2_ps.2.2.2.2.2.2.2.2.2.2, hsr, hsp, hst, hss, hsk, hj1, hlt, hk0, hpl, hl]
    refine Stop.mk fun H1 b1 o1 k1 hw1 hs1 hat1 => ?_
    have hs1' : Sub H H1 := (Sub.push hwf (.refl _) _).trans hs1
    have hnn : H.n < H1.n := hs1.1.1
    have hrow : H1.b H.n = some (rowK eI 3 (loneTo ps limit k)) := hs1.1.2 _ _ (by simp [push_b])
    have hps1 : H1.b b_ps = some k_ps := hs1'.1.2 _ _ hat_ps.blk
    have hpx : H1.b b_u = some k_u := hs1'.1.2 _ _ hat_u.blk
    have q1 : (H.n = H1.n) = False := eq_false (by omega)
    have q2 : (b_ps = H1.n) = False := eq_false (by omega)
    by_cases hc : (comp (edge ps limit) ps.length k).length = 1
    · have hci : ((comp (edge ps limit) ps.length k).length : Int) = 1 := by omega
      have he := loneTo_yes hc
      rw [hsx] at he
      simp (config := {contextual := true, implicitDefEqProofs := false, maxSteps := 2000000}) [-Int.not_le, -Int.not_lt, argsF, hci, hrow, hps1, hat_ps.esz, hat_ps.len, hlt, hj1, e_u, w1, q1, q2, hb1', hb2']
      refine ⟨fun hw => ⟨k + 1, hlt, by omega, ?_⟩⟩
      rw [he]
      exact .one (c := some (H1.n + 1)) hwf (Sub.push hwf (Sub.kill hwf (Sub.push hwf hs1' _) (Nat.le_refl _)) _) ⟨by omega, by simp [push_b, set_b, kill_b, rowK]; done⟩ (plain_map (fun _ => rfl) _) (by simp [frOk, AV.okR, AV.ok1, AC.okR, AV.ren, AV.ren1, AC.ren, AFrame.get, pl1_old, *]; first | done | rfl | omega)
    · have hci : ¬ (((comp (edge ps limit) ps.length k).length : Int) = 1) := by omega
      have he := loneTo_no hc
      simp (config := {contextual := true, implicitDefEqProofs := false, maxSteps := 2000000}) [-Int.not_le, -Int.not_lt, argsF, hci, w1]
      refine ⟨fun hw => ⟨k + 1, hlt, by omega, ?_⟩⟩
      rw [he]
      exact .one (c := some H.n) hwf hs1' ⟨by omega, hrow⟩ (plain_map (fun _ => rfl) _) (by simp [frOk, AV.okR, AV.ok1, AC.okR, AV.ren, AV.ren1, AC.ren, AFrame.get, pl1_old, *]; first | done | rfl | omega)

end Go.Proofs.Ytafenginfojcmaa
