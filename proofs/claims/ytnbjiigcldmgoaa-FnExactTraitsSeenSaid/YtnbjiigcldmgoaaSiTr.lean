/- The traits of a group. -/
import Derived.Test.YtnbjiigcldmgoaaSiN
import Derived.Test.YtnbjiigcldmgoaaSiSp
set_option maxRecDepth 8000
set_option linter.unusedSimpArgs false
set_option linter.unusedVariables false
namespace Go.Proofs.Ytnbjiigcldmgoaa
open Go Go.RowKit

set_option maxHeartbeats 4000000
def trt (ps : List Si) (k : Nat) : List Int := (ps.getD k default).traits
def trAll (ps : List Si) (L : List Nat) : List Int := (L.map (trt ps)).flatten
theorem trAll_nil (ps : List Si) : trAll ps [] = [] := rfl
theorem trAll_cons (ps : List Si) (k : Nat) (r : List Nat) : trAll ps (k :: r) = trt ps k ++ trAll ps r := by simp [trAll]
theorem trAll_len {ps : List Si} (h : ∀ p ∈ ps, p.traits.length ≤ 8) : ∀ (L : List Nat), (∀ k ∈ L, k < ps.length) → (trAll ps L).length ≤ 8 * L.length
  | [], _ => by simp [trAll]
  | k :: r, hk => by
    have h1 := trAll_len h r fun x hx => hk x (by simp [hx])
    have h2 : k < ps.length := hk k (by simp)
    have h3 := h ps[k] (List.getElem_mem h2)
    have h4 : trt ps k = ps[k].traits := by simp [trt, List.getD_eq_getElem?_getD, h2]
    rw [trAll_cons, List.length_append, h4, List.length_cons]
    omega
theorem putAll_len : ∀ (l o : List Int), (putAll l o).length ≤ o.length + l.length
  | [], o => by simp [putAll]
  | x :: r, o => by
    have h1 := putAll_len r (putI o x)
    have h2 := putI_len o x
    rw [putAll, List.length_cons]
    omega
noncomputable def trRes (ps : List Si) (limit id : Int) : List Int × Bool := if areSi ps = true then if inR limit (-30) 16 = true then if ixOf (fun s : Si => decide (s.id = id)) ps 0 < 0 then ([], false)
  else (putAll (trAll ps (comp (edge ps limit) ps.length (ixOf (fun s : Si => decide (s.id = id)) ps 0).toNat)) [], true)
  else ([], false) else ([], false)
theorem comp_len (e : Nat → Nat → Bool) (n i : Nat) : (comp e n i).length ≤ n := nodup_len _ _ (comp_up.imp fun {a b} h => by omega) fun x hx => (mem_comp.1 hx).lt
theorem trRes_len (ps : List Si) (limit id : Int) : (trRes ps limit id).1.length ≤ 1048576 := by
  unfold trRes
  split
  · rename_i hv
    split
    · split
      · simp
      · have h1 := trAll_len (fun p hp => (areSi_b hv p hp).2.2.2.2) (comp (edge ps limit) ps.length (ixOf (fun s : Si => decide (s.id = id)) ps 0).toNat) fun x hx => (mem_comp.1 hx).lt
        have h2 := putAll_len (trAll ps (comp (edge ps limit) ps.length (ixOf (fun s : Si => decide (s.id = id)) ps 0).toNat)) []
        have h3 := comp_len (edge ps limit) ps.length (ixOf (fun s : Si => decide (s.id = id)) ps 0).toNat
        have h4 := areSi_len hv
        simp only [List.length_nil] at h2
        simp only
        omega
    · simp
  · simp
structure TX where
  H : AHeap
  b : Nat
  out : List Int
structure TX.Ok (x : TX) (H1 : AHeap) (n0 b1 : Nat) : Prop where
  sub : Sub H1 x.H
  row : x.H.b x.b = some (rowK eI 3 x.out)
  ge : n0 ≤ x.b

def q_tr : Con := fun args H K => match args with
  | [ps_v, .c (.int .i64 limit), .c (.int .i64 id)] => eSi.rd H (fun ps => (∀ p ∈ ps, p.traits.length ≤ 1048576) ∧ K (.tup [.c (.sl (H.n) (0) ((trRes ps limit id).1.length)), .c (.bool ((trRes ps limit id).2))]) (H.push (rowK eI 3 (trRes ps limit id).1))) ps_v
  | _ => False
@[simp ↓] theorem q_tr_eq (ps_v : AV) (limit : Int) (id : Int) (H : AHeap) (K : AV → AHeap → Prop) : q_tr [ps_v, .c (.int .i64 limit), .c (.int .i64 id)] H K = (eSi.rd H (fun ps => (∀ p ∈ ps, p.traits.length ≤ 1048576) ∧ K (.tup [.c (.sl (H.n) (0) ((trRes ps limit id).1.length)), .c (.bool ((trRes ps limit id).2))]) (H.push (rowK eI 3 (trRes ps limit id).1))) ps_v) := rfl

theorem impl_TraitsSeen_s : Sound Try.prog 43 q_tr := by
  intro args H K h
  unfold q_tr at h
  split at h
  rotate_left
  all_goals first | exact False.elim h | skip
  rename_i ps_v limit id
  have h1 := EncH.rd_at h
  clear h
  obtain ⟨b_ps, i_ps, k_ps, ps, rfl, hat_ps, h⟩ := h1
  have hE := soundE_cons impl_areSightings_s (soundE_cons impl_inRange_s (soundE_cons impl_sightingAt_s (soundE_cons impl_groupWith_s (soundE_cons slices_SortA_s (soundE_cons slices_Compact_s (soundE_nil (P := Try.prog)))))))
  refine acalls_fn impl_TraitsSeen_k hE ⟨by simp, fun hwf => ?_⟩
  have hsr : SubE H H := SubE.refl H
  have hsp : ∀ H' k, H.n ≤ H'.n → SubE H H' → SubE H (H'.push k) := fun H' k hn hs => SubE.push hwf hn hs k
  have hst : ∀ H', SubE H H' → SubE H H'.toRo := fun H' hs => hs.toRo
  have hss : ∀ H' i k, H.n ≤ i → SubE H H' → SubE H (H'.set i k) := fun H' i k hn hs => SubE.set hwf hn hs k
  have hsk : ∀ H' i, H.n ≤ i → SubE H H' → SubE H (H'.kill i) := fun H' i hn hs => SubE.kill hwf hn hs
  have hon_ps := hat_ps.on
  have hb_ps : b_ps < H.n := (hwf b_ps k_ps hat_ps.blk).1
  have hne_ps : (b_ps = H.n) = False := eq_false (by omega)
  have hne1_ps : ∀ i, (b_ps = H.n + i) = False := fun i => eq_false (by omega)
  have hne2_ps : (b_ps = H.n + 1 + 1) = False ∧ (b_ps = H.n + 1 + 1 + 1) = False ∧ (b_ps = H.n + 1 + 1 + 1 + 1) = False ∧ (b_ps = H.n + 1 + 1 + 1 + 1 + 1) = False ∧ (b_ps = H.n + 1 + 1 + 1 + 1 + 1 + 1) = False ∧ (b_ps = H.n + 1 + 1 + 1 + 1 + 1 + 1 + 1) = False ∧ (b_ps = H.n + 1 + 1 + 1 + 1 + 1 + 1 + 1 + 1) = False ∧ (b_ps = H.n + 1 + 1 + 1 + 1 + 1 + 1 + 1 + 1 + 1) = False ∧ (b_ps = H.n + 1 + 1 + 1 + 1 + 1 + 1 + 1 + 1 + 1 + 1) = False ∧ (b_ps = H.n + 1 + 1 + 1 + 1 + 1 + 1 + 1 + 1 + 1 + 1 + 1) = False ∧ (b_ps = H.n + 1 + 1 + 1 + 1 + 1 + 1 + 1 + 1 + 1 + 1 + 1 + 1) = False := ⟨eq_false (by omega), eq_false (by omega), eq_false (by omega), eq_false (by omega), eq_false (by omega), eq_false (by omega), eq_false (by omega), eq_false (by omega), eq_false (by omega), eq_false (by omega), eq_false (by omega)⟩
  have hmx_ps : ps.length ≤ 9223372036854775807 := by have h1 := (hwf b_ps k_ps hat_ps.blk).2.2; have h2 := hat_ps.len; omega
  obtain ⟨hl, h⟩ := h
  unfold trRes at h
  by_cases hv : areSi ps = true
  rotate_left
  · simp (config := {contextual := true, implicitDefEqProofs := false, maxSteps := 2000000}) [-Int.not_le, -Int.not_lt, argsF, impl_TraitsSeen_c, hat_ps.blk, hat_ps.esz, hat_ps.len, hon_ps, hne_ps, hne1_ps, hne2_ps.1, hne2_ps.2.1, hne2_ps.2.2.1, hne2_ps.2.2.2.1, hne2_ps.2.2.2.2.1, hne2_ps.2.2.2.2.2.1, hne2_ps.2.2.2.2.2.2.1, hne2_ps.2.2.2.2.2.2.2.1, hne2_ps.2.2.2.2.2.2.2.2.1, hne2_ps.2.2.2.2.2.2.2.2.2.1, hne2_ps.2.2.2.2.2.2.2.2.2.2, hsr, hsp, hst, hss, hsk, hv]
    simp only [hv, if_false, reduceCtorEq] at h
    exact (.one (c := none) hwf (by (repeat first | exact Sub.refl _ | refine Sub.push hwf ?_ _ | refine Sub.set hwf ?_ (by first | exact Nat.le_refl _ | omega) _ | refine Sub.kill hwf ?_ (by first | exact Nat.le_refl _ | omega))) ⟨rfl, rfl⟩ (plain_map (fun _ => rfl) _) (by simp [frOk, AV.okR, AV.ok1, AC.okR, AV.ren, AV.ren1, AC.ren, AFrame.get, pl1_old, *]; first | done | omega) h)
  simp only [hv, if_true] at h
  by_cases hr : inR limit (-30) 16 = true
  rotate_left
  · simp (config := {contextual := true, implicitDefEqProofs := false, maxSteps := 2000000}) [-Int.not_le, -Int.not_lt, argsF, impl_TraitsSeen_c, hat_ps.blk, hat_ps.esz, hat_ps.len, hon_ps, hne_ps, hne1_ps, hne2_ps.1, hne2_ps.2.1, hne2_ps.2.2.1, hne2_ps.2.2.2.1, hne2_ps.2.2.2.2.1, hne2_ps.2.2.2.2.2.1, hne2_ps.2.2.2.2.2.2.1, hne2_ps.2.2.2.2.2.2.2.1, hne2_ps.2.2.2.2.2.2.2.2.1, hne2_ps.2.2.2.2.2.2.2.2.2.1, hne2_ps.2.2.2.2.2.2.2.2.2.2, hsr, hsp, hst, hss, hsk, hv, hr]
    simp only [hr, if_false, reduceCtorEq] at h
    exact (.one (c := none) hwf (by (repeat first | exact Sub.refl _ | refine Sub.push hwf ?_ _ | refine Sub.set hwf ?_ (by first | exact Nat.le_refl _ | omega) _ | refine Sub.kill hwf ?_ (by first | exact Nat.le_refl _ | omega))) ⟨rfl, rfl⟩ (plain_map (fun _ => rfl) _) (by simp [frOk, AV.okR, AV.ok1, AC.okR, AV.ren, AV.ren1, AC.ren, AFrame.get, pl1_old, *]; first | done | omega) h)
  simp only [hr, if_true] at h
  rcases ixOf_find (fun s : Si => decide (s.id = id)) ps with ⟨e1, _⟩ | ⟨m, hm, e1, _⟩
  · rw [e1] at h
    simp (config := {contextual := true, implicitDefEqProofs := false, maxSteps := 2000000}) [-Int.not_le, -Int.not_lt, argsF, impl_TraitsSeen_c, hat_ps.blk, hat_ps.esz, hat_ps.len, hon_ps, hne_ps, hne1_ps, hne2_ps.1, hne2_ps.2.1, hne2_ps.2.2.1, hne2_ps.2.2.2.1, hne2_ps.2.2.2.2.1, hne2_ps.2.2.2.2.2.1, hne2_ps.2.2.2.2.2.2.1, hne2_ps.2.2.2.2.2.2.2.1, hne2_ps.2.2.2.2.2.2.2.2.1, hne2_ps.2.2.2.2.2.2.2.2.2.1, hne2_ps.2.2.2.2.2.2.2.2.2.2, hsr, hsp, hst, hss, hsk, hv, hr, e1]
    simp only [show ((-1 : Int) < 0) = True from eq_true (by omega), if_true] at h
    exact (.one (c := none) hwf (by (repeat first | exact Sub.refl _ | refine Sub.push hwf ?_ _ | refine Sub.set hwf ?_ (by first | exact Nat.le_refl _ | omega) _ | refine Sub.kill hwf ?_ (by first | exact Nat.le_refl _ | omega))) ⟨rfl, rfl⟩ (plain_map (fun _ => rfl) _) (by simp [frOk, AV.okR, AV.ok1, AC.okR, AV.ren, AV.ren1, AC.ren, AFrame.get, pl1_old, *]; first | done | omega) h)
  have hm0 : ((m : Int) < 0) = False := eq_false (by omega)
  have hm1 : (0 ≤ (m : Int)) = True := eq_true (by omega)
  have hmi : ((m : Int) < (ps.length : Int)) = True := eq_true (by omega)
  rw [e1] at h
  simp only [hm0, if_false, Int.toNat_natCast] at h
  have hpl := areSi_len hv
  have hall : ∀ x ∈ comp (edge ps limit) ps.length m, x < ps.length := fun x hx => (mem_comp.1 hx).lt
  have hcl := comp_len (edge ps limit) ps.length m
  have htl := trAll_len (fun p hp => (areSi_b hv p hp).2.2.2.2) _ hall

  have hsym := edge_sym (limit := limit) (areSi_nd hv)
  simp (config := {contextual := true, implicitDefEqProofs := false, maxSteps := 2000000}) [-Int.not_le, -Int.not_lt, argsF, impl_TraitsSeen_c, hat_ps.blk, hat_ps.esz, hat_ps.len, hon_ps, hne_ps, hne1_ps, hne2_ps.1, hne2_ps.2.1, hne2_ps.2.2.1, hne2_ps.2.2.2.1, hne2_ps.2.2.2.2.1, hne2_ps.2.2.2.2.2.1, hne2_ps.2.2.2.2.2.2.1, hne2_ps.2.2.2.2.2.2.2.1, hne2_ps.2.2.2.2.2.2.2.2.1, hne2_ps.2.2.2.2.2.2.2.2.2.1, hne2_ps.2.2.2.2.2.2.2.2.2.2, hsr, hsp, hst, hss, hsk, hv, hr, e1, hm0, hm1, hpl, hl, hsym]
  refine Stop.mk fun H1 b1 o1 k1 hw1 hs1 hat1 => ?_
  simp only [e1, Int.toNat_natCast] at hat1
  have hn1 : H.n ≤ H1.n := hs1.1.1
  have hb1 : b1 < H1.n := (hw1 _ _ hat1.blk).1
  have hbp : b_ps < H1.n := by omega
  have q1 : (b1 = H1.n) = False := eq_false (by omega)
  have q3 : (b_ps = H1.n) = False := eq_false (by omega)
  rw [← compact_putAll] at h
  generalize hL : comp (edge ps limit) ps.length m = L at h hat1 hall hcl htl
  simp (config := {contextual := true, implicitDefEqProofs := false, maxSteps := 2000000}) [-Int.not_le, -Int.not_lt, argsF, e1, hL]
  refine aloop_list L (fun j (out : List Int) => [(0, .c (.sl b_ps i_ps ps.length)), (8, .c (.sl (H1.n) (0) (out.length))), (28, .c (.sl (b1) (o1) (L.length))), (29, .c (.int .i64 L.length)), (30, .c (.int .i64 (j)))]) (fun j (out : List Int) => H1.push (rowK eI 3 out)) (fun j l (out : List Int) => out ++ trAll ps l = trAll ps L) hE _ [] (by simp) (.le hn1 (.one (c := none) hw1 (.refl _) ⟨rfl, rfl⟩ (plain_map (fun _ => rfl) _) (by simp [frOk, AV.okR, AV.ok1, AC.okR, AV.ren, AV.ren1, AC.ren, AFrame.get, pl1_old, *]; first | done | omega))) (fun j out hlt hi => ?_) fun out hi => ?_
  · have hLj := hall _ (List.getElem_mem hlt)
    have hj1 := idx_lt hlt
    have w1 : IntKind.i64.wrap ((j : Int) + 1) = (j : Int) + 1 := wrap_id (by omega) (by omega)
    have hat_ps : eSi.At H1 b_ps i_ps k_ps ps := hat_ps.sub hs1
    have hwf0 := hwf
    have hwf := hw1
    obtain ⟨ex_u, e_u, hd_u⟩ := hat_ps.get hLj
    obtain ⟨b_u, i_u, k_u, rfl, hat_u, htx_u⟩ := eSi_at hd_u
    have hb_u : b_u < H1.n := (hwf b_u k_u hat_u.blk).1
    have hne_u : (b_u = H1.n) = False := eq_false (by omega)
    have hne1_u : ∀ i, (b_u = H1.n + i) = False := fun i => eq_false (by omega)
    have hne2_u : (b_u = H1.n + 1 + 1) = False ∧ (b_u = H1.n + 1 + 1 + 1) = False ∧ (b_u = H1.n + 1 + 1 + 1 + 1) = False ∧ (b_u = H1.n + 1 + 1 + 1 + 1 + 1) = False ∧ (b_u = H1.n + 1 + 1 + 1 + 1 + 1 + 1) = False ∧ (b_u = H1.n + 1 + 1 + 1 + 1 + 1 + 1 + 1) = False ∧ (b_u = H1.n + 1 + 1 + 1 + 1 + 1 + 1 + 1 + 1) = False ∧ (b_u = H1.n + 1 + 1 + 1 + 1 + 1 + 1 + 1 + 1 + 1) = False ∧ (b_u = H1.n + 1 + 1 + 1 + 1 + 1 + 1 + 1 + 1 + 1 + 1) = False ∧ (b_u = H1.n + 1 + 1 + 1 + 1 + 1 + 1 + 1 + 1 + 1 + 1 + 1) = False ∧ (b_u = H1.n + 1 + 1 + 1 + 1 + 1 + 1 + 1 + 1 + 1 + 1 + 1 + 1) = False := ⟨eq_false (by omega), eq_false (by omega), eq_false (by omega), eq_false (by omega), eq_false (by omega), eq_false (by omega), eq_false (by omega), eq_false (by omega), eq_false (by omega), eq_false (by omega), eq_false (by omega)⟩
    have er := hat1.get (j := j) (by rw [nats_len]; exact hlt)
    rw [show (nats L)[j]'(by rw [nats_len]; exact hlt) = (L[j] : Int) by simp [nats]] at er
    have hLi : ((L[j] : Int) < (ps.length : Int)) = True := eq_true (by omega)
    have htu : trt ps L[j] = ps[L[j]].traits := by simp [trt, List.getD_eq_getElem?_getD, hLj]
    rw [trAll_cons, htu] at hi
    have hll := congrArg List.length hi
    simp only [List.length_append] at hll
    have hb1' : (out.length + ps[L[j]].traits.length) * 8 ≤ 140737488355328 := by omega
    have hb2' : out.length + ps[L[j]].traits.length ≤ 140737488355328 := by omega
    simp (config := {contextual := true, implicitDefEqProofs := false, maxSteps := 2000000}) [-Int.not_le, -Int.not_lt, argsF, impl_TraitsSeen_l0, hj1, w1, hat1.blk, hat1.esz, er, hlt, hLi, hLj, hat_ps.blk, hat_ps.esz, hat_ps.len, hon_ps, hne_ps, hne1_ps, hne2_ps.1, hne2_ps.2.1, hne2_ps.2.2.1, hne2_ps.2.2.2.1, hne2_ps.2.2.2.2.1, hne2_ps.2.2.2.2.2.1, hne2_ps.2.2.2.2.2.2.1, hne2_ps.2.2.2.2.2.2.2.1, hne2_ps.2.2.2.2.2.2.2.2.1, hne2_ps.2.2.2.2.2.2.2.2.2.1, hne2_ps.2.2.2.2.2.2.2.2.2.2, e_u, htx_u, hat_u.blk, hat_u.esz, hat_u.len, hat_u.els, hne_u, hne1_u, hne2_u.1, hne2_u.2.1, hne2_u.2.2.1, hne2_u.2.2.2.1, hne2_u.2.2.2.2.1, hne2_u.2.2.2.2.2.1, hne2_u.2.2.2.2.2.2.1, hne2_u.2.2.2.2.2.2.2.1, hne2_u.2.2.2.2.2.2.2.2.1, hne2_u.2.2.2.2.2.2.2.2.2.1, hne2_u.2.2.2.2.2.2.2.2.2.2, q1, q3, hb1', hb2']
    exact ⟨out ++ ps[L[j]].traits, by rw [List.append_assoc]; exact hi, .le hn1 (.one (c := some (H1.n + 1)) hwf (by (repeat first | exact Sub.refl _ | refine Sub.push hwf ?_ _ | refine Sub.set hwf ?_ (by first | exact Nat.le_refl _ | omega) _ | refine Sub.kill hwf ?_ (by first | exact Nat.le_refl _ | omega))) ⟨by omega, by simp [push_b, set_b, kill_b, rowK]; done⟩ (plain_map (fun _ => rfl) _) (by simp [frOk, AV.okR, AV.ok1, AC.okR, AV.ren, AV.ren1, AC.ren, AFrame.get, pl1_old, *]; first | done | omega))⟩
  · simp only [trAll_nil, List.append_nil] at hi
    subst hi
    rcases Nat.eq_zero_or_pos (trAll ps L).length with h0 | h0
    · have e0 : trAll ps L = [] := List.eq_nil_of_length_eq_zero h0
      simp (config := {contextual := true, implicitDefEqProofs := false, maxSteps := 2000000}) [-Int.not_le, -Int.not_lt, argsF, impl_TraitsSeen_l0, h0]
      rw [e0, compact_putAll, putAll] at h
      rw [e0]
      exact .one (c := some H1.n) hwf (Sub.push hwf hs1 _) ⟨hn1, by simp [push_b]⟩ (plain_map (fun _ => rfl) _) (by simp [frOk, AV.okR, AV.ok1, AC.okR, AV.ren, AV.ren1, AC.ren, AFrame.get, pl1_old, *]; first | done | omega) h
    · have h0' : ¬ (trAll ps L).length = 0 := by omega
      have h1' : (trAll ps L).length ≤ 1000000 := by omega
      simp (config := {contextual := true, implicitDefEqProofs := false, maxSteps := 2000000}) [-Int.not_le, -Int.not_lt, argsF, impl_TraitsSeen_l0, h0', h1']
      exact ⟨sortI_len _, .one (c := some H1.n) hwf (Sub.push hwf hs1 _) ⟨hn1, by simp [push_b]⟩ (plain_map (fun _ => rfl) _) (by simp [frOk, AV.okR, AV.ok1, AC.okR, AV.ren, AV.ren1, AC.ren, AFrame.get, pl1_old, *]; first | done | omega) h⟩

theorem spec_TraitsSeen_s : Sound Try.prog 42 q_tr := by
  intro args H K h
  unfold q_tr at h
  split at h
  rotate_left
  all_goals first | exact False.elim h | skip
  rename_i ps_v limit id
  have h1 := EncH.rd_at h
  clear h
  obtain ⟨b_ps, i_ps, k_ps, ps, rfl, hat_ps, h⟩ := h1
  have hE := soundE_cons spec_l13Find_s (soundE_cons spec_l13Good_s (soundE_cons spec_l13Limit_s (soundE_cons spec_l13Cover_s (soundE_cons spec_l1Put_s (soundE_nil (P := Try.prog))))))
  refine acalls_fn spec_TraitsSeen_k hE ⟨by simp, fun hwf => ?_⟩
  have hsr : SubE H H := SubE.refl H
  have hsp : ∀ H' k, H.n ≤ H'.n → SubE H H' → SubE H (H'.push k) := fun H' k hn hs => SubE.push hwf hn hs k
  have hst : ∀ H', SubE H H' → SubE H H'.toRo := fun H' hs => hs.toRo
  have hss : ∀ H' i k, H.n ≤ i → SubE H H' → SubE H (H'.set i k) := fun H' i k hn hs => SubE.set hwf hn hs k
  have hsk : ∀ H' i, H.n ≤ i → SubE H H' → SubE H (H'.kill i) := fun H' i hn hs => SubE.kill hwf hn hs
  have hon_ps := hat_ps.on
  have hb_ps : b_ps < H.n := (hwf b_ps k_ps hat_ps.blk).1
  have hne_ps : (b_ps = H.n) = False := eq_false (by omega)
  have hne1_ps : ∀ i, (b_ps = H.n + i) = False := fun i => eq_false (by omega)
  have hne2_ps : (b_ps = H.n + 1 + 1) = False ∧ (b_ps = H.n + 1 + 1 + 1) = False ∧ (b_ps = H.n + 1 + 1 + 1 + 1) = False ∧ (b_ps = H.n + 1 + 1 + 1 + 1 + 1) = False ∧ (b_ps = H.n + 1 + 1 + 1 + 1 + 1 + 1) = False ∧ (b_ps = H.n + 1 + 1 + 1 + 1 + 1 + 1 + 1) = False ∧ (b_ps = H.n + 1 + 1 + 1 + 1 + 1 + 1 + 1 + 1) = False ∧ (b_ps = H.n + 1 + 1 + 1 + 1 + 1 + 1 + 1 + 1 + 1) = False ∧ (b_ps = H.n + 1 + 1 + 1 + 1 + 1 + 1 + 1 + 1 + 1 + 1) = False ∧ (b_ps = H.n + 1 + 1 + 1 + 1 + 1 + 1 + 1 + 1 + 1 + 1 + 1) = False ∧ (b_ps = H.n + 1 + 1 + 1 + 1 + 1 + 1 + 1 + 1 + 1 + 1 + 1 + 1) = False := ⟨eq_false (by omega), eq_false (by omega), eq_false (by omega), eq_false (by omega), eq_false (by omega), eq_false (by omega), eq_false (by omega), eq_false (by omega), eq_false (by omega), eq_false (by omega), eq_false (by omega)⟩
  have hmx_ps : ps.length ≤ 9223372036854775807 := by have h1 := (hwf b_ps k_ps hat_ps.blk).2.2; have h2 := hat_ps.len; omega
  obtain ⟨hl, h⟩ := h
  unfold trRes at h
  by_cases hv : areSi ps = true
  rotate_left
  · simp (config := {contextual := true, implicitDefEqProofs := false, maxSteps := 2000000}) [-Int.not_le, -Int.not_lt, argsF, spec_TraitsSeen_c, hat_ps.blk, hat_ps.esz, hat_ps.len, hon_ps, hne_ps, hne1_ps, hne2_ps.1, hne2_ps.2.1, hne2_ps.2.2.1, hne2_ps.2.2.2.1, hne2_ps.2.2.2.2.1, hne2_ps.2.2.2.2.2.1, hne2_ps.2.2.2.2.2.2.1, hne2_ps.2.2.2.2.2.2.2.1, hne2_ps.2.2.2.2.2.2.2.2.1, hne2_ps.2.2.2.2.2.2.2.2.2.1, hne2_ps.2.2.2.2.2.2.2.2.2.2, hsr, hsp, hst, hss, hsk, hv]
    simp only [hv, if_false, reduceCtorEq] at h
    exact (.one (c := some (H.n)) hwf (by (repeat first | exact Sub.refl _ | refine Sub.push hwf ?_ _ | refine Sub.set hwf ?_ (by first | exact Nat.le_refl _ | omega) _ | refine Sub.kill hwf ?_ (by first | exact Nat.le_refl _ | omega))) ⟨by omega, by simp [push_b, set_b, kill_b, rowK]; done⟩ (plain_map (fun _ => rfl) _) (by simp [frOk, AV.okR, AV.ok1, AC.okR, AV.ren, AV.ren1, AC.ren, AFrame.get, pl1_old, *]; first | done | omega) h)
  simp only [hv, if_true] at h
  by_cases hr : inR limit (-30) 16 = true
  rotate_left
  · simp (config := {contextual := true, implicitDefEqProofs := false, maxSteps := 2000000}) [-Int.not_le, -Int.not_lt, argsF, spec_TraitsSeen_c, hat_ps.blk, hat_ps.esz, hat_ps.len, hon_ps, hne_ps, hne1_ps, hne2_ps.1, hne2_ps.2.1, hne2_ps.2.2.1, hne2_ps.2.2.2.1, hne2_ps.2.2.2.2.1, hne2_ps.2.2.2.2.2.1, hne2_ps.2.2.2.2.2.2.1, hne2_ps.2.2.2.2.2.2.2.1, hne2_ps.2.2.2.2.2.2.2.2.1, hne2_ps.2.2.2.2.2.2.2.2.2.1, hne2_ps.2.2.2.2.2.2.2.2.2.2, hsr, hsp, hst, hss, hsk, hv, hr]
    simp only [hr, if_false, reduceCtorEq] at h
    exact (.one (c := some (H.n)) hwf (by (repeat first | exact Sub.refl _ | refine Sub.push hwf ?_ _ | refine Sub.set hwf ?_ (by first | exact Nat.le_refl _ | omega) _ | refine Sub.kill hwf ?_ (by first | exact Nat.le_refl _ | omega))) ⟨by omega, by simp [push_b, set_b, kill_b, rowK]; done⟩ (plain_map (fun _ => rfl) _) (by simp [frOk, AV.okR, AV.ok1, AC.okR, AV.ren, AV.ren1, AC.ren, AFrame.get, pl1_old, *]; first | done | omega) h)
  simp only [hr, if_true] at h
  rcases ixOf_find (fun s : Si => decide (s.id = id)) ps with ⟨e1, _⟩ | ⟨m, hm, e1, _⟩
  · rw [e1] at h
    simp (config := {contextual := true, implicitDefEqProofs := false, maxSteps := 2000000}) [-Int.not_le, -Int.not_lt, argsF, spec_TraitsSeen_c, hat_ps.blk, hat_ps.esz, hat_ps.len, hon_ps, hne_ps, hne1_ps, hne2_ps.1, hne2_ps.2.1, hne2_ps.2.2.1, hne2_ps.2.2.2.1, hne2_ps.2.2.2.2.1, hne2_ps.2.2.2.2.2.1, hne2_ps.2.2.2.2.2.2.1, hne2_ps.2.2.2.2.2.2.2.1, hne2_ps.2.2.2.2.2.2.2.2.1, hne2_ps.2.2.2.2.2.2.2.2.2.1, hne2_ps.2.2.2.2.2.2.2.2.2.2, hsr, hsp, hst, hss, hsk, hv, hr, e1]
    simp only [show ((-1 : Int) < 0) = True from eq_true (by omega), if_true] at h
    exact (.one (c := some (H.n)) hwf (by (repeat first | exact Sub.refl _ | refine Sub.push hwf ?_ _ | refine Sub.set hwf ?_ (by first | exact Nat.le_refl _ | omega) _ | refine Sub.kill hwf ?_ (by first | exact Nat.le_refl _ | omega))) ⟨by omega, by simp [push_b, set_b, kill_b, rowK]; done⟩ (plain_map (fun _ => rfl) _) (by simp [frOk, AV.okR, AV.ok1, AC.okR, AV.ren, AV.ren1, AC.ren, AFrame.get, pl1_old, *]; first | done | omega) h)
  have hm0 : ((m : Int) < 0) = False := eq_false (by omega)
  have hm1 : (0 ≤ (m : Int)) = True := eq_true (by omega)
  have hmi : ((m : Int) < (ps.length : Int)) = True := eq_true (by omega)
  rw [e1] at h
  simp only [hm0, if_false, Int.toNat_natCast] at h
  have hpl := areSi_len hv
  have hall : ∀ x ∈ comp (edge ps limit) ps.length m, x < ps.length := fun x hx => (mem_comp.1 hx).lt
  have hcl := comp_len (edge ps limit) ps.length m
  have htl := trAll_len (fun p hp => (areSi_b hv p hp).2.2.2.2) _ hall

  simp (config := {contextual := true, implicitDefEqProofs := false, maxSteps := 2000000}) [-Int.not_le, -Int.not_lt, argsF, spec_TraitsSeen_c, hat_ps.blk, hat_ps.esz, hat_ps.len, hon_ps, hne_ps, hne1_ps, hne2_ps.1, hne2_ps.2.1, hne2_ps.2.2.1, hne2_ps.2.2.2.1, hne2_ps.2.2.2.2.1, hne2_ps.2.2.2.2.2.1, hne2_ps.2.2.2.2.2.2.1, hne2_ps.2.2.2.2.2.2.2.1, hne2_ps.2.2.2.2.2.2.2.2.1, hne2_ps.2.2.2.2.2.2.2.2.2.1, hne2_ps.2.2.2.2.2.2.2.2.2.2, hsr, hsp, hst, hss, hsk, hv, hr, e1, hm0, hm1, hmi, hm, hpl, hl]
  refine Stop.mk fun H1 b1 o1 k1 hw1 hs1 hat1 => ?_
  simp only [e1, Int.toNat_natCast] at hat1
  have hs1' : Sub H H1 := (Sub.push hwf (.refl _) _).trans hs1
  have hn1 : H.n < H1.n := hs1.1.1
  have hrow1 : H1.b H.n = some (rowK eI 3 []) := hs1.1.2 _ _ (by simp [push_b, rowK])
  have hb10 : b1 < H1.n := (hw1 _ _ hat1.blk).1
  have hbp0 : b_ps < H1.n := by omega
  generalize hL : comp (edge ps limit) ps.length m = L at h hat1 hall hcl htl
  simp (config := {contextual := true, implicitDefEqProofs := false, maxSteps := 2000000}) [-Int.not_le, -Int.not_lt, argsF, e1, hL]
  refine aloop_heap (X := TX × Nat) (fun x => [(0, .c (.sl b_ps i_ps ps.length)), (8, .c (.sl (x.1.b) (0) (x.1.out.length))), (10, .c (.sl (b1) (o1) (L.length))), (11, .c (.int .i64 ((x.2 : Int))))]) (fun x => x.1.H) (fun x => x.1.Ok H1 H.n b1 ∧ x.2 ≤ L.length ∧ putAll (trAll ps (L.drop x.2)) x.1.out = putAll (trAll ps L) [] ∧ x.1.out.length + (trAll ps (L.drop x.2)).length ≤ 1000) (fun x => L.length - x.2) hE _
    (⟨H1, H.n, []⟩, 0) ⟨⟨.refl _, hrow1, Nat.le_refl _⟩, Nat.zero_le _, by simp, by simp; omega⟩ (fun hw0 => .since (by simp only; omega) hw0 (.refl _) (by simp [frOk, AV.okR, AV.ok1, AC.okR, AV.ren, AV.ren1, AC.ren, AFrame.get, pl1_old, *]; first | done | omega)) (fun x hx hwx => ?_)
  obtain ⟨x, j⟩ := x
  obtain ⟨hok, hj, hp, hlen⟩ := hx
  simp only at hj hp hlen hok
  have hbx : x.b < x.H.n := (hwx _ _ hok.row).1
  have hb1 : b1 < x.H.n := (hwx _ _ (hok.sub.1.2 _ _ hat1.blk)).1
  have hbp : b_ps < x.H.n := (hwx _ _ (hok.sub.1.2 _ _ (hs1'.1.2 _ _ hat_ps.blk))).1
  have hnx : H.n ≤ x.H.n := by have := hok.sub.1.1; omega
  rcases Nat.lt_or_ge j L.length with hlt | hge
  rotate_left
  · obtain rfl : j = L.length := by omega
    rw [List.drop_length, trAll_nil, putAll] at hp
    simp (config := {contextual := true, implicitDefEqProofs := false, maxSteps := 2000000}) [-Int.not_le, -Int.not_lt, argsF, spec_TraitsSeen_l1]
    rw [← hp] at h
    exact .one (c := some x.b) hwf (hs1'.trans hok.sub) ⟨hok.ge, hok.row⟩ (plain_map (fun _ => rfl) _) (by simp [frOk, AV.okR, AV.ok1, AC.okR, AV.ren, AV.ren1, AC.ren, AFrame.get, pl1_old, *]; first | done | omega) h
  have hLj := hall _ (List.getElem_mem hlt)
  have hj1 := idx_lt hlt
  have w1 : IntKind.i64.wrap ((j : Int) + 1) = (j : Int) + 1 := wrap_id (by omega) (by omega)
  rw [List.drop_eq_getElem_cons hlt, trAll_cons] at hp hlen
  have htu : trt ps L[j] = ps[L[j]].traits := by simp [trt, List.getD_eq_getElem?_getD, hLj]
  rw [htu] at hp hlen
  have hat_ps1 : eSi.At H1 b_ps i_ps k_ps ps := hat_ps.sub hs1'
  have hat_ps : eSi.At x.H b_ps i_ps k_ps ps := hat_ps1.sub hok.sub
  have hwf0 := hwf
  have hwf := hwx
  obtain ⟨ex_u, e_u, hd_u⟩ := hat_ps.get hLj
  obtain ⟨b_u, i_u, k_u, rfl, hat_u, htx_u⟩ := eSi_at hd_u
  have hb_u : b_u < x.H.n := (hwf b_u k_u hat_u.blk).1
  have hne_u : (b_u = x.H.n) = False := eq_false (by omega)
  have hne1_u : ∀ i, (b_u = x.H.n + i) = False := fun i => eq_false (by omega)
  have hne2_u : (b_u = x.H.n + 1 + 1) = False ∧ (b_u = x.H.n + 1 + 1 + 1) = False ∧ (b_u = x.H.n + 1 + 1 + 1 + 1) = False ∧ (b_u = x.H.n + 1 + 1 + 1 + 1 + 1) = False ∧ (b_u = x.H.n + 1 + 1 + 1 + 1 + 1 + 1) = False ∧ (b_u = x.H.n + 1 + 1 + 1 + 1 + 1 + 1 + 1) = False ∧ (b_u = x.H.n + 1 + 1 + 1 + 1 + 1 + 1 + 1 + 1) = False ∧ (b_u = x.H.n + 1 + 1 + 1 + 1 + 1 + 1 + 1 + 1 + 1) = False ∧ (b_u = x.H.n + 1 + 1 + 1 + 1 + 1 + 1 + 1 + 1 + 1 + 1) = False ∧ (b_u = x.H.n + 1 + 1 + 1 + 1 + 1 + 1 + 1 + 1 + 1 + 1 + 1) = False ∧ (b_u = x.H.n + 1 + 1 + 1 + 1 + 1 + 1 + 1 + 1 + 1 + 1 + 1 + 1) = False := ⟨eq_false (by omega), eq_false (by omega), eq_false (by omega), eq_false (by omega), eq_false (by omega), eq_false (by omega), eq_false (by omega), eq_false (by omega), eq_false (by omega), eq_false (by omega), eq_false (by omega)⟩
  have er := hat1.get (j := j) (by rw [nats_len]; exact hlt)
  rw [show (nats L)[j]'(by rw [nats_len]; exact hlt) = (L[j] : Int) by simp [nats]] at er
  have hLi : ((L[j] : Int) < (ps.length : Int)) = True := eq_true (by omega)
  have hgb : x.H.b b1 = some k1 := hok.sub.1.2 _ _ hat1.blk
  have htx1 : eI.At x.H b_u i_u k_u ps[L[j]].traits := hat_u
  simp (config := {contextual := true, implicitDefEqProofs := false, maxSteps := 2000000}) [-Int.not_le, -Int.not_lt, argsF, spec_TraitsSeen_l1, hj1, w1, hgb, hat1.esz, er, hlt, hLi, hLj, hat_ps.blk, hat_ps.esz, hat_ps.len, hon_ps, hne_ps, hne1_ps, hne2_ps.1, hne2_ps.2.1, hne2_ps.2.2.1, hne2_ps.2.2.2.1, hne2_ps.2.2.2.2.1, hne2_ps.2.2.2.2.2.1, hne2_ps.2.2.2.2.2.2.1, hne2_ps.2.2.2.2.2.2.2.1, hne2_ps.2.2.2.2.2.2.2.2.1, hne2_ps.2.2.2.2.2.2.2.2.2.1, hne2_ps.2.2.2.2.2.2.2.2.2.2, e_u, htx_u, hat_u.blk, hat_u.esz, hat_u.len, hat_u.els, hne_u, hne1_u, hne2_u.1, hne2_u.2.1, hne2_u.2.2.1, hne2_u.2.2.2.1, hne2_u.2.2.2.2.1, hne2_u.2.2.2.2.2.1, hne2_u.2.2.2.2.2.2.1, hne2_u.2.2.2.2.2.2.2.1, hne2_u.2.2.2.2.2.2.2.2.1, hne2_u.2.2.2.2.2.2.2.2.2.1, hne2_u.2.2.2.2.2.2.2.2.2.2]
  refine aloop_heap (X := TX × Nat) (fun y => [(0, .c (.sl b_ps i_ps ps.length)), (8, .c (.sl (y.1.b) (0) (y.1.out.length))), (10, .c (.sl (b1) (o1) (L.length))), (11, .c (.int .i64 ((j : Int)))), (12, .c (.sl (b_u) (i_u) (ps[L[j]].traits.length))), (13, .c (.int .i64 ((y.2 : Int))))]) (fun y => y.1.H) (fun y => y.1.Ok x.H H.n b1 ∧ y.2 ≤ ps[L[j]].traits.length ∧ putAll (ps[L[j]].traits.drop y.2 ++ trAll ps (L.drop (j + 1))) y.1.out = putAll (trAll ps L) [] ∧ y.1.out.length + (ps[L[j]].traits.drop y.2 ++ trAll ps (L.drop (j + 1))).length ≤ 1000) (fun y => ps[L[j]].traits.length - y.2) hE _
    (x, 0) ⟨⟨.refl _, hok.row, hok.ge⟩, Nat.zero_le _, by simpa using hp, by simpa using hlen⟩ (fun hw0 => .since (by simp only; omega) hw0 (.refl _) (by simp [frOk, AV.okR, AV.ok1, AC.okR, AV.ren, AV.ren1, AC.ren, AFrame.get, pl1_old, *]; first | done | omega)) (fun y hy hwy => ?_)
  obtain ⟨y, i⟩ := y
  obtain ⟨hyk, hyi, hyp, hyl⟩ := hy
  simp only at hyi hyp hyl hyk
  have hby : y.b < y.H.n := (hwy _ _ hyk.row).1
  have hny : x.H.n ≤ y.H.n := hyk.sub.1.1
  have hby1 : b1 < y.H.n := by omega
  have hbyp : b_ps < y.H.n := by omega
  have hbyu : b_u < y.H.n := by omega
  have hyu : eI.At y.H b_u i_u k_u ps[L[j]].traits := ⟨hyk.sub.1.2 _ _ htx1.blk, htx1.esz, htx1.len, htx1.els⟩
  rcases Nat.lt_or_ge i ps[L[j]].traits.length with hilt | hige
  rotate_left
  · have hie : i = ps[L[j]].traits.length := by omega
    rw [hie, List.drop_length, List.nil_append] at hyp hyl
    have hi0 : ¬ ((i : Int) < (ps[L[j]].traits.length : Int)) := by omega
    simp (config := {contextual := true, implicitDefEqProofs := false, maxSteps := 2000000}) [-Int.not_le, -Int.not_lt, argsF, spec_TraitsSeen_l0, hi0, w1]
    exact ⟨fun hw => ⟨(y, j + 1), ⟨⟨hok.sub.trans hyk.sub, hyk.row, hyk.ge⟩, hlt, hyp, by simpa using hyl⟩, by simp only; omega, .since (by simp only; omega) hw (.refl _) (by simp [frOk, AV.okR, AV.ok1, AC.okR, AV.ren, AV.ren1, AC.ren, AFrame.get, pl1_old, *]; first | done | omega)⟩⟩
  have hi1 := idx_lt hilt
  have htl8 := (areSi_b hv _ (List.getElem_mem hLj)).2.2.2.2
  have w2 : IntKind.i64.wrap ((i : Int) + 1) = (i : Int) + 1 := wrap_id (by omega) (by omega)
  have ei := hyu.get hilt
  rw [List.drop_eq_getElem_cons hilt, List.cons_append, putAll] at hyp
  rw [List.drop_eq_getElem_cons hilt, List.cons_append, List.length_cons] at hyl
  have hol : y.out.length ≤ 1000000 := by omega
  have hpl2 := putI_len y.out ps[L[j]].traits[i]
  cases hh : hasP y.out ps[L[j]].traits[i] with
  | true =>
    have hpe : putI y.out ps[L[j]].traits[i] = y.out := by rw [putI, if_pos hh]
    rw [hpe] at hyp
    simp (config := {contextual := true, implicitDefEqProofs := false, maxSteps := 2000000}) [-Int.not_le, -Int.not_lt, argsF, spec_TraitsSeen_l0, hi1, w2, hyu.blk, hyu.esz, hilt, ei, hyk.row, hol, hh]
    exact ⟨fun hw => ⟨(y, i + 1), ⟨hyk, hilt, hyp, by simp only [List.length_append, List.length_drop] at hyl ⊢; omega⟩, by simp only; omega, .since (by simp only; omega) hw (.refl _) (by simp [frOk, AV.okR, AV.ok1, AC.okR, AV.ren, AV.ren1, AC.ren, AFrame.get, pl1_old, *]; first | done | omega)⟩⟩
  | false =>
    simp (config := {contextual := true, implicitDefEqProofs := false, maxSteps := 2000000}) [-Int.not_le, -Int.not_lt, argsF, spec_TraitsSeen_l0, hi1, w2, hyu.blk, hyu.esz, hilt, ei, hyk.row, hol, hh]
    exact ⟨fun hw => ⟨(⟨y.H.push (rowK eI 3 (putI y.out ps[L[j]].traits[i])), y.H.n, putI y.out ps[L[j]].traits[i]⟩, i + 1), ⟨⟨Sub.push hwf hyk.sub _, by simp [push_b], by simp only; omega⟩, hilt, hyp, by simp only [List.length_append, List.length_drop] at hyl ⊢; omega⟩, by simp only; omega, .since (by simp only [push_n]; omega) hw (.refl _) (by simp [frOk, AV.okR, AV.ok1, AC.okR, AV.ren, AV.ren1, AC.ren, AFrame.get, pl1_old, *]; first | done | omega)⟩⟩

end Go.Proofs.Ytnbjiigcldmgoaa
