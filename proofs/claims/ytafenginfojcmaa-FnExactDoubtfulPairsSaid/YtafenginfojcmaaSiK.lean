/- The greatest limit. -/
import Derived.Test.YtafenginfojcmaaSiJ
set_option maxRecDepth 8000
set_option linter.unusedSimpArgs false
set_option linter.unusedVariables false
namespace Go.Proofs.Ytafenginfojcmaa
open Go Go.RowKit

set_option maxHeartbeats 4000000
theorem evGo_f (t : List Int) : ∀ (l : List Int) (n : Nat), evGo t l n = n + (l.filter fun x => t.contains x).length
  | [], n => rfl
  | x :: r, n => by
    simp only [evGo, List.filter_cons]
    split
    · rw [evGo_f t r]; simp; omega
    · rw [evGo_f t r]
theorem evGo_comm {s t : List Int} (hs : s.Nodup) (ht : t.Nodup) : evGo t s 0 = evGo s t 0 := by
  rw [evGo_f, evGo_f]
  have : (s.filter fun x => t.contains x).Perm (t.filter fun x => s.contains x) := (List.perm_ext_iff_of_nodup (hs.filter _) (ht.filter _)).2 fun x => by
    simp only [List.mem_filter, List.contains_eq_mem, decide_eq_true_eq]
    exact And.comm
  rw [this.length_eq]
theorem evid_comm {s t : Si} (hs : s.traits.Nodup) (ht : t.traits.Nodup) : evid s t = evid t s := by
  unfold evid
  rw [evGo_comm hs ht]
  have : (if s.town = t.town then (0 : Int) else 10) = if t.town = s.town then 0 else 10 := by simp only [eq_comm]
  rw [this]
  omega
theorem edge_sym {ps : List Si} {limit : Int} (h : ∀ p ∈ ps, p.traits.Nodup) : ∀ x k, x < ps.length → k < ps.length → edge ps limit x k = true → edge ps limit k x = true := fun x k hx hk he => by
  simp only [edge, List.getD_eq_getElem?_getD, List.getElem?_eq_getElem hx, List.getElem?_eq_getElem hk, Option.getD_some] at he ⊢
  rw [evid_comm (h _ (List.getElem_mem hk)) (h _ (List.getElem_mem hx))]
  exact he
theorem risGo_lt (lo hi : Int) : ∀ (l : List Int) (o : Option Int), risGo lo hi o l = true → l.Pairwise (· < ·) ∧ ∀ p, o = some p → ∀ x ∈ l, p < x
  | [], _, _ => ⟨.nil, fun _ _ x hx => by cases hx⟩
  | x :: r, o, h => by
    simp only [risGo, Bool.if_false_right, Bool.and_eq_true, decide_eq_true_eq] at h
    obtain ⟨_, h1, h2⟩ := h
    obtain ⟨h3, h4⟩ := risGo_lt lo hi r (some x) h2
    refine ⟨List.pairwise_cons.2 ⟨fun y hy => h4 x rfl y hy, h3⟩, fun p hp y hy => ?_⟩
    subst hp
    have h5 : p < x := by simpa using h1
    rcases List.mem_cons.1 hy with rfl | hy
    · exact h5
    · have := h4 x rfl y hy; omega
theorem areSi_nd {ps : List Si} (h : areSi ps = true) : ∀ p ∈ ps, p.traits.Nodup := fun p hp => by
  unfold areSi at h
  simp only [Bool.and_eq_true] at h
  have h1 := siGo_all ps none h.1 p hp
  unfold isSi at h1
  simp only [Bool.and_eq_true] at h1
  exact (risGo_lt 1 50 _ none h1.2.2.2.2).1.imp fun {a b} h => by omega
/-- the first place below f + d, from d on, where P holds; else f + d -/
def glGo (P : Nat → Bool) : Nat → Nat → Nat
  | 0, d => d
  | f + 1, d => if P d = true then d else glGo P f (d + 1)
theorem glGo_hit {P : Nat → Bool} {d : Nat} (h : P d = true) : ∀ f, glGo P f d = d
  | 0 => rfl
  | f + 1 => by rw [glGo, if_pos h]
theorem glGo_miss {P : Nat → Bool} {d : Nat} (h : P d = false) (hd : d < 46) : glGo P (46 - d) d = glGo P (46 - (d + 1)) (d + 1) := by
  rw [show 46 - d = (46 - (d + 1)) + 1 by omega, glGo, if_neg (by simp [h])]
noncomputable def glP (ps : List Si) (ia ib : Nat) (d : Nat) : Bool := decide (ib ∈ comp (edge ps (16 - (d : Int))) ps.length ia)
theorem glP_last {ps : List Si} (h : areSi ps = true) {ia ib : Nat} (ha : ia < ps.length) (hb : ib < ps.length) : glP ps ia ib 46 = true := by
  refine decide_eq_true (mem_comp.2 ((Rch.refl ha).step hb ?_))
  have h1 := areSi_b h _ (List.getElem_mem ha)
  have h2 := areSi_b h _ (List.getElem_mem hb)
  simp only [edge, List.getD_eq_getElem?_getD, List.getElem?_eq_getElem ha, List.getElem?_eq_getElem hb, Option.getD_some, decide_eq_true_eq]
  unfold evid
  split <;> omega
noncomputable def glRes (ps : List Si) (a b : Int) : Int × Bool :=
  if areSi ps = true then if ixOf (fun s : Si => decide (s.id = a)) ps 0 < 0 then (0, false) else if ixOf (fun s : Si => decide (s.id = b)) ps 0 < 0 then (0, false)
    else if ixOf (fun s : Si => decide (s.id = a)) ps 0 = ixOf (fun s : Si => decide (s.id = b)) ps 0 then (0, false)
    else (16 - (glGo (glP ps (ixOf (fun s : Si => decide (s.id = a)) ps 0).toNat (ixOf (fun s : Si => decide (s.id = b)) ps 0).toNat) 46 0 : Int), true)
  else (0, false)

def q_gl : Con := fun args H K => match args with
  | [ps_v, .c (.int .i64 a), .c (.int .i64 b)] => eSi.rd H (fun ps => (∀ p ∈ ps, p.traits.length ≤ 1048576) ∧ K (.tup [.c (.int .i64 ((glRes ps a b).1)), .c (.bool ((glRes ps a b).2))]) H) ps_v
  | _ => False
@[simp ↓] theorem q_gl_eq (ps_v : AV) (a : Int) (b : Int) (H : AHeap) (K : AV → AHeap → Prop) : q_gl [ps_v, .c (.int .i64 a), .c (.int .i64 b)] H K = (eSi.rd H (fun ps => (∀ p ∈ ps, p.traits.length ≤ 1048576) ∧ K (.tup [.c (.int .i64 ((glRes ps a b).1)), .c (.bool ((glRes ps a b).2))]) H) ps_v) := rfl

theorem spec_GreatestLimit_s : Sound Try.prog 8 q_gl := by
  intro args H K h
  unfold q_gl at h
  split at h
  rotate_left
  all_goals first | exact False.elim h | skip
  rename_i ps_v a b
  have h1 := EncH.rd_at h
  clear h
  obtain ⟨b_ps, i_ps, k_ps, ps, rfl, hat_ps, h⟩ := h1
  have hE := soundE_cons spec_l13Find_s (soundE_cons spec_l13Good_s (soundE_cons spec_l13Cover_s (soundE_cons spec_l1Has_s (soundE_nil (P := Try.prog)))))
  refine acalls_fn spec_GreatestLimit_k hE ⟨by simp, fun hwf => ?_⟩
  have hsr : SubE H H := SubE.refl H
  have hsp : ∀ H' k, H.n ≤ H'.n → SubE H H' → SubE H (H'.push k) := fun H' k hn hs => SubE.push hwf hn hs k
  have hst : ∀ H', SubE H H' → SubE H H'.toRo := fun H' hs => hs.toRo
  have hss : ∀ H' i k, H.n ≤ i → SubE H H' → SubE H (H'.set i k) := fun H' i k hn hs => SubE.set hwf hn hs k
  have hsk : ∀ H' i, H.n ≤ i → SubE H H' → SubE H (H'.kill i) := fun H' i hn hs => SubE.kill hwf hn hs
  have hon_ps := hat_ps.on
  have hb_ps : b_ps < H.n := (hwf b_ps k_ps hat_ps.blk).1
  have hne_ps : (b_ps = H.n) = False := eq_false (by omega)
  have hne1_ps : ∀ i, (b_ps = H.n + i) = False := fun i => eq_false (by omega)
  have hne2_ps : (b_ps = H.n + 1 + 1) = False ∧ (b_ps = H.n + 1 + 1 + 1) = False ∧ (b_ps = H.n + 1 + 1 + 1 + 1) = False ∧ (b_ps = H.n + 1 + 1 + 1 + 1 + 1) = False ∧ (b_ps = H.n + 1 + 1 + 1 + 1 + 1 + 1) = False ∧ (b_ps = H.n + 1 + 1 + 1 + 1 + 1 + 1 + 1) = False ∧ (b_ps = H.n + 1 + 1 + 1 + 1 + 1 + 1 + 1 + 1) = False ∧ (b_ps = H.n + 1 + 1 + 1 + 1 + 1 + 1 + 1 + 1 + 1) = False ∧ (b_ps = H.n + 1 + 1 + 1 + 1 + 1 + 1 + 1 + 1 + 1 + 1) = False ∧ (b_ps = H.n + 1 + 1 + 1 + 1 + 1 + 1 + 1 + 1 + 1 + 1 + 1) = False ∧ (b_ps = H.n + 1 + 1 + 1 + 1 + 1 + 1 + 1 + 1 + 1 + 1 + 1 + 1) = False := ⟨eq_false (by omega), eq_false (by omega), eq_false (by omega), eq_false (by omega), eq_false (by omega), eq_false (by omega), eq_false (by omega), eq_false (by omega), eq_false (by omega), eq_false (by omega), eq_false (by omega)⟩
  have hmx_ps : ps.length ≤ 9223372036854775807 := by have h1 := (hwf b_ps k_ps hat_ps.blk).2.2; have h2 := hat_ps.len; omega
  obtain ⟨hl, h⟩ := h
  unfold glRes at h
  by_cases hv : areSi ps = true
  rotate_left
  · simp (config := {contextual := true, implicitDefEqProofs := false, maxSteps := 2000000}) [-Int.not_le, -Int.not_lt, argsF, spec_GreatestLimit_c, hat_ps.blk, hat_ps.esz, hat_ps.len, hon_ps, hne_ps, hne1_ps, hne2_ps.1, hne2_ps.2.1, hne2_ps.2.2.1, hne2_ps.2.2.2.1, hne2_ps.2.2.2.2.1, hne2_ps.2.2.2.2.2.1, hne2_ps.2.2.2.2.2.2.1, hne2_ps.2.2.2.2.2.2.2.1, hne2_ps.2.2.2.2.2.2.2.2.1, hne2_ps.2.2.2.2.2.2.2.2.2.1, hne2_ps.2.2.2.2.2.2.2.2.2.2, hsr, hsp, hst, hss, hsk, hv]
    simp only [hv, if_false, reduceCtorEq] at h
    (refine Out.plain hwf ?_ rfl ?_; (repeat first | exact Sub.refl _ | refine Sub.push hwf ?_ _ | refine Sub.set hwf ?_ (by first | exact Nat.le_refl _ | omega | (simp only [push_n, set_n, kill_n]; omega)) _ | refine Sub.kill hwf ?_ (by first | exact Nat.le_refl _ | omega | (simp only [push_n, set_n, kill_n]; omega)))); exact h
  simp only [hv, if_true] at h
  rcases ixOf_find (fun s : Si => decide (s.id = a)) ps with ⟨e1, _⟩ | ⟨m, hm, e1, _⟩
  · rw [e1] at h
    simp (config := {contextual := true, implicitDefEqProofs := false, maxSteps := 2000000}) [-Int.not_le, -Int.not_lt, argsF, spec_GreatestLimit_c, hat_ps.blk, hat_ps.esz, hat_ps.len, hon_ps, hne_ps, hne1_ps, hne2_ps.1, hne2_ps.2.1, hne2_ps.2.2.1, hne2_ps.2.2.2.1, hne2_ps.2.2.2.2.1, hne2_ps.2.2.2.2.2.1, hne2_ps.2.2.2.2.2.2.1, hne2_ps.2.2.2.2.2.2.2.1, hne2_ps.2.2.2.2.2.2.2.2.1, hne2_ps.2.2.2.2.2.2.2.2.2.1, hne2_ps.2.2.2.2.2.2.2.2.2.2, hsr, hsp, hst, hss, hsk, hv, e1]
    simp only [show ((-1 : Int) < 0) = True from eq_true (by omega), if_true] at h
    (refine Out.plain hwf ?_ rfl ?_; (repeat first | exact Sub.refl _ | refine Sub.push hwf ?_ _ | refine Sub.set hwf ?_ (by first | exact Nat.le_refl _ | omega | (simp only [push_n, set_n, kill_n]; omega)) _ | refine Sub.kill hwf ?_ (by first | exact Nat.le_refl _ | omega | (simp only [push_n, set_n, kill_n]; omega)))); exact h
  rcases ixOf_find (fun s : Si => decide (s.id = b)) ps with ⟨e2, _⟩ | ⟨n, hn, e2, _⟩
  · rw [e1, e2] at h
    have hm0 : ((m : Int) < 0) = False := eq_false (by omega)
    simp (config := {contextual := true, implicitDefEqProofs := false, maxSteps := 2000000}) [-Int.not_le, -Int.not_lt, argsF, spec_GreatestLimit_c, hat_ps.blk, hat_ps.esz, hat_ps.len, hon_ps, hne_ps, hne1_ps, hne2_ps.1, hne2_ps.2.1, hne2_ps.2.2.1, hne2_ps.2.2.2.1, hne2_ps.2.2.2.2.1, hne2_ps.2.2.2.2.2.1, hne2_ps.2.2.2.2.2.2.1, hne2_ps.2.2.2.2.2.2.2.1, hne2_ps.2.2.2.2.2.2.2.2.1, hne2_ps.2.2.2.2.2.2.2.2.2.1, hne2_ps.2.2.2.2.2.2.2.2.2.2, hsr, hsp, hst, hss, hsk, hv, e1, e2, hm0]
    simp only [hm0, show ((-1 : Int) < 0) = True from eq_true (by omega), if_true, if_false] at h
    (refine Out.plain hwf ?_ rfl ?_; (repeat first | exact Sub.refl _ | refine Sub.push hwf ?_ _ | refine Sub.set hwf ?_ (by first | exact Nat.le_refl _ | omega | (simp only [push_n, set_n, kill_n]; omega)) _ | refine Sub.kill hwf ?_ (by first | exact Nat.le_refl _ | omega | (simp only [push_n, set_n, kill_n]; omega)))); exact h
  have hm0 : ((m : Int) < 0) = False := eq_false (by omega)
  have hn0 : ((n : Int) < 0) = False := eq_false (by omega)
  rw [e1, e2] at h
  by_cases hmn : (m : Int) = (n : Int)
  · simp (config := {contextual := true, implicitDefEqProofs := false, maxSteps := 2000000}) [-Int.not_le, -Int.not_lt, argsF, spec_GreatestLimit_c, hat_ps.blk, hat_ps.esz, hat_ps.len, hon_ps, hne_ps, hne1_ps, hne2_ps.1, hne2_ps.2.1, hne2_ps.2.2.1, hne2_ps.2.2.2.1, hne2_ps.2.2.2.2.1, hne2_ps.2.2.2.2.2.1, hne2_ps.2.2.2.2.2.2.1, hne2_ps.2.2.2.2.2.2.2.1, hne2_ps.2.2.2.2.2.2.2.2.1, hne2_ps.2.2.2.2.2.2.2.2.2.1, hne2_ps.2.2.2.2.2.2.2.2.2.2, hsr, hsp, hst, hss, hsk, hv, e1, e2, hm0, hn0, hmn]
    simp only [hm0, hn0, hmn, if_true, if_false] at h
    (refine Out.plain hwf ?_ rfl ?_; (repeat first | exact Sub.refl _ | refine Sub.push hwf ?_ _ | refine Sub.set hwf ?_ (by first | exact Nat.le_refl _ | omega | (simp only [push_n, set_n, kill_n]; omega)) _ | refine Sub.kill hwf ?_ (by first | exact Nat.le_refl _ | omega | (simp only [push_n, set_n, kill_n]; omega)))); exact h
  simp only [hm0, hn0, hmn, if_false, Int.toNat_natCast] at h
  have hsym := fun l => edge_sym (limit := l) (areSi_nd hv)
  have hpl := areSi_len hv
  generalize hD : glGo (glP ps m n) 46 0 = D at h
  simp (config := {contextual := true, implicitDefEqProofs := false, maxSteps := 2000000}) [-Int.not_le, -Int.not_lt, argsF, spec_GreatestLimit_c, hat_ps.blk, hat_ps.esz, hat_ps.len, hon_ps, hne_ps, hne1_ps, hne2_ps.1, hne2_ps.2.1, hne2_ps.2.2.1, hne2_ps.2.2.2.1, hne2_ps.2.2.2.2.1, hne2_ps.2.2.2.2.2.1, hne2_ps.2.2.2.2.2.2.1, hne2_ps.2.2.2.2.2.2.2.1, hne2_ps.2.2.2.2.2.2.2.2.1, hne2_ps.2.2.2.2.2.2.2.2.2.1, hne2_ps.2.2.2.2.2.2.2.2.2.2, hsr, hsp, hst, hss, hsk, hv, e1, e2, hm0, hn0, hmn]
  refine aloop_heap (X := Nat) (fun d => [(0, .c (.sl b_ps i_ps ps.length)), (8, .c (.int .i64 ((m : Int)))), (9, .c (.int .i64 ((n : Int)))), (10, .c (.int .i64 (16 - (d : Int))))]) (fun _ => H) (fun d => d ≤ 46 ∧ glGo (glP ps m n) (46 - d) d = D) (fun d => 47 - d) hE _ 0 ⟨by omega, hD⟩ (fun hw0 => .same hwf (by simp [frOk, AV.okR, AV.ok1, AC.okR, AV.ren, AV.ren1, AC.ren, AFrame.get, pl1_old, *]; first | done | rfl | omega)) (fun d hd hwd => ?_)
  obtain ⟨hd1, hd2⟩ := hd
  have w1 : IntKind.i64.wrap (16 - (d : Int) - 1) = 16 - ((d : Int) + 1) := (wrap_id (by omega) (by omega)).trans (by omega)

  have hc1 : ((-30 : Int) ≤ 16 - (d : Int)) = True := eq_true (by omega)
  have hm1 : (0 ≤ (m : Int)) = True := eq_true (by omega)
  simp (config := {contextual := true, implicitDefEqProofs := false, maxSteps := 2000000}) [-Int.not_le, -Int.not_lt, argsF, spec_GreatestLimit_l0, hat_ps.blk, hat_ps.esz, hat_ps.len, hon_ps, hne_ps, hne1_ps, hne2_ps.1, hne2_ps.2.1, hne2_ps.2.2.1, hne2_ps.2.2.2.1, hne2_ps.2.2.2.2.1, hne2_ps.2.2.2.2.2.1, hne2_ps.2.2.2.2.2.2.1, hne2_ps.2.2.2.2.2.2.2.1, hne2_ps.2.2.2.2.2.2.2.2.1, hne2_ps.2.2.2.2.2.2.2.2.2.1, hne2_ps.2.2.2.2.2.2.2.2.2.2, hsr, hsp, hst, hss, hsk, hc1, hm1, hm, hpl, hl]
  refine Stop.mk fun H1 b1 o1 k1 hw1 hs1 hat1 => ?_
  have hcl := hat1.len
  have hce := hat1.els
  rw [nats_len] at hcl hce
  cases hP : glP ps m n d with
  | true =>
    have hmc : ((n : Int) ∈ nats (comp (edge ps (16 - (d : Int))) ps.length m)) = True := eq_true (nats_mem.2 (of_decide_eq_true hP))
    simp (config := {contextual := true, implicitDefEqProofs := false, maxSteps := 2000000}) [-Int.not_le, -Int.not_lt, argsF, hat1.blk, hat1.esz, hcl, hce, hmc, hc1]
    rw [glGo_hit hP] at hd2
    subst hd2
    refine Out.plain (hwf) hs1 rfl ?_
    exact h
  | false =>
    have hmc : ((n : Int) ∈ nats (comp (edge ps (16 - (d : Int))) ps.length m)) = False := eq_false fun hc => of_decide_eq_false hP (nats_mem.1 hc)
    have hd46 : d < 46 := by
      rcases Nat.lt_or_ge d 46 with h1 | h1
      · exact h1
      · obtain rfl : d = 46 := by omega
        rw [glP_last hv hm hn] at hP; cases hP
    simp (config := {contextual := true, implicitDefEqProofs := false, maxSteps := 2000000}) [-Int.not_le, -Int.not_lt, argsF, hat1.blk, hat1.esz, hcl, hce, hmc, hc1, w1]
    rw [glGo_miss hP hd46] at hd2
    exact ⟨fun hw => ⟨d + 1, ⟨hd46, hd2⟩, by show 47 - (d + 1) < 47 - d; omega, .drop hwf hs1 (by simp [frOk, AV.okR, AV.ok1, AC.okR, AV.ren, AV.ren1, AC.ren, AFrame.get, pl1_old, *]; first | done | rfl | omega)⟩⟩

theorem impl_GreatestLimit_s : Sound Try.prog 7 q_gl := by
  intro args H K h
  unfold q_gl at h
  split at h
  rotate_left
  all_goals first | exact False.elim h | skip
  rename_i ps_v a b
  have h1 := EncH.rd_at h
  clear h
  obtain ⟨b_ps, i_ps, k_ps, ps, rfl, hat_ps, h⟩ := h1
  have hE := soundE_cons impl_sightingAt_s (soundE_cons impl_areSightings_s (soundE_cons impl_groupWith_s (soundE_cons slices_Contains___int_int_s (soundE_nil (P := Try.prog)))))
  refine acalls_fn impl_GreatestLimit_k hE ⟨by simp, fun hwf => ?_⟩
  have hsr : SubE H H := SubE.refl H
  have hsp : ∀ H' k, H.n ≤ H'.n → SubE H H' → SubE H (H'.push k) := fun H' k hn hs => SubE.push hwf hn hs k
  have hst : ∀ H', SubE H H' → SubE H H'.toRo := fun H' hs => hs.toRo
  have hss : ∀ H' i k, H.n ≤ i → SubE H H' → SubE H (H'.set i k) := fun H' i k hn hs => SubE.set hwf hn hs k
  have hsk : ∀ H' i, H.n ≤ i → SubE H H' → SubE H (H'.kill i) := fun H' i hn hs => SubE.kill hwf hn hs
  have hon_ps := hat_ps.on
  have hb_ps : b_ps < H.n := (hwf b_ps k_ps hat_ps.blk).1
  have hne_ps : (b_ps = H.n) = False := eq_false (by omega)
  have hne1_ps : ∀ i, (b_ps = H.n + i) = False := fun i => eq_false (by omega)
  have hne2_ps : (b_ps = H.n + 1 + 1) = False ∧ (b_ps = H.n + 1 + 1 + 1) = False ∧ (b_ps = H.n + 1 + 1 + 1 + 1) = False ∧ (b_ps = H.n + 1 + 1 + 1 + 1 + 1) = False ∧ (b_ps = H.n + 1 + 1 + 1 + 1 + 1 + 1) = False ∧ (b_ps = H.n + 1 + 1 + 1 + 1 + 1 + 1 + 1) = False ∧ (b_ps = H.n + 1 + 1 + 1 + 1 + 1 + 1 + 1 + 1) = False ∧ (b_ps = H.n + 1 + 1 + 1 + 1 + 1 + 1 + 1 + 1 + 1) = False ∧ (b_ps = H.n + 1 + 1 + 1 + 1 + 1 + 1 + 1 + 1 + 1 + 1) = False ∧ (b_ps = H.n + 1 + 1 + 1 + 1 + 1 + 1 + 1 + 1 + 1 + 1 + 1) = False ∧ (b_ps = H.n + 1 + 1 + 1 + 1 + 1 + 1 + 1 + 1 + 1 + 1 + 1 + 1) = False := ⟨eq_false (by omega), eq_false (by omega), eq_false (by omega), eq_false (by omega), eq_false (by omega), eq_false (by omega), eq_false (by omega), eq_false (by omega), eq_false (by omega), eq_false (by omega), eq_false (by omega)⟩
  have hmx_ps : ps.length ≤ 9223372036854775807 := by have h1 := (hwf b_ps k_ps hat_ps.blk).2.2; have h2 := hat_ps.len; omega
  obtain ⟨hl, h⟩ := h
  unfold glRes at h
  by_cases hv : areSi ps = true
  rotate_left
  · simp (config := {contextual := true, implicitDefEqProofs := false, maxSteps := 2000000}) [-Int.not_le, -Int.not_lt, argsF, impl_GreatestLimit_c, hat_ps.blk, hat_ps.esz, hat_ps.len, hon_ps, hne_ps, hne1_ps, hne2_ps.1, hne2_ps.2.1, hne2_ps.2.2.1, hne2_ps.2.2.2.1, hne2_ps.2.2.2.2.1, hne2_ps.2.2.2.2.2.1, hne2_ps.2.2.2.2.2.2.1, hne2_ps.2.2.2.2.2.2.2.1, hne2_ps.2.2.2.2.2.2.2.2.1, hne2_ps.2.2.2.2.2.2.2.2.2.1, hne2_ps.2.2.2.2.2.2.2.2.2.2, hsr, hsp, hst, hss, hsk, hv]
    simp only [hv, if_false, reduceCtorEq] at h
    (refine Out.plain hwf ?_ rfl ?_; (repeat first | exact Sub.refl _ | refine Sub.push hwf ?_ _ | refine Sub.set hwf ?_ (by first | exact Nat.le_refl _ | omega | (simp only [push_n, set_n, kill_n]; omega)) _ | refine Sub.kill hwf ?_ (by first | exact Nat.le_refl _ | omega | (simp only [push_n, set_n, kill_n]; omega)))); exact h
  simp only [hv, if_true] at h
  rcases ixOf_find (fun s : Si => decide (s.id = a)) ps with ⟨e1, _⟩ | ⟨m, hm, e1, _⟩
  · rw [e1] at h
    simp (config := {contextual := true, implicitDefEqProofs := false, maxSteps := 2000000}) [-Int.not_le, -Int.not_lt, argsF, impl_GreatestLimit_c, hat_ps.blk, hat_ps.esz, hat_ps.len, hon_ps, hne_ps, hne1_ps, hne2_ps.1, hne2_ps.2.1, hne2_ps.2.2.1, hne2_ps.2.2.2.1, hne2_ps.2.2.2.2.1, hne2_ps.2.2.2.2.2.1, hne2_ps.2.2.2.2.2.2.1, hne2_ps.2.2.2.2.2.2.2.1, hne2_ps.2.2.2.2.2.2.2.2.1, hne2_ps.2.2.2.2.2.2.2.2.2.1, hne2_ps.2.2.2.2.2.2.2.2.2.2, hsr, hsp, hst, hss, hsk, hv, e1]
    simp only [show ((-1 : Int) < 0) = True from eq_true (by omega), if_true] at h
    (refine Out.plain hwf ?_ rfl ?_; (repeat first | exact Sub.refl _ | refine Sub.push hwf ?_ _ | refine Sub.set hwf ?_ (by first | exact Nat.le_refl _ | omega | (simp only [push_n, set_n, kill_n]; omega)) _ | refine Sub.kill hwf ?_ (by first | exact Nat.le_refl _ | omega | (simp only [push_n, set_n, kill_n]; omega)))); exact h
  rcases ixOf_find (fun s : Si => decide (s.id = b)) ps with ⟨e2, _⟩ | ⟨n, hn, e2, _⟩
  · rw [e1, e2] at h
    have hm0 : ((m : Int) < 0) = False := eq_false (by omega)
    simp (config := {contextual := true, implicitDefEqProofs := false, maxSteps := 2000000}) [-Int.not_le, -Int.not_lt, argsF, impl_GreatestLimit_c, hat_ps.blk, hat_ps.esz, hat_ps.len, hon_ps, hne_ps, hne1_ps, hne2_ps.1, hne2_ps.2.1, hne2_ps.2.2.1, hne2_ps.2.2.2.1, hne2_ps.2.2.2.2.1, hne2_ps.2.2.2.2.2.1, hne2_ps.2.2.2.2.2.2.1, hne2_ps.2.2.2.2.2.2.2.1, hne2_ps.2.2.2.2.2.2.2.2.1, hne2_ps.2.2.2.2.2.2.2.2.2.1, hne2_ps.2.2.2.2.2.2.2.2.2.2, hsr, hsp, hst, hss, hsk, hv, e1, e2, hm0]
    simp only [hm0, show ((-1 : Int) < 0) = True from eq_true (by omega), if_true, if_false] at h
    (refine Out.plain hwf ?_ rfl ?_; (repeat first | exact Sub.refl _ | refine Sub.push hwf ?_ _ | refine Sub.set hwf ?_ (by first | exact Nat.le_refl _ | omega | (simp only [push_n, set_n, kill_n]; omega)) _ | refine Sub.kill hwf ?_ (by first | exact Nat.le_refl _ | omega | (simp only [push_n, set_n, kill_n]; omega)))); exact h
  have hm0 : ((m : Int) < 0) = False := eq_false (by omega)
  have hn0 : ((n : Int) < 0) = False := eq_false (by omega)
  rw [e1, e2] at h
  by_cases hmn : (m : Int) = (n : Int)
  · simp (config := {contextual := true, implicitDefEqProofs := false, maxSteps := 2000000}) [-Int.not_le, -Int.not_lt, argsF, impl_GreatestLimit_c, hat_ps.blk, hat_ps.esz, hat_ps.len, hon_ps, hne_ps, hne1_ps, hne2_ps.1, hne2_ps.2.1, hne2_ps.2.2.1, hne2_ps.2.2.2.1, hne2_ps.2.2.2.2.1, hne2_ps.2.2.2.2.2.1, hne2_ps.2.2.2.2.2.2.1, hne2_ps.2.2.2.2.2.2.2.1, hne2_ps.2.2.2.2.2.2.2.2.1, hne2_ps.2.2.2.2.2.2.2.2.2.1, hne2_ps.2.2.2.2.2.2.2.2.2.2, hsr, hsp, hst, hss, hsk, hv, e1, e2, hm0, hn0, hmn]
    simp only [hm0, hn0, hmn, if_true, if_false] at h
    (refine Out.plain hwf ?_ rfl ?_; (repeat first | exact Sub.refl _ | refine Sub.push hwf ?_ _ | refine Sub.set hwf ?_ (by first | exact Nat.le_refl _ | omega | (simp only [push_n, set_n, kill_n]; omega)) _ | refine Sub.kill hwf ?_ (by first | exact Nat.le_refl _ | omega | (simp only [push_n, set_n, kill_n]; omega)))); exact h
  simp only [hm0, hn0, hmn, if_false, Int.toNat_natCast] at h
  have hsym := fun l => edge_sym (limit := l) (areSi_nd hv)
  have hpl := areSi_len hv
  generalize hD : glGo (glP ps m n) 46 0 = D at h
  simp (config := {contextual := true, implicitDefEqProofs := false, maxSteps := 2000000}) [-Int.not_le, -Int.not_lt, argsF, impl_GreatestLimit_c, hat_ps.blk, hat_ps.esz, hat_ps.len, hon_ps, hne_ps, hne1_ps, hne2_ps.1, hne2_ps.2.1, hne2_ps.2.2.1, hne2_ps.2.2.2.1, hne2_ps.2.2.2.2.1, hne2_ps.2.2.2.2.2.1, hne2_ps.2.2.2.2.2.2.1, hne2_ps.2.2.2.2.2.2.2.1, hne2_ps.2.2.2.2.2.2.2.2.1, hne2_ps.2.2.2.2.2.2.2.2.2.1, hne2_ps.2.2.2.2.2.2.2.2.2.2, hsr, hsp, hst, hss, hsk, hv, e1, e2, hm0, hn0, hmn]
  refine aloop_heap (X := Nat) (fun d => [(0, .c (.sl b_ps i_ps ps.length)), (1, .c (.int .i64 (a))), (9, .c (.int .i64 ((n : Int)))), (10, .c (.int .i64 (16 - (d : Int))))]) (fun _ => H) (fun d => d ≤ 46 ∧ glGo (glP ps m n) (46 - d) d = D) (fun d => 47 - d) hE _ 0 ⟨by omega, hD⟩ (fun hw0 => .same hwf (by simp [frOk, AV.okR, AV.ok1, AC.okR, AV.ren, AV.ren1, AC.ren, AFrame.get, pl1_old, *]; first | done | rfl | omega)) (fun d hd hwd => ?_)
  obtain ⟨hd1, hd2⟩ := hd
  have w1 : IntKind.i64.wrap (16 - (d : Int) - 1) = 16 - ((d : Int) + 1) := (wrap_id (by omega) (by omega)).trans (by omega)

  rcases Nat.lt_or_ge d 46 with hd46 | hd46
  rotate_left
  · obtain rfl : d = 46 := by omega
    have hc1 : ((-30 : Int) < 16 - ((46 : Nat) : Int)) = False := eq_false (by omega)
    simp (config := {contextual := true, implicitDefEqProofs := false, maxSteps := 2000000}) [-Int.not_le, -Int.not_lt, argsF, impl_GreatestLimit_l0, hc1]
    simp only [glGo, Nat.sub_self] at hd2
    subst hd2
    refine Out.plain (hwf) (.refl _) rfl ?_
    exact h
  have hc1 : ((-30 : Int) < 16 - (d : Int)) = True := eq_true (by omega)
  have hm1 : (0 ≤ (m : Int)) = True := eq_true (by omega)
  have hsd := hsym (16 - (d : Int))
  simp (config := {contextual := true, implicitDefEqProofs := false, maxSteps := 2000000}) [-Int.not_le, -Int.not_lt, argsF, impl_GreatestLimit_l0, hat_ps.blk, hat_ps.esz, hat_ps.len, hon_ps, hne_ps, hne1_ps, hne2_ps.1, hne2_ps.2.1, hne2_ps.2.2.1, hne2_ps.2.2.2.1, hne2_ps.2.2.2.2.1, hne2_ps.2.2.2.2.2.1, hne2_ps.2.2.2.2.2.2.1, hne2_ps.2.2.2.2.2.2.2.1, hne2_ps.2.2.2.2.2.2.2.2.1, hne2_ps.2.2.2.2.2.2.2.2.2.1, hne2_ps.2.2.2.2.2.2.2.2.2.2, hsr, hsp, hst, hss, hsk, hc1, hm1, hm, hpl, hl, e1, hsd]
  refine Stop.mk fun H1 b1 o1 k1 hw1 hs1 hat1 => ?_
  simp only [e1, Int.toNat_natCast] at hat1
  have hcl := hat1.len
  have hce := hat1.els
  rw [nats_len] at hcl hce
  cases hP : glP ps m n d with
  | true =>
    have hmc : ((n : Int) ∈ nats (comp (edge ps (16 - (d : Int))) ps.length m)) = True := eq_true (nats_mem.2 (of_decide_eq_true hP))
    simp (config := {contextual := true, implicitDefEqProofs := false, maxSteps := 2000000}) [-Int.not_le, -Int.not_lt, argsF, hat1.blk, hat1.esz, hcl, hce, hmc, hc1, e1]
    rw [glGo_hit hP] at hd2
    subst hd2
    refine Out.plain (hwf) hs1 rfl ?_
    exact h
  | false =>
    have hmc : ((n : Int) ∈ nats (comp (edge ps (16 - (d : Int))) ps.length m)) = False := eq_false fun hc => of_decide_eq_false hP (nats_mem.1 hc)
    simp (config := {contextual := true, implicitDefEqProofs := false, maxSteps := 2000000}) [-Int.not_le, -Int.not_lt, argsF, hat1.blk, hat1.esz, hcl, hce, hmc, hc1, w1, e1]
    rw [glGo_miss hP hd46] at hd2
    exact ⟨fun hw => ⟨d + 1, ⟨hd46, hd2⟩, by show 47 - (d + 1) < 47 - d; omega, .drop hwf hs1 (by simp [frOk, AV.okR, AV.ok1, AC.okR, AV.ren, AV.ren1, AC.ren, AFrame.get, pl1_old, *]; first | done | rfl | omega)⟩⟩

end Go.Proofs.Ytafenginfojcmaa
