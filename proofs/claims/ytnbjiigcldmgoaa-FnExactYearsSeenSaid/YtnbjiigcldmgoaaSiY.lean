/- The years of a group. -/
import Derived.Test.YtnbjiigcldmgoaaSiK
set_option maxRecDepth 8000
set_option linter.unusedSimpArgs false
set_option linter.unusedVariables false
namespace Go.Proofs.Ytnbjiigcldmgoaa
open Go Go.RowKit

set_option maxHeartbeats 4000000
def yr (ps : List Si) (k : Nat) : Int := (ps.getD k default).year
def yMin (ps : List Si) : List Nat → Int → Int
  | [], m => m
  | k :: r, m => yMin ps r (if yr ps k < m then yr ps k else m)
def yMax (ps : List Si) : List Nat → Int → Int
  | [], m => m
  | k :: r, m => yMax ps r (if m < yr ps k then yr ps k else m)
theorem yMin_le (ps : List Si) : ∀ (L : List Nat) (m : Int), yMin ps L m ≤ m
  | [], m => Int.le_refl _
  | k :: r, m => by
    simp only [yMin]
    have := yMin_le ps r (if yr ps k < m then yr ps k else m)
    split at this <;> split <;> omega
theorem yMin_eq (ps : List Si) : ∀ (L : List Nat) (a b : Int), a ≤ b → yMin ps L a = min a (yMin ps L b)
  | [], a, b, h => by simp only [yMin]; omega
  | k :: r, a, b, h => by
    simp only [yMin]
    have h1 := yMin_eq ps r (if yr ps k < a then yr ps k else a) (if yr ps k < b then yr ps k else b) (by split <;> split <;> omega)
    have h2 := yMin_le ps r (if yr ps k < b then yr ps k else b)
    rw [h1]
    generalize yMin ps r (if yr ps k < b then yr ps k else b) = X at h2 ⊢
    split at h2 <;> split <;> omega
theorem yMin_mem (ps : List Si) : ∀ (L : List Nat) (m : Int) (k : Nat), k ∈ L → yMin ps L m ≤ yr ps k
  | x :: r, m, k, h => by
    simp only [yMin]
    rcases List.mem_cons.1 h with rfl | h
    · have := yMin_le ps r (if yr ps k < m then yr ps k else m)
      split at this <;> split <;> omega
    · exact yMin_mem ps r _ k h
theorem yMax_ge (ps : List Si) : ∀ (L : List Nat) (m : Int), m ≤ yMax ps L m
  | [], m => Int.le_refl _
  | k :: r, m => by
    simp only [yMax]
    have := yMax_ge ps r (if m < yr ps k then yr ps k else m)
    split at this <;> split <;> omega
theorem yMax_eq (ps : List Si) : ∀ (L : List Nat) (a b : Int), b ≤ a → yMax ps L a = max a (yMax ps L b)
  | [], a, b, h => by simp only [yMax]; omega
  | k :: r, a, b, h => by
    simp only [yMax]
    have h1 := yMax_eq ps r (if a < yr ps k then yr ps k else a) (if b < yr ps k then yr ps k else b) (by split <;> split <;> omega)
    have h2 := yMax_ge ps r (if b < yr ps k then yr ps k else b)
    rw [h1]
    generalize yMax ps r (if b < yr ps k then yr ps k else b) = X at h2 ⊢
    split at h2 <;> split <;> omega
theorem yMax_mem (ps : List Si) : ∀ (L : List Nat) (m : Int) (k : Nat), k ∈ L → yr ps k ≤ yMax ps L m
  | x :: r, m, k, h => by
    simp only [yMax]
    rcases List.mem_cons.1 h with rfl | h
    · have := yMax_ge ps r (if m < yr ps k then yr ps k else m)
      split at this <;> split <;> omega
    · exact yMax_mem ps r _ k h
/-- from the year of one of them, or from the bounds: the same -/
theorem years_from {ps : List Si} {L : List Nat} {k : Nat} (hk : k ∈ L) (h1 : 1840 ≤ yr ps k) (h2 : yr ps k ≤ 2100) : yMin ps L (yr ps k) = yMin ps L 2100 ∧ yMax ps L (yr ps k) = yMax ps L 1840 := by
  have a1 := yMin_eq ps L (yr ps k) 2100 h2
  have a2 := yMin_mem ps L 2100 k hk
  have b1 := yMax_eq ps L (yr ps k) 1840 h1
  have b2 := yMax_mem ps L 1840 k hk
  omega
noncomputable def ysRes (ps : List Si) (limit id : Int) : Int × Int × Bool := if areSi ps = true then if inR limit (-30) 16 = true then if ixOf (fun s : Si => decide (s.id = id)) ps 0 < 0 then (0, 0, false)
  else (yMin ps (comp (edge ps limit) ps.length (ixOf (fun s : Si => decide (s.id = id)) ps 0).toNat) 2100, yMax ps (comp (edge ps limit) ps.length (ixOf (fun s : Si => decide (s.id = id)) ps 0).toNat) 1840, true)
  else (0, 0, false) else (0, 0, false)

def q_le2 : Con := fun args H K => match args with
  | [.c (.int .i64 a), .c (.int .i64 b)] => K (.c (.int .i64 (if b < a then b else a))) H
  | _ => False
@[simp ↓] theorem q_le2_eq (a : Int) (b : Int) (H : AHeap) (K : AV → AHeap → Prop) : q_le2 [.c (.int .i64 a), .c (.int .i64 b)] H K = (K (.c (.int .i64 (if b < a then b else a))) H) := rfl

theorem spec_l1Least_s : Sound Try.prog 72 q_le2 := by
  intro args H K h
  unfold q_le2 at h
  split at h
  rotate_left
  all_goals first | exact False.elim h | skip
  rename_i a b
  have hE := soundE_nil (P := Try.prog)
  refine acalls_fn spec_l1Least_k hE ⟨by simp, fun hwf => ?_⟩
  simp (config := {contextual := true, implicitDefEqProofs := false, maxSteps := 60000}) [-Int.not_le, -Int.not_lt, argsF, spec_l1Least_c]
  by_cases h1 : a < b
  · rw [if_pos h1]
    rw [if_neg (by omega)] at h
    (refine Out.plain hwf ?_ rfl ?_; (repeat first | exact Sub.refl _ | refine Sub.push hwf ?_ _ | refine Sub.set hwf ?_ (by first | exact Nat.le_refl _ | omega) _ | refine Sub.kill hwf ?_ (by first | exact Nat.le_refl _ | omega))); exact h
  · rw [if_neg h1]
    have e : (if b < a then b else a) = b := by split <;> omega
    rw [e] at h
    (refine Out.plain hwf ?_ rfl ?_; (repeat first | exact Sub.refl _ | refine Sub.push hwf ?_ _ | refine Sub.set hwf ?_ (by first | exact Nat.le_refl _ | omega) _ | refine Sub.kill hwf ?_ (by first | exact Nat.le_refl _ | omega))); exact h

def q_mo2 : Con := fun args H K => match args with
  | [.c (.int .i64 a), .c (.int .i64 b)] => K (.c (.int .i64 (if a < b then b else a))) H
  | _ => False
@[simp ↓] theorem q_mo2_eq (a : Int) (b : Int) (H : AHeap) (K : AV → AHeap → Prop) : q_mo2 [.c (.int .i64 a), .c (.int .i64 b)] H K = (K (.c (.int .i64 (if a < b then b else a))) H) := rfl

theorem spec_l1Most_s : Sound Try.prog 73 q_mo2 := by
  intro args H K h
  unfold q_mo2 at h
  split at h
  rotate_left
  all_goals first | exact False.elim h | skip
  rename_i a b
  have hE := soundE_nil (P := Try.prog)
  refine acalls_fn spec_l1Most_k hE ⟨by simp, fun hwf => ?_⟩
  simp (config := {contextual := true, implicitDefEqProofs := false, maxSteps := 60000}) [-Int.not_le, -Int.not_lt, argsF, spec_l1Most_c]
  by_cases h1 : b < a
  · rw [if_pos h1]
    rw [if_neg (by omega)] at h
    (refine Out.plain hwf ?_ rfl ?_; (repeat first | exact Sub.refl _ | refine Sub.push hwf ?_ _ | refine Sub.set hwf ?_ (by first | exact Nat.le_refl _ | omega) _ | refine Sub.kill hwf ?_ (by first | exact Nat.le_refl _ | omega))); exact h
  · rw [if_neg h1]
    have e : (if a < b then b else a) = b := by split <;> omega
    rw [e] at h
    (refine Out.plain hwf ?_ rfl ?_; (repeat first | exact Sub.refl _ | refine Sub.push hwf ?_ _ | refine Sub.set hwf ?_ (by first | exact Nat.le_refl _ | omega) _ | refine Sub.kill hwf ?_ (by first | exact Nat.le_refl _ | omega))); exact h

def q_ys : Con := fun args H K => match args with
  | [ps_v, .c (.int .i64 limit), .c (.int .i64 id)] => eSi.rd H (fun ps => (∀ p ∈ ps, p.traits.length ≤ 1048576) ∧ K (.tup [.c (.int .i64 ((ysRes ps limit id).1)), .c (.int .i64 ((ysRes ps limit id).2.1)), .c (.bool ((ysRes ps limit id).2.2))]) H) ps_v
  | _ => False
@[simp ↓] theorem q_ys_eq (ps_v : AV) (limit : Int) (id : Int) (H : AHeap) (K : AV → AHeap → Prop) : q_ys [ps_v, .c (.int .i64 limit), .c (.int .i64 id)] H K = (eSi.rd H (fun ps => (∀ p ∈ ps, p.traits.length ≤ 1048576) ∧ K (.tup [.c (.int .i64 ((ysRes ps limit id).1)), .c (.int .i64 ((ysRes ps limit id).2.1)), .c (.bool ((ysRes ps limit id).2.2))]) H) ps_v) := rfl

theorem impl_YearsSeen_s : Sound Try.prog 36 q_ys := by
  intro args H K h
  unfold q_ys at h
  split at h
  rotate_left
  all_goals first | exact False.elim h | skip
  rename_i ps_v limit id
  have h1 := EncH.rd_at h
  clear h
  obtain ⟨b_ps, i_ps, k_ps, ps, rfl, hat_ps, h⟩ := h1
  have hE := soundE_cons impl_areSightings_s (soundE_cons impl_inRange_s (soundE_cons impl_sightingAt_s (soundE_cons impl_groupWith_s (soundE_nil (P := Try.prog)))))
  refine acalls_fn impl_YearsSeen_k hE ⟨by simp, fun hwf => ?_⟩
  have hsr : SubE H H := SubE.refl H
  have hsp : ∀ H' k, H.n ≤ H'.n → SubE H H' → SubE H (H'.push k) := fun H' k hn hs => SubE.push hwf hn hs k
  have hst : ∀ H', SubE H H' → SubE H H'.toRo := fun H' hs => hs.toRo
  have hss : ∀ H' i k, H.n ≤ i → SubE H H' → SubE H (H'.set i k) := fun H' i k hn hs => SubE.set hwf hn hs k
  have hsk : ∀ H' i, H.n ≤ i → SubE H H' → SubE H (H'.kill i) := fun H' i hn hs => SubE.kill hwf hn hs
  have hon_ps := hat_ps.on
  have hb_ps : b_ps < H.n := (hwf b_ps k_ps hat_ps.blk).1
  have hne_ps : (b_ps = H.n) = False := eq_false (by omega)
  have hne1_ps : ∀ i, (b_ps = H.n + i) = False := fun i => eq_false (by omega)
  have hne2_ps : (b_ps = H.n + 1 + 1) = False ∧ (b_ps = H.n + 1 + 1 + 1) = False ∧ (b_ps = H.n + 1 + 1 + 1 + 1) = False ∧ (b_ps = H.n + 1 + 1 + 1 + 1 + 1) = False ∧ (b_ps = H.n + 1 + 1 + 1 + 1 + 1 + 1) = False ∧ (b_ps = H.n + 1 + 1 + 1 + 1 + 1 + 1 + 1) = False ∧ (b_ps = H.n + 1 + 1 + 1 + 1 + 1 + 1 + 1 + 1) = False ∧ (b_ps = H.n + 1 + 1 + 1 + 1 + 1 + 1 + 1 + 1 + 1) = False ∧ (b_ps = H.n + 1 + 1 + 1 + 1 + 1 + 1 + 1 + 1 + 1 + 1) = False ∧ (b_ps = H.n + 1 + 1 + 1 + 1 + 1 + 1 + 1 + 1 + 1 + 1 + 1) = False ∧ (b_ps = H.n + 1 + 1 + 1 + 1 + 1 + 1 + 1 + 1 + 1 + 1 + 1 + 1) = False := ⟨eq_false (by omega), eq_false (by omega), eq_false (by omega), eq_false (by omega), eq_false (by omega), eq_false (by omega), eq_false (by omega), eq_false (by omega), eq_false (by omega), eq_false (by omega), eq_false (by omega)⟩
  have hmx_ps : ps.length ≤ 9223372036854775807 := by have h1 := (hwf b_ps k_ps hat_ps.blk).2.2; have h2 := hat_ps.len; omega
  obtain ⟨hl, h⟩ := h
  unfold ysRes at h
  by_cases hv : areSi ps = true
  rotate_left
  · simp (config := {contextual := true, implicitDefEqProofs := false, maxSteps := 2000000}) [-Int.not_le, -Int.not_lt, argsF, impl_YearsSeen_c, hat_ps.blk, hat_ps.esz, hat_ps.len, hon_ps, hne_ps, hne1_ps, hne2_ps.1, hne2_ps.2.1, hne2_ps.2.2.1, hne2_ps.2.2.2.1, hne2_ps.2.2.2.2.1, hne2_ps.2.2.2.2.2.1, hne2_ps.2.2.2.2.2.2.1, hne2_ps.2.2.2.2.2.2.2.1, hne2_ps.2.2.2.2.2.2.2.2.1, hne2_ps.2.2.2.2.2.2.2.2.2.1, hne2_ps.2.2.2.2.2.2.2.2.2.2, hsr, hsp, hst, hss, hsk, hv]
    simp only [hv, if_false, reduceCtorEq] at h
    (refine Out.plain hwf ?_ rfl ?_; (repeat first | exact Sub.refl _ | refine Sub.push hwf ?_ _ | refine Sub.set hwf ?_ (by first | exact Nat.le_refl _ | omega) _ | refine Sub.kill hwf ?_ (by first | exact Nat.le_refl _ | omega))); exact h
  simp only [hv, if_true] at h
  by_cases hr : inR limit (-30) 16 = true
  rotate_left
  · simp (config := {contextual := true, implicitDefEqProofs := false, maxSteps := 2000000}) [-Int.not_le, -Int.not_lt, argsF, impl_YearsSeen_c, hat_ps.blk, hat_ps.esz, hat_ps.len, hon_ps, hne_ps, hne1_ps, hne2_ps.1, hne2_ps.2.1, hne2_ps.2.2.1, hne2_ps.2.2.2.1, hne2_ps.2.2.2.2.1, hne2_ps.2.2.2.2.2.1, hne2_ps.2.2.2.2.2.2.1, hne2_ps.2.2.2.2.2.2.2.1, hne2_ps.2.2.2.2.2.2.2.2.1, hne2_ps.2.2.2.2.2.2.2.2.2.1, hne2_ps.2.2.2.2.2.2.2.2.2.2, hsr, hsp, hst, hss, hsk, hv, hr]
    simp only [hr, if_false, reduceCtorEq] at h
    (refine Out.plain hwf ?_ rfl ?_; (repeat first | exact Sub.refl _ | refine Sub.push hwf ?_ _ | refine Sub.set hwf ?_ (by first | exact Nat.le_refl _ | omega) _ | refine Sub.kill hwf ?_ (by first | exact Nat.le_refl _ | omega))); exact h
  simp only [hr, if_true] at h
  rcases ixOf_find (fun s : Si => decide (s.id = id)) ps with ⟨e1, _⟩ | ⟨m, hm, e1, _⟩
  · rw [e1] at h
    simp (config := {contextual := true, implicitDefEqProofs := false, maxSteps := 2000000}) [-Int.not_le, -Int.not_lt, argsF, impl_YearsSeen_c, hat_ps.blk, hat_ps.esz, hat_ps.len, hon_ps, hne_ps, hne1_ps, hne2_ps.1, hne2_ps.2.1, hne2_ps.2.2.1, hne2_ps.2.2.2.1, hne2_ps.2.2.2.2.1, hne2_ps.2.2.2.2.2.1, hne2_ps.2.2.2.2.2.2.1, hne2_ps.2.2.2.2.2.2.2.1, hne2_ps.2.2.2.2.2.2.2.2.1, hne2_ps.2.2.2.2.2.2.2.2.2.1, hne2_ps.2.2.2.2.2.2.2.2.2.2, hsr, hsp, hst, hss, hsk, hv, hr, e1]
    simp only [show ((-1 : Int) < 0) = True from eq_true (by omega), if_true] at h
    (refine Out.plain hwf ?_ rfl ?_; (repeat first | exact Sub.refl _ | refine Sub.push hwf ?_ _ | refine Sub.set hwf ?_ (by first | exact Nat.le_refl _ | omega) _ | refine Sub.kill hwf ?_ (by first | exact Nat.le_refl _ | omega))); exact h
  have hm0 : ((m : Int) < 0) = False := eq_false (by omega)
  have hm1 : (0 ≤ (m : Int)) = True := eq_true (by omega)
  rw [e1] at h
  simp only [hm0, if_false, Int.toNat_natCast] at h
  have hsym := edge_sym (limit := limit) (areSi_nd hv)
  have hpl := areSi_len hv
  simp (config := {contextual := true, implicitDefEqProofs := false, maxSteps := 2000000}) [-Int.not_le, -Int.not_lt, argsF, impl_YearsSeen_c, hat_ps.blk, hat_ps.esz, hat_ps.len, hon_ps, hne_ps, hne1_ps, hne2_ps.1, hne2_ps.2.1, hne2_ps.2.2.1, hne2_ps.2.2.2.1, hne2_ps.2.2.2.2.1, hne2_ps.2.2.2.2.2.1, hne2_ps.2.2.2.2.2.2.1, hne2_ps.2.2.2.2.2.2.2.1, hne2_ps.2.2.2.2.2.2.2.2.1, hne2_ps.2.2.2.2.2.2.2.2.2.1, hne2_ps.2.2.2.2.2.2.2.2.2.2, hsr, hsp, hst, hss, hsk, hv, hr, e1, hm0, hm1, hpl, hl, hsym]
  refine Stop.mk fun H1 b1 o1 k1 hw1 hs1 hat1 => ?_
  simp only [e1, Int.toNat_natCast] at hat1
  have hn1 : H.n ≤ H1.n := hs1.1.1
  have hb1 : b1 < H1.n := (hw1 _ _ hat1.blk).1
  have hall : ∀ x ∈ comp (edge ps limit) ps.length m, x < ps.length := fun x hx => (mem_comp.1 hx).lt
  have hcl : (comp (edge ps limit) ps.length m).length ≤ ps.length := nodup_len _ _ (comp_up.imp fun {a b} h => by omega) hall
  generalize hL : comp (edge ps limit) ps.length m = L at h hat1 hall hcl
  simp (config := {contextual := true, implicitDefEqProofs := false, maxSteps := 2000000}) [-Int.not_le, -Int.not_lt, argsF, e1, hL]
  refine aloop_list2 L (fun j (mn mx : Int) => [(0, .c (.sl b_ps i_ps ps.length)), (9, .c (.int .i64 (mn))), (10, .c (.int .i64 (mx))), (30, .c (.sl (b1) (o1) (L.length))), (31, .c (.int .i64 L.length)), (32, .c (.int .i64 (j)))]) (fun j _ _ => H1) (fun j l mn mx => yMin ps l mn = yMin ps L 2100 ∧ yMax ps l mx = yMax ps L 1840) hE _ 2100 1840 ⟨rfl, rfl⟩ (.since hn1 hw1 (.refl _) (by simp [frOk, AV.okR, AV.ok1, AC.okR, AV.ren, AV.ren1, AC.ren, AFrame.get, pl1_old, *]; first | done | omega)) (fun j mn mx hlt hi => ?_) fun mn mx hi => ?_
  · obtain ⟨hi1, hi2⟩ := hi
    have hLj := hall _ (List.getElem_mem hlt)
    have hj1 := idx_lt hlt
    have w1 : IntKind.i64.wrap ((j : Int) + 1) = (j : Int) + 1 := wrap_id (by omega) (by omega)
    have hat_ps : eSi.At H1 b_ps i_ps k_ps ps := hat_ps.sub hs1
    have hwf0 := hwf
    have hwf := hw1
    obtain ⟨ex_u, e_u, hd_u⟩ := hat_ps.get hLj
    obtain ⟨b_u, i_u, k_u, rfl, hat_u, htx_u⟩ := eSi_at hd_u
    have hb_u : b_u < H1.n := (hwf b_u k_u hat_u.blk).1
    have hne_u : (b_u = H1.n) = False := eq_false (by omega)
    have hne1_u : ∀ i, (b_u = H1.n + i) = False := fun i => eq_false (by omega)
    have hne2_u : (b_u = H1.n + 1 + 1) = False ∧ (b_u = H1.n + 1 + 1 + 1) = False ∧ (b_u = H1.n + 1 + 1 + 1 + 1) = False ∧ (b_u = H1.n + 1 + 1 + 1 + 1 + 1) = False ∧ (b_u = H1.n + 1 + 1 + 1 + 1 + 1 + 1) = False ∧ (b_u = H1.n + 1 + 1 + 1 + 1 + 1 + 1 + 1) = False ∧ (b_u = H1.n + 1 + 1 + 1 + 1 + 1 + 1 + 1 + 1) = False ∧ (b_u = H1.n + 1 + 1 + 1 + 1 + 1 + 1 + 1 + 1 + 1) = False ∧ (b_u = H1.n + 1 + 1 + 1 + 1 + 1 + 1 + 1 + 1 + 1 + 1) = False ∧ (b_u = H1.n + 1 + 1 + 1 + 1 + 1 + 1 + 1 + 1 + 1 + 1 + 1) = False ∧ (b_u = H1.n + 1 + 1 + 1 + 1 + 1 + 1 + 1 + 1 + 1 + 1 + 1 + 1) = False := ⟨eq_false (by omega), eq_false (by omega), eq_false (by omega), eq_false (by omega), eq_false (by omega), eq_false (by omega), eq_false (by omega), eq_false (by omega), eq_false (by omega), eq_false (by omega), eq_false (by omega)⟩
    have er := hat1.get (j := j) (by rw [nats_len]; exact hlt)
    rw [show (nats L)[j]'(by rw [nats_len]; exact hlt) = (L[j] : Int) by simp [nats]] at er
    have hLi : ((L[j] : Int) < (ps.length : Int)) = True := eq_true (by omega)
    have hyr : yr ps L[j] = ps[L[j]].year := by simp [yr, List.getD_eq_getElem?_getD, hLj]
    simp only [yMin, yMax, hyr] at hi1 hi2
    simp (config := {contextual := true, implicitDefEqProofs := false, maxSteps := 2000000}) [-Int.not_le, -Int.not_lt, argsF, impl_YearsSeen_l0, hj1, w1, hat1.blk, hat1.esz, er, hlt, hLi, hLj, hat_ps.blk, hat_ps.esz, hat_ps.len, hon_ps, hne_ps, hne1_ps, hne2_ps.1, hne2_ps.2.1, hne2_ps.2.2.1, hne2_ps.2.2.2.1, hne2_ps.2.2.2.2.1, hne2_ps.2.2.2.2.2.1, hne2_ps.2.2.2.2.2.2.1, hne2_ps.2.2.2.2.2.2.2.1, hne2_ps.2.2.2.2.2.2.2.2.1, hne2_ps.2.2.2.2.2.2.2.2.2.1, hne2_ps.2.2.2.2.2.2.2.2.2.2, e_u, htx_u, hat_u.blk, hat_u.esz, hat_u.len, hat_u.els, hne_u, hne1_u, hne2_u.1, hne2_u.2.1, hne2_u.2.2.1, hne2_u.2.2.2.1, hne2_u.2.2.2.2.1, hne2_u.2.2.2.2.2.1, hne2_u.2.2.2.2.2.2.1, hne2_u.2.2.2.2.2.2.2.1, hne2_u.2.2.2.2.2.2.2.2.1, hne2_u.2.2.2.2.2.2.2.2.2.1, hne2_u.2.2.2.2.2.2.2.2.2.2]
    exact ⟨_, _, ⟨hi1, hi2⟩, .since hn1 hw1 (.refl _) (by simp [frOk, AV.okR, AV.ok1, AC.okR, AV.ren, AV.ren1, AC.ren, AFrame.get, pl1_old, *]; first | done | omega)⟩
  · obtain ⟨hi1, hi2⟩ := hi
    simp only [yMin, yMax] at hi1 hi2
    simp (config := {contextual := true, implicitDefEqProofs := false, maxSteps := 2000000}) [-Int.not_le, -Int.not_lt, argsF, impl_YearsSeen_l0]
    rw [← hi1, ← hi2] at h
    refine Out.plain (hwf) hs1 rfl ?_
    exact h

theorem spec_YearsSeen_s : Sound Try.prog 35 q_ys := by
  intro args H K h
  unfold q_ys at h
  split at h
  rotate_left
  all_goals first | exact False.elim h | skip
  rename_i ps_v limit id
  have h1 := EncH.rd_at h
  clear h
  obtain ⟨b_ps, i_ps, k_ps, ps, rfl, hat_ps, h⟩ := h1
  have hE := soundE_cons spec_l13Find_s (soundE_cons spec_l13Good_s (soundE_cons spec_l13Limit_s (soundE_cons spec_l13Cover_s (soundE_cons spec_l1Least_s (soundE_cons spec_l1Most_s (soundE_nil (P := Try.prog)))))))
  refine acalls_fn spec_YearsSeen_k hE ⟨by simp, fun hwf => ?_⟩
  have hsr : SubE H H := SubE.refl H
  have hsp : ∀ H' k, H.n ≤ H'.n → SubE H H' → SubE H (H'.push k) := fun H' k hn hs => SubE.push hwf hn hs k
  have hst : ∀ H', SubE H H' → SubE H H'.toRo := fun H' hs => hs.toRo
  have hss : ∀ H' i k, H.n ≤ i → SubE H H' → SubE H (H'.set i k) := fun H' i k hn hs => SubE.set hwf hn hs k
  have hsk : ∀ H' i, H.n ≤ i → SubE H H' → SubE H (H'.kill i) := fun H' i hn hs => SubE.kill hwf hn hs
  have hon_ps := hat_ps.on
  have hb_ps : b_ps < H.n := (hwf b_ps k_ps hat_ps.blk).1
  have hne_ps : (b_ps = H.n) = False := eq_false (by omega)
  have hne1_ps : ∀ i, (b_ps = H.n + i) = False := fun i => eq_false (by omega)
  have hne2_ps : (b_ps = H.n + 1 + 1) = False ∧ (b_ps = H.n + 1 + 1 + 1) = False ∧ (b_ps = H.n + 1 + 1 + 1 + 1) = False ∧ (b_ps = H.n + 1 + 1 + 1 + 1 + 1) = False ∧ (b_ps = H.n + 1 + 1 + 1 + 1 + 1 + 1) = False ∧ (b_ps = H.n + 1 + 1 + 1 + 1 + 1 + 1 + 1) = False ∧ (b_ps = H.n + 1 + 1 + 1 + 1 + 1 + 1 + 1 + 1) = False ∧ (b_ps = H.n + 1 + 1 + 1 + 1 + 1 + 1 + 1 + 1 + 1) = False ∧ (b_ps = H.n + 1 + 1 + 1 + 1 + 1 + 1 + 1 + 1 + 1 + 1) = False ∧ (b_ps = H.n + 1 + 1 + 1 + 1 + 1 + 1 + 1 + 1 + 1 + 1 + 1) = False ∧ (b_ps = H.n + 1 + 1 + 1 + 1 + 1 + 1 + 1 + 1 + 1 + 1 + 1 + 1) = False := ⟨eq_false (by omega), eq_false (by omega), eq_false (by omega), eq_false (by omega), eq_false (by omega), eq_false (by omega), eq_false (by omega), eq_false (by omega), eq_false (by omega), eq_false (by omega), eq_false (by omega)⟩
  have hmx_ps : ps.length ≤ 9223372036854775807 := by have h1 := (hwf b_ps k_ps hat_ps.blk).2.2; have h2 := hat_ps.len; omega
  obtain ⟨hl, h⟩ := h
  unfold ysRes at h
  by_cases hv : areSi ps = true
  rotate_left
  · simp (config := {contextual := true, implicitDefEqProofs := false, maxSteps := 2000000}) [-Int.not_le, -Int.not_lt, argsF, spec_YearsSeen_c, hat_ps.blk, hat_ps.esz, hat_ps.len, hon_ps, hne_ps, hne1_ps, hne2_ps.1, hne2_ps.2.1, hne2_ps.2.2.1, hne2_ps.2.2.2.1, hne2_ps.2.2.2.2.1, hne2_ps.2.2.2.2.2.1, hne2_ps.2.2.2.2.2.2.1, hne2_ps.2.2.2.2.2.2.2.1, hne2_ps.2.2.2.2.2.2.2.2.1, hne2_ps.2.2.2.2.2.2.2.2.2.1, hne2_ps.2.2.2.2.2.2.2.2.2.2, hsr, hsp, hst, hss, hsk, hv]
    simp only [hv, if_false, reduceCtorEq] at h
    (refine Out.plain hwf ?_ rfl ?_; (repeat first | exact Sub.refl _ | refine Sub.push hwf ?_ _ | refine Sub.set hwf ?_ (by first | exact Nat.le_refl _ | omega) _ | refine Sub.kill hwf ?_ (by first | exact Nat.le_refl _ | omega))); exact h
  simp only [hv, if_true] at h
  by_cases hr : inR limit (-30) 16 = true
  rotate_left
  · simp (config := {contextual := true, implicitDefEqProofs := false, maxSteps := 2000000}) [-Int.not_le, -Int.not_lt, argsF, spec_YearsSeen_c, hat_ps.blk, hat_ps.esz, hat_ps.len, hon_ps, hne_ps, hne1_ps, hne2_ps.1, hne2_ps.2.1, hne2_ps.2.2.1, hne2_ps.2.2.2.1, hne2_ps.2.2.2.2.1, hne2_ps.2.2.2.2.2.1, hne2_ps.2.2.2.2.2.2.1, hne2_ps.2.2.2.2.2.2.2.1, hne2_ps.2.2.2.2.2.2.2.2.1, hne2_ps.2.2.2.2.2.2.2.2.2.1, hne2_ps.2.2.2.2.2.2.2.2.2.2, hsr, hsp, hst, hss, hsk, hv, hr]
    simp only [hr, if_false, reduceCtorEq] at h
    (refine Out.plain hwf ?_ rfl ?_; (repeat first | exact Sub.refl _ | refine Sub.push hwf ?_ _ | refine Sub.set hwf ?_ (by first | exact Nat.le_refl _ | omega) _ | refine Sub.kill hwf ?_ (by first | exact Nat.le_refl _ | omega))); exact h
  simp only [hr, if_true] at h
  rcases ixOf_find (fun s : Si => decide (s.id = id)) ps with ⟨e1, _⟩ | ⟨m, hm, e1, _⟩
  · rw [e1] at h
    simp (config := {contextual := true, implicitDefEqProofs := false, maxSteps := 2000000}) [-Int.not_le, -Int.not_lt, argsF, spec_YearsSeen_c, hat_ps.blk, hat_ps.esz, hat_ps.len, hon_ps, hne_ps, hne1_ps, hne2_ps.1, hne2_ps.2.1, hne2_ps.2.2.1, hne2_ps.2.2.2.1, hne2_ps.2.2.2.2.1, hne2_ps.2.2.2.2.2.1, hne2_ps.2.2.2.2.2.2.1, hne2_ps.2.2.2.2.2.2.2.1, hne2_ps.2.2.2.2.2.2.2.2.1, hne2_ps.2.2.2.2.2.2.2.2.2.1, hne2_ps.2.2.2.2.2.2.2.2.2.2, hsr, hsp, hst, hss, hsk, hv, hr, e1]
    simp only [show ((-1 : Int) < 0) = True from eq_true (by omega), if_true] at h
    (refine Out.plain hwf ?_ rfl ?_; (repeat first | exact Sub.refl _ | refine Sub.push hwf ?_ _ | refine Sub.set hwf ?_ (by first | exact Nat.le_refl _ | omega) _ | refine Sub.kill hwf ?_ (by first | exact Nat.le_refl _ | omega))); exact h
  have hm0 : ((m : Int) < 0) = False := eq_false (by omega)
  have hm1 : (0 ≤ (m : Int)) = True := eq_true (by omega)
  have hmi : ((m : Int) < (ps.length : Int)) = True := eq_true (by omega)
  rw [e1] at h
  simp only [hm0, if_false, Int.toNat_natCast] at h
  have hpl := areSi_len hv
  obtain ⟨ex_w, e_w, hd_w⟩ := hat_ps.get hm
  obtain ⟨b_w, i_w, k_w, rfl, hat_w, htx_w⟩ := eSi_at hd_w
  have hb_w : b_w < H.n := (hwf b_w k_w hat_w.blk).1
  have hne_w : (b_w = H.n) = False := eq_false (by omega)
  have hne1_w : ∀ i, (b_w = H.n + i) = False := fun i => eq_false (by omega)
  have hne2_w : (b_w = H.n + 1 + 1) = False ∧ (b_w = H.n + 1 + 1 + 1) = False ∧ (b_w = H.n + 1 + 1 + 1 + 1) = False ∧ (b_w = H.n + 1 + 1 + 1 + 1 + 1) = False ∧ (b_w = H.n + 1 + 1 + 1 + 1 + 1 + 1) = False ∧ (b_w = H.n + 1 + 1 + 1 + 1 + 1 + 1 + 1) = False ∧ (b_w = H.n + 1 + 1 + 1 + 1 + 1 + 1 + 1 + 1) = False ∧ (b_w = H.n + 1 + 1 + 1 + 1 + 1 + 1 + 1 + 1 + 1) = False ∧ (b_w = H.n + 1 + 1 + 1 + 1 + 1 + 1 + 1 + 1 + 1 + 1) = False ∧ (b_w = H.n + 1 + 1 + 1 + 1 + 1 + 1 + 1 + 1 + 1 + 1 + 1) = False ∧ (b_w = H.n + 1 + 1 + 1 + 1 + 1 + 1 + 1 + 1 + 1 + 1 + 1 + 1) = False := ⟨eq_false (by omega), eq_false (by omega), eq_false (by omega), eq_false (by omega), eq_false (by omega), eq_false (by omega), eq_false (by omega), eq_false (by omega), eq_false (by omega), eq_false (by omega), eq_false (by omega)⟩
  simp (config := {contextual := true, implicitDefEqProofs := false, maxSteps := 2000000}) [-Int.not_le, -Int.not_lt, argsF, spec_YearsSeen_c, hat_ps.blk, hat_ps.esz, hat_ps.len, hon_ps, hne_ps, hne1_ps, hne2_ps.1, hne2_ps.2.1, hne2_ps.2.2.1, hne2_ps.2.2.2.1, hne2_ps.2.2.2.2.1, hne2_ps.2.2.2.2.2.1, hne2_ps.2.2.2.2.2.2.1, hne2_ps.2.2.2.2.2.2.2.1, hne2_ps.2.2.2.2.2.2.2.2.1, hne2_ps.2.2.2.2.2.2.2.2.2.1, hne2_ps.2.2.2.2.2.2.2.2.2.2, hsr, hsp, hst, hss, hsk, hv, hr, e1, hm0, hm1, hmi, hm, hpl, hl, e_w, htx_w, hat_w.blk, hat_w.esz, hat_w.len, hat_w.els, hne_w, hne1_w, hne2_w.1, hne2_w.2.1, hne2_w.2.2.1, hne2_w.2.2.2.1, hne2_w.2.2.2.2.1, hne2_w.2.2.2.2.2.1, hne2_w.2.2.2.2.2.2.1, hne2_w.2.2.2.2.2.2.2.1, hne2_w.2.2.2.2.2.2.2.2.1, hne2_w.2.2.2.2.2.2.2.2.2.1, hne2_w.2.2.2.2.2.2.2.2.2.2]
  refine Stop.mk fun H1 b1 o1 k1 hw1 hs1 hat1 => ?_
  simp only [e1, Int.toNat_natCast] at hat1
  have hn1 : H.n ≤ H1.n := hs1.1.1
  have hb1 : b1 < H1.n := (hw1 _ _ hat1.blk).1
  have hall : ∀ x ∈ comp (edge ps limit) ps.length m, x < ps.length := fun x hx => (mem_comp.1 hx).lt
  have hcl : (comp (edge ps limit) ps.length m).length ≤ ps.length := nodup_len _ _ (comp_up.imp fun {a b} h => by omega) hall
  have hmL : m ∈ comp (edge ps limit) ps.length m := mem_comp.2 (.refl hm)
  have hab := areSi_b hv _ (List.getElem_mem hm)
  have hym : yr ps m = ps[m].year := by simp [yr, List.getD_eq_getElem?_getD, hm]
  have hyf := years_from hmL (by rw [hym]; omega) (by rw [hym]; omega)
  rw [hym] at hyf
  rw [← hyf.1, ← hyf.2] at h
  generalize hL : comp (edge ps limit) ps.length m = L at h hat1 hall hcl
  simp (config := {contextual := true, implicitDefEqProofs := false, maxSteps := 2000000}) [-Int.not_le, -Int.not_lt, argsF, e1, hL]
  refine aloop_list2 L (fun j (mn mx : Int) => [(0, .c (.sl b_ps i_ps ps.length)), (10, .c (.int .i64 (mn))), (11, .c (.int .i64 (mx))), (12, .c (.sl (b1) (o1) (L.length))), (13, .c (.int .i64 (j)))]) (fun j _ _ => H1) (fun j l mn mx => yMin ps l mn = yMin ps L ps[m].year ∧ yMax ps l mx = yMax ps L ps[m].year) hE _ ps[m].year ps[m].year ⟨rfl, rfl⟩ (.since hn1 hw1 (.refl _) (by simp [frOk, AV.okR, AV.ok1, AC.okR, AV.ren, AV.ren1, AC.ren, AFrame.get, pl1_old, *]; first | done | omega)) (fun j mn mx hlt hi => ?_) fun mn mx hi => ?_
  · obtain ⟨hi1, hi2⟩ := hi
    have hLj := hall _ (List.getElem_mem hlt)
    have hj1 := idx_lt hlt
    have w1 : IntKind.i64.wrap ((j : Int) + 1) = (j : Int) + 1 := wrap_id (by omega) (by omega)
    have hat_ps : eSi.At H1 b_ps i_ps k_ps ps := hat_ps.sub hs1
    have hwf0 := hwf
    have hwf := hw1
    obtain ⟨ex_u, e_u, hd_u⟩ := hat_ps.get hLj
    obtain ⟨b_u, i_u, k_u, rfl, hat_u, htx_u⟩ := eSi_at hd_u
    have hb_u : b_u < H1.n := (hwf b_u k_u hat_u.blk).1
    have hne_u : (b_u = H1.n) = False := eq_false (by omega)
    have hne1_u : ∀ i, (b_u = H1.n + i) = False := fun i => eq_false (by omega)
    have hne2_u : (b_u = H1.n + 1 + 1) = False ∧ (b_u = H1.n + 1 + 1 + 1) = False ∧ (b_u = H1.n + 1 + 1 + 1 + 1) = False ∧ (b_u = H1.n + 1 + 1 + 1 + 1 + 1) = False ∧ (b_u = H1.n + 1 + 1 + 1 + 1 + 1 + 1) = False ∧ (b_u = H1.n + 1 + 1 + 1 + 1 + 1 + 1 + 1) = False ∧ (b_u = H1.n + 1 + 1 + 1 + 1 + 1 + 1 + 1 + 1) = False ∧ (b_u = H1.n + 1 + 1 + 1 + 1 + 1 + 1 + 1 + 1 + 1) = False ∧ (b_u = H1.n + 1 + 1 + 1 + 1 + 1 + 1 + 1 + 1 + 1 + 1) = False ∧ (b_u = H1.n + 1 + 1 + 1 + 1 + 1 + 1 + 1 + 1 + 1 + 1 + 1) = False ∧ (b_u = H1.n + 1 + 1 + 1 + 1 + 1 + 1 + 1 + 1 + 1 + 1 + 1 + 1) = False := ⟨eq_false (by omega), eq_false (by omega), eq_false (by omega), eq_false (by omega), eq_false (by omega), eq_false (by omega), eq_false (by omega), eq_false (by omega), eq_false (by omega), eq_false (by omega), eq_false (by omega)⟩
    have er := hat1.get (j := j) (by rw [nats_len]; exact hlt)
    rw [show (nats L)[j]'(by rw [nats_len]; exact hlt) = (L[j] : Int) by simp [nats]] at er
    have hLi : ((L[j] : Int) < (ps.length : Int)) = True := eq_true (by omega)
    have hyr : yr ps L[j] = ps[L[j]].year := by simp [yr, List.getD_eq_getElem?_getD, hLj]
    simp only [yMin, yMax, hyr] at hi1 hi2
    simp (config := {contextual := true, implicitDefEqProofs := false, maxSteps := 2000000}) [-Int.not_le, -Int.not_lt, argsF, spec_YearsSeen_l0, hj1, w1, hat1.blk, hat1.esz, er, hlt, hLi, hLj, hat_ps.blk, hat_ps.esz, hat_ps.len, hon_ps, hne_ps, hne1_ps, hne2_ps.1, hne2_ps.2.1, hne2_ps.2.2.1, hne2_ps.2.2.2.1, hne2_ps.2.2.2.2.1, hne2_ps.2.2.2.2.2.1, hne2_ps.2.2.2.2.2.2.1, hne2_ps.2.2.2.2.2.2.2.1, hne2_ps.2.2.2.2.2.2.2.2.1, hne2_ps.2.2.2.2.2.2.2.2.2.1, hne2_ps.2.2.2.2.2.2.2.2.2.2, e_u, htx_u, hat_u.blk, hat_u.esz, hat_u.len, hat_u.els, hne_u, hne1_u, hne2_u.1, hne2_u.2.1, hne2_u.2.2.1, hne2_u.2.2.2.1, hne2_u.2.2.2.2.1, hne2_u.2.2.2.2.2.1, hne2_u.2.2.2.2.2.2.1, hne2_u.2.2.2.2.2.2.2.1, hne2_u.2.2.2.2.2.2.2.2.1, hne2_u.2.2.2.2.2.2.2.2.2.1, hne2_u.2.2.2.2.2.2.2.2.2.2]
    exact ⟨_, _, ⟨hi1, hi2⟩, .since hn1 hw1 (.refl _) (by simp [frOk, AV.okR, AV.ok1, AC.okR, AV.ren, AV.ren1, AC.ren, AFrame.get, pl1_old, *]; first | done | omega)⟩
  · obtain ⟨hi1, hi2⟩ := hi
    simp only [yMin, yMax] at hi1 hi2
    simp (config := {contextual := true, implicitDefEqProofs := false, maxSteps := 2000000}) [-Int.not_le, -Int.not_lt, argsF, spec_YearsSeen_l0]
    rw [← hi1, ← hi2] at h
    refine Out.plain (hwf) hs1 rfl ?_
    exact h

end Go.Proofs.Ytnbjiigcldmgoaa
