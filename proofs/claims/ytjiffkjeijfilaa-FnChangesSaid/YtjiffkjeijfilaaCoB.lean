/- The numbers that are in each change. -/
import Derived.Test.YtjiffkjeijfilaaCoA
set_option maxRecDepth 8000
set_option linter.unusedSimpArgs false
set_option linter.unusedVariables false
namespace Go.Proofs.Ytjiffkjeijfilaa
open Go Go.RowKit

set_option maxHeartbeats 4000000
def P4 (b1 b2 b4 b8 : Bool) : Int := (if b1 = true then 1 else 0) + (if b2 = true then 2 else 0) + (if b4 = true then 4 else 0) + (if b8 = true then 8 else 0)
theorem P4_b (b1 b2 b4 b8 : Bool) : 0 ≤ P4 b1 b2 b4 b8 ∧ P4 b1 b2 b4 b8 ≤ 15 := by cases b1 <;> cases b2 <;> cases b4 <;> cases b8 <;> decide
theorem P4_of {ch : Int} (h0 : 0 ≤ ch) (h1 : ch ≤ 15) : P4 (chB ch 1) (chB ch 2) (chB ch 4) (chB ch 8) = ch := by
  have hc : ch = 0 ∨ ch = 1 ∨ ch = 2 ∨ ch = 3 ∨ ch = 4 ∨ ch = 5 ∨ ch = 6 ∨ ch = 7 ∨ ch = 8 ∨ ch = 9 ∨ ch = 10 ∨ ch = 11 ∨ ch = 12 ∨ ch = 13 ∨ ch = 14 ∨ ch = 15 := by omega
  rcases hc with rfl | rfl | rfl | rfl | rfl | rfl | rfl | rfl | rfl | rfl | rfl | rfl | rfl | rfl | rfl | rfl <;> decide
theorem and_P4 : ∀ b1 b2 b4 b8 c1 c2 c4 c8 : Bool, IntKind.i64.wrap (((P4 b1 b2 b4 b8 % 2 ^ IntKind.i64.bits).toNat &&& (P4 c1 c2 c4 c8 % 2 ^ IntKind.i64.bits).toNat : Nat) : Int) = P4 (b1 && c1) (b2 && c2) (b4 && c4) (b8 && c8) := by decide
theorem and_ch (b1 b2 b4 b8 : Bool) {ch : Int} (h0 : 0 ≤ ch) (h1 : ch ≤ 15) : IntKind.i64.wrap (((P4 b1 b2 b4 b8 % 2 ^ IntKind.i64.bits).toNat &&& (ch % 2 ^ IntKind.i64.bits).toNat : Nat) : Int) = P4 (b1 && chB ch 1) (b2 && chB ch 2) (b4 && chB ch 4) (b8 && chB ch 8) := by
  have := and_P4 b1 b2 b4 b8 (chB ch 1) (chB ch 2) (chB ch 4) (chB ch 8)
  rwa [P4_of h0 h1] at this
def ndS (l : List Int) : Int := P4 (l.all fun c => chB c 1) (l.all fun c => chB c 2) (l.all fun c => chB c 4) (l.all fun c => chB c 8)
def ndRes (ps : List Ra) (x : Cv) : Int × Bool := if areRa ps = true then if isCv x = true then if (allM ps x) = [] then (0, false) else (ndS (allM ps x), true) else (0, false) else (0, false)
/-- what the numbers from one on give -/
def ndGo (L : List Int) : List Int → Int
  | [] => 0
  | o :: r => (if (L.all fun c => chB c o) = true then o else 0) + ndGo L r
theorem ndGo_all (L : List Int) : ndGo L [1, 2, 4, 8] = ndS L := by simp only [ndGo, ndS, P4]; omega
theorem ndGo_b (L : List Int) : ∀ l : List Int, (∀ o ∈ l, 0 ≤ o ∧ o ≤ 8) → 0 ≤ ndGo L l ∧ ndGo L l ≤ 8 * (l.length : Int)
  | [], _ => by simp [ndGo]
  | o :: r, h => by
    have h1 := ndGo_b L r fun x hx => h x (by simp [hx])
    have h2 := h o (by simp)
    simp only [ndGo, List.length_cons]
    push_cast
    split <;> omega
theorem cnt_all {p : Int → Bool} {L : List Int} : ((L.countP p : Nat) = L.length) = (L.all p = true) := by
  rw [List.countP_eq_length, List.all_eq_true]

def q_Needed : Con := fun args H K => match args with
  | [ps_v, .agg x_e] => eRa.rd H (fun ps => onv (eCv.dec x_e) fun x => K (.tup [.c (.int .i64 ((ndRes ps x).1)), .c (.bool ((ndRes ps x).2))]) H) ps_v
  | _ => False
@[simp ↓] theorem q_Needed_eq (ps_v : AV) (x_e : List AC) (H : AHeap) (K : AV → AHeap → Prop) : q_Needed [ps_v, .agg x_e] H K = (eRa.rd H (fun ps => onv (eCv.dec x_e) fun x => K (.tup [.c (.int .i64 ((ndRes ps x).1)), .c (.bool ((ndRes ps x).2))]) H) ps_v) := rfl

theorem impl_NeededChanges_s : Sound Try.prog 36 q_Needed := by
  intro args H K h
  unfold q_Needed at h
  split at h
  rotate_left
  all_goals first | exact False.elim h | skip
  rename_i ps_v x_e
  have h1 := Enc.rd_at h
  clear h
  obtain ⟨b_ps, i_ps, k_ps, ps, rfl, hat_ps, h⟩ := h1
  have h1 := onv_iff.1 h
  clear h
  obtain ⟨x, hd_x, h⟩ := h1
  obtain rfl := eCv.cd _ _ hd_x
  clear hd_x
  have hE := soundE_cons impl_areRates_s (soundE_cons impl_isCover_s (soundE_cons impl_possibleChanges_s (soundE_nil (P := Try.prog))))
  refine acalls_fn impl_NeededChanges_k hE ⟨by simp, fun hwf => ?_⟩
  have hb_ps : b_ps < H.n := (hwf b_ps k_ps hat_ps.blk).1
  have hne_ps : (b_ps = H.n) = False := eq_false (by omega)
  have hne1_ps : ∀ i, (b_ps = H.n + i) = False := fun i => eq_false (by omega)
  have hne2_ps : (b_ps = H.n + 1 + 1) = False ∧ (b_ps = H.n + 1 + 1 + 1) = False ∧ (b_ps = H.n + 1 + 1 + 1 + 1) = False ∧ (b_ps = H.n + 1 + 1 + 1 + 1 + 1) = False ∧ (b_ps = H.n + 1 + 1 + 1 + 1 + 1 + 1) = False ∧ (b_ps = H.n + 1 + 1 + 1 + 1 + 1 + 1 + 1) = False ∧ (b_ps = H.n + 1 + 1 + 1 + 1 + 1 + 1 + 1 + 1) = False ∧ (b_ps = H.n + 1 + 1 + 1 + 1 + 1 + 1 + 1 + 1 + 1) = False ∧ (b_ps = H.n + 1 + 1 + 1 + 1 + 1 + 1 + 1 + 1 + 1 + 1) = False ∧ (b_ps = H.n + 1 + 1 + 1 + 1 + 1 + 1 + 1 + 1 + 1 + 1 + 1) = False ∧ (b_ps = H.n + 1 + 1 + 1 + 1 + 1 + 1 + 1 + 1 + 1 + 1 + 1 + 1) = False := ⟨eq_false (by omega), eq_false (by omega), eq_false (by omega), eq_false (by omega), eq_false (by omega), eq_false (by omega), eq_false (by omega), eq_false (by omega), eq_false (by omega), eq_false (by omega), eq_false (by omega)⟩
  have hmx_ps : ps.length ≤ 9223372036854775807 := by have h1 := (hwf b_ps k_ps hat_ps.blk).2.2; have h2 := hat_ps.len; omega
  unfold ndRes at h
  by_cases hv : areRa ps = true
  rotate_left
  · rw [if_neg hv] at h
    simp (config := {contextual := true, implicitDefEqProofs := false, maxSteps := 2000000}) [-Int.not_le, -Int.not_lt, argsF, impl_NeededChanges_c, hat_ps.blk, hat_ps.esz, hat_ps.len, hat_ps.els, hne_ps, hne1_ps, hne2_ps.1, hne2_ps.2.1, hne2_ps.2.2.1, hne2_ps.2.2.2.1, hne2_ps.2.2.2.2.1, hne2_ps.2.2.2.2.2.1, hne2_ps.2.2.2.2.2.2.1, hne2_ps.2.2.2.2.2.2.2.1, hne2_ps.2.2.2.2.2.2.2.2.1, hne2_ps.2.2.2.2.2.2.2.2.2.1, hne2_ps.2.2.2.2.2.2.2.2.2.2, hv]
    (refine Out.plain hwf ?_ rfl ?_; (repeat first | exact Sub.refl _ | refine Sub.push hwf ?_ _ | refine Sub.set hwf ?_ (by first | exact Nat.le_refl _ | omega | (simp only [push_n, set_n, kill_n]; omega)) _ | refine Sub.kill hwf ?_ (by first | exact Nat.le_refl _ | omega | (simp only [push_n, set_n, kill_n]; omega)))); exact h
  by_cases hc : isCv x = true
  rotate_left
  · rw [if_pos hv, if_neg hc] at h
    simp (config := {contextual := true, implicitDefEqProofs := false, maxSteps := 2000000}) [-Int.not_le, -Int.not_lt, argsF, impl_NeededChanges_c, hat_ps.blk, hat_ps.esz, hat_ps.len, hat_ps.els, hne_ps, hne1_ps, hne2_ps.1, hne2_ps.2.1, hne2_ps.2.2.1, hne2_ps.2.2.2.1, hne2_ps.2.2.2.2.1, hne2_ps.2.2.2.2.2.1, hne2_ps.2.2.2.2.2.2.1, hne2_ps.2.2.2.2.2.2.2.1, hne2_ps.2.2.2.2.2.2.2.2.1, hne2_ps.2.2.2.2.2.2.2.2.2.1, hne2_ps.2.2.2.2.2.2.2.2.2.2, hv, hc]
    (refine Out.plain hwf ?_ rfl ?_; (repeat first | exact Sub.refl _ | refine Sub.push hwf ?_ _ | refine Sub.set hwf ?_ (by first | exact Nat.le_refl _ | omega | (simp only [push_n, set_n, kill_n]; omega)) _ | refine Sub.kill hwf ?_ (by first | exact Nat.le_refl _ | omega | (simp only [push_n, set_n, kill_n]; omega)))); exact h
  rw [if_pos hv, if_pos hc] at h

  have hwf2 : ((H.push (boxC x)).push (rowK eI 3 (allM ps x))).WF := row_wf (boxC_wf hwf x) _ (by have := allM_len ps x; omega)
  have hb := allM_b (ps := ps) (x := x)
  have hal := allM_len ps x
  simp (config := {contextual := true, implicitDefEqProofs := false, maxSteps := 2000000}) [-Int.not_le, -Int.not_lt, argsF, impl_NeededChanges_c, hat_ps.blk, hat_ps.esz, hat_ps.len, hat_ps.els, hne_ps, hne1_ps, hne2_ps.1, hne2_ps.2.1, hne2_ps.2.2.1, hne2_ps.2.2.2.1, hne2_ps.2.2.2.2.1, hne2_ps.2.2.2.2.2.1, hne2_ps.2.2.2.2.2.2.1, hne2_ps.2.2.2.2.2.2.2.1, hne2_ps.2.2.2.2.2.2.2.2.1, hne2_ps.2.2.2.2.2.2.2.2.2.1, hne2_ps.2.2.2.2.2.2.2.2.2.2, hv, hc]
  generalize allM ps x = L at h hb hal hwf2 ⊢
  have e15 : P4 true true true true = 15 := rfl
  refine aloop_list4 L (fun j b1 b2 b4 b8 => [(6, .c (.sl (H.n + 1) (0) (L.length))), (7, .c (.int .i64 (P4 b1 b2 b4 b8))), (21, .c (.sl (H.n + 1) (0) (L.length))), (22, .c (.int .i64 L.length)), (23, .c (.int .i64 ((j : Int))))]) (fun j _ _ _ _ => (H.push (boxC x)).push (rowK eI 3 L)) (fun j l b1 b2 b4 b8 => P4 (b1 && l.all fun c => chB c 1) (b2 && l.all fun c => chB c 2) (b4 && l.all fun c => chB c 4) (b8 && l.all fun c => chB c 8) = ndS L) hE _ true true true true (by simp [ndS]) (.since (by simp only [push_n]; omega) hwf2 (.refl _) (by simp [frOk, AV.okR, AV.ok1, AC.okR, AV.ren, AV.ren1, AC.ren, AFrame.get, pl1_old, *]; first | done | rfl | omega)) (fun j b1 b2 b4 b8 hlt hi => ?_) fun b1 b2 b4 b8 hi => ?_
  · have hj1 := idx_lt hlt
    have w1 : IntKind.i64.wrap ((j : Int) + 1) = (j : Int) + 1 := wrap_id (by omega) (by omega)
    have hbj := hb _ (List.getElem_mem hlt)
    have ha := and_ch b1 b2 b4 b8 hbj.1 hbj.2
    simp only [List.all_cons, ← Bool.and_assoc] at hi
    simp (config := {contextual := true, implicitDefEqProofs := false, maxSteps := 2000000}) [-Int.not_le, -Int.not_lt, argsF, impl_NeededChanges_l0, hj1, w1, hlt, rowK, ha]
    exact ⟨_, _, _, _, hi, .since (by simp only [push_n]; omega) hwf2 (.refl _) (by simp [frOk, AV.okR, AV.ok1, AC.okR, AV.ren, AV.ren1, AC.ren, AFrame.get, pl1_old, *]; first | done | rfl | omega)⟩
  · simp only [List.all_nil, Bool.and_true] at hi
    have hz := P4_b b1 b2 b4 b8
    generalize P4 b1 b2 b4 b8 = s at hi hz ⊢
    rw [← hi] at h
    by_cases hL : L = []
    · subst hL
      rw [if_pos rfl] at h
      simp (config := {contextual := true, implicitDefEqProofs := false, maxSteps := 2000000}) [-Int.not_le, -Int.not_lt, argsF, impl_NeededChanges_l0]
      (refine Out.plain hwf ?_ rfl ?_; (repeat first | exact Sub.refl _ | refine Sub.push hwf ?_ _ | refine Sub.set hwf ?_ (by first | exact Nat.le_refl _ | omega | (simp only [push_n, set_n, kill_n]; omega)) _ | refine Sub.kill hwf ?_ (by first | exact Nat.le_refl _ | omega | (simp only [push_n, set_n, kill_n]; omega)))); exact h
    · rw [if_neg hL] at h
      simp (config := {contextual := true, implicitDefEqProofs := false, maxSteps := 2000000}) [-Int.not_le, -Int.not_lt, argsF, impl_NeededChanges_l0, hL]
      (refine Out.plain hwf ?_ rfl ?_; (repeat first | exact Sub.refl _ | refine Sub.push hwf ?_ _ | refine Sub.set hwf ?_ (by first | exact Nat.le_refl _ | omega | (simp only [push_n, set_n, kill_n]; omega)) _ | refine Sub.kill hwf ?_ (by first | exact Nat.le_refl _ | omega | (simp only [push_n, set_n, kill_n]; omega)))); exact h

theorem spec_NeededChanges_s : Sound Try.prog 37 q_Needed := by
  intro args H K h
  unfold q_Needed at h
  split at h
  rotate_left
  all_goals first | exact False.elim h | skip
  rename_i ps_v x_e
  have h1 := Enc.rd_at h
  clear h
  obtain ⟨b_ps, i_ps, k_ps, ps, rfl, hat_ps, h⟩ := h1
  have h1 := onv_iff.1 h
  clear h
  obtain ⟨x, hd_x, h⟩ := h1
  obtain rfl := eCv.cd _ _ hd_x
  clear hd_x
  have hE := soundE_cons spec_l8Good_s (soundE_cons spec_l10One_s (soundE_cons spec_l12All_s (soundE_cons spec_l12Has_s (soundE_nil (P := Try.prog)))))
  refine acalls_fn spec_NeededChanges_k hE ⟨by simp, fun hwf => ?_⟩
  have hb_ps : b_ps < H.n := (hwf b_ps k_ps hat_ps.blk).1
  have hne_ps : (b_ps = H.n) = False := eq_false (by omega)
  have hne1_ps : ∀ i, (b_ps = H.n + i) = False := fun i => eq_false (by omega)
  have hne2_ps : (b_ps = H.n + 1 + 1) = False ∧ (b_ps = H.n + 1 + 1 + 1) = False ∧ (b_ps = H.n + 1 + 1 + 1 + 1) = False ∧ (b_ps = H.n + 1 + 1 + 1 + 1 + 1) = False ∧ (b_ps = H.n + 1 + 1 + 1 + 1 + 1 + 1) = False ∧ (b_ps = H.n + 1 + 1 + 1 + 1 + 1 + 1 + 1) = False ∧ (b_ps = H.n + 1 + 1 + 1 + 1 + 1 + 1 + 1 + 1) = False ∧ (b_ps = H.n + 1 + 1 + 1 + 1 + 1 + 1 + 1 + 1 + 1) = False ∧ (b_ps = H.n + 1 + 1 + 1 + 1 + 1 + 1 + 1 + 1 + 1 + 1) = False ∧ (b_ps = H.n + 1 + 1 + 1 + 1 + 1 + 1 + 1 + 1 + 1 + 1 + 1) = False ∧ (b_ps = H.n + 1 + 1 + 1 + 1 + 1 + 1 + 1 + 1 + 1 + 1 + 1 + 1) = False := ⟨eq_false (by omega), eq_false (by omega), eq_false (by omega), eq_false (by omega), eq_false (by omega), eq_false (by omega), eq_false (by omega), eq_false (by omega), eq_false (by omega), eq_false (by omega), eq_false (by omega)⟩
  have hmx_ps : ps.length ≤ 9223372036854775807 := by have h1 := (hwf b_ps k_ps hat_ps.blk).2.2; have h2 := hat_ps.len; omega
  unfold ndRes at h
  by_cases hv : areRa ps = true
  rotate_left
  · rw [if_neg hv] at h
    simp (config := {contextual := true, implicitDefEqProofs := false, maxSteps := 2000000}) [-Int.not_le, -Int.not_lt, argsF, spec_NeededChanges_c, hat_ps.blk, hat_ps.esz, hat_ps.len, hat_ps.els, hne_ps, hne1_ps, hne2_ps.1, hne2_ps.2.1, hne2_ps.2.2.1, hne2_ps.2.2.2.1, hne2_ps.2.2.2.2.1, hne2_ps.2.2.2.2.2.1, hne2_ps.2.2.2.2.2.2.1, hne2_ps.2.2.2.2.2.2.2.1, hne2_ps.2.2.2.2.2.2.2.2.1, hne2_ps.2.2.2.2.2.2.2.2.2.1, hne2_ps.2.2.2.2.2.2.2.2.2.2, hv]
    (refine Out.plain hwf ?_ rfl ?_; (repeat first | exact Sub.refl _ | refine Sub.push hwf ?_ _ | refine Sub.set hwf ?_ (by first | exact Nat.le_refl _ | omega | (simp only [push_n, set_n, kill_n]; omega)) _ | refine Sub.kill hwf ?_ (by first | exact Nat.le_refl _ | omega | (simp only [push_n, set_n, kill_n]; omega)))); exact h
  by_cases hc : isCv x = true
  rotate_left
  · rw [if_pos hv, if_neg hc] at h
    simp (config := {contextual := true, implicitDefEqProofs := false, maxSteps := 2000000}) [-Int.not_le, -Int.not_lt, argsF, spec_NeededChanges_c, hat_ps.blk, hat_ps.esz, hat_ps.len, hat_ps.els, hne_ps, hne1_ps, hne2_ps.1, hne2_ps.2.1, hne2_ps.2.2.1, hne2_ps.2.2.2.1, hne2_ps.2.2.2.2.1, hne2_ps.2.2.2.2.2.1, hne2_ps.2.2.2.2.2.2.1, hne2_ps.2.2.2.2.2.2.2.1, hne2_ps.2.2.2.2.2.2.2.2.1, hne2_ps.2.2.2.2.2.2.2.2.2.1, hne2_ps.2.2.2.2.2.2.2.2.2.2, hv, hc]
    (refine Out.plain hwf ?_ rfl ?_; (repeat first | exact Sub.refl _ | refine Sub.push hwf ?_ _ | refine Sub.set hwf ?_ (by first | exact Nat.le_refl _ | omega | (simp only [push_n, set_n, kill_n]; omega)) _ | refine Sub.kill hwf ?_ (by first | exact Nat.le_refl _ | omega | (simp only [push_n, set_n, kill_n]; omega)))); exact h
  rw [if_pos hv, if_pos hc] at h

  have hwf2 : ((H.push (boxC x)).push (rowK eI 3 (allM ps x))).WF := row_wf (boxC_wf hwf x) _ (by have := allM_len ps x; omega)
  have hb := allM_b (ps := ps) (x := x)
  have hal := allM_len ps x
  simp (config := {contextual := true, implicitDefEqProofs := false, maxSteps := 2000000}) [-Int.not_le, -Int.not_lt, argsF, spec_NeededChanges_c, hat_ps.blk, hat_ps.esz, hat_ps.len, hat_ps.els, hne_ps, hne1_ps, hne2_ps.1, hne2_ps.2.1, hne2_ps.2.2.1, hne2_ps.2.2.2.1, hne2_ps.2.2.2.2.1, hne2_ps.2.2.2.2.2.1, hne2_ps.2.2.2.2.2.2.1, hne2_ps.2.2.2.2.2.2.2.1, hne2_ps.2.2.2.2.2.2.2.2.1, hne2_ps.2.2.2.2.2.2.2.2.2.1, hne2_ps.2.2.2.2.2.2.2.2.2.2, hv, hc]
  generalize allM ps x = L at h hb hal hwf2 ⊢
  refine aloop_list ([1, 2, 4, 8] : List Int) (fun k (s : Int) => [(6, .c (.sl (H.n + 1) (0) (L.length))), (7, .c (.int .i64 (s))), (8, .c (.int .i64 ((2 : Int) ^ k)))]) (fun k _ => (H.push (boxC x)).push (rowK eI 3 L)) (fun k l s => s + ndGo L l = ndS L ∧ 0 ≤ s ∧ s ≤ 8 * (k : Int)) hE _ 0 ⟨by rw [ndGo_all]; simp, by omega, by simp⟩ (.since (by simp only [push_n]; omega) hwf2 (.refl _) (by simp [frOk, AV.okR, AV.ok1, AC.okR, AV.ren, AV.ren1, AC.ren, AFrame.get, pl1_old, *]; first | done | rfl | omega)) (fun k s hlt hi => ?_) fun s hi => ?_
  · obtain ⟨hi, hs0, hs1⟩ := hi
    have hk4 : k < 4 := hlt
    have hone : ([1, 2, 4, 8] : List Int)[k] = (2 : Int) ^ k ∧ 0 < (2 : Int) ^ k ∧ (2 : Int) ^ k ≤ 8 := by
      have : k = 0 ∨ k = 1 ∨ k = 2 ∨ k = 3 := by omega
      rcases this with rfl | rfl | rfl | rfl <;> exact ⟨rfl, by decide, by decide⟩
    obtain ⟨ho1, ho2, ho3⟩ := hone
    have hnx : (2 : Int) ^ (k + 1) = 2 * (2 : Int) ^ k := by rw [Int.pow_succ]; omega
    rw [ho1] at hi
    simp only [ndGo] at hi
    generalize hon : (2 : Int) ^ k = one at ho2 ho3 hi hnx ⊢
    clear ho1
    simp (config := {contextual := true, implicitDefEqProofs := false, maxSteps := 2000000}) [-Int.not_le, -Int.not_lt, argsF, spec_NeededChanges_l1, ho3]
    refine aloop_list L (fun j (n : Nat) => [(6, .c (.sl (H.n + 1) (0) (L.length))), (7, .c (.int .i64 (s))), (8, .c (.int .i64 (one))), (9, .c (.int .i64 ((n : Int)))), (10, .c (.int .i64 ((j : Int))))]) (fun j _ => (H.push (boxC x)).push (rowK eI 3 L)) (fun j l n => n + l.countP (fun c => chB c one) = L.countP (fun c => chB c one) ∧ n ≤ j) hE _ 0 ⟨by simp, Nat.le_refl _⟩ (.since (by simp only [push_n]; omega) hwf2 (.refl _) (by simp [frOk, AV.okR, AV.ok1, AC.okR, AV.ren, AV.ren1, AC.ren, AFrame.get, pl1_old, *]; first | done | rfl | omega)) (fun j n hlt hm => ?_) fun n hm => ?_
    · obtain ⟨hm, hn⟩ := hm
      have hj1 := idx_lt hlt
      have w1 : IntKind.i64.wrap ((j : Int) + 1) = (j : Int) + 1 := wrap_id (by omega) (by omega)
      have w2 : IntKind.i64.wrap ((n : Int) + 1) = (n : Int) + 1 := wrap_id (by omega) (by omega)
      have hbj := hb _ (List.getElem_mem hlt)
      rw [List.countP_cons] at hm
      by_cases hp : chB L[j] one = true
      · rw [if_pos hp] at hm
        simp (config := {contextual := true, implicitDefEqProofs := false, maxSteps := 2000000}) [-Int.not_le, -Int.not_lt, argsF, spec_NeededChanges_l0, hj1, w1, w2, hlt, rowK, hbj.1, hbj.2, ho2, ho3, hp]
        exact ⟨n + 1, ⟨by omega, by omega⟩, .since (by simp only [push_n]; omega) hwf2 (.refl _) (by simp [frOk, AV.okR, AV.ok1, AC.okR, AV.ren, AV.ren1, AC.ren, AFrame.get, pl1_old, *]; first | done | rfl | omega)⟩
      · rw [if_neg hp] at hm
        simp (config := {contextual := true, implicitDefEqProofs := false, maxSteps := 2000000}) [-Int.not_le, -Int.not_lt, argsF, spec_NeededChanges_l0, hj1, w1, w2, hlt, rowK, hbj.1, hbj.2, ho2, ho3, hp]
        exact ⟨n, ⟨by omega, by omega⟩, .since (by simp only [push_n]; omega) hwf2 (.refl _) (by simp [frOk, AV.okR, AV.ok1, AC.okR, AV.ren, AV.ren1, AC.ren, AFrame.get, pl1_old, *]; first | done | rfl | omega)⟩
    · obtain ⟨hm, hn⟩ := hm
      simp only [List.countP_nil, Nat.add_zero] at hm
      have w3 : IntKind.i64.wrap (2 * one) = 2 * one := wrap_id (by omega) (by omega)
      have w4 : IntKind.i64.wrap (s + one) = s + one := wrap_id (by omega) (by omega)
      have hcn := cnt_all (p := fun c => chB c one) (L := L)
      rw [← hm] at hcn
      by_cases hna : n = L.length
      · rw [if_pos (by rw [← hcn]; exact hna)] at hi
        simp (config := {contextual := true, implicitDefEqProofs := false, maxSteps := 2000000}) [-Int.not_le, -Int.not_lt, argsF, spec_NeededChanges_l0, w3, w4, hna]
        exact ⟨s + one, ⟨by omega, by omega, by omega⟩, .since (by simp only [push_n]; omega) hwf2 (.refl _) (by simp [frOk, AV.okR, AV.ok1, AC.okR, AV.ren, AV.ren1, AC.ren, AFrame.get, pl1_old, *]; first | done | rfl | omega)⟩
      · rw [if_neg (by rw [← hcn]; exact hna)] at hi
        have hna' : ¬ (n : Int) = (L.length : Int) := by omega
        simp (config := {contextual := true, implicitDefEqProofs := false, maxSteps := 2000000}) [-Int.not_le, -Int.not_lt, argsF, spec_NeededChanges_l0, w3, w4, hna, hna']
        exact ⟨s, ⟨by omega, by omega, by omega⟩, .since (by simp only [push_n]; omega) hwf2 (.refl _) (by simp [frOk, AV.okR, AV.ok1, AC.okR, AV.ren, AV.ren1, AC.ren, AFrame.get, pl1_old, *]; first | done | rfl | omega)⟩
  · obtain ⟨hi, hs0, hs1⟩ := hi
    simp only [ndGo, Int.add_zero] at hi
    subst hi
    by_cases hL : L = []
    · subst hL
      rw [if_pos rfl] at h
      simp (config := {contextual := true, implicitDefEqProofs := false, maxSteps := 2000000}) [-Int.not_le, -Int.not_lt, argsF, spec_NeededChanges_l1]
      (refine Out.plain hwf ?_ rfl ?_; (repeat first | exact Sub.refl _ | refine Sub.push hwf ?_ _ | refine Sub.set hwf ?_ (by first | exact Nat.le_refl _ | omega | (simp only [push_n, set_n, kill_n]; omega)) _ | refine Sub.kill hwf ?_ (by first | exact Nat.le_refl _ | omega | (simp only [push_n, set_n, kill_n]; omega)))); exact h
    · rw [if_neg hL] at h
      simp (config := {contextual := true, implicitDefEqProofs := false, maxSteps := 2000000}) [-Int.not_le, -Int.not_lt, argsF, spec_NeededChanges_l1, hL]
      (refine Out.plain hwf ?_ rfl ?_; (repeat first | exact Sub.refl _ | refine Sub.push hwf ?_ _ | refine Sub.set hwf ?_ (by first | exact Nat.le_refl _ | omega | (simp only [push_n, set_n, kill_n]; omega)) _ | refine Sub.kill hwf ?_ (by first | exact Nat.le_refl _ | omega | (simp only [push_n, set_n, kill_n]; omega)))); exact h

end Go.Proofs.Ytjiffkjeijfilaa
