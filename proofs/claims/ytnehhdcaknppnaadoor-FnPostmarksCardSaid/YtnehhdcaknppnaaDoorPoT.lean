/- The postmarks: looked up; the latest use; the same town; the gap. -/
import Derived.Test.YtnehhdcaknppnaaDoorPoS
set_option maxRecDepth 8000
set_option linter.unusedSimpArgs false
set_option linter.unusedVariables false
namespace Go.Proofs.YtnehhdcaknppnaaDoor
open Go Go.RowKit

set_option maxHeartbeats 1000000

def q_find : Con := fun args H K => match args with
  | [ps_v, .c (.int .i64 n)] => ePo.rd H (fun ps => K (.c (.int .i64 (ixOf (fun p : Po => decide (p.id = n)) ps 0))) H) ps_v
  | _ => False
@[simp ↓] theorem q_find_eq (ps_v : AV) (n : Int) (H : AHeap) (K : AV → AHeap → Prop) : q_find [ps_v, .c (.int .i64 n)] H K = (ePo.rd H (fun ps => K (.c (.int .i64 (ixOf (fun p : Po => decide (p.id = n)) ps 0))) H) ps_v) := rfl

theorem spec_l11Find_s : Sound Tryd.prog 71 q_find := by
  intro args H K h
  unfold q_find at h
  split at h
  rotate_left
  all_goals first | exact False.elim h | skip
  rename_i ps_v n
  have h1 := Enc.rd_at h
  clear h
  obtain ⟨b_ps, i_ps, k_ps, ps, rfl, hat_ps, h⟩ := h1
  have hE := soundE_nil (P := Tryd.prog)
  refine acalls_fn spec_l11Find_k hE ⟨by simp, fun hwf => ?_⟩
  have hb_ps : b_ps < H.n := (hwf b_ps k_ps hat_ps.blk).1
  have hne_ps : (b_ps = H.n) = False := eq_false (by omega)
  have hne1_ps : ∀ i, (b_ps = H.n + i) = False := fun i => eq_false (by omega)
  have hne2_ps : (b_ps = H.n + 1 + 1) = False ∧ (b_ps = H.n + 1 + 1 + 1) = False ∧ (b_ps = H.n + 1 + 1 + 1 + 1) = False ∧ (b_ps = H.n + 1 + 1 + 1 + 1 + 1) = False ∧ (b_ps = H.n + 1 + 1 + 1 + 1 + 1 + 1) = False ∧ (b_ps = H.n + 1 + 1 + 1 + 1 + 1 + 1 + 1) = False ∧ (b_ps = H.n + 1 + 1 + 1 + 1 + 1 + 1 + 1 + 1) = False ∧ (b_ps = H.n + 1 + 1 + 1 + 1 + 1 + 1 + 1 + 1 + 1) = False ∧ (b_ps = H.n + 1 + 1 + 1 + 1 + 1 + 1 + 1 + 1 + 1 + 1) = False ∧ (b_ps = H.n + 1 + 1 + 1 + 1 + 1 + 1 + 1 + 1 + 1 + 1 + 1) = False ∧ (b_ps = H.n + 1 + 1 + 1 + 1 + 1 + 1 + 1 + 1 + 1 + 1 + 1 + 1) = False := ⟨eq_false (by omega), eq_false (by omega), eq_false (by omega), eq_false (by omega), eq_false (by omega), eq_false (by omega), eq_false (by omega), eq_false (by omega), eq_false (by omega), eq_false (by omega), eq_false (by omega)⟩
  have hmx_ps : ps.length ≤ 9223372036854775807 := by have h1 := (hwf b_ps k_ps hat_ps.blk).2.2; have h2 := hat_ps.len; omega
  simp (config := {contextual := true, implicitDefEqProofs := false, maxSteps := 60000}) [-Int.not_le, -Int.not_lt, argsF, spec_l11Find_c, hat_ps.blk, hat_ps.esz, hat_ps.len, hat_ps.els, hne_ps, hne1_ps, hne2_ps.1, hne2_ps.2.1, hne2_ps.2.2.1, hne2_ps.2.2.2.1, hne2_ps.2.2.2.2.1, hne2_ps.2.2.2.2.2.1, hne2_ps.2.2.2.2.2.2.1, hne2_ps.2.2.2.2.2.2.2.1, hne2_ps.2.2.2.2.2.2.2.2.1, hne2_ps.2.2.2.2.2.2.2.2.2.1, hne2_ps.2.2.2.2.2.2.2.2.2.2]
  refine aloop_list ps (fun j _ => [(0, .c (.sl b_ps i_ps ps.length)), (1, .c (.int .i64 (n))), (5, .c (.int .i64 (j)))]) (fun j _ => H) (fun j l _ => K (.c (.int .i64 (ixOf (fun p : Po => decide (p.id = n)) l j))) H) hE _ (()) (h) (.same hwf (by simp [frOk, AV.okR, AV.ok1, AC.okR, AV.ren, AV.ren1, AC.ren, AFrame.get, pl1_old, *]; first | done | omega)) (fun j _ hlt hi => ?_) fun _ hi => ?_
  ·
    have e1 := hat_ps.get hlt
    have hj1 := idx_lt hlt
    have w1 : IntKind.i64.wrap ((j : Int) + 1) = (j : Int) + 1 := wrap_id (by omega) (by omega)
    simp (config := {contextual := true, implicitDefEqProofs := false, maxSteps := 60000}) [-Int.not_le, -Int.not_lt, argsF, spec_l11Find_l0, hat_ps.blk, hat_ps.esz, hat_ps.len, hat_ps.els, hne_ps, hne1_ps, hne2_ps.1, hne2_ps.2.1, hne2_ps.2.2.1, hne2_ps.2.2.2.1, hne2_ps.2.2.2.2.1, hne2_ps.2.2.2.2.2.1, hne2_ps.2.2.2.2.2.2.1, hne2_ps.2.2.2.2.2.2.2.1, hne2_ps.2.2.2.2.2.2.2.2.1, hne2_ps.2.2.2.2.2.2.2.2.2.1, hne2_ps.2.2.2.2.2.2.2.2.2.2, e1, hj1, w1]
    simp only [ixOf, decide_eq_true_eq] at hi
    repeat' split
    all_goals try simp only [*, if_true, if_false, reduceCtorEq, and_self, and_true, true_and, and_false, false_and, not_true_eq_false, not_false_eq_true] at hi
    all_goals first | ((refine Out.plain hwf ?_ rfl ?_; (repeat first | exact Sub.refl _ | refine Sub.push hwf ?_ _ | refine Sub.set hwf ?_ (by first | exact Nat.le_refl _ | omega) _ | refine Sub.kill hwf ?_ (by first | exact Nat.le_refl _ | omega))); exact hi) | exact ⟨(), hi, .drop hwf (by (repeat first | exact Sub.refl _ | refine Sub.push hwf ?_ _ | refine Sub.set hwf ?_ (by first | exact Nat.le_refl _ | omega) _ | refine Sub.kill hwf ?_ (by first | exact Nat.le_refl _ | omega))) (by simp [frOk, AV.okR, AV.ok1, AC.okR, AV.ren, AV.ren1, AC.ren, AFrame.get, pl1_old, *]; first | done | omega)⟩
  ·
    simp (config := {contextual := true, implicitDefEqProofs := false, maxSteps := 60000}) [-Int.not_le, -Int.not_lt, argsF, spec_l11Find_l0, hat_ps.blk, hat_ps.esz, hat_ps.len, hat_ps.els, hne_ps, hne1_ps, hne2_ps.1, hne2_ps.2.1, hne2_ps.2.2.1, hne2_ps.2.2.2.1, hne2_ps.2.2.2.2.1, hne2_ps.2.2.2.2.2.1, hne2_ps.2.2.2.2.2.2.1, hne2_ps.2.2.2.2.2.2.2.1, hne2_ps.2.2.2.2.2.2.2.2.1, hne2_ps.2.2.2.2.2.2.2.2.2.1, hne2_ps.2.2.2.2.2.2.2.2.2.2]
    simp only [ixOf, decide_eq_true_eq] at hi
    (refine Out.plain hwf ?_ rfl ?_; (repeat first | exact Sub.refl _ | refine Sub.push hwf ?_ _ | refine Sub.set hwf ?_ (by first | exact Nat.le_refl _ | omega) _ | refine Sub.kill hwf ?_ (by first | exact Nat.le_refl _ | omega))); exact hi

def q_pa1 : Con := fun args H K => match args with
  | [.agg p_e, .c (.ptr n_c 0 0)] => onv (ePo.dec p_e) fun p => onv (H.b n_c) fun n_k => onv (boxI n_k) fun n => K (.c (.bool (decide (p.id = n)))) H
  | _ => False
@[simp ↓] theorem q_pa1_eq (p_e : List AC) (n_c : Nat) (H : AHeap) (K : AV → AHeap → Prop) : q_pa1 [.agg p_e, .c (.ptr n_c 0 0)] H K = (onv (ePo.dec p_e) fun p => onv (H.b n_c) fun n_k => onv (boxI n_k) fun n => K (.c (.bool (decide (p.id = n)))) H) := rfl

theorem impl_postmarkAt_1_s : Sound Tryd.prog 99 q_pa1 := by
  intro args H K h
  unfold q_pa1 at h
  split at h
  rotate_left
  all_goals first | exact False.elim h | skip
  rename_i p_e n_c
  have h1 := onv_iff.1 h
  clear h
  obtain ⟨p, hd_p, h⟩ := h1
  obtain rfl := ePo.cd _ _ hd_p
  clear hd_p
  have h1 := onv_iff.1 h
  clear h
  obtain ⟨n_k, hk_n, h⟩ := h1
  have h1 := onv_iff.1 h
  clear h
  obtain ⟨n, hd_n, h⟩ := h1
  have he_n := boxI_els hd_n
  have hE := soundE_nil (P := Tryd.prog)
  refine acalls_fn impl_postmarkAt_1_k hE ⟨by simp, fun hwf => ?_⟩
  have hb_n : n_c < H.n := (hwf n_c n_k hk_n).1
  have hne_n : (n_c = H.n) = False := eq_false (by omega)
  have hne1_n : ∀ i, (n_c = H.n + i) = False := fun i => eq_false (by omega)
  have hne2_n : (n_c = H.n + 1 + 1) = False ∧ (n_c = H.n + 1 + 1 + 1) = False ∧ (n_c = H.n + 1 + 1 + 1 + 1) = False ∧ (n_c = H.n + 1 + 1 + 1 + 1 + 1) = False ∧ (n_c = H.n + 1 + 1 + 1 + 1 + 1 + 1) = False ∧ (n_c = H.n + 1 + 1 + 1 + 1 + 1 + 1 + 1) = False ∧ (n_c = H.n + 1 + 1 + 1 + 1 + 1 + 1 + 1 + 1) = False ∧ (n_c = H.n + 1 + 1 + 1 + 1 + 1 + 1 + 1 + 1 + 1) = False ∧ (n_c = H.n + 1 + 1 + 1 + 1 + 1 + 1 + 1 + 1 + 1 + 1) = False ∧ (n_c = H.n + 1 + 1 + 1 + 1 + 1 + 1 + 1 + 1 + 1 + 1 + 1) = False ∧ (n_c = H.n + 1 + 1 + 1 + 1 + 1 + 1 + 1 + 1 + 1 + 1 + 1 + 1) = False := ⟨eq_false (by omega), eq_false (by omega), eq_false (by omega), eq_false (by omega), eq_false (by omega), eq_false (by omega), eq_false (by omega), eq_false (by omega), eq_false (by omega), eq_false (by omega), eq_false (by omega)⟩
  simp (config := {contextual := true, implicitDefEqProofs := false, maxSteps := 60000}) [-Int.not_le, -Int.not_lt, argsF, impl_postmarkAt_1_c, hk_n, he_n, hd_n, hne_n, hne1_n, hne2_n.1, hne2_n.2.1, hne2_n.2.2.1, hne2_n.2.2.2.1, hne2_n.2.2.2.2.1, hne2_n.2.2.2.2.2.1, hne2_n.2.2.2.2.2.2.1, hne2_n.2.2.2.2.2.2.2.1, hne2_n.2.2.2.2.2.2.2.2.1, hne2_n.2.2.2.2.2.2.2.2.2.1, hne2_n.2.2.2.2.2.2.2.2.2.2]
  (refine Out.plain hwf ?_ rfl ?_; (repeat first | exact Sub.refl _ | refine Sub.push hwf ?_ _ | refine Sub.set hwf ?_ (by first | exact Nat.le_refl _ | omega) _ | refine Sub.kill hwf ?_ (by first | exact Nat.le_refl _ | omega))); exact h

def q_ixp : Con := fun args H K => match args with
  | [ps_v, .c (.fn n_g [n_c])] => ePo.rd H (fun ps => n_g = 99 ∧ onv (H.b n_c) fun n_k => onv (boxI n_k) fun n => K (.c (.int .i64 (ixOf (fun p : Po => decide (p.id = n)) ps 0))) H) ps_v
  | _ => False
@[simp ↓] theorem q_ixp_eq (ps_v : AV) (n_g n_c : Nat) (H : AHeap) (K : AV → AHeap → Prop) : q_ixp [ps_v, .c (.fn n_g [n_c])] H K = (ePo.rd H (fun ps => n_g = 99 ∧ onv (H.b n_c) fun n_k => onv (boxI n_k) fun n => K (.c (.int .i64 (ixOf (fun p : Po => decide (p.id = n)) ps 0))) H) ps_v) := rfl

theorem slices_IndexFunc___impl_Postmark_impl_Postmark_s : Sound Tryd.prog 98 q_ixp := by
  intro args H K h
  unfold q_ixp at h
  split at h
  rotate_left
  all_goals first | exact False.elim h | skip
  rename_i ps_v n_g n_c
  have h1 := Enc.rd_at h
  clear h
  obtain ⟨b_ps, i_ps, k_ps, ps, rfl, hat_ps, h⟩ := h1
  obtain ⟨rfl, h⟩ := h
  have h1 := onv_iff.1 h
  clear h
  obtain ⟨n_k, hk_n, h⟩ := h1
  have h1 := onv_iff.1 h
  clear h
  obtain ⟨n, hd_n, h⟩ := h1
  have he_n := boxI_els hd_n
  have hE := soundE_cons impl_postmarkAt_1_s (soundE_nil (P := Tryd.prog))
  refine acalls_fn slices_IndexFunc___impl_Postmark_impl_Postmark__k hE ⟨by simp, fun hwf => ?_⟩
  have hb_ps : b_ps < H.n := (hwf b_ps k_ps hat_ps.blk).1
  have hne_ps : (b_ps = H.n) = False := eq_false (by omega)
  have hne1_ps : ∀ i, (b_ps = H.n + i) = False := fun i => eq_false (by omega)
  have hne2_ps : (b_ps = H.n + 1 + 1) = False ∧ (b_ps = H.n + 1 + 1 + 1) = False ∧ (b_ps = H.n + 1 + 1 + 1 + 1) = False ∧ (b_ps = H.n + 1 + 1 + 1 + 1 + 1) = False ∧ (b_ps = H.n + 1 + 1 + 1 + 1 + 1 + 1) = False ∧ (b_ps = H.n + 1 + 1 + 1 + 1 + 1 + 1 + 1) = False ∧ (b_ps = H.n + 1 + 1 + 1 + 1 + 1 + 1 + 1 + 1) = False ∧ (b_ps = H.n + 1 + 1 + 1 + 1 + 1 + 1 + 1 + 1 + 1) = False ∧ (b_ps = H.n + 1 + 1 + 1 + 1 + 1 + 1 + 1 + 1 + 1 + 1) = False ∧ (b_ps = H.n + 1 + 1 + 1 + 1 + 1 + 1 + 1 + 1 + 1 + 1 + 1) = False ∧ (b_ps = H.n + 1 + 1 + 1 + 1 + 1 + 1 + 1 + 1 + 1 + 1 + 1 + 1) = False := ⟨eq_false (by omega), eq_false (by omega), eq_false (by omega), eq_false (by omega), eq_false (by omega), eq_false (by omega), eq_false (by omega), eq_false (by omega), eq_false (by omega), eq_false (by omega), eq_false (by omega)⟩
  have hmx_ps : ps.length ≤ 9223372036854775807 := by have h1 := (hwf b_ps k_ps hat_ps.blk).2.2; have h2 := hat_ps.len; omega
  have hb_n : n_c < H.n := (hwf n_c n_k hk_n).1
  have hne_n : (n_c = H.n) = False := eq_false (by omega)
  have hne1_n : ∀ i, (n_c = H.n + i) = False := fun i => eq_false (by omega)
  have hne2_n : (n_c = H.n + 1 + 1) = False ∧ (n_c = H.n + 1 + 1 + 1) = False ∧ (n_c = H.n + 1 + 1 + 1 + 1) = False ∧ (n_c = H.n + 1 + 1 + 1 + 1 + 1) = False ∧ (n_c = H.n + 1 + 1 + 1 + 1 + 1 + 1) = False ∧ (n_c = H.n + 1 + 1 + 1 + 1 + 1 + 1 + 1) = False ∧ (n_c = H.n + 1 + 1 + 1 + 1 + 1 + 1 + 1 + 1) = False ∧ (n_c = H.n + 1 + 1 + 1 + 1 + 1 + 1 + 1 + 1 + 1) = False ∧ (n_c = H.n + 1 + 1 + 1 + 1 + 1 + 1 + 1 + 1 + 1 + 1) = False ∧ (n_c = H.n + 1 + 1 + 1 + 1 + 1 + 1 + 1 + 1 + 1 + 1 + 1) = False ∧ (n_c = H.n + 1 + 1 + 1 + 1 + 1 + 1 + 1 + 1 + 1 + 1 + 1 + 1) = False := ⟨eq_false (by omega), eq_false (by omega), eq_false (by omega), eq_false (by omega), eq_false (by omega), eq_false (by omega), eq_false (by omega), eq_false (by omega), eq_false (by omega), eq_false (by omega), eq_false (by omega)⟩
  simp (config := {contextual := true, implicitDefEqProofs := false, maxSteps := 60000}) [-Int.not_le, -Int.not_lt, argsF, slices_IndexFunc___impl_Postmark_impl_Postmark__c, hat_ps.blk, hat_ps.esz, hat_ps.len, hat_ps.els, hne_ps, hne1_ps, hne2_ps.1, hne2_ps.2.1, hne2_ps.2.2.1, hne2_ps.2.2.2.1, hne2_ps.2.2.2.2.1, hne2_ps.2.2.2.2.2.1, hne2_ps.2.2.2.2.2.2.1, hne2_ps.2.2.2.2.2.2.2.1, hne2_ps.2.2.2.2.2.2.2.2.1, hne2_ps.2.2.2.2.2.2.2.2.2.1, hne2_ps.2.2.2.2.2.2.2.2.2.2, hk_n, he_n, hd_n, hne_n, hne1_n, hne2_n.1, hne2_n.2.1, hne2_n.2.2.1, hne2_n.2.2.2.1, hne2_n.2.2.2.2.1, hne2_n.2.2.2.2.2.1, hne2_n.2.2.2.2.2.2.1, hne2_n.2.2.2.2.2.2.2.1, hne2_n.2.2.2.2.2.2.2.2.1, hne2_n.2.2.2.2.2.2.2.2.2.1, hne2_n.2.2.2.2.2.2.2.2.2.2]
  refine aloop_list ps (fun j _ => [(0, .c (.sl b_ps i_ps ps.length)), (1, .c (.fn 99 [n_c])), (7, .c (.int .i64 ps.length)), (8, .c (.int .i64 (j)))]) (fun j _ => H) (fun j l _ => K (.c (.int .i64 (ixOf (fun p : Po => decide (p.id = n)) l j))) H) hE _ (()) (h) (.same hwf (by simp [frOk, AV.okR, AV.ok1, AC.okR, AV.ren, AV.ren1, AC.ren, AFrame.get, pl1_old, *]; first | done | omega)) (fun j _ hlt hi => ?_) fun _ hi => ?_
  ·
    have e1 := hat_ps.get hlt
    have hj1 := idx_lt hlt
    have w1 : IntKind.i64.wrap ((j : Int) + 1) = (j : Int) + 1 := wrap_id (by omega) (by omega)
    simp (config := {contextual := true, implicitDefEqProofs := false, maxSteps := 60000}) [-Int.not_le, -Int.not_lt, argsF, slices_IndexFunc___impl_Postmark_impl_Postmark__l0, hat_ps.blk, hat_ps.esz, hat_ps.len, hat_ps.els, hne_ps, hne1_ps, hne2_ps.1, hne2_ps.2.1, hne2_ps.2.2.1, hne2_ps.2.2.2.1, hne2_ps.2.2.2.2.1, hne2_ps.2.2.2.2.2.1, hne2_ps.2.2.2.2.2.2.1, hne2_ps.2.2.2.2.2.2.2.1, hne2_ps.2.2.2.2.2.2.2.2.1, hne2_ps.2.2.2.2.2.2.2.2.2.1, hne2_ps.2.2.2.2.2.2.2.2.2.2, e1, hj1, w1, hk_n, he_n, hd_n, hne_n, hne1_n, hne2_n.1, hne2_n.2.1, hne2_n.2.2.1, hne2_n.2.2.2.1, hne2_n.2.2.2.2.1, hne2_n.2.2.2.2.2.1, hne2_n.2.2.2.2.2.2.1, hne2_n.2.2.2.2.2.2.2.1, hne2_n.2.2.2.2.2.2.2.2.1, hne2_n.2.2.2.2.2.2.2.2.2.1, hne2_n.2.2.2.2.2.2.2.2.2.2]
    simp only [ixOf, decide_eq_true_eq] at hi
    repeat' split
    all_goals try simp only [*, if_true, if_false, reduceCtorEq, and_self, and_true, true_and, and_false, false_and, not_true_eq_false, not_false_eq_true] at hi
    all_goals first | ((refine Out.plain hwf ?_ rfl ?_; (repeat first | exact Sub.refl _ | refine Sub.push hwf ?_ _ | refine Sub.set hwf ?_ (by first | exact Nat.le_refl _ | omega) _ | refine Sub.kill hwf ?_ (by first | exact Nat.le_refl _ | omega))); exact hi) | exact ⟨(), hi, .drop hwf (by (repeat first | exact Sub.refl _ | refine Sub.push hwf ?_ _ | refine Sub.set hwf ?_ (by first | exact Nat.le_refl _ | omega) _ | refine Sub.kill hwf ?_ (by first | exact Nat.le_refl _ | omega))) (by simp [frOk, AV.okR, AV.ok1, AC.okR, AV.ren, AV.ren1, AC.ren, AFrame.get, pl1_old, *]; first | done | omega)⟩
  ·
    simp (config := {contextual := true, implicitDefEqProofs := false, maxSteps := 60000}) [-Int.not_le, -Int.not_lt, argsF, slices_IndexFunc___impl_Postmark_impl_Postmark__l0, hat_ps.blk, hat_ps.esz, hat_ps.len, hat_ps.els, hne_ps, hne1_ps, hne2_ps.1, hne2_ps.2.1, hne2_ps.2.2.1, hne2_ps.2.2.2.1, hne2_ps.2.2.2.2.1, hne2_ps.2.2.2.2.2.1, hne2_ps.2.2.2.2.2.2.1, hne2_ps.2.2.2.2.2.2.2.1, hne2_ps.2.2.2.2.2.2.2.2.1, hne2_ps.2.2.2.2.2.2.2.2.2.1, hne2_ps.2.2.2.2.2.2.2.2.2.2]
    simp only [ixOf, decide_eq_true_eq] at hi
    (refine Out.plain hwf ?_ rfl ?_; (repeat first | exact Sub.refl _ | refine Sub.push hwf ?_ _ | refine Sub.set hwf ?_ (by first | exact Nat.le_refl _ | omega) _ | refine Sub.kill hwf ?_ (by first | exact Nat.le_refl _ | omega))); exact hi

theorem impl_postmarkAt_s : Sound Tryd.prog 73 q_find := by
  intro args H K h
  unfold q_find at h
  split at h
  rotate_left
  all_goals first | exact False.elim h | skip
  rename_i ps_v n
  have h1 := Enc.rd_at h
  clear h
  obtain ⟨b_ps, i_ps, k_ps, ps, rfl, hat_ps, h⟩ := h1
  have hE := soundE_cons slices_IndexFunc___impl_Postmark_impl_Postmark_s (soundE_nil (P := Tryd.prog))
  refine acalls_fn impl_postmarkAt_k hE ⟨by simp, fun hwf => ?_⟩
  have hb_ps : b_ps < H.n := (hwf b_ps k_ps hat_ps.blk).1
  have hne_ps : (b_ps = H.n) = False := eq_false (by omega)
  have hne1_ps : ∀ i, (b_ps = H.n + i) = False := fun i => eq_false (by omega)
  have hne2_ps : (b_ps = H.n + 1 + 1) = False ∧ (b_ps = H.n + 1 + 1 + 1) = False ∧ (b_ps = H.n + 1 + 1 + 1 + 1) = False ∧ (b_ps = H.n + 1 + 1 + 1 + 1 + 1) = False ∧ (b_ps = H.n + 1 + 1 + 1 + 1 + 1 + 1) = False ∧ (b_ps = H.n + 1 + 1 + 1 + 1 + 1 + 1 + 1) = False ∧ (b_ps = H.n + 1 + 1 + 1 + 1 + 1 + 1 + 1 + 1) = False ∧ (b_ps = H.n + 1 + 1 + 1 + 1 + 1 + 1 + 1 + 1 + 1) = False ∧ (b_ps = H.n + 1 + 1 + 1 + 1 + 1 + 1 + 1 + 1 + 1 + 1) = False ∧ (b_ps = H.n + 1 + 1 + 1 + 1 + 1 + 1 + 1 + 1 + 1 + 1 + 1) = False ∧ (b_ps = H.n + 1 + 1 + 1 + 1 + 1 + 1 + 1 + 1 + 1 + 1 + 1 + 1) = False := ⟨eq_false (by omega), eq_false (by omega), eq_false (by omega), eq_false (by omega), eq_false (by omega), eq_false (by omega), eq_false (by omega), eq_false (by omega), eq_false (by omega), eq_false (by omega), eq_false (by omega)⟩
  have hmx_ps : ps.length ≤ 9223372036854775807 := by have h1 := (hwf b_ps k_ps hat_ps.blk).2.2; have h2 := hat_ps.len; omega
  simp (config := {contextual := true, implicitDefEqProofs := false, maxSteps := 60000}) [-Int.not_le, -Int.not_lt, argsF, impl_postmarkAt_c, hat_ps.blk, hat_ps.esz, hat_ps.len, hat_ps.els, hne_ps, hne1_ps, hne2_ps.1, hne2_ps.2.1, hne2_ps.2.2.1, hne2_ps.2.2.2.1, hne2_ps.2.2.2.2.1, hne2_ps.2.2.2.2.2.1, hne2_ps.2.2.2.2.2.2.1, hne2_ps.2.2.2.2.2.2.2.1, hne2_ps.2.2.2.2.2.2.2.2.1, hne2_ps.2.2.2.2.2.2.2.2.2.1, hne2_ps.2.2.2.2.2.2.2.2.2.2]
  (refine Out.plain hwf ?_ rfl ?_; (repeat first | exact Sub.refl _ | refine Sub.push hwf ?_ _ | refine Sub.set hwf ?_ (by first | exact Nat.le_refl _ | omega) _ | refine Sub.kill hwf ?_ (by first | exact Nat.le_refl _ | omega))); exact h

def q_used : Con := fun args H K => match args with
  | [.agg p_e, .c (.int .i64 d)] => onv (ePo.dec p_e) fun p => K (.c (.bool (inR d p.first p.last))) H
  | _ => False
@[simp ↓] theorem q_used_eq (p_e : List AC) (d : Int) (H : AHeap) (K : AV → AHeap → Prop) : q_used [.agg p_e, .c (.int .i64 d)] H K = (onv (ePo.dec p_e) fun p => K (.c (.bool (inR d p.first p.last))) H) := rfl

theorem spec_l11Used_s : Sound Tryd.prog 70 q_used := by
  intro args H K h
  unfold q_used at h
  split at h
  rotate_left
  all_goals first | exact False.elim h | skip
  rename_i p_e d
  have h1 := onv_iff.1 h
  clear h
  obtain ⟨p, hd_p, h⟩ := h1
  obtain rfl := ePo.cd _ _ hd_p
  clear hd_p
  have hE := soundE_cons spec_l1In_s (soundE_nil (P := Tryd.prog))
  refine acalls_fn spec_l11Used_k hE ⟨by simp, fun hwf => ?_⟩
  simp (config := {contextual := true, implicitDefEqProofs := false, maxSteps := 60000}) [-Int.not_le, -Int.not_lt, argsF, spec_l11Used_c]
  (refine Out.plain hwf ?_ rfl ?_; (repeat first | exact Sub.refl _ | refine Sub.push hwf ?_ _ | refine Sub.set hwf ?_ (by first | exact Nat.le_refl _ | omega) _ | refine Sub.kill hwf ?_ (by first | exact Nat.le_refl _ | omega))); exact h

def q_max2 : Con := fun args H K => match args with
  | [.c (.int .i64 a), .c (.int .i64 b)] => K (.c (.int .i64 (if a < b then b else a))) H
  | _ => False
@[simp ↓] theorem q_max2_eq (a : Int) (b : Int) (H : AHeap) (K : AV → AHeap → Prop) : q_max2 [.c (.int .i64 a), .c (.int .i64 b)] H K = (K (.c (.int .i64 (if a < b then b else a))) H) := rfl

theorem spec_l1Most_s : Sound Tryd.prog 69 q_max2 := by
  intro args H K h
  unfold q_max2 at h
  split at h
  rotate_left
  all_goals first | exact False.elim h | skip
  rename_i a b
  have hE := soundE_nil (P := Tryd.prog)
  refine acalls_fn spec_l1Most_k hE ⟨by simp, fun hwf => ?_⟩
  simp (config := {contextual := true, implicitDefEqProofs := false, maxSteps := 60000}) [-Int.not_le, -Int.not_lt, argsF, spec_l1Most_c]
  refine ite_i (fun h1 => ?_) (fun h1 => ?_)
  · rw [if_neg (by omega)] at h; (refine Out.plain hwf ?_ rfl ?_; (repeat first | exact Sub.refl _ | refine Sub.push hwf ?_ _ | refine Sub.set hwf ?_ (by first | exact Nat.le_refl _ | omega) _ | refine Sub.kill hwf ?_ (by first | exact Nat.le_refl _ | omega))); exact h
  · by_cases h2 : a < b
    · rw [if_pos h2] at h; (refine Out.plain hwf ?_ rfl ?_; (repeat first | exact Sub.refl _ | refine Sub.push hwf ?_ _ | refine Sub.set hwf ?_ (by first | exact Nat.le_refl _ | omega) _ | refine Sub.kill hwf ?_ (by first | exact Nat.le_refl _ | omega))); exact h
    · obtain rfl : a = b := by omega
      rw [if_neg h2] at h; (refine Out.plain hwf ?_ rfl ?_; (repeat first | exact Sub.refl _ | refine Sub.push hwf ?_ _ | refine Sub.set hwf ?_ (by first | exact Nat.le_refl _ | omega) _ | refine Sub.kill hwf ?_ (by first | exact Nat.le_refl _ | omega))); exact h

def q_min2 : Con := fun args H K => match args with
  | [.c (.int .i64 a), .c (.int .i64 b)] => K (.c (.int .i64 (if b < a then b else a))) H
  | _ => False
@[simp ↓] theorem q_min2_eq (a : Int) (b : Int) (H : AHeap) (K : AV → AHeap → Prop) : q_min2 [.c (.int .i64 a), .c (.int .i64 b)] H K = (K (.c (.int .i64 (if b < a then b else a))) H) := rfl

theorem spec_l1Least_s : Sound Tryd.prog 68 q_min2 := by
  intro args H K h
  unfold q_min2 at h
  split at h
  rotate_left
  all_goals first | exact False.elim h | skip
  rename_i a b
  have hE := soundE_nil (P := Tryd.prog)
  refine acalls_fn spec_l1Least_k hE ⟨by simp, fun hwf => ?_⟩
  simp (config := {contextual := true, implicitDefEqProofs := false, maxSteps := 60000}) [-Int.not_le, -Int.not_lt, argsF, spec_l1Least_c]
  refine ite_i (fun h1 => ?_) (fun h1 => ?_)
  · rw [if_neg (by omega)] at h; (refine Out.plain hwf ?_ rfl ?_; (repeat first | exact Sub.refl _ | refine Sub.push hwf ?_ _ | refine Sub.set hwf ?_ (by first | exact Nat.le_refl _ | omega) _ | refine Sub.kill hwf ?_ (by first | exact Nat.le_refl _ | omega))); exact h
  · by_cases h2 : b < a
    · rw [if_pos h2] at h; (refine Out.plain hwf ?_ rfl ?_; (repeat first | exact Sub.refl _ | refine Sub.push hwf ?_ _ | refine Sub.set hwf ?_ (by first | exact Nat.le_refl _ | omega) _ | refine Sub.kill hwf ?_ (by first | exact Nat.le_refl _ | omega))); exact h
    · obtain rfl : a = b := by omega
      rw [if_neg h2] at h; (refine Out.plain hwf ?_ rfl ?_; (repeat first | exact Sub.refl _ | refine Sub.push hwf ?_ _ | refine Sub.set hwf ?_ (by first | exact Nat.le_refl _ | omega) _ | refine Sub.kill hwf ?_ (by first | exact Nat.le_refl _ | omega))); exact h

end Go.Proofs.YtnehhdcaknppnaaDoor
