/- Rates: a valid list, the rate of a letter. -/
import Derived.Test.YtjiffkjeijfilaaCoQ
set_option maxRecDepth 8000
set_option linter.unusedSimpArgs false
set_option linter.unusedVariables false
namespace Go.Proofs.Ytjiffkjeijfilaa
open Go Go.RowKit

set_option maxHeartbeats 4000000

@[simp] theorem eI_decL_cons (a : Int) (r : List (List AC)) : eI.decL ([.int .i64 a] :: r) = (eI.decL r).map fun l => a :: l := by
  simp only [Enc.decL, eI_dec]; cases eI.decL r <;> rfl
def isRa (x : Ra) : Bool := inR x.zone 0 9 && (inR x.grams 1 2000 && (inR x.frm 0 4000 && (inR x.til 0 4000 && (decide (x.frm ≤ x.til) && inR x.cents 1 9999))))
theorem isRa_b {x : Ra} (h : isRa x = true) : 0 ≤ x.zone ∧ x.zone ≤ 9 ∧ 1 ≤ x.grams ∧ x.grams ≤ 2000 ∧ 0 ≤ x.frm ∧ x.frm ≤ x.til ∧ x.til ≤ 4000 ∧ 1 ≤ x.cents ∧ x.cents ≤ 9999 := by
  simp only [isRa, inR, Bool.and_eq_true, decide_eq_true_eq] at h; omega
/-- one rate behind another one -/
def okRa (p x : Ra) : Bool := decide (p.zone < x.zone) || (decide (p.zone = x.zone) && (decide (p.grams < x.grams) || (decide (p.grams = x.grams) && decide (p.til < x.frm))))
def raGo : Option Ra → List Ra → Bool
  | _, [] => true
  | o, x :: r => if isRa x = true then (if (match o with | none => true | some p => okRa p x) = true then raGo (some x) r else false) else false
def areRa (ps : List Ra) : Bool := raGo none ps && decide (ps.length ≤ 16)
theorem areRa_len {ps : List Ra} (h : areRa ps = true) : ps.length ≤ 16 := by
  simp only [areRa, Bool.and_eq_true, decide_eq_true_eq] at h; exact h.2
def cmpI (a b : Int) : Int := if a < b then -1 else if b < a then 1 else 0
def orI : List Int → Int
  | [] => 0
  | x :: r => if x = 0 then orI r else x
def codeRa (x : Ra) : Int := (10000 * x.zone + x.grams) * 10000 + x.frm
def codeW (x : Ra) : Int := IntKind.i64.wrap (IntKind.i64.wrap (IntKind.i64.wrap (IntKind.i64.wrap (10000 * x.zone) + x.grams) * 10000) + x.frm)
theorem codeW_eq {x : Ra} (h : isRa x = true) : codeW x = codeRa x := by
  have := isRa_b h
  unfold codeW codeRa
  rw [wrap_id (n := 10000 * x.zone) (by omega) (by omega), wrap_id (n := 10000 * x.zone + x.grams) (by omega) (by omega), wrap_id (n := (10000 * x.zone + x.grams) * 10000) (by omega) (by omega), wrap_id (by omega) (by omega)]

def q_isRa : Con := fun args H K => match args with
  | [.agg x_e] => onv (eRa.dec x_e) fun x => K (.c (.bool (isRa x))) H
  | _ => False
@[simp ↓] theorem q_isRa_eq (x_e : List AC) (H : AHeap) (K : AV → AHeap → Prop) : q_isRa [.agg x_e] H K = (onv (eRa.dec x_e) fun x => K (.c (.bool (isRa x))) H) := rfl

theorem impl_isRate_s : Sound Try.prog 125 q_isRa := by
  intro args H K h
  unfold q_isRa at h
  split at h
  rotate_left
  all_goals first | exact False.elim h | skip
  rename_i x_e
  have h1 := onv_iff.1 h
  clear h
  obtain ⟨x, hd_x, h⟩ := h1
  obtain rfl := eRa.cd _ _ hd_x
  clear hd_x
  have hE := soundE_cons impl_isZone_s (soundE_cons impl_isWeight_s (soundE_cons impl_isDay_s (soundE_cons impl_isCents_s (soundE_nil (P := Try.prog)))))
  refine acalls_fn impl_isRate_k hE ⟨by simp, fun hwf => ?_⟩
  simp (config := {contextual := true, implicitDefEqProofs := false, maxSteps := 2000000}) [-Int.not_le, -Int.not_lt, argsF, impl_isRate_c]
  repeat' (refine ite_i (fun _ => ?_) (fun _ => ?_))
  all_goals ((refine Out.plain hwf ?_ rfl ?_; (repeat first | exact Sub.refl _ | refine Sub.push hwf ?_ _ | refine Sub.set hwf ?_ (by first | exact Nat.le_refl _ | omega | (simp only [push_n, set_n, kill_n]; omega)) _ | refine Sub.kill hwf ?_ (by first | exact Nat.le_refl _ | omega | (simp only [push_n, set_n, kill_n]; omega)))); simp_all [isRa])

theorem spec_l8One_s : Sound Try.prog 132 q_isRa := by
  intro args H K h
  unfold q_isRa at h
  split at h
  rotate_left
  all_goals first | exact False.elim h | skip
  rename_i x_e
  have h1 := onv_iff.1 h
  clear h
  obtain ⟨x, hd_x, h⟩ := h1
  obtain rfl := eRa.cd _ _ hd_x
  clear hd_x
  have hE := soundE_cons spec_l1In_s (soundE_cons spec_l2Day_s (soundE_cons spec_l8Zone_s (soundE_cons spec_l8Grams_s (soundE_cons spec_l8Cents_s (soundE_nil (P := Try.prog))))))
  refine acalls_fn spec_l8One_k hE ⟨by simp, fun hwf => ?_⟩
  simp (config := {contextual := true, implicitDefEqProofs := false, maxSteps := 2000000}) [-Int.not_le, -Int.not_lt, argsF, spec_l8One_c]
  have e : isRa x = (inR x.zone 0 9 && (inR x.grams 1 2000 && (inR x.til 0 4000 && (inR x.frm 0 x.til && inR x.cents 1 9999)))) := by
    simp only [isRa, inR, ← Bool.decide_and, decide_eq_decide]; omega
  rw [e] at h
  repeat' (refine ite_i (fun _ => ?_) (fun _ => ?_))
  all_goals ((refine Out.plain hwf ?_ rfl ?_; (repeat first | exact Sub.refl _ | refine Sub.push hwf ?_ _ | refine Sub.set hwf ?_ (by first | exact Nat.le_refl _ | omega | (simp only [push_n, set_n, kill_n]; omega)) _ | refine Sub.kill hwf ?_ (by first | exact Nat.le_refl _ | omega | (simp only [push_n, set_n, kill_n]; omega)))); simp_all)

def q_codeRa : Con := fun args H K => match args with
  | [.agg x_e] => onv (eRa.dec x_e) fun x => K (.c (.int .i64 (codeW x))) H
  | _ => False
@[simp ↓] theorem q_codeRa_eq (x_e : List AC) (H : AHeap) (K : AV → AHeap → Prop) : q_codeRa [.agg x_e] H K = (onv (eRa.dec x_e) fun x => K (.c (.int .i64 (codeW x))) H) := rfl

theorem spec_l8Code_s : Sound Try.prog 133 q_codeRa := by
  intro args H K h
  unfold q_codeRa at h
  split at h
  rotate_left
  all_goals first | exact False.elim h | skip
  rename_i x_e
  have h1 := onv_iff.1 h
  clear h
  obtain ⟨x, hd_x, h⟩ := h1
  obtain rfl := eRa.cd _ _ hd_x
  clear hd_x
  have hE := soundE_nil (P := Try.prog)
  refine acalls_fn spec_l8Code_k hE ⟨by simp, fun hwf => ?_⟩
  simp (config := {contextual := true, implicitDefEqProofs := false, maxSteps := 60000}) [-Int.not_le, -Int.not_lt, argsF, spec_l8Code_c]
  (refine Out.plain hwf ?_ rfl ?_; (repeat first | exact Sub.refl _ | refine Sub.push hwf ?_ _ | refine Sub.set hwf ?_ (by first | exact Nat.le_refl _ | omega | (simp only [push_n, set_n, kill_n]; omega)) _ | refine Sub.kill hwf ?_ (by first | exact Nat.le_refl _ | omega | (simp only [push_n, set_n, kill_n]; omega)))); exact h

def q_isNaN : Con := fun args H K => match args with
  | [.c (.int .i64 n)] => K (.c (.bool (false))) H
  | _ => False
@[simp ↓] theorem q_isNaN_eq (n : Int) (H : AHeap) (K : AV → AHeap → Prop) : q_isNaN [.c (.int .i64 n)] H K = (K (.c (.bool (false))) H) := rfl

theorem cmp_isNaN_int_s : Sound Try.prog 152 q_isNaN := by
  intro args H K h
  unfold q_isNaN at h
  split at h
  rotate_left
  all_goals first | exact False.elim h | skip
  rename_i n
  have hE := soundE_nil (P := Try.prog)
  refine acalls_fn cmp_isNaN_int__k hE ⟨by simp, fun hwf => ?_⟩
  simp (config := {contextual := true, implicitDefEqProofs := false, maxSteps := 60000}) [-Int.not_le, -Int.not_lt, argsF, cmp_isNaN_int__c]
  (refine Out.plain hwf ?_ rfl ?_; (repeat first | exact Sub.refl _ | refine Sub.push hwf ?_ _ | refine Sub.set hwf ?_ (by first | exact Nat.le_refl _ | omega | (simp only [push_n, set_n, kill_n]; omega)) _ | refine Sub.kill hwf ?_ (by first | exact Nat.le_refl _ | omega | (simp only [push_n, set_n, kill_n]; omega)))); exact h

def q_cmpI : Con := fun args H K => match args with
  | [.c (.int .i64 a), .c (.int .i64 b)] => K (.c (.int .i64 (cmpI a b))) H
  | _ => False
@[simp ↓] theorem q_cmpI_eq (a : Int) (b : Int) (H : AHeap) (K : AV → AHeap → Prop) : q_cmpI [.c (.int .i64 a), .c (.int .i64 b)] H K = (K (.c (.int .i64 (cmpI a b))) H) := rfl

theorem cmp_Compare_int_s : Sound Try.prog 104 q_cmpI := by
  intro args H K h
  unfold q_cmpI at h
  split at h
  rotate_left
  all_goals first | exact False.elim h | skip
  rename_i a b
  have hE := soundE_cons cmp_isNaN_int_s (soundE_nil (P := Try.prog))
  refine acalls_fn cmp_Compare_int__k hE ⟨by simp, fun hwf => ?_⟩
  simp (config := {contextual := true, implicitDefEqProofs := false, maxSteps := 60000}) [-Int.not_le, -Int.not_lt, argsF, cmp_Compare_int__c]
  unfold cmpI at h
  repeat' split
  all_goals ((refine Out.plain hwf ?_ rfl ?_; (repeat first | exact Sub.refl _ | refine Sub.push hwf ?_ _ | refine Sub.set hwf ?_ (by first | exact Nat.le_refl _ | omega | (simp only [push_n, set_n, kill_n]; omega)) _ | refine Sub.kill hwf ?_ (by first | exact Nat.le_refl _ | omega | (simp only [push_n, set_n, kill_n]; omega)))); simp_all)

def q_orI : Con := fun args H K => match args with
  | [ps_v] => eI.rd H (fun ps => K (.c (.int .i64 (orI ps))) H) ps_v
  | _ => False
@[simp ↓] theorem q_orI_eq (ps_v : AV) (H : AHeap) (K : AV → AHeap → Prop) : q_orI [ps_v] H K = (eI.rd H (fun ps => K (.c (.int .i64 (orI ps))) H) ps_v) := rfl

theorem cmp_Or_int_s : Sound Try.prog 103 q_orI := by
  intro args H K h
  unfold q_orI at h
  split at h
  rotate_left
  all_goals first | exact False.elim h | skip
  rename_i ps_v
  have h1 := Enc.rd_at h
  clear h
  obtain ⟨b_ps, i_ps, k_ps, ps, rfl, hat_ps, h⟩ := h1
  have hE := soundE_nil (P := Try.prog)
  refine acalls_fn cmp_Or_int__k hE ⟨by simp, fun hwf => ?_⟩
  have hb_ps : b_ps < H.n := (hwf b_ps k_ps hat_ps.blk).1
  have hne_ps : (b_ps = H.n) = False := eq_false (by omega)
  have hne1_ps : ∀ i, (b_ps = H.n + i) = False := fun i => eq_false (by omega)
  have hne2_ps : (b_ps = H.n + 1 + 1) = False ∧ (b_ps = H.n + 1 + 1 + 1) = False ∧ (b_ps = H.n + 1 + 1 + 1 + 1) = False ∧ (b_ps = H.n + 1 + 1 + 1 + 1 + 1) = False ∧ (b_ps = H.n + 1 + 1 + 1 + 1 + 1 + 1) = False ∧ (b_ps = H.n + 1 + 1 + 1 + 1 + 1 + 1 + 1) = False ∧ (b_ps = H.n + 1 + 1 + 1 + 1 + 1 + 1 + 1 + 1) = False ∧ (b_ps = H.n + 1 + 1 + 1 + 1 + 1 + 1 + 1 + 1 + 1) = False ∧ (b_ps = H.n + 1 + 1 + 1 + 1 + 1 + 1 + 1 + 1 + 1 + 1) = False ∧ (b_ps = H.n + 1 + 1 + 1 + 1 + 1 + 1 + 1 + 1 + 1 + 1 + 1) = False ∧ (b_ps = H.n + 1 + 1 + 1 + 1 + 1 + 1 + 1 + 1 + 1 + 1 + 1 + 1) = False := ⟨eq_false (by omega), eq_false (by omega), eq_false (by omega), eq_false (by omega), eq_false (by omega), eq_false (by omega), eq_false (by omega), eq_false (by omega), eq_false (by omega), eq_false (by omega), eq_false (by omega)⟩
  have hmx_ps : ps.length ≤ 9223372036854775807 := by have h1 := (hwf b_ps k_ps hat_ps.blk).2.2; have h2 := hat_ps.len; omega
  simp (config := {contextual := true, implicitDefEqProofs := false, maxSteps := 60000}) [-Int.not_le, -Int.not_lt, argsF, cmp_Or_int__c, hat_ps.blk, hat_ps.esz, hat_ps.len, hat_ps.els, hne_ps, hne1_ps, hne2_ps.1, hne2_ps.2.1, hne2_ps.2.2.1, hne2_ps.2.2.2.1, hne2_ps.2.2.2.2.1, hne2_ps.2.2.2.2.2.1, hne2_ps.2.2.2.2.2.2.1, hne2_ps.2.2.2.2.2.2.2.1, hne2_ps.2.2.2.2.2.2.2.2.1, hne2_ps.2.2.2.2.2.2.2.2.2.1, hne2_ps.2.2.2.2.2.2.2.2.2.2]
  refine aloop_list ps (fun j _ => [(3, .c (.int .i64 (0))), (6, .c (.sl b_ps i_ps ps.length)), (7, .c (.int .i64 ps.length)), (8, .c (.int .i64 (j)))]) (fun j _ => H) (fun j l _ => K (.c (.int .i64 (orI l))) H) hE _ (()) (h) (.same hwf (by simp [frOk, AV.okR, AV.ok1, AC.okR, AV.ren, AV.ren1, AC.ren, AFrame.get, pl1_old, *]; first | done | rfl | omega)) (fun j _ hlt hi => ?_) fun _ hi => ?_
  ·
    have e1 := hat_ps.get hlt
    have hj1 := idx_lt hlt
    have w1 : IntKind.i64.wrap ((j : Int) + 1) = (j : Int) + 1 := wrap_id (by omega) (by omega)
    simp (config := {contextual := true, implicitDefEqProofs := false, maxSteps := 60000}) [-Int.not_le, -Int.not_lt, argsF, cmp_Or_int__l0, hat_ps.blk, hat_ps.esz, hat_ps.len, hat_ps.els, hne_ps, hne1_ps, hne2_ps.1, hne2_ps.2.1, hne2_ps.2.2.1, hne2_ps.2.2.2.1, hne2_ps.2.2.2.2.1, hne2_ps.2.2.2.2.2.1, hne2_ps.2.2.2.2.2.2.1, hne2_ps.2.2.2.2.2.2.2.1, hne2_ps.2.2.2.2.2.2.2.2.1, hne2_ps.2.2.2.2.2.2.2.2.2.1, hne2_ps.2.2.2.2.2.2.2.2.2.2, e1, hj1, w1]
    simp only [orI] at hi
    repeat' split
    all_goals try simp only [*, if_true, if_false, reduceCtorEq, and_self, and_true, true_and, and_false, false_and, not_true_eq_false, not_false_eq_true] at hi
    all_goals first | ((refine Out.plain hwf ?_ rfl ?_; (repeat first | exact Sub.refl _ | refine Sub.push hwf ?_ _ | refine Sub.set hwf ?_ (by first | exact Nat.le_refl _ | omega | (simp only [push_n, set_n, kill_n]; omega)) _ | refine Sub.kill hwf ?_ (by first | exact Nat.le_refl _ | omega | (simp only [push_n, set_n, kill_n]; omega)))); exact hi) | exact ⟨(), hi, .drop hwf (by (repeat first | exact Sub.refl _ | refine Sub.push hwf ?_ _ | refine Sub.set hwf ?_ (by first | exact Nat.le_refl _ | omega | (simp only [push_n, set_n, kill_n]; omega)) _ | refine Sub.kill hwf ?_ (by first | exact Nat.le_refl _ | omega | (simp only [push_n, set_n, kill_n]; omega)))) (by simp [frOk, AV.okR, AV.ok1, AC.okR, AV.ren, AV.ren1, AC.ren, AFrame.get, pl1_old, *]; first | done | rfl | omega)⟩
  ·
    simp (config := {contextual := true, implicitDefEqProofs := false, maxSteps := 60000}) [-Int.not_le, -Int.not_lt, argsF, cmp_Or_int__l0, hat_ps.blk, hat_ps.esz, hat_ps.len, hat_ps.els, hne_ps, hne1_ps, hne2_ps.1, hne2_ps.2.1, hne2_ps.2.2.1, hne2_ps.2.2.2.1, hne2_ps.2.2.2.2.1, hne2_ps.2.2.2.2.2.1, hne2_ps.2.2.2.2.2.2.1, hne2_ps.2.2.2.2.2.2.2.1, hne2_ps.2.2.2.2.2.2.2.2.1, hne2_ps.2.2.2.2.2.2.2.2.2.1, hne2_ps.2.2.2.2.2.2.2.2.2.2]
    simp only [orI] at hi
    (refine Out.plain hwf ?_ rfl ?_; (repeat first | exact Sub.refl _ | refine Sub.push hwf ?_ _ | refine Sub.set hwf ?_ (by first | exact Nat.le_refl _ | omega | (simp only [push_n, set_n, kill_n]; omega)) _ | refine Sub.kill hwf ?_ (by first | exact Nat.le_refl _ | omega | (simp only [push_n, set_n, kill_n]; omega)))); exact hi

end Go.Proofs.Ytjiffkjeijfilaa
