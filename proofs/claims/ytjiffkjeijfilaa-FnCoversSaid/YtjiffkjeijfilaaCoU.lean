/- The rate of a letter; explained covers. -/
import Derived.Test.YtjiffkjeijfilaaCoT
set_option maxRecDepth 8000
set_option linter.unusedSimpArgs false
set_option linter.unusedVariables false
namespace Go.Proofs.Ytjiffkjeijfilaa
open Go Go.RowKit

set_option maxHeartbeats 4000000

def hitRa (d z g : Int) (x : Ra) : Bool := decide (x.zone = z) && (decide (g ≤ x.grams) && inR d x.frm x.til)
def forGo (d z g : Int) : List Ra → Int × Bool
  | [] => (0, false)
  | x :: r => if hitRa d z g x = true then (x.cents, true) else forGo d z g r
theorem forGo_no (d z g : Int) : ∀ l : List Ra, (forGo d z g l).2 = false → (forGo d z g l).1 = 0
  | [], _ => rfl
  | x :: r, h => by
    simp only [forGo] at h ⊢
    split
    · rename_i hc; rw [if_pos hc] at h; cases h
    · rename_i hc; rw [if_neg hc] at h; exact forGo_no d z g r h

def q_rateFor : Con := fun args H K => match args with
  | [ps_v, .c (.int .i64 d), .c (.int .i64 z), .c (.int .i64 g)] => eRa.rd H (fun ps => K (.tup [.c (.int .i64 ((forGo d z g ps).1)), .c (.bool ((forGo d z g ps).2))]) H) ps_v
  | _ => False
@[simp ↓] theorem q_rateFor_eq (ps_v : AV) (d : Int) (z : Int) (g : Int) (H : AHeap) (K : AV → AHeap → Prop) : q_rateFor [ps_v, .c (.int .i64 d), .c (.int .i64 z), .c (.int .i64 g)] H K = (eRa.rd H (fun ps => K (.tup [.c (.int .i64 ((forGo d z g ps).1)), .c (.bool ((forGo d z g ps).2))]) H) ps_v) := rfl

def q_l8For : Con := fun args H K => match args with
  | [ps_v, .c (.int .i64 d), .c (.int .i64 z), .c (.int .i64 g)] => eRa.rd H (fun ps => K (.c (.int .i64 ((forGo d z g ps).1))) H) ps_v
  | _ => False
@[simp ↓] theorem q_l8For_eq (ps_v : AV) (d : Int) (z : Int) (g : Int) (H : AHeap) (K : AV → AHeap → Prop) : q_l8For [ps_v, .c (.int .i64 d), .c (.int .i64 z), .c (.int .i64 g)] H K = (eRa.rd H (fun ps => K (.c (.int .i64 ((forGo d z g ps).1))) H) ps_v) := rfl

theorem impl_rateFor_s : Sound Try.prog 78 q_rateFor := by
  intro args H K h
  unfold q_rateFor at h
  split at h
  rotate_left
  all_goals first | exact False.elim h | skip
  rename_i ps_v d z g
  have h1 := Enc.rd_at h
  clear h
  obtain ⟨b_ps, i_ps, k_ps, ps, rfl, hat_ps, h⟩ := h1
  have hE := soundE_cons impl_inRange_s (soundE_nil (P := Try.prog))
  refine acalls_fn impl_rateFor_k hE ⟨by simp, fun hwf => ?_⟩
  have hb_ps : b_ps < H.n := (hwf b_ps k_ps hat_ps.blk).1
  have hne_ps : (b_ps = H.n) = False := eq_false (by omega)
  have hne1_ps : ∀ i, (b_ps = H.n + i) = False := fun i => eq_false (by omega)
  have hne2_ps : (b_ps = H.n + 1 + 1) = False ∧ (b_ps = H.n + 1 + 1 + 1) = False ∧ (b_ps = H.n + 1 + 1 + 1 + 1) = False ∧ (b_ps = H.n + 1 + 1 + 1 + 1 + 1) = False ∧ (b_ps = H.n + 1 + 1 + 1 + 1 + 1 + 1) = False ∧ (b_ps = H.n + 1 + 1 + 1 + 1 + 1 + 1 + 1) = False ∧ (b_ps = H.n + 1 + 1 + 1 + 1 + 1 + 1 + 1 + 1) = False ∧ (b_ps = H.n + 1 + 1 + 1 + 1 + 1 + 1 + 1 + 1 + 1) = False ∧ (b_ps = H.n + 1 + 1 + 1 + 1 + 1 + 1 + 1 + 1 + 1 + 1) = False ∧ (b_ps = H.n + 1 + 1 + 1 + 1 + 1 + 1 + 1 + 1 + 1 + 1 + 1) = False ∧ (b_ps = H.n + 1 + 1 + 1 + 1 + 1 + 1 + 1 + 1 + 1 + 1 + 1 + 1) = False := ⟨eq_false (by omega), eq_false (by omega), eq_false (by omega), eq_false (by omega), eq_false (by omega), eq_false (by omega), eq_false (by omega), eq_false (by omega), eq_false (by omega), eq_false (by omega), eq_false (by omega)⟩
  have hmx_ps : ps.length ≤ 9223372036854775807 := by have h1 := (hwf b_ps k_ps hat_ps.blk).2.2; have h2 := hat_ps.len; omega
  simp (config := {contextual := true, implicitDefEqProofs := false, maxSteps := 60000}) [-Int.not_le, -Int.not_lt, argsF, impl_rateFor_c, hat_ps.blk, hat_ps.esz, hat_ps.len, hat_ps.els, hne_ps, hne1_ps, hne2_ps.1, hne2_ps.2.1, hne2_ps.2.2.1, hne2_ps.2.2.2.1, hne2_ps.2.2.2.2.1, hne2_ps.2.2.2.2.2.1, hne2_ps.2.2.2.2.2.2.1, hne2_ps.2.2.2.2.2.2.2.1, hne2_ps.2.2.2.2.2.2.2.2.1, hne2_ps.2.2.2.2.2.2.2.2.2.1, hne2_ps.2.2.2.2.2.2.2.2.2.2]
  refine aloop_list ps (fun j _ => [(1, .c (.int .i64 (d))), (2, .c (.int .i64 (z))), (3, .c (.int .i64 (g))), (12, .c (.sl b_ps i_ps ps.length)), (13, .c (.int .i64 ps.length)), (14, .c (.int .i64 (j)))]) (fun j _ => H) (fun j l _ => K (.tup [.c (.int .i64 ((forGo d z g l).1)), .c (.bool ((forGo d z g l).2))]) H) hE _ (()) (h) (.same hwf (by simp [frOk, AV.okR, AV.ok1, AC.okR, AV.ren, AV.ren1, AC.ren, AFrame.get, pl1_old, *]; first | done | rfl | omega)) (fun j _ hlt hi => ?_) fun _ hi => ?_
  ·
    have e1 := hat_ps.get hlt
    have hj1 := idx_lt hlt
    have w1 : IntKind.i64.wrap ((j : Int) + 1) = (j : Int) + 1 := wrap_id (by omega) (by omega)
    simp (config := {contextual := true, implicitDefEqProofs := false, maxSteps := 60000}) [-Int.not_le, -Int.not_lt, argsF, impl_rateFor_l0, hat_ps.blk, hat_ps.esz, hat_ps.len, hat_ps.els, hne_ps, hne1_ps, hne2_ps.1, hne2_ps.2.1, hne2_ps.2.2.1, hne2_ps.2.2.2.1, hne2_ps.2.2.2.2.1, hne2_ps.2.2.2.2.2.1, hne2_ps.2.2.2.2.2.2.1, hne2_ps.2.2.2.2.2.2.2.1, hne2_ps.2.2.2.2.2.2.2.2.1, hne2_ps.2.2.2.2.2.2.2.2.2.1, hne2_ps.2.2.2.2.2.2.2.2.2.2, e1, hj1, w1]
    simp only [forGo] at hi
    cases hk : hitRa d z g ps[j]
    · simp only [hk, if_false, reduceCtorEq] at hi
      unfold hitRa at hk
      repeat' (refine ite_i (fun _ => ?_) (fun _ => ?_))
      all_goals first | exact ⟨(), hi, .drop hwf (by (repeat first | exact Sub.refl _ | refine Sub.push hwf ?_ _ | refine Sub.set hwf ?_ (by first | exact Nat.le_refl _ | omega | (simp only [push_n, set_n, kill_n]; omega)) _ | refine Sub.kill hwf ?_ (by first | exact Nat.le_refl _ | omega | (simp only [push_n, set_n, kill_n]; omega)))) (by simp [frOk, AV.okR, AV.ok1, AC.okR, AV.ren, AV.ren1, AC.ren, AFrame.get, pl1_old, *]; first | done | rfl | omega)⟩ | (exfalso; simp_all; done)
    · simp only [hk, if_true] at hi
      unfold hitRa at hk
      simp only [Bool.and_eq_true, decide_eq_true_eq] at hk
      repeat' (refine ite_i (fun _ => ?_) (fun _ => ?_))
      all_goals first | ((refine Out.plain hwf ?_ rfl ?_; (repeat first | exact Sub.refl _ | refine Sub.push hwf ?_ _ | refine Sub.set hwf ?_ (by first | exact Nat.le_refl _ | omega | (simp only [push_n, set_n, kill_n]; omega)) _ | refine Sub.kill hwf ?_ (by first | exact Nat.le_refl _ | omega | (simp only [push_n, set_n, kill_n]; omega)))); exact hi) | (exfalso; simp_all; done)
  ·
    simp (config := {contextual := true, implicitDefEqProofs := false, maxSteps := 60000}) [-Int.not_le, -Int.not_lt, argsF, impl_rateFor_l0, hat_ps.blk, hat_ps.esz, hat_ps.len, hat_ps.els, hne_ps, hne1_ps, hne2_ps.1, hne2_ps.2.1, hne2_ps.2.2.1, hne2_ps.2.2.2.1, hne2_ps.2.2.2.2.1, hne2_ps.2.2.2.2.2.1, hne2_ps.2.2.2.2.2.2.1, hne2_ps.2.2.2.2.2.2.2.1, hne2_ps.2.2.2.2.2.2.2.2.1, hne2_ps.2.2.2.2.2.2.2.2.2.1, hne2_ps.2.2.2.2.2.2.2.2.2.2]
    simp only [forGo] at hi
    (refine Out.plain hwf ?_ rfl ?_; (repeat first | exact Sub.refl _ | refine Sub.push hwf ?_ _ | refine Sub.set hwf ?_ (by first | exact Nat.le_refl _ | omega | (simp only [push_n, set_n, kill_n]; omega)) _ | refine Sub.kill hwf ?_ (by first | exact Nat.le_refl _ | omega | (simp only [push_n, set_n, kill_n]; omega)))); exact hi

theorem spec_l8For_s : Sound Try.prog 79 q_l8For := by
  intro args H K h
  unfold q_l8For at h
  split at h
  rotate_left
  all_goals first | exact False.elim h | skip
  rename_i ps_v d z g
  have h1 := Enc.rd_at h
  clear h
  obtain ⟨b_ps, i_ps, k_ps, ps, rfl, hat_ps, h⟩ := h1
  have hE := soundE_cons spec_l1In_s (soundE_nil (P := Try.prog))
  refine acalls_fn spec_l8For_k hE ⟨by simp, fun hwf => ?_⟩
  have hb_ps : b_ps < H.n := (hwf b_ps k_ps hat_ps.blk).1
  have hne_ps : (b_ps = H.n) = False := eq_false (by omega)
  have hne1_ps : ∀ i, (b_ps = H.n + i) = False := fun i => eq_false (by omega)
  have hne2_ps : (b_ps = H.n + 1 + 1) = False ∧ (b_ps = H.n + 1 + 1 + 1) = False ∧ (b_ps = H.n + 1 + 1 + 1 + 1) = False ∧ (b_ps = H.n + 1 + 1 + 1 + 1 + 1) = False ∧ (b_ps = H.n + 1 + 1 + 1 + 1 + 1 + 1) = False ∧ (b_ps = H.n + 1 + 1 + 1 + 1 + 1 + 1 + 1) = False ∧ (b_ps = H.n + 1 + 1 + 1 + 1 + 1 + 1 + 1 + 1) = False ∧ (b_ps = H.n + 1 + 1 + 1 + 1 + 1 + 1 + 1 + 1 + 1) = False ∧ (b_ps = H.n + 1 + 1 + 1 + 1 + 1 + 1 + 1 + 1 + 1 + 1) = False ∧ (b_ps = H.n + 1 + 1 + 1 + 1 + 1 + 1 + 1 + 1 + 1 + 1 + 1) = False ∧ (b_ps = H.n + 1 + 1 + 1 + 1 + 1 + 1 + 1 + 1 + 1 + 1 + 1 + 1) = False := ⟨eq_false (by omega), eq_false (by omega), eq_false (by omega), eq_false (by omega), eq_false (by omega), eq_false (by omega), eq_false (by omega), eq_false (by omega), eq_false (by omega), eq_false (by omega), eq_false (by omega)⟩
  have hmx_ps : ps.length ≤ 9223372036854775807 := by have h1 := (hwf b_ps k_ps hat_ps.blk).2.2; have h2 := hat_ps.len; omega
  simp (config := {contextual := true, implicitDefEqProofs := false, maxSteps := 60000}) [-Int.not_le, -Int.not_lt, argsF, spec_l8For_c, hat_ps.blk, hat_ps.esz, hat_ps.len, hat_ps.els, hne_ps, hne1_ps, hne2_ps.1, hne2_ps.2.1, hne2_ps.2.2.1, hne2_ps.2.2.2.1, hne2_ps.2.2.2.2.1, hne2_ps.2.2.2.2.2.1, hne2_ps.2.2.2.2.2.2.1, hne2_ps.2.2.2.2.2.2.2.1, hne2_ps.2.2.2.2.2.2.2.2.1, hne2_ps.2.2.2.2.2.2.2.2.2.1, hne2_ps.2.2.2.2.2.2.2.2.2.2]
  refine aloop_list ps (fun j _ => [(0, .c (.sl b_ps i_ps ps.length)), (1, .c (.int .i64 (d))), (2, .c (.int .i64 (z))), (3, .c (.int .i64 (g))), (9, .c (.int .i64 (j)))]) (fun j _ => H) (fun j l _ => K (.c (.int .i64 ((forGo d z g l).1))) H) hE _ (()) (h) (.same hwf (by simp [frOk, AV.okR, AV.ok1, AC.okR, AV.ren, AV.ren1, AC.ren, AFrame.get, pl1_old, *]; first | done | rfl | omega)) (fun j _ hlt hi => ?_) fun _ hi => ?_
  ·
    have e1 := hat_ps.get hlt
    have hj1 := idx_lt hlt
    have w1 : IntKind.i64.wrap ((j : Int) + 1) = (j : Int) + 1 := wrap_id (by omega) (by omega)
    simp (config := {contextual := true, implicitDefEqProofs := false, maxSteps := 60000}) [-Int.not_le, -Int.not_lt, argsF, spec_l8For_l0, hat_ps.blk, hat_ps.esz, hat_ps.len, hat_ps.els, hne_ps, hne1_ps, hne2_ps.1, hne2_ps.2.1, hne2_ps.2.2.1, hne2_ps.2.2.2.1, hne2_ps.2.2.2.2.1, hne2_ps.2.2.2.2.2.1, hne2_ps.2.2.2.2.2.2.1, hne2_ps.2.2.2.2.2.2.2.1, hne2_ps.2.2.2.2.2.2.2.2.1, hne2_ps.2.2.2.2.2.2.2.2.2.1, hne2_ps.2.2.2.2.2.2.2.2.2.2, e1, hj1, w1]
    simp only [forGo] at hi
    cases hk : hitRa d z g ps[j]
    · simp only [hk, if_false, reduceCtorEq] at hi
      unfold hitRa at hk
      repeat' (refine ite_i (fun _ => ?_) (fun _ => ?_))
      all_goals first | exact ⟨(), hi, .drop hwf (by (repeat first | exact Sub.refl _ | refine Sub.push hwf ?_ _ | refine Sub.set hwf ?_ (by first | exact Nat.le_refl _ | omega | (simp only [push_n, set_n, kill_n]; omega)) _ | refine Sub.kill hwf ?_ (by first | exact Nat.le_refl _ | omega | (simp only [push_n, set_n, kill_n]; omega)))) (by simp [frOk, AV.okR, AV.ok1, AC.okR, AV.ren, AV.ren1, AC.ren, AFrame.get, pl1_old, *]; first | done | rfl | omega)⟩ | (exfalso; simp_all; done)
    · simp only [hk, if_true] at hi
      unfold hitRa at hk
      simp only [Bool.and_eq_true, decide_eq_true_eq] at hk
      repeat' (refine ite_i (fun _ => ?_) (fun _ => ?_))
      all_goals first | ((refine Out.plain hwf ?_ rfl ?_; (repeat first | exact Sub.refl _ | refine Sub.push hwf ?_ _ | refine Sub.set hwf ?_ (by first | exact Nat.le_refl _ | omega | (simp only [push_n, set_n, kill_n]; omega)) _ | refine Sub.kill hwf ?_ (by first | exact Nat.le_refl _ | omega | (simp only [push_n, set_n, kill_n]; omega)))); exact hi) | (exfalso; simp_all; done)
  ·
    simp (config := {contextual := true, implicitDefEqProofs := false, maxSteps := 60000}) [-Int.not_le, -Int.not_lt, argsF, spec_l8For_l0, hat_ps.blk, hat_ps.esz, hat_ps.len, hat_ps.els, hne_ps, hne1_ps, hne2_ps.1, hne2_ps.2.1, hne2_ps.2.2.1, hne2_ps.2.2.2.1, hne2_ps.2.2.2.2.1, hne2_ps.2.2.2.2.2.1, hne2_ps.2.2.2.2.2.2.1, hne2_ps.2.2.2.2.2.2.2.1, hne2_ps.2.2.2.2.2.2.2.2.1, hne2_ps.2.2.2.2.2.2.2.2.2.1, hne2_ps.2.2.2.2.2.2.2.2.2.2]
    simp only [forGo] at hi
    (refine Out.plain hwf ?_ rfl ?_; (repeat first | exact Sub.refl _ | refine Sub.push hwf ?_ _ | refine Sub.set hwf ?_ (by first | exact Nat.le_refl _ | omega | (simp only [push_n, set_n, kill_n]; omega)) _ | refine Sub.kill hwf ?_ (by first | exact Nat.le_refl _ | omega | (simp only [push_n, set_n, kill_n]; omega)))); exact hi

def q_expl : Con := fun args H K => match args with
  | [ps_v, .agg x_e] => eRa.rd H (fun ps => onv (eCv.dec x_e) fun x => K (.c (.bool (decide ((forGo x.day x.zone x.grams ps).1 = x.paid)))) H) ps_v
  | _ => False
@[simp ↓] theorem q_expl_eq (ps_v : AV) (x_e : List AC) (H : AHeap) (K : AV → AHeap → Prop) : q_expl [ps_v, .agg x_e] H K = (eRa.rd H (fun ps => onv (eCv.dec x_e) fun x => K (.c (.bool (decide ((forGo x.day x.zone x.grams ps).1 = x.paid)))) H) ps_v) := rfl

theorem isCv_b {x : Cv} (h : isCv x = true) : 1 ≤ x.id ∧ x.id ≤ 999 ∧ 0 ≤ x.day ∧ x.day ≤ 4000 ∧ 0 ≤ x.zone ∧ x.zone ≤ 9 ∧ 1 ≤ x.grams ∧ x.grams ≤ 2000 ∧ 1 ≤ x.paid ∧ x.paid ≤ 9999 ∧ 0 ≤ x.frm ∧ x.frm ≤ 9 ∧ 0 ≤ x.to ∧ x.to ≤ 9 ∧ x.frm ≠ x.to ∧ 0 ≤ x.leave ∧ x.leave ≤ x.arrive ∧ x.arrive ≤ 9999 := by
  simp only [isCv, inR, Bool.and_eq_true, decide_eq_true_eq] at h; omega
def exRes (ps : List Ra) (x : Cv) : Bool × Bool := if (areRa ps && isCv x) = true then (decide ((forGo x.day x.zone x.grams ps).1 = x.paid), true) else (false, false)

def q_IsEx : Con := fun args H K => match args with
  | [ps_v, .agg x_e] => eRa.rd H (fun ps => onv (eCv.dec x_e) fun x => K (.tup [.c (.bool ((exRes ps x).1)), .c (.bool ((exRes ps x).2))]) H) ps_v
  | _ => False
@[simp ↓] theorem q_IsEx_eq (ps_v : AV) (x_e : List AC) (H : AHeap) (K : AV → AHeap → Prop) : q_IsEx [ps_v, .agg x_e] H K = (eRa.rd H (fun ps => onv (eCv.dec x_e) fun x => K (.tup [.c (.bool ((exRes ps x).1)), .c (.bool ((exRes ps x).2))]) H) ps_v) := rfl

end Go.Proofs.Ytjiffkjeijfilaa
