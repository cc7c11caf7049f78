/- The flaws: what is valid. -/
import Derived.Test.YtnbhpdajikmnkaaBas
import Derived.Test.YtnbhpdajikmnkaaFlC
set_option maxRecDepth 8000
set_option linter.unusedSimpArgs false
set_option linter.unusedVariables false
namespace Go.Proofs.Ytnbhpdajikmnkaa
open Go Go.RowKit

structure Fl where
  row : Int
  col : Int
  code : Int
  frm : Int
  deriving DecidableEq, Inhabited

def eFl : Enc Fl where
  n := 4
  cells p := [.int .i64 p.row, .int .i64 p.col, .int .i64 p.code, .int .i64 p.frm]
  dec e := match e with
    | [.int .i64 x0, .int .i64 x1, .int .i64 x2, .int .i64 x3] => some ⟨x0, x1, x2, x3⟩
    | _ => none
  dc _ := rfl
  cd e p h := by
    split at h
    · cases h; rfl
    · cases h
  len _ := rfl

@[simp] theorem eFl_n : eFl.n = 4 := (rfl)
@[simp] theorem eFl_cells (p : Fl) : eFl.cells p = [.int .i64 p.row, .int .i64 p.col, .int .i64 p.code, .int .i64 p.frm] := (rfl)
@[simp] theorem eFl_dec (x0 : Int) (x1 : Int) (x2 : Int) (x3 : Int) : eFl.dec [.int .i64 x0, .int .i64 x1, .int .i64 x2, .int .i64 x3] = some ⟨x0, x1, x2, x3⟩ := (rfl)
@[simp] theorem eFl_eta (p : Fl) : (⟨p.row, p.col, p.code, p.frm⟩ : Fl) = p := (rfl)

def q_inRange : Con := fun args H K => match args with
  | [.c (.int .i64 n), .c (.int .i64 lo), .c (.int .i64 hi)] => K (.c (.bool (inR n lo hi))) H
  | _ => False
@[simp ↓] theorem q_inRange_eq (n : Int) (lo : Int) (hi : Int) (H : AHeap) (K : AV → AHeap → Prop) : q_inRange [.c (.int .i64 n), .c (.int .i64 lo), .c (.int .i64 hi)] H K = (K (.c (.bool (inR n lo hi))) H) := rfl

theorem impl_inRange_s : Sound Try.prog 53 q_inRange := by
  intro args H K h
  unfold q_inRange at h
  split at h
  rotate_left
  all_goals first | exact False.elim h | skip
  rename_i n lo hi
  have hE := soundE_nil (P := Try.prog)
  refine acalls_fn impl_inRange_k hE ⟨by simp, fun hwf => ?_⟩
  simp (config := {contextual := true, implicitDefEqProofs := false, maxSteps := 60000}) [-Int.not_le, -Int.not_lt, argsF, impl_inRange_c]
  split <;> ((refine Out.plain hwf ?_ rfl ?_; (repeat first | exact Sub.refl _ | refine Sub.push hwf ?_ _ | refine Sub.set hwf ?_ (by first | exact Nat.le_refl _ | omega) _ | refine Sub.kill hwf ?_ (by first | exact Nat.le_refl _ | omega))); simp_all [inR])

theorem spec_l1In_s : Sound Try.prog 52 q_inRange := by
  intro args H K h
  unfold q_inRange at h
  split at h
  rotate_left
  all_goals first | exact False.elim h | skip
  rename_i n lo hi
  have hE := soundE_nil (P := Try.prog)
  refine acalls_fn spec_l1In_k hE ⟨by simp, fun hwf => ?_⟩
  simp (config := {contextual := true, implicitDefEqProofs := false, maxSteps := 60000}) [-Int.not_le, -Int.not_lt, argsF, spec_l1In_c]
  split <;> ((refine Out.plain hwf ?_ rfl ?_; (repeat first | exact Sub.refl _ | refine Sub.push hwf ?_ _ | refine Sub.set hwf ?_ (by first | exact Nat.le_refl _ | omega) _ | refine Sub.kill hwf ?_ (by first | exact Nat.le_refl _ | omega))); simp_all [inR])

def isFl (x : Fl) : Bool := inR x.row 0 9 && (inR x.col 0 9 && (inR x.code 1 99 && inR x.frm 1 9))
theorem isFl_b {x : Fl} (h : isFl x = true) : 0 ≤ x.row ∧ x.row ≤ 9 ∧ 0 ≤ x.col ∧ x.col ≤ 9 ∧ 1 ≤ x.code ∧ x.code ≤ 99 ∧ 1 ≤ x.frm ∧ x.frm ≤ 9 := by
  simp only [isFl, inR, Bool.and_eq_true, decide_eq_true_eq] at h; omega
def keyN (x : Fl) : Int := 100 * (10 * x.row + x.col) + x.code
def keyFl (x : Fl) : Int := IntKind.i64.wrap (IntKind.i64.wrap (100 * IntKind.i64.wrap (IntKind.i64.wrap (10 * x.row) + x.col)) + x.code)
theorem keyFl_eq {x : Fl} (h : isFl x = true) : keyFl x = keyN x := by
  have := isFl_b h
  unfold keyFl keyN
  rw [wrap_id (n := 10 * x.row) (by omega) (by omega), wrap_id (n := 10 * x.row + x.col) (by omega) (by omega), wrap_id (n := 100 * (10 * x.row + x.col)) (by omega) (by omega), wrap_id (by omega) (by omega)]
def cmpI (a b : Int) : Int := if a < b then -1 else if b < a then 1 else 0
def orI : List Int → Int
  | [] => 0
  | x :: r => if x = 0 then orI r else x
def cmpFl (a b : Fl) : Int := orI [cmpI a.row b.row, cmpI a.col b.col, cmpI a.code b.code]
theorem cmp_key {a b : Fl} (ha : isFl a = true) (hb : isFl b = true) : (0 ≤ cmpFl a b) ↔ ¬ keyN a < keyN b := by
  have := isFl_b ha
  have := isFl_b hb
  unfold cmpFl cmpI keyN
  simp only [orI]
  repeat' split
  all_goals omega

def q_state : Con := fun args H K => match args with
  | [.c (.int .i64 n)] => K (.c (.bool (inR n 1 9))) H
  | _ => False
@[simp ↓] theorem q_state_eq (n : Int) (H : AHeap) (K : AV → AHeap → Prop) : q_state [.c (.int .i64 n)] H K = (K (.c (.bool (inR n 1 9))) H) := rfl

theorem impl_isState_s : Sound Try.prog 38 q_state := by
  intro args H K h
  unfold q_state at h
  split at h
  rotate_left
  all_goals first | exact False.elim h | skip
  rename_i n
  have hE := soundE_cons impl_inRange_s (soundE_nil (P := Try.prog))
  refine acalls_fn impl_isState_k hE ⟨by simp, fun hwf => ?_⟩
  simp (config := {contextual := true, implicitDefEqProofs := false, maxSteps := 60000}) [-Int.not_le, -Int.not_lt, argsF, impl_isState_c]
  (refine Out.plain hwf ?_ rfl ?_; (repeat first | exact Sub.refl _ | refine Sub.push hwf ?_ _ | refine Sub.set hwf ?_ (by first | exact Nat.le_refl _ | omega) _ | refine Sub.kill hwf ?_ (by first | exact Nat.le_refl _ | omega))); exact h

theorem spec_l15State_s : Sound Try.prog 36 q_state := by
  intro args H K h
  unfold q_state at h
  split at h
  rotate_left
  all_goals first | exact False.elim h | skip
  rename_i n
  have hE := soundE_cons spec_l1In_s (soundE_nil (P := Try.prog))
  refine acalls_fn spec_l15State_k hE ⟨by simp, fun hwf => ?_⟩
  simp (config := {contextual := true, implicitDefEqProofs := false, maxSteps := 60000}) [-Int.not_le, -Int.not_lt, argsF, spec_l15State_c]
  (refine Out.plain hwf ?_ rfl ?_; (repeat first | exact Sub.refl _ | refine Sub.push hwf ?_ _ | refine Sub.set hwf ?_ (by first | exact Nat.le_refl _ | omega) _ | refine Sub.kill hwf ?_ (by first | exact Nat.le_refl _ | omega))); exact h

def q_posn : Con := fun args H K => match args with
  | [.c (.int .i64 n)] => K (.c (.bool (inR n 0 99))) H
  | _ => False
@[simp ↓] theorem q_posn_eq (n : Int) (H : AHeap) (K : AV → AHeap → Prop) : q_posn [.c (.int .i64 n)] H K = (K (.c (.bool (inR n 0 99))) H) := rfl

theorem impl_isPosition_s : Sound Try.prog 41 q_posn := by
  intro args H K h
  unfold q_posn at h
  split at h
  rotate_left
  all_goals first | exact False.elim h | skip
  rename_i n
  have hE := soundE_cons impl_inRange_s (soundE_nil (P := Try.prog))
  refine acalls_fn impl_isPosition_k hE ⟨by simp, fun hwf => ?_⟩
  simp (config := {contextual := true, implicitDefEqProofs := false, maxSteps := 60000}) [-Int.not_le, -Int.not_lt, argsF, impl_isPosition_c]
  (refine Out.plain hwf ?_ rfl ?_; (repeat first | exact Sub.refl _ | refine Sub.push hwf ?_ _ | refine Sub.set hwf ?_ (by first | exact Nat.le_refl _ | omega) _ | refine Sub.kill hwf ?_ (by first | exact Nat.le_refl _ | omega))); exact h

theorem spec_l15Position_s : Sound Try.prog 40 q_posn := by
  intro args H K h
  unfold q_posn at h
  split at h
  rotate_left
  all_goals first | exact False.elim h | skip
  rename_i n
  have hE := soundE_cons spec_l1In_s (soundE_nil (P := Try.prog))
  refine acalls_fn spec_l15Position_k hE ⟨by simp, fun hwf => ?_⟩
  simp (config := {contextual := true, implicitDefEqProofs := false, maxSteps := 60000}) [-Int.not_le, -Int.not_lt, argsF, spec_l15Position_c]
  (refine Out.plain hwf ?_ rfl ?_; (repeat first | exact Sub.refl _ | refine Sub.push hwf ?_ _ | refine Sub.set hwf ?_ (by first | exact Nat.le_refl _ | omega) _ | refine Sub.kill hwf ?_ (by first | exact Nat.le_refl _ | omega))); exact h

def q_isFl : Con := fun args H K => match args with
  | [.agg x_e] => onv (eFl.dec x_e) fun x => K (.c (.bool (isFl x))) H
  | _ => False
@[simp ↓] theorem q_isFl_eq (x_e : List AC) (H : AHeap) (K : AV → AHeap → Prop) : q_isFl [.agg x_e] H K = (onv (eFl.dec x_e) fun x => K (.c (.bool (isFl x))) H) := rfl

theorem impl_isFlaw_s : Sound Try.prog 50 q_isFl := by
  intro args H K h
  unfold q_isFl at h
  split at h
  rotate_left
  all_goals first | exact False.elim h | skip
  rename_i x_e
  have h1 := onv_iff.1 h
  clear h
  obtain ⟨x, hd_x, h⟩ := h1
  obtain rfl := eFl.cd _ _ hd_x
  clear hd_x
  have hE := soundE_cons impl_inRange_s (soundE_cons impl_isState_s (soundE_nil (P := Try.prog)))
  refine acalls_fn impl_isFlaw_k hE ⟨by simp, fun hwf => ?_⟩
  simp (config := {contextual := true, implicitDefEqProofs := false, maxSteps := 60000}) [-Int.not_le, -Int.not_lt, argsF, impl_isFlaw_c]
  repeat' split
  all_goals ((refine Out.plain hwf ?_ rfl ?_; (repeat first | exact Sub.refl _ | refine Sub.push hwf ?_ _ | refine Sub.set hwf ?_ (by first | exact Nat.le_refl _ | omega) _ | refine Sub.kill hwf ?_ (by first | exact Nat.le_refl _ | omega))); simp_all [isFl])

theorem spec_l15One_s : Sound Try.prog 48 q_isFl := by
  intro args H K h
  unfold q_isFl at h
  split at h
  rotate_left
  all_goals first | exact False.elim h | skip
  rename_i x_e
  have h1 := onv_iff.1 h
  clear h
  obtain ⟨x, hd_x, h⟩ := h1
  obtain rfl := eFl.cd _ _ hd_x
  clear hd_x
  have hE := soundE_cons spec_l1In_s (soundE_cons spec_l15State_s (soundE_nil (P := Try.prog)))
  refine acalls_fn spec_l15One_k hE ⟨by simp, fun hwf => ?_⟩
  simp (config := {contextual := true, implicitDefEqProofs := false, maxSteps := 60000}) [-Int.not_le, -Int.not_lt, argsF, spec_l15One_c]
  repeat' split
  all_goals ((refine Out.plain hwf ?_ rfl ?_; (repeat first | exact Sub.refl _ | refine Sub.push hwf ?_ _ | refine Sub.set hwf ?_ (by first | exact Nat.le_refl _ | omega) _ | refine Sub.kill hwf ?_ (by first | exact Nat.le_refl _ | omega))); simp_all [isFl])

def q_key : Con := fun args H K => match args with
  | [.agg x_e] => onv (eFl.dec x_e) fun x => K (.c (.int .i64 (keyFl x))) H
  | _ => False
@[simp ↓] theorem q_key_eq (x_e : List AC) (H : AHeap) (K : AV → AHeap → Prop) : q_key [.agg x_e] H K = (onv (eFl.dec x_e) fun x => K (.c (.int .i64 (keyFl x))) H) := rfl

theorem spec_l15Key_s : Sound Try.prog 49 q_key := by
  intro args H K h
  unfold q_key at h
  split at h
  rotate_left
  all_goals first | exact False.elim h | skip
  rename_i x_e
  have h1 := onv_iff.1 h
  clear h
  obtain ⟨x, hd_x, h⟩ := h1
  obtain rfl := eFl.cd _ _ hd_x
  clear hd_x
  have hE := soundE_nil (P := Try.prog)
  refine acalls_fn spec_l15Key_k hE ⟨by simp, fun hwf => ?_⟩
  simp (config := {contextual := true, implicitDefEqProofs := false, maxSteps := 60000}) [-Int.not_le, -Int.not_lt, argsF, spec_l15Key_c]
  (refine Out.plain hwf ?_ rfl ?_; (repeat first | exact Sub.refl _ | refine Sub.push hwf ?_ _ | refine Sub.set hwf ?_ (by first | exact Nat.le_refl _ | omega) _ | refine Sub.kill hwf ?_ (by first | exact Nat.le_refl _ | omega))); exact h

def q_isNaN : Con := fun args H K => match args with
  | [.c (.int .i64 n)] => K (.c (.bool (false))) H
  | _ => False
@[simp ↓] theorem q_isNaN_eq (n : Int) (H : AHeap) (K : AV → AHeap → Prop) : q_isNaN [.c (.int .i64 n)] H K = (K (.c (.bool (false))) H) := rfl

theorem cmp_isNaN_int_s : Sound Try.prog 61 q_isNaN := by
  intro args H K h
  unfold q_isNaN at h
  split at h
  rotate_left
  all_goals first | exact False.elim h | skip
  rename_i n
  have hE := soundE_nil (P := Try.prog)
  refine acalls_fn cmp_isNaN_int__k hE ⟨by simp, fun hwf => ?_⟩
  simp (config := {contextual := true, implicitDefEqProofs := false, maxSteps := 60000}) [-Int.not_le, -Int.not_lt, argsF, cmp_isNaN_int__c]
  (refine Out.plain hwf ?_ rfl ?_; (repeat first | exact Sub.refl _ | refine Sub.push hwf ?_ _ | refine Sub.set hwf ?_ (by first | exact Nat.le_refl _ | omega) _ | refine Sub.kill hwf ?_ (by first | exact Nat.le_refl _ | omega))); exact h

def q_cmpI : Con := fun args H K => match args with
  | [.c (.int .i64 a), .c (.int .i64 b)] => K (.c (.int .i64 (cmpI a b))) H
  | _ => False
@[simp ↓] theorem q_cmpI_eq (a : Int) (b : Int) (H : AHeap) (K : AV → AHeap → Prop) : q_cmpI [.c (.int .i64 a), .c (.int .i64 b)] H K = (K (.c (.int .i64 (cmpI a b))) H) := rfl

theorem cmp_Compare_int_s : Sound Try.prog 59 q_cmpI := by
  intro args H K h
  unfold q_cmpI at h
  split at h
  rotate_left
  all_goals first | exact False.elim h | skip
  rename_i a b
  have hE := soundE_cons cmp_isNaN_int_s (soundE_nil (P := Try.prog))
  refine acalls_fn cmp_Compare_int__k hE ⟨by simp, fun hwf => ?_⟩
  simp (config := {contextual := true, implicitDefEqProofs := false, maxSteps := 60000}) [-Int.not_le, -Int.not_lt, argsF, cmp_Compare_int__c]
  unfold cmpI at h
  repeat' split
  all_goals ((refine Out.plain hwf ?_ rfl ?_; (repeat first | exact Sub.refl _ | refine Sub.push hwf ?_ _ | refine Sub.set hwf ?_ (by first | exact Nat.le_refl _ | omega) _ | refine Sub.kill hwf ?_ (by first | exact Nat.le_refl _ | omega))); simp_all)

def q_orI : Con := fun args H K => match args with
  | [ps_v] => eI.rd H (fun ps => K (.c (.int .i64 (orI ps))) H) ps_v
  | _ => False
@[simp ↓] theorem q_orI_eq (ps_v : AV) (H : AHeap) (K : AV → AHeap → Prop) : q_orI [ps_v] H K = (eI.rd H (fun ps => K (.c (.int .i64 (orI ps))) H) ps_v) := rfl

theorem cmp_Or_int_s : Sound Try.prog 58 q_orI := by
  intro args H K h
  unfold q_orI at h
  split at h
  rotate_left
  all_goals first | exact False.elim h | skip
  rename_i ps_v
  have h1 := Enc.rd_at h
  clear h
  obtain ⟨b_ps, i_ps, k_ps, ps, rfl, hat_ps, h⟩ := h1
  have hE := soundE_nil (P := Try.prog)
  refine acalls_fn cmp_Or_int__k hE ⟨by simp, fun hwf => ?_⟩
  have hb_ps : b_ps < H.n := (hwf b_ps k_ps hat_ps.blk).1
  have hne_ps : (b_ps = H.n) = False := eq_false (by omega)
  have hne1_ps : ∀ i, (b_ps = H.n + i) = False := fun i => eq_false (by omega)
  have hne2_ps : (b_ps = H.n + 1 + 1) = False ∧ (b_ps = H.n + 1 + 1 + 1) = False ∧ (b_ps = H.n + 1 + 1 + 1 + 1) = False ∧ (b_ps = H.n + 1 + 1 + 1 + 1 + 1) = False ∧ (b_ps = H.n + 1 + 1 + 1 + 1 + 1 + 1) = False ∧ (b_ps = H.n + 1 + 1 + 1 + 1 + 1 + 1 + 1) = False ∧ (b_ps = H.n + 1 + 1 + 1 + 1 + 1 + 1 + 1 + 1) = False ∧ (b_ps = H.n + 1 + 1 + 1 + 1 + 1 + 1 + 1 + 1 + 1) = False ∧ (b_ps = H.n + 1 + 1 + 1 + 1 + 1 + 1 + 1 + 1 + 1 + 1) = False ∧ (b_ps = H.n + 1 + 1 + 1 + 1 + 1 + 1 + 1 + 1 + 1 + 1 + 1) = False ∧ (b_ps = H.n + 1 + 1 + 1 + 1 + 1 + 1 + 1 + 1 + 1 + 1 + 1 + 1) = False := ⟨eq_false (by omega), eq_false (by omega), eq_false (by omega), eq_false (by omega), eq_false (by omega), eq_false (by omega), eq_false (by omega), eq_false (by omega), eq_false (by omega), eq_false (by omega), eq_false (by omega)⟩
  have hmx_ps : ps.length ≤ 9223372036854775807 := by have h1 := (hwf b_ps k_ps hat_ps.blk).2.2; have h2 := hat_ps.len; omega
  simp (config := {contextual := true, implicitDefEqProofs := false, maxSteps := 60000}) [-Int.not_le, -Int.not_lt, argsF, cmp_Or_int__c, hat_ps.blk, hat_ps.esz, hat_ps.len, hat_ps.els, hne_ps, hne1_ps, hne2_ps.1, hne2_ps.2.1, hne2_ps.2.2.1, hne2_ps.2.2.2.1, hne2_ps.2.2.2.2.1, hne2_ps.2.2.2.2.2.1, hne2_ps.2.2.2.2.2.2.1, hne2_ps.2.2.2.2.2.2.2.1, hne2_ps.2.2.2.2.2.2.2.2.1, hne2_ps.2.2.2.2.2.2.2.2.2.1, hne2_ps.2.2.2.2.2.2.2.2.2.2]
  refine aloop_list ps (fun j _ => [(3, .c (.int .i64 (0))), (6, .c (.sl b_ps i_ps ps.length)), (7, .c (.int .i64 ps.length)), (8, .c (.int .i64 (j)))]) (fun j _ => H) (fun j l _ => K (.c (.int .i64 (orI l))) H) hE _ (()) (h) (.same hwf (by simp [frOk, AV.okR, AV.ok1, AC.okR, AV.ren, AV.ren1, AC.ren, AFrame.get, pl1_old, *]; first | done | omega)) (fun j _ hlt hi => ?_) fun _ hi => ?_
  ·
    have e1 := hat_ps.get hlt
    have hj1 := idx_lt hlt
    have w1 : IntKind.i64.wrap ((j : Int) + 1) = (j : Int) + 1 := wrap_id (by omega) (by omega)
    simp (config := {contextual := true, implicitDefEqProofs := false, maxSteps := 60000}) [-Int.not_le, -Int.not_lt, argsF, cmp_Or_int__l0, hat_ps.blk, hat_ps.esz, hat_ps.len, hat_ps.els, hne_ps, hne1_ps, hne2_ps.1, hne2_ps.2.1, hne2_ps.2.2.1, hne2_ps.2.2.2.1, hne2_ps.2.2.2.2.1, hne2_ps.2.2.2.2.2.1, hne2_ps.2.2.2.2.2.2.1, hne2_ps.2.2.2.2.2.2.2.1, hne2_ps.2.2.2.2.2.2.2.2.1, hne2_ps.2.2.2.2.2.2.2.2.2.1, hne2_ps.2.2.2.2.2.2.2.2.2.2, e1, hj1, w1]
    simp only [orI] at hi
    repeat' split
    all_goals try simp only [*, if_true, if_false, reduceCtorEq, and_self, and_true, true_and, and_false, false_and, not_true_eq_false, not_false_eq_true] at hi
    all_goals first | ((refine Out.plain hwf ?_ rfl ?_; (repeat first | exact Sub.refl _ | refine Sub.push hwf ?_ _ | refine Sub.set hwf ?_ (by first | exact Nat.le_refl _ | omega) _ | refine Sub.kill hwf ?_ (by first | exact Nat.le_refl _ | omega))); exact hi) | exact ⟨(), hi, .drop hwf (by (repeat first | exact Sub.refl _ | refine Sub.push hwf ?_ _ | refine Sub.set hwf ?_ (by first | exact Nat.le_refl _ | omega) _ | refine Sub.kill hwf ?_ (by first | exact Nat.le_refl _ | omega))) (by simp [frOk, AV.okR, AV.ok1, AC.okR, AV.ren, AV.ren1, AC.ren, AFrame.get, pl1_old, *]; first | done | omega)⟩
  ·
    simp (config := {contextual := true, implicitDefEqProofs := false, maxSteps := 60000}) [-Int.not_le, -Int.not_lt, argsF, cmp_Or_int__l0, hat_ps.blk, hat_ps.esz, hat_ps.len, hat_ps.els, hne_ps, hne1_ps, hne2_ps.1, hne2_ps.2.1, hne2_ps.2.2.1, hne2_ps.2.2.2.1, hne2_ps.2.2.2.2.1, hne2_ps.2.2.2.2.2.1, hne2_ps.2.2.2.2.2.2.1, hne2_ps.2.2.2.2.2.2.2.1, hne2_ps.2.2.2.2.2.2.2.2.1, hne2_ps.2.2.2.2.2.2.2.2.2.1, hne2_ps.2.2.2.2.2.2.2.2.2.2]
    simp only [orI] at hi
    (refine Out.plain hwf ?_ rfl ?_; (repeat first | exact Sub.refl _ | refine Sub.push hwf ?_ _ | refine Sub.set hwf ?_ (by first | exact Nat.le_refl _ | omega) _ | refine Sub.kill hwf ?_ (by first | exact Nat.le_refl _ | omega))); exact hi

def q_cmpFl : Con := fun args H K => match args with
  | [.agg a_e, .agg b_e] => onv (eFl.dec a_e) fun a => onv (eFl.dec b_e) fun b => K (.c (.int .i64 (cmpFl a b))) H
  | _ => False
@[simp ↓] theorem q_cmpFl_eq (a_e : List AC) (b_e : List AC) (H : AHeap) (K : AV → AHeap → Prop) : q_cmpFl [.agg a_e, .agg b_e] H K = (onv (eFl.dec a_e) fun a => onv (eFl.dec b_e) fun b => K (.c (.int .i64 (cmpFl a b))) H) := rfl

theorem impl_compareFlaws_s : Sound Try.prog 51 q_cmpFl := by
  intro args H K h
  unfold q_cmpFl at h
  split at h
  rotate_left
  all_goals first | exact False.elim h | skip
  rename_i a_e b_e
  have h1 := onv_iff.1 h
  clear h
  obtain ⟨a, hd_a, h⟩ := h1
  obtain rfl := eFl.cd _ _ hd_a
  clear hd_a
  have h1 := onv_iff.1 h
  clear h
  obtain ⟨b, hd_b, h⟩ := h1
  obtain rfl := eFl.cd _ _ hd_b
  clear hd_b
  have hE := soundE_cons cmp_Compare_int_s (soundE_cons cmp_Or_int_s (soundE_nil (P := Try.prog)))
  refine acalls_fn impl_compareFlaws_k hE ⟨by simp, fun hwf => ?_⟩
  simp (config := {contextual := true, implicitDefEqProofs := false, maxSteps := 60000}) [-Int.not_le, -Int.not_lt, argsF, impl_compareFlaws_c]
  (refine Out.plain hwf ?_ rfl ?_; (repeat first | exact Sub.refl _ | refine Sub.push hwf ?_ _ | refine Sub.set hwf ?_ (by first | exact Nat.le_refl _ | omega) _ | refine Sub.kill hwf ?_ (by first | exact Nat.le_refl _ | omega))); exact h

end Go.Proofs.Ytnbhpdajikmnkaa
