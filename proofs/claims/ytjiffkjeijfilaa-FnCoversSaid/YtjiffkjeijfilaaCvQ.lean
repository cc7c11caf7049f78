/- Mails: which lists are timetables. -/
import Derived.Test.YtjiffkjeijfilaaCvRt
import Derived.Test.YtjiffkjeijfilaaCoE
set_option maxRecDepth 8000
set_option linter.unusedSimpArgs false
set_option linter.unusedVariables false
namespace Go.Proofs.Ytjiffkjeijfilaa
open Go Go.RowKit

set_option maxHeartbeats 4000000

def codeMw (x : Ma) : Int := IntKind.i64.wrap (IntKind.i64.wrap (IntKind.i64.wrap (IntKind.i64.wrap (IntKind.i64.wrap (IntKind.i64.wrap (x.leave * 10) + x.frm) * 10) + x.to) * 10000) + x.arrive)
theorem codeMw_eq {x : Ma} (h : isMa x = true) : codeMw x = codeMa x := by
  have := isMa_b h
  unfold codeMw codeMa
  rw [wrap_id (n := x.leave * 10) (by omega) (by omega), wrap_id (n := x.leave * 10 + x.frm) (by omega) (by omega), wrap_id (n := (x.leave * 10 + x.frm) * 10) (by omega) (by omega), wrap_id (n := (x.leave * 10 + x.frm) * 10 + x.to) (by omega) (by omega), wrap_id (n := ((x.leave * 10 + x.frm) * 10 + x.to) * 10000) (by omega) (by omega), wrap_id (by omega) (by omega)]
theorem minus_ok (x : Ma) : (inR x.leave 0 (IntKind.i64.wrap (x.arrive - 1)) && inR x.arrive 0 9999) = (inR x.leave 0 (x.arrive - 1) && inR x.arrive 0 9999) := by
  cases hm : inR x.arrive 0 9999
  · simp
  · simp only [inR, decide_eq_true_eq] at hm
    rw [wrap_id (n := x.arrive - 1) (by omega) (by omega)]
theorem cmpI_n (a b : Int) : (cmpI a b < 0 ↔ a < b) ∧ (cmpI a b = 0 ↔ a = b) := by
  unfold cmpI
  repeat' split
  all_goals omega
theorem ma_or {p x : Ma} (hp : isMa p = true) (hx : isMa x = true) : decide (codeMa p < codeMa x) = true ↔ orI [cmpI p.leave x.leave, cmpI p.frm x.frm, cmpI p.to x.to, cmpI p.arrive x.arrive] < 0 := by
  have b1 := isMa_b hp
  have b2 := isMa_b hx
  have c1 := cmpI_n p.leave x.leave
  have c2 := cmpI_n p.frm x.frm
  have c3 := cmpI_n p.to x.to
  have c4 := cmpI_n p.arrive x.arrive
  generalize cmpI p.leave x.leave = k1 at c1 ⊢
  generalize cmpI p.frm x.frm = k2 at c2 ⊢
  generalize cmpI p.to x.to = k3 at c3 ⊢
  generalize cmpI p.arrive x.arrive = k4 at c4 ⊢
  have ho : orI [k1, k2, k3, k4] < 0 ↔ k1 < 0 ∨ (k1 = 0 ∧ (k2 < 0 ∨ (k2 = 0 ∧ (k3 < 0 ∨ (k3 = 0 ∧ k4 < 0))))) := by
    simp only [orI]
    repeat' split
    all_goals omega
  rw [decide_eq_true_eq, ho]
  unfold codeMa
  omega

def q_isMa : Con := fun args H K => match args with
  | [.agg x_e] => onv (eMa.dec x_e) fun x => K (.c (.bool (isMa x))) H
  | _ => False
@[simp ↓] theorem q_isMa_eq (x_e : List AC) (H : AHeap) (K : AV → AHeap → Prop) : q_isMa [.agg x_e] H K = (onv (eMa.dec x_e) fun x => K (.c (.bool (isMa x))) H) := rfl

theorem impl_isMail_s : Sound Try.prog 126 q_isMa := by
  intro args H K h
  unfold q_isMa at h
  split at h
  rotate_left
  all_goals first | exact False.elim h | skip
  rename_i x_e
  have h1 := onv_iff.1 h
  clear h
  obtain ⟨x, hd_x, h⟩ := h1
  obtain rfl := eMa.cd _ _ hd_x
  clear hd_x
  have hE := soundE_cons impl_isOffice_s (soundE_cons impl_inRange_s (soundE_cons impl_isMinute_s (soundE_nil (P := Try.prog))))
  refine acalls_fn impl_isMail_k hE ⟨by simp, fun hwf => ?_⟩
  simp (config := {contextual := true, implicitDefEqProofs := false, maxSteps := 2000000}) [-Int.not_le, -Int.not_lt, argsF, impl_isMail_c]
  have e : isMa x = (inR x.frm 0 9 && (inR x.to 0 9 && (decide (x.frm ≠ x.to) && (inR x.leave 0 (IntKind.i64.wrap (x.arrive - 1)) && inR x.arrive 0 9999)))) := by
    rw [minus_ok]; rfl
  rw [e] at h
  repeat' (refine ite_i (fun _ => ?_) (fun _ => ?_))
  all_goals ((refine Out.plain hwf ?_ rfl ?_; (repeat first | exact Sub.refl _ | refine Sub.push hwf ?_ _ | refine Sub.set hwf ?_ (by first | exact Nat.le_refl _ | omega | (simp only [push_n, set_n, kill_n]; omega)) _ | refine Sub.kill hwf ?_ (by first | exact Nat.le_refl _ | omega | (simp only [push_n, set_n, kill_n]; omega)))); simp_all)

theorem spec_l9One_s : Sound Try.prog 123 q_isMa := by
  intro args H K h
  unfold q_isMa at h
  split at h
  rotate_left
  all_goals first | exact False.elim h | skip
  rename_i x_e
  have h1 := onv_iff.1 h
  clear h
  obtain ⟨x, hd_x, h⟩ := h1
  obtain rfl := eMa.cd _ _ hd_x
  clear hd_x
  have hE := soundE_cons spec_l9Office_s (soundE_cons spec_l1In_s (soundE_cons spec_l9Minute_s (soundE_nil (P := Try.prog))))
  refine acalls_fn spec_l9One_k hE ⟨by simp, fun hwf => ?_⟩
  simp (config := {contextual := true, implicitDefEqProofs := false, maxSteps := 2000000}) [-Int.not_le, -Int.not_lt, argsF, spec_l9One_c]
  have e : isMa x = (inR x.frm 0 9 && (inR x.to 0 9 && (decide (x.frm ≠ x.to) && (inR x.arrive 0 9999 && inR x.leave 0 (IntKind.i64.wrap (x.arrive - 1)))))) := by
    rw [Bool.and_comm (inR x.arrive 0 9999), minus_ok]; rfl
  rw [e] at h
  repeat' (refine ite_i (fun _ => ?_) (fun _ => ?_))
  all_goals ((refine Out.plain hwf ?_ rfl ?_; (repeat first | exact Sub.refl _ | refine Sub.push hwf ?_ _ | refine Sub.set hwf ?_ (by first | exact Nat.le_refl _ | omega | (simp only [push_n, set_n, kill_n]; omega)) _ | refine Sub.kill hwf ?_ (by first | exact Nat.le_refl _ | omega | (simp only [push_n, set_n, kill_n]; omega)))); simp_all)

def q_codeMa : Con := fun args H K => match args with
  | [.agg x_e] => onv (eMa.dec x_e) fun x => K (.c (.int .i64 (codeMw x))) H
  | _ => False
@[simp ↓] theorem q_codeMa_eq (x_e : List AC) (H : AHeap) (K : AV → AHeap → Prop) : q_codeMa [.agg x_e] H K = (onv (eMa.dec x_e) fun x => K (.c (.int .i64 (codeMw x))) H) := rfl

theorem spec_l9Code_s : Sound Try.prog 124 q_codeMa := by
  intro args H K h
  unfold q_codeMa at h
  split at h
  rotate_left
  all_goals first | exact False.elim h | skip
  rename_i x_e
  have h1 := onv_iff.1 h
  clear h
  obtain ⟨x, hd_x, h⟩ := h1
  obtain rfl := eMa.cd _ _ hd_x
  clear hd_x
  have hE := soundE_nil (P := Try.prog)
  refine acalls_fn spec_l9Code_k hE ⟨by simp, fun hwf => ?_⟩
  simp (config := {contextual := true, implicitDefEqProofs := false, maxSteps := 60000}) [-Int.not_le, -Int.not_lt, argsF, spec_l9Code_c]
  (refine Out.plain hwf ?_ rfl ?_; (repeat first | exact Sub.refl _ | refine Sub.push hwf ?_ _ | refine Sub.set hwf ?_ (by first | exact Nat.le_refl _ | omega | (simp only [push_n, set_n, kill_n]; omega)) _ | refine Sub.kill hwf ?_ (by first | exact Nat.le_refl _ | omega | (simp only [push_n, set_n, kill_n]; omega)))); exact h

def q_areMa : Con := fun args H K => match args with
  | [ps_v] => eMa.rd H (fun ps => K (.c (.bool (areMa ps))) H) ps_v
  | _ => False
@[simp ↓] theorem q_areMa_eq (ps_v : AV) (H : AHeap) (K : AV → AHeap → Prop) : q_areMa [ps_v] H K = (eMa.rd H (fun ps => K (.c (.bool (areMa ps))) H) ps_v) := rfl

theorem impl_isTimetable_s : Sound Try.prog 71 q_areMa := by
  intro args H K h
  unfold q_areMa at h
  split at h
  rotate_left
  all_goals first | exact False.elim h | skip
  rename_i ps_v
  have h1 := Enc.rd_at h
  clear h
  obtain ⟨b_ps, i_ps, k_ps, ps, rfl, hat_ps, h⟩ := h1
  have hE := soundE_cons impl_isMail_s (soundE_cons cmp_Compare_int_s (soundE_cons cmp_Or_int_s (soundE_nil (P := Try.prog))))
  refine acalls_fn impl_isTimetable_k hE ⟨by simp, fun hwf => ?_⟩
  have hb_ps : b_ps < H.n := (hwf b_ps k_ps hat_ps.blk).1
  have hne_ps : (b_ps = H.n) = False := eq_false (by omega)
  have hne1_ps : ∀ i, (b_ps = H.n + i) = False := fun i => eq_false (by omega)
  have hne2_ps : (b_ps = H.n + 1 + 1) = False ∧ (b_ps = H.n + 1 + 1 + 1) = False ∧ (b_ps = H.n + 1 + 1 + 1 + 1) = False ∧ (b_ps = H.n + 1 + 1 + 1 + 1 + 1) = False ∧ (b_ps = H.n + 1 + 1 + 1 + 1 + 1 + 1) = False ∧ (b_ps = H.n + 1 + 1 + 1 + 1 + 1 + 1 + 1) = False ∧ (b_ps = H.n + 1 + 1 + 1 + 1 + 1 + 1 + 1 + 1) = False ∧ (b_ps = H.n + 1 + 1 + 1 + 1 + 1 + 1 + 1 + 1 + 1) = False ∧ (b_ps = H.n + 1 + 1 + 1 + 1 + 1 + 1 + 1 + 1 + 1 + 1) = False ∧ (b_ps = H.n + 1 + 1 + 1 + 1 + 1 + 1 + 1 + 1 + 1 + 1 + 1) = False ∧ (b_ps = H.n + 1 + 1 + 1 + 1 + 1 + 1 + 1 + 1 + 1 + 1 + 1 + 1) = False := ⟨eq_false (by omega), eq_false (by omega), eq_false (by omega), eq_false (by omega), eq_false (by omega), eq_false (by omega), eq_false (by omega), eq_false (by omega), eq_false (by omega), eq_false (by omega), eq_false (by omega)⟩
  have hmx_ps : ps.length ≤ 9223372036854775807 := by have h1 := (hwf b_ps k_ps hat_ps.blk).2.2; have h2 := hat_ps.len; omega
  simp (config := {contextual := true, implicitDefEqProofs := false, maxSteps := 60000}) [-Int.not_le, -Int.not_lt, argsF, impl_isTimetable_c, hat_ps.blk, hat_ps.esz, hat_ps.len, hat_ps.els, hne_ps, hne1_ps, hne2_ps.1, hne2_ps.2.1, hne2_ps.2.2.1, hne2_ps.2.2.2.1, hne2_ps.2.2.2.2.1, hne2_ps.2.2.2.2.2.1, hne2_ps.2.2.2.2.2.2.1, hne2_ps.2.2.2.2.2.2.2.1, hne2_ps.2.2.2.2.2.2.2.2.1, hne2_ps.2.2.2.2.2.2.2.2.2.1, hne2_ps.2.2.2.2.2.2.2.2.2.2]
  refine aloop_list ps (fun j _ => [(0, .c (.sl b_ps i_ps ps.length)), (6, .c (.sl b_ps i_ps ps.length)), (7, .c (.int .i64 ps.length)), (8, .c (.int .i64 (j)))]) (fun j _ => H) (fun j l _ => (∀ p, prevOf ps j = some p → isMa p = true) ∧ K (.c (.bool (maGo (prevOf ps j) l && decide (ps.length ≤ 20)))) H) hE _ () (⟨fun p hp => (by cases hp), by exact h⟩) (.same hwf (by simp [frOk, AV.okR, AV.ok1, AC.okR, AV.ren, AV.ren1, AC.ren, AFrame.get, pl1_old, *]; first | done | rfl | omega)) (fun j _ hlt hi => ?_) fun _ hi => ?_
  ·
    obtain ⟨hs, hi⟩ := hi
    have hpn := prevOf_succ hlt
    cases j with
    | zero =>
      have e1 := hat_ps.get hlt
      rw [Nat.add_zero] at e1
      have h0i : (0 : Int) < (ps.length : Int) := by omega
      simp (config := {contextual := true, implicitDefEqProofs := false, maxSteps := 60000}) [-Int.not_le, -Int.not_lt, argsF, impl_isTimetable_l0, hat_ps.blk, hat_ps.esz, hat_ps.len, hat_ps.els, hne_ps, hne1_ps, hne2_ps.1, hne2_ps.2.1, hne2_ps.2.2.1, hne2_ps.2.2.2.1, hne2_ps.2.2.2.2.1, hne2_ps.2.2.2.2.2.1, hne2_ps.2.2.2.2.2.2.1, hne2_ps.2.2.2.2.2.2.2.1, hne2_ps.2.2.2.2.2.2.2.2.1, hne2_ps.2.2.2.2.2.2.2.2.2.1, hne2_ps.2.2.2.2.2.2.2.2.2.2, e1, hlt, h0i, wrap_1]
      simp only [prevOf_0, maGo, decide_eq_true_eq] at hi
      try simp only [ite_not]
      repeat' split
      all_goals try simp only [*, if_true, if_false, reduceCtorEq, Bool.true_and, Bool.false_and, Bool.and_false, Bool.and_true, and_self, and_true, true_and, and_false, false_and, not_true_eq_false, not_false_eq_true] at hi
      all_goals first | ((refine Out.plain hwf ?_ rfl ?_; (repeat first | exact Sub.refl _ | refine Sub.push hwf ?_ _ | refine Sub.set hwf ?_ (by first | exact Nat.le_refl _ | omega | (simp only [push_n, set_n, kill_n]; omega)) _ | refine Sub.kill hwf ?_ (by first | exact Nat.le_refl _ | omega | (simp only [push_n, set_n, kill_n]; omega)))); exact hi) | exact ⟨(), ⟨fun p hp => (by rw [hpn] at hp; cases hp; assumption), by rw [hpn]; exact hi⟩, .drop hwf (by (repeat first | exact Sub.refl _ | refine Sub.push hwf ?_ _ | refine Sub.set hwf ?_ (by first | exact Nat.le_refl _ | omega | (simp only [push_n, set_n, kill_n]; omega)) _ | refine Sub.kill hwf ?_ (by first | exact Nat.le_refl _ | omega | (simp only [push_n, set_n, kill_n]; omega)))) (by simp [frOk, AV.okR, AV.ok1, AC.okR, AV.ren, AV.ren1, AC.ren, AFrame.get, pl1_old, *]; first | done | rfl | omega)⟩ | ((refine Out.plain hwf ?_ rfl ?_; (repeat first | exact Sub.refl _ | refine Sub.push hwf ?_ _ | refine Sub.set hwf ?_ (by first | exact Nat.le_refl _ | omega | (simp only [push_n, set_n, kill_n]; omega)) _ | refine Sub.kill hwf ?_ (by first | exact Nat.le_refl _ | omega | (simp only [push_n, set_n, kill_n]; omega)))); simpa using hi)
    | succ j =>
      have hj := Nat.lt_of_succ_lt hlt
      have e1 := hat_ps.get hlt
      have e0 := hat_ps.get hj
      have hpp := prevOf_succ hj
      rw [hpp] at hi
      try rw [hpp] at hs
      have hj1 : (j : Int) + 1 < (ps.length : Int) := by omega
      have hj2 : (j : Int) < (ps.length : Int) := by omega
      have hj3 : (0 : Int) ≤ (j : Int) + 1 := by omega
      have hj4 : (0 : Int) < (j : Int) + 1 := by omega
      have ej : ((j : Int) + 1).toNat = j + 1 := by omega
      have w0 : IntKind.i64.wrap (j : Int) = (j : Int) := wrap_id (by omega) (by omega)
      have w1 : IntKind.i64.wrap ((j : Int) + 1 + 1) = (j : Int) + 1 + 1 := wrap_id (by omega) (by omega)
      have hj5 : ((j : Int) + 1 = 0) = False := eq_false (by omega)
      simp (config := {contextual := true, implicitDefEqProofs := false, maxSteps := 60000}) [-Int.not_le, -Int.not_lt, argsF, impl_isTimetable_l0, hat_ps.blk, hat_ps.esz, hat_ps.len, hat_ps.els, hne_ps, hne1_ps, hne2_ps.1, hne2_ps.2.1, hne2_ps.2.2.1, hne2_ps.2.2.2.1, hne2_ps.2.2.2.2.1, hne2_ps.2.2.2.2.2.1, hne2_ps.2.2.2.2.2.2.1, hne2_ps.2.2.2.2.2.2.2.1, hne2_ps.2.2.2.2.2.2.2.2.1, hne2_ps.2.2.2.2.2.2.2.2.2.1, hne2_ps.2.2.2.2.2.2.2.2.2.2, e1, e0, hlt, hj, hj1, hj2, hj3, hj4, ej, w0, w1, hj5]
      by_cases hx : isMa ps[j + 1] = true
      rotate_left
      · simp only [maGo, hx, if_false, if_true, reduceCtorEq, Bool.false_and] at hi ⊢
        (refine Out.plain hwf ?_ rfl ?_; (repeat first | exact Sub.refl _ | refine Sub.push hwf ?_ _ | refine Sub.set hwf ?_ (by first | exact Nat.le_refl _ | omega | (simp only [push_n, set_n, kill_n]; omega)) _ | refine Sub.kill hwf ?_ (by first | exact Nat.le_refl _ | omega | (simp only [push_n, set_n, kill_n]; omega)))); exact hi
      have hp := hs _ rfl
      simp only [maGo, hx, if_true] at hi ⊢
      have hV := ma_or hp hx
      generalize orI [cmpI ps[j].leave ps[j + 1].leave, cmpI ps[j].frm ps[j + 1].frm, cmpI ps[j].to ps[j + 1].to, cmpI ps[j].arrive ps[j + 1].arrive] = V at hV ⊢
      cases hk : decide (codeMa ps[j] < codeMa ps[j + 1])
      · simp only [hk, if_false, reduceCtorEq, Bool.false_and] at hi
        have hV' : ¬ (V < 0) := fun h0 => by rw [hV.2 h0] at hk; cases hk
        repeat' (refine ite_i (fun _ => ?_) (fun _ => ?_))
        all_goals first | (exfalso; omega) | ((refine Out.plain hwf ?_ rfl ?_; (repeat first | exact Sub.refl _ | refine Sub.push hwf ?_ _ | refine Sub.set hwf ?_ (by first | exact Nat.le_refl _ | omega | (simp only [push_n, set_n, kill_n]; omega)) _ | refine Sub.kill hwf ?_ (by first | exact Nat.le_refl _ | omega | (simp only [push_n, set_n, kill_n]; omega)))); exact hi)
      · simp only [hk, if_true] at hi
        have hV' := hV.1 hk
        repeat' (refine ite_i (fun _ => ?_) (fun _ => ?_))
        all_goals first | (exfalso; omega) | exact ⟨(), ⟨fun p hp => (by rw [hpn] at hp; cases hp; assumption), by rw [hpn]; exact hi⟩, .drop hwf (by (repeat first | exact Sub.refl _ | refine Sub.push hwf ?_ _ | refine Sub.set hwf ?_ (by first | exact Nat.le_refl _ | omega | (simp only [push_n, set_n, kill_n]; omega)) _ | refine Sub.kill hwf ?_ (by first | exact Nat.le_refl _ | omega | (simp only [push_n, set_n, kill_n]; omega)))) (by simp [frOk, AV.okR, AV.ok1, AC.okR, AV.ren, AV.ren1, AC.ren, AFrame.get, pl1_old, *]; first | done | rfl | omega)⟩
  ·
    obtain ⟨hs, hi⟩ := hi
    simp (config := {contextual := true, implicitDefEqProofs := false, maxSteps := 60000}) [-Int.not_le, -Int.not_lt, argsF, impl_isTimetable_l0]
    simp only [prevOf_0, maGo, decide_eq_true_eq] at hi
    rw [Bool.true_and] at hi
    (refine Out.plain hwf ?_ rfl ?_; (repeat first | exact Sub.refl _ | refine Sub.push hwf ?_ _ | refine Sub.set hwf ?_ (by first | exact Nat.le_refl _ | omega | (simp only [push_n, set_n, kill_n]; omega)) _ | refine Sub.kill hwf ?_ (by first | exact Nat.le_refl _ | omega | (simp only [push_n, set_n, kill_n]; omega))))
    have e : decide ((ps.length : Int) ≤ 20) = decide (ps.length ≤ 20) := by rw [decide_eq_decide]; omega
    rw [e]; exact hi

theorem spec_l9Good_s : Sound Try.prog 75 q_areMa := by
  intro args H K h
  unfold q_areMa at h
  split at h
  rotate_left
  all_goals first | exact False.elim h | skip
  rename_i ps_v
  have h1 := Enc.rd_at h
  clear h
  obtain ⟨b_ps, i_ps, k_ps, ps, rfl, hat_ps, h⟩ := h1
  have hE := soundE_cons spec_l9One_s (soundE_cons spec_l9Code_s (soundE_nil (P := Try.prog)))
  refine acalls_fn spec_l9Good_k hE ⟨by simp, fun hwf => ?_⟩
  have hb_ps : b_ps < H.n := (hwf b_ps k_ps hat_ps.blk).1
  have hne_ps : (b_ps = H.n) = False := eq_false (by omega)
  have hne1_ps : ∀ i, (b_ps = H.n + i) = False := fun i => eq_false (by omega)
  have hne2_ps : (b_ps = H.n + 1 + 1) = False ∧ (b_ps = H.n + 1 + 1 + 1) = False ∧ (b_ps = H.n + 1 + 1 + 1 + 1) = False ∧ (b_ps = H.n + 1 + 1 + 1 + 1 + 1) = False ∧ (b_ps = H.n + 1 + 1 + 1 + 1 + 1 + 1) = False ∧ (b_ps = H.n + 1 + 1 + 1 + 1 + 1 + 1 + 1) = False ∧ (b_ps = H.n + 1 + 1 + 1 + 1 + 1 + 1 + 1 + 1) = False ∧ (b_ps = H.n + 1 + 1 + 1 + 1 + 1 + 1 + 1 + 1 + 1) = False ∧ (b_ps = H.n + 1 + 1 + 1 + 1 + 1 + 1 + 1 + 1 + 1 + 1) = False ∧ (b_ps = H.n + 1 + 1 + 1 + 1 + 1 + 1 + 1 + 1 + 1 + 1 + 1) = False ∧ (b_ps = H.n + 1 + 1 + 1 + 1 + 1 + 1 + 1 + 1 + 1 + 1 + 1 + 1) = False := ⟨eq_false (by omega), eq_false (by omega), eq_false (by omega), eq_false (by omega), eq_false (by omega), eq_false (by omega), eq_false (by omega), eq_false (by omega), eq_false (by omega), eq_false (by omega), eq_false (by omega)⟩
  have hmx_ps : ps.length ≤ 9223372036854775807 := by have h1 := (hwf b_ps k_ps hat_ps.blk).2.2; have h2 := hat_ps.len; omega
  simp (config := {contextual := true, implicitDefEqProofs := false, maxSteps := 60000}) [-Int.not_le, -Int.not_lt, argsF, spec_l9Good_c, hat_ps.blk, hat_ps.esz, hat_ps.len, hat_ps.els, hne_ps, hne1_ps, hne2_ps.1, hne2_ps.2.1, hne2_ps.2.2.1, hne2_ps.2.2.2.1, hne2_ps.2.2.2.2.1, hne2_ps.2.2.2.2.2.1, hne2_ps.2.2.2.2.2.2.1, hne2_ps.2.2.2.2.2.2.2.1, hne2_ps.2.2.2.2.2.2.2.2.1, hne2_ps.2.2.2.2.2.2.2.2.2.1, hne2_ps.2.2.2.2.2.2.2.2.2.2]
  refine aloop_list ps (fun j _ => [(0, .c (.sl b_ps i_ps ps.length)), (3, .c (.int .i64 (j)))]) (fun j _ => H) (fun j l _ => (∀ p, prevOf ps j = some p → isMa p = true) ∧ K (.c (.bool (maGo (prevOf ps j) l && decide (ps.length ≤ 20)))) H) hE _ () (⟨fun p hp => (by cases hp), by exact h⟩) (.same hwf (by simp [frOk, AV.okR, AV.ok1, AC.okR, AV.ren, AV.ren1, AC.ren, AFrame.get, pl1_old, *]; first | done | rfl | omega)) (fun j _ hlt hi => ?_) fun _ hi => ?_
  ·
    obtain ⟨hs, hi⟩ := hi
    have hpn := prevOf_succ hlt
    cases j with
    | zero =>
      have e1 := hat_ps.get hlt
      rw [Nat.add_zero] at e1
      have h0i : (0 : Int) < (ps.length : Int) := by omega
      simp (config := {contextual := true, implicitDefEqProofs := false, maxSteps := 60000}) [-Int.not_le, -Int.not_lt, argsF, spec_l9Good_l0, hat_ps.blk, hat_ps.esz, hat_ps.len, hat_ps.els, hne_ps, hne1_ps, hne2_ps.1, hne2_ps.2.1, hne2_ps.2.2.1, hne2_ps.2.2.2.1, hne2_ps.2.2.2.2.1, hne2_ps.2.2.2.2.2.1, hne2_ps.2.2.2.2.2.2.1, hne2_ps.2.2.2.2.2.2.2.1, hne2_ps.2.2.2.2.2.2.2.2.1, hne2_ps.2.2.2.2.2.2.2.2.2.1, hne2_ps.2.2.2.2.2.2.2.2.2.2, e1, hlt, h0i, wrap_1]
      simp only [prevOf_0, maGo, decide_eq_true_eq] at hi
      try simp only [ite_not]
      repeat' split
      all_goals try simp only [*, if_true, if_false, reduceCtorEq, Bool.true_and, Bool.false_and, Bool.and_false, Bool.and_true, and_self, and_true, true_and, and_false, false_and, not_true_eq_false, not_false_eq_true] at hi
      all_goals first | ((refine Out.plain hwf ?_ rfl ?_; (repeat first | exact Sub.refl _ | refine Sub.push hwf ?_ _ | refine Sub.set hwf ?_ (by first | exact Nat.le_refl _ | omega | (simp only [push_n, set_n, kill_n]; omega)) _ | refine Sub.kill hwf ?_ (by first | exact Nat.le_refl _ | omega | (simp only [push_n, set_n, kill_n]; omega)))); exact hi) | exact ⟨(), ⟨fun p hp => (by rw [hpn] at hp; cases hp; assumption), by rw [hpn]; exact hi⟩, .drop hwf (by (repeat first | exact Sub.refl _ | refine Sub.push hwf ?_ _ | refine Sub.set hwf ?_ (by first | exact Nat.le_refl _ | omega | (simp only [push_n, set_n, kill_n]; omega)) _ | refine Sub.kill hwf ?_ (by first | exact Nat.le_refl _ | omega | (simp only [push_n, set_n, kill_n]; omega)))) (by simp [frOk, AV.okR, AV.ok1, AC.okR, AV.ren, AV.ren1, AC.ren, AFrame.get, pl1_old, *]; first | done | rfl | omega)⟩ | ((refine Out.plain hwf ?_ rfl ?_; (repeat first | exact Sub.refl _ | refine Sub.push hwf ?_ _ | refine Sub.set hwf ?_ (by first | exact Nat.le_refl _ | omega | (simp only [push_n, set_n, kill_n]; omega)) _ | refine Sub.kill hwf ?_ (by first | exact Nat.le_refl _ | omega | (simp only [push_n, set_n, kill_n]; omega)))); simpa using hi)
    | succ j =>
      have hj := Nat.lt_of_succ_lt hlt
      have e1 := hat_ps.get hlt
      have e0 := hat_ps.get hj
      have hpp := prevOf_succ hj
      rw [hpp] at hi
      try rw [hpp] at hs
      have hj1 : (j : Int) + 1 < (ps.length : Int) := by omega
      have hj2 : (j : Int) < (ps.length : Int) := by omega
      have hj3 : (0 : Int) ≤ (j : Int) + 1 := by omega
      have hj4 : (0 : Int) < (j : Int) + 1 := by omega
      have ej : ((j : Int) + 1).toNat = j + 1 := by omega
      have w0 : IntKind.i64.wrap (j : Int) = (j : Int) := wrap_id (by omega) (by omega)
      have w1 : IntKind.i64.wrap ((j : Int) + 1 + 1) = (j : Int) + 1 + 1 := wrap_id (by omega) (by omega)
      simp (config := {contextual := true, implicitDefEqProofs := false, maxSteps := 60000}) [-Int.not_le, -Int.not_lt, argsF, spec_l9Good_l0, hat_ps.blk, hat_ps.esz, hat_ps.len, hat_ps.els, hne_ps, hne1_ps, hne2_ps.1, hne2_ps.2.1, hne2_ps.2.2.1, hne2_ps.2.2.2.1, hne2_ps.2.2.2.2.1, hne2_ps.2.2.2.2.2.1, hne2_ps.2.2.2.2.2.2.1, hne2_ps.2.2.2.2.2.2.2.1, hne2_ps.2.2.2.2.2.2.2.2.1, hne2_ps.2.2.2.2.2.2.2.2.2.1, hne2_ps.2.2.2.2.2.2.2.2.2.2, e1, e0, hlt, hj, hj1, hj2, hj3, hj4, ej, w0, w1]
      by_cases hx : isMa ps[j + 1] = true
      rotate_left
      · simp only [maGo, hx, if_false, if_true, reduceCtorEq, Bool.false_and] at hi ⊢
        (refine Out.plain hwf ?_ rfl ?_; (repeat first | exact Sub.refl _ | refine Sub.push hwf ?_ _ | refine Sub.set hwf ?_ (by first | exact Nat.le_refl _ | omega | (simp only [push_n, set_n, kill_n]; omega)) _ | refine Sub.kill hwf ?_ (by first | exact Nat.le_refl _ | omega | (simp only [push_n, set_n, kill_n]; omega)))); exact hi
      have hp := hs _ rfl
      simp only [maGo, hx, if_true] at hi ⊢
      have hc1 := codeMw_eq hp
      have hc2 := codeMw_eq hx
      have hV : decide (codeMa ps[j] < codeMa ps[j + 1]) = true ↔ codeMw ps[j] < codeMw ps[j + 1] := by rw [decide_eq_true_eq, hc1, hc2]
      cases hk : decide (codeMa ps[j] < codeMa ps[j + 1])
      · simp only [hk, if_false, reduceCtorEq, Bool.false_and] at hi
        have hV' : ¬ (codeMw ps[j] < codeMw ps[j + 1]) := fun h0 => by rw [hV.2 h0] at hk; cases hk
        repeat' (refine ite_i (fun _ => ?_) (fun _ => ?_))
        all_goals first | (exfalso; omega) | ((refine Out.plain hwf ?_ rfl ?_; (repeat first | exact Sub.refl _ | refine Sub.push hwf ?_ _ | refine Sub.set hwf ?_ (by first | exact Nat.le_refl _ | omega | (simp only [push_n, set_n, kill_n]; omega)) _ | refine Sub.kill hwf ?_ (by first | exact Nat.le_refl _ | omega | (simp only [push_n, set_n, kill_n]; omega)))); exact hi)
      · simp only [hk, if_true] at hi
        have hV' := hV.1 hk
        repeat' (refine ite_i (fun _ => ?_) (fun _ => ?_))
        all_goals first | (exfalso; omega) | exact ⟨(), ⟨fun p hp => (by rw [hpn] at hp; cases hp; assumption), by rw [hpn]; exact hi⟩, .drop hwf (by (repeat first | exact Sub.refl _ | refine Sub.push hwf ?_ _ | refine Sub.set hwf ?_ (by first | exact Nat.le_refl _ | omega | (simp only [push_n, set_n, kill_n]; omega)) _ | refine Sub.kill hwf ?_ (by first | exact Nat.le_refl _ | omega | (simp only [push_n, set_n, kill_n]; omega)))) (by simp [frOk, AV.okR, AV.ok1, AC.okR, AV.ren, AV.ren1, AC.ren, AFrame.get, pl1_old, *]; first | done | rfl | omega)⟩
  ·
    obtain ⟨hs, hi⟩ := hi
    simp (config := {contextual := true, implicitDefEqProofs := false, maxSteps := 60000}) [-Int.not_le, -Int.not_lt, argsF, spec_l9Good_l0]
    simp only [prevOf_0, maGo, decide_eq_true_eq] at hi
    rw [Bool.true_and] at hi
    (refine Out.plain hwf ?_ rfl ?_; (repeat first | exact Sub.refl _ | refine Sub.push hwf ?_ _ | refine Sub.set hwf ?_ (by first | exact Nat.le_refl _ | omega | (simp only [push_n, set_n, kill_n]; omega)) _ | refine Sub.kill hwf ?_ (by first | exact Nat.le_refl _ | omega | (simp only [push_n, set_n, kill_n]; omega))))
    have e : decide ((ps.length : Int) ≤ 20) = decide (ps.length ≤ 20) := by rw [decide_eq_decide]; omega
    rw [e]; exact hi

end Go.Proofs.Ytjiffkjeijfilaa
