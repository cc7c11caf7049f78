/- Where a route ends. -/
import Derived.Test.YtjiffkjeijfilaaCvD
set_option maxRecDepth 8000
set_option linter.unusedSimpArgs false
set_option linter.unusedVariables false
namespace Go.Proofs.Ytjiffkjeijfilaa
open Go Go.RowKit

set_option maxHeartbeats 4000000

def erGo (ms : List Ma) : List Int → Int → Int → Int × Int × Bool
  | [], f, m => (f, m, true)
  | i :: r, f, m => if inR i 0 ((ms.length : Int) - 1) = true then (match ms[i.toNat]? with
    | some x => if x.frm = f then if m ≤ x.leave then erGo ms r x.to x.arrive else (0, 0, false) else (0, 0, false)
    | none => (0, 0, false)) else (0, 0, false)

def q_eor : Con := fun args H K => match args with
  | [ms_v, .c (.int .i64 f), .c (.int .i64 m), ps_v] => eMa.rd H (fun ms => eI.rd H (fun ps => K (.tup [.c (.int .i64 ((erGo ms ps f m).1)), .c (.int .i64 ((erGo ms ps f m).2.1)), .c (.bool ((erGo ms ps f m).2.2))]) H) ps_v) ms_v
  | _ => False
@[simp ↓] theorem q_eor_eq (ms_v : AV) (f : Int) (m : Int) (ps_v : AV) (H : AHeap) (K : AV → AHeap → Prop) : q_eor [ms_v, .c (.int .i64 f), .c (.int .i64 m), ps_v] H K = (eMa.rd H (fun ms => eI.rd H (fun ps => K (.tup [.c (.int .i64 ((erGo ms ps f m).1)), .c (.int .i64 ((erGo ms ps f m).2.1)), .c (.bool ((erGo ms ps f m).2.2))]) H) ps_v) ms_v) := rfl

theorem impl_endOfRoute_s : Sound Try.prog 85 q_eor := by
  intro args H K h
  unfold q_eor at h
  split at h
  rotate_left
  all_goals first | exact False.elim h | skip
  rename_i ms_v f m ps_v
  have h1 := Enc.rd_at h
  clear h
  obtain ⟨b_ms, i_ms, k_ms, ms, rfl, hat_ms, h⟩ := h1
  have h1 := Enc.rd_at h
  clear h
  obtain ⟨b_ps, i_ps, k_ps, ps, rfl, hat_ps, h⟩ := h1
  have hE := soundE_cons impl_inRange_s (soundE_nil (P := Try.prog))
  refine acalls_fn impl_endOfRoute_k hE ⟨by simp, fun hwf => ?_⟩
  have hb_ms : b_ms < H.n := (hwf b_ms k_ms hat_ms.blk).1
  have hne_ms : (b_ms = H.n) = False := eq_false (by omega)
  have hne1_ms : ∀ i, (b_ms = H.n + i) = False := fun i => eq_false (by omega)
  have hne2_ms : (b_ms = H.n + 1 + 1) = False ∧ (b_ms = H.n + 1 + 1 + 1) = False ∧ (b_ms = H.n + 1 + 1 + 1 + 1) = False ∧ (b_ms = H.n + 1 + 1 + 1 + 1 + 1) = False ∧ (b_ms = H.n + 1 + 1 + 1 + 1 + 1 + 1) = False ∧ (b_ms = H.n + 1 + 1 + 1 + 1 + 1 + 1 + 1) = False ∧ (b_ms = H.n + 1 + 1 + 1 + 1 + 1 + 1 + 1 + 1) = False ∧ (b_ms = H.n + 1 + 1 + 1 + 1 + 1 + 1 + 1 + 1 + 1) = False ∧ (b_ms = H.n + 1 + 1 + 1 + 1 + 1 + 1 + 1 + 1 + 1 + 1) = False ∧ (b_ms = H.n + 1 + 1 + 1 + 1 + 1 + 1 + 1 + 1 + 1 + 1 + 1) = False ∧ (b_ms = H.n + 1 + 1 + 1 + 1 + 1 + 1 + 1 + 1 + 1 + 1 + 1 + 1) = False := ⟨eq_false (by omega), eq_false (by omega), eq_false (by omega), eq_false (by omega), eq_false (by omega), eq_false (by omega), eq_false (by omega), eq_false (by omega), eq_false (by omega), eq_false (by omega), eq_false (by omega)⟩
  have hmx_ms : ms.length ≤ 9223372036854775807 := by have h1 := (hwf b_ms k_ms hat_ms.blk).2.2; have h2 := hat_ms.len; omega
  have hb_ps : b_ps < H.n := (hwf b_ps k_ps hat_ps.blk).1
  have hne_ps : (b_ps = H.n) = False := eq_false (by omega)
  have hne1_ps : ∀ i, (b_ps = H.n + i) = False := fun i => eq_false (by omega)
  have hne2_ps : (b_ps = H.n + 1 + 1) = False ∧ (b_ps = H.n + 1 + 1 + 1) = False ∧ (b_ps = H.n + 1 + 1 + 1 + 1) = False ∧ (b_ps = H.n + 1 + 1 + 1 + 1 + 1) = False ∧ (b_ps = H.n + 1 + 1 + 1 + 1 + 1 + 1) = False ∧ (b_ps = H.n + 1 + 1 + 1 + 1 + 1 + 1 + 1) = False ∧ (b_ps = H.n + 1 + 1 + 1 + 1 + 1 + 1 + 1 + 1) = False ∧ (b_ps = H.n + 1 + 1 + 1 + 1 + 1 + 1 + 1 + 1 + 1) = False ∧ (b_ps = H.n + 1 + 1 + 1 + 1 + 1 + 1 + 1 + 1 + 1 + 1) = False ∧ (b_ps = H.n + 1 + 1 + 1 + 1 + 1 + 1 + 1 + 1 + 1 + 1 + 1) = False ∧ (b_ps = H.n + 1 + 1 + 1 + 1 + 1 + 1 + 1 + 1 + 1 + 1 + 1 + 1) = False := ⟨eq_false (by omega), eq_false (by omega), eq_false (by omega), eq_false (by omega), eq_false (by omega), eq_false (by omega), eq_false (by omega), eq_false (by omega), eq_false (by omega), eq_false (by omega), eq_false (by omega)⟩
  have hmx_ps : ps.length ≤ 9223372036854775807 := by have h1 := (hwf b_ps k_ps hat_ps.blk).2.2; have h2 := hat_ps.len; omega
  have w0 : IntKind.i64.wrap ((ms.length : Int) - 1) = (ms.length : Int) - 1 := wrap_id (by omega) (by omega)
  simp (config := {contextual := true, implicitDefEqProofs := false, maxSteps := 2000000}) [-Int.not_le, -Int.not_lt, argsF, impl_endOfRoute_c, hat_ms.blk, hat_ms.esz, hat_ms.len, hat_ms.els, hne_ms, hne1_ms, hne2_ms.1, hne2_ms.2.1, hne2_ms.2.2.1, hne2_ms.2.2.2.1, hne2_ms.2.2.2.2.1, hne2_ms.2.2.2.2.2.1, hne2_ms.2.2.2.2.2.2.1, hne2_ms.2.2.2.2.2.2.2.1, hne2_ms.2.2.2.2.2.2.2.2.1, hne2_ms.2.2.2.2.2.2.2.2.2.1, hne2_ms.2.2.2.2.2.2.2.2.2.2, hat_ps.blk, hat_ps.esz, hat_ps.len, hat_ps.els, hne_ps, hne1_ps, hne2_ps.1, hne2_ps.2.1, hne2_ps.2.2.1, hne2_ps.2.2.2.1, hne2_ps.2.2.2.2.1, hne2_ps.2.2.2.2.2.1, hne2_ps.2.2.2.2.2.2.1, hne2_ps.2.2.2.2.2.2.2.1, hne2_ps.2.2.2.2.2.2.2.2.1, hne2_ps.2.2.2.2.2.2.2.2.2.1, hne2_ps.2.2.2.2.2.2.2.2.2.2]
  refine aloop_list2 ps (fun j (a b : Int) => [(0, .c (.sl b_ms i_ms ms.length)), (1, .c (.int .i64 (a))), (2, .c (.int .i64 (b))), (13, .c (.sl b_ps i_ps ps.length)), (14, .c (.int .i64 ps.length)), (15, .c (.int .i64 ((j : Int))))]) (fun j _ _ => H) (fun j l a b => K (.tup [.c (.int .i64 ((erGo ms l a b).1)), .c (.int .i64 ((erGo ms l a b).2.1)), .c (.bool ((erGo ms l a b).2.2))]) H) hE _ f m h (.same hwf (by simp [frOk, AV.okR, AV.ok1, AC.okR, AV.ren, AV.ren1, AC.ren, AFrame.get, pl1_old, *]; first | done | rfl | omega)) (fun j a b hlt hi => ?_) fun a b hi => ?_
  · have hj1 := idx_lt hlt
    have e1 := hat_ps.get hlt
    have w1 : IntKind.i64.wrap ((j : Int) + 1) = (j : Int) + 1 := wrap_id (by omega) (by omega)
    by_cases c1 : inR ps[j] 0 ((ms.length : Int) - 1) = true
    rotate_left
    · have c1' : inR ps[j] 0 ((ms.length : Int) - 1) = false := by simpa using c1
      simp only [erGo, if_neg c1] at hi
      simp (config := {contextual := true, implicitDefEqProofs := false, maxSteps := 2000000}) [-Int.not_le, -Int.not_lt, argsF, impl_endOfRoute_l0, hat_ms.blk, hat_ms.esz, hat_ms.len, hat_ms.els, hne_ms, hne1_ms, hne2_ms.1, hne2_ms.2.1, hne2_ms.2.2.1, hne2_ms.2.2.2.1, hne2_ms.2.2.2.2.1, hne2_ms.2.2.2.2.2.1, hne2_ms.2.2.2.2.2.2.1, hne2_ms.2.2.2.2.2.2.2.1, hne2_ms.2.2.2.2.2.2.2.2.1, hne2_ms.2.2.2.2.2.2.2.2.2.1, hne2_ms.2.2.2.2.2.2.2.2.2.2, hat_ps.blk, hat_ps.esz, hat_ps.len, hat_ps.els, hne_ps, hne1_ps, hne2_ps.1, hne2_ps.2.1, hne2_ps.2.2.1, hne2_ps.2.2.2.1, hne2_ps.2.2.2.2.1, hne2_ps.2.2.2.2.2.1, hne2_ps.2.2.2.2.2.2.1, hne2_ps.2.2.2.2.2.2.2.1, hne2_ps.2.2.2.2.2.2.2.2.1, hne2_ps.2.2.2.2.2.2.2.2.2.1, hne2_ps.2.2.2.2.2.2.2.2.2.2, hj1, e1, hlt, w0, w1, c1']
      (refine Out.plain hwf ?_ rfl ?_; (repeat first | exact Sub.refl _ | refine Sub.push hwf ?_ _ | refine Sub.set hwf ?_ (by first | exact Nat.le_refl _ | omega | (simp only [push_n, set_n, kill_n]; omega)) _ | refine Sub.kill hwf ?_ (by first | exact Nat.le_refl _ | omega | (simp only [push_n, set_n, kill_n]; omega)))); exact hi
    have c2 := c1
    simp only [inR, decide_eq_true_eq] at c2
    have i1 : ps[j] < (ms.length : Int) := by omega
    have il : (ps[j]).toNat < ms.length := by omega
    have e2 := hat_ms.get il
    have eq : ms[(ps[j]).toNat]? = some (ms[(ps[j]).toNat]'il) := List.getElem?_eq_getElem il
    simp only [erGo, if_pos c1, eq] at hi
    by_cases c3 : (ms[(ps[j]).toNat]'il).frm = a
    rotate_left
    · rw [if_neg c3] at hi
      simp (config := {contextual := true, implicitDefEqProofs := false, maxSteps := 2000000}) [-Int.not_le, -Int.not_lt, argsF, impl_endOfRoute_l0, hat_ms.blk, hat_ms.esz, hat_ms.len, hat_ms.els, hne_ms, hne1_ms, hne2_ms.1, hne2_ms.2.1, hne2_ms.2.2.1, hne2_ms.2.2.2.1, hne2_ms.2.2.2.2.1, hne2_ms.2.2.2.2.2.1, hne2_ms.2.2.2.2.2.2.1, hne2_ms.2.2.2.2.2.2.2.1, hne2_ms.2.2.2.2.2.2.2.2.1, hne2_ms.2.2.2.2.2.2.2.2.2.1, hne2_ms.2.2.2.2.2.2.2.2.2.2, hat_ps.blk, hat_ps.esz, hat_ps.len, hat_ps.els, hne_ps, hne1_ps, hne2_ps.1, hne2_ps.2.1, hne2_ps.2.2.1, hne2_ps.2.2.2.1, hne2_ps.2.2.2.2.1, hne2_ps.2.2.2.2.2.1, hne2_ps.2.2.2.2.2.2.1, hne2_ps.2.2.2.2.2.2.2.1, hne2_ps.2.2.2.2.2.2.2.2.1, hne2_ps.2.2.2.2.2.2.2.2.2.1, hne2_ps.2.2.2.2.2.2.2.2.2.2, hj1, e1, hlt, w0, w1, c1, c2.1, i1, il, e2, c3]
      (refine Out.plain hwf ?_ rfl ?_; (repeat first | exact Sub.refl _ | refine Sub.push hwf ?_ _ | refine Sub.set hwf ?_ (by first | exact Nat.le_refl _ | omega | (simp only [push_n, set_n, kill_n]; omega)) _ | refine Sub.kill hwf ?_ (by first | exact Nat.le_refl _ | omega | (simp only [push_n, set_n, kill_n]; omega)))); exact hi
    rw [if_pos c3] at hi
    by_cases c4 : b ≤ (ms[(ps[j]).toNat]'il).leave
    rotate_left
    · rw [if_neg c4] at hi
      have c4' : (ms[(ps[j]).toNat]'il).leave < b := by omega
      simp (config := {contextual := true, implicitDefEqProofs := false, maxSteps := 2000000}) [-Int.not_le, -Int.not_lt, argsF, impl_endOfRoute_l0, hat_ms.blk, hat_ms.esz, hat_ms.len, hat_ms.els, hne_ms, hne1_ms, hne2_ms.1, hne2_ms.2.1, hne2_ms.2.2.1, hne2_ms.2.2.2.1, hne2_ms.2.2.2.2.1, hne2_ms.2.2.2.2.2.1, hne2_ms.2.2.2.2.2.2.1, hne2_ms.2.2.2.2.2.2.2.1, hne2_ms.2.2.2.2.2.2.2.2.1, hne2_ms.2.2.2.2.2.2.2.2.2.1, hne2_ms.2.2.2.2.2.2.2.2.2.2, hat_ps.blk, hat_ps.esz, hat_ps.len, hat_ps.els, hne_ps, hne1_ps, hne2_ps.1, hne2_ps.2.1, hne2_ps.2.2.1, hne2_ps.2.2.2.1, hne2_ps.2.2.2.2.1, hne2_ps.2.2.2.2.2.1, hne2_ps.2.2.2.2.2.2.1, hne2_ps.2.2.2.2.2.2.2.1, hne2_ps.2.2.2.2.2.2.2.2.1, hne2_ps.2.2.2.2.2.2.2.2.2.1, hne2_ps.2.2.2.2.2.2.2.2.2.2, hj1, e1, hlt, w0, w1, c1, c2.1, i1, il, e2, c3, c4']
      (refine Out.plain hwf ?_ rfl ?_; (repeat first | exact Sub.refl _ | refine Sub.push hwf ?_ _ | refine Sub.set hwf ?_ (by first | exact Nat.le_refl _ | omega | (simp only [push_n, set_n, kill_n]; omega)) _ | refine Sub.kill hwf ?_ (by first | exact Nat.le_refl _ | omega | (simp only [push_n, set_n, kill_n]; omega)))); exact hi
    rw [if_pos c4] at hi
    have c4' : ¬ (ms[(ps[j]).toNat]'il).leave < b := by omega
    simp (config := {contextual := true, implicitDefEqProofs := false, maxSteps := 2000000}) [-Int.not_le, -Int.not_lt, argsF, impl_endOfRoute_l0, hat_ms.blk, hat_ms.esz, hat_ms.len, hat_ms.els, hne_ms, hne1_ms, hne2_ms.1, hne2_ms.2.1, hne2_ms.2.2.1, hne2_ms.2.2.2.1, hne2_ms.2.2.2.2.1, hne2_ms.2.2.2.2.2.1, hne2_ms.2.2.2.2.2.2.1, hne2_ms.2.2.2.2.2.2.2.1, hne2_ms.2.2.2.2.2.2.2.2.1, hne2_ms.2.2.2.2.2.2.2.2.2.1, hne2_ms.2.2.2.2.2.2.2.2.2.2, hat_ps.blk, hat_ps.esz, hat_ps.len, hat_ps.els, hne_ps, hne1_ps, hne2_ps.1, hne2_ps.2.1, hne2_ps.2.2.1, hne2_ps.2.2.2.1, hne2_ps.2.2.2.2.1, hne2_ps.2.2.2.2.2.1, hne2_ps.2.2.2.2.2.2.1, hne2_ps.2.2.2.2.2.2.2.1, hne2_ps.2.2.2.2.2.2.2.2.1, hne2_ps.2.2.2.2.2.2.2.2.2.1, hne2_ps.2.2.2.2.2.2.2.2.2.2, hj1, e1, hlt, w0, w1, c1, c2.1, i1, il, e2, c3, c4']
    exact ⟨_, _, hi, .drop hwf (by (repeat first | exact Sub.refl _ | refine Sub.push hwf ?_ _ | refine Sub.set hwf ?_ (by first | exact Nat.le_refl _ | omega | (simp only [push_n, set_n, kill_n]; omega)) _ | refine Sub.kill hwf ?_ (by first | exact Nat.le_refl _ | omega | (simp only [push_n, set_n, kill_n]; omega)))) (by simp [frOk, AV.okR, AV.ok1, AC.okR, AV.ren, AV.ren1, AC.ren, AFrame.get, pl1_old, *]; first | done | rfl | omega)⟩
  · simp only [erGo] at hi
    simp (config := {contextual := true, implicitDefEqProofs := false, maxSteps := 2000000}) [-Int.not_le, -Int.not_lt, argsF, impl_endOfRoute_l0, hat_ps.blk, hat_ps.esz, hat_ps.len, hat_ps.els, hne_ps, hne1_ps, hne2_ps.1, hne2_ps.2.1, hne2_ps.2.2.1, hne2_ps.2.2.2.1, hne2_ps.2.2.2.2.1, hne2_ps.2.2.2.2.2.1, hne2_ps.2.2.2.2.2.2.1, hne2_ps.2.2.2.2.2.2.2.1, hne2_ps.2.2.2.2.2.2.2.2.1, hne2_ps.2.2.2.2.2.2.2.2.2.1, hne2_ps.2.2.2.2.2.2.2.2.2.2]
    (refine Out.plain hwf ?_ rfl ?_; (repeat first | exact Sub.refl _ | refine Sub.push hwf ?_ _ | refine Sub.set hwf ?_ (by first | exact Nat.le_refl _ | omega | (simp only [push_n, set_n, kill_n]; omega)) _ | refine Sub.kill hwf ?_ (by first | exact Nat.le_refl _ | omega | (simp only [push_n, set_n, kill_n]; omega)))); exact hi

def eoRes (ms : List Ma) (f m : Int) (ps : List Int) : Int × Int × Bool := if areMa ms = true then if inR f 0 9 = true then if inR m 0 9999 = true then erGo ms ps f m else (0, 0, false) else (0, 0, false) else (0, 0, false)

def q_EoR : Con := fun args H K => match args with
  | [ms_v, .c (.int .i64 f), .c (.int .i64 m), ps_v] => eMa.rd H (fun ms => eI.rd H (fun ps => K (.tup [.c (.int .i64 ((eoRes ms f m ps).1)), .c (.int .i64 ((eoRes ms f m ps).2.1)), .c (.bool ((eoRes ms f m ps).2.2))]) H) ps_v) ms_v
  | _ => False
@[simp ↓] theorem q_EoR_eq (ms_v : AV) (f : Int) (m : Int) (ps_v : AV) (H : AHeap) (K : AV → AHeap → Prop) : q_EoR [ms_v, .c (.int .i64 f), .c (.int .i64 m), ps_v] H K = (eMa.rd H (fun ms => eI.rd H (fun ps => K (.tup [.c (.int .i64 ((eoRes ms f m ps).1)), .c (.int .i64 ((eoRes ms f m ps).2.1)), .c (.bool ((eoRes ms f m ps).2.2))]) H) ps_v) ms_v) := rfl

theorem impl_EndOfRoute_s : Sound Try.prog 17 q_EoR := by
  intro args H K h
  unfold q_EoR at h
  split at h
  rotate_left
  all_goals first | exact False.elim h | skip
  rename_i ms_v f m ps_v
  have h1 := Enc.rd_at h
  clear h
  obtain ⟨b_ms, i_ms, k_ms, ms, rfl, hat_ms, h⟩ := h1
  have h1 := Enc.rd_at h
  clear h
  obtain ⟨b_ps, i_ps, k_ps, ps, rfl, hat_ps, h⟩ := h1
  have hE := soundE_cons impl_isTimetable_s (soundE_cons impl_isOffice_s (soundE_cons impl_isMinute_s (soundE_cons impl_endOfRoute_s (soundE_nil (P := Try.prog)))))
  refine acalls_fn impl_EndOfRoute_k hE ⟨by simp, fun hwf => ?_⟩
  have hb_ms : b_ms < H.n := (hwf b_ms k_ms hat_ms.blk).1
  have hne_ms : (b_ms = H.n) = False := eq_false (by omega)
  have hne1_ms : ∀ i, (b_ms = H.n + i) = False := fun i => eq_false (by omega)
  have hne2_ms : (b_ms = H.n + 1 + 1) = False ∧ (b_ms = H.n + 1 + 1 + 1) = False ∧ (b_ms = H.n + 1 + 1 + 1 + 1) = False ∧ (b_ms = H.n + 1 + 1 + 1 + 1 + 1) = False ∧ (b_ms = H.n + 1 + 1 + 1 + 1 + 1 + 1) = False ∧ (b_ms = H.n + 1 + 1 + 1 + 1 + 1 + 1 + 1) = False ∧ (b_ms = H.n + 1 + 1 + 1 + 1 + 1 + 1 + 1 + 1) = False ∧ (b_ms = H.n + 1 + 1 + 1 + 1 + 1 + 1 + 1 + 1 + 1) = False ∧ (b_ms = H.n + 1 + 1 + 1 + 1 + 1 + 1 + 1 + 1 + 1 + 1) = False ∧ (b_ms = H.n + 1 + 1 + 1 + 1 + 1 + 1 + 1 + 1 + 1 + 1 + 1) = False ∧ (b_ms = H.n + 1 + 1 + 1 + 1 + 1 + 1 + 1 + 1 + 1 + 1 + 1 + 1) = False := ⟨eq_false (by omega), eq_false (by omega), eq_false (by omega), eq_false (by omega), eq_false (by omega), eq_false (by omega), eq_false (by omega), eq_false (by omega), eq_false (by omega), eq_false (by omega), eq_false (by omega)⟩
  have hmx_ms : ms.length ≤ 9223372036854775807 := by have h1 := (hwf b_ms k_ms hat_ms.blk).2.2; have h2 := hat_ms.len; omega
  have hb_ps : b_ps < H.n := (hwf b_ps k_ps hat_ps.blk).1
  have hne_ps : (b_ps = H.n) = False := eq_false (by omega)
  have hne1_ps : ∀ i, (b_ps = H.n + i) = False := fun i => eq_false (by omega)
  have hne2_ps : (b_ps = H.n + 1 + 1) = False ∧ (b_ps = H.n + 1 + 1 + 1) = False ∧ (b_ps = H.n + 1 + 1 + 1 + 1) = False ∧ (b_ps = H.n + 1 + 1 + 1 + 1 + 1) = False ∧ (b_ps = H.n + 1 + 1 + 1 + 1 + 1 + 1) = False ∧ (b_ps = H.n + 1 + 1 + 1 + 1 + 1 + 1 + 1) = False ∧ (b_ps = H.n + 1 + 1 + 1 + 1 + 1 + 1 + 1 + 1) = False ∧ (b_ps = H.n + 1 + 1 + 1 + 1 + 1 + 1 + 1 + 1 + 1) = False ∧ (b_ps = H.n + 1 + 1 + 1 + 1 + 1 + 1 + 1 + 1 + 1 + 1) = False ∧ (b_ps = H.n + 1 + 1 + 1 + 1 + 1 + 1 + 1 + 1 + 1 + 1 + 1) = False ∧ (b_ps = H.n + 1 + 1 + 1 + 1 + 1 + 1 + 1 + 1 + 1 + 1 + 1 + 1) = False := ⟨eq_false (by omega), eq_false (by omega), eq_false (by omega), eq_false (by omega), eq_false (by omega), eq_false (by omega), eq_false (by omega), eq_false (by omega), eq_false (by omega), eq_false (by omega), eq_false (by omega)⟩
  have hmx_ps : ps.length ≤ 9223372036854775807 := by have h1 := (hwf b_ps k_ps hat_ps.blk).2.2; have h2 := hat_ps.len; omega
  unfold eoRes at h
  by_cases hm : areMa ms = true
  rotate_left
  · rw [if_neg hm] at h
    simp (config := {contextual := true, implicitDefEqProofs := false, maxSteps := 2000000}) [-Int.not_le, -Int.not_lt, argsF, impl_EndOfRoute_c, hat_ms.blk, hat_ms.esz, hat_ms.len, hat_ms.els, hne_ms, hne1_ms, hne2_ms.1, hne2_ms.2.1, hne2_ms.2.2.1, hne2_ms.2.2.2.1, hne2_ms.2.2.2.2.1, hne2_ms.2.2.2.2.2.1, hne2_ms.2.2.2.2.2.2.1, hne2_ms.2.2.2.2.2.2.2.1, hne2_ms.2.2.2.2.2.2.2.2.1, hne2_ms.2.2.2.2.2.2.2.2.2.1, hne2_ms.2.2.2.2.2.2.2.2.2.2, hat_ps.blk, hat_ps.esz, hat_ps.len, hat_ps.els, hne_ps, hne1_ps, hne2_ps.1, hne2_ps.2.1, hne2_ps.2.2.1, hne2_ps.2.2.2.1, hne2_ps.2.2.2.2.1, hne2_ps.2.2.2.2.2.1, hne2_ps.2.2.2.2.2.2.1, hne2_ps.2.2.2.2.2.2.2.1, hne2_ps.2.2.2.2.2.2.2.2.1, hne2_ps.2.2.2.2.2.2.2.2.2.1, hne2_ps.2.2.2.2.2.2.2.2.2.2, hm]
    (refine Out.plain hwf ?_ rfl ?_; (repeat first | exact Sub.refl _ | refine Sub.push hwf ?_ _ | refine Sub.set hwf ?_ (by first | exact Nat.le_refl _ | omega | (simp only [push_n, set_n, kill_n]; omega)) _ | refine Sub.kill hwf ?_ (by first | exact Nat.le_refl _ | omega | (simp only [push_n, set_n, kill_n]; omega)))); exact h
  by_cases hf : inR f 0 9 = true
  rotate_left
  · rw [if_pos hm, if_neg hf] at h
    simp (config := {contextual := true, implicitDefEqProofs := false, maxSteps := 2000000}) [-Int.not_le, -Int.not_lt, argsF, impl_EndOfRoute_c, hat_ms.blk, hat_ms.esz, hat_ms.len, hat_ms.els, hne_ms, hne1_ms, hne2_ms.1, hne2_ms.2.1, hne2_ms.2.2.1, hne2_ms.2.2.2.1, hne2_ms.2.2.2.2.1, hne2_ms.2.2.2.2.2.1, hne2_ms.2.2.2.2.2.2.1, hne2_ms.2.2.2.2.2.2.2.1, hne2_ms.2.2.2.2.2.2.2.2.1, hne2_ms.2.2.2.2.2.2.2.2.2.1, hne2_ms.2.2.2.2.2.2.2.2.2.2, hat_ps.blk, hat_ps.esz, hat_ps.len, hat_ps.els, hne_ps, hne1_ps, hne2_ps.1, hne2_ps.2.1, hne2_ps.2.2.1, hne2_ps.2.2.2.1, hne2_ps.2.2.2.2.1, hne2_ps.2.2.2.2.2.1, hne2_ps.2.2.2.2.2.2.1, hne2_ps.2.2.2.2.2.2.2.1, hne2_ps.2.2.2.2.2.2.2.2.1, hne2_ps.2.2.2.2.2.2.2.2.2.1, hne2_ps.2.2.2.2.2.2.2.2.2.2, hm, hf]
    (refine Out.plain hwf ?_ rfl ?_; (repeat first | exact Sub.refl _ | refine Sub.push hwf ?_ _ | refine Sub.set hwf ?_ (by first | exact Nat.le_refl _ | omega | (simp only [push_n, set_n, kill_n]; omega)) _ | refine Sub.kill hwf ?_ (by first | exact Nat.le_refl _ | omega | (simp only [push_n, set_n, kill_n]; omega)))); exact h
  by_cases hi : inR m 0 9999 = true
  rotate_left
  · rw [if_pos hm, if_pos hf, if_neg hi] at h
    simp (config := {contextual := true, implicitDefEqProofs := false, maxSteps := 2000000}) [-Int.not_le, -Int.not_lt, argsF, impl_EndOfRoute_c, hat_ms.blk, hat_ms.esz, hat_ms.len, hat_ms.els, hne_ms, hne1_ms, hne2_ms.1, hne2_ms.2.1, hne2_ms.2.2.1, hne2_ms.2.2.2.1, hne2_ms.2.2.2.2.1, hne2_ms.2.2.2.2.2.1, hne2_ms.2.2.2.2.2.2.1, hne2_ms.2.2.2.2.2.2.2.1, hne2_ms.2.2.2.2.2.2.2.2.1, hne2_ms.2.2.2.2.2.2.2.2.2.1, hne2_ms.2.2.2.2.2.2.2.2.2.2, hat_ps.blk, hat_ps.esz, hat_ps.len, hat_ps.els, hne_ps, hne1_ps, hne2_ps.1, hne2_ps.2.1, hne2_ps.2.2.1, hne2_ps.2.2.2.1, hne2_ps.2.2.2.2.1, hne2_ps.2.2.2.2.2.1, hne2_ps.2.2.2.2.2.2.1, hne2_ps.2.2.2.2.2.2.2.1, hne2_ps.2.2.2.2.2.2.2.2.1, hne2_ps.2.2.2.2.2.2.2.2.2.1, hne2_ps.2.2.2.2.2.2.2.2.2.2, hm, hf, hi]
    (refine Out.plain hwf ?_ rfl ?_; (repeat first | exact Sub.refl _ | refine Sub.push hwf ?_ _ | refine Sub.set hwf ?_ (by first | exact Nat.le_refl _ | omega | (simp only [push_n, set_n, kill_n]; omega)) _ | refine Sub.kill hwf ?_ (by first | exact Nat.le_refl _ | omega | (simp only [push_n, set_n, kill_n]; omega)))); exact h
  rw [if_pos hm, if_pos hf, if_pos hi] at h
  simp (config := {contextual := true, implicitDefEqProofs := false, maxSteps := 2000000}) [-Int.not_le, -Int.not_lt, argsF, impl_EndOfRoute_c, hat_ms.blk, hat_ms.esz, hat_ms.len, hat_ms.els, hne_ms, hne1_ms, hne2_ms.1, hne2_ms.2.1, hne2_ms.2.2.1, hne2_ms.2.2.2.1, hne2_ms.2.2.2.2.1, hne2_ms.2.2.2.2.2.1, hne2_ms.2.2.2.2.2.2.1, hne2_ms.2.2.2.2.2.2.2.1, hne2_ms.2.2.2.2.2.2.2.2.1, hne2_ms.2.2.2.2.2.2.2.2.2.1, hne2_ms.2.2.2.2.2.2.2.2.2.2, hat_ps.blk, hat_ps.esz, hat_ps.len, hat_ps.els, hne_ps, hne1_ps, hne2_ps.1, hne2_ps.2.1, hne2_ps.2.2.1, hne2_ps.2.2.2.1, hne2_ps.2.2.2.2.1, hne2_ps.2.2.2.2.2.1, hne2_ps.2.2.2.2.2.2.1, hne2_ps.2.2.2.2.2.2.2.1, hne2_ps.2.2.2.2.2.2.2.2.1, hne2_ps.2.2.2.2.2.2.2.2.2.1, hne2_ps.2.2.2.2.2.2.2.2.2.2, hm, hf, hi]
  (refine Out.plain hwf ?_ rfl ?_; (repeat first | exact Sub.refl _ | refine Sub.push hwf ?_ _ | refine Sub.set hwf ?_ (by first | exact Nat.le_refl _ | omega | (simp only [push_n, set_n, kill_n]; omega)) _ | refine Sub.kill hwf ?_ (by first | exact Nat.le_refl _ | omega | (simp only [push_n, set_n, kill_n]; omega)))); exact h

end Go.Proofs.Ytjiffkjeijfilaa
