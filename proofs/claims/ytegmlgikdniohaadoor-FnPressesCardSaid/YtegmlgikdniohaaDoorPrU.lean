/- The printings: pauses, places. -/
import Derived.Test.YtegmlgikdniohaaDoorPrT
set_option maxRecDepth 8000
set_option linter.unusedSimpArgs false
set_option linter.unusedVariables false
namespace Go.Proofs.YtegmlgikdniohaaDoor
open Go Go.RowKit



def q_lp : Con := fun args H K => match args with
  | [ps_v] => ePr.rd H (fun ps => K (.tup [.c (.int .i64 ((lpRes ps).1)), .c (.int .i64 ((lpRes ps).2.1)), .c (.bool ((lpRes ps).2.2))]) H) ps_v
  | _ => False
@[simp ↓] theorem q_lp_eq (ps_v : AV) (H : AHeap) (K : AV → AHeap → Prop) : q_lp [ps_v] H K = (ePr.rd H (fun ps => K (.tup [.c (.int .i64 ((lpRes ps).1)), .c (.int .i64 ((lpRes ps).2.1)), .c (.bool ((lpRes ps).2.2))]) H) ps_v) := rfl

theorem impl_LongestPause_s : Sound Tryd.prog 20 q_lp := by
  intro args H K h
  unfold q_lp at h
  split at h
  rotate_left
  all_goals first | exact False.elim h | skip
  rename_i ps_v
  have h1 := Enc.rd_at h
  clear h
  obtain ⟨b_ps, i_ps, k_ps, ps, rfl, hat_ps, h⟩ := h1
  have hE := soundE_cons impl_arePrintings_s (soundE_nil (P := Tryd.prog))
  refine acalls_fn impl_LongestPause_k hE ⟨by simp, fun hwf => ?_⟩
  have hb_ps : b_ps < H.n := (hwf b_ps k_ps hat_ps.blk).1
  have hne_ps : (b_ps = H.n) = False := eq_false (by omega)
  have hne1_ps : ∀ i, (b_ps = H.n + i) = False := fun i => eq_false (by omega)
  have hne2_ps : (b_ps = H.n + 1 + 1) = False ∧ (b_ps = H.n + 1 + 1 + 1) = False ∧ (b_ps = H.n + 1 + 1 + 1 + 1) = False ∧ (b_ps = H.n + 1 + 1 + 1 + 1 + 1) = False ∧ (b_ps = H.n + 1 + 1 + 1 + 1 + 1 + 1) = False ∧ (b_ps = H.n + 1 + 1 + 1 + 1 + 1 + 1 + 1) = False ∧ (b_ps = H.n + 1 + 1 + 1 + 1 + 1 + 1 + 1 + 1) = False ∧ (b_ps = H.n + 1 + 1 + 1 + 1 + 1 + 1 + 1 + 1 + 1) = False ∧ (b_ps = H.n + 1 + 1 + 1 + 1 + 1 + 1 + 1 + 1 + 1 + 1) = False ∧ (b_ps = H.n + 1 + 1 + 1 + 1 + 1 + 1 + 1 + 1 + 1 + 1 + 1) = False ∧ (b_ps = H.n + 1 + 1 + 1 + 1 + 1 + 1 + 1 + 1 + 1 + 1 + 1 + 1) = False := ⟨eq_false (by omega), eq_false (by omega), eq_false (by omega), eq_false (by omega), eq_false (by omega), eq_false (by omega), eq_false (by omega), eq_false (by omega), eq_false (by omega), eq_false (by omega), eq_false (by omega)⟩
  have hmx_ps : ps.length ≤ 9223372036854775807 := by have h1 := (hwf b_ps k_ps hat_ps.blk).2.2; have h2 := hat_ps.len; omega
  simp (config := {contextual := true, implicitDefEqProofs := false, maxSteps := 60000}) [-Int.not_le, -Int.not_lt, argsF, impl_LongestPause_c, hat_ps.blk, hat_ps.esz, hat_ps.len, hat_ps.els, hne_ps, hne1_ps, hne2_ps.1, hne2_ps.2.1, hne2_ps.2.2.1, hne2_ps.2.2.2.1, hne2_ps.2.2.2.2.1, hne2_ps.2.2.2.2.2.1, hne2_ps.2.2.2.2.2.2.1, hne2_ps.2.2.2.2.2.2.2.1, hne2_ps.2.2.2.2.2.2.2.2.1, hne2_ps.2.2.2.2.2.2.2.2.2.1, hne2_ps.2.2.2.2.2.2.2.2.2.2]
  unfold lpRes at h
  repeat' split
  all_goals simp only [*, if_true, if_false, reduceCtorEq] at h
  all_goals first | ((refine Out.plain hwf ?_ rfl ?_; (repeat first | exact Sub.refl _ | refine Sub.push hwf ?_ _ | refine Sub.set hwf ?_ (by first | exact Nat.le_refl _ | omega | (simp only [push_n, set_n, kill_n]; omega)) _ | refine Sub.kill hwf ?_ (by first | exact Nat.le_refl _ | omega | (simp only [push_n, set_n, kill_n]; omega)))); exact h) | skip
  rename_i ha hl
  obtain ⟨q, r, e⟩ : ∃ q r, ps = q :: r := by
    cases ps with
    | nil => simp at hl
    | cons q r => exact ⟨q, r, rfl⟩
  have hd : ps.tail = r := by rw [e]; rfl
  have h' : K (.tup [.c (.int .i64 ((lpGo (ps.tail) q 0 0).1)), .c (.int .i64 ((lpGo (ps.tail) q 0 0).2)), .c (.bool (true))]) H := by rw [hd]; rw [e] at h; exact h
  have hq : ps[0]? = some q := by rw [e]; rfl
  have hl1 : (1 : Int) ≤ (ps.length : Int) := by omega
  have hl2 : ((ps.length : Int) - 1).toNat = ps.length - 1 := by omega
  have hl3 : ¬ (((ps.length - 1 : Nat) : Int) + 1 < (ps.length : Int)) := by omega
  clear e hd
  try refine ⟨hl1, ?_⟩
  refine aloop_list3 ps.tail (fun j p n m => [(0, .c (.sl b_ps i_ps ps.length)), (5, .c (.int .i64 (n))), (6, .c (.int .i64 (m))), (19, .c (.sl (b_ps) (i_ps + 1) (ps.length - 1))), (20, .c (.int .i64 (((ps.length - 1 : Nat) : Int)))), (21, .c (.int .i64 (j)))]) (fun j p n m => H) (fun j l p n m => (ps[j]? = some p) ∧ K (.tup [.c (.int .i64 ((lpGo l p n m).1)), .c (.int .i64 ((lpGo l p n m).2)), .c (.bool (true))]) H) hE _ (q) (0) (0) (⟨hq, h'⟩) (.same hwf (by simp [frOk, AV.okR, AV.ok1, AC.okR, AV.ren, AV.ren1, AC.ren, AFrame.get, pl1_old, *]; first | done | omega)) (fun j p n m hlt hi => ?_) fun p n m hi => ?_
  ·
    obtain ⟨hs, hi⟩ := hi
    
    have hj : j + 1 < ps.length := by simp at hlt; omega
    have hjl : j < ps.length := by omega
    have hj0 : (j : Int) + 1 < (ps.length : Int) := by omega
    have hj2 : j < ps.length - 1 := by omega
    have hj3 : (0 : Int) ≤ (j : Int) + 1 := by omega
    have ej : ((j : Int) + 1).toNat = j + 1 := by omega
    have w1 : IntKind.i64.wrap ((j : Int) + 1) = (j : Int) + 1 := wrap_id (by omega) (by omega)
    have w0 : IntKind.i64.wrap (j : Int) = (j : Int) := wrap_id (by omega) (by omega)
    have w2 : IntKind.i64.wrap ((j : Int) + 1 + 1) = (j : Int) + 1 + 1 := wrap_id (by omega) (by omega)
    have ed : (ps.tail)[j] = ps[j + 1] := getElem_tail' hlt
    rw [ed] at hi
    have e1 := hat_ps.get hj
    have e2 : k_ps.els[i_ps + 1 + j]? = some (ePr.cells ps[j + 1]) := by rw [Nat.add_assoc, Nat.add_comm 1 j]; exact e1
    have ep : ps[j] = p := by rw [List.getElem?_eq_getElem (by omega)] at hs; simpa using hs
    have e3 := hat_ps.get (show j < ps.length by omega)
    rw [ep] at e3
    simp (config := {contextual := true, implicitDefEqProofs := false, maxSteps := 60000}) [-Int.not_le, -Int.not_lt, argsF, impl_LongestPause_l0, hat_ps.blk, hat_ps.esz, hat_ps.len, hat_ps.els, hne_ps, hne1_ps, hne2_ps.1, hne2_ps.2.1, hne2_ps.2.2.1, hne2_ps.2.2.2.1, hne2_ps.2.2.2.2.1, hne2_ps.2.2.2.2.2.1, hne2_ps.2.2.2.2.2.2.1, hne2_ps.2.2.2.2.2.2.2.1, hne2_ps.2.2.2.2.2.2.2.2.1, hne2_ps.2.2.2.2.2.2.2.2.2.1, hne2_ps.2.2.2.2.2.2.2.2.2.2, w1, hjl, hj, hj0, hj2, hj3, ej, w0, w2, e1, e2, e3]
    simp only [lpGo] at hi
    repeat' split
    all_goals try simp only [*, if_true, if_false, reduceCtorEq, and_self, and_true, true_and, and_false, false_and, not_true_eq_false, not_false_eq_true] at hi
    all_goals first | ((refine Out.plain hwf ?_ rfl ?_; (repeat first | exact Sub.refl _ | refine Sub.push hwf ?_ _ | refine Sub.set hwf ?_ (by first | exact Nat.le_refl _ | omega | (simp only [push_n, set_n, kill_n]; omega)) _ | refine Sub.kill hwf ?_ (by first | exact Nat.le_refl _ | omega | (simp only [push_n, set_n, kill_n]; omega)))); exact hi) | exact ⟨_, _, _, ⟨by simp, hi⟩, .drop hwf (by (repeat first | exact Sub.refl _ | refine Sub.push hwf ?_ _ | refine Sub.set hwf ?_ (by first | exact Nat.le_refl _ | omega | (simp only [push_n, set_n, kill_n]; omega)) _ | refine Sub.kill hwf ?_ (by first | exact Nat.le_refl _ | omega | (simp only [push_n, set_n, kill_n]; omega)))) (by simp [frOk, AV.okR, AV.ok1, AC.okR, AV.ren, AV.ren1, AC.ren, AFrame.get, pl1_old, *]; first | done | omega)⟩
  ·
    obtain ⟨hs, hi⟩ := hi
    simp (config := {contextual := true, implicitDefEqProofs := false, maxSteps := 60000}) [-Int.not_le, -Int.not_lt, argsF, impl_LongestPause_l0, hat_ps.blk, hat_ps.esz, hat_ps.len, hat_ps.els, hne_ps, hne1_ps, hne2_ps.1, hne2_ps.2.1, hne2_ps.2.2.1, hne2_ps.2.2.2.1, hne2_ps.2.2.2.2.1, hne2_ps.2.2.2.2.2.1, hne2_ps.2.2.2.2.2.2.1, hne2_ps.2.2.2.2.2.2.2.1, hne2_ps.2.2.2.2.2.2.2.2.1, hne2_ps.2.2.2.2.2.2.2.2.2.1, hne2_ps.2.2.2.2.2.2.2.2.2.2, hl2, hl3]
    simp only [lpGo] at hi
    (refine Out.plain hwf ?_ rfl ?_; (repeat first | exact Sub.refl _ | refine Sub.push hwf ?_ _ | refine Sub.set hwf ?_ (by first | exact Nat.le_refl _ | omega | (simp only [push_n, set_n, kill_n]; omega)) _ | refine Sub.kill hwf ?_ (by first | exact Nat.le_refl _ | omega | (simp only [push_n, set_n, kill_n]; omega)))); exact hi

theorem spec_LongestPause_s : Sound Tryd.prog 21 q_lp := by
  intro args H K h
  unfold q_lp at h
  split at h
  rotate_left
  all_goals first | exact False.elim h | skip
  rename_i ps_v
  have h1 := Enc.rd_at h
  clear h
  obtain ⟨b_ps, i_ps, k_ps, ps, rfl, hat_ps, h⟩ := h1
  have hE := soundE_cons spec_l14Good_s (soundE_nil (P := Tryd.prog))
  refine acalls_fn spec_LongestPause_k hE ⟨by simp, fun hwf => ?_⟩
  have hb_ps : b_ps < H.n := (hwf b_ps k_ps hat_ps.blk).1
  have hne_ps : (b_ps = H.n) = False := eq_false (by omega)
  have hne1_ps : ∀ i, (b_ps = H.n + i) = False := fun i => eq_false (by omega)
  have hne2_ps : (b_ps = H.n + 1 + 1) = False ∧ (b_ps = H.n + 1 + 1 + 1) = False ∧ (b_ps = H.n + 1 + 1 + 1 + 1) = False ∧ (b_ps = H.n + 1 + 1 + 1 + 1 + 1) = False ∧ (b_ps = H.n + 1 + 1 + 1 + 1 + 1 + 1) = False ∧ (b_ps = H.n + 1 + 1 + 1 + 1 + 1 + 1 + 1) = False ∧ (b_ps = H.n + 1 + 1 + 1 + 1 + 1 + 1 + 1 + 1) = False ∧ (b_ps = H.n + 1 + 1 + 1 + 1 + 1 + 1 + 1 + 1 + 1) = False ∧ (b_ps = H.n + 1 + 1 + 1 + 1 + 1 + 1 + 1 + 1 + 1 + 1) = False ∧ (b_ps = H.n + 1 + 1 + 1 + 1 + 1 + 1 + 1 + 1 + 1 + 1 + 1) = False ∧ (b_ps = H.n + 1 + 1 + 1 + 1 + 1 + 1 + 1 + 1 + 1 + 1 + 1 + 1) = False := ⟨eq_false (by omega), eq_false (by omega), eq_false (by omega), eq_false (by omega), eq_false (by omega), eq_false (by omega), eq_false (by omega), eq_false (by omega), eq_false (by omega), eq_false (by omega), eq_false (by omega)⟩
  have hmx_ps : ps.length ≤ 9223372036854775807 := by have h1 := (hwf b_ps k_ps hat_ps.blk).2.2; have h2 := hat_ps.len; omega
  simp (config := {contextual := true, implicitDefEqProofs := false, maxSteps := 60000}) [-Int.not_le, -Int.not_lt, argsF, spec_LongestPause_c, hat_ps.blk, hat_ps.esz, hat_ps.len, hat_ps.els, hne_ps, hne1_ps, hne2_ps.1, hne2_ps.2.1, hne2_ps.2.2.1, hne2_ps.2.2.2.1, hne2_ps.2.2.2.2.1, hne2_ps.2.2.2.2.2.1, hne2_ps.2.2.2.2.2.2.1, hne2_ps.2.2.2.2.2.2.2.1, hne2_ps.2.2.2.2.2.2.2.2.1, hne2_ps.2.2.2.2.2.2.2.2.2.1, hne2_ps.2.2.2.2.2.2.2.2.2.2]
  unfold lpRes at h
  repeat' split
  all_goals simp only [*, if_true, if_false, reduceCtorEq] at h
  all_goals first | ((refine Out.plain hwf ?_ rfl ?_; (repeat first | exact Sub.refl _ | refine Sub.push hwf ?_ _ | refine Sub.set hwf ?_ (by first | exact Nat.le_refl _ | omega | (simp only [push_n, set_n, kill_n]; omega)) _ | refine Sub.kill hwf ?_ (by first | exact Nat.le_refl _ | omega | (simp only [push_n, set_n, kill_n]; omega)))); exact h) | skip
  rename_i ha hl
  obtain ⟨q, r, e⟩ : ∃ q r, ps = q :: r := by
    cases ps with
    | nil => simp at hl
    | cons q r => exact ⟨q, r, rfl⟩
  have hd : ps.tail = r := by rw [e]; rfl
  have h' : K (.tup [.c (.int .i64 ((lpGo (ps.tail) q 0 0).1)), .c (.int .i64 ((lpGo (ps.tail) q 0 0).2)), .c (.bool (true))]) H := by rw [hd]; rw [e] at h; exact h
  have hq : ps[0]? = some q := by rw [e]; rfl
  have hl1 : (1 : Int) ≤ (ps.length : Int) := by omega
  have hl2 : ((ps.length : Int) - 1).toNat = ps.length - 1 := by omega
  have hl3 : ¬ (((ps.length - 1 : Nat) : Int) + 1 < (ps.length : Int)) := by omega
  clear e hd
  try refine ⟨hl1, ?_⟩
  refine aloop_list3 ps.tail (fun j p n m => [(0, .c (.sl b_ps i_ps ps.length)), (5, .c (.int .i64 (n))), (6, .c (.int .i64 (m))), (7, .c (.int .i64 ((j : Int) + 1)))]) (fun j p n m => H) (fun j l p n m => (ps[j]? = some p) ∧ K (.tup [.c (.int .i64 ((lpGo l p n m).1)), .c (.int .i64 ((lpGo l p n m).2)), .c (.bool (true))]) H) hE _ (q) (0) (0) (⟨hq, h'⟩) (.same hwf (by simp [frOk, AV.okR, AV.ok1, AC.okR, AV.ren, AV.ren1, AC.ren, AFrame.get, pl1_old, *]; first | done | omega)) (fun j p n m hlt hi => ?_) fun p n m hi => ?_
  ·
    obtain ⟨hs, hi⟩ := hi
    
    have hj : j + 1 < ps.length := by simp at hlt; omega
    have hjl : j < ps.length := by omega
    have hj0 : (j : Int) + 1 < (ps.length : Int) := by omega
    have hj2 : j < ps.length - 1 := by omega
    have hj3 : (0 : Int) ≤ (j : Int) + 1 := by omega
    have ej : ((j : Int) + 1).toNat = j + 1 := by omega
    have w1 : IntKind.i64.wrap ((j : Int) + 1) = (j : Int) + 1 := wrap_id (by omega) (by omega)
    have w0 : IntKind.i64.wrap (j : Int) = (j : Int) := wrap_id (by omega) (by omega)
    have w2 : IntKind.i64.wrap ((j : Int) + 1 + 1) = (j : Int) + 1 + 1 := wrap_id (by omega) (by omega)
    have ed : (ps.tail)[j] = ps[j + 1] := getElem_tail' hlt
    rw [ed] at hi
    have e1 := hat_ps.get hj
    have e2 : k_ps.els[i_ps + 1 + j]? = some (ePr.cells ps[j + 1]) := by rw [Nat.add_assoc, Nat.add_comm 1 j]; exact e1
    have ep : ps[j] = p := by rw [List.getElem?_eq_getElem (by omega)] at hs; simpa using hs
    have e3 := hat_ps.get (show j < ps.length by omega)
    rw [ep] at e3
    simp (config := {contextual := true, implicitDefEqProofs := false, maxSteps := 60000}) [-Int.not_le, -Int.not_lt, argsF, spec_LongestPause_l0, hat_ps.blk, hat_ps.esz, hat_ps.len, hat_ps.els, hne_ps, hne1_ps, hne2_ps.1, hne2_ps.2.1, hne2_ps.2.2.1, hne2_ps.2.2.2.1, hne2_ps.2.2.2.2.1, hne2_ps.2.2.2.2.2.1, hne2_ps.2.2.2.2.2.2.1, hne2_ps.2.2.2.2.2.2.2.1, hne2_ps.2.2.2.2.2.2.2.2.1, hne2_ps.2.2.2.2.2.2.2.2.2.1, hne2_ps.2.2.2.2.2.2.2.2.2.2, w1, hjl, hj, hj0, hj2, hj3, ej, w0, w2, e1, e2, e3]
    simp only [lpGo] at hi
    repeat' split
    all_goals try simp only [*, if_true, if_false, reduceCtorEq, and_self, and_true, true_and, and_false, false_and, not_true_eq_false, not_false_eq_true] at hi
    all_goals first | ((refine Out.plain hwf ?_ rfl ?_; (repeat first | exact Sub.refl _ | refine Sub.push hwf ?_ _ | refine Sub.set hwf ?_ (by first | exact Nat.le_refl _ | omega | (simp only [push_n, set_n, kill_n]; omega)) _ | refine Sub.kill hwf ?_ (by first | exact Nat.le_refl _ | omega | (simp only [push_n, set_n, kill_n]; omega)))); exact hi) | exact ⟨_, _, _, ⟨by simp, hi⟩, .drop hwf (by (repeat first | exact Sub.refl _ | refine Sub.push hwf ?_ _ | refine Sub.set hwf ?_ (by first | exact Nat.le_refl _ | omega | (simp only [push_n, set_n, kill_n]; omega)) _ | refine Sub.kill hwf ?_ (by first | exact Nat.le_refl _ | omega | (simp only [push_n, set_n, kill_n]; omega)))) (by simp [frOk, AV.okR, AV.ok1, AC.okR, AV.ren, AV.ren1, AC.ren, AFrame.get, pl1_old, *]; first | done | omega)⟩
  ·
    obtain ⟨hs, hi⟩ := hi
    simp (config := {contextual := true, implicitDefEqProofs := false, maxSteps := 60000}) [-Int.not_le, -Int.not_lt, argsF, spec_LongestPause_l0, hat_ps.blk, hat_ps.esz, hat_ps.len, hat_ps.els, hne_ps, hne1_ps, hne2_ps.1, hne2_ps.2.1, hne2_ps.2.2.1, hne2_ps.2.2.2.1, hne2_ps.2.2.2.2.1, hne2_ps.2.2.2.2.2.1, hne2_ps.2.2.2.2.2.2.1, hne2_ps.2.2.2.2.2.2.2.1, hne2_ps.2.2.2.2.2.2.2.2.1, hne2_ps.2.2.2.2.2.2.2.2.2.1, hne2_ps.2.2.2.2.2.2.2.2.2.2, hl2, hl3]
    simp only [lpGo] at hi
    (refine Out.plain hwf ?_ rfl ?_; (repeat first | exact Sub.refl _ | refine Sub.push hwf ?_ _ | refine Sub.set hwf ?_ (by first | exact Nat.le_refl _ | omega | (simp only [push_n, set_n, kill_n]; omega)) _ | refine Sub.kill hwf ?_ (by first | exact Nat.le_refl _ | omega | (simp only [push_n, set_n, kill_n]; omega)))); exact hi

end Go.Proofs.YtegmlgikdniohaaDoor
