/- The postmarks: a valid list. -/
import Derived.Test.YtnehhdcaknppnaaDoorPoQ
set_option maxRecDepth 8000
set_option linter.unusedSimpArgs false
set_option linter.unusedVariables false
namespace Go.Proofs.YtnehhdcaknppnaaDoor
open Go Go.RowKit

set_option maxHeartbeats 1000000
def poGo : Option Po → List Po → Bool
  | _, [] => true
  | o, x :: r => if isPo x = true then (if (match o with | none => true | some p => decide (p.id < x.id)) = true then poGo (some x) r else false) else false
def arePo (ps : List Po) : Bool := poGo none ps && decide (ps.length ≤ 12)
theorem arePo_len {ps : List Po} (h : arePo ps = true) : ps.length ≤ 12 := by
  simp only [arePo, Bool.and_eq_true, decide_eq_true_eq] at h; exact h.2
theorem poGo_all : ∀ (l : List Po) (o : Option Po), poGo o l = true → ∀ p ∈ l, isPo p = true
  | [], _, _, p, hp => by cases hp
  | x :: r, o, h, p, hp => by
    simp only [poGo, Bool.if_false_right, Bool.and_eq_true, decide_eq_true_eq] at h
    obtain ⟨hx, _, hr⟩ := h
    rcases List.mem_cons.1 hp with rfl | hp
    · exact hx
    · exact poGo_all r _ hr p hp
theorem arePo_at {ps : List Po} (h : arePo ps = true) {p : Po} (hp : p ∈ ps) : isPo p = true := by
  simp only [arePo, Bool.and_eq_true] at h
  exact poGo_all ps none h.1 p hp

def q_arePo : Con := fun args H K => match args with
  | [ps_v] => ePo.rd H (fun ps => (∀ p ∈ ps, txP p) ∧ K (.c (.bool (arePo ps))) H) ps_v
  | _ => False
@[simp ↓] theorem q_arePo_eq (ps_v : AV) (H : AHeap) (K : AV → AHeap → Prop) : q_arePo [ps_v] H K = (ePo.rd H (fun ps => (∀ p ∈ ps, txP p) ∧ K (.c (.bool (arePo ps))) H) ps_v) := rfl

theorem spec_l11Good_s : Sound Tryd.prog 63 q_arePo := by
  intro args H K h
  unfold q_arePo at h
  split at h
  rotate_left
  all_goals first | exact False.elim h | skip
  rename_i ps_v
  have h1 := Enc.rd_at h
  clear h
  obtain ⟨b_ps, i_ps, k_ps, ps, rfl, hat_ps, h⟩ := h1
  have hE := soundE_cons spec_l11One_s (soundE_nil (P := Tryd.prog))
  refine acalls_fn spec_l11Good_k hE ⟨by simp, fun hwf => ?_⟩
  have hb_ps : b_ps < H.n := (hwf b_ps k_ps hat_ps.blk).1
  have hne_ps : (b_ps = H.n) = False := eq_false (by omega)
  have hne1_ps : ∀ i, (b_ps = H.n + i) = False := fun i => eq_false (by omega)
  have hne2_ps : (b_ps = H.n + 1 + 1) = False ∧ (b_ps = H.n + 1 + 1 + 1) = False ∧ (b_ps = H.n + 1 + 1 + 1 + 1) = False ∧ (b_ps = H.n + 1 + 1 + 1 + 1 + 1) = False ∧ (b_ps = H.n + 1 + 1 + 1 + 1 + 1 + 1) = False ∧ (b_ps = H.n + 1 + 1 + 1 + 1 + 1 + 1 + 1) = False ∧ (b_ps = H.n + 1 + 1 + 1 + 1 + 1 + 1 + 1 + 1) = False ∧ (b_ps = H.n + 1 + 1 + 1 + 1 + 1 + 1 + 1 + 1 + 1) = False ∧ (b_ps = H.n + 1 + 1 + 1 + 1 + 1 + 1 + 1 + 1 + 1 + 1) = False ∧ (b_ps = H.n + 1 + 1 + 1 + 1 + 1 + 1 + 1 + 1 + 1 + 1 + 1) = False ∧ (b_ps = H.n + 1 + 1 + 1 + 1 + 1 + 1 + 1 + 1 + 1 + 1 + 1 + 1) = False := ⟨eq_false (by omega), eq_false (by omega), eq_false (by omega), eq_false (by omega), eq_false (by omega), eq_false (by omega), eq_false (by omega), eq_false (by omega), eq_false (by omega), eq_false (by omega), eq_false (by omega)⟩
  have hmx_ps : ps.length ≤ 9223372036854775807 := by have h1 := (hwf b_ps k_ps hat_ps.blk).2.2; have h2 := hat_ps.len; omega
  obtain ⟨hok, h⟩ := h
  unfold arePo at h
  simp (config := {contextual := true, implicitDefEqProofs := false, maxSteps := 60000}) [-Int.not_le, -Int.not_lt, argsF, spec_l11Good_c, hat_ps.blk, hat_ps.esz, hat_ps.len, hat_ps.els, hne_ps, hne1_ps, hne2_ps.1, hne2_ps.2.1, hne2_ps.2.2.1, hne2_ps.2.2.2.1, hne2_ps.2.2.2.2.1, hne2_ps.2.2.2.2.2.1, hne2_ps.2.2.2.2.2.2.1, hne2_ps.2.2.2.2.2.2.2.1, hne2_ps.2.2.2.2.2.2.2.2.1, hne2_ps.2.2.2.2.2.2.2.2.2.1, hne2_ps.2.2.2.2.2.2.2.2.2.2]
  refine aloop_list ps (fun j _ => [(0, .c (.sl b_ps i_ps ps.length)), (3, .c (.int .i64 (j)))]) (fun j _ => H) (fun j l _ => (j ≤ ps.length) ∧ K (.c (.bool (poGo (prevOf ps j) l && decide (ps.length ≤ 12)))) H) hE _ () (⟨Nat.zero_le _, by exact h⟩) (.same hwf (by simp [frOk, AV.okR, AV.ok1, AC.okR, AV.ren, AV.ren1, AC.ren, AFrame.get, pl1_old, *]; first | done | omega)) (fun j _ hlt hi => ?_) fun _ hi => ?_
  ·
    obtain ⟨hs, hi⟩ := hi
    have hpn := prevOf_succ hlt
    cases j with
    | zero =>
      have e1 := hat_ps.get hlt
      rw [Nat.add_zero] at e1
      have h0i : (0 : Int) < (ps.length : Int) := by omega
      have hokx := hok _ (List.getElem_mem hlt)
      simp (config := {contextual := true, implicitDefEqProofs := false, maxSteps := 60000}) [-Int.not_le, -Int.not_lt, argsF, spec_l11Good_l0, hat_ps.blk, hat_ps.esz, hat_ps.len, hat_ps.els, hne_ps, hne1_ps, hne2_ps.1, hne2_ps.2.1, hne2_ps.2.2.1, hne2_ps.2.2.2.1, hne2_ps.2.2.2.2.1, hne2_ps.2.2.2.2.2.1, hne2_ps.2.2.2.2.2.2.1, hne2_ps.2.2.2.2.2.2.2.1, hne2_ps.2.2.2.2.2.2.2.2.1, hne2_ps.2.2.2.2.2.2.2.2.2.1, hne2_ps.2.2.2.2.2.2.2.2.2.2, e1, hlt, h0i, wrap_1, hokx]
      simp only [prevOf_0, poGo, decide_eq_true_eq] at hi
      try simp only [ite_not]
      repeat' split
      all_goals try simp only [*, if_true, if_false, reduceCtorEq, Bool.true_and, Bool.false_and, Bool.and_false, Bool.and_true, and_self, and_true, true_and, and_false, false_and, not_true_eq_false, not_false_eq_true] at hi
      all_goals first | ((refine Out.plain hwf ?_ rfl ?_; (repeat first | exact Sub.refl _ | refine Sub.push hwf ?_ _ | refine Sub.set hwf ?_ (by first | exact Nat.le_refl _ | omega) _ | refine Sub.kill hwf ?_ (by first | exact Nat.le_refl _ | omega))); exact hi) | exact ⟨(), ⟨hlt, by rw [hpn]; exact hi⟩, .drop hwf (by (repeat first | exact Sub.refl _ | refine Sub.push hwf ?_ _ | refine Sub.set hwf ?_ (by first | exact Nat.le_refl _ | omega) _ | refine Sub.kill hwf ?_ (by first | exact Nat.le_refl _ | omega))) (by simp [frOk, AV.okR, AV.ok1, AC.okR, AV.ren, AV.ren1, AC.ren, AFrame.get, pl1_old, *]; first | done | omega)⟩ | ((refine Out.plain hwf ?_ rfl ?_; (repeat first | exact Sub.refl _ | refine Sub.push hwf ?_ _ | refine Sub.set hwf ?_ (by first | exact Nat.le_refl _ | omega) _ | refine Sub.kill hwf ?_ (by first | exact Nat.le_refl _ | omega))); simpa using hi)
    | succ j =>
      have hj := Nat.lt_of_succ_lt hlt
      have e1 := hat_ps.get hlt
      have e0 := hat_ps.get hj
      have hpp := prevOf_succ hj
      rw [hpp] at hi
      try rw [hpp] at hs
      have hj1 : (j : Int) + 1 < (ps.length : Int) := by omega
      have hj2 : (j : Int) < (ps.length : Int) := by omega
      have hj3 : (0 : Int) ≤ (j : Int) + 1 := by omega
      have hj4 : (0 : Int) < (j : Int) + 1 := by omega
      have ej : ((j : Int) + 1).toNat = j + 1 := by omega
      have w0 : IntKind.i64.wrap (j : Int) = (j : Int) := wrap_id (by omega) (by omega)
      have w1 : IntKind.i64.wrap ((j : Int) + 1 + 1) = (j : Int) + 1 + 1 := wrap_id (by omega) (by omega)
      have hokx := hok _ (List.getElem_mem hlt)
      simp (config := {contextual := true, implicitDefEqProofs := false, maxSteps := 60000}) [-Int.not_le, -Int.not_lt, argsF, spec_l11Good_l0, hat_ps.blk, hat_ps.esz, hat_ps.len, hat_ps.els, hne_ps, hne1_ps, hne2_ps.1, hne2_ps.2.1, hne2_ps.2.2.1, hne2_ps.2.2.2.1, hne2_ps.2.2.2.2.1, hne2_ps.2.2.2.2.2.1, hne2_ps.2.2.2.2.2.2.1, hne2_ps.2.2.2.2.2.2.2.1, hne2_ps.2.2.2.2.2.2.2.2.1, hne2_ps.2.2.2.2.2.2.2.2.2.1, hne2_ps.2.2.2.2.2.2.2.2.2.2, e1, e0, hlt, hj, hj1, hj2, hj3, hj4, ej, w0, w1, hokx]
      have hc : (ps[j + 1].id ≤ ps[j].id) = ¬ (ps[j].id < ps[j + 1].id) := propext ⟨fun h => by omega, fun h => by omega⟩
      try simp only [hc]
      simp only [prevOf_0, poGo, decide_eq_true_eq] at hi
      try simp only [ite_not]
      repeat' split
      all_goals try simp only [*, if_true, if_false, reduceCtorEq, Bool.true_and, Bool.false_and, Bool.and_false, Bool.and_true, and_self, and_true, true_and, and_false, false_and, not_true_eq_false, not_false_eq_true] at hi
      all_goals first | ((refine Out.plain hwf ?_ rfl ?_; (repeat first | exact Sub.refl _ | refine Sub.push hwf ?_ _ | refine Sub.set hwf ?_ (by first | exact Nat.le_refl _ | omega) _ | refine Sub.kill hwf ?_ (by first | exact Nat.le_refl _ | omega))); exact hi) | exact ⟨(), ⟨hlt, by rw [hpn]; exact hi⟩, .drop hwf (by (repeat first | exact Sub.refl _ | refine Sub.push hwf ?_ _ | refine Sub.set hwf ?_ (by first | exact Nat.le_refl _ | omega) _ | refine Sub.kill hwf ?_ (by first | exact Nat.le_refl _ | omega))) (by simp [frOk, AV.okR, AV.ok1, AC.okR, AV.ren, AV.ren1, AC.ren, AFrame.get, pl1_old, *]; first | done | omega)⟩ | ((refine Out.plain hwf ?_ rfl ?_; (repeat first | exact Sub.refl _ | refine Sub.push hwf ?_ _ | refine Sub.set hwf ?_ (by first | exact Nat.le_refl _ | omega) _ | refine Sub.kill hwf ?_ (by first | exact Nat.le_refl _ | omega))); simpa using hi)
  ·
    obtain ⟨hs, hi⟩ := hi
    simp (config := {contextual := true, implicitDefEqProofs := false, maxSteps := 60000}) [-Int.not_le, -Int.not_lt, argsF, spec_l11Good_l0]
    simp only [prevOf_0, poGo, decide_eq_true_eq] at hi
    rw [Bool.true_and] at hi
    (refine Out.plain hwf ?_ rfl ?_; (repeat first | exact Sub.refl _ | refine Sub.push hwf ?_ _ | refine Sub.set hwf ?_ (by first | exact Nat.le_refl _ | omega) _ | refine Sub.kill hwf ?_ (by first | exact Nat.le_refl _ | omega)))
    have e : decide ((ps.length : Int) ≤ 12) = decide (ps.length ≤ 12) := by rw [decide_eq_decide]; omega
    rw [e]; exact hi

theorem impl_arePostmarks_s : Sound Tryd.prog 64 q_arePo := by
  intro args H K h
  unfold q_arePo at h
  split at h
  rotate_left
  all_goals first | exact False.elim h | skip
  rename_i ps_v
  have h1 := Enc.rd_at h
  clear h
  obtain ⟨b_ps, i_ps, k_ps, ps, rfl, hat_ps, h⟩ := h1
  have hE := soundE_cons impl_isPostmark_s (soundE_nil (P := Tryd.prog))
  refine acalls_fn impl_arePostmarks_k hE ⟨by simp, fun hwf => ?_⟩
  have hb_ps : b_ps < H.n := (hwf b_ps k_ps hat_ps.blk).1
  have hne_ps : (b_ps = H.n) = False := eq_false (by omega)
  have hne1_ps : ∀ i, (b_ps = H.n + i) = False := fun i => eq_false (by omega)
  have hne2_ps : (b_ps = H.n + 1 + 1) = False ∧ (b_ps = H.n + 1 + 1 + 1) = False ∧ (b_ps = H.n + 1 + 1 + 1 + 1) = False ∧ (b_ps = H.n + 1 + 1 + 1 + 1 + 1) = False ∧ (b_ps = H.n + 1 + 1 + 1 + 1 + 1 + 1) = False ∧ (b_ps = H.n + 1 + 1 + 1 + 1 + 1 + 1 + 1) = False ∧ (b_ps = H.n + 1 + 1 + 1 + 1 + 1 + 1 + 1 + 1) = False ∧ (b_ps = H.n + 1 + 1 + 1 + 1 + 1 + 1 + 1 + 1 + 1) = False ∧ (b_ps = H.n + 1 + 1 + 1 + 1 + 1 + 1 + 1 + 1 + 1 + 1) = False ∧ (b_ps = H.n + 1 + 1 + 1 + 1 + 1 + 1 + 1 + 1 + 1 + 1 + 1) = False ∧ (b_ps = H.n + 1 + 1 + 1 + 1 + 1 + 1 + 1 + 1 + 1 + 1 + 1 + 1) = False := ⟨eq_false (by omega), eq_false (by omega), eq_false (by omega), eq_false (by omega), eq_false (by omega), eq_false (by omega), eq_false (by omega), eq_false (by omega), eq_false (by omega), eq_false (by omega), eq_false (by omega)⟩
  have hmx_ps : ps.length ≤ 9223372036854775807 := by have h1 := (hwf b_ps k_ps hat_ps.blk).2.2; have h2 := hat_ps.len; omega
  obtain ⟨hok, h⟩ := h
  unfold arePo at h
  simp (config := {contextual := true, implicitDefEqProofs := false, maxSteps := 60000}) [-Int.not_le, -Int.not_lt, argsF, impl_arePostmarks_c, hat_ps.blk, hat_ps.esz, hat_ps.len, hat_ps.els, hne_ps, hne1_ps, hne2_ps.1, hne2_ps.2.1, hne2_ps.2.2.1, hne2_ps.2.2.2.1, hne2_ps.2.2.2.2.1, hne2_ps.2.2.2.2.2.1, hne2_ps.2.2.2.2.2.2.1, hne2_ps.2.2.2.2.2.2.2.1, hne2_ps.2.2.2.2.2.2.2.2.1, hne2_ps.2.2.2.2.2.2.2.2.2.1, hne2_ps.2.2.2.2.2.2.2.2.2.2]
  refine aloop_list ps (fun j _ => [(0, .c (.sl b_ps i_ps ps.length)), (5, .c (.sl b_ps i_ps ps.length)), (6, .c (.int .i64 ps.length)), (7, .c (.int .i64 (j)))]) (fun j _ => H) (fun j l _ => (j ≤ ps.length) ∧ K (.c (.bool (poGo (prevOf ps j) l && decide (ps.length ≤ 12)))) H) hE _ () (⟨Nat.zero_le _, by exact h⟩) (.same hwf (by simp [frOk, AV.okR, AV.ok1, AC.okR, AV.ren, AV.ren1, AC.ren, AFrame.get, pl1_old, *]; first | done | omega)) (fun j _ hlt hi => ?_) fun _ hi => ?_
  ·
    obtain ⟨hs, hi⟩ := hi
    have hpn := prevOf_succ hlt
    cases j with
    | zero =>
      have e1 := hat_ps.get hlt
      rw [Nat.add_zero] at e1
      have h0i : (0 : Int) < (ps.length : Int) := by omega
      have hokx := hok _ (List.getElem_mem hlt)
      simp (config := {contextual := true, implicitDefEqProofs := false, maxSteps := 60000}) [-Int.not_le, -Int.not_lt, argsF, impl_arePostmarks_l0, hat_ps.blk, hat_ps.esz, hat_ps.len, hat_ps.els, hne_ps, hne1_ps, hne2_ps.1, hne2_ps.2.1, hne2_ps.2.2.1, hne2_ps.2.2.2.1, hne2_ps.2.2.2.2.1, hne2_ps.2.2.2.2.2.1, hne2_ps.2.2.2.2.2.2.1, hne2_ps.2.2.2.2.2.2.2.1, hne2_ps.2.2.2.2.2.2.2.2.1, hne2_ps.2.2.2.2.2.2.2.2.2.1, hne2_ps.2.2.2.2.2.2.2.2.2.2, e1, hlt, h0i, wrap_1, hokx]
      simp only [prevOf_0, poGo, decide_eq_true_eq] at hi
      try simp only [ite_not]
      repeat' split
      all_goals try simp only [*, if_true, if_false, reduceCtorEq, Bool.true_and, Bool.false_and, Bool.and_false, Bool.and_true, and_self, and_true, true_and, and_false, false_and, not_true_eq_false, not_false_eq_true] at hi
      all_goals first | ((refine Out.plain hwf ?_ rfl ?_; (repeat first | exact Sub.refl _ | refine Sub.push hwf ?_ _ | refine Sub.set hwf ?_ (by first | exact Nat.le_refl _ | omega) _ | refine Sub.kill hwf ?_ (by first | exact Nat.le_refl _ | omega))); exact hi) | exact ⟨(), ⟨hlt, by rw [hpn]; exact hi⟩, .drop hwf (by (repeat first | exact Sub.refl _ | refine Sub.push hwf ?_ _ | refine Sub.set hwf ?_ (by first | exact Nat.le_refl _ | omega) _ | refine Sub.kill hwf ?_ (by first | exact Nat.le_refl _ | omega))) (by simp [frOk, AV.okR, AV.ok1, AC.okR, AV.ren, AV.ren1, AC.ren, AFrame.get, pl1_old, *]; first | done | omega)⟩ | ((refine Out.plain hwf ?_ rfl ?_; (repeat first | exact Sub.refl _ | refine Sub.push hwf ?_ _ | refine Sub.set hwf ?_ (by first | exact Nat.le_refl _ | omega) _ | refine Sub.kill hwf ?_ (by first | exact Nat.le_refl _ | omega))); simpa using hi)
    | succ j =>
      have hj := Nat.lt_of_succ_lt hlt
      have e1 := hat_ps.get hlt
      have e0 := hat_ps.get hj
      have hpp := prevOf_succ hj
      rw [hpp] at hi
      try rw [hpp] at hs
      have hj1 : (j : Int) + 1 < (ps.length : Int) := by omega
      have hj2 : (j : Int) < (ps.length : Int) := by omega
      have hj3 : (0 : Int) ≤ (j : Int) + 1 := by omega
      have hj4 : (0 : Int) < (j : Int) + 1 := by omega
      have ej : ((j : Int) + 1).toNat = j + 1 := by omega
      have w0 : IntKind.i64.wrap (j : Int) = (j : Int) := wrap_id (by omega) (by omega)
      have w1 : IntKind.i64.wrap ((j : Int) + 1 + 1) = (j : Int) + 1 + 1 := wrap_id (by omega) (by omega)
      have hokx := hok _ (List.getElem_mem hlt)
      simp (config := {contextual := true, implicitDefEqProofs := false, maxSteps := 60000}) [-Int.not_le, -Int.not_lt, argsF, impl_arePostmarks_l0, hat_ps.blk, hat_ps.esz, hat_ps.len, hat_ps.els, hne_ps, hne1_ps, hne2_ps.1, hne2_ps.2.1, hne2_ps.2.2.1, hne2_ps.2.2.2.1, hne2_ps.2.2.2.2.1, hne2_ps.2.2.2.2.2.1, hne2_ps.2.2.2.2.2.2.1, hne2_ps.2.2.2.2.2.2.2.1, hne2_ps.2.2.2.2.2.2.2.2.1, hne2_ps.2.2.2.2.2.2.2.2.2.1, hne2_ps.2.2.2.2.2.2.2.2.2.2, e1, e0, hlt, hj, hj1, hj2, hj3, hj4, ej, w0, w1, hokx]
      have hc : (ps[j + 1].id ≤ ps[j].id) = ¬ (ps[j].id < ps[j + 1].id) := propext ⟨fun h => by omega, fun h => by omega⟩
      try simp only [hc]
      simp only [prevOf_0, poGo, decide_eq_true_eq] at hi
      try simp only [ite_not]
      repeat' split
      all_goals try simp only [*, if_true, if_false, reduceCtorEq, Bool.true_and, Bool.false_and, Bool.and_false, Bool.and_true, and_self, and_true, true_and, and_false, false_and, not_true_eq_false, not_false_eq_true] at hi
      all_goals first | ((refine Out.plain hwf ?_ rfl ?_; (repeat first | exact Sub.refl _ | refine Sub.push hwf ?_ _ | refine Sub.set hwf ?_ (by first | exact Nat.le_refl _ | omega) _ | refine Sub.kill hwf ?_ (by first | exact Nat.le_refl _ | omega))); exact hi) | exact ⟨(), ⟨hlt, by rw [hpn]; exact hi⟩, .drop hwf (by (repeat first | exact Sub.refl _ | refine Sub.push hwf ?_ _ | refine Sub.set hwf ?_ (by first | exact Nat.le_refl _ | omega) _ | refine Sub.kill hwf ?_ (by first | exact Nat.le_refl _ | omega))) (by simp [frOk, AV.okR, AV.ok1, AC.okR, AV.ren, AV.ren1, AC.ren, AFrame.get, pl1_old, *]; first | done | omega)⟩ | ((refine Out.plain hwf ?_ rfl ?_; (repeat first | exact Sub.refl _ | refine Sub.push hwf ?_ _ | refine Sub.set hwf ?_ (by first | exact Nat.le_refl _ | omega) _ | refine Sub.kill hwf ?_ (by first | exact Nat.le_refl _ | omega))); simpa using hi)
  ·
    obtain ⟨hs, hi⟩ := hi
    simp (config := {contextual := true, implicitDefEqProofs := false, maxSteps := 60000}) [-Int.not_le, -Int.not_lt, argsF, impl_arePostmarks_l0]
    simp only [prevOf_0, poGo, decide_eq_true_eq] at hi
    rw [Bool.true_and] at hi
    (refine Out.plain hwf ?_ rfl ?_; (repeat first | exact Sub.refl _ | refine Sub.push hwf ?_ _ | refine Sub.set hwf ?_ (by first | exact Nat.le_refl _ | omega) _ | refine Sub.kill hwf ?_ (by first | exact Nat.le_refl _ | omega)))
    have e : decide ((ps.length : Int) ≤ 12) = decide (ps.length ≤ 12) := by rw [decide_eq_decide]; omega
    rw [e]; exact hi

theorem impl_ArePostmarks_s : Sound Tryd.prog 24 q_arePo := by
  intro args H K h
  unfold q_arePo at h
  split at h
  rotate_left
  all_goals first | exact False.elim h | skip
  rename_i ps_v
  have h1 := Enc.rd_at h
  clear h
  obtain ⟨b_ps, i_ps, k_ps, ps, rfl, hat_ps, h⟩ := h1
  have hE := soundE_cons impl_arePostmarks_s (soundE_nil (P := Tryd.prog))
  refine acalls_fn impl_ArePostmarks_k hE ⟨by simp, fun hwf => ?_⟩
  have hb_ps : b_ps < H.n := (hwf b_ps k_ps hat_ps.blk).1
  have hne_ps : (b_ps = H.n) = False := eq_false (by omega)
  have hne1_ps : ∀ i, (b_ps = H.n + i) = False := fun i => eq_false (by omega)
  have hne2_ps : (b_ps = H.n + 1 + 1) = False ∧ (b_ps = H.n + 1 + 1 + 1) = False ∧ (b_ps = H.n + 1 + 1 + 1 + 1) = False ∧ (b_ps = H.n + 1 + 1 + 1 + 1 + 1) = False ∧ (b_ps = H.n + 1 + 1 + 1 + 1 + 1 + 1) = False ∧ (b_ps = H.n + 1 + 1 + 1 + 1 + 1 + 1 + 1) = False ∧ (b_ps = H.n + 1 + 1 + 1 + 1 + 1 + 1 + 1 + 1) = False ∧ (b_ps = H.n + 1 + 1 + 1 + 1 + 1 + 1 + 1 + 1 + 1) = False ∧ (b_ps = H.n + 1 + 1 + 1 + 1 + 1 + 1 + 1 + 1 + 1 + 1) = False ∧ (b_ps = H.n + 1 + 1 + 1 + 1 + 1 + 1 + 1 + 1 + 1 + 1 + 1) = False ∧ (b_ps = H.n + 1 + 1 + 1 + 1 + 1 + 1 + 1 + 1 + 1 + 1 + 1 + 1) = False := ⟨eq_false (by omega), eq_false (by omega), eq_false (by omega), eq_false (by omega), eq_false (by omega), eq_false (by omega), eq_false (by omega), eq_false (by omega), eq_false (by omega), eq_false (by omega), eq_false (by omega)⟩
  have hmx_ps : ps.length ≤ 9223372036854775807 := by have h1 := (hwf b_ps k_ps hat_ps.blk).2.2; have h2 := hat_ps.len; omega
  obtain ⟨hok, h⟩ := h
  simp (config := {contextual := true, implicitDefEqProofs := false, maxSteps := 60000}) [-Int.not_le, -Int.not_lt, argsF, impl_ArePostmarks_c, hat_ps.blk, hat_ps.esz, hat_ps.len, hat_ps.els, hne_ps, hne1_ps, hne2_ps.1, hne2_ps.2.1, hne2_ps.2.2.1, hne2_ps.2.2.2.1, hne2_ps.2.2.2.2.1, hne2_ps.2.2.2.2.2.1, hne2_ps.2.2.2.2.2.2.1, hne2_ps.2.2.2.2.2.2.2.1, hne2_ps.2.2.2.2.2.2.2.2.1, hne2_ps.2.2.2.2.2.2.2.2.2.1, hne2_ps.2.2.2.2.2.2.2.2.2.2, hok]
  (refine Out.plain hwf ?_ rfl ?_; (repeat first | exact Sub.refl _ | refine Sub.push hwf ?_ _ | refine Sub.set hwf ?_ (by first | exact Nat.le_refl _ | omega) _ | refine Sub.kill hwf ?_ (by first | exact Nat.le_refl _ | omega))); exact h

theorem spec_ArePostmarks_s : Sound Tryd.prog 22 q_arePo := by
  intro args H K h
  unfold q_arePo at h
  split at h
  rotate_left
  all_goals first | exact False.elim h | skip
  rename_i ps_v
  have h1 := Enc.rd_at h
  clear h
  obtain ⟨b_ps, i_ps, k_ps, ps, rfl, hat_ps, h⟩ := h1
  have hE := soundE_cons spec_l11Good_s (soundE_nil (P := Tryd.prog))
  refine acalls_fn spec_ArePostmarks_k hE ⟨by simp, fun hwf => ?_⟩
  have hb_ps : b_ps < H.n := (hwf b_ps k_ps hat_ps.blk).1
  have hne_ps : (b_ps = H.n) = False := eq_false (by omega)
  have hne1_ps : ∀ i, (b_ps = H.n + i) = False := fun i => eq_false (by omega)
  have hne2_ps : (b_ps = H.n + 1 + 1) = False ∧ (b_ps = H.n + 1 + 1 + 1) = False ∧ (b_ps = H.n + 1 + 1 + 1 + 1) = False ∧ (b_ps = H.n + 1 + 1 + 1 + 1 + 1) = False ∧ (b_ps = H.n + 1 + 1 + 1 + 1 + 1 + 1) = False ∧ (b_ps = H.n + 1 + 1 + 1 + 1 + 1 + 1 + 1) = False ∧ (b_ps = H.n + 1 + 1 + 1 + 1 + 1 + 1 + 1 + 1) = False ∧ (b_ps = H.n + 1 + 1 + 1 + 1 + 1 + 1 + 1 + 1 + 1) = False ∧ (b_ps = H.n + 1 + 1 + 1 + 1 + 1 + 1 + 1 + 1 + 1 + 1) = False ∧ (b_ps = H.n + 1 + 1 + 1 + 1 + 1 + 1 + 1 + 1 + 1 + 1 + 1) = False ∧ (b_ps = H.n + 1 + 1 + 1 + 1 + 1 + 1 + 1 + 1 + 1 + 1 + 1 + 1) = False := ⟨eq_false (by omega), eq_false (by omega), eq_false (by omega), eq_false (by omega), eq_false (by omega), eq_false (by omega), eq_false (by omega), eq_false (by omega), eq_false (by omega), eq_false (by omega), eq_false (by omega)⟩
  have hmx_ps : ps.length ≤ 9223372036854775807 := by have h1 := (hwf b_ps k_ps hat_ps.blk).2.2; have h2 := hat_ps.len; omega
  obtain ⟨hok, h⟩ := h
  simp (config := {contextual := true, implicitDefEqProofs := false, maxSteps := 60000}) [-Int.not_le, -Int.not_lt, argsF, spec_ArePostmarks_c, hat_ps.blk, hat_ps.esz, hat_ps.len, hat_ps.els, hne_ps, hne1_ps, hne2_ps.1, hne2_ps.2.1, hne2_ps.2.2.1, hne2_ps.2.2.2.1, hne2_ps.2.2.2.2.1, hne2_ps.2.2.2.2.2.1, hne2_ps.2.2.2.2.2.2.1, hne2_ps.2.2.2.2.2.2.2.1, hne2_ps.2.2.2.2.2.2.2.2.1, hne2_ps.2.2.2.2.2.2.2.2.2.1, hne2_ps.2.2.2.2.2.2.2.2.2.2, hok]
  (refine Out.plain hwf ?_ rfl ?_; (repeat first | exact Sub.refl _ | refine Sub.push hwf ?_ _ | refine Sub.set hwf ?_ (by first | exact Nat.le_refl _ | omega) _ | refine Sub.kill hwf ?_ (by first | exact Nat.le_refl _ | omega))); exact h

theorem impl_IsPostmark_s : Sound Tryd.prog 18 q_isPo := by
  intro args H K h
  unfold q_isPo at h
  split at h
  rotate_left
  all_goals first | exact False.elim h | skip
  rename_i p_e
  have h1 := onv_iff.1 h
  clear h
  obtain ⟨p, hd_p, h⟩ := h1
  obtain rfl := ePo.cd _ _ hd_p
  clear hd_p
  have hE := soundE_cons impl_isPostmark_s (soundE_nil (P := Tryd.prog))
  refine acalls_fn impl_IsPostmark_k hE ⟨by simp, fun hwf => ?_⟩
  obtain ⟨hok, h⟩ := h
  simp (config := {contextual := true, implicitDefEqProofs := false, maxSteps := 60000}) [-Int.not_le, -Int.not_lt, argsF, impl_IsPostmark_c, hok]
  (refine Out.plain hwf ?_ rfl ?_; (repeat first | exact Sub.refl _ | refine Sub.push hwf ?_ _ | refine Sub.set hwf ?_ (by first | exact Nat.le_refl _ | omega) _ | refine Sub.kill hwf ?_ (by first | exact Nat.le_refl _ | omega))); exact h

theorem spec_IsPostmark_s : Sound Tryd.prog 16 q_isPo := by
  intro args H K h
  unfold q_isPo at h
  split at h
  rotate_left
  all_goals first | exact False.elim h | skip
  rename_i p_e
  have h1 := onv_iff.1 h
  clear h
  obtain ⟨p, hd_p, h⟩ := h1
  obtain rfl := ePo.cd _ _ hd_p
  clear hd_p
  have hE := soundE_cons spec_l11One_s (soundE_nil (P := Tryd.prog))
  refine acalls_fn spec_IsPostmark_k hE ⟨by simp, fun hwf => ?_⟩
  obtain ⟨hok, h⟩ := h
  simp (config := {contextual := true, implicitDefEqProofs := false, maxSteps := 60000}) [-Int.not_le, -Int.not_lt, argsF, spec_IsPostmark_c, hok]
  (refine Out.plain hwf ?_ rfl ?_; (repeat first | exact Sub.refl _ | refine Sub.push hwf ?_ _ | refine Sub.set hwf ?_ (by first | exact Nat.le_refl _ | omega) _ | refine Sub.kill hwf ?_ (by first | exact Nat.le_refl _ | omega))); exact h

end Go.Proofs.YtnehhdcaknppnaaDoor
