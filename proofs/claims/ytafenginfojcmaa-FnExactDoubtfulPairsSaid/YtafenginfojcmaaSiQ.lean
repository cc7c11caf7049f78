/- The sightings: what is valid. -/
import Derived.Test.YtafenginfojcmaaNest
import Derived.Test.YtafenginfojcmaaSiC
set_option maxRecDepth 8000
set_option linter.unusedSimpArgs false
set_option linter.unusedVariables false
namespace Go.Proofs.Ytafenginfojcmaa
open Go Go.RowKit

def q_inRange : Con := fun args H K => match args with
  | [.c (.int .i64 n), .c (.int .i64 lo), .c (.int .i64 hi)] => K (.c (.bool (inR n lo hi))) H
  | _ => False
@[simp ↓] theorem q_inRange_eq (n : Int) (lo : Int) (hi : Int) (H : AHeap) (K : AV → AHeap → Prop) : q_inRange [.c (.int .i64 n), .c (.int .i64 lo), .c (.int .i64 hi)] H K = (K (.c (.bool (inR n lo hi))) H) := rfl

theorem impl_inRange_s : Sound Try.prog 41 q_inRange := by
  intro args H K h
  unfold q_inRange at h
  split at h
  rotate_left
  all_goals first | exact False.elim h | skip
  rename_i n lo hi
  have hE := soundE_nil (P := Try.prog)
  refine acalls_fn impl_inRange_k hE ⟨by simp, fun hwf => ?_⟩
  simp (config := {contextual := true, implicitDefEqProofs := false, maxSteps := 60000}) [-Int.not_le, -Int.not_lt, argsF, impl_inRange_c]
  split <;> ((refine Out.plain hwf ?_ rfl ?_; (repeat first | exact Sub.refl _ | refine Sub.push hwf ?_ _ | refine Sub.set hwf ?_ (by first | exact Nat.le_refl _ | omega | (simp only [push_n, set_n, kill_n]; omega)) _ | refine Sub.kill hwf ?_ (by first | exact Nat.le_refl _ | omega | (simp only [push_n, set_n, kill_n]; omega)))); simp_all [inR])

theorem spec_l1In_s : Sound Try.prog 68 q_inRange := by
  intro args H K h
  unfold q_inRange at h
  split at h
  rotate_left
  all_goals first | exact False.elim h | skip
  rename_i n lo hi
  have hE := soundE_nil (P := Try.prog)
  refine acalls_fn spec_l1In_k hE ⟨by simp, fun hwf => ?_⟩
  simp (config := {contextual := true, implicitDefEqProofs := false, maxSteps := 60000}) [-Int.not_le, -Int.not_lt, argsF, spec_l1In_c]
  split <;> ((refine Out.plain hwf ?_ rfl ?_; (repeat first | exact Sub.refl _ | refine Sub.push hwf ?_ _ | refine Sub.set hwf ?_ (by first | exact Nat.le_refl _ | omega | (simp only [push_n, set_n, kill_n]; omega)) _ | refine Sub.kill hwf ?_ (by first | exact Nat.le_refl _ | omega | (simp only [push_n, set_n, kill_n]; omega)))); simp_all [inR])

def q_limit : Con := fun args H K => match args with
  | [.c (.int .i64 n)] => K (.c (.bool (inR n (-30) 16))) H
  | _ => False
@[simp ↓] theorem q_limit_eq (n : Int) (H : AHeap) (K : AV → AHeap → Prop) : q_limit [.c (.int .i64 n)] H K = (K (.c (.bool (inR n (-30) 16))) H) := rfl

theorem spec_l13Limit_s : Sound Try.prog 45 q_limit := by
  intro args H K h
  unfold q_limit at h
  split at h
  rotate_left
  all_goals first | exact False.elim h | skip
  rename_i n
  have hE := soundE_cons spec_l1In_s (soundE_nil (P := Try.prog))
  refine acalls_fn spec_l13Limit_k hE ⟨by simp, fun hwf => ?_⟩
  simp (config := {contextual := true, implicitDefEqProofs := false, maxSteps := 60000}) [-Int.not_le, -Int.not_lt, argsF, spec_l13Limit_c]
  (refine Out.plain hwf ?_ rfl ?_; (repeat first | exact Sub.refl _ | refine Sub.push hwf ?_ _ | refine Sub.set hwf ?_ (by first | exact Nat.le_refl _ | omega | (simp only [push_n, set_n, kill_n]; omega)) _ | refine Sub.kill hwf ?_ (by first | exact Nat.le_refl _ | omega | (simp only [push_n, set_n, kill_n]; omega)))); exact h

def wordGo (n : Nat) : List UInt8 → Bool
  | [] => inR n 1 10
  | c :: r => if (c.toNat : Int) < 97 then false else if 122 < (c.toNat : Int) then false else wordGo n r
def isWord (s : List UInt8) : Bool := wordGo s.length s

def q_word : Con := fun args H K => match args with
  | [.c (.str s)] => s.length ≤ 9223372036854775807 ∧ K (.c (.bool (isWord s))) H
  | _ => False
@[simp ↓] theorem q_word_eq (s : List UInt8) (H : AHeap) (K : AV → AHeap → Prop) : q_word [.c (.str s)] H K = (s.length ≤ 9223372036854775807 ∧ K (.c (.bool (isWord s))) H) := rfl

theorem impl_isWord_s : Sound Try.prog 58 q_word := by
  intro args H K h
  unfold q_word at h
  split at h
  rotate_left
  all_goals first | exact False.elim h | skip
  rename_i s
  have hE := soundE_cons impl_inRange_s (soundE_nil (P := Try.prog))
  refine acalls_fn impl_isWord_k hE ⟨by simp, fun hwf => ?_⟩
  obtain ⟨hms, h⟩ := h
  unfold isWord at h
  simp (config := {contextual := true, implicitDefEqProofs := false, maxSteps := 60000}) [-Int.not_le, -Int.not_lt, argsF, impl_isWord_c]
  refine aloop_list s (fun j _ => [(0, .c (.str (s))), (5, .c (.int .i64 ((s.length : Int)))), (6, .c (.int .i64 (j)))]) (fun j _ => H) (fun j l _ => K (.c (.bool (wordGo s.length l))) H) hE _ (()) (h) (.same hwf (by simp [frOk, AV.okR, AV.ok1, AC.okR, AV.ren, AV.ren1, AC.ren, AFrame.get, pl1_old, *]; first | done | rfl | omega)) (fun j _ hlt hi => ?_) fun _ hi => ?_
  ·
    have hj1 := idx_lt hlt
    have w1 : IntKind.i64.wrap ((j : Int) + 1) = (j : Int) + 1 := wrap_id (by omega) (by omega)
    have hcg : s[j]? = some s[j] := List.getElem?_eq_getElem hlt
    simp (config := {contextual := true, implicitDefEqProofs := false, maxSteps := 60000}) [-Int.not_le, -Int.not_lt, argsF, impl_isWord_l0, hj1, w1, hcg, hlt]
    simp only [wordGo] at hi
    repeat' split
    all_goals try simp only [*, if_true, if_false, reduceCtorEq, and_self, and_true, true_and, and_false, false_and, not_true_eq_false, not_false_eq_true] at hi
    all_goals first | ((refine Out.plain hwf ?_ rfl ?_; (repeat first | exact Sub.refl _ | refine Sub.push hwf ?_ _ | refine Sub.set hwf ?_ (by first | exact Nat.le_refl _ | omega | (simp only [push_n, set_n, kill_n]; omega)) _ | refine Sub.kill hwf ?_ (by first | exact Nat.le_refl _ | omega | (simp only [push_n, set_n, kill_n]; omega)))); exact hi) | exact ⟨(), hi, .drop hwf (by (repeat first | exact Sub.refl _ | refine Sub.push hwf ?_ _ | refine Sub.set hwf ?_ (by first | exact Nat.le_refl _ | omega | (simp only [push_n, set_n, kill_n]; omega)) _ | refine Sub.kill hwf ?_ (by first | exact Nat.le_refl _ | omega | (simp only [push_n, set_n, kill_n]; omega)))) (by simp [frOk, AV.okR, AV.ok1, AC.okR, AV.ren, AV.ren1, AC.ren, AFrame.get, pl1_old, *]; first | done | rfl | omega)⟩
  ·
    simp (config := {contextual := true, implicitDefEqProofs := false, maxSteps := 60000}) [-Int.not_le, -Int.not_lt, argsF, impl_isWord_l0]
    simp only [wordGo] at hi
    (refine Out.plain hwf ?_ rfl ?_; (repeat first | exact Sub.refl _ | refine Sub.push hwf ?_ _ | refine Sub.set hwf ?_ (by first | exact Nat.le_refl _ | omega | (simp only [push_n, set_n, kill_n]; omega)) _ | refine Sub.kill hwf ?_ (by first | exact Nat.le_refl _ | omega | (simp only [push_n, set_n, kill_n]; omega)))); exact hi

theorem spec_l2Word_s : Sound Try.prog 74 q_word := by
  intro args H K h
  unfold q_word at h
  split at h
  rotate_left
  all_goals first | exact False.elim h | skip
  rename_i s
  have hE := soundE_cons spec_l1In_s (soundE_nil (P := Try.prog))
  refine acalls_fn spec_l2Word_k hE ⟨by simp, fun hwf => ?_⟩
  obtain ⟨hms, h⟩ := h
  unfold isWord at h
  simp (config := {contextual := true, implicitDefEqProofs := false, maxSteps := 60000}) [-Int.not_le, -Int.not_lt, argsF, spec_l2Word_c]
  refine aloop_list s (fun j _ => [(0, .c (.str (s))), (3, .c (.int .i64 (j)))]) (fun j _ => H) (fun j l _ => K (.c (.bool (wordGo s.length l))) H) hE _ (()) (h) (.same hwf (by simp [frOk, AV.okR, AV.ok1, AC.okR, AV.ren, AV.ren1, AC.ren, AFrame.get, pl1_old, *]; first | done | rfl | omega)) (fun j _ hlt hi => ?_) fun _ hi => ?_
  ·
    have hj1 := idx_lt hlt
    have w1 : IntKind.i64.wrap ((j : Int) + 1) = (j : Int) + 1 := wrap_id (by omega) (by omega)
    have hcg : s[j]? = some s[j] := List.getElem?_eq_getElem hlt
    simp (config := {contextual := true, implicitDefEqProofs := false, maxSteps := 60000}) [-Int.not_le, -Int.not_lt, argsF, spec_l2Word_l0, hj1, w1, hcg, hlt]
    simp only [wordGo] at hi
    repeat' split
    all_goals try simp only [*, if_true, if_false, reduceCtorEq, and_self, and_true, true_and, and_false, false_and, not_true_eq_false, not_false_eq_true] at hi
    all_goals first | ((refine Out.plain hwf ?_ rfl ?_; (repeat first | exact Sub.refl _ | refine Sub.push hwf ?_ _ | refine Sub.set hwf ?_ (by first | exact Nat.le_refl _ | omega | (simp only [push_n, set_n, kill_n]; omega)) _ | refine Sub.kill hwf ?_ (by first | exact Nat.le_refl _ | omega | (simp only [push_n, set_n, kill_n]; omega)))); exact hi) | exact ⟨(), hi, .drop hwf (by (repeat first | exact Sub.refl _ | refine Sub.push hwf ?_ _ | refine Sub.set hwf ?_ (by first | exact Nat.le_refl _ | omega | (simp only [push_n, set_n, kill_n]; omega)) _ | refine Sub.kill hwf ?_ (by first | exact Nat.le_refl _ | omega | (simp only [push_n, set_n, kill_n]; omega)))) (by simp [frOk, AV.okR, AV.ok1, AC.okR, AV.ren, AV.ren1, AC.ren, AFrame.get, pl1_old, *]; first | done | rfl | omega)⟩
  ·
    simp (config := {contextual := true, implicitDefEqProofs := false, maxSteps := 60000}) [-Int.not_le, -Int.not_lt, argsF, spec_l2Word_l0]
    simp only [wordGo] at hi
    (refine Out.plain hwf ?_ rfl ?_; (repeat first | exact Sub.refl _ | refine Sub.push hwf ?_ _ | refine Sub.set hwf ?_ (by first | exact Nat.le_refl _ | omega | (simp only [push_n, set_n, kill_n]; omega)) _ | refine Sub.kill hwf ?_ (by first | exact Nat.le_refl _ | omega | (simp only [push_n, set_n, kill_n]; omega)))); exact hi

def risGo (lo hi : Int) : Option Int → List Int → Bool
  | _, [] => true
  | o, x :: r => if inR x lo hi = true then (if (match o with | none => true | some p => decide (p < x)) = true then risGo lo hi (some x) r else false) else false
def ascGo : Option Int → List Int → Bool
  | _, [] => true
  | o, x :: r => if (match o with | none => true | some p => decide (p < x)) = true then ascGo (some x) r else false
theorem risGo_eq (lo hi : Int) : ∀ (o : Option Int) (l : List Int), risGo lo hi o l = (ascGo o l && !(l.any fun c => !inR c lo hi))
  | _, [] => by simp [risGo, ascGo]
  | o, x :: r => by
    simp only [risGo, ascGo, risGo_eq lo hi (some x) r, List.any_cons]
    by_cases hx : inR x lo hi = true
    · simp only [hx, if_true]; split <;> simp [Bool.and_assoc]
    · simp [hx]
theorem ascGo_tail : ∀ (l : List Int), ascGo none l = ascGo (prevOf l 1) l.tail
  | [] => rfl
  | x :: r => by simp [ascGo, prevOf]
theorem ixOf_any {p : Int → Bool} : ∀ (l : List Int) (j : Nat), decide (0 ≤ ixOf p l j) = l.any p
  | [], j => by simp [ixOf]
  | x :: r, j => by
    simp only [ixOf, List.any_cons]
    by_cases hx : p x = true
    · simp [hx]
    · simp only [hx, if_false, Bool.false_or, reduceCtorEq]; exact ixOf_any r (j + 1)

def q_rising : Con := fun args H K => match args with
  | [ps_v, .c (.int .i64 lo), .c (.int .i64 up)] => eI.rd H (fun ps => K (.c (.bool (risGo lo up none ps))) H) ps_v
  | _ => False
@[simp ↓] theorem q_rising_eq (ps_v : AV) (lo : Int) (up : Int) (H : AHeap) (K : AV → AHeap → Prop) : q_rising [ps_v, .c (.int .i64 lo), .c (.int .i64 up)] H K = (eI.rd H (fun ps => K (.c (.bool (risGo lo up none ps))) H) ps_v) := rfl

theorem spec_l1Rising_s : Sound Try.prog 75 q_rising := by
  intro args H K h
  unfold q_rising at h
  split at h
  rotate_left
  all_goals first | exact False.elim h | skip
  rename_i ps_v lo up
  have h1 := Enc.rd_at h
  clear h
  obtain ⟨b_ps, i_ps, k_ps, ps, rfl, hat_ps, h⟩ := h1
  have hE := soundE_cons spec_l1In_s (soundE_nil (P := Try.prog))
  refine acalls_fn spec_l1Rising_k hE ⟨by simp, fun hwf => ?_⟩
  have hb_ps : b_ps < H.n := (hwf b_ps k_ps hat_ps.blk).1
  have hne_ps : (b_ps = H.n) = False := eq_false (by omega)
  have hne1_ps : ∀ i, (b_ps = H.n + i) = False := fun i => eq_false (by omega)
  have hne2_ps : (b_ps = H.n + 1 + 1) = False ∧ (b_ps = H.n + 1 + 1 + 1) = False ∧ (b_ps = H.n + 1 + 1 + 1 + 1) = False ∧ (b_ps = H.n + 1 + 1 + 1 + 1 + 1) = False ∧ (b_ps = H.n + 1 + 1 + 1 + 1 + 1 + 1) = False ∧ (b_ps = H.n + 1 + 1 + 1 + 1 + 1 + 1 + 1) = False ∧ (b_ps = H.n + 1 + 1 + 1 + 1 + 1 + 1 + 1 + 1) = False ∧ (b_ps = H.n + 1 + 1 + 1 + 1 + 1 + 1 + 1 + 1 + 1) = False ∧ (b_ps = H.n + 1 + 1 + 1 + 1 + 1 + 1 + 1 + 1 + 1 + 1) = False ∧ (b_ps = H.n + 1 + 1 + 1 + 1 + 1 + 1 + 1 + 1 + 1 + 1 + 1) = False ∧ (b_ps = H.n + 1 + 1 + 1 + 1 + 1 + 1 + 1 + 1 + 1 + 1 + 1 + 1) = False := ⟨eq_false (by omega), eq_false (by omega), eq_false (by omega), eq_false (by omega), eq_false (by omega), eq_false (by omega), eq_false (by omega), eq_false (by omega), eq_false (by omega), eq_false (by omega), eq_false (by omega)⟩
  have hmx_ps : ps.length ≤ 9223372036854775807 := by have h1 := (hwf b_ps k_ps hat_ps.blk).2.2; have h2 := hat_ps.len; omega
  simp (config := {contextual := true, implicitDefEqProofs := false, maxSteps := 60000}) [-Int.not_le, -Int.not_lt, argsF, spec_l1Rising_c, hat_ps.blk, hat_ps.esz, hat_ps.len, hat_ps.els, hne_ps, hne1_ps, hne2_ps.1, hne2_ps.2.1, hne2_ps.2.2.1, hne2_ps.2.2.2.1, hne2_ps.2.2.2.2.1, hne2_ps.2.2.2.2.2.1, hne2_ps.2.2.2.2.2.2.1, hne2_ps.2.2.2.2.2.2.2.1, hne2_ps.2.2.2.2.2.2.2.2.1, hne2_ps.2.2.2.2.2.2.2.2.2.1, hne2_ps.2.2.2.2.2.2.2.2.2.2]
  refine aloop_list ps (fun j _ => [(0, .c (.sl b_ps i_ps ps.length)), (1, .c (.int .i64 (lo))), (2, .c (.int .i64 (up))), (7, .c (.int .i64 (j)))]) (fun j _ => H) (fun j l _ => (j ≤ ps.length) ∧ K (.c (.bool (risGo lo up (prevOf ps j) l))) H) hE _ () (⟨Nat.zero_le _, by exact h⟩) (.same hwf (by simp [frOk, AV.okR, AV.ok1, AC.okR, AV.ren, AV.ren1, AC.ren, AFrame.get, pl1_old, *]; first | done | rfl | omega)) (fun j _ hlt hi => ?_) fun _ hi => ?_
  ·
    obtain ⟨hs, hi⟩ := hi
    have hpn := prevOf_succ hlt
    cases j with
    | zero =>
      have e1 := hat_ps.get hlt
      rw [Nat.add_zero] at e1
      have h0i : (0 : Int) < (ps.length : Int) := by omega
      simp (config := {contextual := true, implicitDefEqProofs := false, maxSteps := 60000}) [-Int.not_le, -Int.not_lt, argsF, spec_l1Rising_l0, hat_ps.blk, hat_ps.esz, hat_ps.len, hat_ps.els, hne_ps, hne1_ps, hne2_ps.1, hne2_ps.2.1, hne2_ps.2.2.1, hne2_ps.2.2.2.1, hne2_ps.2.2.2.2.1, hne2_ps.2.2.2.2.2.1, hne2_ps.2.2.2.2.2.2.1, hne2_ps.2.2.2.2.2.2.2.1, hne2_ps.2.2.2.2.2.2.2.2.1, hne2_ps.2.2.2.2.2.2.2.2.2.1, hne2_ps.2.2.2.2.2.2.2.2.2.2, e1, hlt, h0i, wrap_1]
      simp only [prevOf_0, risGo, decide_eq_true_eq] at hi
      try simp only [ite_not]
      repeat' split
      all_goals try simp only [*, if_true, if_false, reduceCtorEq, Bool.true_and, Bool.false_and, Bool.and_false, Bool.and_true, and_self, and_true, true_and, and_false, false_and, not_true_eq_false, not_false_eq_true] at hi
      all_goals first | ((refine Out.plain hwf ?_ rfl ?_; (repeat first | exact Sub.refl _ | refine Sub.push hwf ?_ _ | refine Sub.set hwf ?_ (by first | exact Nat.le_refl _ | omega | (simp only [push_n, set_n, kill_n]; omega)) _ | refine Sub.kill hwf ?_ (by first | exact Nat.le_refl _ | omega | (simp only [push_n, set_n, kill_n]; omega)))); exact hi) | exact ⟨(), ⟨hlt, by rw [hpn]; exact hi⟩, .drop hwf (by (repeat first | exact Sub.refl _ | refine Sub.push hwf ?_ _ | refine Sub.set hwf ?_ (by first | exact Nat.le_refl _ | omega | (simp only [push_n, set_n, kill_n]; omega)) _ | refine Sub.kill hwf ?_ (by first | exact Nat.le_refl _ | omega | (simp only [push_n, set_n, kill_n]; omega)))) (by simp [frOk, AV.okR, AV.ok1, AC.okR, AV.ren, AV.ren1, AC.ren, AFrame.get, pl1_old, *]; first | done | rfl | omega)⟩ | ((refine Out.plain hwf ?_ rfl ?_; (repeat first | exact Sub.refl _ | refine Sub.push hwf ?_ _ | refine Sub.set hwf ?_ (by first | exact Nat.le_refl _ | omega | (simp only [push_n, set_n, kill_n]; omega)) _ | refine Sub.kill hwf ?_ (by first | exact Nat.le_refl _ | omega | (simp only [push_n, set_n, kill_n]; omega)))); simpa using hi)
    | succ j =>
      have hj := Nat.lt_of_succ_lt hlt
      have e1 := hat_ps.get hlt
      have e0 := hat_ps.get hj
      have hpp := prevOf_succ hj
      rw [hpp] at hi
      try rw [hpp] at hs
      have hj1 : (j : Int) + 1 < (ps.length : Int) := by omega
      have hj2 : (j : Int) < (ps.length : Int) := by omega
      have hj3 : (0 : Int) ≤ (j : Int) + 1 := by omega
      have hj4 : (0 : Int) < (j : Int) + 1 := by omega
      have ej : ((j : Int) + 1).toNat = j + 1 := by omega
      have w0 : IntKind.i64.wrap (j : Int) = (j : Int) := wrap_id (by omega) (by omega)
      have w1 : IntKind.i64.wrap ((j : Int) + 1 + 1) = (j : Int) + 1 + 1 := wrap_id (by omega) (by omega)
      simp (config := {contextual := true, implicitDefEqProofs := false, maxSteps := 60000}) [-Int.not_le, -Int.not_lt, argsF, spec_l1Rising_l0, hat_ps.blk, hat_ps.esz, hat_ps.len, hat_ps.els, hne_ps, hne1_ps, hne2_ps.1, hne2_ps.2.1, hne2_ps.2.2.1, hne2_ps.2.2.2.1, hne2_ps.2.2.2.2.1, hne2_ps.2.2.2.2.2.1, hne2_ps.2.2.2.2.2.2.1, hne2_ps.2.2.2.2.2.2.2.1, hne2_ps.2.2.2.2.2.2.2.2.1, hne2_ps.2.2.2.2.2.2.2.2.2.1, hne2_ps.2.2.2.2.2.2.2.2.2.2, e1, e0, hlt, hj, hj1, hj2, hj3, hj4, ej, w0, w1]
      have hc : (ps[j + 1] ≤ ps[j]) = ¬ (ps[j] < ps[j + 1]) := propext ⟨fun h => by omega, fun h => by omega⟩
      simp only [hc]
      simp only [prevOf_0, risGo, decide_eq_true_eq] at hi
      try simp only [ite_not]
      repeat' split
      all_goals try simp only [*, if_true, if_false, reduceCtorEq, Bool.true_and, Bool.false_and, Bool.and_false, Bool.and_true, and_self, and_true, true_and, and_false, false_and, not_true_eq_false, not_false_eq_true] at hi
      all_goals first | ((refine Out.plain hwf ?_ rfl ?_; (repeat first | exact Sub.refl _ | refine Sub.push hwf ?_ _ | refine Sub.set hwf ?_ (by first | exact Nat.le_refl _ | omega | (simp only [push_n, set_n, kill_n]; omega)) _ | refine Sub.kill hwf ?_ (by first | exact Nat.le_refl _ | omega | (simp only [push_n, set_n, kill_n]; omega)))); exact hi) | exact ⟨(), ⟨hlt, by rw [hpn]; exact hi⟩, .drop hwf (by (repeat first | exact Sub.refl _ | refine Sub.push hwf ?_ _ | refine Sub.set hwf ?_ (by first | exact Nat.le_refl _ | omega | (simp only [push_n, set_n, kill_n]; omega)) _ | refine Sub.kill hwf ?_ (by first | exact Nat.le_refl _ | omega | (simp only [push_n, set_n, kill_n]; omega)))) (by simp [frOk, AV.okR, AV.ok1, AC.okR, AV.ren, AV.ren1, AC.ren, AFrame.get, pl1_old, *]; first | done | rfl | omega)⟩ | ((refine Out.plain hwf ?_ rfl ?_; (repeat first | exact Sub.refl _ | refine Sub.push hwf ?_ _ | refine Sub.set hwf ?_ (by first | exact Nat.le_refl _ | omega | (simp only [push_n, set_n, kill_n]; omega)) _ | refine Sub.kill hwf ?_ (by first | exact Nat.le_refl _ | omega | (simp only [push_n, set_n, kill_n]; omega)))); simpa using hi)
  ·
    obtain ⟨hs, hi⟩ := hi
    simp (config := {contextual := true, implicitDefEqProofs := false, maxSteps := 60000}) [-Int.not_le, -Int.not_lt, argsF, spec_l1Rising_l0]
    simp only [prevOf_0, risGo, decide_eq_true_eq] at hi
    (refine Out.plain hwf ?_ rfl ?_; (repeat first | exact Sub.refl _ | refine Sub.push hwf ?_ _ | refine Sub.set hwf ?_ (by first | exact Nat.le_refl _ | omega | (simp only [push_n, set_n, kill_n]; omega)) _ | refine Sub.kill hwf ?_ (by first | exact Nat.le_refl _ | omega | (simp only [push_n, set_n, kill_n]; omega)))); simpa using hi

def q_asc : Con := fun args H K => match args with
  | [ps_v] => eI.rd H (fun ps => K (.c (.bool (ascGo none ps))) H) ps_v
  | _ => False
@[simp ↓] theorem q_asc_eq (ps_v : AV) (H : AHeap) (K : AV → AHeap → Prop) : q_asc [ps_v] H K = (eI.rd H (fun ps => K (.c (.bool (ascGo none ps))) H) ps_v) := rfl

theorem impl_ascending_s : Sound Try.prog 59 q_asc := by
  intro args H K h
  unfold q_asc at h
  split at h
  rotate_left
  all_goals first | exact False.elim h | skip
  rename_i ps_v
  have h1 := Enc.rd_at h
  clear h
  obtain ⟨b_ps, i_ps, k_ps, ps, rfl, hat_ps, h⟩ := h1
  have hE := soundE_nil (P := Try.prog)
  refine acalls_fn impl_ascending_k hE ⟨by simp, fun hwf => ?_⟩
  have hb_ps : b_ps < H.n := (hwf b_ps k_ps hat_ps.blk).1
  have hne_ps : (b_ps = H.n) = False := eq_false (by omega)
  have hne1_ps : ∀ i, (b_ps = H.n + i) = False := fun i => eq_false (by omega)
  have hne2_ps : (b_ps = H.n + 1 + 1) = False ∧ (b_ps = H.n + 1 + 1 + 1) = False ∧ (b_ps = H.n + 1 + 1 + 1 + 1) = False ∧ (b_ps = H.n + 1 + 1 + 1 + 1 + 1) = False ∧ (b_ps = H.n + 1 + 1 + 1 + 1 + 1 + 1) = False ∧ (b_ps = H.n + 1 + 1 + 1 + 1 + 1 + 1 + 1) = False ∧ (b_ps = H.n + 1 + 1 + 1 + 1 + 1 + 1 + 1 + 1) = False ∧ (b_ps = H.n + 1 + 1 + 1 + 1 + 1 + 1 + 1 + 1 + 1) = False ∧ (b_ps = H.n + 1 + 1 + 1 + 1 + 1 + 1 + 1 + 1 + 1 + 1) = False ∧ (b_ps = H.n + 1 + 1 + 1 + 1 + 1 + 1 + 1 + 1 + 1 + 1 + 1) = False ∧ (b_ps = H.n + 1 + 1 + 1 + 1 + 1 + 1 + 1 + 1 + 1 + 1 + 1 + 1) = False := ⟨eq_false (by omega), eq_false (by omega), eq_false (by omega), eq_false (by omega), eq_false (by omega), eq_false (by omega), eq_false (by omega), eq_false (by omega), eq_false (by omega), eq_false (by omega), eq_false (by omega)⟩
  have hmx_ps : ps.length ≤ 9223372036854775807 := by have h1 := (hwf b_ps k_ps hat_ps.blk).2.2; have h2 := hat_ps.len; omega
  simp (config := {contextual := true, implicitDefEqProofs := false, maxSteps := 60000}) [-Int.not_le, -Int.not_lt, argsF, impl_ascending_c, hat_ps.blk, hat_ps.esz, hat_ps.len, hat_ps.els, hne_ps, hne1_ps, hne2_ps.1, hne2_ps.2.1, hne2_ps.2.2.1, hne2_ps.2.2.2.1, hne2_ps.2.2.2.2.1, hne2_ps.2.2.2.2.2.1, hne2_ps.2.2.2.2.2.2.1, hne2_ps.2.2.2.2.2.2.2.1, hne2_ps.2.2.2.2.2.2.2.2.1, hne2_ps.2.2.2.2.2.2.2.2.2.1, hne2_ps.2.2.2.2.2.2.2.2.2.2]
  rw [ascGo_tail] at h
  have hl3 : ¬ (((ps.length - 1 : Nat) : Int) + 1 < (ps.length : Int)) := by omega
  refine aloop_list ps.tail (fun j _ => [(0, .c (.sl b_ps i_ps ps.length)), (3, .c (.int .i64 ((j : Int) + 1)))]) (fun j _ => H) (fun j l _ => K (.c (.bool (ascGo (prevOf ps (j + 1)) l))) H) hE _ (()) (h) (.same hwf (by simp [frOk, AV.okR, AV.ok1, AC.okR, AV.ren, AV.ren1, AC.ren, AFrame.get, pl1_old, *]; first | done | rfl | omega)) (fun j _ hlt hi => ?_) fun _ hi => ?_
  ·
    have hj : j + 1 < ps.length := by simp at hlt; omega
    have hjl : j < ps.length := by omega
    have hj0 : (j : Int) + 1 < (ps.length : Int) := by omega
    have hj3 : (0 : Int) ≤ (j : Int) + 1 := by omega
    have ej : ((j : Int) + 1).toNat = j + 1 := by omega
    have w0 : IntKind.i64.wrap (j : Int) = (j : Int) := wrap_id (by omega) (by omega)
    have w2 : IntKind.i64.wrap ((j : Int) + 1 + 1) = (j : Int) + 1 + 1 := wrap_id (by omega) (by omega)
    have ed : ps.tail[j] = ps[j + 1] := by simp
    rw [ed, prevOf_succ hjl] at hi
    have hpn := prevOf_succ hj
    have e1 := hat_ps.get hj
    have e0 := hat_ps.get hjl
    simp (config := {contextual := true, implicitDefEqProofs := false, maxSteps := 60000}) [-Int.not_le, -Int.not_lt, argsF, impl_ascending_l0, hat_ps.blk, hat_ps.esz, hat_ps.len, hat_ps.els, hne_ps, hne1_ps, hne2_ps.1, hne2_ps.2.1, hne2_ps.2.2.1, hne2_ps.2.2.2.1, hne2_ps.2.2.2.2.1, hne2_ps.2.2.2.2.2.1, hne2_ps.2.2.2.2.2.2.1, hne2_ps.2.2.2.2.2.2.2.1, hne2_ps.2.2.2.2.2.2.2.2.1, hne2_ps.2.2.2.2.2.2.2.2.2.1, hne2_ps.2.2.2.2.2.2.2.2.2.2, hj, hjl, hj0, hj3, ej, w0, w2, e1, e0]
    simp only [ascGo, decide_eq_true_eq] at hi
    split
    · rename_i hc
      rw [if_neg (by omega)] at hi
      (refine Out.plain hwf ?_ rfl ?_; (repeat first | exact Sub.refl _ | refine Sub.push hwf ?_ _ | refine Sub.set hwf ?_ (by first | exact Nat.le_refl _ | omega | (simp only [push_n, set_n, kill_n]; omega)) _ | refine Sub.kill hwf ?_ (by first | exact Nat.le_refl _ | omega | (simp only [push_n, set_n, kill_n]; omega)))); exact hi
    · rename_i hc
      rw [if_pos (by omega)] at hi
      exact ⟨(), by rw [hpn]; exact hi, .drop hwf (by (repeat first | exact Sub.refl _ | refine Sub.push hwf ?_ _ | refine Sub.set hwf ?_ (by first | exact Nat.le_refl _ | omega | (simp only [push_n, set_n, kill_n]; omega)) _ | refine Sub.kill hwf ?_ (by first | exact Nat.le_refl _ | omega | (simp only [push_n, set_n, kill_n]; omega)))) (by simp [frOk, AV.okR, AV.ok1, AC.okR, AV.ren, AV.ren1, AC.ren, AFrame.get, pl1_old, *]; first | done | rfl | omega)⟩
  ·
    have hl4 : ¬ ((ps.length : Int) - 1 + 1 < (ps.length : Int)) := by omega
    simp (config := {contextual := true, implicitDefEqProofs := false, maxSteps := 60000}) [-Int.not_le, -Int.not_lt, argsF, impl_ascending_l0, hat_ps.blk, hat_ps.esz, hat_ps.len, hat_ps.els, hne_ps, hne1_ps, hne2_ps.1, hne2_ps.2.1, hne2_ps.2.2.1, hne2_ps.2.2.2.1, hne2_ps.2.2.2.2.1, hne2_ps.2.2.2.2.2.1, hne2_ps.2.2.2.2.2.2.1, hne2_ps.2.2.2.2.2.2.2.1, hne2_ps.2.2.2.2.2.2.2.2.1, hne2_ps.2.2.2.2.2.2.2.2.2.1, hne2_ps.2.2.2.2.2.2.2.2.2.2, hl3, hl4]
    simp only [ascGo] at hi
    (refine Out.plain hwf ?_ rfl ?_; (repeat first | exact Sub.refl _ | refine Sub.push hwf ?_ _ | refine Sub.set hwf ?_ (by first | exact Nat.le_refl _ | omega | (simp only [push_n, set_n, kill_n]; omega)) _ | refine Sub.kill hwf ?_ (by first | exact Nat.le_refl _ | omega | (simp only [push_n, set_n, kill_n]; omega)))); exact hi

def q_hasI : Con := fun args H K => match args with
  | [ps_v, .c (.int .i64 n)] => eI.rd H (fun ps => K (.c (.bool (ps.contains n))) H) ps_v
  | _ => False
@[simp ↓] theorem q_hasI_eq (ps_v : AV) (n : Int) (H : AHeap) (K : AV → AHeap → Prop) : q_hasI [ps_v, .c (.int .i64 n)] H K = (eI.rd H (fun ps => K (.c (.bool (ps.contains n))) H) ps_v) := rfl

def hasGo (n : Int) : List Int → Bool
  | [] => false
  | x :: r => if x = n then true else hasGo n r
theorem hasGo_eq (n : Int) : ∀ l : List Int, hasGo n l = l.contains n
  | [] => rfl
  | x :: r => by
    simp only [hasGo, List.contains_cons, hasGo_eq n r]
    by_cases h : x = n
    · simp [h]
    · simp [h, Ne.symm h]

theorem spec_l1Has_s : Sound Try.prog 37 q_hasI := by
  intro args H K h
  unfold q_hasI at h
  split at h
  rotate_left
  all_goals first | exact False.elim h | skip
  rename_i ps_v n
  have h1 := Enc.rd_at h
  clear h
  obtain ⟨b_ps, i_ps, k_ps, ps, rfl, hat_ps, h⟩ := h1
  have hE := soundE_nil (P := Try.prog)
  refine acalls_fn spec_l1Has_k hE ⟨by simp, fun hwf => ?_⟩
  have hb_ps : b_ps < H.n := (hwf b_ps k_ps hat_ps.blk).1
  have hne_ps : (b_ps = H.n) = False := eq_false (by omega)
  have hne1_ps : ∀ i, (b_ps = H.n + i) = False := fun i => eq_false (by omega)
  have hne2_ps : (b_ps = H.n + 1 + 1) = False ∧ (b_ps = H.n + 1 + 1 + 1) = False ∧ (b_ps = H.n + 1 + 1 + 1 + 1) = False ∧ (b_ps = H.n + 1 + 1 + 1 + 1 + 1) = False ∧ (b_ps = H.n + 1 + 1 + 1 + 1 + 1 + 1) = False ∧ (b_ps = H.n + 1 + 1 + 1 + 1 + 1 + 1 + 1) = False ∧ (b_ps = H.n + 1 + 1 + 1 + 1 + 1 + 1 + 1 + 1) = False ∧ (b_ps = H.n + 1 + 1 + 1 + 1 + 1 + 1 + 1 + 1 + 1) = False ∧ (b_ps = H.n + 1 + 1 + 1 + 1 + 1 + 1 + 1 + 1 + 1 + 1) = False ∧ (b_ps = H.n + 1 + 1 + 1 + 1 + 1 + 1 + 1 + 1 + 1 + 1 + 1) = False ∧ (b_ps = H.n + 1 + 1 + 1 + 1 + 1 + 1 + 1 + 1 + 1 + 1 + 1 + 1) = False := ⟨eq_false (by omega), eq_false (by omega), eq_false (by omega), eq_false (by omega), eq_false (by omega), eq_false (by omega), eq_false (by omega), eq_false (by omega), eq_false (by omega), eq_false (by omega), eq_false (by omega)⟩
  have hmx_ps : ps.length ≤ 9223372036854775807 := by have h1 := (hwf b_ps k_ps hat_ps.blk).2.2; have h2 := hat_ps.len; omega
  simp (config := {contextual := true, implicitDefEqProofs := false, maxSteps := 60000}) [-Int.not_le, -Int.not_lt, argsF, spec_l1Has_c, hat_ps.blk, hat_ps.esz, hat_ps.len, hat_ps.els, hne_ps, hne1_ps, hne2_ps.1, hne2_ps.2.1, hne2_ps.2.2.1, hne2_ps.2.2.2.1, hne2_ps.2.2.2.2.1, hne2_ps.2.2.2.2.2.1, hne2_ps.2.2.2.2.2.2.1, hne2_ps.2.2.2.2.2.2.2.1, hne2_ps.2.2.2.2.2.2.2.2.1, hne2_ps.2.2.2.2.2.2.2.2.2.1, hne2_ps.2.2.2.2.2.2.2.2.2.2]
  rw [← hasGo_eq] at h
  refine aloop_list ps (fun j _ => [(0, .c (.sl b_ps i_ps ps.length)), (1, .c (.int .i64 (n))), (5, .c (.int .i64 (j)))]) (fun j _ => H) (fun j l _ => K (.c (.bool (hasGo n l))) H) hE _ (()) (h) (.same hwf (by simp [frOk, AV.okR, AV.ok1, AC.okR, AV.ren, AV.ren1, AC.ren, AFrame.get, pl1_old, *]; first | done | rfl | omega)) (fun j _ hlt hi => ?_) fun _ hi => ?_
  ·
    have e1 := hat_ps.get hlt
    have hj1 := idx_lt hlt
    have w1 : IntKind.i64.wrap ((j : Int) + 1) = (j : Int) + 1 := wrap_id (by omega) (by omega)
    simp (config := {contextual := true, implicitDefEqProofs := false, maxSteps := 60000}) [-Int.not_le, -Int.not_lt, argsF, spec_l1Has_l0, hat_ps.blk, hat_ps.esz, hat_ps.len, hat_ps.els, hne_ps, hne1_ps, hne2_ps.1, hne2_ps.2.1, hne2_ps.2.2.1, hne2_ps.2.2.2.1, hne2_ps.2.2.2.2.1, hne2_ps.2.2.2.2.2.1, hne2_ps.2.2.2.2.2.2.1, hne2_ps.2.2.2.2.2.2.2.1, hne2_ps.2.2.2.2.2.2.2.2.1, hne2_ps.2.2.2.2.2.2.2.2.2.1, hne2_ps.2.2.2.2.2.2.2.2.2.2, e1, hj1, w1]
    simp only [hasGo] at hi
    repeat' split
    all_goals try simp only [*, if_true, if_false, reduceCtorEq, and_self, and_true, true_and, and_false, false_and, not_true_eq_false, not_false_eq_true] at hi
    all_goals first | ((refine Out.plain hwf ?_ rfl ?_; (repeat first | exact Sub.refl _ | refine Sub.push hwf ?_ _ | refine Sub.set hwf ?_ (by first | exact Nat.le_refl _ | omega | (simp only [push_n, set_n, kill_n]; omega)) _ | refine Sub.kill hwf ?_ (by first | exact Nat.le_refl _ | omega | (simp only [push_n, set_n, kill_n]; omega)))); exact hi) | exact ⟨(), hi, .drop hwf (by (repeat first | exact Sub.refl _ | refine Sub.push hwf ?_ _ | refine Sub.set hwf ?_ (by first | exact Nat.le_refl _ | omega | (simp only [push_n, set_n, kill_n]; omega)) _ | refine Sub.kill hwf ?_ (by first | exact Nat.le_refl _ | omega | (simp only [push_n, set_n, kill_n]; omega)))) (by simp [frOk, AV.okR, AV.ok1, AC.okR, AV.ren, AV.ren1, AC.ren, AFrame.get, pl1_old, *]; first | done | rfl | omega)⟩
  ·
    simp (config := {contextual := true, implicitDefEqProofs := false, maxSteps := 60000}) [-Int.not_le, -Int.not_lt, argsF, spec_l1Has_l0, hat_ps.blk, hat_ps.esz, hat_ps.len, hat_ps.els, hne_ps, hne1_ps, hne2_ps.1, hne2_ps.2.1, hne2_ps.2.2.1, hne2_ps.2.2.2.1, hne2_ps.2.2.2.2.1, hne2_ps.2.2.2.2.2.1, hne2_ps.2.2.2.2.2.2.1, hne2_ps.2.2.2.2.2.2.2.1, hne2_ps.2.2.2.2.2.2.2.2.1, hne2_ps.2.2.2.2.2.2.2.2.2.1, hne2_ps.2.2.2.2.2.2.2.2.2.2]
    simp only [hasGo] at hi
    (refine Out.plain hwf ?_ rfl ?_; (repeat first | exact Sub.refl _ | refine Sub.push hwf ?_ _ | refine Sub.set hwf ?_ (by first | exact Nat.le_refl _ | omega | (simp only [push_n, set_n, kill_n]; omega)) _ | refine Sub.kill hwf ?_ (by first | exact Nat.le_refl _ | omega | (simp only [push_n, set_n, kill_n]; omega)))); exact hi

def q_indexI : Con := fun args H K => match args with
  | [ps_v, .c (.int .i64 n)] => eI.rd H (fun ps => K (.c (.int .i64 (ixOf (fun x => decide (n = x)) ps 0))) H) ps_v
  | _ => False
@[simp ↓] theorem q_indexI_eq (ps_v : AV) (n : Int) (H : AHeap) (K : AV → AHeap → Prop) : q_indexI [ps_v, .c (.int .i64 n)] H K = (eI.rd H (fun ps => K (.c (.int .i64 (ixOf (fun x => decide (n = x)) ps 0))) H) ps_v) := rfl

theorem slices_Index___int_int_s : Sound Try.prog 60 q_indexI := by
  intro args H K h
  unfold q_indexI at h
  split at h
  rotate_left
  all_goals first | exact False.elim h | skip
  rename_i ps_v n
  have h1 := Enc.rd_at h
  clear h
  obtain ⟨b_ps, i_ps, k_ps, ps, rfl, hat_ps, h⟩ := h1
  have hE := soundE_nil (P := Try.prog)
  refine acalls_fn slices_Index___int_int__k hE ⟨by simp, fun hwf => ?_⟩
  have hb_ps : b_ps < H.n := (hwf b_ps k_ps hat_ps.blk).1
  have hne_ps : (b_ps = H.n) = False := eq_false (by omega)
  have hne1_ps : ∀ i, (b_ps = H.n + i) = False := fun i => eq_false (by omega)
  have hne2_ps : (b_ps = H.n + 1 + 1) = False ∧ (b_ps = H.n + 1 + 1 + 1) = False ∧ (b_ps = H.n + 1 + 1 + 1 + 1) = False ∧ (b_ps = H.n + 1 + 1 + 1 + 1 + 1) = False ∧ (b_ps = H.n + 1 + 1 + 1 + 1 + 1 + 1) = False ∧ (b_ps = H.n + 1 + 1 + 1 + 1 + 1 + 1 + 1) = False ∧ (b_ps = H.n + 1 + 1 + 1 + 1 + 1 + 1 + 1 + 1) = False ∧ (b_ps = H.n + 1 + 1 + 1 + 1 + 1 + 1 + 1 + 1 + 1) = False ∧ (b_ps = H.n + 1 + 1 + 1 + 1 + 1 + 1 + 1 + 1 + 1 + 1) = False ∧ (b_ps = H.n + 1 + 1 + 1 + 1 + 1 + 1 + 1 + 1 + 1 + 1 + 1) = False ∧ (b_ps = H.n + 1 + 1 + 1 + 1 + 1 + 1 + 1 + 1 + 1 + 1 + 1 + 1) = False := ⟨eq_false (by omega), eq_false (by omega), eq_false (by omega), eq_false (by omega), eq_false (by omega), eq_false (by omega), eq_false (by omega), eq_false (by omega), eq_false (by omega), eq_false (by omega), eq_false (by omega)⟩
  have hmx_ps : ps.length ≤ 9223372036854775807 := by have h1 := (hwf b_ps k_ps hat_ps.blk).2.2; have h2 := hat_ps.len; omega
  simp (config := {contextual := true, implicitDefEqProofs := false, maxSteps := 60000}) [-Int.not_le, -Int.not_lt, argsF, slices_Index___int_int__c, hat_ps.blk, hat_ps.esz, hat_ps.len, hat_ps.els, hne_ps, hne1_ps, hne2_ps.1, hne2_ps.2.1, hne2_ps.2.2.1, hne2_ps.2.2.2.1, hne2_ps.2.2.2.2.1, hne2_ps.2.2.2.2.2.1, hne2_ps.2.2.2.2.2.2.1, hne2_ps.2.2.2.2.2.2.2.1, hne2_ps.2.2.2.2.2.2.2.2.1, hne2_ps.2.2.2.2.2.2.2.2.2.1, hne2_ps.2.2.2.2.2.2.2.2.2.2]
  refine aloop_list ps (fun j _ => [(0, .c (.sl b_ps i_ps ps.length)), (1, .c (.int .i64 (n))), (7, .c (.int .i64 ps.length)), (8, .c (.int .i64 (j)))]) (fun j _ => H) (fun j l _ => K (.c (.int .i64 (ixOf (fun x => decide (n = x)) l j))) H) hE _ (()) (h) (.same hwf (by simp [frOk, AV.okR, AV.ok1, AC.okR, AV.ren, AV.ren1, AC.ren, AFrame.get, pl1_old, *]; first | done | rfl | omega)) (fun j _ hlt hi => ?_) fun _ hi => ?_
  ·
    have e1 := hat_ps.get hlt
    have hj1 := idx_lt hlt
    have w1 : IntKind.i64.wrap ((j : Int) + 1) = (j : Int) + 1 := wrap_id (by omega) (by omega)
    simp (config := {contextual := true, implicitDefEqProofs := false, maxSteps := 60000}) [-Int.not_le, -Int.not_lt, argsF, slices_Index___int_int__l0, hat_ps.blk, hat_ps.esz, hat_ps.len, hat_ps.els, hne_ps, hne1_ps, hne2_ps.1, hne2_ps.2.1, hne2_ps.2.2.1, hne2_ps.2.2.2.1, hne2_ps.2.2.2.2.1, hne2_ps.2.2.2.2.2.1, hne2_ps.2.2.2.2.2.2.1, hne2_ps.2.2.2.2.2.2.2.1, hne2_ps.2.2.2.2.2.2.2.2.1, hne2_ps.2.2.2.2.2.2.2.2.2.1, hne2_ps.2.2.2.2.2.2.2.2.2.2, e1, hj1, w1]
    simp only [ixOf, decide_eq_true_eq] at hi
    repeat' split
    all_goals try simp only [*, if_true, if_false, reduceCtorEq, and_self, and_true, true_and, and_false, false_and, not_true_eq_false, not_false_eq_true] at hi
    all_goals first | ((refine Out.plain hwf ?_ rfl ?_; (repeat first | exact Sub.refl _ | refine Sub.push hwf ?_ _ | refine Sub.set hwf ?_ (by first | exact Nat.le_refl _ | omega | (simp only [push_n, set_n, kill_n]; omega)) _ | refine Sub.kill hwf ?_ (by first | exact Nat.le_refl _ | omega | (simp only [push_n, set_n, kill_n]; omega)))); exact hi) | exact ⟨(), hi, .drop hwf (by (repeat first | exact Sub.refl _ | refine Sub.push hwf ?_ _ | refine Sub.set hwf ?_ (by first | exact Nat.le_refl _ | omega | (simp only [push_n, set_n, kill_n]; omega)) _ | refine Sub.kill hwf ?_ (by first | exact Nat.le_refl _ | omega | (simp only [push_n, set_n, kill_n]; omega)))) (by simp [frOk, AV.okR, AV.ok1, AC.okR, AV.ren, AV.ren1, AC.ren, AFrame.get, pl1_old, *]; first | done | rfl | omega)⟩
  ·
    simp (config := {contextual := true, implicitDefEqProofs := false, maxSteps := 60000}) [-Int.not_le, -Int.not_lt, argsF, slices_Index___int_int__l0, hat_ps.blk, hat_ps.esz, hat_ps.len, hat_ps.els, hne_ps, hne1_ps, hne2_ps.1, hne2_ps.2.1, hne2_ps.2.2.1, hne2_ps.2.2.2.1, hne2_ps.2.2.2.2.1, hne2_ps.2.2.2.2.2.1, hne2_ps.2.2.2.2.2.2.1, hne2_ps.2.2.2.2.2.2.2.1, hne2_ps.2.2.2.2.2.2.2.2.1, hne2_ps.2.2.2.2.2.2.2.2.2.1, hne2_ps.2.2.2.2.2.2.2.2.2.2]
    simp only [ixOf, decide_eq_true_eq] at hi
    (refine Out.plain hwf ?_ rfl ?_; (repeat first | exact Sub.refl _ | refine Sub.push hwf ?_ _ | refine Sub.set hwf ?_ (by first | exact Nat.le_refl _ | omega | (simp only [push_n, set_n, kill_n]; omega)) _ | refine Sub.kill hwf ?_ (by first | exact Nat.le_refl _ | omega | (simp only [push_n, set_n, kill_n]; omega)))); exact hi

theorem any_contains (n : Int) (l : List Int) : (l.any fun x => decide (n = x)) = l.contains n := by
  rw [← hasGo_eq]
  induction l with
  | nil => rfl
  | cons x r ih => simp only [List.any_cons, hasGo, ih]; by_cases h : x = n <;> simp [h, Ne.symm, eq_comm]

theorem slices_Contains___int_int_s : Sound Try.prog 33 q_hasI := by
  intro args H K h
  unfold q_hasI at h
  split at h
  rotate_left
  all_goals first | exact False.elim h | skip
  rename_i ps_v n
  have h1 := Enc.rd_at h
  clear h
  obtain ⟨b_ps, i_ps, k_ps, ps, rfl, hat_ps, h⟩ := h1
  have hE := soundE_cons slices_Index___int_int_s (soundE_nil (P := Try.prog))
  refine acalls_fn slices_Contains___int_int__k hE ⟨by simp, fun hwf => ?_⟩
  have hb_ps : b_ps < H.n := (hwf b_ps k_ps hat_ps.blk).1
  have hne_ps : (b_ps = H.n) = False := eq_false (by omega)
  have hne1_ps : ∀ i, (b_ps = H.n + i) = False := fun i => eq_false (by omega)
  have hne2_ps : (b_ps = H.n + 1 + 1) = False ∧ (b_ps = H.n + 1 + 1 + 1) = False ∧ (b_ps = H.n + 1 + 1 + 1 + 1) = False ∧ (b_ps = H.n + 1 + 1 + 1 + 1 + 1) = False ∧ (b_ps = H.n + 1 + 1 + 1 + 1 + 1 + 1) = False ∧ (b_ps = H.n + 1 + 1 + 1 + 1 + 1 + 1 + 1) = False ∧ (b_ps = H.n + 1 + 1 + 1 + 1 + 1 + 1 + 1 + 1) = False ∧ (b_ps = H.n + 1 + 1 + 1 + 1 + 1 + 1 + 1 + 1 + 1) = False ∧ (b_ps = H.n + 1 + 1 + 1 + 1 + 1 + 1 + 1 + 1 + 1 + 1) = False ∧ (b_ps = H.n + 1 + 1 + 1 + 1 + 1 + 1 + 1 + 1 + 1 + 1 + 1) = False ∧ (b_ps = H.n + 1 + 1 + 1 + 1 + 1 + 1 + 1 + 1 + 1 + 1 + 1 + 1) = False := ⟨eq_false (by omega), eq_false (by omega), eq_false (by omega), eq_false (by omega), eq_false (by omega), eq_false (by omega), eq_false (by omega), eq_false (by omega), eq_false (by omega), eq_false (by omega), eq_false (by omega)⟩
  have hmx_ps : ps.length ≤ 9223372036854775807 := by have h1 := (hwf b_ps k_ps hat_ps.blk).2.2; have h2 := hat_ps.len; omega
  simp (config := {contextual := true, implicitDefEqProofs := false, maxSteps := 60000}) [-Int.not_le, -Int.not_lt, argsF, slices_Contains___int_int__c, hat_ps.blk, hat_ps.esz, hat_ps.len, hat_ps.els, hne_ps, hne1_ps, hne2_ps.1, hne2_ps.2.1, hne2_ps.2.2.1, hne2_ps.2.2.2.1, hne2_ps.2.2.2.2.1, hne2_ps.2.2.2.2.2.1, hne2_ps.2.2.2.2.2.2.1, hne2_ps.2.2.2.2.2.2.2.1, hne2_ps.2.2.2.2.2.2.2.2.1, hne2_ps.2.2.2.2.2.2.2.2.2.1, hne2_ps.2.2.2.2.2.2.2.2.2.2]
  rw [← any_contains, ← ixOf_any ps 0] at h
  (refine Out.plain hwf ?_ rfl ?_; (repeat first | exact Sub.refl _ | refine Sub.push hwf ?_ _ | refine Sub.set hwf ?_ (by first | exact Nat.le_refl _ | omega | (simp only [push_n, set_n, kill_n]; omega)) _ | refine Sub.kill hwf ?_ (by first | exact Nat.le_refl _ | omega | (simp only [push_n, set_n, kill_n]; omega)))); exact h

def isSi (s : Si) : Bool := inR s.id 1 999 && (inR s.year 1840 2100 && (isWord s.town && (decide ((s.traits.length : Int) ≤ 8) && risGo 1 50 none s.traits)))

def q_isSi : Con := fun args H K => match args with
  | [.agg s_e] => onv (eSi.dec H s_e) fun s => K (.c (.bool (isSi s))) H
  | _ => False
@[simp ↓] theorem q_isSi_eq (s_e : List AC) (H : AHeap) (K : AV → AHeap → Prop) : q_isSi [.agg s_e] H K = (onv (eSi.dec H s_e) fun s => K (.c (.bool (isSi s))) H) := rfl

theorem spec_l13One_s : Sound Try.prog 61 q_isSi := by
  intro args H K h
  unfold q_isSi at h
  split at h
  rotate_left
  all_goals first | exact False.elim h | skip
  rename_i s_e
  have h1 := onv_iff.1 h
  clear h
  obtain ⟨s, hd_s, h⟩ := h1
  obtain ⟨b_s, i_s, k_s, rfl, hat_s, htx_s⟩ := eSi_at hd_s
  have hE := soundE_cons spec_l1In_s (soundE_cons spec_l2Word_s (soundE_cons spec_l1Rising_s (soundE_nil (P := Try.prog))))
  refine acalls_fn spec_l13One_k hE ⟨by simp, fun hwf => ?_⟩
  have hsr : SubE H H := SubE.refl H
  have hsp : ∀ H' k, H.n ≤ H'.n → SubE H H' → SubE H (H'.push k) := fun H' k hn hs => SubE.push hwf hn hs k
  have hst : ∀ H', SubE H H' → SubE H H'.toRo := fun H' hs => hs.toRo
  have hss : ∀ H' i k, H.n ≤ i → SubE H H' → SubE H (H'.set i k) := fun H' i k hn hs => SubE.set hwf hn hs k
  have hsk : ∀ H' i, H.n ≤ i → SubE H H' → SubE H (H'.kill i) := fun H' i hn hs => SubE.kill hwf hn hs
  have hb_s : b_s < H.n := (hwf b_s k_s hat_s.blk).1
  have hne_s : (b_s = H.n) = False := eq_false (by omega)
  have hne1_s : ∀ i, (b_s = H.n + i) = False := fun i => eq_false (by omega)
  have hne2_s : (b_s = H.n + 1 + 1) = False ∧ (b_s = H.n + 1 + 1 + 1) = False ∧ (b_s = H.n + 1 + 1 + 1 + 1) = False ∧ (b_s = H.n + 1 + 1 + 1 + 1 + 1) = False ∧ (b_s = H.n + 1 + 1 + 1 + 1 + 1 + 1) = False ∧ (b_s = H.n + 1 + 1 + 1 + 1 + 1 + 1 + 1) = False ∧ (b_s = H.n + 1 + 1 + 1 + 1 + 1 + 1 + 1 + 1) = False ∧ (b_s = H.n + 1 + 1 + 1 + 1 + 1 + 1 + 1 + 1 + 1) = False ∧ (b_s = H.n + 1 + 1 + 1 + 1 + 1 + 1 + 1 + 1 + 1 + 1) = False ∧ (b_s = H.n + 1 + 1 + 1 + 1 + 1 + 1 + 1 + 1 + 1 + 1 + 1) = False ∧ (b_s = H.n + 1 + 1 + 1 + 1 + 1 + 1 + 1 + 1 + 1 + 1 + 1 + 1) = False := ⟨eq_false (by omega), eq_false (by omega), eq_false (by omega), eq_false (by omega), eq_false (by omega), eq_false (by omega), eq_false (by omega), eq_false (by omega), eq_false (by omega), eq_false (by omega), eq_false (by omega)⟩
  have hmx_s : s.traits.length ≤ 9223372036854775807 := by have h1 := (hwf b_s k_s hat_s.blk).2.2; have h2 := hat_s.len; omega
  simp (config := {contextual := true, implicitDefEqProofs := false, maxSteps := 60000}) [-Int.not_le, -Int.not_lt, argsF, spec_l13One_c, hat_s.blk, hat_s.esz, hat_s.len, hat_s.els, hne_s, hne1_s, hne2_s.1, hne2_s.2.1, hne2_s.2.2.1, hne2_s.2.2.2.1, hne2_s.2.2.2.2.1, hne2_s.2.2.2.2.2.1, hne2_s.2.2.2.2.2.2.1, hne2_s.2.2.2.2.2.2.2.1, hne2_s.2.2.2.2.2.2.2.2.1, hne2_s.2.2.2.2.2.2.2.2.2.1, hne2_s.2.2.2.2.2.2.2.2.2.2, htx_s, hsr, hsp, hst, hss, hsk]
  repeat' split
  all_goals ((refine Out.plain hwf ?_ rfl ?_; (repeat first | exact Sub.refl _ | refine Sub.push hwf ?_ _ | refine Sub.set hwf ?_ (by first | exact Nat.le_refl _ | omega | (simp only [push_n, set_n, kill_n]; omega)) _ | refine Sub.kill hwf ?_ (by first | exact Nat.le_refl _ | omega | (simp only [push_n, set_n, kill_n]; omega)))); simp_all [isSi])

end Go.Proofs.Ytafenginfojcmaa
