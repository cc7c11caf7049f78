/- The sightings: what is valid. The sightings: a valid list. The sightings: evidence. The sightings: places, evidence asked for. The sightings: a valid list, by the program. -/
import Derived.Test.YtafenginfojcmaaGreatDoorNest
import Derived.Test.YtafenginfojcmaaGreatDoorSiC
set_option maxRecDepth 8000
set_option linter.unusedSimpArgs false
set_option linter.unusedVariables false
namespace Go.Proofs.YtafenginfojcmaaGreatDoor
open Go Go.RowKit

def q_inRange : Con := fun args H K => match args with
  | [.c (.int .i64 n), .c (.int .i64 lo), .c (.int .i64 hi)] => K (.c (.bool (inR n lo hi))) H
  | _ => False
@[simp ↓] theorem q_inRange_eq (n : Int) (lo : Int) (hi : Int) (H : AHeap) (K : AV → AHeap → Prop) : q_inRange [.c (.int .i64 n), .c (.int .i64 lo), .c (.int .i64 hi)] H K = (K (.c (.bool (inR n lo hi))) H) := rfl

theorem impl_inRange_s : Sound Tryz.prog 34 q_inRange := by
  intro args H K h
  unfold q_inRange at h
  split at h
  rotate_left
  all_goals first | exact False.elim h | skip
  rename_i n lo hi
  have hE := soundE_nil (P := Tryz.prog)
  refine acalls_fn impl_inRange_k hE ⟨by simp, fun hwf => ?_⟩
  simp (config := {contextual := true, implicitDefEqProofs := false, maxSteps := 60000}) [-Int.not_le, -Int.not_lt, argsF, impl_inRange_c]
  split <;> ((refine Out.plain hwf ?_ rfl ?_; (repeat first | exact Sub.refl _ | refine Sub.push hwf ?_ _ | refine Sub.set hwf ?_ (by first | exact Nat.le_refl _ | omega | (simp only [push_n, set_n, kill_n]; omega)) _ | refine Sub.kill hwf ?_ (by first | exact Nat.le_refl _ | omega | (simp only [push_n, set_n, kill_n]; omega)))); simp_all [inR])

theorem spec_l1In_s : Sound Tryz.prog 67 q_inRange := by
  intro args H K h
  unfold q_inRange at h
  split at h
  rotate_left
  all_goals first | exact False.elim h | skip
  rename_i n lo hi
  have hE := soundE_nil (P := Tryz.prog)
  refine acalls_fn spec_l1In_k hE ⟨by simp, fun hwf => ?_⟩
  simp (config := {contextual := true, implicitDefEqProofs := false, maxSteps := 60000}) [-Int.not_le, -Int.not_lt, argsF, spec_l1In_c]
  split <;> ((refine Out.plain hwf ?_ rfl ?_; (repeat first | exact Sub.refl _ | refine Sub.push hwf ?_ _ | refine Sub.set hwf ?_ (by first | exact Nat.le_refl _ | omega | (simp only [push_n, set_n, kill_n]; omega)) _ | refine Sub.kill hwf ?_ (by first | exact Nat.le_refl _ | omega | (simp only [push_n, set_n, kill_n]; omega)))); simp_all [inR])

def q_limit : Con := fun args H K => match args with
  | [.c (.int .i64 n)] => K (.c (.bool (inR n (-30) 16))) H
  | _ => False
@[simp ↓] theorem q_limit_eq (n : Int) (H : AHeap) (K : AV → AHeap → Prop) : q_limit [.c (.int .i64 n)] H K = (K (.c (.bool (inR n (-30) 16))) H) := rfl

theorem spec_l13Limit_s : Sound Tryz.prog 38 q_limit := by
  intro args H K h
  unfold q_limit at h
  split at h
  rotate_left
  all_goals first | exact False.elim h | skip
  rename_i n
  have hE := soundE_cons spec_l1In_s (soundE_nil (P := Tryz.prog))
  refine acalls_fn spec_l13Limit_k hE ⟨by simp, fun hwf => ?_⟩
  simp (config := {contextual := true, implicitDefEqProofs := false, maxSteps := 60000}) [-Int.not_le, -Int.not_lt, argsF, spec_l13Limit_c]
  (refine Out.plain hwf ?_ rfl ?_; (repeat first | exact Sub.refl _ | refine Sub.push hwf ?_ _ | refine Sub.set hwf ?_ (by first | exact Nat.le_refl _ | omega | (simp only [push_n, set_n, kill_n]; omega)) _ | refine Sub.kill hwf ?_ (by first | exact Nat.le_refl _ | omega | (simp only [push_n, set_n, kill_n]; omega)))); exact h

def wordGo (n : Nat) : List UInt8 → Bool
  | [] => inR n 1 10
  | c :: r => if (c.toNat : Int) < 97 then false else if 122 < (c.toNat : Int) then false else wordGo n r
def isWord (s : List UInt8) : Bool := wordGo s.length s

def q_word : Con := fun args H K => match args with
  | [.c (.str s)] => s.length ≤ 9223372036854775807 ∧ K (.c (.bool (isWord s))) H
  | _ => False
@[simp ↓] theorem q_word_eq (s : List UInt8) (H : AHeap) (K : AV → AHeap → Prop) : q_word [.c (.str s)] H K = (s.length ≤ 9223372036854775807 ∧ K (.c (.bool (isWord s))) H) := rfl

theorem impl_isWord_s : Sound Tryz.prog 59 q_word := by
  intro args H K h
  unfold q_word at h
  split at h
  rotate_left
  all_goals first | exact False.elim h | skip
  rename_i s
  have hE := soundE_cons impl_inRange_s (soundE_nil (P := Tryz.prog))
  refine acalls_fn impl_isWord_k hE ⟨by simp, fun hwf => ?_⟩
  obtain ⟨hms, h⟩ := h
  unfold isWord at h
  simp (config := {contextual := true, implicitDefEqProofs := false, maxSteps := 60000}) [-Int.not_le, -Int.not_lt, argsF, impl_isWord_c]
  refine aloop_list s (fun j _ => [(0, .c (.str (s))), (5, .c (.int .i64 ((s.length : Int)))), (6, .c (.int .i64 (j)))]) (fun j _ => H) (fun j l _ => K (.c (.bool (wordGo s.length l))) H) hE _ (()) (h) (.same hwf (by simp [frOk, AV.okR, AV.ok1, AC.okR, AV.ren, AV.ren1, AC.ren, AFrame.get, pl1_old, *]; first | done | rfl | omega)) (fun j _ hlt hi => ?_) fun _ hi => ?_
  ·
    have hj1 := idx_lt hlt
    have w1 : IntKind.i64.wrap ((j : Int) + 1) = (j : Int) + 1 := wrap_id (by omega) (by omega)
    have hcg : s[j]? = some s[j] := List.getElem?_eq_getElem hlt
    simp (config := {contextual := true, implicitDefEqProofs := false, maxSteps := 60000}) [-Int.not_le, -Int.not_lt, argsF, impl_isWord_l0, hj1, w1, hcg, hlt]
    simp only [wordGo] at hi
    repeat' split
    all_goals try simp only [*, if_true, if_false, reduceCtorEq, and_self, and_true, true_and, and_false, false_and, not_true_eq_false, not_false_eq_true] at hi
    all_goals first | ((refine Out.plain hwf ?_ rfl ?_; (repeat first | exact Sub.refl _ | refine Sub.push hwf ?_ _ | refine Sub.set hwf ?_ (by first | exact Nat.le_refl _ | omega | (simp only [push_n, set_n, kill_n]; omega)) _ | refine Sub.kill hwf ?_ (by first | exact Nat.le_refl _ | omega | (simp only [push_n, set_n, kill_n]; omega)))); exact hi) | exact ⟨(), hi, .drop hwf (by (repeat first | exact Sub.refl _ | refine Sub.push hwf ?_ _ | refine Sub.set hwf ?_ (by first | exact Nat.le_refl _ | omega | (simp only [push_n, set_n, kill_n]; omega)) _ | refine Sub.kill hwf ?_ (by first | exact Nat.le_refl _ | omega | (simp only [push_n, set_n, kill_n]; omega)))) (by simp [frOk, AV.okR, AV.ok1, AC.okR, AV.ren, AV.ren1, AC.ren, AFrame.get, pl1_old, *]; first | done | rfl | omega)⟩
  ·
    simp (config := {contextual := true, implicitDefEqProofs := false, maxSteps := 60000}) [-Int.not_le, -Int.not_lt, argsF, impl_isWord_l0]
    simp only [wordGo] at hi
    (refine Out.plain hwf ?_ rfl ?_; (repeat first | exact Sub.refl _ | refine Sub.push hwf ?_ _ | refine Sub.set hwf ?_ (by first | exact Nat.le_refl _ | omega | (simp only [push_n, set_n, kill_n]; omega)) _ | refine Sub.kill hwf ?_ (by first | exact Nat.le_refl _ | omega | (simp only [push_n, set_n, kill_n]; omega)))); exact hi

theorem spec_l2Word_s : Sound Tryz.prog 74 q_word := by
  intro args H K h
  unfold q_word at h
  split at h
  rotate_left
  all_goals first | exact False.elim h | skip
  rename_i s
  have hE := soundE_cons spec_l1In_s (soundE_nil (P := Tryz.prog))
  refine acalls_fn spec_l2Word_k hE ⟨by simp, fun hwf => ?_⟩
  obtain ⟨hms, h⟩ := h
  unfold isWord at h
  simp (config := {contextual := true, implicitDefEqProofs := false, maxSteps := 60000}) [-Int.not_le, -Int.not_lt, argsF, spec_l2Word_c]
  refine aloop_list s (fun j _ => [(0, .c (.str (s))), (3, .c (.int .i64 (j)))]) (fun j _ => H) (fun j l _ => K (.c (.bool (wordGo s.length l))) H) hE _ (()) (h) (.same hwf (by simp [frOk, AV.okR, AV.ok1, AC.okR, AV.ren, AV.ren1, AC.ren, AFrame.get, pl1_old, *]; first | done | rfl | omega)) (fun j _ hlt hi => ?_) fun _ hi => ?_
  ·
    have hj1 := idx_lt hlt
    have w1 : IntKind.i64.wrap ((j : Int) + 1) = (j : Int) + 1 := wrap_id (by omega) (by omega)
    have hcg : s[j]? = some s[j] := List.getElem?_eq_getElem hlt
    simp (config := {contextual := true, implicitDefEqProofs := false, maxSteps := 60000}) [-Int.not_le, -Int.not_lt, argsF, spec_l2Word_l0, hj1, w1, hcg, hlt]
    simp only [wordGo] at hi
    repeat' split
    all_goals try simp only [*, if_true, if_false, reduceCtorEq, and_self, and_true, true_and, and_false, false_and, not_true_eq_false, not_false_eq_true] at hi
    all_goals first | ((refine Out.plain hwf ?_ rfl ?_; (repeat first | exact Sub.refl _ | refine Sub.push hwf ?_ _ | refine Sub.set hwf ?_ (by first | exact Nat.le_refl _ | omega | (simp only [push_n, set_n, kill_n]; omega)) _ | refine Sub.kill hwf ?_ (by first | exact Nat.le_refl _ | omega | (simp only [push_n, set_n, kill_n]; omega)))); exact hi) | exact ⟨(), hi, .drop hwf (by (repeat first | exact Sub.refl _ | refine Sub.push hwf ?_ _ | refine Sub.set hwf ?_ (by first | exact Nat.le_refl _ | omega | (simp only [push_n, set_n, kill_n]; omega)) _ | refine Sub.kill hwf ?_ (by first | exact Nat.le_refl _ | omega | (simp only [push_n, set_n, kill_n]; omega)))) (by simp [frOk, AV.okR, AV.ok1, AC.okR, AV.ren, AV.ren1, AC.ren, AFrame.get, pl1_old, *]; first | done | rfl | omega)⟩
  ·
    simp (config := {contextual := true, implicitDefEqProofs := false, maxSteps := 60000}) [-Int.not_le, -Int.not_lt, argsF, spec_l2Word_l0]
    simp only [wordGo] at hi
    (refine Out.plain hwf ?_ rfl ?_; (repeat first | exact Sub.refl _ | refine Sub.push hwf ?_ _ | refine Sub.set hwf ?_ (by first | exact Nat.le_refl _ | omega | (simp only [push_n, set_n, kill_n]; omega)) _ | refine Sub.kill hwf ?_ (by first | exact Nat.le_refl _ | omega | (simp only [push_n, set_n, kill_n]; omega)))); exact hi

def risGo (lo hi : Int) : Option Int → List Int → Bool
  | _, [] => true
  | o, x :: r => if inR x lo hi = true then (if (match o with | none => true | some p => decide (p < x)) = true then risGo lo hi (some x) r else false) else false
def ascGo : Option Int → List Int → Bool
  | _, [] => true
  | o, x :: r => if (match o with | none => true | some p => decide (p < x)) = true then ascGo (some x) r else false
theorem risGo_eq (lo hi : Int) : ∀ (o : Option Int) (l : List Int), risGo lo hi o l = (ascGo o l && !(l.any fun c => !inR c lo hi))
  | _, [] => by simp [risGo, ascGo]
  | o, x :: r => by
    simp only [risGo, ascGo, risGo_eq lo hi (some x) r, List.any_cons]
    by_cases hx : inR x lo hi = true
    · simp only [hx, if_true]; split <;> simp [Bool.and_assoc]
    · simp [hx]
theorem ascGo_tail : ∀ (l : List Int), ascGo none l = ascGo (prevOf l 1) l.tail
  | [] => rfl
  | x :: r => by simp [ascGo, prevOf]
theorem ixOf_any {p : Int → Bool} : ∀ (l : List Int) (j : Nat), decide (0 ≤ ixOf p l j) = l.any p
  | [], j => by simp [ixOf]
  | x :: r, j => by
    simp only [ixOf, List.any_cons]
    by_cases hx : p x = true
    · simp [hx]
    · simp only [hx, if_false, Bool.false_or, reduceCtorEq]; exact ixOf_any r (j + 1)

def q_rising : Con := fun args H K => match args with
  | [ps_v, .c (.int .i64 lo), .c (.int .i64 up)] => eI.rd H (fun ps => K (.c (.bool (risGo lo up none ps))) H) ps_v
  | _ => False
@[simp ↓] theorem q_rising_eq (ps_v : AV) (lo : Int) (up : Int) (H : AHeap) (K : AV → AHeap → Prop) : q_rising [ps_v, .c (.int .i64 lo), .c (.int .i64 up)] H K = (eI.rd H (fun ps => K (.c (.bool (risGo lo up none ps))) H) ps_v) := rfl

theorem spec_l1Rising_s : Sound Tryz.prog 75 q_rising := by
  intro args H K h
  unfold q_rising at h
  split at h
  rotate_left
  all_goals first | exact False.elim h | skip
  rename_i ps_v lo up
  have h1 := Enc.rd_at h
  clear h
  obtain ⟨b_ps, i_ps, k_ps, ps, rfl, hat_ps, h⟩ := h1
  have hE := soundE_cons spec_l1In_s (soundE_nil (P := Tryz.prog))
  refine acalls_fn spec_l1Rising_k hE ⟨by simp, fun hwf => ?_⟩
  have hb_ps : b_ps < H.n := (hwf b_ps k_ps hat_ps.blk).1
  have hne_ps : (b_ps = H.n) = False := eq_false (by omega)
  have hne1_ps : ∀ i, (b_ps = H.n + i) = False := fun i => eq_false (by omega)
  have hne2_ps := ne2_of (a := b_ps) (b := H.n) (by omega)
  have hmx_ps : ps.length ≤ 9223372036854775807 := by have h1 := (hwf b_ps k_ps hat_ps.blk).2.2; have h2 := hat_ps.len; omega
  simp (config := {contextual := true, implicitDefEqProofs := false, maxSteps := 60000}) [-Int.not_le, -Int.not_lt, argsF, spec_l1Rising_c, hat_ps.blk, hat_ps.esz, hat_ps.len, hat_ps.els, hne_ps, hne1_ps, hne2_ps]
  refine aloop_list ps (fun j _ => [(0, .c (.sl b_ps i_ps ps.length)), (1, .c (.int .i64 (lo))), (2, .c (.int .i64 (up))), (7, .c (.int .i64 (j)))]) (fun j _ => H) (fun j l _ => (j ≤ ps.length) ∧ K (.c (.bool (risGo lo up (prevOf ps j) l))) H) hE _ () (⟨Nat.zero_le _, by exact h⟩) (.same hwf (by simp [frOk, AV.okR, AV.ok1, AC.okR, AV.ren, AV.ren1, AC.ren, AFrame.get, pl1_old, *]; first | done | rfl | omega)) (fun j _ hlt hi => ?_) fun _ hi => ?_
  ·
    obtain ⟨hs, hi⟩ := hi
    have hpn := prevOf_succ hlt
    cases j with
    | zero =>
      have e1 := hat_ps.get hlt
      rw [Nat.add_zero] at e1
      have h0i : (0 : Int) < (ps.length : Int) := by omega
      simp (config := {contextual := true, implicitDefEqProofs := false, maxSteps := 60000}) [-Int.not_le, -Int.not_lt, argsF, spec_l1Rising_l0, hat_ps.blk, hat_ps.esz, hat_ps.len, hat_ps.els, hne_ps, hne1_ps, hne2_ps, e1, hlt, h0i, wrap_1]
      simp only [prevOf_0, risGo, decide_eq_true_eq] at hi
      try simp only [ite_not]
      repeat' split
      all_goals try simp only [*, if_true, if_false, reduceCtorEq, Bool.true_and, Bool.false_and, Bool.and_false, Bool.and_true, and_self, and_true, true_and, and_false, false_and, not_true_eq_false, not_false_eq_true] at hi
      all_goals first | ((refine Out.plain hwf ?_ rfl ?_; (repeat first | exact Sub.refl _ | refine Sub.push hwf ?_ _ | refine Sub.set hwf ?_ (by first | exact Nat.le_refl _ | omega | (simp only [push_n, set_n, kill_n]; omega)) _ | refine Sub.kill hwf ?_ (by first | exact Nat.le_refl _ | omega | (simp only [push_n, set_n, kill_n]; omega)))); exact hi) | exact ⟨(), ⟨hlt, by rw [hpn]; exact hi⟩, .drop hwf (by (repeat first | exact Sub.refl _ | refine Sub.push hwf ?_ _ | refine Sub.set hwf ?_ (by first | exact Nat.le_refl _ | omega | (simp only [push_n, set_n, kill_n]; omega)) _ | refine Sub.kill hwf ?_ (by first | exact Nat.le_refl _ | omega | (simp only [push_n, set_n, kill_n]; omega)))) (by simp [frOk, AV.okR, AV.ok1, AC.okR, AV.ren, AV.ren1, AC.ren, AFrame.get, pl1_old, *]; first | done | rfl | omega)⟩ | ((refine Out.plain hwf ?_ rfl ?_; (repeat first | exact Sub.refl _ | refine Sub.push hwf ?_ _ | refine Sub.set hwf ?_ (by first | exact Nat.le_refl _ | omega | (simp only [push_n, set_n, kill_n]; omega)) _ | refine Sub.kill hwf ?_ (by first | exact Nat.le_refl _ | omega | (simp only [push_n, set_n, kill_n]; omega)))); simpa using hi)
    | succ j =>
      have hj := Nat.lt_of_succ_lt hlt
      have e1 := hat_ps.get hlt
      have e0 := hat_ps.get hj
      have hpp := prevOf_succ hj
      rw [hpp] at hi
      try rw [hpp] at hs
      have hj1 : (j : Int) + 1 < (ps.length : Int) := by omega
      have hj2 : (j : Int) < (ps.length : Int) := by omega
      have hj3 : (0 : Int) ≤ (j : Int) + 1 := by omega
      have hj4 : (0 : Int) < (j : Int) + 1 := by omega
      have ej : ((j : Int) + 1).toNat = j + 1 := by omega
      have w0 : IntKind.i64.wrap (j : Int) = (j : Int) := wrap_id (by omega) (by omega)
      have w1 : IntKind.i64.wrap ((j : Int) + 1 + 1) = (j : Int) + 1 + 1 := wrap_id (by omega) (by omega)
      simp (config := {contextual := true, implicitDefEqProofs := false, maxSteps := 60000}) [-Int.not_le, -Int.not_lt, argsF, spec_l1Rising_l0, hat_ps.blk, hat_ps.esz, hat_ps.len, hat_ps.els, hne_ps, hne1_ps, hne2_ps, e1, e0, hlt, hj, hj1, hj2, hj3, hj4, ej, w0, w1]
      have hc : (ps[j + 1] ≤ ps[j]) = ¬ (ps[j] < ps[j + 1]) := propext ⟨fun h => by omega, fun h => by omega⟩
      simp only [hc]
      simp only [prevOf_0, risGo, decide_eq_true_eq] at hi
      try simp only [ite_not]
      repeat' split
      all_goals try simp only [*, if_true, if_false, reduceCtorEq, Bool.true_and, Bool.false_and, Bool.and_false, Bool.and_true, and_self, and_true, true_and, and_false, false_and, not_true_eq_false, not_false_eq_true] at hi
      all_goals first | ((refine Out.plain hwf ?_ rfl ?_; (repeat first | exact Sub.refl _ | refine Sub.push hwf ?_ _ | refine Sub.set hwf ?_ (by first | exact Nat.le_refl _ | omega | (simp only [push_n, set_n, kill_n]; omega)) _ | refine Sub.kill hwf ?_ (by first | exact Nat.le_refl _ | omega | (simp only [push_n, set_n, kill_n]; omega)))); exact hi) | exact ⟨(), ⟨hlt, by rw [hpn]; exact hi⟩, .drop hwf (by (repeat first | exact Sub.refl _ | refine Sub.push hwf ?_ _ | refine Sub.set hwf ?_ (by first | exact Nat.le_refl _ | omega | (simp only [push_n, set_n, kill_n]; omega)) _ | refine Sub.kill hwf ?_ (by first | exact Nat.le_refl _ | omega | (simp only [push_n, set_n, kill_n]; omega)))) (by simp [frOk, AV.okR, AV.ok1, AC.okR, AV.ren, AV.ren1, AC.ren, AFrame.get, pl1_old, *]; first | done | rfl | omega)⟩ | ((refine Out.plain hwf ?_ rfl ?_; (repeat first | exact Sub.refl _ | refine Sub.push hwf ?_ _ | refine Sub.set hwf ?_ (by first | exact Nat.le_refl _ | omega | (simp only [push_n, set_n, kill_n]; omega)) _ | refine Sub.kill hwf ?_ (by first | exact Nat.le_refl _ | omega | (simp only [push_n, set_n, kill_n]; omega)))); simpa using hi)
  ·
    obtain ⟨hs, hi⟩ := hi
    simp (config := {contextual := true, implicitDefEqProofs := false, maxSteps := 60000}) [-Int.not_le, -Int.not_lt, argsF, spec_l1Rising_l0]
    simp only [prevOf_0, risGo, decide_eq_true_eq] at hi
    (refine Out.plain hwf ?_ rfl ?_; (repeat first | exact Sub.refl _ | refine Sub.push hwf ?_ _ | refine Sub.set hwf ?_ (by first | exact Nat.le_refl _ | omega | (simp only [push_n, set_n, kill_n]; omega)) _ | refine Sub.kill hwf ?_ (by first | exact Nat.le_refl _ | omega | (simp only [push_n, set_n, kill_n]; omega)))); simpa using hi

def q_asc : Con := fun args H K => match args with
  | [ps_v] => eI.rd H (fun ps => K (.c (.bool (ascGo none ps))) H) ps_v
  | _ => False
@[simp ↓] theorem q_asc_eq (ps_v : AV) (H : AHeap) (K : AV → AHeap → Prop) : q_asc [ps_v] H K = (eI.rd H (fun ps => K (.c (.bool (ascGo none ps))) H) ps_v) := rfl

theorem impl_ascending_s : Sound Tryz.prog 60 q_asc := by
  intro args H K h
  unfold q_asc at h
  split at h
  rotate_left
  all_goals first | exact False.elim h | skip
  rename_i ps_v
  have h1 := Enc.rd_at h
  clear h
  obtain ⟨b_ps, i_ps, k_ps, ps, rfl, hat_ps, h⟩ := h1
  have hE := soundE_nil (P := Tryz.prog)
  refine acalls_fn impl_ascending_k hE ⟨by simp, fun hwf => ?_⟩
  have hb_ps : b_ps < H.n := (hwf b_ps k_ps hat_ps.blk).1
  have hne_ps : (b_ps = H.n) = False := eq_false (by omega)
  have hne1_ps : ∀ i, (b_ps = H.n + i) = False := fun i => eq_false (by omega)
  have hne2_ps := ne2_of (a := b_ps) (b := H.n) (by omega)
  have hmx_ps : ps.length ≤ 9223372036854775807 := by have h1 := (hwf b_ps k_ps hat_ps.blk).2.2; have h2 := hat_ps.len; omega
  simp (config := {contextual := true, implicitDefEqProofs := false, maxSteps := 60000}) [-Int.not_le, -Int.not_lt, argsF, impl_ascending_c, hat_ps.blk, hat_ps.esz, hat_ps.len, hat_ps.els, hne_ps, hne1_ps, hne2_ps]
  rw [ascGo_tail] at h
  have hl3 : ¬ (((ps.length - 1 : Nat) : Int) + 1 < (ps.length : Int)) := by omega
  refine aloop_list ps.tail (fun j _ => [(0, .c (.sl b_ps i_ps ps.length)), (3, .c (.int .i64 ((j : Int) + 1)))]) (fun j _ => H) (fun j l _ => K (.c (.bool (ascGo (prevOf ps (j + 1)) l))) H) hE _ (()) (h) (.same hwf (by simp [frOk, AV.okR, AV.ok1, AC.okR, AV.ren, AV.ren1, AC.ren, AFrame.get, pl1_old, *]; first | done | rfl | omega)) (fun j _ hlt hi => ?_) fun _ hi => ?_
  ·
    have hj : j + 1 < ps.length := by simp at hlt; omega
    have hjl : j < ps.length := by omega
    have hj0 : (j : Int) + 1 < (ps.length : Int) := by omega
    have hj3 : (0 : Int) ≤ (j : Int) + 1 := by omega
    have ej : ((j : Int) + 1).toNat = j + 1 := by omega
    have w0 : IntKind.i64.wrap (j : Int) = (j : Int) := wrap_id (by omega) (by omega)
    have w2 : IntKind.i64.wrap ((j : Int) + 1 + 1) = (j : Int) + 1 + 1 := wrap_id (by omega) (by omega)
    have ed : ps.tail[j] = ps[j + 1] := by simp
    rw [ed, prevOf_succ hjl] at hi
    have hpn := prevOf_succ hj
    have e1 := hat_ps.get hj
    have e0 := hat_ps.get hjl
    simp (config := {contextual := true, implicitDefEqProofs := false, maxSteps := 60000}) [-Int.not_le, -Int.not_lt, argsF, impl_ascending_l0, hat_ps.blk, hat_ps.esz, hat_ps.len, hat_ps.els, hne_ps, hne1_ps, hne2_ps, hj, hjl, hj0, hj3, ej, w0, w2, e1, e0]
    simp only [ascGo, decide_eq_true_eq] at hi
    split
    · rename_i hc
      rw [if_neg (by omega)] at hi
      (refine Out.plain hwf ?_ rfl ?_; (repeat first | exact Sub.refl _ | refine Sub.push hwf ?_ _ | refine Sub.set hwf ?_ (by first | exact Nat.le_refl _ | omega | (simp only [push_n, set_n, kill_n]; omega)) _ | refine Sub.kill hwf ?_ (by first | exact Nat.le_refl _ | omega | (simp only [push_n, set_n, kill_n]; omega)))); exact hi
    · rename_i hc
      rw [if_pos (by omega)] at hi
      exact ⟨(), by rw [hpn]; exact hi, .drop hwf (by (repeat first | exact Sub.refl _ | refine Sub.push hwf ?_ _ | refine Sub.set hwf ?_ (by first | exact Nat.le_refl _ | omega | (simp only [push_n, set_n, kill_n]; omega)) _ | refine Sub.kill hwf ?_ (by first | exact Nat.le_refl _ | omega | (simp only [push_n, set_n, kill_n]; omega)))) (by simp [frOk, AV.okR, AV.ok1, AC.okR, AV.ren, AV.ren1, AC.ren, AFrame.get, pl1_old, *]; first | done | rfl | omega)⟩
  ·
    have hl4 : ¬ ((ps.length : Int) - 1 + 1 < (ps.length : Int)) := by omega
    simp (config := {contextual := true, implicitDefEqProofs := false, maxSteps := 60000}) [-Int.not_le, -Int.not_lt, argsF, impl_ascending_l0, hat_ps.blk, hat_ps.esz, hat_ps.len, hat_ps.els, hne_ps, hne1_ps, hne2_ps, hl3, hl4]
    simp only [ascGo] at hi
    (refine Out.plain hwf ?_ rfl ?_; (repeat first | exact Sub.refl _ | refine Sub.push hwf ?_ _ | refine Sub.set hwf ?_ (by first | exact Nat.le_refl _ | omega | (simp only [push_n, set_n, kill_n]; omega)) _ | refine Sub.kill hwf ?_ (by first | exact Nat.le_refl _ | omega | (simp only [push_n, set_n, kill_n]; omega)))); exact hi

def q_hasI : Con := fun args H K => match args with
  | [ps_v, .c (.int .i64 n)] => eI.rd H (fun ps => K (.c (.bool (ps.contains n))) H) ps_v
  | _ => False
@[simp ↓] theorem q_hasI_eq (ps_v : AV) (n : Int) (H : AHeap) (K : AV → AHeap → Prop) : q_hasI [ps_v, .c (.int .i64 n)] H K = (eI.rd H (fun ps => K (.c (.bool (ps.contains n))) H) ps_v) := rfl

def hasGo (n : Int) : List Int → Bool
  | [] => false
  | x :: r => if x = n then true else hasGo n r
theorem hasGo_eq (n : Int) : ∀ l : List Int, hasGo n l = l.contains n
  | [] => rfl
  | x :: r => by
    simp only [hasGo, List.contains_cons, hasGo_eq n r]
    by_cases h : x = n
    · simp [h]
    · simp [h, Ne.symm h]

theorem spec_l1Has_s : Sound Tryz.prog 40 q_hasI := by
  intro args H K h
  unfold q_hasI at h
  split at h
  rotate_left
  all_goals first | exact False.elim h | skip
  rename_i ps_v n
  have h1 := Enc.rd_at h
  clear h
  obtain ⟨b_ps, i_ps, k_ps, ps, rfl, hat_ps, h⟩ := h1
  have hE := soundE_nil (P := Tryz.prog)
  refine acalls_fn spec_l1Has_k hE ⟨by simp, fun hwf => ?_⟩
  have hb_ps : b_ps < H.n := (hwf b_ps k_ps hat_ps.blk).1
  have hne_ps : (b_ps = H.n) = False := eq_false (by omega)
  have hne1_ps : ∀ i, (b_ps = H.n + i) = False := fun i => eq_false (by omega)
  have hne2_ps := ne2_of (a := b_ps) (b := H.n) (by omega)
  have hmx_ps : ps.length ≤ 9223372036854775807 := by have h1 := (hwf b_ps k_ps hat_ps.blk).2.2; have h2 := hat_ps.len; omega
  simp (config := {contextual := true, implicitDefEqProofs := false, maxSteps := 60000}) [-Int.not_le, -Int.not_lt, argsF, spec_l1Has_c, hat_ps.blk, hat_ps.esz, hat_ps.len, hat_ps.els, hne_ps, hne1_ps, hne2_ps]
  rw [← hasGo_eq] at h
  refine aloop_list ps (fun j _ => [(0, .c (.sl b_ps i_ps ps.length)), (1, .c (.int .i64 (n))), (5, .c (.int .i64 (j)))]) (fun j _ => H) (fun j l _ => K (.c (.bool (hasGo n l))) H) hE _ (()) (h) (.same hwf (by simp [frOk, AV.okR, AV.ok1, AC.okR, AV.ren, AV.ren1, AC.ren, AFrame.get, pl1_old, *]; first | done | rfl | omega)) (fun j _ hlt hi => ?_) fun _ hi => ?_
  ·
    have e1 := hat_ps.get hlt
    have hj1 := idx_lt hlt
    have w1 : IntKind.i64.wrap ((j : Int) + 1) = (j : Int) + 1 := wrap_id (by omega) (by omega)
    simp (config := {contextual := true, implicitDefEqProofs := false, maxSteps := 60000}) [-Int.not_le, -Int.not_lt, argsF, spec_l1Has_l0, hat_ps.blk, hat_ps.esz, hat_ps.len, hat_ps.els, hne_ps, hne1_ps, hne2_ps, e1, hj1, w1]
    simp only [hasGo] at hi
    repeat' split
    all_goals try simp only [*, if_true, if_false, reduceCtorEq, and_self, and_true, true_and, and_false, false_and, not_true_eq_false, not_false_eq_true] at hi
    all_goals first | ((refine Out.plain hwf ?_ rfl ?_; (repeat first | exact Sub.refl _ | refine Sub.push hwf ?_ _ | refine Sub.set hwf ?_ (by first | exact Nat.le_refl _ | omega | (simp only [push_n, set_n, kill_n]; omega)) _ | refine Sub.kill hwf ?_ (by first | exact Nat.le_refl _ | omega | (simp only [push_n, set_n, kill_n]; omega)))); exact hi) | exact ⟨(), hi, .drop hwf (by (repeat first | exact Sub.refl _ | refine Sub.push hwf ?_ _ | refine Sub.set hwf ?_ (by first | exact Nat.le_refl _ | omega | (simp only [push_n, set_n, kill_n]; omega)) _ | refine Sub.kill hwf ?_ (by first | exact Nat.le_refl _ | omega | (simp only [push_n, set_n, kill_n]; omega)))) (by simp [frOk, AV.okR, AV.ok1, AC.okR, AV.ren, AV.ren1, AC.ren, AFrame.get, pl1_old, *]; first | done | rfl | omega)⟩
  ·
    simp (config := {contextual := true, implicitDefEqProofs := false, maxSteps := 60000}) [-Int.not_le, -Int.not_lt, argsF, spec_l1Has_l0, hat_ps.blk, hat_ps.esz, hat_ps.len, hat_ps.els, hne_ps, hne1_ps, hne2_ps]
    simp only [hasGo] at hi
    (refine Out.plain hwf ?_ rfl ?_; (repeat first | exact Sub.refl _ | refine Sub.push hwf ?_ _ | refine Sub.set hwf ?_ (by first | exact Nat.le_refl _ | omega | (simp only [push_n, set_n, kill_n]; omega)) _ | refine Sub.kill hwf ?_ (by first | exact Nat.le_refl _ | omega | (simp only [push_n, set_n, kill_n]; omega)))); exact hi

def q_indexI : Con := fun args H K => match args with
  | [ps_v, .c (.int .i64 n)] => eI.rd H (fun ps => K (.c (.int .i64 (ixOf (fun x => decide (n = x)) ps 0))) H) ps_v
  | _ => False
@[simp ↓] theorem q_indexI_eq (ps_v : AV) (n : Int) (H : AHeap) (K : AV → AHeap → Prop) : q_indexI [ps_v, .c (.int .i64 n)] H K = (eI.rd H (fun ps => K (.c (.int .i64 (ixOf (fun x => decide (n = x)) ps 0))) H) ps_v) := rfl

theorem slices_Index___int_int_s : Sound Tryz.prog 76 q_indexI := by
  intro args H K h
  unfold q_indexI at h
  split at h
  rotate_left
  all_goals first | exact False.elim h | skip
  rename_i ps_v n
  have h1 := Enc.rd_at h
  clear h
  obtain ⟨b_ps, i_ps, k_ps, ps, rfl, hat_ps, h⟩ := h1
  have hE := soundE_nil (P := Tryz.prog)
  refine acalls_fn slices_Index___int_int__k hE ⟨by simp, fun hwf => ?_⟩
  have hb_ps : b_ps < H.n := (hwf b_ps k_ps hat_ps.blk).1
  have hne_ps : (b_ps = H.n) = False := eq_false (by omega)
  have hne1_ps : ∀ i, (b_ps = H.n + i) = False := fun i => eq_false (by omega)
  have hne2_ps := ne2_of (a := b_ps) (b := H.n) (by omega)
  have hmx_ps : ps.length ≤ 9223372036854775807 := by have h1 := (hwf b_ps k_ps hat_ps.blk).2.2; have h2 := hat_ps.len; omega
  simp (config := {contextual := true, implicitDefEqProofs := false, maxSteps := 60000}) [-Int.not_le, -Int.not_lt, argsF, slices_Index___int_int__c, hat_ps.blk, hat_ps.esz, hat_ps.len, hat_ps.els, hne_ps, hne1_ps, hne2_ps]
  refine aloop_list ps (fun j _ => [(0, .c (.sl b_ps i_ps ps.length)), (1, .c (.int .i64 (n))), (7, .c (.int .i64 ps.length)), (8, .c (.int .i64 (j)))]) (fun j _ => H) (fun j l _ => K (.c (.int .i64 (ixOf (fun x => decide (n = x)) l j))) H) hE _ (()) (h) (.same hwf (by simp [frOk, AV.okR, AV.ok1, AC.okR, AV.ren, AV.ren1, AC.ren, AFrame.get, pl1_old, *]; first | done | rfl | omega)) (fun j _ hlt hi => ?_) fun _ hi => ?_
  ·
    have e1 := hat_ps.get hlt
    have hj1 := idx_lt hlt
    have w1 : IntKind.i64.wrap ((j : Int) + 1) = (j : Int) + 1 := wrap_id (by omega) (by omega)
    simp (config := {contextual := true, implicitDefEqProofs := false, maxSteps := 60000}) [-Int.not_le, -Int.not_lt, argsF, slices_Index___int_int__l0, hat_ps.blk, hat_ps.esz, hat_ps.len, hat_ps.els, hne_ps, hne1_ps, hne2_ps, e1, hj1, w1]
    simp only [ixOf, decide_eq_true_eq] at hi
    repeat' split
    all_goals try simp only [*, if_true, if_false, reduceCtorEq, and_self, and_true, true_and, and_false, false_and, not_true_eq_false, not_false_eq_true] at hi
    all_goals first | ((refine Out.plain hwf ?_ rfl ?_; (repeat first | exact Sub.refl _ | refine Sub.push hwf ?_ _ | refine Sub.set hwf ?_ (by first | exact Nat.le_refl _ | omega | (simp only [push_n, set_n, kill_n]; omega)) _ | refine Sub.kill hwf ?_ (by first | exact Nat.le_refl _ | omega | (simp only [push_n, set_n, kill_n]; omega)))); exact hi) | exact ⟨(), hi, .drop hwf (by (repeat first | exact Sub.refl _ | refine Sub.push hwf ?_ _ | refine Sub.set hwf ?_ (by first | exact Nat.le_refl _ | omega | (simp only [push_n, set_n, kill_n]; omega)) _ | refine Sub.kill hwf ?_ (by first | exact Nat.le_refl _ | omega | (simp only [push_n, set_n, kill_n]; omega)))) (by simp [frOk, AV.okR, AV.ok1, AC.okR, AV.ren, AV.ren1, AC.ren, AFrame.get, pl1_old, *]; first | done | rfl | omega)⟩
  ·
    simp (config := {contextual := true, implicitDefEqProofs := false, maxSteps := 60000}) [-Int.not_le, -Int.not_lt, argsF, slices_Index___int_int__l0, hat_ps.blk, hat_ps.esz, hat_ps.len, hat_ps.els, hne_ps, hne1_ps, hne2_ps]
    simp only [ixOf, decide_eq_true_eq] at hi
    (refine Out.plain hwf ?_ rfl ?_; (repeat first | exact Sub.refl _ | refine Sub.push hwf ?_ _ | refine Sub.set hwf ?_ (by first | exact Nat.le_refl _ | omega | (simp only [push_n, set_n, kill_n]; omega)) _ | refine Sub.kill hwf ?_ (by first | exact Nat.le_refl _ | omega | (simp only [push_n, set_n, kill_n]; omega)))); exact hi

theorem any_contains (n : Int) (l : List Int) : (l.any fun x => decide (n = x)) = l.contains n := by
  rw [← hasGo_eq]
  induction l with
  | nil => rfl
  | cons x r ih => simp only [List.any_cons, hasGo, ih]; by_cases h : x = n <;> simp [h, Ne.symm, eq_comm]

theorem slices_Contains___int_int_s : Sound Tryz.prog 61 q_hasI := by
  intro args H K h
  unfold q_hasI at h
  split at h
  rotate_left
  all_goals first | exact False.elim h | skip
  rename_i ps_v n
  have h1 := Enc.rd_at h
  clear h
  obtain ⟨b_ps, i_ps, k_ps, ps, rfl, hat_ps, h⟩ := h1
  have hE := soundE_cons slices_Index___int_int_s (soundE_nil (P := Tryz.prog))
  refine acalls_fn slices_Contains___int_int__k hE ⟨by simp, fun hwf => ?_⟩
  have hb_ps : b_ps < H.n := (hwf b_ps k_ps hat_ps.blk).1
  have hne_ps : (b_ps = H.n) = False := eq_false (by omega)
  have hne1_ps : ∀ i, (b_ps = H.n + i) = False := fun i => eq_false (by omega)
  have hne2_ps := ne2_of (a := b_ps) (b := H.n) (by omega)
  have hmx_ps : ps.length ≤ 9223372036854775807 := by have h1 := (hwf b_ps k_ps hat_ps.blk).2.2; have h2 := hat_ps.len; omega
  simp (config := {contextual := true, implicitDefEqProofs := false, maxSteps := 60000}) [-Int.not_le, -Int.not_lt, argsF, slices_Contains___int_int__c, hat_ps.blk, hat_ps.esz, hat_ps.len, hat_ps.els, hne_ps, hne1_ps, hne2_ps]
  rw [← any_contains, ← ixOf_any ps 0] at h
  (refine Out.plain hwf ?_ rfl ?_; (repeat first | exact Sub.refl _ | refine Sub.push hwf ?_ _ | refine Sub.set hwf ?_ (by first | exact Nat.le_refl _ | omega | (simp only [push_n, set_n, kill_n]; omega)) _ | refine Sub.kill hwf ?_ (by first | exact Nat.le_refl _ | omega | (simp only [push_n, set_n, kill_n]; omega)))); exact h

def isSi (s : Si) : Bool := inR s.id 1 999 && (inR s.year 1840 2100 && (isWord s.town && (decide ((s.traits.length : Int) ≤ 8) && risGo 1 50 none s.traits)))

def q_isSi : Con := fun args H K => match args with
  | [.agg s_e] => onv (eSi.dec H s_e) fun s => K (.c (.bool (isSi s))) H
  | _ => False
@[simp ↓] theorem q_isSi_eq (s_e : List AC) (H : AHeap) (K : AV → AHeap → Prop) : q_isSi [.agg s_e] H K = (onv (eSi.dec H s_e) fun s => K (.c (.bool (isSi s))) H) := rfl

theorem spec_l13One_s : Sound Tryz.prog 57 q_isSi := by
  intro args H K h
  unfold q_isSi at h
  split at h
  rotate_left
  all_goals first | exact False.elim h | skip
  rename_i s_e
  have h1 := onv_iff.1 h
  clear h
  obtain ⟨s, hd_s, h⟩ := h1
  obtain ⟨b_s, i_s, k_s, rfl, hat_s, htx_s⟩ := eSi_at hd_s
  have hE := soundE_cons spec_l1In_s (soundE_cons spec_l2Word_s (soundE_cons spec_l1Rising_s (soundE_nil (P := Tryz.prog))))
  refine acalls_fn spec_l13One_k hE ⟨by simp, fun hwf => ?_⟩
  obtain ⟨hsr, hsp, hst, hss, hsk⟩ := hs_of hwf
  have hb_s : b_s < H.n := (hwf b_s k_s hat_s.blk).1
  have hne_s : (b_s = H.n) = False := eq_false (by omega)
  have hne1_s : ∀ i, (b_s = H.n + i) = False := fun i => eq_false (by omega)
  have hne2_s := ne2_of (a := b_s) (b := H.n) (by omega)
  have hmx_s : s.traits.length ≤ 9223372036854775807 := by have h1 := (hwf b_s k_s hat_s.blk).2.2; have h2 := hat_s.len; omega
  simp (config := {contextual := true, implicitDefEqProofs := false, maxSteps := 60000}) [-Int.not_le, -Int.not_lt, argsF, spec_l13One_c, hat_s.blk, hat_s.esz, hat_s.len, hat_s.els, hne_s, hne1_s, hne2_s, htx_s, hsr, hsp, hst, hss, hsk]
  repeat' split
  all_goals ((refine Out.plain hwf ?_ rfl ?_; (repeat first | exact Sub.refl _ | refine Sub.push hwf ?_ _ | refine Sub.set hwf ?_ (by first | exact Nat.le_refl _ | omega | (simp only [push_n, set_n, kill_n]; omega)) _ | refine Sub.kill hwf ?_ (by first | exact Nat.le_refl _ | omega | (simp only [push_n, set_n, kill_n]; omega)))); simp_all [isSi])

end Go.Proofs.YtafenginfojcmaaGreatDoor
set_option maxRecDepth 8000
set_option linter.unusedSimpArgs false
set_option linter.unusedVariables false
namespace Go.Proofs.YtafenginfojcmaaGreatDoor
open Go Go.RowKit

def siGo : Option Si → List Si → Bool
  | _, [] => true
  | o, x :: r => if isSi x = true then (if (match o with | none => true | some p => decide (p.id < x.id)) = true then siGo (some x) r else false) else false
def areSi (ps : List Si) : Bool := siGo none ps && decide (ps.length ≤ 10)
theorem areSi_len {ps : List Si} (h : areSi ps = true) : ps.length ≤ 10 := by
  simp only [areSi, Bool.and_eq_true, decide_eq_true_eq] at h; exact h.2

def q_areSi : Con := fun args H K => match args with
  | [ps_v] => eSi.rd H (fun ps => K (.c (.bool (areSi ps))) H) ps_v
  | _ => False
@[simp ↓] theorem q_areSi_eq (ps_v : AV) (H : AHeap) (K : AV → AHeap → Prop) : q_areSi [ps_v] H K = (eSi.rd H (fun ps => K (.c (.bool (areSi ps))) H) ps_v) := rfl

theorem spec_l13Good_s : Sound Tryz.prog 30 q_areSi := by
  intro args H K h
  unfold q_areSi at h
  split at h
  rotate_left
  all_goals first | exact False.elim h | skip
  rename_i ps_v
  have h1 := EncH.rd_at h
  clear h
  obtain ⟨b_ps, i_ps, k_ps, ps, rfl, hat_ps, h⟩ := h1
  have hE := soundE_cons spec_l13One_s (soundE_nil (P := Tryz.prog))
  refine acalls_fn spec_l13Good_k hE ⟨by simp, fun hwf => ?_⟩
  obtain ⟨hsr, hsp, hst, hss, hsk⟩ := hs_of hwf
  have hon_ps := hat_ps.on
  have hb_ps : b_ps < H.n := (hwf b_ps k_ps hat_ps.blk).1
  have hne_ps : (b_ps = H.n) = False := eq_false (by omega)
  have hne1_ps : ∀ i, (b_ps = H.n + i) = False := fun i => eq_false (by omega)
  have hne2_ps := ne2_of (a := b_ps) (b := H.n) (by omega)
  have hmx_ps : ps.length ≤ 9223372036854775807 := by have h1 := (hwf b_ps k_ps hat_ps.blk).2.2; have h2 := hat_ps.len; omega
  simp (config := {contextual := true, implicitDefEqProofs := false, maxSteps := 60000}) [-Int.not_le, -Int.not_lt, argsF, spec_l13Good_c, hat_ps.blk, hat_ps.esz, hat_ps.len, hon_ps, hne_ps, hne1_ps, hne2_ps, hsr, hsp, hst, hss, hsk]
  refine aloop_list ps (fun j _ => [(0, .c (.sl b_ps i_ps ps.length)), (3, .c (.int .i64 (j)))]) (fun j _ => H) (fun j l _ => (j ≤ ps.length) ∧ K (.c (.bool (siGo (prevOf ps j) l && decide (ps.length ≤ 10)))) H) hE _ () (⟨Nat.zero_le _, by exact h⟩) (.same hwf (by simp [frOk, AV.okR, AV.ok1, AC.okR, AV.ren, AV.ren1, AC.ren, AFrame.get, pl1_old, *]; first | done | rfl | omega)) (fun j _ hlt hi => ?_) fun _ hi => ?_
  ·
    obtain ⟨hs, hi⟩ := hi
    have hpn := prevOf_succ hlt
    obtain ⟨ex_x, e_x, hd_x⟩ := hat_ps.get hlt
    obtain ⟨b_x, i_x, k_x, rfl, hat_x, htx_x⟩ := eSi_at hd_x
    have hb_x : b_x < H.n := (hwf b_x k_x hat_x.blk).1
    have hne_x : (b_x = H.n) = False := eq_false (by omega)
    have hne1_x : ∀ i, (b_x = H.n + i) = False := fun i => eq_false (by omega)
    have hne2_x := ne2_of (a := b_x) (b := H.n) (by omega)
    cases j with
    | zero =>
      rw [Nat.add_zero] at e_x
      have h0i : (0 : Int) < (ps.length : Int) := by omega
      simp (config := {contextual := true, implicitDefEqProofs := false, maxSteps := 2000000}) [-Int.not_le, -Int.not_lt, argsF, spec_l13Good_l0, hat_ps.blk, hat_ps.esz, hat_ps.len, hon_ps, hne_ps, hne1_ps, hne2_ps, hsr, hsp, hst, hss, hsk, e_x, htx_x, hat_x.blk, hat_x.esz, hat_x.len, hat_x.els, hne_x, hne1_x, hne2_x, hlt, h0i, wrap_1]
      simp only [prevOf_0, siGo, decide_eq_true_eq] at hi
      try simp only [ite_not]
      repeat' split
      all_goals try simp only [*, if_true, if_false, reduceCtorEq, Bool.true_and, Bool.false_and, Bool.and_false, Bool.and_true, and_self, and_true, true_and, and_false, false_and, not_true_eq_false, not_false_eq_true] at hi
      all_goals first | ((refine Out.plain hwf ?_ rfl ?_; (repeat first | exact Sub.refl _ | refine Sub.push hwf ?_ _ | refine Sub.set hwf ?_ (by first | exact Nat.le_refl _ | omega | (simp only [push_n, set_n, kill_n]; omega)) _ | refine Sub.kill hwf ?_ (by first | exact Nat.le_refl _ | omega | (simp only [push_n, set_n, kill_n]; omega)))); exact hi) | exact ⟨(), ⟨hlt, by rw [hpn]; exact hi⟩, .drop hwf (by (repeat first | exact Sub.refl _ | refine Sub.push hwf ?_ _ | refine Sub.set hwf ?_ (by first | exact Nat.le_refl _ | omega | (simp only [push_n, set_n, kill_n]; omega)) _ | refine Sub.kill hwf ?_ (by first | exact Nat.le_refl _ | omega | (simp only [push_n, set_n, kill_n]; omega)))) (by simp [frOk, AV.okR, AV.ok1, AC.okR, AV.ren, AV.ren1, AC.ren, AFrame.get, pl1_old, *]; first | done | rfl | omega)⟩ | ((refine Out.plain hwf ?_ rfl ?_; (repeat first | exact Sub.refl _ | refine Sub.push hwf ?_ _ | refine Sub.set hwf ?_ (by first | exact Nat.le_refl _ | omega | (simp only [push_n, set_n, kill_n]; omega)) _ | refine Sub.kill hwf ?_ (by first | exact Nat.le_refl _ | omega | (simp only [push_n, set_n, kill_n]; omega)))); simpa using hi)
    | succ j =>
      have hj := Nat.lt_of_succ_lt hlt
      obtain ⟨ex_y, e_y, hd_y⟩ := hat_ps.get hj
      obtain ⟨b_y, i_y, k_y, rfl, hat_y, htx_y⟩ := eSi_at hd_y
      have hb_y : b_y < H.n := (hwf b_y k_y hat_y.blk).1
      have hne_y : (b_y = H.n) = False := eq_false (by omega)
      have hne1_y : ∀ i, (b_y = H.n + i) = False := fun i => eq_false (by omega)
      have hne2_y := ne2_of (a := b_y) (b := H.n) (by omega)
      have hpp := prevOf_succ hj
      rw [hpp] at hi
      have hj1 : (j : Int) + 1 < (ps.length : Int) := by omega
      have hj2 : (j : Int) < (ps.length : Int) := by omega
      have hj3 : (0 : Int) ≤ (j : Int) + 1 := by omega
      have hj4 : (0 : Int) < (j : Int) + 1 := by omega
      have ej : ((j : Int) + 1).toNat = j + 1 := by omega
      have w0 : IntKind.i64.wrap (j : Int) = (j : Int) := wrap_id (by omega) (by omega)
      have w1 : IntKind.i64.wrap ((j : Int) + 1 + 1) = (j : Int) + 1 + 1 := wrap_id (by omega) (by omega)
      simp (config := {contextual := true, implicitDefEqProofs := false, maxSteps := 2000000}) [-Int.not_le, -Int.not_lt, argsF, spec_l13Good_l0, hat_ps.blk, hat_ps.esz, hat_ps.len, hon_ps, hne_ps, hne1_ps, hne2_ps, hsr, hsp, hst, hss, hsk, e_x, htx_x, hat_x.blk, hat_x.esz, hat_x.len, hat_x.els, hne_x, hne1_x, hne2_x, e_y, htx_y, hat_y.blk, hat_y.esz, hat_y.len, hat_y.els, hne_y, hne1_y, hne2_y, hlt, hj, hj1, hj2, hj3, hj4, ej, w0, w1]
      have hc : (ps[j + 1].id ≤ ps[j].id) = ¬ (ps[j].id < ps[j + 1].id) := propext ⟨fun h => by omega, fun h => by omega⟩
      simp only [hc]
      simp only [prevOf_0, siGo, decide_eq_true_eq] at hi
      try simp only [ite_not]
      repeat' split
      all_goals try simp only [*, if_true, if_false, reduceCtorEq, Bool.true_and, Bool.false_and, Bool.and_false, Bool.and_true, and_self, and_true, true_and, and_false, false_and, not_true_eq_false, not_false_eq_true] at hi
      all_goals first | ((refine Out.plain hwf ?_ rfl ?_; (repeat first | exact Sub.refl _ | refine Sub.push hwf ?_ _ | refine Sub.set hwf ?_ (by first | exact Nat.le_refl _ | omega | (simp only [push_n, set_n, kill_n]; omega)) _ | refine Sub.kill hwf ?_ (by first | exact Nat.le_refl _ | omega | (simp only [push_n, set_n, kill_n]; omega)))); exact hi) | exact ⟨(), ⟨hlt, by rw [hpn]; exact hi⟩, .drop hwf (by (repeat first | exact Sub.refl _ | refine Sub.push hwf ?_ _ | refine Sub.set hwf ?_ (by first | exact Nat.le_refl _ | omega | (simp only [push_n, set_n, kill_n]; omega)) _ | refine Sub.kill hwf ?_ (by first | exact Nat.le_refl _ | omega | (simp only [push_n, set_n, kill_n]; omega)))) (by simp [frOk, AV.okR, AV.ok1, AC.okR, AV.ren, AV.ren1, AC.ren, AFrame.get, pl1_old, *]; first | done | rfl | omega)⟩ | ((refine Out.plain hwf ?_ rfl ?_; (repeat first | exact Sub.refl _ | refine Sub.push hwf ?_ _ | refine Sub.set hwf ?_ (by first | exact Nat.le_refl _ | omega | (simp only [push_n, set_n, kill_n]; omega)) _ | refine Sub.kill hwf ?_ (by first | exact Nat.le_refl _ | omega | (simp only [push_n, set_n, kill_n]; omega)))); simpa using hi)
  ·
    obtain ⟨hs, hi⟩ := hi
    simp (config := {contextual := true, implicitDefEqProofs := false, maxSteps := 60000}) [-Int.not_le, -Int.not_lt, argsF, spec_l13Good_l0]
    simp only [prevOf_0, siGo, decide_eq_true_eq] at hi
    rw [Bool.true_and] at hi
    (refine Out.plain hwf ?_ rfl ?_; (repeat first | exact Sub.refl _ | refine Sub.push hwf ?_ _ | refine Sub.set hwf ?_ (by first | exact Nat.le_refl _ | omega | (simp only [push_n, set_n, kill_n]; omega)) _ | refine Sub.kill hwf ?_ (by first | exact Nat.le_refl _ | omega | (simp only [push_n, set_n, kill_n]; omega))))
    have e : decide ((ps.length : Int) ≤ 10) = decide (ps.length ≤ 10) := by rw [decide_eq_decide]; omega
    rw [e]; exact hi

end Go.Proofs.YtafenginfojcmaaGreatDoor
set_option maxRecDepth 8000
set_option linter.unusedSimpArgs false
set_option linter.unusedVariables false
namespace Go.Proofs.YtafenginfojcmaaGreatDoor
open Go Go.RowKit

def evGo (t : List Int) : List Int → Nat → Nat
  | [], n => n
  | x :: r, n => if t.contains x = true then evGo t r (n + 1) else evGo t r n
theorem evGo_b (t : List Int) : ∀ (l : List Int) (n : Nat), n ≤ evGo t l n ∧ evGo t l n ≤ n + l.length
  | [], n => by simp [evGo]
  | x :: r, n => by
    simp only [evGo, List.length_cons]
    split
    · have := evGo_b t r (n + 1); omega
    · have := evGo_b t r n; omega
def evid (s t : Si) : Int := 4 * (evGo t.traits s.traits 0 : Int) - s.traits.length - t.traits.length - (if s.town = t.town then 0 else 10)

def q_evid : Con := fun args H K => match args with
  | [.agg s_e, .agg t_e] => onv (eSi.dec H s_e) fun s => onv (eSi.dec H t_e) fun t => s.traits.length ≤ 1048576 ∧ t.traits.length ≤ 1048576 ∧ K (.c (.int .i64 (evid s t))) H
  | _ => False
@[simp ↓] theorem q_evid_eq (s_e : List AC) (t_e : List AC) (H : AHeap) (K : AV → AHeap → Prop) : q_evid [.agg s_e, .agg t_e] H K = (onv (eSi.dec H s_e) fun s => onv (eSi.dec H t_e) fun t => s.traits.length ≤ 1048576 ∧ t.traits.length ≤ 1048576 ∧ K (.c (.int .i64 (evid s t))) H) := rfl

def boxS (b i : Nat) (s : Si) : ABlk := ⟨32, 4, false, false, [[.int .i64 s.id, .int .i64 s.year, .str s.town, .sl b i s.traits.length]]⟩

theorem impl_evidence_s : Sound Tryz.prog 29 q_evid := by
  intro args H K h
  unfold q_evid at h
  split at h
  rotate_left
  all_goals first | exact False.elim h | skip
  rename_i s_e t_e
  have h1 := onv_iff.1 h
  clear h
  obtain ⟨s, hd_s, h⟩ := h1
  obtain ⟨b_s, i_s, k_s, rfl, hat_s, htx_s⟩ := eSi_at hd_s
  have h1 := onv_iff.1 h
  clear h
  obtain ⟨t, hd_t, h⟩ := h1
  obtain ⟨b_t, i_t, k_t, rfl, hat_t, htx_t⟩ := eSi_at hd_t
  have hE := soundE_cons slices_Contains___int_int_s (soundE_nil (P := Tryz.prog))
  refine acalls_fn impl_evidence_k hE ⟨by simp, fun hwf => ?_⟩
  obtain ⟨hsr, hsp, hst, hss, hsk⟩ := hs_of hwf
  have hb_s : b_s < H.n := (hwf b_s k_s hat_s.blk).1
  have hne_s : (b_s = H.n) = False := eq_false (by omega)
  have hne1_s : ∀ i, (b_s = H.n + i) = False := fun i => eq_false (by omega)
  have hne2_s := ne2_of (a := b_s) (b := H.n) (by omega)
  have hmx_s : s.traits.length ≤ 9223372036854775807 := by have h1 := (hwf b_s k_s hat_s.blk).2.2; have h2 := hat_s.len; omega
  have hb_t : b_t < H.n := (hwf b_t k_t hat_t.blk).1
  have hne_t : (b_t = H.n) = False := eq_false (by omega)
  have hne1_t : ∀ i, (b_t = H.n + i) = False := fun i => eq_false (by omega)
  have hne2_t := ne2_of (a := b_t) (b := H.n) (by omega)
  have hmx_t : t.traits.length ≤ 9223372036854775807 := by have h1 := (hwf b_t k_t hat_t.blk).2.2; have h2 := hat_t.len; omega
  obtain ⟨hl1, hl2, h⟩ := h
  simp (config := {contextual := true, implicitDefEqProofs := false, maxSteps := 60000}) [-Int.not_le, -Int.not_lt, argsF, impl_evidence_c, hat_s.blk, hat_s.esz, hat_s.len, hat_s.els, hne_s, hne1_s, hne2_s, hat_t.blk, hat_t.esz, hat_t.len, hat_t.els, hne_t, hne1_t, hne2_t, htx_s, htx_t, hsr, hsp, hst, hss, hsk]
  have hwf1 : ((H.push (boxS b_s i_s s)).push (boxS b_t i_t t)).WF := WF.push (WF.push hwf (by simp [boxS, AC.okR, hb_s]) (by simp [boxS])) (by simp [boxS, AC.okR]; omega) (by simp [boxS])
  refine aloop_list s.traits (fun j (n : Nat) => [(2, .c (.ptr H.n 0 0)), (3, .c (.ptr (H.n + 1) 0 0)), (5, .c (.int .i64 ((n : Int)))), (10, .c (.sl b_s i_s s.traits.length)), (11, .c (.int .i64 s.traits.length)), (12, .c (.int .i64 (j)))]) (fun j (n : Nat) => (H.push (boxS b_s i_s s)).push (boxS b_t i_t t)) (fun j l (n : Nat) => n ≤ j ∧ evGo t.traits l n = evGo t.traits s.traits 0) hE _ 0 ⟨Nat.le_refl _, rfl⟩ (.since (by simp only [push_n]; omega) hwf1 (.refl _) (by simp [frOk, AV.okR, AV.ok1, AC.okR, AV.ren, AV.ren1, AC.ren, AFrame.get, pl1_old, *]; first | done | rfl | omega)) (fun j n hlt hi => ?_) fun n hi => ?_
  · obtain ⟨hs, hi⟩ := hi
    have e1 := hat_s.get hlt
    have hj1 := idx_lt hlt
    have w1 : IntKind.i64.wrap ((j : Int) + 1) = (j : Int) + 1 := wrap_id (by omega) (by omega)
    have w2 : IntKind.i64.wrap ((n : Int) + 1) = (n : Int) + 1 := wrap_id (by omega) (by omega)
    simp only [evGo] at hi
    simp (config := {contextual := true, implicitDefEqProofs := false, maxSteps := 60000}) [-Int.not_le, -Int.not_lt, argsF, impl_evidence_l0, boxS, hat_s.blk, hat_s.esz, hat_s.len, hat_s.els, hne_s, hne1_s, hne2_s, hat_t.blk, hat_t.esz, hat_t.len, hat_t.els, hne_t, hne1_t, hne2_t, e1, hj1, w1, w2, hlt]
    split
    · rename_i hc
      have hc' : t.traits.contains s.traits[j] = true := by simpa using hc
      simp only [hc', if_true] at hi
      exact ⟨n + 1, ⟨by omega, hi⟩, .since (by simp only [push_n]; omega) hwf1 (.refl _) (by simp [frOk, AV.okR, AV.ok1, AC.okR, AV.ren, AV.ren1, AC.ren, AFrame.get, pl1_old, *]; first | done | rfl | omega)⟩
    · rename_i hc
      have hc' : t.traits.contains s.traits[j] = false := by simpa using hc
      simp only [hc', if_false, reduceCtorEq] at hi
      exact ⟨n, ⟨by omega, hi⟩, .since (by simp only [push_n]; omega) hwf1 (.refl _) (by simp [frOk, AV.okR, AV.ok1, AC.okR, AV.ren, AV.ren1, AC.ren, AFrame.get, pl1_old, *]; first | done | rfl | omega)⟩
  · obtain ⟨hs, hi⟩ := hi
    simp only [evGo] at hi
    have hev := evGo_b t.traits s.traits 0
    rw [← hi] at hev
    have w1 : IntKind.i64.wrap (4 * (n : Int)) = 4 * (n : Int) := wrap_id (by omega) (by omega)
    have w2 : IntKind.i64.wrap (4 * (n : Int) - (s.traits.length : Int)) = 4 * (n : Int) - (s.traits.length : Int) := wrap_id (by omega) (by omega)
    have w3 : IntKind.i64.wrap (4 * (n : Int) - (s.traits.length : Int) - (t.traits.length : Int)) = 4 * (n : Int) - (s.traits.length : Int) - (t.traits.length : Int) := wrap_id (by omega) (by omega)
    have w4 : IntKind.i64.wrap (4 * (n : Int) - (s.traits.length : Int) - (t.traits.length : Int) - 10) = 4 * (n : Int) - (s.traits.length : Int) - (t.traits.length : Int) - 10 := wrap_id (by omega) (by omega)
    have w5 : IntKind.i64.wrap (2 * (n : Int)) = 2 * (n : Int) := wrap_id (by omega) (by omega)
    have w6 : IntKind.i64.wrap ((s.traits.length : Int) - (n : Int)) = (s.traits.length : Int) - (n : Int) := wrap_id (by omega) (by omega)
    have w7 : IntKind.i64.wrap (2 * (n : Int) - ((s.traits.length : Int) - (n : Int))) = 2 * (n : Int) - ((s.traits.length : Int) - (n : Int)) := wrap_id (by omega) (by omega)
    have w8 : IntKind.i64.wrap ((t.traits.length : Int) - (n : Int)) = (t.traits.length : Int) - (n : Int) := wrap_id (by omega) (by omega)
    have w9 : IntKind.i64.wrap (2 * (n : Int) - ((s.traits.length : Int) - (n : Int)) - ((t.traits.length : Int) - (n : Int))) = 4 * (n : Int) - (s.traits.length : Int) - (t.traits.length : Int) := (wrap_id (by omega) (by omega)).trans (by omega)
    simp (config := {contextual := true, implicitDefEqProofs := false, maxSteps := 60000}) [-Int.not_le, -Int.not_lt, argsF, impl_evidence_l0, boxS, hat_s.blk, hat_s.esz, hat_s.len, hat_s.els, hne_s, hne1_s, hne2_s, hat_t.blk, hat_t.esz, hat_t.len, hat_t.els, hne_t, hne1_t, hne2_t, w1, w2, w3, w4, w5, w6, w7, w8, w9]
    unfold evid at h
    rw [← hi] at h
    split
    · rename_i hc
      rw [if_pos hc, Int.sub_zero] at h
      (refine Out.plain hwf ?_ rfl ?_; (repeat first | exact Sub.refl _ | refine Sub.push hwf ?_ _ | refine Sub.set hwf ?_ (by first | exact Nat.le_refl _ | omega | (simp only [push_n, set_n, kill_n]; omega)) _ | refine Sub.kill hwf ?_ (by first | exact Nat.le_refl _ | omega | (simp only [push_n, set_n, kill_n]; omega)))); exact h
    · rename_i hc
      rw [if_neg hc] at h
      (refine Out.plain hwf ?_ rfl ?_; (repeat first | exact Sub.refl _ | refine Sub.push hwf ?_ _ | refine Sub.set hwf ?_ (by first | exact Nat.le_refl _ | omega | (simp only [push_n, set_n, kill_n]; omega)) _ | refine Sub.kill hwf ?_ (by first | exact Nat.le_refl _ | omega | (simp only [push_n, set_n, kill_n]; omega)))); exact h

theorem spec_l13Evidence_s : Sound Tryz.prog 31 q_evid := by
  intro args H K h
  unfold q_evid at h
  split at h
  rotate_left
  all_goals first | exact False.elim h | skip
  rename_i s_e t_e
  have h1 := onv_iff.1 h
  clear h
  obtain ⟨s, hd_s, h⟩ := h1
  obtain ⟨b_s, i_s, k_s, rfl, hat_s, htx_s⟩ := eSi_at hd_s
  have h1 := onv_iff.1 h
  clear h
  obtain ⟨t, hd_t, h⟩ := h1
  obtain ⟨b_t, i_t, k_t, rfl, hat_t, htx_t⟩ := eSi_at hd_t
  have hE := soundE_cons spec_l1Has_s (soundE_nil (P := Tryz.prog))
  refine acalls_fn spec_l13Evidence_k hE ⟨by simp, fun hwf => ?_⟩
  obtain ⟨hsr, hsp, hst, hss, hsk⟩ := hs_of hwf
  have hb_s : b_s < H.n := (hwf b_s k_s hat_s.blk).1
  have hne_s : (b_s = H.n) = False := eq_false (by omega)
  have hne1_s : ∀ i, (b_s = H.n + i) = False := fun i => eq_false (by omega)
  have hne2_s := ne2_of (a := b_s) (b := H.n) (by omega)
  have hmx_s : s.traits.length ≤ 9223372036854775807 := by have h1 := (hwf b_s k_s hat_s.blk).2.2; have h2 := hat_s.len; omega
  have hb_t : b_t < H.n := (hwf b_t k_t hat_t.blk).1
  have hne_t : (b_t = H.n) = False := eq_false (by omega)
  have hne1_t : ∀ i, (b_t = H.n + i) = False := fun i => eq_false (by omega)
  have hne2_t := ne2_of (a := b_t) (b := H.n) (by omega)
  have hmx_t : t.traits.length ≤ 9223372036854775807 := by have h1 := (hwf b_t k_t hat_t.blk).2.2; have h2 := hat_t.len; omega
  obtain ⟨hl1, hl2, h⟩ := h
  simp (config := {contextual := true, implicitDefEqProofs := false, maxSteps := 60000}) [-Int.not_le, -Int.not_lt, argsF, spec_l13Evidence_c, hat_s.blk, hat_s.esz, hat_s.len, hat_s.els, hne_s, hne1_s, hne2_s, hat_t.blk, hat_t.esz, hat_t.len, hat_t.els, hne_t, hne1_t, hne2_t, htx_s, htx_t, hsr, hsp, hst, hss, hsk]
  have hwf1 : ((H.push (boxS b_s i_s s)).push (boxS b_t i_t t)).WF := WF.push (WF.push hwf (by simp [boxS, AC.okR, hb_s]) (by simp [boxS])) (by simp [boxS, AC.okR]; omega) (by simp [boxS])
  refine aloop_list s.traits (fun j (n : Nat) => [(2, .c (.ptr H.n 0 0)), (3, .c (.ptr (H.n + 1) 0 0)), (5, .c (.int .i64 ((n : Int)))), (6, .c (.int .i64 (j)))]) (fun j (n : Nat) => (H.push (boxS b_s i_s s)).push (boxS b_t i_t t)) (fun j l (n : Nat) => n ≤ j ∧ evGo t.traits l n = evGo t.traits s.traits 0) hE _ 0 ⟨Nat.le_refl _, rfl⟩ (.since (by simp only [push_n]; omega) hwf1 (.refl _) (by simp [frOk, AV.okR, AV.ok1, AC.okR, AV.ren, AV.ren1, AC.ren, AFrame.get, pl1_old, *]; first | done | rfl | omega)) (fun j n hlt hi => ?_) fun n hi => ?_
  · obtain ⟨hs, hi⟩ := hi
    have e1 := hat_s.get hlt
    have hj1 := idx_lt hlt
    have w1 : IntKind.i64.wrap ((j : Int) + 1) = (j : Int) + 1 := wrap_id (by omega) (by omega)
    have w2 : IntKind.i64.wrap ((n : Int) + 1) = (n : Int) + 1 := wrap_id (by omega) (by omega)
    simp only [evGo] at hi
    simp (config := {contextual := true, implicitDefEqProofs := false, maxSteps := 60000}) [-Int.not_le, -Int.not_lt, argsF, spec_l13Evidence_l0, boxS, hat_s.blk, hat_s.esz, hat_s.len, hat_s.els, hne_s, hne1_s, hne2_s, hat_t.blk, hat_t.esz, hat_t.len, hat_t.els, hne_t, hne1_t, hne2_t, e1, hj1, w1, w2, hlt]
    split
    · rename_i hc
      have hc' : t.traits.contains s.traits[j] = true := by simpa using hc
      simp only [hc', if_true] at hi
      exact ⟨n + 1, ⟨by omega, hi⟩, .since (by simp only [push_n]; omega) hwf1 (.refl _) (by simp [frOk, AV.okR, AV.ok1, AC.okR, AV.ren, AV.ren1, AC.ren, AFrame.get, pl1_old, *]; first | done | rfl | omega)⟩
    · rename_i hc
      have hc' : t.traits.contains s.traits[j] = false := by simpa using hc
      simp only [hc', if_false, reduceCtorEq] at hi
      exact ⟨n, ⟨by omega, hi⟩, .since (by simp only [push_n]; omega) hwf1 (.refl _) (by simp [frOk, AV.okR, AV.ok1, AC.okR, AV.ren, AV.ren1, AC.ren, AFrame.get, pl1_old, *]; first | done | rfl | omega)⟩
  · obtain ⟨hs, hi⟩ := hi
    simp only [evGo] at hi
    have hev := evGo_b t.traits s.traits 0
    rw [← hi] at hev
    have w1 : IntKind.i64.wrap (4 * (n : Int)) = 4 * (n : Int) := wrap_id (by omega) (by omega)
    have w2 : IntKind.i64.wrap (4 * (n : Int) - (s.traits.length : Int)) = 4 * (n : Int) - (s.traits.length : Int) := wrap_id (by omega) (by omega)
    have w3 : IntKind.i64.wrap (4 * (n : Int) - (s.traits.length : Int) - (t.traits.length : Int)) = 4 * (n : Int) - (s.traits.length : Int) - (t.traits.length : Int) := wrap_id (by omega) (by omega)
    have w4 : IntKind.i64.wrap (4 * (n : Int) - (s.traits.length : Int) - (t.traits.length : Int) - 10) = 4 * (n : Int) - (s.traits.length : Int) - (t.traits.length : Int) - 10 := wrap_id (by omega) (by omega)
    have w5 : IntKind.i64.wrap (2 * (n : Int)) = 2 * (n : Int) := wrap_id (by omega) (by omega)
    have w6 : IntKind.i64.wrap ((s.traits.length : Int) - (n : Int)) = (s.traits.length : Int) - (n : Int) := wrap_id (by omega) (by omega)
    have w7 : IntKind.i64.wrap (2 * (n : Int) - ((s.traits.length : Int) - (n : Int))) = 2 * (n : Int) - ((s.traits.length : Int) - (n : Int)) := wrap_id (by omega) (by omega)
    have w8 : IntKind.i64.wrap ((t.traits.length : Int) - (n : Int)) = (t.traits.length : Int) - (n : Int) := wrap_id (by omega) (by omega)
    have w9 : IntKind.i64.wrap (2 * (n : Int) - ((s.traits.length : Int) - (n : Int)) - ((t.traits.length : Int) - (n : Int))) = 4 * (n : Int) - (s.traits.length : Int) - (t.traits.length : Int) := (wrap_id (by omega) (by omega)).trans (by omega)
    simp (config := {contextual := true, implicitDefEqProofs := false, maxSteps := 60000}) [-Int.not_le, -Int.not_lt, argsF, spec_l13Evidence_l0, boxS, hat_s.blk, hat_s.esz, hat_s.len, hat_s.els, hne_s, hne1_s, hne2_s, hat_t.blk, hat_t.esz, hat_t.len, hat_t.els, hne_t, hne1_t, hne2_t, w1, w2, w3, w4, w5, w6, w7, w8, w9]
    unfold evid at h
    rw [← hi] at h
    split
    · rename_i hc
      rw [if_pos hc, Int.sub_zero] at h
      (refine Out.plain hwf ?_ rfl ?_; (repeat first | exact Sub.refl _ | refine Sub.push hwf ?_ _ | refine Sub.set hwf ?_ (by first | exact Nat.le_refl _ | omega | (simp only [push_n, set_n, kill_n]; omega)) _ | refine Sub.kill hwf ?_ (by first | exact Nat.le_refl _ | omega | (simp only [push_n, set_n, kill_n]; omega)))); exact h
    · rename_i hc
      rw [if_neg hc] at h
      (refine Out.plain hwf ?_ rfl ?_; (repeat first | exact Sub.refl _ | refine Sub.push hwf ?_ _ | refine Sub.set hwf ?_ (by first | exact Nat.le_refl _ | omega | (simp only [push_n, set_n, kill_n]; omega)) _ | refine Sub.kill hwf ?_ (by first | exact Nat.le_refl _ | omega | (simp only [push_n, set_n, kill_n]; omega)))); exact h

end Go.Proofs.YtafenginfojcmaaGreatDoor
set_option maxRecDepth 8000
set_option linter.unusedSimpArgs false
set_option linter.unusedVariables false
namespace Go.Proofs.YtafenginfojcmaaGreatDoor
open Go Go.RowKit

def q_sfind : Con := fun args H K => match args with
  | [ps_v, .c (.int .i64 n)] => eSi.rd H (fun ps => K (.c (.int .i64 (ixOf (fun s : Si => decide (s.id = n)) ps 0))) H) ps_v
  | _ => False
@[simp ↓] theorem q_sfind_eq (ps_v : AV) (n : Int) (H : AHeap) (K : AV → AHeap → Prop) : q_sfind [ps_v, .c (.int .i64 n)] H K = (eSi.rd H (fun ps => K (.c (.int .i64 (ixOf (fun s : Si => decide (s.id = n)) ps 0))) H) ps_v) := rfl

theorem spec_l13Find_s : Sound Tryz.prog 47 q_sfind := by
  intro args H K h
  unfold q_sfind at h
  split at h
  rotate_left
  all_goals first | exact False.elim h | skip
  rename_i ps_v n
  have h1 := EncH.rd_at h
  clear h
  obtain ⟨b_ps, i_ps, k_ps, ps, rfl, hat_ps, h⟩ := h1
  have hE := soundE_nil (P := Tryz.prog)
  refine acalls_fn spec_l13Find_k hE ⟨by simp, fun hwf => ?_⟩
  obtain ⟨hsr, hsp, hst, hss, hsk⟩ := hs_of hwf
  have hon_ps := hat_ps.on
  have hb_ps : b_ps < H.n := (hwf b_ps k_ps hat_ps.blk).1
  have hne_ps : (b_ps = H.n) = False := eq_false (by omega)
  have hne1_ps : ∀ i, (b_ps = H.n + i) = False := fun i => eq_false (by omega)
  have hne2_ps := ne2_of (a := b_ps) (b := H.n) (by omega)
  have hmx_ps : ps.length ≤ 9223372036854775807 := by have h1 := (hwf b_ps k_ps hat_ps.blk).2.2; have h2 := hat_ps.len; omega
  simp (config := {contextual := true, implicitDefEqProofs := false, maxSteps := 60000}) [-Int.not_le, -Int.not_lt, argsF, spec_l13Find_c, hat_ps.blk, hat_ps.esz, hat_ps.len, hon_ps, hne_ps, hne1_ps, hne2_ps, hsr, hsp, hst, hss, hsk]
  refine aloop_list ps (fun j _ => [(0, .c (.sl b_ps i_ps ps.length)), (1, .c (.int .i64 (n))), (5, .c (.int .i64 (j)))]) (fun j _ => H) (fun j l _ => K (.c (.int .i64 (ixOf (fun s : Si => decide (s.id = n)) l j))) H) hE _ (()) (h) (.same hwf (by simp [frOk, AV.okR, AV.ok1, AC.okR, AV.ren, AV.ren1, AC.ren, AFrame.get, pl1_old, *]; first | done | rfl | omega)) (fun j _ hlt hi => ?_) fun _ hi => ?_
  ·
    have hj1 := idx_lt hlt
    have w1 : IntKind.i64.wrap ((j : Int) + 1) = (j : Int) + 1 := wrap_id (by omega) (by omega)
    obtain ⟨ex_x, e_x, hd_x⟩ := hat_ps.get hlt
    obtain ⟨b_x, i_x, k_x, rfl, hat_x, htx_x⟩ := eSi_at hd_x
    have hb_x : b_x < H.n := (hwf b_x k_x hat_x.blk).1
    have hne_x : (b_x = H.n) = False := eq_false (by omega)
    have hne1_x : ∀ i, (b_x = H.n + i) = False := fun i => eq_false (by omega)
    have hne2_x := ne2_of (a := b_x) (b := H.n) (by omega)
    simp (config := {contextual := true, implicitDefEqProofs := false, maxSteps := 60000}) [-Int.not_le, -Int.not_lt, argsF, spec_l13Find_l0, hat_ps.blk, hat_ps.esz, hat_ps.len, hon_ps, hne_ps, hne1_ps, hne2_ps, hsr, hsp, hst, hss, hsk, hj1, w1, e_x, htx_x, hat_x.blk, hat_x.esz, hat_x.len, hat_x.els, hne_x, hne1_x, hne2_x]
    simp only [ixOf, decide_eq_true_eq] at hi
    repeat' split
    all_goals try simp only [*, if_true, if_false, reduceCtorEq, and_self, and_true, true_and, and_false, false_and, not_true_eq_false, not_false_eq_true] at hi
    all_goals first | ((refine Out.plain hwf ?_ rfl ?_; (repeat first | exact Sub.refl _ | refine Sub.push hwf ?_ _ | refine Sub.set hwf ?_ (by first | exact Nat.le_refl _ | omega | (simp only [push_n, set_n, kill_n]; omega)) _ | refine Sub.kill hwf ?_ (by first | exact Nat.le_refl _ | omega | (simp only [push_n, set_n, kill_n]; omega)))); exact hi) | exact ⟨(), hi, .drop hwf (by (repeat first | exact Sub.refl _ | refine Sub.push hwf ?_ _ | refine Sub.set hwf ?_ (by first | exact Nat.le_refl _ | omega | (simp only [push_n, set_n, kill_n]; omega)) _ | refine Sub.kill hwf ?_ (by first | exact Nat.le_refl _ | omega | (simp only [push_n, set_n, kill_n]; omega)))) (by simp [frOk, AV.okR, AV.ok1, AC.okR, AV.ren, AV.ren1, AC.ren, AFrame.get, pl1_old, *]; first | done | rfl | omega)⟩
  ·
    simp (config := {contextual := true, implicitDefEqProofs := false, maxSteps := 60000}) [-Int.not_le, -Int.not_lt, argsF, spec_l13Find_l0]
    simp only [ixOf, decide_eq_true_eq] at hi
    (refine Out.plain hwf ?_ rfl ?_; (repeat first | exact Sub.refl _ | refine Sub.push hwf ?_ _ | refine Sub.set hwf ?_ (by first | exact Nat.le_refl _ | omega | (simp only [push_n, set_n, kill_n]; omega)) _ | refine Sub.kill hwf ?_ (by first | exact Nat.le_refl _ | omega | (simp only [push_n, set_n, kill_n]; omega)))); exact hi

def q_sa1 : Con := fun args H K => match args with
  | [.agg s_e, .c (.ptr n_c 0 0)] => onv (eSi.dec H s_e) fun s => onv (H.b n_c) fun n_k => onv (boxI n_k) fun n => K (.c (.bool (decide (s.id = n)))) H
  | _ => False
@[simp ↓] theorem q_sa1_eq (s_e : List AC) (n_c : Nat) (H : AHeap) (K : AV → AHeap → Prop) : q_sa1 [.agg s_e, .c (.ptr n_c 0 0)] H K = (onv (eSi.dec H s_e) fun s => onv (H.b n_c) fun n_k => onv (boxI n_k) fun n => K (.c (.bool (decide (s.id = n)))) H) := rfl

theorem impl_sightingAt_1_s : Sound Tryz.prog 63 q_sa1 := by
  intro args H K h
  unfold q_sa1 at h
  split at h
  rotate_left
  all_goals first | exact False.elim h | skip
  rename_i s_e n_c
  have h1 := onv_iff.1 h
  clear h
  obtain ⟨s, hd_s, h⟩ := h1
  obtain ⟨b_s, i_s, k_s, rfl, hat_s, htx_s⟩ := eSi_at hd_s
  have h1 := onv_iff.1 h
  clear h
  obtain ⟨n_k, hk_n, h⟩ := h1
  have h1 := onv_iff.1 h
  clear h
  obtain ⟨n, hd_n, h⟩ := h1
  have he_n := boxI_els hd_n
  have hE := soundE_nil (P := Tryz.prog)
  refine acalls_fn impl_sightingAt_1_k hE ⟨by simp, fun hwf => ?_⟩
  obtain ⟨hsr, hsp, hst, hss, hsk⟩ := hs_of hwf
  have hb_s : b_s < H.n := (hwf b_s k_s hat_s.blk).1
  have hne_s : (b_s = H.n) = False := eq_false (by omega)
  have hne1_s : ∀ i, (b_s = H.n + i) = False := fun i => eq_false (by omega)
  have hne2_s := ne2_of (a := b_s) (b := H.n) (by omega)
  have hmx_s : s.traits.length ≤ 9223372036854775807 := by have h1 := (hwf b_s k_s hat_s.blk).2.2; have h2 := hat_s.len; omega
  have hb_n : n_c < H.n := (hwf n_c n_k hk_n).1
  have hne_n : (n_c = H.n) = False := eq_false (by omega)
  have hne1_n : ∀ i, (n_c = H.n + i) = False := fun i => eq_false (by omega)
  have hne2_n := ne2_of (a := n_c) (b := H.n) (by omega)
  simp (config := {contextual := true, implicitDefEqProofs := false, maxSteps := 60000}) [-Int.not_le, -Int.not_lt, argsF, impl_sightingAt_1_c, hat_s.blk, hat_s.esz, hat_s.len, hat_s.els, hne_s, hne1_s, hne2_s, htx_s, hsr, hsp, hst, hss, hsk, hk_n, he_n, hd_n, hne_n, hne1_n, hne2_n]
  (refine Out.plain hwf ?_ rfl ?_; (repeat first | exact Sub.refl _ | refine Sub.push hwf ?_ _ | refine Sub.set hwf ?_ (by first | exact Nat.le_refl _ | omega | (simp only [push_n, set_n, kill_n]; omega)) _ | refine Sub.kill hwf ?_ (by first | exact Nat.le_refl _ | omega | (simp only [push_n, set_n, kill_n]; omega)))); exact h

def q_ixs : Con := fun args H K => match args with
  | [ps_v, .c (.fn n_g [n_c])] => eSi.rd H (fun ps => n_g = 63 ∧ onv (H.b n_c) fun n_k => onv (boxI n_k) fun n => K (.c (.int .i64 (ixOf (fun s : Si => decide (s.id = n)) ps 0))) H) ps_v
  | _ => False
@[simp ↓] theorem q_ixs_eq (ps_v : AV) (n_g n_c : Nat) (H : AHeap) (K : AV → AHeap → Prop) : q_ixs [ps_v, .c (.fn n_g [n_c])] H K = (eSi.rd H (fun ps => n_g = 63 ∧ onv (H.b n_c) fun n_k => onv (boxI n_k) fun n => K (.c (.int .i64 (ixOf (fun s : Si => decide (s.id = n)) ps 0))) H) ps_v) := rfl

theorem slices_IndexFunc___impl_Sighting_impl_Sighting_s : Sound Tryz.prog 62 q_ixs := by
  intro args H K h
  unfold q_ixs at h
  split at h
  rotate_left
  all_goals first | exact False.elim h | skip
  rename_i ps_v n_g n_c
  have h1 := EncH.rd_at h
  clear h
  obtain ⟨b_ps, i_ps, k_ps, ps, rfl, hat_ps, h⟩ := h1
  obtain ⟨rfl, h⟩ := h
  have h1 := onv_iff.1 h
  clear h
  obtain ⟨n_k, hk_n, h⟩ := h1
  have h1 := onv_iff.1 h
  clear h
  obtain ⟨n, hd_n, h⟩ := h1
  have he_n := boxI_els hd_n
  have hE := soundE_cons impl_sightingAt_1_s (soundE_nil (P := Tryz.prog))
  refine acalls_fn slices_IndexFunc___impl_Sighting_impl_Sighting__k hE ⟨by simp, fun hwf => ?_⟩
  obtain ⟨hsr, hsp, hst, hss, hsk⟩ := hs_of hwf
  have hon_ps := hat_ps.on
  have hb_ps : b_ps < H.n := (hwf b_ps k_ps hat_ps.blk).1
  have hne_ps : (b_ps = H.n) = False := eq_false (by omega)
  have hne1_ps : ∀ i, (b_ps = H.n + i) = False := fun i => eq_false (by omega)
  have hne2_ps := ne2_of (a := b_ps) (b := H.n) (by omega)
  have hmx_ps : ps.length ≤ 9223372036854775807 := by have h1 := (hwf b_ps k_ps hat_ps.blk).2.2; have h2 := hat_ps.len; omega
  have hb_n : n_c < H.n := (hwf n_c n_k hk_n).1
  have hne_n : (n_c = H.n) = False := eq_false (by omega)
  have hne1_n : ∀ i, (n_c = H.n + i) = False := fun i => eq_false (by omega)
  have hne2_n := ne2_of (a := n_c) (b := H.n) (by omega)
  simp (config := {contextual := true, implicitDefEqProofs := false, maxSteps := 60000}) [-Int.not_le, -Int.not_lt, argsF, slices_IndexFunc___impl_Sighting_impl_Sighting__c, hat_ps.blk, hat_ps.esz, hat_ps.len, hon_ps, hne_ps, hne1_ps, hne2_ps, hsr, hsp, hst, hss, hsk, hk_n, he_n, hd_n, hne_n, hne1_n, hne2_n]
  refine aloop_list ps (fun j _ => [(0, .c (.sl b_ps i_ps ps.length)), (1, .c (.fn 63 [n_c])), (7, .c (.int .i64 ps.length)), (8, .c (.int .i64 (j)))]) (fun j _ => H) (fun j l _ => K (.c (.int .i64 (ixOf (fun s : Si => decide (s.id = n)) l j))) H) hE _ (()) (h) (.same hwf (by simp [frOk, AV.okR, AV.ok1, AC.okR, AV.ren, AV.ren1, AC.ren, AFrame.get, pl1_old, *]; first | done | rfl | omega)) (fun j _ hlt hi => ?_) fun _ hi => ?_
  ·
    have hj1 := idx_lt hlt
    have w1 : IntKind.i64.wrap ((j : Int) + 1) = (j : Int) + 1 := wrap_id (by omega) (by omega)
    obtain ⟨ex_x, e_x, hd_x⟩ := hat_ps.get hlt
    obtain ⟨b_x, i_x, k_x, rfl, hat_x, htx_x⟩ := eSi_at hd_x
    have hb_x : b_x < H.n := (hwf b_x k_x hat_x.blk).1
    have hne_x : (b_x = H.n) = False := eq_false (by omega)
    have hne1_x : ∀ i, (b_x = H.n + i) = False := fun i => eq_false (by omega)
    have hne2_x := ne2_of (a := b_x) (b := H.n) (by omega)
    simp (config := {contextual := true, implicitDefEqProofs := false, maxSteps := 60000}) [-Int.not_le, -Int.not_lt, argsF, slices_IndexFunc___impl_Sighting_impl_Sighting__l0, hat_ps.blk, hat_ps.esz, hat_ps.len, hon_ps, hne_ps, hne1_ps, hne2_ps, hsr, hsp, hst, hss, hsk, hj1, w1, e_x, htx_x, hat_x.blk, hat_x.esz, hat_x.len, hat_x.els, hne_x, hne1_x, hne2_x, hk_n, he_n, hd_n, hne_n, hne1_n, hne2_n]
    simp only [ixOf, decide_eq_true_eq] at hi
    repeat' split
    all_goals try simp only [*, if_true, if_false, reduceCtorEq, and_self, and_true, true_and, and_false, false_and, not_true_eq_false, not_false_eq_true] at hi
    all_goals first | ((refine Out.plain hwf ?_ rfl ?_; (repeat first | exact Sub.refl _ | refine Sub.push hwf ?_ _ | refine Sub.set hwf ?_ (by first | exact Nat.le_refl _ | omega | (simp only [push_n, set_n, kill_n]; omega)) _ | refine Sub.kill hwf ?_ (by first | exact Nat.le_refl _ | omega | (simp only [push_n, set_n, kill_n]; omega)))); exact hi) | exact ⟨(), hi, .drop hwf (by (repeat first | exact Sub.refl _ | refine Sub.push hwf ?_ _ | refine Sub.set hwf ?_ (by first | exact Nat.le_refl _ | omega | (simp only [push_n, set_n, kill_n]; omega)) _ | refine Sub.kill hwf ?_ (by first | exact Nat.le_refl _ | omega | (simp only [push_n, set_n, kill_n]; omega)))) (by simp [frOk, AV.okR, AV.ok1, AC.okR, AV.ren, AV.ren1, AC.ren, AFrame.get, pl1_old, *]; first | done | rfl | omega)⟩
  ·
    simp (config := {contextual := true, implicitDefEqProofs := false, maxSteps := 60000}) [-Int.not_le, -Int.not_lt, argsF, slices_IndexFunc___impl_Sighting_impl_Sighting__l0]
    simp only [ixOf, decide_eq_true_eq] at hi
    (refine Out.plain hwf ?_ rfl ?_; (repeat first | exact Sub.refl _ | refine Sub.push hwf ?_ _ | refine Sub.set hwf ?_ (by first | exact Nat.le_refl _ | omega | (simp only [push_n, set_n, kill_n]; omega)) _ | refine Sub.kill hwf ?_ (by first | exact Nat.le_refl _ | omega | (simp only [push_n, set_n, kill_n]; omega)))); exact hi

theorem impl_sightingAt_s : Sound Tryz.prog 32 q_sfind := by
  intro args H K h
  unfold q_sfind at h
  split at h
  rotate_left
  all_goals first | exact False.elim h | skip
  rename_i ps_v n
  have h1 := EncH.rd_at h
  clear h
  obtain ⟨b_ps, i_ps, k_ps, ps, rfl, hat_ps, h⟩ := h1
  have hE := soundE_cons slices_IndexFunc___impl_Sighting_impl_Sighting_s (soundE_nil (P := Tryz.prog))
  refine acalls_fn impl_sightingAt_k hE ⟨by simp, fun hwf => ?_⟩
  obtain ⟨hsr, hsp, hst, hss, hsk⟩ := hs_of hwf
  have hon_ps := hat_ps.on
  have hb_ps : b_ps < H.n := (hwf b_ps k_ps hat_ps.blk).1
  have hne_ps : (b_ps = H.n) = False := eq_false (by omega)
  have hne1_ps : ∀ i, (b_ps = H.n + i) = False := fun i => eq_false (by omega)
  have hne2_ps := ne2_of (a := b_ps) (b := H.n) (by omega)
  have hmx_ps : ps.length ≤ 9223372036854775807 := by have h1 := (hwf b_ps k_ps hat_ps.blk).2.2; have h2 := hat_ps.len; omega
  simp (config := {contextual := true, implicitDefEqProofs := false, maxSteps := 60000}) [-Int.not_le, -Int.not_lt, argsF, impl_sightingAt_c, hat_ps.blk, hat_ps.esz, hat_ps.len, hon_ps, hne_ps, hne1_ps, hne2_ps, hsr, hsp, hst, hss, hsk]
  (refine Out.plain hwf ?_ rfl ?_; (repeat first | exact Sub.refl _ | refine Sub.push hwf ?_ _ | refine Sub.set hwf ?_ (by first | exact Nat.le_refl _ | omega | (simp only [push_n, set_n, kill_n]; omega)) _ | refine Sub.kill hwf ?_ (by first | exact Nat.le_refl _ | omega | (simp only [push_n, set_n, kill_n]; omega)))); exact h

end Go.Proofs.YtafenginfojcmaaGreatDoor
set_option maxRecDepth 8000
set_option linter.unusedSimpArgs false
set_option linter.unusedVariables false
namespace Go.Proofs.YtafenginfojcmaaGreatDoor
open Go Go.RowKit

set_option maxHeartbeats 1000000
def okSi (s : Si) : Bool := inR s.id 1 999 && (inR s.year 1840 2100 && (isWord s.town && (decide ((s.traits.length : Int) ≤ 8) && ascGo none s.traits)))
theorem isSi_ok (s : Si) : isSi s = (okSi s && !(s.traits.any fun c => !inR c 1 50)) := by
  unfold isSi okSi
  rw [risGo_eq]
  simp only [Bool.and_assoc]

theorem impl_areSightings_s : Sound Tryz.prog 28 q_areSi := by
  intro args H K h
  unfold q_areSi at h
  split at h
  rotate_left
  all_goals first | exact False.elim h | skip
  rename_i ps_v
  have h1 := EncH.rd_at h
  clear h
  obtain ⟨b_ps, i_ps, k_ps, ps, rfl, hat_ps, h⟩ := h1
  have hE := soundE_cons impl_inRange_s (soundE_cons impl_isWord_s (soundE_cons impl_ascending_s (soundE_nil (P := Tryz.prog))))
  refine acalls_fn impl_areSightings_k hE ⟨by simp, fun hwf => ?_⟩
  obtain ⟨hsr, hsp, hst, hss, hsk⟩ := hs_of hwf
  have hon_ps := hat_ps.on
  have hb_ps : b_ps < H.n := (hwf b_ps k_ps hat_ps.blk).1
  have hne_ps : (b_ps = H.n) = False := eq_false (by omega)
  have hne1_ps : ∀ i, (b_ps = H.n + i) = False := fun i => eq_false (by omega)
  have hne2_ps := ne2_of (a := b_ps) (b := H.n) (by omega)
  have hmx_ps : ps.length ≤ 9223372036854775807 := by have h1 := (hwf b_ps k_ps hat_ps.blk).2.2; have h2 := hat_ps.len; omega
  simp (config := {contextual := true, implicitDefEqProofs := false, maxSteps := 60000}) [-Int.not_le, -Int.not_lt, argsF, impl_areSightings_c, hat_ps.blk, hat_ps.esz, hat_ps.len, hon_ps, hne_ps, hne1_ps, hne2_ps, hsr, hsp, hst, hss, hsk]
  refine aloop_list ps (fun j _ => [(0, .c (.sl b_ps i_ps ps.length)), (7, .c (.sl b_ps i_ps ps.length)), (8, .c (.int .i64 ps.length)), (9, .c (.int .i64 (j)))]) (fun j _ => H) (fun j l _ => (j ≤ ps.length) ∧ K (.c (.bool (siGo (prevOf ps j) l && decide (ps.length ≤ 10)))) H) hE _ () (⟨Nat.zero_le _, by exact h⟩) (.same hwf (by simp [frOk, AV.okR, AV.ok1, AC.okR, AV.ren, AV.ren1, AC.ren, AFrame.get, pl1_old, *]; first | done | rfl | omega)) (fun j _ hlt hi => ?_) fun _ hi => ?_
  ·
    obtain ⟨hs, hi⟩ := hi
    have hpn := prevOf_succ hlt
    obtain ⟨ex_x, e_x, hd_x⟩ := hat_ps.get hlt
    obtain ⟨b_x, i_x, k_x, rfl, hat_x, htx_x⟩ := eSi_at hd_x
    have hb_x : b_x < H.n := (hwf b_x k_x hat_x.blk).1
    have hne_x : (b_x = H.n) = False := eq_false (by omega)
    have hne1_x : ∀ i, (b_x = H.n + i) = False := fun i => eq_false (by omega)
    have hne2_x := ne2_of (a := b_x) (b := H.n) (by omega)
    cases j with
    | zero =>
      rw [Nat.add_zero] at e_x
      have h0i : (0 : Int) < (ps.length : Int) := by omega
      simp (config := {contextual := true, implicitDefEqProofs := false, maxSteps := 2000000}) [-Int.not_le, -Int.not_lt, argsF, impl_areSightings_l1, hat_ps.blk, hat_ps.esz, hat_ps.len, hon_ps, hne_ps, hne1_ps, hne2_ps, hsr, hsp, hst, hss, hsk, e_x, htx_x, hat_x.blk, hat_x.esz, hat_x.len, hat_x.els, hne_x, hne1_x, hne2_x, hlt, h0i, wrap_1]
      cases hok : okSi ps[0]
      · simp only [prevOf_0, siGo, isSi_ok, hok, if_false, reduceCtorEq, Bool.false_and] at hi
        repeat' split
        all_goals first
          | ((refine Out.plain hwf ?_ rfl ?_; (repeat first | exact Sub.refl _ | refine Sub.push hwf ?_ _ | refine Sub.set hwf ?_ (by first | exact Nat.le_refl _ | omega | (simp only [push_n, set_n, kill_n]; omega)) _ | refine Sub.kill hwf ?_ (by first | exact Nat.le_refl _ | omega | (simp only [push_n, set_n, kill_n]; omega)))); exact hi)
          | (exfalso; unfold okSi at hok; simp [*] at hok; done)
          | (exfalso; unfold okSi at hok; simp [*] at hok; omega)
      · have hk := hok
        unfold okSi at hk
        simp only [Bool.and_eq_true, decide_eq_true_eq] at hk
        obtain ⟨c1, c2, c3, c4, c5⟩ := hk
        have c4' : ¬ (8 < (ps[0].traits.length : Int)) := by omega
        simp only [c1, c2, c3, c5, if_true]
        rw [if_neg (show ¬ ((8 : Int) < (ps[0].traits.length : Int)) by omega)]
        simp only [prevOf_0, siGo, isSi_ok, hok, Bool.true_and, if_true] at hi
        refine aloop_list ps[0].traits (fun q _ => [(0, .c (.sl b_ps i_ps ps.length)), (7, .c (.sl b_ps i_ps ps.length)), (8, .c (.int .i64 ps.length)), (9, .c (.int .i64 (0))), (58, .c (.sl (b_x) (i_x) (ps[0].traits.length))), (59, .c (.int .i64 ((ps[0].traits.length : Int)))), (60, .c (.int .i64 (q)))]) (fun q _ => H) (fun q l _ => K (AV.c (AC.bool ((if (!(l.any fun c => !inR c 1 50)) = true then siGo (some ps[0]) (List.drop (0 + 1) ps) else false) && decide (ps.length ≤ 10)))) H) hE _ (()) (by exact hi) (.drop hwf (by (repeat first | exact Sub.refl _ | refine Sub.push hwf ?_ _ | refine Sub.set hwf ?_ (by first | exact Nat.le_refl _ | omega | (simp only [push_n, set_n, kill_n]; omega)) _ | refine Sub.kill hwf ?_ (by first | exact Nat.le_refl _ | omega | (simp only [push_n, set_n, kill_n]; omega)))) (by simp [frOk, AV.okR, AV.ok1, AC.okR, AV.ren, AV.ren1, AC.ren, AFrame.get, pl1_old, *]; first | done | rfl | omega)) (fun q _ hlt hi => ?_) fun _ hi => ?_
        ·
          have e1 := hat_x.get hlt
          have hj1 := idx_lt hlt
          have w1 : IntKind.i64.wrap ((q : Int) + 1) = (q : Int) + 1 := wrap_id (by omega) (by omega)
          simp (config := {contextual := true, implicitDefEqProofs := false, maxSteps := 60000}) [-Int.not_le, -Int.not_lt, argsF, impl_areSightings_l0, hat_x.blk, hat_x.esz, hat_x.len, hat_x.els, hne_x, hne1_x, hne2_x, e1, hj1, w1]
          simp only [List.any_cons] at hi
          split
          · rename_i h1
            simp only [h1, Bool.not_true, Bool.false_or] at hi
            exact ⟨(), by simpa using hi, .drop hwf (by (repeat first | exact Sub.refl _ | refine Sub.push hwf ?_ _ | refine Sub.set hwf ?_ (by first | exact Nat.le_refl _ | omega | (simp only [push_n, set_n, kill_n]; omega)) _ | refine Sub.kill hwf ?_ (by first | exact Nat.le_refl _ | omega | (simp only [push_n, set_n, kill_n]; omega)))) (by simp [frOk, AV.okR, AV.ok1, AC.okR, AV.ren, AV.ren1, AC.ren, AFrame.get, pl1_old, *]; first | done | rfl | omega)⟩
          · rename_i h1
            (refine Out.plain hwf ?_ rfl ?_; (repeat first | exact Sub.refl _ | refine Sub.push hwf ?_ _ | refine Sub.set hwf ?_ (by first | exact Nat.le_refl _ | omega | (simp only [push_n, set_n, kill_n]; omega)) _ | refine Sub.kill hwf ?_ (by first | exact Nat.le_refl _ | omega | (simp only [push_n, set_n, kill_n]; omega))))
            simpa [h1] using hi
        ·
          simp (config := {contextual := true, implicitDefEqProofs := false, maxSteps := 60000}) [-Int.not_le, -Int.not_lt, argsF, impl_areSightings_l0, hat_x.blk, hat_x.esz, hat_x.len, hat_x.els, hne_x, hne1_x, hne2_x, wrap_1]
          simp only [List.any_nil, Bool.not_false, if_true] at hi
          exact ⟨(), ⟨hlt, by rw [hpn]; simpa using hi⟩, .drop hwf (by (repeat first | exact Sub.refl _ | refine Sub.push hwf ?_ _ | refine Sub.set hwf ?_ (by first | exact Nat.le_refl _ | omega | (simp only [push_n, set_n, kill_n]; omega)) _ | refine Sub.kill hwf ?_ (by first | exact Nat.le_refl _ | omega | (simp only [push_n, set_n, kill_n]; omega)))) (by simp [frOk, AV.okR, AV.ok1, AC.okR, AV.ren, AV.ren1, AC.ren, AFrame.get, pl1_old, *]; first | done | rfl | omega)⟩
    | succ j =>
      have hj := Nat.lt_of_succ_lt hlt
      obtain ⟨ex_y, e_y, hd_y⟩ := hat_ps.get hj
      obtain ⟨b_y, i_y, k_y, rfl, hat_y, htx_y⟩ := eSi_at hd_y
      have hb_y : b_y < H.n := (hwf b_y k_y hat_y.blk).1
      have hne_y : (b_y = H.n) = False := eq_false (by omega)
      have hne1_y : ∀ i, (b_y = H.n + i) = False := fun i => eq_false (by omega)
      have hne2_y := ne2_of (a := b_y) (b := H.n) (by omega)
      have hpp := prevOf_succ hj
      rw [hpp] at hi
      have hj1 : (j : Int) + 1 < (ps.length : Int) := by omega
      have hj2 : (j : Int) < (ps.length : Int) := by omega
      have hj3 : (0 : Int) ≤ (j : Int) + 1 := by omega
      have hj4 : (0 : Int) < (j : Int) + 1 := by omega
      have ej : ((j : Int) + 1).toNat = j + 1 := by omega
      have w0 : IntKind.i64.wrap (j : Int) = (j : Int) := wrap_id (by omega) (by omega)
      have w1 : IntKind.i64.wrap ((j : Int) + 1 + 1) = (j : Int) + 1 + 1 := wrap_id (by omega) (by omega)
      simp (config := {contextual := true, implicitDefEqProofs := false, maxSteps := 2000000}) [-Int.not_le, -Int.not_lt, argsF, impl_areSightings_l1, hat_ps.blk, hat_ps.esz, hat_ps.len, hon_ps, hne_ps, hne1_ps, hne2_ps, hsr, hsp, hst, hss, hsk, e_x, htx_x, hat_x.blk, hat_x.esz, hat_x.len, hat_x.els, hne_x, hne1_x, hne2_x, e_y, htx_y, hat_y.blk, hat_y.esz, hat_y.len, hat_y.els, hne_y, hne1_y, hne2_y, hlt, hj, hj1, hj2, hj3, hj4, ej, w0, w1]
      cases hok : okSi ps[j + 1]
      · simp only [prevOf_0, siGo, isSi_ok, hok, if_false, reduceCtorEq, Bool.false_and] at hi
        repeat' split
        all_goals first
          | ((refine Out.plain hwf ?_ rfl ?_; (repeat first | exact Sub.refl _ | refine Sub.push hwf ?_ _ | refine Sub.set hwf ?_ (by first | exact Nat.le_refl _ | omega | (simp only [push_n, set_n, kill_n]; omega)) _ | refine Sub.kill hwf ?_ (by first | exact Nat.le_refl _ | omega | (simp only [push_n, set_n, kill_n]; omega)))); exact hi)
          | (exfalso; unfold okSi at hok; simp [*] at hok; done)
          | (exfalso; unfold okSi at hok; simp [*] at hok; omega)
      · have hk := hok
        unfold okSi at hk
        simp only [Bool.and_eq_true, decide_eq_true_eq] at hk
        obtain ⟨c1, c2, c3, c4, c5⟩ := hk
        have c4' : ¬ (8 < (ps[j + 1].traits.length : Int)) := by omega
        simp only [c1, c2, c3, c5, if_true]
        rw [if_neg (show ¬ ((8 : Int) < (ps[j + 1].traits.length : Int)) by omega)]
        simp only [prevOf_0, siGo, isSi_ok, hok, Bool.true_and, if_true] at hi
        by_cases hid : ps[j + 1].id ≤ ps[j].id
        · rw [if_pos hid]
          simp only [decide_eq_false (show ¬ (ps[j].id < ps[j + 1].id) by omega), if_false, reduceCtorEq, ite_self, Bool.false_and] at hi
          (refine Out.plain hwf ?_ rfl ?_; (repeat first | exact Sub.refl _ | refine Sub.push hwf ?_ _ | refine Sub.set hwf ?_ (by first | exact Nat.le_refl _ | omega | (simp only [push_n, set_n, kill_n]; omega)) _ | refine Sub.kill hwf ?_ (by first | exact Nat.le_refl _ | omega | (simp only [push_n, set_n, kill_n]; omega)))); exact hi
        · rw [if_neg hid]
          simp only [decide_eq_true (show ps[j].id < ps[j + 1].id by omega), if_true] at hi
          refine aloop_list ps[j + 1].traits (fun q _ => [(0, .c (.sl b_ps i_ps ps.length)), (7, .c (.sl b_ps i_ps ps.length)), (8, .c (.int .i64 ps.length)), (9, .c (.int .i64 ((j : Int) + 1))), (58, .c (.sl (b_x) (i_x) (ps[j + 1].traits.length))), (59, .c (.int .i64 ((ps[j + 1].traits.length : Int)))), (60, .c (.int .i64 (q)))]) (fun q _ => H) (fun q l _ => K (AV.c (AC.bool ((if (!(l.any fun c => !inR c 1 50)) = true then siGo (some ps[j + 1]) (List.drop (j + 1 + 1) ps) else false) && decide (ps.length ≤ 10)))) H) hE _ (()) (by exact hi) (.drop hwf (by (repeat first | exact Sub.refl _ | refine Sub.push hwf ?_ _ | refine Sub.set hwf ?_ (by first | exact Nat.le_refl _ | omega | (simp only [push_n, set_n, kill_n]; omega)) _ | refine Sub.kill hwf ?_ (by first | exact Nat.le_refl _ | omega | (simp only [push_n, set_n, kill_n]; omega)))) (by simp [frOk, AV.okR, AV.ok1, AC.okR, AV.ren, AV.ren1, AC.ren, AFrame.get, pl1_old, *]; first | done | rfl | omega)) (fun q _ hlt hi => ?_) fun _ hi => ?_
          ·
            have e1 := hat_x.get hlt
            have hj1 := idx_lt hlt
            have w1 : IntKind.i64.wrap ((q : Int) + 1) = (q : Int) + 1 := wrap_id (by omega) (by omega)
            simp (config := {contextual := true, implicitDefEqProofs := false, maxSteps := 60000}) [-Int.not_le, -Int.not_lt, argsF, impl_areSightings_l0, hat_x.blk, hat_x.esz, hat_x.len, hat_x.els, hne_x, hne1_x, hne2_x, e1, hj1, w1]
            simp only [List.any_cons] at hi
            split
            · rename_i h1
              simp only [h1, Bool.not_true, Bool.false_or] at hi
              exact ⟨(), by simpa using hi, .drop hwf (by (repeat first | exact Sub.refl _ | refine Sub.push hwf ?_ _ | refine Sub.set hwf ?_ (by first | exact Nat.le_refl _ | omega | (simp only [push_n, set_n, kill_n]; omega)) _ | refine Sub.kill hwf ?_ (by first | exact Nat.le_refl _ | omega | (simp only [push_n, set_n, kill_n]; omega)))) (by simp [frOk, AV.okR, AV.ok1, AC.okR, AV.ren, AV.ren1, AC.ren, AFrame.get, pl1_old, *]; first | done | rfl | omega)⟩
            · rename_i h1
              (refine Out.plain hwf ?_ rfl ?_; (repeat first | exact Sub.refl _ | refine Sub.push hwf ?_ _ | refine Sub.set hwf ?_ (by first | exact Nat.le_refl _ | omega | (simp only [push_n, set_n, kill_n]; omega)) _ | refine Sub.kill hwf ?_ (by first | exact Nat.le_refl _ | omega | (simp only [push_n, set_n, kill_n]; omega))))
              simpa [h1] using hi
          ·
            simp (config := {contextual := true, implicitDefEqProofs := false, maxSteps := 60000}) [-Int.not_le, -Int.not_lt, argsF, impl_areSightings_l0, hat_x.blk, hat_x.esz, hat_x.len, hat_x.els, hne_x, hne1_x, hne2_x, w1]
            simp only [List.any_nil, Bool.not_false, if_true] at hi
            exact ⟨(), ⟨hlt, by rw [hpn]; simpa using hi⟩, .drop hwf (by (repeat first | exact Sub.refl _ | refine Sub.push hwf ?_ _ | refine Sub.set hwf ?_ (by first | exact Nat.le_refl _ | omega | (simp only [push_n, set_n, kill_n]; omega)) _ | refine Sub.kill hwf ?_ (by first | exact Nat.le_refl _ | omega | (simp only [push_n, set_n, kill_n]; omega)))) (by simp [frOk, AV.okR, AV.ok1, AC.okR, AV.ren, AV.ren1, AC.ren, AFrame.get, pl1_old, *]; first | done | rfl | omega)⟩
  ·
    obtain ⟨hs, hi⟩ := hi
    simp (config := {contextual := true, implicitDefEqProofs := false, maxSteps := 60000}) [-Int.not_le, -Int.not_lt, argsF, impl_areSightings_l1]
    simp only [prevOf_0, siGo, decide_eq_true_eq] at hi
    rw [Bool.true_and] at hi
    (refine Out.plain hwf ?_ rfl ?_; (repeat first | exact Sub.refl _ | refine Sub.push hwf ?_ _ | refine Sub.set hwf ?_ (by first | exact Nat.le_refl _ | omega | (simp only [push_n, set_n, kill_n]; omega)) _ | refine Sub.kill hwf ?_ (by first | exact Nat.le_refl _ | omega | (simp only [push_n, set_n, kill_n]; omega))))
    have e : decide ((ps.length : Int) ≤ 10) = decide (ps.length ≤ 10) := by rw [decide_eq_decide]; omega
    rw [e]; exact hi

end Go.Proofs.YtafenginfojcmaaGreatDoor
