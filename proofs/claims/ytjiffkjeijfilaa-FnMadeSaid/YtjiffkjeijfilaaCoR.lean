/- The change of two covers. -/
import Derived.Test.YtjiffkjeijfilaaCoQ
import Derived.Test.YtjiffkjeijfilaaCoE
set_option maxRecDepth 8000
set_option linter.unusedSimpArgs false
set_option linter.unusedVariables false
namespace Go.Proofs.Ytjiffkjeijfilaa
open Go Go.RowKit

set_option maxHeartbeats 4000000

/-- the change that makes y of x, if there is one -/
def sameBut (x y : Cv) : Bool := decide (x.id = y.id) && (decide (x.frm = y.frm) && (decide (x.to = y.to) && (decide (x.leave = y.leave) && decide (x.arrive = y.arrive))))
def bit (b : Bool) (n : Int) : Int := if b = true then n else 0
def chSum (x y : Cv) : Int := bit (!decide (x.day = y.day)) 1 + bit (!decide (x.zone = y.zone)) 2 + bit (!decide (x.grams = y.grams)) 4 + bit (!decide (x.paid = y.paid)) 8
def chRes (x y : Cv) : Int × Bool := if (isCv x && isCv y) = true then (if sameBut x y = true then (chSum x y, true) else (0, false)) else (0, false)

def q_chOf : Con := fun args H K => match args with
  | [.agg x_e, .agg y_e] => onv (eCv.dec x_e) fun x => onv (eCv.dec y_e) fun y => K (.tup [.c (.int .i64 ((chRes x y).1)), .c (.bool ((chRes x y).2))]) H
  | _ => False
@[simp ↓] theorem q_chOf_eq (x_e : List AC) (y_e : List AC) (H : AHeap) (K : AV → AHeap → Prop) : q_chOf [.agg x_e, .agg y_e] H K = (onv (eCv.dec x_e) fun x => onv (eCv.dec y_e) fun y => K (.tup [.c (.int .i64 ((chRes x y).1)), .c (.bool ((chRes x y).2))]) H) := rfl

theorem spec_ChangeOf_s : Sound Try.prog 61 q_chOf := by
  intro args H K h
  unfold q_chOf at h
  split at h
  rotate_left
  all_goals first | exact False.elim h | skip
  rename_i x_e y_e
  have h1 := onv_iff.1 h
  clear h
  obtain ⟨x, hd_x, h⟩ := h1
  obtain rfl := eCv.cd _ _ hd_x
  clear hd_x
  have h1 := onv_iff.1 h
  clear h
  obtain ⟨y, hd_y, h⟩ := h1
  obtain rfl := eCv.cd _ _ hd_y
  clear hd_y
  have hE := soundE_cons spec_l10One_s (soundE_nil (P := Try.prog))
  refine acalls_fn spec_ChangeOf_k hE ⟨by simp, fun hwf => ?_⟩
  have wk0 : IntKind.i64.wrap 0 = 0 := by decide
  have wk1 : IntKind.i64.wrap 1 = 1 := by decide
  have wk2 : IntKind.i64.wrap 2 = 2 := by decide
  have wk3 : IntKind.i64.wrap 3 = 3 := by decide
  have wk4 : IntKind.i64.wrap 4 = 4 := by decide
  have wk5 : IntKind.i64.wrap 5 = 5 := by decide
  have wk6 : IntKind.i64.wrap 6 = 6 := by decide
  have wk7 : IntKind.i64.wrap 7 = 7 := by decide
  have wk8 : IntKind.i64.wrap 8 = 8 := by decide
  have wk9 : IntKind.i64.wrap 9 = 9 := by decide
  have wk10 : IntKind.i64.wrap 10 = 10 := by decide
  have wk11 : IntKind.i64.wrap 11 = 11 := by decide
  have wk12 : IntKind.i64.wrap 12 = 12 := by decide
  have wk13 : IntKind.i64.wrap 13 = 13 := by decide
  have wk14 : IntKind.i64.wrap 14 = 14 := by decide
  have wk15 : IntKind.i64.wrap 15 = 15 := by decide
  simp (config := {contextual := true, implicitDefEqProofs := false, maxSteps := 2000000}) [-Int.not_le, -Int.not_lt, argsF, spec_ChangeOf_c, wk0, wk1, wk2, wk3, wk4, wk5, wk6, wk7, wk8, wk9, wk10, wk11, wk12, wk13, wk14, wk15]
  repeat' (refine ite_i (fun _ => ?_) (fun _ => ?_))
  all_goals (refine Out.plain hwf ?_ rfl ?_; (repeat first | exact Sub.refl _ | refine Sub.push hwf ?_ _ | refine Sub.set hwf ?_ (by first | exact Nat.le_refl _ | omega | (simp only [push_n, set_n, kill_n]; omega)) _ | refine Sub.kill hwf ?_ (by first | exact Nat.le_refl _ | omega | (simp only [push_n, set_n, kill_n]; omega))))
  all_goals first | (simp_all [chRes, chSum, sameBut, bit]; done) | (simp_all [chRes, chSum, sameBut, bit]; split at h <;> simp_all)

def chL (x y : Cv) : List Bool := [!decide (x.day = y.day), !decide (x.zone = y.zone), !decide (x.grams = y.grams), !decide (x.paid = y.paid)]
def goB : List Bool → Nat → Int
  | [], _ => 0
  | b :: r, j => bit b (2 ^ j) + goB r (j + 1)
theorem goB_b : ∀ (l : List Bool) (j : Nat), 0 ≤ goB l j
  | [], _ => by simp [goB]
  | b :: r, j => by
    have := goB_b r (j + 1)
    have h2 : (0 : Int) ≤ 2 ^ j := Int.le_of_lt (Int.pow_pos (by decide))
    simp only [goB, bit]
    split <;> omega

theorem impl_ChangeOf_s : Sound Try.prog 59 q_chOf := by
  intro args H K h
  unfold q_chOf at h
  split at h
  rotate_left
  all_goals first | exact False.elim h | skip
  rename_i x_e y_e
  have h1 := onv_iff.1 h
  clear h
  obtain ⟨x, hd_x, h⟩ := h1
  obtain rfl := eCv.cd _ _ hd_x
  clear hd_x
  have h1 := onv_iff.1 h
  clear h
  obtain ⟨y, hd_y, h⟩ := h1
  obtain rfl := eCv.cd _ _ hd_y
  clear hd_y
  have hE := soundE_cons impl_isCover_s (soundE_nil (P := Try.prog))
  refine acalls_fn impl_ChangeOf_k hE ⟨by simp, fun hwf => ?_⟩
  have wk0 : IntKind.i64.wrap 0 = 0 := by decide
  have wk1 : IntKind.i64.wrap 1 = 1 := by decide
  have wk2 : IntKind.i64.wrap 2 = 2 := by decide
  have wk3 : IntKind.i64.wrap 3 = 3 := by decide
  have wk4 : IntKind.i64.wrap 4 = 4 := by decide
  have wk5 : IntKind.i64.wrap 5 = 5 := by decide
  have wk6 : IntKind.i64.wrap 6 = 6 := by decide
  have wk7 : IntKind.i64.wrap 7 = 7 := by decide
  have wk8 : IntKind.i64.wrap 8 = 8 := by decide
  have wk9 : IntKind.i64.wrap 9 = 9 := by decide
  have wk10 : IntKind.i64.wrap 10 = 10 := by decide
  have wk11 : IntKind.i64.wrap 11 = 11 := by decide
  have wk12 : IntKind.i64.wrap 12 = 12 := by decide
  have wk13 : IntKind.i64.wrap 13 = 13 := by decide
  have wk14 : IntKind.i64.wrap 14 = 14 := by decide
  have wk15 : IntKind.i64.wrap 15 = 15 := by decide
  simp (config := {contextual := true, implicitDefEqProofs := false, maxSteps := 2000000}) [-Int.not_le, -Int.not_lt, argsF, impl_ChangeOf_c, wk0, wk1, wk2, wk3, wk4, wk5, wk6, wk7, wk8, wk9, wk10, wk11, wk12, wk13, wk14, wk15]
  refine ite_i (fun hx => ite_i (fun hy => ?_) (fun hy => ?_)) (fun hx => ?_)
  rotate_left
  · (refine Out.plain hwf ?_ rfl ?_; (repeat first | exact Sub.refl _ | refine Sub.push hwf ?_ _ | refine Sub.set hwf ?_ (by first | exact Nat.le_refl _ | omega | (simp only [push_n, set_n, kill_n]; omega)) _ | refine Sub.kill hwf ?_ (by first | exact Nat.le_refl _ | omega | (simp only [push_n, set_n, kill_n]; omega)))); simp_all [chRes]
  · (refine Out.plain hwf ?_ rfl ?_; (repeat first | exact Sub.refl _ | refine Sub.push hwf ?_ _ | refine Sub.set hwf ?_ (by first | exact Nat.le_refl _ | omega | (simp only [push_n, set_n, kill_n]; omega)) _ | refine Sub.kill hwf ?_ (by first | exact Nat.le_refl _ | omega | (simp only [push_n, set_n, kill_n]; omega)))); simp_all [chRes]
  have hsum : goB (chL x y) 0 = chSum x y := by simp [goB, chL, chSum]; omega
  have hle : chSum x y ≤ 15 := by simp only [chSum, bit]; repeat' split
                                  all_goals omega
  have hlen : (chL x y).length = 4 := rfl
  revert hsum hlen
  generalize hg : chL x y = bl
  intro hsum hbl
  have hwf1 : (((H.push ⟨27, 9, false, false, [eCv.cells x]⟩).push ⟨27, 9, false, false, [eCv.cells y]⟩).push ⟨4, 1, false, false, bl.map eB.cells⟩).WF := WF.push (WF.push (WF.push hwf (by simp [AC.okR]) (by simp)) (by simp [AC.okR]) (by simp)) (plain_map (fun _ => rfl) _) (by simp [hbl])
  refine aloop_list bl (fun j (s : Int) => [(2, .c (.ptr H.n 0 0)), (3, .c (.ptr (H.n + 1) 0 0)), (6, .c (.int .i64 (s))), (37, .c (.sl (H.n + 1 + 1) (0) (4))), (38, .c (.int .i64 (4))), (39, .c (.int .i64 ((j : Int))))]) (fun j (s : Int) => ((H.push ⟨27, 9, false, false, [eCv.cells x]⟩).push ⟨27, 9, false, false, [eCv.cells y]⟩).push ⟨4, 1, false, false, bl.map eB.cells⟩) (fun j l (s : Int) => s + goB l j = chSum x y ∧ 0 ≤ s ∧ s ≤ 15) hE _ 0 ⟨by rw [← hsum]; omega, by omega, by omega⟩ (.since (by simp only [push_n]; omega) hwf1 (by subst hg; exact .refl _) (by simp [frOk, AV.okR, AV.ok1, AC.okR, AV.ren, AV.ren1, AC.ren, AFrame.get, pl1_old, *]; first | done | rfl | omega)) (fun j s hlt hi => ?_) fun s hi => ?_
  · obtain ⟨hi, hs0, hs1⟩ := hi
    clear hg hsum
    have hge := goB_b (bl.drop (j + 1)) (j + 1)
    have hj : j = 0 ∨ j = 1 ∨ j = 2 ∨ j = 3 := by omega
    rcases hj with rfl | rfl | rfl | rfl
    ·
      have hk : IntKind.i64.wrap (s + 1) = s + 1 := wrap_id (by omega) (by omega)
      have hp : IntKind.i64.wrap (2 ^ min 0 IntKind.i64.bits) = 1 := by decide
      simp only [goB] at hi
      cases hb : bl[0] with
      | true =>
        rw [hb] at hi
        simp (config := {contextual := true, implicitDefEqProofs := false, maxSteps := 2000000}) [-Int.not_le, -Int.not_lt, argsF, impl_ChangeOf_l0, wk0, wk1, wk2, wk3, wk4, wk5, wk6, wk7, wk8, wk9, wk10, wk11, wk12, wk13, wk14, wk15, hk, hp, hb, hs0, hs1, hbl]
        simp only [bit, if_true] at hi
        exact ⟨s + 1, ⟨by omega, by omega, by omega⟩, .since (by simp only [push_n]; omega) hwf1 (.refl _) (by simp [frOk, AV.okR, AV.ok1, AC.okR, AV.ren, AV.ren1, AC.ren, AFrame.get, pl1_old, *]; first | done | rfl | omega)⟩
      | false =>
        rw [hb] at hi
        simp (config := {contextual := true, implicitDefEqProofs := false, maxSteps := 2000000}) [-Int.not_le, -Int.not_lt, argsF, impl_ChangeOf_l0, wk0, wk1, wk2, wk3, wk4, wk5, wk6, wk7, wk8, wk9, wk10, wk11, wk12, wk13, wk14, wk15, hk, hp, hb, hs0, hs1, hbl]
        simp only [bit, if_false, reduceCtorEq] at hi
        exact ⟨s, ⟨by omega, by omega, by omega⟩, .since (by simp only [push_n]; omega) hwf1 (.refl _) (by simp [frOk, AV.okR, AV.ok1, AC.okR, AV.ren, AV.ren1, AC.ren, AFrame.get, pl1_old, *]; first | done | rfl | omega)⟩

    ·
      have hk : IntKind.i64.wrap (s + 2) = s + 2 := wrap_id (by omega) (by omega)
      have hp : IntKind.i64.wrap (2 ^ min 1 IntKind.i64.bits) = 2 := by decide
      simp only [goB] at hi
      cases hb : bl[1] with
      | true =>
        rw [hb] at hi
        simp (config := {contextual := true, implicitDefEqProofs := false, maxSteps := 2000000}) [-Int.not_le, -Int.not_lt, argsF, impl_ChangeOf_l0, wk0, wk1, wk2, wk3, wk4, wk5, wk6, wk7, wk8, wk9, wk10, wk11, wk12, wk13, wk14, wk15, hk, hp, hb, hs0, hs1, hbl]
        simp only [bit, if_true] at hi
        exact ⟨s + 2, ⟨by omega, by omega, by omega⟩, .since (by simp only [push_n]; omega) hwf1 (.refl _) (by simp [frOk, AV.okR, AV.ok1, AC.okR, AV.ren, AV.ren1, AC.ren, AFrame.get, pl1_old, *]; first | done | rfl | omega)⟩
      | false =>
        rw [hb] at hi
        simp (config := {contextual := true, implicitDefEqProofs := false, maxSteps := 2000000}) [-Int.not_le, -Int.not_lt, argsF, impl_ChangeOf_l0, wk0, wk1, wk2, wk3, wk4, wk5, wk6, wk7, wk8, wk9, wk10, wk11, wk12, wk13, wk14, wk15, hk, hp, hb, hs0, hs1, hbl]
        simp only [bit, if_false, reduceCtorEq] at hi
        exact ⟨s, ⟨by omega, by omega, by omega⟩, .since (by simp only [push_n]; omega) hwf1 (.refl _) (by simp [frOk, AV.okR, AV.ok1, AC.okR, AV.ren, AV.ren1, AC.ren, AFrame.get, pl1_old, *]; first | done | rfl | omega)⟩

    ·
      have hk : IntKind.i64.wrap (s + 4) = s + 4 := wrap_id (by omega) (by omega)
      have hp : IntKind.i64.wrap (2 ^ min 2 IntKind.i64.bits) = 4 := by decide
      simp only [goB] at hi
      cases hb : bl[2] with
      | true =>
        rw [hb] at hi
        simp (config := {contextual := true, implicitDefEqProofs := false, maxSteps := 2000000}) [-Int.not_le, -Int.not_lt, argsF, impl_ChangeOf_l0, wk0, wk1, wk2, wk3, wk4, wk5, wk6, wk7, wk8, wk9, wk10, wk11, wk12, wk13, wk14, wk15, hk, hp, hb, hs0, hs1, hbl]
        simp only [bit, if_true] at hi
        exact ⟨s + 4, ⟨by omega, by omega, by omega⟩, .since (by simp only [push_n]; omega) hwf1 (.refl _) (by simp [frOk, AV.okR, AV.ok1, AC.okR, AV.ren, AV.ren1, AC.ren, AFrame.get, pl1_old, *]; first | done | rfl | omega)⟩
      | false =>
        rw [hb] at hi
        simp (config := {contextual := true, implicitDefEqProofs := false, maxSteps := 2000000}) [-Int.not_le, -Int.not_lt, argsF, impl_ChangeOf_l0, wk0, wk1, wk2, wk3, wk4, wk5, wk6, wk7, wk8, wk9, wk10, wk11, wk12, wk13, wk14, wk15, hk, hp, hb, hs0, hs1, hbl]
        simp only [bit, if_false, reduceCtorEq] at hi
        exact ⟨s, ⟨by omega, by omega, by omega⟩, .since (by simp only [push_n]; omega) hwf1 (.refl _) (by simp [frOk, AV.okR, AV.ok1, AC.okR, AV.ren, AV.ren1, AC.ren, AFrame.get, pl1_old, *]; first | done | rfl | omega)⟩

    ·
      have hk : IntKind.i64.wrap (s + 8) = s + 8 := wrap_id (by omega) (by omega)
      have hp : IntKind.i64.wrap (2 ^ min 3 IntKind.i64.bits) = 8 := by decide
      simp only [goB] at hi
      cases hb : bl[3] with
      | true =>
        rw [hb] at hi
        simp (config := {contextual := true, implicitDefEqProofs := false, maxSteps := 2000000}) [-Int.not_le, -Int.not_lt, argsF, impl_ChangeOf_l0, wk0, wk1, wk2, wk3, wk4, wk5, wk6, wk7, wk8, wk9, wk10, wk11, wk12, wk13, wk14, wk15, hk, hp, hb, hs0, hs1, hbl]
        simp only [bit, if_true] at hi
        exact ⟨s + 8, ⟨by omega, by omega, by omega⟩, .since (by simp only [push_n]; omega) hwf1 (.refl _) (by simp [frOk, AV.okR, AV.ok1, AC.okR, AV.ren, AV.ren1, AC.ren, AFrame.get, pl1_old, *]; first | done | rfl | omega)⟩
      | false =>
        rw [hb] at hi
        simp (config := {contextual := true, implicitDefEqProofs := false, maxSteps := 2000000}) [-Int.not_le, -Int.not_lt, argsF, impl_ChangeOf_l0, wk0, wk1, wk2, wk3, wk4, wk5, wk6, wk7, wk8, wk9, wk10, wk11, wk12, wk13, wk14, wk15, hk, hp, hb, hs0, hs1, hbl]
        simp only [bit, if_false, reduceCtorEq] at hi
        exact ⟨s, ⟨by omega, by omega, by omega⟩, .since (by simp only [push_n]; omega) hwf1 (.refl _) (by simp [frOk, AV.okR, AV.ok1, AC.okR, AV.ren, AV.ren1, AC.ren, AFrame.get, pl1_old, *]; first | done | rfl | omega)⟩

  · obtain ⟨hi, hs0, hs1⟩ := hi
    simp only [goB, Int.add_zero] at hi
    subst hi
    simp (config := {contextual := true, implicitDefEqProofs := false, maxSteps := 2000000}) [-Int.not_le, -Int.not_lt, argsF, impl_ChangeOf_l0, hbl, wk0, wk1, wk2, wk3, wk4, wk5, wk6, wk7, wk8, wk9, wk10, wk11, wk12, wk13, wk14, wk15]
    simp only [chRes, hx, hy, Bool.and_self, if_true] at h
    refine ite_i (fun hc => ?_) (fun hc => ?_)
    · have hsb : sameBut x y = false := by
        cases h0 : sameBut x y
        · rfl
        · exfalso; simp [sameBut] at h0; omega
      rw [hsb] at h
      (refine Out.plain hwf ?_ rfl ?_; (repeat first | exact Sub.refl _ | refine Sub.push hwf ?_ _ | refine Sub.set hwf ?_ (by first | exact Nat.le_refl _ | omega | (simp only [push_n, set_n, kill_n]; omega)) _ | refine Sub.kill hwf ?_ (by first | exact Nat.le_refl _ | omega | (simp only [push_n, set_n, kill_n]; omega)))); simpa using h
    · have hsb : sameBut x y = true := by simp [sameBut]; omega
      rw [hsb] at h
      (refine Out.plain hwf ?_ rfl ?_; (repeat first | exact Sub.refl _ | refine Sub.push hwf ?_ _ | refine Sub.set hwf ?_ (by first | exact Nat.le_refl _ | omega | (simp only [push_n, set_n, kill_n]; omega)) _ | refine Sub.kill hwf ?_ (by first | exact Nat.le_refl _ | omega | (simp only [push_n, set_n, kill_n]; omega)))); simpa using h

end Go.Proofs.Ytjiffkjeijfilaa
