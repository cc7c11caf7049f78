/- The printings: a valid list. -/
import Derived.Test.YtegmlgikdniohaaDoorPrQ
set_option maxRecDepth 8000
set_option linter.unusedSimpArgs false
set_option linter.unusedVariables false
namespace Go.Proofs.YtegmlgikdniohaaDoor
open Go Go.RowKit

def okAt (ps : List Pr) (j : Nat) : Bool := match ps[j]? with
  | none => true
  | some p => isPr p && match j with
    | 0 => true
    | i + 1 => match ps[i]? with
      | none => true
      | some q => decide (q.num < p.num) && decide (q.day < p.day)

def arePr (ps : List Pr) : Bool := (List.range ps.length).all (okAt ps) && decide (ps.length ≤ 12)

theorem okAt_0 {ps : List Pr} (h : 0 < ps.length) : okAt ps 0 = isPr ps[0] := by simp [okAt, h]

theorem okAt_s {ps : List Pr} {i : Nat} (h : i + 1 < ps.length) : okAt ps (i + 1) = (isPr ps[i + 1] && (decide (ps[i].num < ps[i + 1].num) && decide (ps[i].day < ps[i + 1].day))) := by
  have h' : i < ps.length := by omega
  simp [okAt, h, h']

def q_arePr : Con := fun args H K => match args with
  | [x] => ePr.rd H (fun ps => K (.c (.bool (arePr ps))) H) x
  | _ => False

@[simp ↓] theorem q_arePr_eq (x : AV) (H : AHeap) (K : AV → AHeap → Prop) : q_arePr [x] H K = ePr.rd H (fun ps => K (.c (.bool (arePr ps))) H) x := rfl

theorem spec_l14Good_s : Sound Tryd.prog 32 q_arePr := by
  intro args H K h
  unfold q_arePr at h
  split at h
  rotate_left
  all_goals first | exact False.elim h | skip
  obtain ⟨b, i, k, ps, rfl, hat, h⟩ := Enc.rd_at h
  have hE := soundE_cons spec_l14One_s (P := Tryd.prog) soundE_nil
  refine acalls_fn spec_l14Good_k hE ⟨by simp, fun hwf => ?_⟩
  have hb : b < H.n := (hwf b k hat.blk).1
  have hmx : ps.length ≤ 9223372036854775807 := by have h1 := (hwf b k hat.blk).2.2; have h2 := hat.len; omega
  simp (config := {contextual := true, implicitDefEqProofs := false, maxSteps := 60000}) [-Int.not_le, -Int.not_lt, argsF, spec_l14Good_c]
  refine aloop_at (X := Nat) (fun j => [(0, .c (.sl b i ps.length)), (3, .c (.int .i64 j))]) (fun _ => H) (fun j => j ≤ ps.length ∧ ∀ m, m < j → okAt ps m = true) (fun j => ps.length - j) hE _ 0 ⟨Nat.zero_le _, by simp⟩ (.same hwf (by simp [frOk, AV.okR, AV.ok1, AC.okR, AV.ren, AV.ren1, AFrame.get, hb])) fun j hj => ?_
  obtain ⟨hj, hok⟩ := hj
  have bad : okAt ps j = false → j < ps.length → arePr ps = false := fun ha hlt => by
    simp only [arePr, Bool.and_eq_false_iff, List.all_eq_false]
    exact .inl ⟨j, by simpa using hlt, by simp [ha]⟩
  have wj : IntKind.i64.wrap ((j : Int) + 1) = (j : Int) + 1 ∨ ¬ j < ps.length := by
    rcases Nat.lt_or_ge j ps.length with h1 | h1
    · exact .inl (wrap_id (by omega) (by omega))
    · exact .inr (by omega)
  rcases Nat.lt_or_ge j ps.length with hlt | hge
  · have e1 := hat.get hlt
    have w1 := wj.resolve_right (fun h => h hlt)
    cases j with
    | zero =>
      have ho := okAt_0 hlt
      rw [Nat.add_zero] at e1
      simp (config := {contextual := true, implicitDefEqProofs := false, maxSteps := 60000}) [-Int.not_le, -Int.not_lt, argsF, spec_l14Good_l0, hlt, hat.blk, hat.esz, e1, wrap_1]
      split
      · refine ⟨1, ⟨by omega, fun m hm => ?_⟩, show ps.length - 1 < ps.length - 0 by omega, .drop hwf (.refl _) ?_⟩
        · rw [show m = 0 by omega, ho]; assumption
        · simp [frOk, AV.okR, AV.ok1, AC.okR, AV.ren, AV.ren1, AFrame.get, hb]
      · (refine Out.plain hwf ?_ rfl ?_; (repeat first | exact Sub.refl _ | refine Sub.push hwf ?_ _ | refine Sub.set hwf ?_ (by first | exact Nat.le_refl _ | omega | (simp only [push_n, set_n, kill_n]; omega)) _ | refine Sub.kill hwf ?_ (by first | exact Nat.le_refl _ | omega | (simp only [push_n, set_n, kill_n]; omega)))); rwa [bad (by simp_all) hlt] at h
    | succ j =>
      have e0 := hat.get (show j < ps.length by omega)
      have ho := okAt_s hlt
      have hj1 : (j : Int) + 1 < (ps.length : Int) := by omega
      have hj2 : (j : Int) < (ps.length : Int) := by omega
      have hj3 : (0 : Int) ≤ (j : Int) + 1 := by omega
      have ej : ((j : Int) + 1).toNat = j + 1 := by omega
      have w0 : IntKind.i64.wrap (j : Int) = (j : Int) := wrap_id (by omega) (by omega)
      push_cast at w1
      simp (config := {contextual := true, implicitDefEqProofs := false, maxSteps := 60000}) [-Int.not_le, -Int.not_lt, argsF, spec_l14Good_l0, hat.blk, hat.esz, e1, e0, w0, w1, hj1, hj2, hj3, ej]
      repeat' split
      all_goals first
        | ((refine Out.plain hwf ?_ rfl ?_; (repeat first | exact Sub.refl _ | refine Sub.push hwf ?_ _ | refine Sub.set hwf ?_ (by first | exact Nat.le_refl _ | omega | (simp only [push_n, set_n, kill_n]; omega)) _ | refine Sub.kill hwf ?_ (by first | exact Nat.le_refl _ | omega | (simp only [push_n, set_n, kill_n]; omega)))); rwa [bad (by rw [ho]; simp_all <;> omega) hlt] at h)
        | (refine ⟨j + 2, ⟨by omega, fun m hm => ?_⟩, show ps.length - (j + 2) < ps.length - (j + 1) by omega, .drop hwf (.refl _) ?_⟩
           · rcases Nat.lt_or_ge m (j + 1) with h1 | h1
             · exact hok m h1
             · rw [show m = j + 1 by omega, ho]; simp_all <;> omega
           · simp [frOk, AV.okR, AV.ok1, AC.okR, AV.ren, AV.ren1, AFrame.get, hb]; omega)
  · have hge' : ¬ (j : Int) < (ps.length : Int) := by omega
    simp (config := {contextual := true, implicitDefEqProofs := false, maxSteps := 60000}) [-Int.not_le, -Int.not_lt, argsF, spec_l14Good_l0, hge']
    (refine Out.plain hwf ?_ rfl ?_; (repeat first | exact Sub.refl _ | refine Sub.push hwf ?_ _ | refine Sub.set hwf ?_ (by first | exact Nat.le_refl _ | omega | (simp only [push_n, set_n, kill_n]; omega)) _ | refine Sub.kill hwf ?_ (by first | exact Nat.le_refl _ | omega | (simp only [push_n, set_n, kill_n]; omega))))
    have : arePr ps = decide (ps.length ≤ 12) := by
      have h1 : (List.range ps.length).all (okAt ps) = true := by
        rw [List.all_eq_true]; intro m hm; exact hok m (by have := List.mem_range.1 hm; omega)
      simp [arePr, h1]
    rw [this] at h
    rw [show decide ((ps.length : Int) ≤ 12) = decide (ps.length ≤ 12) by rw [decide_eq_decide]; omega]
    exact h

theorem impl_arePrintings_s : Sound Tryd.prog 30 q_arePr := by
  intro args H K h
  unfold q_arePr at h
  split at h
  rotate_left
  all_goals first | exact False.elim h | skip
  obtain ⟨b, i, k, ps, rfl, hat, h⟩ := Enc.rd_at h
  have hE := soundE_cons impl_isPrinting_s (P := Tryd.prog) soundE_nil
  refine acalls_fn impl_arePrintings_k hE ⟨by simp, fun hwf => ?_⟩
  have hb : b < H.n := (hwf b k hat.blk).1
  have hne : (b = H.n) = False := eq_false (by omega)
  have hmx : ps.length ≤ 9223372036854775807 := by have h1 := (hwf b k hat.blk).2.2; have h2 := hat.len; omega
  simp (config := {contextual := true, implicitDefEqProofs := false, maxSteps := 60000}) [-Int.not_le, -Int.not_lt, argsF, impl_arePrintings_c]
  refine aloop_at (X := Nat) (fun j => [(0, .c (.sl b i ps.length)), (5, .c (.sl b i ps.length)), (6, .c (.int .i64 ps.length)), (7, .c (.int .i64 j))]) (fun _ => H) (fun j => j ≤ ps.length ∧ ∀ m, m < j → okAt ps m = true) (fun j => ps.length - j) hE _ 0 ⟨Nat.zero_le _, by simp⟩ (.same hwf (by simp [frOk, AV.okR, AV.ok1, AC.okR, AV.ren, AV.ren1, AFrame.get, hb])) fun j hj => ?_
  obtain ⟨hj, hok⟩ := hj
  have bad : okAt ps j = false → j < ps.length → arePr ps = false := fun ha hlt => by
    simp only [arePr, Bool.and_eq_false_iff, List.all_eq_false]
    exact .inl ⟨j, by simpa using hlt, by simp [ha]⟩
  rcases Nat.lt_or_ge j ps.length with hlt | hge
  · have e1 := hat.get hlt
    cases j with
    | zero =>
      have ho := okAt_0 hlt
      rw [Nat.add_zero] at e1
      simp (config := {contextual := true, implicitDefEqProofs := false, maxSteps := 60000}) [-Int.not_le, -Int.not_lt, argsF, impl_arePrintings_l0, hlt, hat.blk, hat.esz, e1, wrap_1, hne]
      split
      · refine ⟨1, ⟨by omega, fun m hm => ?_⟩, show ps.length - 1 < ps.length - 0 by omega, .drop hwf (by (repeat first | exact Sub.refl _ | refine Sub.push hwf ?_ _ | refine Sub.set hwf ?_ (by first | exact Nat.le_refl _ | omega | (simp only [push_n, set_n, kill_n]; omega)) _ | refine Sub.kill hwf ?_ (by first | exact Nat.le_refl _ | omega | (simp only [push_n, set_n, kill_n]; omega)))) ?_⟩
        · rw [show m = 0 by omega, ho]; assumption
        · simp [frOk, AV.okR, AV.ok1, AC.okR, AV.ren, AV.ren1, AFrame.get, hb]
      · (refine Out.plain hwf ?_ rfl ?_; (repeat first | exact Sub.refl _ | refine Sub.push hwf ?_ _ | refine Sub.set hwf ?_ (by first | exact Nat.le_refl _ | omega | (simp only [push_n, set_n, kill_n]; omega)) _ | refine Sub.kill hwf ?_ (by first | exact Nat.le_refl _ | omega | (simp only [push_n, set_n, kill_n]; omega)))); rwa [bad (by simp_all) hlt] at h
    | succ j =>
      have e0 := hat.get (show j < ps.length by omega)
      have ho := okAt_s hlt
      have hj1 : (j : Int) + 1 < (ps.length : Int) := by omega
      have hj2 : (j : Int) < (ps.length : Int) := by omega
      have hj3 : (0 : Int) ≤ (j : Int) + 1 := by omega
      have ej : ((j : Int) + 1).toNat = j + 1 := by omega
      have w0 : IntKind.i64.wrap (j : Int) = (j : Int) := wrap_id (by omega) (by omega)
      have w1 : IntKind.i64.wrap ((j : Int) + 1 + 1) = (j : Int) + 1 + 1 := wrap_id (by omega) (by omega)
      simp (config := {contextual := true, implicitDefEqProofs := false, maxSteps := 60000}) [-Int.not_le, -Int.not_lt, argsF, impl_arePrintings_l0, hat.blk, hat.esz, e1, e0, w0, w1, hj1, hj2, hj3, ej, hne]
      repeat' split
      all_goals first
        | ((refine Out.plain hwf ?_ rfl ?_; (repeat first | exact Sub.refl _ | refine Sub.push hwf ?_ _ | refine Sub.set hwf ?_ (by first | exact Nat.le_refl _ | omega | (simp only [push_n, set_n, kill_n]; omega)) _ | refine Sub.kill hwf ?_ (by first | exact Nat.le_refl _ | omega | (simp only [push_n, set_n, kill_n]; omega)))); rwa [bad (by rw [ho]; simp_all <;> omega) hlt] at h)
        | (refine ⟨j + 2, ⟨by omega, fun m hm => ?_⟩, show ps.length - (j + 2) < ps.length - (j + 1) by omega, .drop hwf (by (repeat first | exact Sub.refl _ | refine Sub.push hwf ?_ _ | refine Sub.set hwf ?_ (by first | exact Nat.le_refl _ | omega | (simp only [push_n, set_n, kill_n]; omega)) _ | refine Sub.kill hwf ?_ (by first | exact Nat.le_refl _ | omega | (simp only [push_n, set_n, kill_n]; omega)))) ?_⟩
           · rcases Nat.lt_or_ge m (j + 1) with h1 | h1
             · exact hok m h1
             · rw [show m = j + 1 by omega, ho]; simp_all <;> omega
           · simp [frOk, AV.okR, AV.ok1, AC.okR, AV.ren, AV.ren1, AFrame.get, hb]; omega)
  · have hge' : ¬ (j : Int) < (ps.length : Int) := by omega
    simp (config := {contextual := true, implicitDefEqProofs := false, maxSteps := 60000}) [-Int.not_le, -Int.not_lt, argsF, impl_arePrintings_l0, hge']
    (refine Out.plain hwf ?_ rfl ?_; (repeat first | exact Sub.refl _ | refine Sub.push hwf ?_ _ | refine Sub.set hwf ?_ (by first | exact Nat.le_refl _ | omega | (simp only [push_n, set_n, kill_n]; omega)) _ | refine Sub.kill hwf ?_ (by first | exact Nat.le_refl _ | omega | (simp only [push_n, set_n, kill_n]; omega))))
    have : arePr ps = decide (ps.length ≤ 12) := by
      have h1 : (List.range ps.length).all (okAt ps) = true := by
        rw [List.all_eq_true]; intro m hm; exact hok m (by have := List.mem_range.1 hm; omega)
      simp [arePr, h1]
    rw [this] at h
    rw [show decide ((ps.length : Int) ≤ 12) = decide (ps.length ≤ 12) by rw [decide_eq_decide]; omega]
    exact h

end Go.Proofs.YtegmlgikdniohaaDoor
