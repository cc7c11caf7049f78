/- The abstract machine, part C: the operations that leave the heap alone do in the model what they do abstractly. No program is named here. -/
import Derived.Test.YtafenginfojcmaaGreatDoorAbsB
namespace Go.Proofs.YtafenginfojcmaaGreatDoor
open Go.RowKit

theorem eval_of {φ : Nat → Place} {n : Nat} {F : AFrame} {a : Act} (hF : FRep φ n F a.tmps) : ∀ {x : Operand} {v : AV}, opnd F x = some v → RepV φ n v (a.eval x) := by
  intro x v h
  cases x with
  | tmp t =>
    obtain ⟨u, h1, h2⟩ := hF t v h
    simp only [Act.eval, Array.getD_eq_getD_getElem?, h1, Option.getD_some]
    exact h2
  | const c =>
    have hc : ∀ {c : Value} {x : AC}, ofC c = some x → RepC φ n x c := fun {c x} hx => by
      unfold ofC at hx
      split at hx <;> simp at hx <;> subst hx
      · rfl
      · rfl
      · rename_i s; exact congrArg Value.string (by cases s; simp)
      · exact ⟨_, rfl⟩
    have hcs : ∀ {l : List Value} {xs : List AC}, ofCs l = some xs → RepL φ n xs l := by
      intro l
      induction l with
      | nil => intro xs hx; simp [ofCs] at hx; subst hx; trivial
      | cons c r ih =>
        intro xs hx
        simp only [ofCs] at hx
        split at hx
        · rename_i x xs' e1 e2
          simp at hx; subst hx
          exact ⟨hc e1, ih e2⟩
        · simp at hx
    simp only [opnd] at h
    unfold ofConst at h
    split at h
    · rename_i cs
      simp only [Option.map_eq_some_iff] at h
      obtain ⟨xs, h1, rfl⟩ := h
      exact ⟨cs.toList, rfl, hcs h1⟩
    · simp only [Option.map_eq_some_iff] at h
      obtain ⟨x, h1, rfl⟩ := h
      exact hc h1
  | func f => simp [opnd] at h; subst h; exact ⟨fun b hb => by simp at hb, rfl⟩
  | global g => simp [opnd] at h

theorem evals_of {φ : Nat → Place} {n : Nat} {F : AFrame} {a : Act} (hF : FRep φ n F a.tmps) : ∀ {xs : List Operand} {vs : List AV}, opnds F xs = some vs → RepT φ n vs (xs.map a.eval) := by
  intro xs
  induction xs with
  | nil => intro vs h; simp [opnds] at h; subst h; trivial
  | cons x r ih =>
    intro vs h
    simp only [opnds] at h
    split at h
    · rename_i y vs' e1 e2
      simp at h; subst h
      exact ⟨eval_of hF e1, ih e2⟩
    · rename_i ys vs' e1 e2
      simp at h; subst h
      exact ⟨eval_of hF e1, ih e2⟩
    · simp at h

theorem asI_of {φ : Nat → Place} {n : Nat} {F : AFrame} {a : Act} (hF : FRep φ n F a.tmps) {x : Operand} {m : Int} (h : asI (opnd F x) = some m) : ∃ k, a.eval x = .int k m := by
  cases hx : opnd F x with
  | none => simp [hx, asI] at h
  | some v =>
    have h1 := eval_of hF hx
    rw [hx] at h
    unfold asI at h
    split at h <;> simp at h
    rename_i k n' e
    cases e; subst h
    exact ⟨k, h1⟩

section
variable {P : Program}

theorem underlying_of_cellT {t : TypeId} (h : cellT P t = true) : ∃ d i, P.underlying t = some d ∧ P.info? t = some i ∧ i.size = 1 ∧ d.isRow = false := by
  unfold cellT at h
  cases hu : P.underlying t with
  | none => rw [hu] at h; simp at h
  | some d =>
    cases hi : P.info? t with
    | none => rw [hu, hi] at h; cases d <;> simp at h
    | some i => rw [hu, hi] at h; cases d <;> first | (simp at h; done) | exact ⟨_, i, rfl, rfl, by simpa using h, rfl⟩

theorem tyK_cell {t : TypeId} (h : tyK P t = some .cell) : ∃ d i, P.underlying t = some d ∧ P.info? t = some i ∧ i.size = 1 ∧ d.isRow = false := by
  unfold tyK at h
  cases hu : P.underlying t with
  | none => rw [hu] at h; simp at h
  | some d =>
    cases hi : P.info? t with
    | none => rw [hu, hi] at h; cases d <;> simp at h
    | some i =>
      rw [hu, hi] at h
      cases d <;> first | (simp at h; done) | exact ⟨_, i, rfl, rfl, by simpa using h, rfl⟩
theorem tyK_obj {t : TypeId} {n : Nat} (h : tyK P t = some (.obj n)) : ∃ fs i, P.underlying t = some (.struct fs) ∧ P.info? t = some i ∧ i.size = n := by
  unfold tyK at h
  cases hu : P.underlying t with
  | none => rw [hu] at h; simp at h
  | some d =>
    cases hi : P.info? t with
    | none => rw [hu, hi] at h; cases d <;> simp at h
    | some i =>
      rw [hu, hi] at h
      cases d <;> first | (simp at h; done) | exact ⟨_, i, rfl, rfl, by simpa using h⟩
theorem tyK_arr {t : TypeId} {n : Nat} (h : tyK P t = some (.arr n)) : ∃ e i, P.underlying t = some (.array n e) ∧ P.info? t = some i ∧ i.size = n ∧ cellT P e = true := by
  unfold tyK at h
  cases hu : P.underlying t with
  | none => rw [hu] at h; simp at h
  | some d =>
    cases hi : P.info? t with
    | none => rw [hu, hi] at h; cases d <;> simp at h
    | some i =>
      rw [hu, hi] at h
      cases d with
      | array m e =>
        simp only at h
        split at h
        · rename_i hc; simp at h; subst h; exact ⟨e, i, rfl, rfl, hc.1, hc.2⟩
        · simp at h
      | _ => simp at h
theorem arrK_some {t : TypeId} {n : Nat} (h : arrK P t = some n) : tyK P t = some (.arr n) := by
  unfold arrK at h
  split at h
  · rename_i m e; simp at h; subst h; exact e
  · simp at h
theorem slK_some {t : TypeId} {s : TypeId × Nat × Nat} (h : slK P t = some s) : ∃ i, P.underlying t = some (.slice s.1) ∧ P.info? s.1 = some i ∧ i.size = s.2.1 ∧ i.bytes = s.2.2 := by
  unfold slK at h
  split at h
  · rename_i e hu
    simp only [Option.map_eq_some_iff] at h
    obtain ⟨i, h1, rfl⟩ := h
    exact ⟨i, hu, h1, rfl, rfl⟩
  · simp at h
theorem fldK_some {s : TypeId} {f o : Nat} (h : fldK P s f = some o) : ∃ fs g, P.underlying s = some (.struct fs) ∧ fs[f]? = some g ∧ cellT P g.type = true ∧ g.offset = o := by
  unfold fldK at h
  split at h
  · rename_i fs hu
    simp only [Option.bind_eq_some_iff] at h
    obtain ⟨g, h1, h2⟩ := h
    split at h2
    · rename_i hc; simp at h2; exact ⟨fs, g, hu, h1, hc, h2⟩
    · simp at h2
  · simp at h

/-- what a cell or a row of cells gives -/
theorem run_loadVar_cell {t : TypeId} (ht : ∃ d i, P.underlying t = some d ∧ P.info? t = some i ∧ i.size = 1 ∧ d.isRow = false) {w : World} {a : Addr} {v : Value} (hv : w.cell? a = some v) :
    (loadVar t a).run P w = .ok v w := by
  obtain ⟨d, i, hu, _, _, hd⟩ := ht
  have hagg : (isAgg t).run P w = .ok false w := by
    unfold isAgg
    rw [Sem.run_bind, run_underlying hu w]
    cases d <;> simp_all
  simp [loadVar, hagg, hv]

theorem adr_add (p : Place) (i j m : Nat) : (p.adr i j).add m = p.adr i (j + m) := by
  simp only [Place.adr, Addr.add_mid, Nat.add_assoc]

theorem adr_row (p : Place) (i m : Nat) : (p.adr i 0).add (m * p.esz) = p.adr (i + m) 0 := by
  simp only [Place.adr, Addr.add_mid]
  simp [Nat.add_mul, Nat.add_assoc]

/-- an element's cells, as a list of values -/
theorem BCells.elem {φ : Nat → Place} {n : Nat} {p : Place} {k : ABlk} {w : World} (h : BCells φ n p k w) {i : Nat} {e : List AC} (he : k.els[i]? = some e) :
    ∃ vs : List Value, RepL φ n e vs ∧ ∀ (j : Nat) (v : Value), vs[j]? = some v → w.cell? (p.adr i j) = some v := RepL.of_cells e (h.cell i e he)

/-- a row of one-cell elements -/
theorem BCells.rowOf {φ : Nat → Place} {n : Nat} {p : Place} {k : ABlk} {w : World} (h : BCells φ n p k w) : ∀ (m i : Nat), i + m ≤ k.els.length →
    ∃ vs : List Value, RepL φ n ((k.els.drop i).take m).flatten vs ∧ vs.length = m * k.esz ∧ ∀ (j : Nat) (v : Value), vs[j]? = some v → w.cell? (p.adr i j) = some v
  | 0, _, _ => ⟨[], by simp [RepL], by simp, by simp⟩
  | m + 1, i, hi => by
    have hlt : i < k.els.length := by omega
    have he : k.els[i]? = some k.els[i] := List.getElem?_eq_getElem hlt
    obtain ⟨vs, h1, h2⟩ := h.elem he
    obtain ⟨us, h3, h4, h5⟩ := h.rowOf m (i + 1) (by omega)
    have hl : vs.length = k.esz := by rw [h1.length]; exact h.len i _ he
    refine ⟨vs ++ us, ?_, by simp [hl, h4, Nat.add_mul, Nat.add_comm], fun j v hv => ?_⟩
    · rw [List.drop_eq_getElem_cons hlt, List.take_succ_cons, List.flatten_cons]
      exact h1.append h3
    · by_cases hj : j < vs.length
      · rw [List.getElem?_append_left hj] at hv
        exact h2 j v hv
      · rw [List.getElem?_append_right (by omega)] at hv
        have := h5 _ v hv
        rw [← this]
        congr 1
        simp only [Place.adr, h.esz, hl, Addr.mk.injEq, true_and, and_true]
        rw [Nat.add_mul]
        omega

end
end Go.Proofs.YtafenginfojcmaaGreatDoor
