/- The abstract machine, part J: slices made, appended to; calls. No program is named here. -/
import Derived.Test.YtafenginfojcmaaGreatDoorAbsI
namespace Go.Proofs.YtafenginfojcmaaGreatDoor
open Go.RowKit

section
variable {P : Program} {φ : Nat → Place} {H : AHeap} {F : AFrame} {a : Act} {B : Bd} {w : World}

theorem made_rep {n : Nat} {z : List AC} {zv : Value} (hz : RepL φ n z zv.cells.toList) (c l : Nat) (hl : l ≤ c) : CellsRep φ n z.length (List.replicate l z) (madeCells zv.cells (c * zv.cells.size)) := by
  intro i e hi
  rw [List.getElem?_replicate] at hi
  split at hi
  · rename_i hil
    cases hi
    refine ⟨rfl, fun j x hx => ?_⟩
    obtain ⟨v, h1, h2⟩ := hz.get j x hx
    refine ⟨v, ?_, h2⟩
    have hlen : z.length = zv.cells.size := by rw [← hz.length]; simp
    have hj : j < zv.cells.size := by
      have := (List.getElem?_eq_some_iff.1 hx).1; omega
    have hb : i * zv.cells.size + j < c * zv.cells.size := by
      have := Nat.mul_le_mul_right zv.cells.size (show i + 1 ≤ c by omega)
      rw [Nat.add_mul, Nat.one_mul] at this
      omega
    rw [hlen]
    have hm : (i * zv.cells.size + j) % zv.cells.size = j := by
      rw [Nat.mul_comm, Nat.mul_add_mod]; exact Nat.mod_eq_of_lt hj
    have h1' : zv.cells[j]? = some v := by simpa using h1
    have h3 : zv.cells[j] = v := (Array.getElem?_eq_some_iff.1 h1').2
    simp only [madeCells, Array.getElem?_map, Array.getElem?_range, hb, if_true, Option.map_some, hm]
    simp [hj, h3]
  · cases hi

theorem e_makeSlice {o : Oper} {t : TypeId} {l c : Operand} {K : AV → AHeap → Prop} (ho : o.op = .makeSlice t l c) (hH : HRep φ B H w) (hF : FRep φ H.n F a.tmps) (h : aeff P H F (.makeSlice t l c) K) : EffOk P φ B H w a o K := by
  simp only [aeff] at h
  obtain ⟨s, hs, h⟩ := onv_iff.1 h
  obtain ⟨z, hz, h⟩ := onv_iff.1 h
  obtain ⟨m, hm, h⟩ := onv_iff.1 h
  obtain ⟨c', hc', h1, h2, h3, h4, h5, hK⟩ := onv_iff.1 h
  obtain ⟨inf, g1, g2, g3, g4⟩ := slK_some hs
  obtain ⟨i, zv, e1, e2, e3, e4⟩ := zeroK_some hz
  obtain ⟨kl, hl⟩ := asI_of hF hm
  obtain ⟨kc, hc⟩ := asI_of hF hc'
  rw [g2] at e1; cases e1
  have hrun := run_make (P := P) w t s.1 inf zv g1 g2 e2 kl kc m c' h2 h3 (by rw [g4]; omega) (by omega)
  rw [← e3] at hrun
  have hzr := ofCs_rep (φ := φ) (n := H.n) e4
  have hzl : z.length = zv.cells.size := by rw [← hzr.length]; simp
  have hp := hH.allocRow (k := ⟨s.1, s.2.1, false, false, List.replicate m.toNat z⟩) (cs := madeCells zv.cells (c'.toNat * zv.cells.size)) (cap := c'.toNat) rfl
    (by rw [size_madeCells, e3, g3]) (by simp; omega) (by simp only [maxLen]; omega)
    (by have := made_rep (φ := φ) hzr c'.toNat m.toNat (by omega); rw [hzl, e3, g3] at this; rw [e3, g3]; exact this)
  refine EffOk.of_value (by simp only [execOp, ho, hl, hc, Sem.run_bind, hrun, Result.andThen_ok, Sem.run_pure]; rfl) hK ⟨Nat.lt_succ_self _, _, _, rfl, ?_, ?_, fun _ => ?_⟩ hp (below_alloc hH _) (Nat.le_succ _) updP_old
  · omega
  · rw [updP_new]; simp
  · rw [updP_new]; simp [Place.adr]

theorem zipIdx_over : ∀ (vs : List Value) (cs : Array Value) (o k : Nat), ((vs.zipIdx k).foldl (fun cs (c, j) => cs.setIfInBounds (o + j) c) cs) = over cs (o + k) vs
  | [], _, _, _ => rfl
  | v :: r, cs, o, k => by
    simp only [List.zipIdx_cons, List.foldl_cons, over]
    rw [zipIdx_over r _ o (k + 1)]
    rfl

theorem fillS_of (hF : FRep φ H.n F a.tmps) {esz : Nat} : ∀ {parts : List (Nat × Operand)} {es es' : List (List AC)} {cs : Array Value}, fillS esz F es parts = some es' → CellsRep φ H.n esz es cs → es.length * esz = cs.size →
      es'.length = es.length ∧ ∃ cs', Instr.fill (fun i => some (i * esz, esz)) cs (parts.map fun (i, x) => (i, a.eval x)) = some cs' ∧ cs'.size = cs.size ∧ CellsRep φ H.n esz es' cs'
  | [], es, es', cs, h, hr, _ => by simp [fillS] at h; subst h; exact ⟨rfl, cs, rfl, rfl, hr⟩
  | (i, x) :: r, es, es', cs, h, hr, hs => by
    have fin : ∀ {xs : List AC} {vs : List Value}, (a.eval x).cells = vs.toArray → RepL φ H.n xs vs → i < es.length → xs.length = esz → fillS esz F (es.set i xs) r = some es' →
        es'.length = es.length ∧ ∃ cs', Instr.fill (fun i => some (i * esz, esz)) cs (((i, x) :: r).map fun (i, x) => (i, a.eval x)) = some cs' ∧ cs'.size = cs.size ∧ CellsRep φ H.n esz es' cs' := by
      intro xs vs hv hx hi hl h'
      have hlen := hx.length
      obtain ⟨e, he⟩ : ∃ e, es[i]? = some e := ⟨_, List.getElem?_eq_getElem hi⟩
      have hel := (hr i e he).1
      have h1 := hr.over (i := i) (j := 0) (xs := xs) (vs := vs) he hx (by omega) (by omega)
      have e1 : e.take 0 ++ xs ++ e.drop (0 + xs.length) = xs := by
        rw [List.drop_eq_nil_of_le (by omega)]; simp
      rw [e1] at h1
      obtain ⟨f0, cs', f1, f2, f3⟩ := fillS_of hF h' h1 (by simp [over_size]; omega)
      refine ⟨by rw [f0]; simp, cs', ?_, by rw [f2, over_size], f3⟩
      have hb : i * esz + vs.length ≤ cs.size := by
        have := Nat.mul_le_mul_right esz (show i + 1 ≤ es.length from hi)
        rw [Nat.add_mul, Nat.one_mul] at this
        omega
      simp only [List.map_cons, Instr.fill, hv]
      rw [if_neg (by simp; omega)]
      have hz := zipIdx_over vs cs (i * esz) 0
      rw [← Array.foldl_toList, Array.toList_zipIdx]
      rw [Nat.add_zero] at hz f1
      rw [hz]
      exact f1
    simp only [fillS] at h
    split at h
    · rename_i v hv
      split at h
      · rename_i hc
        have h1 : RepC φ H.n v (a.eval x) := eval_of hF hv
        exact fin (xs := [v]) (vs := [a.eval x]) h1.cells_eq ⟨h1, trivial⟩ hc.1 (by simp [hc.2]) h
      · cases h
    · rename_i vs hv
      split at h
      · rename_i hc
        obtain ⟨us, h1, h2⟩ := (show Rep1 φ H.n (.agg vs) _ from eval_of hF hv)
        exact fin (xs := vs) (vs := us) (by rw [h1]; rfl) h2 hc.1 hc.2 h
      · cases h
    · cases h

theorem e_buildSlice {o : Oper} {t : TypeId} {len : Nat} {parts : Array (Nat × Operand)} {K : AV → AHeap → Prop} (ho : o.op = .buildSlice t len parts) (hH : HRep φ B H w) (hF : FRep φ H.n F a.tmps)
    (h : aeff P H F (.buildSlice t len parts) K) : EffOk P φ B H w a o K := by
  simp only [aeff] at h
  obtain ⟨s, hs, h⟩ := onv_iff.1 h
  obtain ⟨z, hz, h⟩ := onv_iff.1 h
  obtain ⟨es, hes, h1, h2, hK⟩ := onv_iff.1 h
  obtain ⟨inf, g1, g2, g3, g4⟩ := slK_some hs
  obtain ⟨i, zv, e1, e2, e3, e4⟩ := zeroK_some hz
  rw [g2] at e1; cases e1
  have hzr := ofCs_rep (φ := φ) (n := H.n) e4
  have hzl : z.length = zv.cells.size := by rw [← hzr.length]; simp
  have hmade := made_rep (φ := φ) hzr len len (Nat.le_refl _)
  rw [hzl, e3, g3] at hmade
  obtain ⟨f0, cs', f1, f2, f3⟩ := fillS_of (a := a) hF hes hmade (by simp [size_madeCells])
  rw [size_madeCells] at f2
  simp only [List.length_replicate] at f0
  have hparts : (parts.map fun (i, x) => (i, a.eval x)).toList = parts.toList.map fun (i, x) => (i, a.eval x) := by simp
  have hrun : (Instr.buildSlice t len (parts.map fun (i, x) => (i, a.eval x))).run P w = .ok (.slice (some ⟨w.heap.size, 0, none⟩) len len) (w.alloc (.cells cs' s.1)) := by
    have hb : ¬ (len * s.2.1 > 2 ^ 24) := by omega
    rw [← hparts] at f1
    by_cases hz0 : len * s.2.1 = 0
    · have hl0 : len = 0 := by
        rcases Nat.mul_eq_zero.1 hz0 with h0 | h0
        · exact h0
        · omega
      subst hl0
      simp only [madeCells, Nat.zero_mul] at f1
      have er : ∀ f : Nat → Value, Array.map f (Array.range 0) = #[] := fun f => by simp
      rw [er] at f1
      simp only [Instr.buildSlice, Sem.run_bind, run_underlying g1, sizeOf, typeInfo, run_program, g2, g3, Sem.run_pure, Result.andThen_ok, Sem.run_ite, Nat.zero_mul, if_true, newRow, er]
      rw [if_neg (by omega), f1]
      simp
    · simp only [madeCells] at f1
      simp only [Instr.buildSlice, Sem.run_bind, run_underlying g1, sizeOf, typeInfo, run_program, g2, g3, zeroValue, e2, Sem.run_pure, Result.andThen_ok, Sem.run_ite, if_neg hb, if_neg hz0, newRow]
      rw [f1]
      simp
  have hp := hH.allocRow (k := ⟨s.1, s.2.1, false, false, es⟩) (cs := cs') (cap := len) rfl f2 (Nat.le_of_eq f0) (by simp only [maxLen]; have := Nat.le_mul_of_pos_right len h1; omega) f3
  refine EffOk.of_value (by simp only [execOp, ho, Sem.run_bind, hrun, Result.andThen_ok, Sem.run_pure]; rfl) hK ⟨Nat.lt_succ_self _, _, _, rfl, Nat.le_refl _, ?_, fun _ => ?_⟩ hp (below_alloc hH _) (Nat.le_succ _) updP_old
  · rw [updP_new]; simp
  · rw [updP_new]; simp [Place.adr]

end
end Go.Proofs.YtafenginfojcmaaGreatDoor
