/- The abstract machine, part D: soundness of the operations that leave the heap alone. No program is named here. -/
import Derived.Test.YtafenginfojcmaaGreatDoorAbsC
namespace Go.Proofs.YtafenginfojcmaaGreatDoor
open Go.RowKit

section
variable {P : Program} {φ : Nat → Place} {H : AHeap} {F : AFrame} {a : Act} {B : Bd} {w : World}

/-- in every world that keeps what is there the operation yields u -/
def Yields (P : Program) (a : Act) (o : Oper) (w : World) (u : Value) : Prop := ∀ w', Below w.heap.size w w' → (execOp a.eval o).run P w' = .ok (.value u) w'

/-- in every world whatsoever the operation yields u -/
def YieldsAll (P : Program) (a : Act) (o : Oper) (u : Value) : Prop := ∀ w', (execOp a.eval o).run P w' = .ok (.value u) w'
theorem all_y {P : Program} {a : Act} {o : Oper} {w : World} {K : AV → Prop} {φ : Nat → Place} {n : Nat} (h : ∃ v u, K v ∧ RepV φ n v u ∧ YieldsAll P a o u) : ∃ v u, K v ∧ RepV φ n v u ∧ Yields P a o w u :=
  let ⟨v, u, h1, h2, h3⟩ := h
  ⟨v, u, h1, h2, fun w' _ => h3 w'⟩

theorem cell_keep {w w' : World} (hb : Below w.heap.size w w') {p : Addr} {v : Value} (h : w.cell? p = some v) : w'.cell? p = some v := by
  rw [hb.cell (World.block_lt_of_cell? w _ h), h]

theorem y_load {o : Oper} {t : TypeId} {x : Operand} {K : AV → Prop} (ho : o.op = .load t x) (hH : HRep φ B H w) (hF : FRep φ H.n F a.tmps) (h : apure P H F (.load t x) K) :
    ∃ v u, K v ∧ RepV φ H.n v u ∧ Yields P a o w u := by
  simp only [apure] at h
  obtain ⟨v, hv, h⟩ := onv_iff.1 h
  have he := eval_of hF hv
  split at h
  · rename_i b i j
    obtain ⟨hb, hx⟩ := (show RepC φ H.n (.ptr b i j) _ from he)
    obtain ⟨k, hk, h⟩ := onv_iff.1 h
    obtain ⟨tk, ht, h⟩ := onv_iff.1 h
    have hc := hH.cells b k hk
    cases tk with
    | cell =>
      obtain ⟨e, h1, h⟩ := onv_iff.1 h
      obtain ⟨y, h2, h⟩ := onv_iff.1 h
      obtain ⟨u, h3, h4⟩ := hc.cell i e h1 j y h2
      refine ⟨.c y, u, h, h4, fun w' hb' => ?_⟩
      simp [execOp, ho, hx, Instr.loadAt, Instr.sureAddr, run_loadVar_cell (tyK_cell ht) (cell_keep hb' h3)]
    | obj n =>
      obtain ⟨rfl, rfl, h⟩ := h
      obtain ⟨e, h1, h⟩ := onv_iff.1 h
      obtain ⟨vs, h3, h4⟩ := hc.elem h1
      refine ⟨.agg e, .agg vs.toArray, h, ⟨vs, rfl, h3⟩, fun w' hb' => ?_⟩
      obtain ⟨fs, inf, g1, g2, g3⟩ := tyK_obj ht
      have hl : vs.length = k.esz := by rw [h3.length]; exact hc.len i e h1
      have := run_loadAt_mid (P := P) w' (φ b).blk ((φ b).off + i * (φ b).esz + 0) t vs _ (fun j v hv => by
        have := cell_keep hb' (h4 j v hv)
        simpa [Place.adr] using this) g1 rfl (by simp [g2, g3, hl])
      simp only [execOp, ho, hx, Place.adr, Sem.run_bind, this, Result.andThen_ok, Sem.run_pure]
    | arr n =>
      obtain ⟨rfl, h1, h2, h⟩ := h
      obtain ⟨vs, h3, h4, h5⟩ := hc.rowOf n i h2
      refine ⟨_, .agg vs.toArray, h, ⟨vs, rfl, h3⟩, fun w' hb' => ?_⟩
      obtain ⟨e, inf, g1, g2, g3, _⟩ := tyK_arr ht
      have := run_loadAt_mid (P := P) w' (φ b).blk ((φ b).off + i * (φ b).esz + 0) t vs _ (fun j v hv => by
        have := cell_keep hb' (h5 j v hv)
        simpa [Place.adr] using this) g1 rfl (by simp [g2, g3, h4, h1])
      simp only [execOp, ho, hx, Place.adr, Sem.run_bind, this, Result.andThen_ok, Sem.run_pure]
  · exact h.elim

theorem y_fieldAddr {o : Oper} {t : TypeId} {x : Operand} {f : Nat} {K : AV → Prop} (ho : o.op = .fieldAddr t x f) (hF : FRep φ H.n F a.tmps) (h : apure P H F (.fieldAddr t x f) K) :
    ∃ v u, K v ∧ RepV φ H.n v u ∧ YieldsAll P a o u := by
  simp only [apure] at h
  obtain ⟨v, hv, h⟩ := onv_iff.1 h
  have he := eval_of hF hv
  split at h
  · rename_i b i j
    obtain ⟨hb, hx⟩ := (show RepC φ H.n (.ptr b i j) _ from he)
    obtain ⟨off, h1, h⟩ := onv_iff.1 h
    obtain ⟨fs, g, g1, g2, g3, rfl⟩ := fldK_some h1
    obtain ⟨d, inf, e1, e2, e3, e4⟩ := underlying_of_cellT g3
    refine ⟨_, _, h, ⟨hb, rfl⟩, fun w' => ?_⟩
    simp [execOp, ho, hx, Instr.fieldAt, Instr.sureAddr, run_underlying g1, g2, fieldPlace, sizeOf, typeInfo, e2, e3, adr_add]
  · exact h.elim

theorem y_indexAddr {o : Oper} {t : TypeId} {x ix : Operand} {K : AV → Prop} (ho : o.op = .indexAddr t x ix) (hH : HRep φ B H w) (hF : FRep φ H.n F a.tmps) (h : apure P H F (.indexAddr t x ix) K) :
    ∃ v u, K v ∧ RepV φ H.n v u ∧ YieldsAll P a o u := by
  simp only [apure] at h
  obtain ⟨v, hv, h⟩ := onv_iff.1 h
  obtain ⟨m, hm, h⟩ := onv_iff.1 h
  have he := eval_of hF hv
  obtain ⟨ik, hi⟩ := asI_of hF hm
  split at h
  · rename_i b i n _
    obtain ⟨hb, ad, cap, hx, hn, hcap, had⟩ := (show RepC φ H.n (.sl b i n) _ from he)
    obtain ⟨k, hk, h⟩ := onv_iff.1 h
    obtain ⟨s, hs, h1, h2, h3, h⟩ := onv_iff.1 h
    obtain ⟨inf, g1, g2, g3, _⟩ := slK_some hs
    have hc := hH.cells b k hk
    rw [had (by omega)] at hx
    refine ⟨_, _, h, ⟨hb, rfl⟩, fun w' => ?_⟩
    simp [execOp, ho, hx, hi, Instr.indexAt, asIntOf, run_underlying g1, sizeOf, typeInfo, g2, g3, h2, h3, h1, ← hc.esz, adr_row]
  · rename_i b i j _
    obtain ⟨hb, hx⟩ := (show RepC φ H.n (.ptr b i j) _ from he)
    obtain ⟨k, hk, h⟩ := onv_iff.1 h
    obtain ⟨n, hn, rfl, h1, h2, h3, h⟩ := onv_iff.1 h
    obtain ⟨e, inf, g1, g2, g3, g4⟩ := tyK_arr (arrK_some hn)
    obtain ⟨d, inf', e1, e2, e3, _⟩ := underlying_of_cellT g4
    have hc := hH.cells b k hk
    have e1' : (φ b).esz = 1 := by rw [hc.esz, h1]
    refine ⟨_, _, h, ⟨hb, rfl⟩, fun w' => ?_⟩
    have := adr_row (φ b) i m.toNat
    rw [e1', Nat.mul_one] at this
    simp [execOp, ho, hx, hi, Instr.indexAt, Instr.sureAddr, asIntOf, run_underlying g1, sizeOf, typeInfo, e2, e3, h2, h3, this]
  · exact h.elim

theorem y_small {o : Oper} {op : Op} {K : AV → Prop} (ho : o.op = op) (hF : FRep φ H.n F a.tmps) (h : apure P H F op K)
    (hs : (∃ x, op = .move x) ∨ (∃ x, op = .assign x) ∨ (∃ c x y, op = .pick c x y) ∨ (∃ x i, op = .extract x i) ∨ (∃ u t x, op = .unOp u t x) ∨ (∃ x, op = .nilCheck x)) :
    ∃ v u, K v ∧ RepV φ H.n v u ∧ YieldsAll P a o u := by
  rcases hs with ⟨x, rfl⟩ | ⟨x, rfl⟩ | ⟨c, x, y, rfl⟩ | ⟨x, i, rfl⟩ | ⟨u, t, x, rfl⟩ | ⟨x, rfl⟩
  · obtain ⟨v, hv, h⟩ := onv_iff.1 (show onv (opnd F x) K from h)
    exact ⟨v, _, h, eval_of hF hv, fun w' => by simp [execOp, ho]⟩
  · obtain ⟨v, hv, h⟩ := onv_iff.1 (show onv (opnd F x) K from h)
    exact ⟨v, _, h, eval_of hF hv, fun w' => by simp [execOp, ho]⟩
  · simp only [apure] at h
    obtain ⟨v, hv, h⟩ := onv_iff.1 h
    have he := eval_of hF hv
    split at h
    · rename_i t
      have hc : a.eval c = .bool t := he
      cases t with
      | true =>
        obtain ⟨v, hv, h⟩ := onv_iff.1 (h.1 rfl)
        exact ⟨v, _, h, eval_of hF hv, fun w' => by simp [execOp, ho, hc, asBool]⟩
      | false =>
        obtain ⟨v, hv, h⟩ := onv_iff.1 (h.2 rfl)
        exact ⟨v, _, h, eval_of hF hv, fun w' => by simp [execOp, ho, hc, asBool]⟩
    · exact h.elim
  · simp only [apure] at h
    obtain ⟨v, hv, h⟩ := onv_iff.1 h
    have he := eval_of hF hv
    split at h
    · rename_i xs
      obtain ⟨vs, hx, hr⟩ := he
      obtain ⟨y, hy, h⟩ := onv_iff.1 h
      obtain ⟨u, h1, h2⟩ := hr.get i y hy
      refine ⟨y, u, h, ?_, fun w' => by simp [execOp, ho, hx, Instr.extract, h1]⟩
      cases y with
      | c x => exact h2
      | agg xs => exact h2
      | tup xs => exact h2.elim
    · exact h.elim
  · simp only [apure] at h
    obtain ⟨v, hv, h⟩ := onv_iff.1 h
    have he := eval_of hF hv
    unfold aun at h
    split at h
    · rename_i b _
      exact ⟨_, _, h, rfl, fun w' => by simp [execOp, ho, show a.eval x = .bool b from he, Op.unary]⟩
    · rename_i k n _
      exact ⟨_, _, h, rfl, fun w' => by simp [execOp, ho, show a.eval x = .int k n from he, Op.unary, Op.intArith]⟩
    · exact h.elim
  · simp only [apure] at h
    obtain ⟨v, hv, h⟩ := onv_iff.1 h
    have he := eval_of hF hv
    split at h
    · rename_i b i j
      obtain ⟨hb, hx⟩ := (show RepC φ H.n (.ptr b i j) _ from he)
      exact ⟨_, _, h, ⟨hb, hx⟩, fun w' => by simp [execOp, ho, hx]⟩
    · rename_i f bs
      obtain ⟨hb, hx⟩ := (show RepC φ H.n (.fn f bs) _ from he)
      exact ⟨_, _, h, ⟨hb, hx⟩, fun w' => by simp [execOp, ho, hx]⟩
    · exact h.elim

end
end Go.Proofs.YtafenginfojcmaaGreatDoor
