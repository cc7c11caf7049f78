/- The abstract machine, part I: operations that make or write memory, and calls, do in the model what they do abstractly. No program is named here. -/
import Derived.Test.YtafenginfojcmaaGreatDoorAbsH
namespace Go.Proofs.YtafenginfojcmaaGreatDoor
open Go.RowKit

section
variable {P : Program} {φ : Nat → Place} {H : AHeap} {F : AFrame} {a : Act} {B : Bd} {w : World}

/-- what is to be shown of each operation -/
def EffOk (P : Program) (φ : Nat → Place) (B : Bd) (H : AHeap) (w : World) (a : Act) (o : Oper) (K : AV → AHeap → Prop) : Prop :=
  ∀ (next : Act → World → Prop) (Q : Exit → Act → World → Prop),
    (∀ v u φ' H' w', K v H' → RepV φ' H'.n v u → HRep φ' B H' w' → Kept B w w' → H.n ≤ H'.n → (∀ b, b < H.n → φ' b = φ b) → next (a.put o.dst u) w') → o.wp P a w next Q

theorem EffOk.of_value {o : Oper} {K : AV → AHeap → Prop} {v : AV} {u : Value} {φ' : Nat → Place} {H' : AHeap} {w' : World} (hr : (execOp a.eval o).run P w = .ok (.value u) w') (hK : K v H') (hv : RepV φ' H'.n v u)
    (hH : HRep φ' B H' w') (hb : Kept B w w') (hn : H.n ≤ H'.n) (ha : ∀ b, b < H.n → φ' b = φ b) : EffOk P φ B H w a o K := by
  intro next Q h
  unfold Oper.wp
  rw [hr, Oper.upon_value]
  exact h v u φ' H' w' hK hv hH hb hn ha

theorem EffOk.of_skip {o : Oper} {K : AV → AHeap → Prop} {φ' : Nat → Place} {H' : AHeap} {w' : World} (hr : (execOp a.eval o).run P w = .ok .skip w') (hK : K (.tup []) H')
    (hH : HRep φ' B H' w') (hb : Kept B w w') (hn : H.n ≤ H'.n) (ha : ∀ b, b < H.n → φ' b = φ b) : EffOk P φ B H w a o K := by
  intro next Q h
  unfold Oper.wp
  rw [hr, Oper.upon_skip]
  exact h (.tup []) undef φ' H' w' hK ⟨[], rfl, trivial⟩ hH hb hn ha

theorem below_alloc (hH : HRep φ B H w) (o : Obj) : Kept B w (w.alloc o) := .of_below hH.size hH.tlt ((Below.refl _ _).alloc (Nat.le_refl _) o)

theorem e_alloc {o : Oper} {t : TypeId} {K : AV → AHeap → Prop} (ho : o.op = .alloc t) (hH : HRep φ B H w) (h : aeff P H F (.alloc t) K) : EffOk P φ B H w a o K := by
  simp only [aeff] at h
  obtain ⟨tk, ht, h⟩ := onv_iff.1 h
  obtain ⟨z, hz, hl, h⟩ := onv_iff.1 h
  obtain ⟨i, zv, g1, g2, g3, g4⟩ := zeroK_some hz
  obtain ⟨p, hp, hadr⟩ := hH.box (tk := tk) (t := t) (ofCs_rep g4) hl
  have hr : (execOp a.eval o).run P w = .ok (.value (.pointer (some ⟨w.heap.size, 0, none⟩))) (w.alloc (.cells zv.cells.toList.toArray t)) := by
    simp [execOp, ho, Instr.alloc, zeroValue, typeInfo, g1, g2, newVar, newRow]
  refine EffOk.of_value hr h ⟨Nat.lt_succ_self _, ?_⟩ hp (below_alloc hH _) (Nat.le_succ _) updP_old
  rw [updP_new, hadr]

theorem e_box {o : Oper} {t : TypeId} {x : Operand} {K : AV → AHeap → Prop} (ho : o.op = .box t x) (hH : HRep φ B H w) (hF : FRep φ H.n F a.tmps) (h : aeff P H F (.box t x) K) : EffOk P φ B H w a o K := by
  simp only [aeff] at h
  obtain ⟨tk, ht, h⟩ := onv_iff.1 h
  obtain ⟨v, hv, h⟩ := onv_iff.1 h
  obtain ⟨cs, hcs, hl, h⟩ := onv_iff.1 h
  have he := eval_of hF hv
  have key : ∃ vs : List Value, (a.eval x).cells = vs.toArray ∧ RepL φ H.n cs vs := by
    cases v with
    | c y =>
      simp [cellsA] at hcs; subst hcs
      exact ⟨[a.eval x], RepC.cells_eq (show RepC φ H.n y _ from he), ⟨he, trivial⟩⟩
    | agg ys =>
      simp [cellsA] at hcs; subst hcs
      obtain ⟨vs, h1, h2⟩ := (show Rep1 φ H.n (.agg ys) _ from he)
      exact ⟨vs, by rw [h1]; rfl, h2⟩
    | tup _ => cases hcs
  obtain ⟨vs, h1, h2⟩ := key
  obtain ⟨p, hp, hadr⟩ := hH.box (tk := tk) (t := t) h2 hl
  have hr : (execOp a.eval o).run P w = .ok (.value (.pointer (some ⟨w.heap.size, 0, none⟩))) (w.alloc (.cells vs.toArray t)) := by
    simp [execOp, ho, Instr.box, newVar, newRow, h1]
  refine EffOk.of_value hr h ⟨Nat.lt_succ_self _, ?_⟩ hp (below_alloc hH _) (Nat.le_succ _) updP_old
  rw [updP_new, hadr]

/-- a store of cells into an own block, run -/
theorem run_store_own {t : TypeId} {b i j : Nat} {k : ABlk} {xs : List AC} {vs : List Value} {v : Value} {inf : TypeInfo} (hH : HRep φ B H w) (hk : H.b b = some k) (hro : k.ro = false) (hel : i < k.els.length) (hi : P.info? t = some inf)
    (hv : v.cells = vs.toArray) (hr : RepL φ H.n xs vs) (hs : inf.size = xs.length) (hj : j + xs.length ≤ k.esz ∨ (k.esz = 1 ∧ i = 0 ∧ j = 0 ∧ xs.length = k.els.length)) :
    ∃ cs fz, w.heap[(φ b).blk]? = some (.cells cs k.ty fz) ∧ CellsRep φ H.n k.esz k.els cs ∧ k.els.length * k.esz ≤ cs.size ∧
      (storeVar t ((φ b).adr i j) v).run P w = .ok () (w.setCells (φ b).blk (i * k.esz + j) vs) := by
  have hc := hH.cells b k hk
  have hcap : 0 < (φ b).cap := by have := hc.cap; omega
  have hown := hH.own b k hk hro hcap
  obtain ⟨cs, fz, h1, h2, h3, h4⟩ := hown.row
  have hlen := hr.length
  have hsz : k.els.length * k.esz ≤ cs.size := by rw [h2, hc.esz]; exact Nat.mul_le_mul_right _ hc.cap
  refine ⟨cs, fz, h1, CellsRep.of_b h1 hown.off hc, hsz, ?_⟩
  have hin : i * k.esz + j + vs.length ≤ cs.size := by
    have := Nat.mul_le_mul_right k.esz (show i + 1 ≤ k.els.length from hel)
    rw [Nat.add_mul, Nat.one_mul] at this
    rcases hj with hj | ⟨hj1, hj2, hj3, hj4⟩
    · omega
    · rw [hj1] at hsz ⊢; omega
  have hadr : (φ b).adr i j = ⟨(φ b).blk, i * k.esz + j, none⟩ := by simp [Place.adr, hown.off, hc.esz]
  have hst := run_storeCells_cells (P := P) (φ b).blk (i * k.esz + j) vs 0 w (fun m hm => by
      rw [cell_row h1, Array.getElem?_eq_getElem (by omega)]; rfl) (fun m hm => by
      simp only [World.frozen?, h1, Bool.and_eq_false_iff, decide_eq_false_iff_not]
      have := h4 (i * k.esz + j + 0 + m) (by omega)
      omega) hr.one
  rw [hadr]
  simp only [Nat.add_zero] at hst
  simp [storeVar, sizeOf, typeInfo, hi, hv, hs, hlen, hst]

theorem e_store {o : Oper} {t : TypeId} {x y : Operand} {K : AV → AHeap → Prop} (ho : o.op = .store t x y) (hH : HRep φ B H w) (hF : FRep φ H.n F a.tmps) (h : aeff P H F (.store t x y) K) : EffOk P φ B H w a o K := by
  simp only [aeff] at h
  obtain ⟨av, hav, h⟩ := onv_iff.1 h
  obtain ⟨xv, hxv, h⟩ := onv_iff.1 h
  obtain ⟨tk, htk, h⟩ := onv_iff.1 h
  have hea := eval_of hF hav
  have hex := eval_of hF hxv
  have fin : ∀ {b i j : Nat} {k k' : ABlk} {xs : List AC} {vs : List Value} {inf : TypeInfo}, a.eval x = .pointer (some ((φ b).adr i j)) → H.b b = some k → k.ro = false → i < k.els.length → P.info? t = some inf →
      (a.eval y).cells = vs.toArray → RepL φ H.n xs vs → inf.size = xs.length → (j + xs.length ≤ k.esz ∨ (k.esz = 1 ∧ i = 0 ∧ j = 0 ∧ xs.length = k.els.length)) →
      k'.ty = k.ty → k'.fz = k.fz → k'.ro = false → k'.esz = k.esz → k'.els.length = k.els.length →
      (∀ cs, CellsRep φ H.n k.esz k.els cs → k.els.length * k.esz ≤ cs.size → CellsRep φ H.n k.esz k'.els (over cs (i * k.esz + j) vs)) →
      K (.tup []) (H.set b k') → EffOk P φ B H w a o K := by
    intro b i j k k' xs vs inf hx hk hro hel hi hv hr hs hj e1 e2 e3 e4 e5 hcr hK
    obtain ⟨cs, fz, h1, h2, h3, h4⟩ := run_store_own (P := P) (v := a.eval y) hH hk hro hel hi hv hr hs hj
    obtain ⟨g1, g2, g3, g4, g5, g6⟩ := setCells_block (φ b).blk vs (i * k.esz + j) w cs k.ty fz h1
    have hc := hH.cells b k hk
    have hcap : 0 < (φ b).cap := by have := hc.cap; omega
    have hown := hH.own b k hk hro hcap
    have hrun : (execOp a.eval o).run P w = .ok .skip (w.setCells (φ b).blk (i * k.esz + j) vs) := by
      simp [execOp, ho, hx, Instr.storeAt, Instr.sureAddr, h4]
    refine EffOk.of_skip hrun hK (hH.stored hk hro hcap e1 e2 e3 g3 g2 g1 ⟨cs, h1, over_size _ _ _⟩ ⟨⟨g4, g5, g6, Nat.le_of_eq g3.symm, fun c hc' => g2 c (by have := hown.base; omega)⟩, fun c hc' => g2 c fun e => hown.out (e ▸ hc')⟩ ?_) ⟨⟨g4, g5, g6, Nat.le_of_eq g3.symm, fun c hc' => g2 c (by have := hown.base; omega)⟩, fun c hc' => g2 c fun e => hown.out (e ▸ hc')⟩ (Nat.le_refl _) (fun _ _ => rfl)
    exact BCells.of_row g1 hown.off (by rw [hc.esz, e4]) (by rw [e5]; exact hc.cap) (by rw [e4]; exact hcr cs h2 h3)
  split at h
  · rename_i b i j v _ _
    obtain ⟨hb, hx⟩ := (show RepC φ H.n (.ptr b i j) _ from hea)
    obtain ⟨k, hk, h⟩ := onv_iff.1 h
    obtain ⟨e, he, h1, h2, h⟩ := onv_iff.1 h
    obtain ⟨d, inf, g1, g2, g3, _⟩ := tyK_cell htk
    have hv : RepC φ H.n v (a.eval y) := hex
    have hel : i < k.els.length := (List.getElem?_eq_some_iff.1 he).1
    have hle := (hH.cells b k hk).len i e he
    refine fin (k' := { k with els := k.els.set i (e.set j v) }) (xs := [v]) (vs := [a.eval y]) hx hk h1 hel g2 hv.cells_eq ⟨hv, trivial⟩ (by simp [g3]) (.inl (by simp; omega)) rfl rfl h1 rfl (by simp) (fun cs hcs hcz => ?_) h
    have := hcs.over (i := i) (j := j) (xs := [v]) (vs := [a.eval y]) he ⟨hv, trivial⟩ (by simp; omega) hcz
    have e1 : e.take j ++ [v] ++ e.drop (j + [v].length) = e.set j v := by
      rw [List.set_eq_take_append_cons_drop, if_pos h2]; simp
    rwa [e1] at this
  · rename_i b i j xs n _ _
    obtain ⟨hb, hx⟩ := (show RepC φ H.n (.ptr b i j) _ from hea)
    obtain ⟨k, hk, h1, h2, h3, h4, h5, hK⟩ := onv_iff.1 h
    obtain ⟨fs, inf, g1, g2, g3⟩ := tyK_obj htk
    obtain ⟨vs, hy, hr⟩ := (show Rep1 φ H.n (.agg xs) _ from hex)
    subst h2
    obtain ⟨e, he⟩ : ∃ e, k.els[i]? = some e := ⟨_, List.getElem?_eq_getElem h5⟩
    have hle := (hH.cells b k hk).len i e he
    refine fin (k' := { k with els := k.els.set i xs }) (xs := xs) (vs := vs) hx hk h1 h5 g2 (by rw [hy]; rfl) hr (by omega) (.inl (by omega)) rfl rfl h1 rfl (by simp) (fun cs hcs hcz => ?_) hK
    have := hcs.over (i := i) (j := 0) (xs := xs) (vs := vs) he hr (by omega) hcz
    have e1 : e.take 0 ++ xs ++ e.drop (0 + xs.length) = xs := by
      rw [List.drop_eq_nil_of_le (by omega)]; simp
    rwa [e1] at this
  · rename_i b i j xs n _ _
    obtain ⟨hb, hx⟩ := (show RepC φ H.n (.ptr b i j) _ from hea)
    obtain ⟨k, hk, h1, h2, h3, h4, h5, h6, hK⟩ := onv_iff.1 h
    obtain ⟨e, inf, g1, g2, g3, _⟩ := tyK_arr htk
    obtain ⟨vs, hy, hr⟩ := (show Rep1 φ H.n (.agg xs) _ from hex)
    subst h2; subst h3
    by_cases hn : n = 0
    · subst hn
      have hxs : xs = [] := List.eq_nil_of_length_eq_zero h5
      subst hxs
      have hvs : vs = [] := List.eq_nil_of_length_eq_zero hr.length
      subst hvs
      have hkl : k.els = [] := List.eq_nil_of_length_eq_zero h6
      have hrun : (execOp a.eval o).run P w = .ok .skip w := by
        simp [execOp, ho, hx, hy, Instr.storeAt, Instr.sureAddr, storeVar, sizeOf, typeInfo, g2, g3, Value.cells, storeCells]
      refine EffOk.of_skip hrun hK ?_ (Kept.refl _ _) (Nat.le_refl _) (fun _ _ => rfl)
      have : H.set b { k with els := ([] : List AC).map fun x => [x] } = H := by
        cases H
        simp only [AHeap.set, AHeap.mk.injEq, true_and, and_true]
        funext c
        split
        · rename_i hc; subst hc
          refine Eq.trans ?_ hk.symm
          cases k; simp at hkl; simp [hkl]
        · rfl
      rw [this]; exact hH
    · refine fin (k' := { k with els := xs.map fun x => [x] }) (xs := xs) (vs := vs) hx hk h1 (by omega) g2 (by rw [hy]; rfl) hr (by omega) (.inr ⟨h4, rfl, rfl, by omega⟩) rfl rfl h1 rfl (by simp; omega) (fun cs hcs hcz => ?_) hK
      rw [h4]
      intro i' e' hi'
      simp only [List.getElem?_map, Option.map_eq_some_iff] at hi'
      obtain ⟨x', h7, rfl⟩ := hi'
      refine ⟨rfl, fun j y hy' => ?_⟩
      cases j with
      | zero =>
        simp at hy'; subst hy'
        obtain ⟨v, h8, h9⟩ := hr.get i' x' h7
        refine ⟨v, ?_, h9⟩
        have hlen := hr.length
        rw [h4] at hcz
        have := over_in vs cs 0 i' v h8 (by omega)
        simpa using this
      | succ j => simp at hy'
  · exact h.elim

end
end Go.Proofs.YtafenginfojcmaaGreatDoor
