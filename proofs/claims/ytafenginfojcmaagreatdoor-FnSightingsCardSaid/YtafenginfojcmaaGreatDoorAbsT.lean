/- Regions that draw their order: a head that only reads (and calls what only reads), then a tail whose order is fixed, since each of its operations waits for the one before. No program is named here. -/
import Derived.StillTail
import Derived.Deep.Quiet
namespace Go.Proofs.YtafenginfojcmaaGreatDoor
open Go

section
variable {P : Program} {ops : Array Oper} {md : Region.Mode} {C : World → Prop}

/-- the head's operations in whatever order, then L -/
def headAny (P : Program) (md : Region.Mode) (ops : Array Oper) (C : World → Prop) (n : Nat) (L : Array Bool → Act → Prop) : Nat → Array Bool → Act → Prop
  | 0, seen, a => L seen a
  | f + 1, seen, a => Region.ready md ops seen ≠ [] ∧ ∀ i ∈ Region.ready md ops seen, i < n ∧ qOp P ops C i (headAny P md ops C n L f (seen.setIfInBounds i true)) a

theorem headAny_wpAny {n g : Nat} {L : Array Bool → Act → Prop} {Q : Exit → Act → World → Prop} (hL : ∀ seen a w, C w → L seen a → wpAny P md ops Q g seen a w) :
    ∀ (f : Nat) (seen : Array Bool) (a : Act) (w : World), C w → headAny P md ops C n L f seen a → wpAny P md ops Q (f + g) seen a w
  | 0, seen, a, w, hw, h => by rw [Nat.zero_add]; exact hL _ _ _ hw h
  | f + 1, seen, a, w, hw, h => by
    rw [Nat.add_right_comm]
    refine ⟨fun h0 => (h.1 h0).elim, fun i hi => ?_⟩
    exact wpOp_of_qOp hw (fun a' w' hw' h' => headAny_wpAny hL f _ a' w' hw' h') (h.2 i hi).2

theorem not_waiting {seen : Array Bool} {i : Nat} {o : Oper} (hun : seen.getD i true = false) (hall : ∀ e ∈ o.after, Region.binds md e = true → seen.getD e.on false = true) : ∀ e ∈ o.after, Region.binds md e = true → e.on ≠ i := by
  intro e he hb heq
  have h1 := hall e he hb
  rw [heq, getD_both hun] at h1
  exact Bool.noConfusion h1

theorem headAny_first {n i : Nat} {o : Oper} {v : Value} {L : Array Bool → Act → Prop} (hi : ops[i]? = some o) (hsel : ∀ (j : Nat) (o : Oper) cs b, ops[j]? = some o → o.op ≠ .select cs b)
    (hs : Region.sinkB md ops n = true) (hc : Region.chainB md ops n = true) (hn : n < ops.size) (hin : i < n) (hdone : ∀ seen a, L seen a → ∀ j ∈ Region.ready md ops seen, n ≤ j) (f : Nat) :
    ∀ (seen : Array Bool) (a : Act), HeadInv md ops n seen →
      (∀ j oj, ops[j]? = some oj → j ≠ i → seen.getD j true = false → (∀ e ∈ oj.after, Region.binds md e = true → e.on ≠ i) → o.apart ops oj = true) →
      i ∈ Region.ready md ops seen → YieldsIn P ops C o v a →
      headAny P md ops C n L f (seen.setIfInBounds i true) (a.put o.dst v) → headAny P md ops C n L (f + 1) seen a := by
  have low : ∀ {seen : Array Bool}, HeadInv md ops n seen → i ∈ Region.ready md ops seen → ∀ j ∈ Region.ready md ops seen, j < n := fun {seen} inv hr j hj => by
    rcases Nat.lt_or_ge j n with h | h
    · exact h
    · exact (tail_waits hs hc hn inv _ i rfl hin (mem_ready.1 hr).1 j h hj).elim
  have some_ready : ∀ {seen : Array Bool}, i ∈ Region.ready md ops seen → Region.ready md ops seen ≠ [] := fun {seen} hr h => by rw [h] at hr; cases hr
  induction f with
  | zero =>
    intro seen a inv _ hr hy H
    refine ⟨some_ready hr, fun j hj => ⟨low inv hr j hj, ?_⟩⟩
    rcases Decidable.em (j = i) with e | e
    · rw [e]; exact hy.qOp hi H
    · have h1 := hdone _ _ H j (ready_mono hj e)
      have h2 := low inv hr j hj
      omega
  | succ f ih =>
    intro seen a inv hfree hr hy H
    refine ⟨some_ready hr, fun j hj => ⟨low inv hr j hj, ?_⟩⟩
    rcases Decidable.em (j = i) with e | e
    · rw [e]; exact hy.qOp hi H
    · obtain ⟨hjun, oj, hoj, hall⟩ := mem_ready.1 hj
      have hno := not_waiting (mem_ready.1 hr).1 hall
      have h2 := qOp_put hoj (hfree j oj hoj e hjun hno) (fun cs b => hsel i o cs b hi) (fun cs b => hsel j oj cs b hoj) hy (H.2 j (ready_mono hj e)).2
      refine qOp_mono (fun a' h3 => ih _ a' (inv.set hj (low inv hr j hj)) (fun k ok hk hki hun hkn => hfree k ok hk hki ?_ hkn) (ready_mono hr (Ne.symm e)) h3.1 ?_) h2
      · rcases Decidable.em (j = k) with ejk | ejk
        · rw [← ejk]; exact hjun
        · rw [getD_set_ne true ejk] at hun; exact hun
      · rw [Array.setIfInBounds_comm _ _ e]
        exact h3.2

theorem headAny_text {n g : Nat} {K : Act → Prop} (hsel : Region.noSelect ops = true) (hs : Region.sinkB md ops n = true) (hc : Region.chainB md ops n = true) (hn : n < ops.size) :
    ∀ (l : List Oper) (k : Nat) (seen : Array Bool) (a : Act), (∀ j, j < l.length → l[j]? = ops[k + j]?) → k + l.length = n → HeadInv md ops n seen →
    Region.lexHead md ops g l.length k seen = true → wpQuiet P ops C K l a →
    headAny P md ops C n (fun seen' a' => Region.seqB md ops g n seen' = true ∧ K a') l.length seen a
  | [], k, seen, a, _, hk, _, hB, h => by
    have e : k = n := by simpa using hk
    rw [e] at hB
    exact ⟨by simpa [Region.lexHead] using hB, h⟩
  | o :: l, k, seen, a, hl, hk, inv, hB, h => by
    have h0 : ops[k]? = some o := by have := hl 0 (Nat.zero_lt_succ _); simpa using this.symm
    simp only [List.length_cons, Region.lexHead, Bool.and_eq_true] at hB
    have hkn : k < n := by simp only [List.length_cons] at hk; omega
    have hr : k ∈ Region.ready md ops seen := by simpa using hB.1.1
    have hst : qOp P ops C k (wpQuiet P ops C K l) a := by unfold qOp; simp only [h0]; exact h
    obtain ⟨v, hy, hK⟩ := yieldsIn_of_qOp h0 hst
    refine headAny_first h0 (Region.noSelect_spec hsel) hs hc hn hkn (fun seen' a' hL => seqB_ready hL.1) l.length seen a inv (Region.free_spec h0 hB.1.2) hr hy ?_
    refine headAny_text hsel hs hc hn l (k + 1) _ _ (fun j hj => ?_) (by simp only [List.length_cons] at hk; omega) (inv.set hr hkn) hB.2 hK
    have := hl (j + 1) (by simp only [List.length_cons]; omega)
    rw [List.getElem?_cons_succ] at this
    rw [this]; congr 1; omega

/-- A HEAD THAT ONLY READS, A TAIL IN ORDER -/
theorem wp_region_head {id : Nat} {Q : Exit → Act → World → Prop} {a : Act} {w : World} (n : Nat) (hm : P.follows .mixedOrders = true) (hB : Region.lexTailB .any ops n = true) (hC : C { w with drawn := w.drawn + 1 })
    (h : wpQuiet P ops C (fun a' => ∀ w', C w' → wpList P ops Q (ops.toList.drop n) a' w') (ops.toList.take n) a) : (Code.region id ops true).wp P Q a w := by
  simp only [Region.lexTailB, Bool.and_eq_true, decide_eq_true_eq] at hB
  obtain ⟨⟨⟨⟨hsel, hn⟩, hs⟩, hc⟩, hlex⟩ := hB
  have htl : (ops.toList.take n).length = n := by simp; omega
  have hdl : (ops.toList.drop n).length = ops.size - n := by simp
  have inv0 : HeadInv .any ops n (Array.replicate ops.size false) :=
    ⟨Array.size_replicate, fun j oj _ hl => by rw [getD_replicate_false] at hl; exact Bool.noConfusion hl, fun t _ ht => getD_in (by simpa using ht) (getD_replicate_false _ _)⟩
  have H := headAny_text (C := C) (md := .any) (g := ops.size - n) hsel hs hc hn (ops.toList.take n) 0 _ a (fun j hj => by
    have hj' : j < n := by rw [htl] at hj; exact hj
    simp [hj']) (by rw [htl, Nat.zero_add]) inv0 (by rw [htl]; exact hlex) h
  refine wp_region_any hm ?_
  have h1 := headAny_wpAny (Q := Q) (g := ops.size - n) (fun seen a' w' hw' hL => by
    have h2 := wpAny_of_seq (md := .any) (Q' := Q) (ops.toList.drop n) n seen a' w' (fun j => by simp [List.getElem?_drop]) (by rw [hdl]; exact hL.1) (hL.2 w' hw')
    rwa [hdl] at h2) _ _ _ _ hC H
  rw [htl, show n + (ops.size - n) = ops.size by omega] at h1
  exact h1
end
end Go.Proofs.YtafenginfojcmaaGreatDoor
