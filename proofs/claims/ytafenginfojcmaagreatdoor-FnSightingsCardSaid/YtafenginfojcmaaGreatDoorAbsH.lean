/- The abstract machine, part H: new rows, and stores. No program is named here. -/
import Derived.Test.YtafenginfojcmaaGreatDoorAbsG
namespace Go.Proofs.YtafenginfojcmaaGreatDoor
open Go.RowKit

section
variable {P : Program} {φ : Nat → Place} {H : AHeap} {F : AFrame} {a : Act} {B : Bd} {w : World}

/-- a row of concrete cells bears these elements -/
def CellsRep (φ : Nat → Place) (n esz : Nat) (els : List (List AC)) (cs : Array Value) : Prop :=
  ∀ (i : Nat) (e : List AC), els[i]? = some e → e.length = esz ∧ ∀ (j : Nat) (x : AC), e[j]? = some x → ∃ v, cs[i * esz + j]? = some v ∧ RepC φ n x v

theorem cell_row {g : Nat} {cs : Array Value} {t : TypeId} {fz : Nat × Nat} (h : w.heap[g]? = some (.cells cs t fz)) (k : Nat) : w.cell? ⟨g, k, none⟩ = cs[k]? := cell_of_row w g k cs t fz h

/-- a block over a row that is there -/
theorem BCells.of_row {n : Nat} {p : Place} {k : ABlk} {cs : Array Value} {t : TypeId} {fz : Nat × Nat} (h : w.heap[p.blk]? = some (.cells cs t fz)) (h0 : p.off = 0) (he : p.esz = k.esz) (hc : k.els.length ≤ p.cap)
    (hr : CellsRep φ n k.esz k.els cs) : BCells φ n p k w :=
  ⟨he, hc, fun i e hi => (hr i e hi).1, fun i e hi j x hx => by
    obtain ⟨v, hv, hx'⟩ := (hr i e hi).2 j x hx
    refine ⟨v, ?_, hx'⟩
    simp only [Place.adr, h0, he, Nat.zero_add]
    rw [cell_row h, hv]⟩

theorem CellsRep.of_b {n : Nat} {p : Place} {k : ABlk} {cs : Array Value} {t : TypeId} {fz : Nat × Nat} (h : w.heap[p.blk]? = some (.cells cs t fz)) (h0 : p.off = 0) (hb : BCells φ n p k w) : CellsRep φ n k.esz k.els cs :=
  fun i e hi => ⟨hb.len i e hi, fun j x hx => by
    obtain ⟨v, hv, hx'⟩ := hb.cell i e hi j x hx
    refine ⟨v, ?_, hx'⟩
    simp only [Place.adr, h0, hb.esz, Nat.zero_add] at hv
    rwa [cell_row h] at hv⟩

/-- A NEW ROW -/
theorem HRep.row (h : HRep φ B H w) {k : ABlk} {cs : Array Value} {cap : Nat} {w' : World} {fz : Nat × Nat} (hro : k.ro = false) (hb : Below w.heap.size w w')
    (hh : w'.heap[w.heap.size]? = some (.cells cs k.ty fz)) (hs : cs.size = cap * k.esz) (hc : k.els.length ≤ cap) (hm : cap ≤ maxLen)
    (hz : k.fz = false → fz = (0, 0)) (hz2 : ∀ o, o < cs.size → ¬ (fz.1 ≤ o ∧ o < fz.2)) (hr : CellsRep φ H.n k.esz k.els cs) :
    HRep (updP φ H.n ⟨w.heap.size, 0, k.esz, cap⟩) B (H.push k) w' := by
  refine (h.keep hb).push hro (BCells.of_row (p := ⟨w.heap.size, 0, k.esz, cap⟩) hh rfl rfl hc hr) (fun _ => ⟨h.size, fun ht => absurd (h.tlt _ ht) (Nat.lt_irrefl _), rfl, hm, cs, fz, hh, hs, hz, hz2⟩) fun _ b k' hk hr' hcap => ?_
  obtain ⟨cs', fz', h1, _⟩ := (h.own b k' hk hr' hcap).row
  have := (Array.getElem?_eq_some_iff.1 h1).1
  simp only
  omega

theorem HRep.allocRow (h : HRep φ B H w) {k : ABlk} {cs : Array Value} {cap : Nat} (hro : k.ro = false) (hs : cs.size = cap * k.esz) (hc : k.els.length ≤ cap) (hm : cap ≤ maxLen)
    (hr : CellsRep φ H.n k.esz k.els cs) : HRep (updP φ H.n ⟨w.heap.size, 0, k.esz, cap⟩) B (H.push k) (w.alloc (.cells cs k.ty)) :=
  h.row hro ((Below.refl _ _).alloc (Nat.le_refl _) _) (heap_alloc_new w _) hs hc hm (fun _ => rfl) (by omega) hr

theorem CellsRep.single {n : Nat} {xs : List AC} {vs : List Value} (h : RepL φ n xs vs) : CellsRep φ n xs.length [xs] vs.toArray := by
  intro i e hi
  cases i with
  | zero =>
    simp at hi; subst hi
    refine ⟨rfl, fun j x hx => ?_⟩
    obtain ⟨v, h1, h2⟩ := h.get j x hx
    exact ⟨v, by simpa using h1, h2⟩
  | succ i => simp at hi

theorem CellsRep.ones {n : Nat} {xs : List AC} {vs : List Value} (h : RepL φ n xs vs) : CellsRep φ n 1 (xs.map fun x => [x]) vs.toArray := by
  intro i e hi
  simp only [List.getElem?_map, Option.map_eq_some_iff] at hi
  obtain ⟨x, h1, rfl⟩ := hi
  refine ⟨rfl, fun j y hy => ?_⟩
  cases j with
  | zero =>
    simp at hy; subst hy
    obtain ⟨v, h2, h3⟩ := h.get i x h1
    exact ⟨v, by simpa using h2, h3⟩
  | succ j => simp at hy

theorem HRep.box (h : HRep φ B H w) {tk : TyK} {t : TypeId} {xs : List AC} {vs : List Value} (hr : RepL φ H.n xs vs) (hl : xs.length ≤ 1000000) :
    ∃ p, HRep (updP φ H.n p) B (H.push (boxK tk t xs)) (w.alloc (.cells vs.toArray t)) ∧ p.adr 0 0 = ⟨w.heap.size, 0, none⟩ := by
  have hlen := hr.length
  have hm : (1000000 : Nat) ≤ maxLen := by decide
  have h1 := h.allocRow (k := ⟨t, xs.length, false, false, [xs]⟩) (cs := vs.toArray) (cap := 1) rfl (by simp [hlen]) (by simp) (by simp [maxLen]) (CellsRep.single hr)
  have h2 := h.allocRow (k := ⟨t, 1, false, false, xs.map fun x => [x]⟩) (cs := vs.toArray) (cap := xs.length) rfl (by simp [hlen]) (by simp) (by omega) (CellsRep.ones hr)
  cases tk with
  | arr n => exact ⟨_, h2, by simp [Place.adr]⟩
  | cell => exact ⟨_, h1, by simp [Place.adr]⟩
  | obj n => exact ⟨_, h1, by simp [Place.adr]⟩

/-! ### writing cells one after the other -/
def over (cs : Array Value) : Nat → List Value → Array Value
  | _, [] => cs
  | o, v :: r => over (cs.setIfInBounds o v) (o + 1) r

theorem over_size : ∀ (vs : List Value) (cs : Array Value) (o : Nat), (over cs o vs).size = cs.size
  | [], _, _ => rfl
  | v :: r, cs, o => by rw [over, over_size r]; simp

theorem over_out : ∀ (vs : List Value) (cs : Array Value) (o k : Nat), (k < o ∨ o + vs.length ≤ k) → (over cs o vs)[k]? = cs[k]?
  | [], _, _, _, _ => rfl
  | v :: r, cs, o, k, h => by
    rw [over, over_out r _ _ _ (by simp only [List.length_cons] at h; omega)]
    rw [Array.getElem?_setIfInBounds_ne (by simp only [List.length_cons] at h; omega)]

theorem over_in : ∀ (vs : List Value) (cs : Array Value) (o j : Nat) (v : Value), vs[j]? = some v → o + vs.length ≤ cs.size → (over cs o vs)[o + j]? = some v
  | [], _, _, _, _, h, _ => by simp at h
  | u :: r, cs, o, 0, v, h, hs => by
    simp at h; subst h
    rw [over, over_out r _ _ _ (by omega), Nat.add_zero, Array.getElem?_setIfInBounds_self_of_lt (by simp only [List.length_cons] at hs; omega)]
  | u :: r, cs, o, j + 1, v, h, hs => by
    rw [over, show o + (j + 1) = o + 1 + j by omega]
    exact over_in r _ _ j v (by simpa using h) (by simp only [List.length_cons] at hs; simp; omega)

theorem setCells_block (b : Nat) : ∀ (vs : List Value) (o : Nat) (w : World) (cs : Array Value) (t : TypeId) (fz : Nat × Nat), w.heap[b]? = some (.cells cs t fz) →
    (w.setCells b o vs).heap[b]? = some (.cells (over cs o vs) t fz) ∧ (∀ c, c ≠ b → (w.setCells b o vs).heap[c]? = w.heap[c]?) ∧
      (w.setCells b o vs).heap.size = w.heap.size ∧ (w.setCells b o vs).os = w.os ∧ (w.setCells b o vs).tape = w.tape ∧ (w.setCells b o vs).output = w.output
  | [], _, w, cs, t, fz, h => ⟨h, fun _ _ => rfl, rfl, rfl, rfl, rfl⟩
  | v :: r, o, w, cs, t, fz, h => by
    have h1 : (w.setCell ⟨b, o, none⟩ v).heap[b]? = some (.cells (cs.setIfInBounds o v) t fz) := by
      simp [World.setCell, Array.getElem?_modify, h]
    obtain ⟨g1, g2, g3, g4, g5, g6⟩ := setCells_block b r (o + 1) _ _ _ _ h1
    refine ⟨g1, fun c hc => ?_, ?_, g4, g5, g6⟩
    · rw [World.setCells, g2 c hc]; simp [World.setCell, Array.getElem?_modify, Ne.symm hc]
    · rw [World.setCells, g3]; simp [World.setCell]

/-- A STORE into an own block -/
theorem HRep.stored (h : HRep φ B H w) {b : Nat} {k k' : ABlk} {w' : World} {cs' : Array Value} {fz : Nat × Nat} (hk : H.b b = some k) (hro : k.ro = false) (hcap : 0 < (φ b).cap)
    (e1 : k'.ty = k.ty) (e2 : k'.fz = k.fz) (e3 : k'.ro = false) (hsz : w'.heap.size = w.heap.size)
    (hoth : ∀ c, c ≠ (φ b).blk → w'.heap[c]? = w.heap[c]?) (hrow : w'.heap[(φ b).blk]? = some (.cells cs' k.ty fz))
    (hcs : ∃ cs, w.heap[(φ b).blk]? = some (.cells cs k.ty fz) ∧ cs'.size = cs.size) (hbl : Kept B w w') (hc : BCells φ H.n (φ b) k' w') : HRep φ B (H.set b k') w' := by
  have hown := h.own b k hk hro hcap
  have key : ∀ c k1, (H.set b k').b c = some k1 → (c = b ∧ k1 = k') ∨ (c ≠ b ∧ H.b c = some k1) := fun c k1 h1 => by
    simp only [AHeap.set] at h1
    split at h1
    · rename_i hc'; cases h1; exact .inl ⟨hc', rfl⟩
    · rename_i hc'; exact .inr ⟨hc', h1⟩
  have hne : ∀ c k1, c ≠ b → H.b c = some k1 → 0 < (φ c).cap → (φ c).blk ≠ (φ b).blk := fun c k1 hc' h1 hp he => by
    cases hr : k1.ro with
    | true => have := h.ro c k1 h1 hr hp; have := hown.base; omega
    | false => exact hc' (h.apart c k1 b k h1 hk hr hro hp hcap he)
  refine ⟨by rw [hsz]; exact h.size, by rw [hsz]; exact h.tlt, fun c k1 h1 => ?_, fun c k1 h1 => ?_, fun c k1 h1 hr hp => ?_, fun c k1 h1 hr hp => ?_, fun c1 k1 c2 k2 h1 h2 r1 r2 p1 p2 he => ?_, fun c k1 h1 => ?_, fun w'' h' => h.inv w'' (hbl.below.trans h')⟩
  · rcases key c k1 h1 with ⟨rfl, rfl⟩ | ⟨_, h2⟩
    · exact h.lt c k hk
    · exact h.lt c k1 h2
  · rcases key c k1 h1 with ⟨rfl, rfl⟩ | ⟨hc', h2⟩
    · exact hc
    · refine (h.cells c k1 h2).keep fun hp i j v hv => ?_
      rw [← hv]
      exact World.cell?_of_block (hoth _ (hne c k1 hc' h2 hp))
  · rcases key c k1 h1 with ⟨rfl, rfl⟩ | ⟨hc', h2⟩
    · obtain ⟨cs, g1, g2⟩ := hcs
      obtain ⟨cs0, fz0, f1, f2, f3, f4⟩ := hown.row
      rw [g1] at f1
      obtain ⟨rfl, _, rfl⟩ : cs = cs0 ∧ k.ty = k.ty ∧ fz = fz0 := by simpa using f1
      exact ⟨hown.base, hown.out, hown.off, hown.cap, cs', fz, by rw [e1]; exact hrow, by omega, fun hf => f3 (by rw [← e2]; exact hf), fun o ho => f4 o (by omega)⟩
    · exact (h.own c k1 h2 hr hp).keep (hoth _ (hne c k1 hc' h2 hp))
  · rcases key c k1 h1 with ⟨rfl, rfl⟩ | ⟨hc', h2⟩
    · rw [e3] at hr; cases hr
    · exact h.ro c k1 h2 hr hp
  · rcases key c1 k1 h1 with ⟨rfl, rfl⟩ | ⟨n1, g1⟩ <;> rcases key c2 k2 h2 with ⟨rfl, rfl⟩ | ⟨n2, g2⟩
    · rfl
    · exact absurd he.symm (hne c2 k2 n2 g2 p2)
    · exact absurd he (hne c1 k1 n1 g1 p1)
    · exact h.apart c1 k1 c2 k2 g1 g2 r1 r2 p1 p2 he
  · rcases key c k1 h1 with ⟨rfl, rfl⟩ | ⟨_, h2⟩
    · have h3 := hc.cap; have h4 := hown.cap; simp only [maxLen] at h4; omega
    · exact h.mx c k1 h2

theorem index_inj {esz i i' j j' : Nat} (h : i * esz + j = i' * esz + j') (hj : j < esz) (hj' : j' < esz) : i = i' ∧ j = j' := by
  have h1 : (i * esz + j) / esz = i := by rw [Nat.mul_comm, Nat.mul_add_div (by omega)]; simp [Nat.div_eq_of_lt hj]
  have h2 : (i' * esz + j') / esz = i' := by rw [Nat.mul_comm, Nat.mul_add_div (by omega)]; simp [Nat.div_eq_of_lt hj']
  have : i = i' := by rw [← h1, ← h2, h]
  subst this
  exact ⟨rfl, by omega⟩

/-- cells of one element are written over -/
theorem CellsRep.over {n esz : Nat} {els : List (List AC)} {cs : Array Value} (h : CellsRep φ n esz els cs) {i j : Nat} {e xs : List AC} {vs : List Value} (he : els[i]? = some e) (hx : RepL φ n xs vs)
    (hj : j + xs.length ≤ esz) (hs : els.length * esz ≤ cs.size) : CellsRep φ n esz (els.set i (e.take j ++ xs ++ e.drop (j + xs.length))) (over cs (i * esz + j) vs) := by
  have hlen := hx.length
  have hel := (h i e he).1
  have hil : i < els.length := (List.getElem?_eq_some_iff.1 he).1
  intro i' e' hi'
  have hi1 : (i + 1) * esz ≤ els.length * esz := Nat.mul_le_mul_right _ hil
  rw [Nat.add_mul, Nat.one_mul] at hi1
  by_cases hii : i = i'
  · subst hii
    rw [List.getElem?_set_self hil] at hi'
    cases hi'
    refine ⟨by simp [List.length_take, List.length_drop]; omega, fun j' x hx' => ?_⟩
    by_cases h1 : j' < j
    · have : e[j']? = some x := by
        rw [List.append_assoc, List.getElem?_append_left (by simp [List.length_take]; omega), List.getElem?_take, if_pos h1] at hx'
        exact hx'
      obtain ⟨v, hv, hr⟩ := (h i e he).2 j' x this
      exact ⟨v, by rw [over_out _ _ _ _ (by omega)]; exact hv, hr⟩
    · by_cases h2 : j' < j + xs.length
      · have : xs[j' - j]? = some x := by
          rw [List.append_assoc, List.getElem?_append_right (by simp [List.length_take]; omega), List.length_take, Nat.min_eq_left (by omega), List.getElem?_append_left (by omega)] at hx'
          exact hx'
        obtain ⟨v, hv, hr⟩ := hx.get _ x this
        refine ⟨v, ?_, hr⟩
        have := over_in vs cs (i * esz + j) (j' - j) v hv (by omega)
        rwa [show i * esz + j + (j' - j) = i * esz + j' by omega] at this
      · have : e[j']? = some x := by
          rw [List.getElem?_append_right (by simp [List.length_take]; omega)] at hx'
          simp only [List.length_append, List.length_take, List.getElem?_drop] at hx'
          rw [Nat.min_eq_left (by omega)] at hx'
          rwa [show j + xs.length + (j' - (j + xs.length)) = j' by omega] at hx'
        obtain ⟨v, hv, hr⟩ := (h i e he).2 j' x this
        exact ⟨v, by rw [over_out _ _ _ _ (by omega)]; exact hv, hr⟩
  · rw [List.getElem?_set_ne hii] at hi'
    refine ⟨(h i' e' hi').1, fun j' x hx' => ?_⟩
    obtain ⟨v, hv, hr⟩ := (h i' e' hi').2 j' x hx'
    have hj' : j' < esz := by have := (List.getElem?_eq_some_iff.1 hx').1; have := (h i' e' hi').1; omega
    refine ⟨v, ?_, hr⟩
    rw [over_out _ _ _ _ ?_]
    · exact hv
    · rcases Nat.lt_or_gt_of_ne hii with hlt | hlt
      · right
        have := Nat.mul_le_mul_right esz (show i + 1 ≤ i' by omega)
        rw [Nat.add_mul, Nat.one_mul] at this
        omega
      · left
        have := Nat.mul_le_mul_right esz (show i' + 1 ≤ i by omega)
        rw [Nat.add_mul, Nat.one_mul] at this
        omega

end
end Go.Proofs.YtafenginfojcmaaGreatDoor
