/- From a law's contract to its statement: arguments read as data stand as read-only blocks. No program is named here. -/
import Derived.Test.YtafenginfojcmaaGreatDoorAbsQ
import Derived.ProofKit
import Derived.Deep.Slices
import Derived.Deep.Fields
import Derived.ChangeSame
namespace Go.Proofs.YtafenginfojcmaaGreatDoor
open Go.RowKit

def H0 (I : World → Prop) : AHeap := ⟨0, fun _ => none, I⟩
theorem hrep0 (φ : Nat → Place) (w : World) {I : World → Prop} (hI : ∀ w', Below w.heap.size w w' → I w') : HRep φ ⟨w.heap.size, fun _ => False⟩ (H0 I) w where
  size := Nat.le_refl _
  tlt _ h := h.elim
  lt b k h := by cases h
  cells b k h := by cases h
  own b k h := by cases h
  ro b k h := by cases h
  apart b k b' k' h := by cases h
  mx b k h := by cases h
  inv w' h := hI w' h

theorem HRep.addRo {φ : Nat → Place} {B : Bd} {H : AHeap} {w : World} (h : HRep φ B H w) {k : ABlk} {p : Place} (hro : k.ro = true) (hc : BCells φ H.n p k w) (hb : 0 < p.cap → p.blk < B.B) (hm : k.els.length ≤ 9223372036854775807) :
    HRep (updP φ H.n p) B (H.push k) w := by
  have key : ∀ b k', (H.push k).b b = some k' → (b = H.n ∧ k' = k) ∨ (b < H.n ∧ H.b b = some k') := fun b k' hk => by
    simp only [AHeap.push] at hk
    split at hk
    · rename_i hb; cases hk; exact .inl ⟨hb, rfl⟩
    · exact .inr ⟨h.lt b k' hk, hk⟩
  refine ⟨h.size, h.tlt, fun b k' hk => ?_, fun b k' hk => ?_, fun b k' hk hr hcap => ?_, fun b k' hk hr hcap => ?_, fun b1 k1 b2 k2 h1 h2 r1 r2 c1 c2 he => ?_, fun b k' hk => ?_, h.inv⟩
  · rcases key b k' hk with ⟨rfl, rfl⟩ | ⟨hlt, _⟩
    · exact Nat.lt_succ_self _
    · exact Nat.lt_succ_of_lt hlt
  · rcases key b k' hk with ⟨rfl, rfl⟩ | ⟨hlt, hb⟩
    · rw [updP_new]; exact hc.mono updP_old (Nat.le_succ _)
    · rw [updP_old b hlt]; exact (h.cells b k' hb).mono updP_old (Nat.le_succ _)
  · rcases key b k' hk with ⟨rfl, rfl⟩ | ⟨hlt, hb⟩
    · rw [hro] at hr; cases hr
    · rw [updP_old b hlt] at hcap ⊢; exact h.own b k' hb hr hcap
  · rcases key b k' hk with ⟨rfl, rfl⟩ | ⟨hlt, hb'⟩
    · rw [updP_new] at hcap ⊢; exact hb hcap
    · rw [updP_old b hlt] at hcap ⊢; exact h.ro b k' hb' hr hcap
  · rcases key b1 k1 h1 with ⟨rfl, rfl⟩ | ⟨l1, g1⟩
    · rw [hro] at r1; cases r1
    · rcases key b2 k2 h2 with ⟨rfl, rfl⟩ | ⟨l2, g2⟩
      · rw [hro] at r2; cases r2
      · rw [updP_old b1 l1] at c1 he; rw [updP_old b2 l2] at c2 he
        exact h.apart b1 k1 b2 k2 g1 g2 r1 r2 c1 c2 he
  · rcases key b k' hk with ⟨rfl, rfl⟩ | ⟨hlt, hb⟩
    · exact hm
    · exact h.mx b k' hb

/-- a slice that was handed in, as a block -/
structure ArgS {α : Type} (E : Enc α) (ty : TypeId) (w : World) (v : Value) (ps : List α) (p : Place) : Prop where
  val : ∃ a, v = .slice a ps.length p.cap ∧ ps.length ≤ p.cap ∧ (0 < p.cap → a = some (p.adr 0 0))
  cells : ∀ φ n, BCells φ n p ⟨ty, E.n, true, false, ps.map E.cells⟩ w
  lt : 0 < p.cap → p.blk < w.heap.size
  mx : ps.length ≤ 9223372036854775807

theorem argS_of {α : Type} (E : Enc α) (ty : TypeId) (hn : 0 < E.n) {w : World} {a : Addr} {len cap : Nat} (hl : len ≤ cap) (hm : cap ≤ maxLen)
    (hx : ∀ i, i < cap → ∃ p : α, ∀ j c, (E.cells p)[j]? = some c → ∃ v, w.cell? (a.add (i * E.n + j)) = some v ∧ ∀ φ n, RepC φ n c v) : ∃ ps p, ArgS E ty w (.slice (some a) len cap) ps p := by
  have : ∀ m, m ≤ cap → ∃ ps : List α, ps.length = m ∧ ∀ i p, ps[i]? = some p → ∀ j c, (E.cells p)[j]? = some c → ∃ v, w.cell? (a.add (i * E.n + j)) = some v ∧ ∀ φ n, RepC φ n c v := by
    intro m
    induction m with
    | zero => exact fun _ => ⟨[], rfl, fun i p h => by simp at h⟩
    | succ m ih =>
      intro hm'
      obtain ⟨ps, h1, h2⟩ := ih (by omega)
      obtain ⟨p, hp⟩ := hx m (by omega)
      refine ⟨ps ++ [p], by simp [h1], fun i q hq => ?_⟩
      rcases Nat.lt_or_ge i m with hi | hi
      · rw [List.getElem?_append_left (by omega)] at hq
        exact h2 i q hq
      · have him : i = m := by
          have := (List.getElem?_eq_some_iff.1 hq).1
          simp at this; omega
        subst him
        rw [List.getElem?_append_right (by omega), h1] at hq
        simp at hq
        subst hq
        exact hp
  obtain ⟨ps, h1, h2⟩ := this len hl
  have hcell : 0 < cap → ∃ v, w.cell? a = some v := fun h0 => by
    obtain ⟨p, hp⟩ := hx 0 h0
    have hlen := E.len p
    obtain ⟨v, hv, _⟩ := hp 0 (E.cells p)[0] (List.getElem?_eq_getElem (by omega))
    exact ⟨v, by simpa [Addr.add] using hv⟩
  have hspot : 0 < cap → a.spot = none := fun h0 => by
    obtain ⟨v, hv⟩ := hcell h0
    exact World.cell?_spot hv
  have hadr : 0 < cap → ∀ i j, (⟨a.block, a.off, E.n, cap⟩ : Place).adr i j = a.add (i * E.n + j) := fun h0 i j => by
    have := hspot h0
    cases a; simp only at this; subst this
    simp only [Place.adr, Addr.add]
    split
    · rename_i h; simp only [Addr.mk.injEq, and_true, true_and]; omega
    · simp only [Addr.mk.injEq, and_true, true_and]; omega
  refine ⟨ps, ⟨a.block, a.off, E.n, cap⟩, ⟨some a, by rw [h1], by rw [h1]; exact hl, fun h0 => by rw [hadr h0 0 0]; simp [Addr.add]⟩, fun φ n => ⟨rfl, by simp [h1, hl], fun i e he => ?_, fun i e he j x hx' => ?_⟩, fun h0 => ?_, by rw [h1]; simp only [maxLen] at hm; omega⟩
  · simp only [List.getElem?_map, Option.map_eq_some_iff] at he
    obtain ⟨q, _, rfl⟩ := he
    exact E.len q
  · simp only [List.getElem?_map, Option.map_eq_some_iff] at he
    obtain ⟨q, hq, rfl⟩ := he
    have hi : i < len := by rw [← h1]; exact (List.getElem?_eq_some_iff.1 hq).1
    obtain ⟨v, hv, hr⟩ := h2 i q hq j x hx'
    exact ⟨v, by rw [hadr (by omega)]; exact hv, hr φ n⟩
  · obtain ⟨v, hv⟩ := hcell h0
    exact World.block_lt_of_cell? w _ hv
theorem argS_nil {α : Type} (E : Enc α) (ty : TypeId) (w : World) : ArgS E ty w (.slice none 0 0) [] ⟨0, 0, E.n, 0⟩ :=
  ⟨⟨none, rfl, Nat.le_refl _, fun h => absurd h (Nat.lt_irrefl 0)⟩, fun φ n => ⟨rfl, by simp, fun i e he => by simp at he, fun i e he => by simp at he⟩, fun h => absurd h (Nat.lt_irrefl 0), by simp⟩

theorem calls_true {P : Program} {f : FuncId} {c : Con} (hs : Sound P f c) {φ : Nat → Place} {H : AHeap} {args : List AV} {vs : List Value} {w : World} (hH : HRep φ ⟨w.heap.size, fun _ => False⟩ H w) (hr : RepT φ H.n args vs)
    (hc : c args H fun r _ => r = .c (.bool true)) : Calls P f vs.toArray w fun e w' => e = .returned (.bool true) ∧ Below w.heap.size w w' :=
  ((hs args H _ hc).2 φ _ w vs hH hr).mono fun e w' ⟨r, u, φ', H', h1, h2, _, h4, _, _, h7⟩ => by
    subst h7
    exact ⟨by rw [h1, show u = .bool true from h2], h4.below⟩
end Go.Proofs.YtafenginfojcmaaGreatDoor
