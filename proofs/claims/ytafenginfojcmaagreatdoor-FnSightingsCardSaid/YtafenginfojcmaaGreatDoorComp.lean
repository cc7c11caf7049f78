/- What can be reached from an index: the groups of a graph. No program is named here. -/
import Derived.Test.YtafenginfojcmaaGreatDoorBas
set_option linter.unusedSimpArgs false
namespace Go.Proofs.YtafenginfojcmaaGreatDoor
open Go Go.RowKit

/-- what can be reached from i, over edges between numbers below n -/
inductive Rch (e : Nat → Nat → Bool) (n i : Nat) : Nat → Prop
  | refl : i < n → Rch e n i i
  | step {x k : Nat} : Rch e n i x → k < n → e x k = true → Rch e n i k
section
variable {e : Nat → Nat → Bool} {n i j k : Nat}
theorem Rch.lt (h : Rch e n i k) : k < n := by cases h with
  | refl h => exact h
  | step _ h _ => exact h
theorem Rch.start (h : Rch e n i k) : i < n := by
  induction h with
  | refl h => exact h
  | step _ _ _ ih => exact ih
theorem Rch.trans (h : Rch e n i j) (h' : Rch e n j k) : Rch e n i k := by
  induction h' with
  | refl _ => exact h
  | step _ hk he ih => exact ih.step hk he
theorem Rch.symm (hs : ∀ x k, x < n → k < n → e x k = true → e k x = true) (h : Rch e n i k) : Rch e n k i := by
  induction h with
  | refl h => exact .refl h
  | step hx hk he ih => exact (Rch.step (.refl hk) hx.lt (hs _ _ hx.lt hk he)).trans ih
/-- the group of an index, in ascending order -/
noncomputable def comp (e : Nat → Nat → Bool) (n i : Nat) : List Nat := (List.range n).filter fun k => @decide (Rch e n i k) (Classical.propDecidable _)
theorem mem_comp : k ∈ comp e n i ↔ Rch e n i k := by
  unfold comp
  rw [List.mem_filter, List.mem_range]
  exact ⟨fun h => @of_decide_eq_true _ (Classical.propDecidable _) h.2, fun h => ⟨h.lt, @decide_eq_true _ (Classical.propDecidable _) h⟩⟩
theorem comp_up : (comp e n i).Pairwise (· < ·) := List.Pairwise.filter _ List.pairwise_lt_range
theorem up_ext : ∀ {L M : List Nat}, L.Pairwise (· < ·) → M.Pairwise (· < ·) → (∀ k, k ∈ L ↔ k ∈ M) → L = M
  | [], [], _, _, _ => rfl
  | [], m :: M, _, _, h => absurd ((h m).2 (by simp)) (by simp)
  | l :: L, [], _, _, h => absurd ((h l).1 (by simp)) (by simp)
  | l :: L, m :: M, hl, hm, h => by
    rw [List.pairwise_cons] at hl hm
    have h1 := (h l).1 (by simp)
    have h2 := (h m).2 (by simp)
    have hlm : l = m := by
      rcases List.mem_cons.1 h1 with rfl | h1
      · rfl
      · rcases List.mem_cons.1 h2 with rfl | h2
        · rfl
        · have := hm.1 l h1
          have := hl.1 m h2
          omega
    subst hlm
    rw [up_ext hl.2 hm.2 fun k => ⟨fun hk => ?_, fun hk => ?_⟩]
    · rcases List.mem_cons.1 ((h k).1 (by simp [hk])) with rfl | h3
      · exact absurd (hl.1 k hk) (Nat.lt_irrefl k)
      · exact h3
    · rcases List.mem_cons.1 ((h k).2 (by simp [hk])) with rfl | h3
      · exact absurd (hm.1 k hk) (Nat.lt_irrefl k)
      · exact h3
theorem comp_closed {L : List Nat} (hi : i ∈ L) (hr : ∀ x ∈ L, Rch e n i x) (hc : ∀ x ∈ L, ∀ k, k < n → e x k = true → k ∈ L) : ∀ k, k ∈ L ↔ Rch e n i k := fun k => ⟨hr k, fun h => by
  induction h with
  | refl _ => exact hi
  | step _ hk he ih => exact hc _ ih _ hk he⟩
theorem comp_eq {L : List Nat} (hu : L.Pairwise (· < ·)) (hi : i ∈ L) (hr : ∀ x ∈ L, Rch e n i x) (hc : ∀ x ∈ L, ∀ k, k < n → e x k = true → k ∈ L) : L = comp e n i :=
  up_ext hu comp_up fun k => (comp_closed hi hr hc k).trans mem_comp.symm
theorem comp_same (hs : ∀ x k, x < n → k < n → e x k = true → e k x = true) (h : Rch e n i j) : comp e n i = comp e n j :=
  up_ext comp_up comp_up fun k => mem_comp.trans (Iff.trans ⟨fun h1 => (h.symm hs).trans h1, fun h1 => h.trans h1⟩ mem_comp.symm)
end
/-- a list in ascending order has at most as many elements as there are numbers below its bound -/
theorem up_len : ∀ {L : List Nat} {lo n : Nat}, L.Pairwise (· < ·) → (∀ x ∈ L, lo ≤ x ∧ x < n) → L.length ≤ n - lo
  | [], _, _, _, _ => Nat.zero_le _
  | x :: L, lo, n, hp, h => by
    rw [List.pairwise_cons] at hp
    have h1 := h x (by simp)
    have := up_len (lo := x + 1) (n := n) hp.2 fun y hy => ⟨hp.1 y hy, (h y (by simp [hy])).2⟩
    rw [List.length_cons]
    omega
/-- a number put to its place -/
def putN (L : List Nat) (k : Nat) : List Nat := L.takeWhile (fun x => decide (x < k)) ++ k :: L.dropWhile (fun x => decide (x < k))
theorem putN_mem {L : List Nat} {k x : Nat} : x ∈ putN L k ↔ x ∈ L ∨ x = k := by
  have h := congrArg (x ∈ ·) (List.takeWhile_append_dropWhile (p := fun x => decide (x < k)) (l := L))
  simp only [List.mem_append, eq_iff_iff] at h
  simp only [putN, List.mem_append, List.mem_cons]
  rw [← h]
  constructor
  · rintro (h | h | h)
    · exact .inl (.inl h)
    · exact .inr h
    · exact .inl (.inr h)
  · rintro ((h | h) | h)
    · exact .inl h
    · exact .inr (.inr h)
    · exact .inr (.inl h)
theorem putN_len (L : List Nat) (k : Nat) : (putN L k).length = L.length + 1 := by
  have h := congrArg List.length (List.takeWhile_append_dropWhile (p := fun x => decide (x < k)) (l := L))
  simp only [List.length_append] at h
  simp only [putN, List.length_append, List.length_cons]
  omega
theorem putN_up : ∀ {L : List Nat} {k : Nat}, L.Pairwise (· < ·) → k ∉ L → (putN L k).Pairwise (· < ·)
  | [], k, _, _ => by simp [putN]
  | x :: L, k, hp, hk => by
    rw [List.pairwise_cons] at hp
    by_cases hx : x < k
    · have e : putN (x :: L) k = x :: putN L k := by simp [putN, List.takeWhile_cons, List.dropWhile_cons, hx]
      rw [e, List.pairwise_cons]
      refine ⟨fun y hy => ?_, putN_up hp.2 fun h => hk (by simp [h])⟩
      rcases putN_mem.1 hy with h | rfl
      · exact hp.1 y h
      · exact hx
    · have e : putN (x :: L) k = k :: x :: L := by simp [putN, List.takeWhile_cons, List.dropWhile_cons, hx]
      have hxk : x ≠ k := fun h => hk (by simp [h])
      rw [e, List.pairwise_cons]
      refine ⟨fun y hy => ?_, by rw [List.pairwise_cons]; exact hp⟩
      rcases List.mem_cons.1 hy with rfl | h
      · omega
      · have := hp.1 y h; omega
end Go.Proofs.YtafenginfojcmaaGreatDoor
