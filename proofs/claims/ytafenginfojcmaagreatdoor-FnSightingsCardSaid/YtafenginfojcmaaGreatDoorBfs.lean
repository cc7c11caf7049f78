/- The groups of a graph, found one after the other by breadth. No program is named here. -/
import Derived.Test.YtafenginfojcmaaGreatDoorComp
set_option linter.unusedSimpArgs false
namespace Go.Proofs.YtafenginfojcmaaGreatDoor
open Go Go.RowKit

/-- no group before it has this index -/
def leads (e : Nat → Nat → Bool) (n i : Nat) : Prop := ∀ j, j < i → ¬ Rch e n j i
noncomputable def leadB (e : Nat → Nat → Bool) (n i : Nat) : Bool := @decide (leads e n i) (Classical.propDecidable _)
theorem leadB_t {e : Nat → Nat → Bool} {n i : Nat} : leadB e n i = true ↔ leads e n i := by
  unfold leadB
  exact ⟨fun h => @of_decide_eq_true _ (Classical.propDecidable _) h, fun h => @decide_eq_true _ (Classical.propDecidable _) h⟩
/-- the groups whose least index is below k -/
noncomputable def groupsTo (e : Nat → Nat → Bool) (n k : Nat) : List (List Nat) := ((List.range k).filter (leadB e n)).map (comp e n)
theorem groupsTo_0 (e : Nat → Nat → Bool) (n : Nat) : groupsTo e n 0 = [] := rfl
theorem groupsTo_yes {e : Nat → Nat → Bool} {n k : Nat} (h : leads e n k) : groupsTo e n (k + 1) = groupsTo e n k ++ [comp e n k] := by
  unfold groupsTo
  rw [List.range_succ, List.filter_append, List.map_append, List.filter_cons_of_pos (leadB_t.2 h)]
  rfl
theorem groupsTo_no {e : Nat → Nat → Bool} {n k : Nat} (h : ¬ leads e n k) : groupsTo e n (k + 1) = groupsTo e n k := by
  unfold groupsTo
  rw [List.range_succ, List.filter_append, List.map_append, List.filter_cons_of_neg (fun hc => h (leadB_t.1 hc))]
  simp
theorem groupsTo_len (e : Nat → Nat → Bool) (n k : Nat) : (groupsTo e n k).length ≤ k := by
  unfold groupsTo
  rw [List.length_map]
  exact Nat.le_trans (List.length_filter_le _ _) (by simp)
/-- what has been seen when the groups below k are done -/
def SeenTo (e : Nat → Nat → Bool) (n k : Nat) (seen : List Bool) : Prop := seen.length = n ∧ ∀ i, i < n → (seen[i]? = some true ↔ ∃ j, j < k ∧ Rch e n j i)
theorem nodup_len : ∀ (n : Nat) (L : List Nat), L.Nodup → (∀ x ∈ L, x < n) → L.length ≤ n
  | 0, [], _, _ => Nat.le_refl _
  | 0, x :: _, _, h => absurd (h x (by simp)) (Nat.not_lt_zero x)
  | n + 1, L, hd, h => by
    by_cases hn : n ∈ L
    · have h1 := nodup_len n (L.erase n) (hd.erase n) fun x hx => by
        have h2 := (hd.mem_erase_iff).1 hx
        have h3 := h x h2.2
        have h4 := h2.1
        omega
      rw [List.length_erase_of_mem hn] at h1
      omega
    · have := nodup_len n L hd fun x hx => by
        have h3 := h x hx
        have h4 : x ≠ n := fun e => hn (e ▸ hx)
        omega
      omega
structure Bfs (e : Nat → Nat → Bool) (n k : Nat) (seen : List Bool) (L : List Nat) (g i : Nat) : Prop where
  sl : seen.length = n
  kn : k < n
  lead : leads e n k
  nd : L.Nodup
  mem : k ∈ L
  rch : ∀ x ∈ L, Rch e n k x
  seen : ∀ i, i < n → (seen[i]? = some true ↔ (∃ j, j < k ∧ Rch e n j i) ∨ i ∈ L)
  done : ∀ q x, L[q]? = some x → q < g → ∀ i, i < n → e x i = true → i ∈ L
  part : ∀ x, L[g]? = some x → ∀ i', i' < i → i' < n → e x i' = true → i' ∈ L
section
variable {e : Nat → Nat → Bool} {n k g i : Nat} {seen : List Bool} {L : List Nat}
theorem SeenTo.zero (e : Nat → Nat → Bool) (n : Nat) : SeenTo e n 0 (List.replicate n false) := ⟨by simp, fun i hi => by simp [List.getElem?_replicate, hi]⟩
theorem SeenTo.skip (h : SeenTo e n k seen) (hk : k < n) (hs : seen[k]? = some true) : ¬ leads e n k ∧ SeenTo e n (k + 1) seen := by
  obtain ⟨j, hj, hr⟩ := (h.2 k hk).1 hs
  refine ⟨fun hl => hl j hj hr, h.1, fun i hi => (h.2 i hi).trans ⟨fun ⟨j', h1, h2⟩ => ⟨j', by omega, h2⟩, fun ⟨j', h1, h2⟩ => ?_⟩⟩
  rcases Nat.lt_or_ge j' k with h3 | h3
  · exact ⟨j', h3, h2⟩
  · obtain rfl : j' = k := by omega
    exact ⟨j, hj, hr.trans h2⟩
theorem SeenTo.start (h : SeenTo e n k seen) (hk : k < n) (hs : seen[k]? = some false) : Bfs e n k (seen.set k true) [k] 0 0 where
  sl := by simp [h.1]
  kn := hk
  lead := fun j hj hr => by have := (h.2 k hk).2 ⟨j, hj, hr⟩; rw [hs] at this; cases this
  nd := by simp
  mem := by simp
  rch := fun x hx => by rw [List.mem_singleton.1 hx]; exact .refl hk
  seen := fun i hi => by
    rw [List.getElem?_set]
    by_cases hik : k = i
    · subst hik; simp [h.1, hk]
    · rw [if_neg hik, h.2 i hi]
      exact ⟨.inl, fun h => h.elim id fun h => absurd (List.mem_singleton.1 h).symm hik⟩
  done := fun q x _ hq => absurd hq (Nat.not_lt_zero q)
  part := fun x _ i' hi' => absurd hi' (Nat.not_lt_zero i')
theorem Bfs.hit (h : Bfs e n k seen L g i) (hi : i < n) {x : Nat} (hx : L[g]? = some x) (hs : seen[i]? = some false) (he : e x i = true) : Bfs e n k (seen.set i true) (L ++ [i]) g (i + 1) := by
  have hiL : i ∉ L := fun hc => by have := (h.seen i hi).2 (.inr hc); rw [hs] at this; cases this
  have hxL := List.mem_of_getElem? hx
  have hg : g < L.length := (List.getElem?_eq_some_iff.1 hx).1
  refine ⟨by simp [h.sl], h.kn, h.lead, ?_, by simp [h.mem], fun y hy => ?_, fun i' hi' => ?_, fun q y hq hqg i' hi' hei => ?_, fun y hy i' hi' hin hei => ?_⟩
  · rw [List.nodup_append]
    exact ⟨h.nd, by simp, fun a ha b hb hab => by rw [List.mem_singleton.1 hb] at hab; subst hab; exact hiL ha⟩
  · rcases List.mem_append.1 hy with hy | hy
    · exact h.rch y hy
    · rw [List.mem_singleton.1 hy]; exact (h.rch x hxL).step hi he
  · rw [List.getElem?_set]
    by_cases hii : i = i'
    · subst hii; simp [h.sl, hi]
    · rw [if_neg hii, h.seen i' hi', List.mem_append, List.mem_singleton]
      exact ⟨fun h => h.imp_right .inl, fun h => h.imp_right fun h => h.elim id fun h => absurd h.symm hii⟩
  · rw [List.getElem?_append_left (by omega)] at hq
    exact List.mem_append.2 (.inl (h.done q y hq hqg i' hi' hei))
  · rw [List.getElem?_append_left hg] at hy
    rcases Nat.lt_or_ge i' i with h1 | h1
    · exact List.mem_append.2 (.inl (h.part y hy i' h1 hin hei))
    · exact List.mem_append.2 (.inr (List.mem_singleton.2 (by omega)))
theorem Bfs.miss (hsym : ∀ x k, x < n → k < n → e x k = true → e k x = true) (h : Bfs e n k seen L g i) (hi : i < n) {x : Nat} (hx : L[g]? = some x) (hs : seen[i]? = some true ∨ e x i = false) : Bfs e n k seen L g (i + 1) := by
  refine ⟨h.sl, h.kn, h.lead, h.nd, h.mem, h.rch, h.seen, h.done, fun y hy i' hi' hin hei => ?_⟩
  rw [hx] at hy
  cases hy
  rcases Nat.lt_or_ge i' i with h1 | h1
  · exact h.part x hx i' h1 hin hei
  · obtain rfl : i' = i := by omega
    rcases hs with hs | hs
    · rcases (h.seen i' hin).1 hs with ⟨j, hj, hr⟩ | h2
      · have hxk := h.rch x (List.mem_of_getElem? hx)
        exact absurd ((hr.step hxk.lt (hsym _ _ hxk.lt hin hei)).trans (hxk.symm hsym)) (h.lead j hj)
      · exact h2
    · rw [hs] at hei; cases hei
theorem Bfs.next (h : Bfs e n k seen L g n) : Bfs e n k seen L (g + 1) 0 := by
  refine ⟨h.sl, h.kn, h.lead, h.nd, h.mem, h.rch, h.seen, fun q x hq hqg i hi he => ?_, fun x _ i' hi' => absurd hi' (Nat.not_lt_zero i')⟩
  rcases Nat.lt_or_ge q g with h1 | h1
  · exact h.done q x hq h1 i hi he
  · obtain rfl : q = g := by omega
    exact h.part x hq i hi hi he
theorem Bfs.len (h : Bfs e n k seen L g i) : L.length ≤ n := by
  exact nodup_len _ _ h.nd fun x hx => (h.rch x hx).lt
theorem Bfs.fin (h : Bfs e n k seen L g i) (hg : L.length ≤ g) : (∀ x, x ∈ L ↔ Rch e n k x) ∧ SeenTo e n (k + 1) seen := by
  have h1 := comp_closed h.mem h.rch fun x hx i hi he => by
    obtain ⟨q, hq⟩ := List.getElem?_of_mem hx
    have := (List.getElem?_eq_some_iff.1 hq).1
    exact h.done q x hq (by omega) i hi he
  refine ⟨h1, h.sl, fun i hi => (h.seen i hi).trans ⟨fun h2 => ?_, fun ⟨j, hj, hr⟩ => ?_⟩⟩
  · rcases h2 with ⟨j, hj, hr⟩ | h2
    · exact ⟨j, by omega, hr⟩
    · exact ⟨k, by omega, h.rch i h2⟩
  · rcases Nat.lt_or_ge j k with h3 | h3
    · exact .inl ⟨j, h3, hr⟩
    · obtain rfl : j = k := by omega
      exact .inr ((h1 i).2 hr)
end
end Go.Proofs.YtafenginfojcmaaGreatDoor
