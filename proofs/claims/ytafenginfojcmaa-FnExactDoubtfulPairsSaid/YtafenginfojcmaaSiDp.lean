/- Doubtful pairs: plain facts. -/
import Derived.Test.YtafenginfojcmaaSiC2
import Derived.Test.YtafenginfojcmaaSiFs
set_option maxRecDepth 8000
set_option linter.unusedSimpArgs false
set_option linter.unusedVariables false
namespace Go.Proofs.Ytafenginfojcmaa
open Go Go.RowKit

set_option maxHeartbeats 1000000
theorem dp_go : ∀ (l : List Si) (o : Option Si), siGo o l = true → l.Pairwise (fun a b => a.id < b.id) ∧ ∀ p, o = some p → ∀ x ∈ l, p.id < x.id
  | [], _, _ => ⟨.nil, fun _ _ x hx => by cases hx⟩
  | x :: r, o, h => by
    simp only [siGo, Bool.if_false_right, Bool.and_eq_true, decide_eq_true_eq] at h
    obtain ⟨_, h1, h2⟩ := h
    obtain ⟨h3, h4⟩ := dp_go r (some x) h2
    refine ⟨List.pairwise_cons.2 ⟨fun y hy => h4 x rfl y hy, h3⟩, fun p hp y hy => ?_⟩
    subst hp
    have h5 : p.id < x.id := by simpa using h1
    rcases List.mem_cons.1 hy with rfl | hy
    · exact h5
    · have := h4 x rfl y hy; omega
theorem dp_sid {ps : List Si} (h : areSi ps = true) {i k : Nat} (hik : i < k) (hk : k < ps.length) : sid ps i < sid ps k := by
  unfold areSi at h
  simp only [Bool.and_eq_true] at h
  have h1 := List.pairwise_iff_getElem.1 (dp_go ps none h.1).1 i k (by omega) hk hik
  simpa [sid, List.getD_eq_getElem?_getD, hk, show i < ps.length by omega] using h1
/-- a pair of indices that are of one cover, with less evidence of their own -/
noncomputable def dpB (ps : List Si) (limit : Int) (i k : Nat) : Bool := decide (i < k) && (decide (k ∈ comp (edge ps limit) ps.length i) && !edge ps limit i k)
noncomputable def dpT (ps : List Si) (limit : Int) (i m : Nat) : List (Nat × Nat) := ((List.range m).filter (dpB ps limit i)).map fun k => (i, k)
theorem dpT_s (ps : List Si) (limit : Int) (i m : Nat) : dpT ps limit i (m + 1) = dpT ps limit i m ++ if dpB ps limit i m = true then [(i, m)] else [] := by
  unfold dpT
  rw [List.range_succ, List.filter_append, List.map_append]
  by_cases h : dpB ps limit i m = true
  · rw [if_pos h, List.filter_cons_of_pos h]; rfl
  · rw [if_neg h, List.filter_cons_of_neg h]; rfl
theorem dpT_0 (ps : List Si) (limit : Int) (i : Nat) : dpT ps limit i (i + 1) = [] := by
  unfold dpT
  rw [List.map_eq_nil_iff, List.filter_eq_nil_iff]
  intro k hk hb
  simp only [dpB, Bool.and_eq_true, decide_eq_true_eq, List.mem_range] at hb hk
  omega
/-- the pairs, as the reference finds them -/
noncomputable def dpS (ps : List Si) (limit : Int) (m : Nat) : List (Nat × Nat) := (List.range m).flatMap fun i => dpT ps limit i ps.length
theorem dpS_s (ps : List Si) (limit : Int) (m : Nat) : dpS ps limit (m + 1) = dpS ps limit m ++ dpT ps limit m ps.length := by
  unfold dpS
  rw [List.range_succ, List.flatMap_append]
  simp
def dpR (ps : List Si) (p : Nat × Nat) : List Int := [sid ps p.1, sid ps p.2]
theorem dpT_len (ps : List Si) (limit : Int) (i m : Nat) : (dpT ps limit i m).length ≤ m := by
  unfold dpT
  rw [List.length_map]
  exact Nat.le_trans (List.length_filter_le _ _) (by simp)
theorem dpS_len (ps : List Si) (limit : Int) : ∀ m, (dpS ps limit m).length ≤ m * ps.length
  | 0 => by simp [dpS]
  | m + 1 => by
    rw [dpS_s, List.length_append]
    have h1 := dpS_len ps limit m
    have h2 := dpT_len ps limit m ps.length
    rw [Nat.add_mul]
    omega
theorem dpS_mem {ps : List Si} {limit : Int} {m : Nat} {p : Nat × Nat} : p ∈ dpS ps limit m ↔ p.1 < m ∧ p.2 < ps.length ∧ dpB ps limit p.1 p.2 = true := by
  unfold dpS dpT
  rw [List.mem_flatMap]
  constructor
  · rintro ⟨i, hi, hp⟩
    obtain ⟨k, hk, rfl⟩ := List.mem_map.1 hp
    obtain ⟨h1, h2⟩ := List.mem_filter.1 hk
    exact ⟨List.mem_range.1 hi, List.mem_range.1 h1, h2⟩
  · rintro ⟨h1, h2, h3⟩
    exact ⟨p.1, List.mem_range.2 h1, List.mem_map.2 ⟨p.2, List.mem_filter.2 ⟨List.mem_range.2 h2, h3⟩, rfl⟩⟩
theorem dpS_up (ps : List Si) (limit : Int) (m : Nat) : (dpS ps limit m).Pairwise fun p q => p.1 < q.1 ∨ (p.1 = q.1 ∧ p.2 < q.2) := by
  unfold dpS
  rw [List.pairwise_flatMap]
  refine ⟨fun i _ => ?_, List.pairwise_lt_range.imp fun {i j} hij x hx y hy => ?_⟩
  · unfold dpT
    rw [List.pairwise_map]
    exact (List.pairwise_lt_range.filter _).imp fun {a b} hab => .inr ⟨rfl, hab⟩
  · unfold dpT at hx hy
    obtain ⟨k, _, rfl⟩ := List.mem_map.1 hx
    obtain ⟨l, _, rfl⟩ := List.mem_map.1 hy
    exact .inl hij
/-- the pairs within a group, as the program finds them -/
def pI (ps : List Si) (limit : Int) (i : Nat) (L : List Nat) : List (Nat × Nat) := (L.filter fun k => !edge ps limit i k).map fun k => (i, k)
def pG (ps : List Si) (limit : Int) : List Nat → List (Nat × Nat)
  | [] => []
  | i :: r => pI ps limit i r ++ pG ps limit r
theorem pI_c (ps : List Si) (limit : Int) (i k : Nat) (L : List Nat) : pI ps limit i (k :: L) = (if edge ps limit i k = true then [] else [(i, k)]) ++ pI ps limit i L := by
  unfold pI
  by_cases h : edge ps limit i k = true
  · rw [List.filter_cons_of_neg (by simp [h]), if_pos h]; rfl
  · rw [List.filter_cons_of_pos (by simpa using h), if_neg h]; rfl
theorem pI_mem {ps : List Si} {limit : Int} {i : Nat} {L : List Nat} {p : Nat × Nat} : p ∈ pI ps limit i L ↔ p.1 = i ∧ p.2 ∈ L ∧ edge ps limit p.1 p.2 = false := by
  unfold pI
  rw [List.mem_map]
  constructor
  · rintro ⟨k, hk, rfl⟩
    obtain ⟨h1, h2⟩ := List.mem_filter.1 hk
    exact ⟨rfl, h1, by simpa using h2⟩
  · rintro ⟨rfl, h2, h3⟩
    exact ⟨p.2, List.mem_filter.2 ⟨h2, by simp [h3]⟩, rfl⟩
theorem pG_mem {ps : List Si} {limit : Int} {p : Nat × Nat} : ∀ {L : List Nat}, L.Pairwise (· < ·) → (p ∈ pG ps limit L ↔ p.1 ∈ L ∧ p.2 ∈ L ∧ p.1 < p.2 ∧ edge ps limit p.1 p.2 = false)
  | [], _ => by simp [pG]
  | i :: r, h => by
    obtain ⟨h1, h2⟩ := List.pairwise_cons.1 h
    rw [pG, List.mem_append, pI_mem, pG_mem h2]
    constructor
    · rintro (⟨rfl, g2, g3⟩ | ⟨g1, g2, g3, g4⟩)
      · exact ⟨by simp, by simp [g2], h1 _ g2, g3⟩
      · exact ⟨by simp [g1], by simp [g2], g3, g4⟩
    · rintro ⟨g1, g2, g3, g4⟩
      rcases List.mem_cons.1 g1 with e1 | g1
      · rcases List.mem_cons.1 g2 with e2 | g2
        · omega
        · exact .inl ⟨e1, g2, g4⟩
      · rcases List.mem_cons.1 g2 with e2 | g2
        · have := h1 _ g1; omega
        · exact .inr ⟨g1, g2, g3, g4⟩
theorem pG_nd {ps : List Si} {limit : Int} : ∀ {L : List Nat}, L.Pairwise (· < ·) → (pG ps limit L).Nodup
  | [], _ => .nil
  | i :: r, h => by
    obtain ⟨h1, h2⟩ := List.pairwise_cons.1 h
    rw [pG, List.nodup_append]
    refine ⟨?_, pG_nd h2, fun x hx y hy e => ?_⟩
    · unfold pI
      rw [List.nodup_iff_pairwise_ne, List.pairwise_map]
      exact (h2.filter _).imp fun {a b} hab e => by cases e; omega
    · subst e
      have g1 := (pI_mem.1 hx).1
      have g2 := h1 _ ((pG_mem h2).1 hy).1
      omega
noncomputable def dpP (ps : List Si) (limit : Int) : List (Nat × Nat) := (groupsTo (edge ps limit) ps.length ps.length).flatMap (pG ps limit)
theorem groups_up {e : Nat → Nat → Bool} {n k : Nat} : ∀ g ∈ groupsTo e n k, g.Pairwise (· < ·) := fun g hg => by
  unfold groupsTo at hg
  obtain ⟨i, _, rfl⟩ := List.mem_map.1 hg
  exact comp_up
theorem dpP_perm {ps : List Si} {limit : Int} (hs : ∀ x k, x < ps.length → k < ps.length → edge ps limit x k = true → edge ps limit k x = true) : (dpP ps limit).Perm (dpS ps limit ps.length) := by
  refine (List.perm_ext_iff_of_nodup ?_ ?_).2 fun p => ?_
  · unfold dpP
    rw [List.nodup_iff_pairwise_ne, List.pairwise_flatMap]
    refine ⟨fun g hg => List.nodup_iff_pairwise_ne.1 (pG_nd (groups_up g hg)), ?_⟩
    unfold groupsTo
    rw [List.pairwise_map]
    refine List.Pairwise.imp_of_mem ?_ (List.pairwise_lt_range.filter _)
    intro i j hi hj hij x hx y hy e
    subst e
    have h1 := mem_comp.1 ((pG_mem comp_up).1 hx).1
    have h2 := mem_comp.1 ((pG_mem comp_up).1 hy).1
    have h3 := leadB_t.1 (List.mem_filter.1 hj).2
    exact h3 i hij (h1.trans (h2.symm hs))
  · exact (dpS_up ps limit _).imp fun {a b} h e => by subst e; omega
  · rw [dpS_mem]
    unfold dpP
    rw [List.mem_flatMap]
    constructor
    · rintro ⟨g, hg, hp⟩
      obtain ⟨h1, h2, h3, h4⟩ := (pG_mem (groups_up g hg)).1 hp
      have e := groups_same hs hg h1
      rw [e] at h1 h2
      have l1 := (mem_comp.1 h1).lt
      have l2 := (mem_comp.1 h2).lt
      exact ⟨l1, l2, by unfold dpB; simp [h3, h2, h4]⟩
    · rintro ⟨h1, h2, h3⟩
      simp only [dpB, Bool.and_eq_true, decide_eq_true_eq, Bool.not_eq_true'] at h3
      obtain ⟨g, hg, hm⟩ := groups_find (e := edge ps limit) h1
      have e := groups_same hs hg hm
      exact ⟨g, hg, (pG_mem (groups_up g hg)).2 ⟨hm, by rw [e]; exact h3.2.1, h3.1, h3.2.2⟩⟩
noncomputable def dpRes (ps : List Si) (limit : Int) : List (List Int) × Bool := if areSi ps = true then if inR limit (-30) 16 = true then ((dpS ps limit ps.length).map (dpR ps), true) else ([], false) else ([], false)
theorem dpRes_len (ps : List Si) (limit : Int) : (dpRes ps limit).1.length ≤ 100 ∧ ∀ g ∈ (dpRes ps limit).1, g.length ≤ 2 := by
  unfold dpRes
  split
  · rename_i hv
    have h4 := areSi_len hv
    split
    · refine ⟨?_, fun g hg => ?_⟩
      · rw [List.length_map]
        refine Nat.le_trans (dpS_len ps limit ps.length) (Nat.le_trans (Nat.mul_le_mul h4 h4) (by decide))
      · obtain ⟨p, _, rfl⟩ := List.mem_map.1 hg
        exact Nat.le_refl 2
    · simp
  · simp
theorem dpS_lex {ps : List Si} (hv : areSi ps = true) (limit : Int) : ((dpS ps limit ps.length).map (dpR ps)).Pairwise fun p q => ∃ a b c d, p = [a, b] ∧ q = [c, d] ∧ (a < c ∨ (a = c ∧ b < d)) := by
  rw [List.pairwise_map]
  refine List.Pairwise.imp_of_mem ?_ (dpS_up ps limit ps.length)
  intro p q hp hq h
  obtain ⟨p1, p2, _⟩ := dpS_mem.1 hp
  obtain ⟨q1, q2, _⟩ := dpS_mem.1 hq
  refine ⟨_, _, _, _, rfl, rfl, ?_⟩
  rcases h with h | ⟨h1, h2⟩
  · exact .inl (dp_sid hv h q1)
  · exact .inr ⟨by rw [h1], dp_sid hv h2 q2⟩
/-- put in order, the program's pairs are the reference's -/
theorem dp_same {ps : List Si} {limit : Int} (hv : areSi ps = true) {rows : List (List Int)} (hp : rows.Perm ((dpP ps limit).map (dpR ps))) (hl : rows.Pairwise lexL) : rows = (dpS ps limit ps.length).map (dpR ps) := by
  have hperm := hp.trans ((dpP_perm (edge_sym (limit := limit) (areSi_nd hv))).map (dpR ps))
  refine List.Perm.eq_of_pairwise (le := lexL) (fun a b _ _ h1 h2 => ?_) hl ((dpS_lex hv limit).imp fun {p q} h => ?_) hperm
  · obtain ⟨x, y, z, w, rfl, rfl, h⟩ := h1
    obtain ⟨x', y', z', w', e1, e2, h'⟩ := h2
    cases e1
    cases e2
    rw [show x = z by omega, show y = w by omega]
  · obtain ⟨a, b, c, d, h1, h2, h3⟩ := h
    exact ⟨a, b, c, d, h1, h2, by omega⟩
theorem dp_nd {ps : List Si} {limit : Int} (hv : areSi ps = true) : ((dpP ps limit).map (dpR ps)).Nodup := by
  have hperm := (dpP_perm (edge_sym (limit := limit) (areSi_nd hv))).map (dpR ps)
  refine hperm.symm.nodup ((dpS_lex hv limit).imp fun {p q} h e => ?_)
  obtain ⟨a, b, c, d, h1, h2, h3⟩ := h
  subst e
  rw [h1] at h2
  cases h2
  omega

end Go.Proofs.Ytafenginfojcmaa
