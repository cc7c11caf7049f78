/- The census: plain facts for its great law. -/
import Derived.Test.YtafenginfojcmaaSiC2
import Derived.Test.YtafenginfojcmaaSiX
set_option maxRecDepth 8000
set_option linter.unusedSimpArgs false
set_option linter.unusedVariables false
namespace Go.Proofs.Ytafenginfojcmaa
open Go Go.RowKit

set_option maxHeartbeats 2000000
theorem evOf_comm (ps : List Si) (a b : Int) : evOf ps b a = evOf ps a b := by
  unfold evOf
  by_cases hv : areSi ps = true
  · rw [if_pos hv, if_pos hv]
    cases ha : ps.find? fun s => decide (s.id = a) with
    | none => cases ps.find? fun s => decide (s.id = b) <;> rfl
    | some x =>
      cases hb : ps.find? (fun s => decide (s.id = b)) with
      | none => rfl
      | some y =>
        simp only
        rw [evid_comm (areSi_nd hv _ (List.mem_of_find?_eq_some hb)) (areSi_nd hv _ (List.mem_of_find?_eq_some ha))]
  · rw [if_neg hv, if_neg hv]
theorem siGo_up : ∀ (l : List Si) (o : Option Si), siGo o l = true → l.Pairwise (fun a b => a.id < b.id) ∧ ∀ p, o = some p → ∀ x ∈ l, p.id < x.id
  | [], _, _ => ⟨.nil, fun _ _ x hx => by cases hx⟩
  | x :: r, o, h => by
    simp only [siGo, Bool.if_false_right, Bool.and_eq_true, decide_eq_true_eq] at h
    obtain ⟨_, h1, h2⟩ := h
    obtain ⟨h3, h4⟩ := siGo_up r (some x) h2
    refine ⟨List.pairwise_cons.2 ⟨fun y hy => h4 x rfl y hy, h3⟩, fun p hp y hy => ?_⟩
    subst hp
    have h5 : p.id < x.id := by simpa using h1
    rcases List.mem_cons.1 hy with rfl | hy
    · exact h5
    · have := h4 x rfl y hy; omega
theorem areSi_up {ps : List Si} (h : areSi ps = true) : ps.Pairwise (fun a b => a.id < b.id) := by
  unfold areSi at h
  simp only [Bool.and_eq_true] at h
  exact (siGo_up ps none h.1).1
theorem sid_at {ps : List Si} {i : Nat} (hi : i < ps.length) : sid ps i = ps[i].id := by simp [sid, List.getD_eq_getElem?_getD, hi]
theorem sid_inj {ps : List Si} (h : areSi ps = true) {i j : Nat} (hi : i < ps.length) (hj : j < ps.length) (e : sid ps i = sid ps j) : i = j := by
  rw [sid_at hi, sid_at hj] at e
  have hp := List.pairwise_iff_getElem.1 (areSi_up h)
  rcases Nat.lt_trichotomy i j with g | g | g
  · have := hp i j hi hj g; omega
  · exact g
  · have := hp j i hj hi g; omega
theorem any_row {ps : List Si} (hv : areSi ps = true) {e : Nat → Nat → Bool} {k ia : Nat} (hi : ia < ps.length) : (((comp e ps.length k).map (sid ps)).any fun x => decide (x = sid ps ia)) = true ↔ ia ∈ comp e ps.length k := by
  rw [List.any_eq_true]
  constructor
  · rintro ⟨x, hx, hd⟩
    obtain ⟨m, hm, rfl⟩ := List.mem_map.1 hx
    obtain rfl := sid_inj hv (mem_comp.1 hm).lt hi (of_decide_eq_true hd)
    exact hm
  · intro hm
    exact ⟨sid ps ia, List.mem_map.2 ⟨ia, hm, rfl⟩, by simp⟩
theorem glGo_spec (P : Nat → Bool) : ∀ (f d : Nat), (∀ d', d ≤ d' → d' < glGo P f d → P d' = false) ∧ d ≤ glGo P f d ∧ glGo P f d ≤ d + f ∧ (P (d + f) = true → P (glGo P f d) = true)
  | 0, d => ⟨fun d' h1 h2 => by rw [glGo] at h2; omega, by rw [glGo]; omega, by rw [glGo]; omega, fun h => h⟩
  | f + 1, d => by
    rw [glGo]
    by_cases hp : P d = true
    · rw [if_pos hp]
      exact ⟨fun d' h1 h2 => by omega, by omega, by omega, fun _ => hp⟩
    · rw [if_neg hp]
      obtain ⟨h1, h2, h3, h4⟩ := glGo_spec P f (d + 1)
      refine ⟨fun d' g1 g2 => ?_, by omega, by omega, fun h => h4 (by rw [show d + 1 + f = d + (f + 1) by omega]; exact h)⟩
      by_cases hd : d' = d
      · subst hd; simpa using hp
      · exact h1 d' (by omega) g2
/-- what the greatest limit tells -/
theorem gl_facts {ps : List Si} {a b : Int} (h : (glRes ps a b).2 = true) : areSi ps = true ∧ ∃ (ia ib d : Nat) (ha : ia < ps.length) (hb : ib < ps.length), sid ps ia = a ∧ sid ps ib = b ∧ d ≤ 46 ∧ (glRes ps a b).1 = 16 - (d : Int) ∧
    glP ps ia ib d = true ∧ (∀ d', d' < d → glP ps ia ib d' = false) ∧ evOf ps a b = (evid ps[ia] ps[ib], true) := by
  by_cases hv : areSi ps = true
  rotate_left
  · unfold glRes at h; rw [if_neg hv] at h; cases h
  refine ⟨hv, ?_⟩
  have hg : glRes ps a b = if ixOf (fun s : Si => decide (s.id = a)) ps 0 < 0 then (0, false) else if ixOf (fun s : Si => decide (s.id = b)) ps 0 < 0 then (0, false)
    else if ixOf (fun s : Si => decide (s.id = a)) ps 0 = ixOf (fun s : Si => decide (s.id = b)) ps 0 then (0, false)
    else (16 - (glGo (glP ps (ixOf (fun s : Si => decide (s.id = a)) ps 0).toNat (ixOf (fun s : Si => decide (s.id = b)) ps 0).toNat) 46 0 : Int), true) := by unfold glRes; rw [if_pos hv]
  rw [hg] at h ⊢
  rcases ixOf_find (fun s : Si => decide (s.id = a)) ps with ⟨e1, _⟩ | ⟨ia, ha, e1, f1, p1, _⟩
  · rw [e1] at h; simp at h
  rcases ixOf_find (fun s : Si => decide (s.id = b)) ps with ⟨e2, _⟩ | ⟨ib, hb, e2, f2, p2, _⟩
  · rw [e1, e2] at h
    rw [if_neg (by omega)] at h
    simp at h
  rw [e1, e2] at h ⊢
  rw [if_neg (by omega), if_neg (by omega)] at h ⊢
  by_cases he : (ia : Int) = (ib : Int)
  · rw [if_pos he] at h; cases h
  rw [if_neg he]
  simp only [Int.toNat_natCast]
  obtain ⟨g1, g2, g3, g4⟩ := glGo_spec (glP ps ia ib) 46 0
  refine ⟨ia, ib, glGo (glP ps ia ib) 46 0, ha, hb, ?_, ?_, by omega, rfl, g4 (glP_last hv ha hb), fun d' hd => g1 d' (Nat.zero_le _) hd, ?_⟩
  · rw [sid_at ha]; exact of_decide_eq_true p1
  · rw [sid_at hb]; exact of_decide_eq_true p2
  · unfold evOf; rw [if_pos hv, f1, f2]
theorem gl_in {ps : List Si} {a b : Int} (h : (glRes ps a b).2 = true) : -30 ≤ (glRes ps a b).1 ∧ (glRes ps a b).1 ≤ 16 := by
  obtain ⟨_, ia, ib, d, _, _, _, _, h1, h2, _⟩ := gl_facts h
  omega
theorem cv_at {ps : List Si} {L : Int} (hv : areSi ps = true) (h1 : -30 ≤ L) (h2 : L ≤ 16) : cvRes ps L = (cvTo ps L ps.length, true) := by
  unfold cvRes
  rw [if_pos hv, if_pos (by unfold inR; simp; omega)]
theorem cvTo_mem {ps : List Si} {L : Int} {k : Nat} {g : List Int} (h : g ∈ cvTo ps L k) : ∃ i, g = (comp (edge ps L) ps.length i).map (sid ps) := by
  unfold cvTo groupsTo at h
  obtain ⟨x, hx, rfl⟩ := List.mem_map.1 h
  obtain ⟨i, _, rfl⟩ := List.mem_map.1 hx
  exact ⟨i, rfl⟩
/-- the cover of the one is the cover of the other -/
theorem gl_rows {ps : List Si} {a b : Int} (h : (glRes ps a b).2 = true) : ∀ g ∈ (cvRes ps (glRes ps a b).1).1, (g.any fun x => decide (x = a)) = (g.any fun x => decide (x = b)) := by
  obtain ⟨h1, h2⟩ := gl_in h
  obtain ⟨hv, ia, ib, d, ha, hb, rfl, rfl, h3, h4, h5, h6, _⟩ := gl_facts h
  intro g hg
  rw [cv_at hv h1 h2] at hg
  obtain ⟨i, rfl⟩ := cvTo_mem hg
  have hs := edge_sym (limit := (glRes ps (sid ps ia) (sid ps ib)).1) (areSi_nd hv)
  have h7 : Rch (edge ps (glRes ps (sid ps ia) (sid ps ib)).1) ps.length ia ib := by rw [h4]; exact mem_comp.1 (of_decide_eq_true h5)
  rw [Bool.eq_iff_iff, any_row hv ha, any_row hv hb, mem_comp, mem_comp]
  exact ⟨fun g => g.trans h7, fun g => g.trans (h7.symm hs)⟩
/-- one more, and they are of two covers -/
theorem gl_more {ps : List Si} {a b : Int} (h : (glRes ps a b).2 = true) (hl : (glRes ps a b).1 < 16) : ∀ g ∈ (cvRes ps ((glRes ps a b).1 + 1)).1, (g.any fun x => decide (x = a)) = true → (g.any fun x => decide (x = b)) = false := by
  obtain ⟨h1, h2⟩ := gl_in h
  obtain ⟨hv, ia, ib, d, ha, hb, rfl, rfl, h3, h4, h5, h6, _⟩ := gl_facts h
  intro g hg hga
  rw [cv_at hv (by omega) (by omega)] at hg
  obtain ⟨i, rfl⟩ := cvTo_mem hg
  have hs := edge_sym (limit := (glRes ps (sid ps ia) (sid ps ib)).1 + 1) (areSi_nd hv)
  have h7 := h6 (d - 1) (by omega)
  cases hgb : (((comp (edge ps ((glRes ps (sid ps ia) (sid ps ib)).1 + 1)) ps.length i).map (sid ps)).any fun x => decide (x = sid ps ib)) with
  | false => rfl
  | true =>
    rw [any_row hv ha, mem_comp] at hga
    rw [any_row hv hb, mem_comp] at hgb
    have h8 := (hga.symm hs).trans hgb
    exfalso
    unfold glP at h7
    have e : (16 - ((d - 1 : Nat) : Int)) = (glRes ps (sid ps ia) (sid ps ib)).1 + 1 := by omega
    rw [e] at h7
    exact of_decide_eq_false h7 (mem_comp.2 h8)
theorem gl_ge {ps : List Si} {a b : Int} (h : (glRes ps a b).2 = true) : (evOf ps a b).2 = true ∧ (evOf ps a b).1 ≤ (glRes ps a b).1 := by
  obtain ⟨hv, ia, ib, d, ha, hb, _, _, h3, h4, h5, h6, h7⟩ := gl_facts h
  rw [h7]
  refine ⟨rfl, ?_⟩
  show evid ps[ia] ps[ib] ≤ _
  have k1 := areSi_b hv _ (List.getElem_mem ha)
  have k2 := areSi_b hv _ (List.getElem_mem hb)
  have h8 : evid ps[ia] ps[ib] ≤ 16 ∧ -26 ≤ evid ps[ia] ps[ib] := by
    unfold evid
    have b1 := evGo_b ps[ib].traits ps[ia].traits 0
    have b2 : evGo ps[ib].traits ps[ia].traits 0 ≤ ps[ib].traits.length := by
      rw [evGo_comm (areSi_nd hv _ (List.getElem_mem ha)) (areSi_nd hv _ (List.getElem_mem hb))]
      have := evGo_b ps[ia].traits ps[ib].traits 0
      omega
    split <;> omega
  refine Decidable.byContradiction fun hc => ?_
  have h9 := h6 (16 - evid ps[ia] ps[ib]).toNat (by omega)
  unfold glP at h9
  refine of_decide_eq_false h9 (mem_comp.2 ((Rch.refl ha).step hb ?_))
  have e : 16 - (((16 - evid ps[ia] ps[ib]).toNat : Nat) : Int) = evid ps[ia] ps[ib] := by omega
  rw [e]
  simp [edge, List.getD_eq_getElem?_getD, List.getElem?_eq_getElem ha, List.getElem?_eq_getElem hb]
/-- each one is of one group -/
theorem groups_all {e : Nat → Nat → Bool} {n : Nat} (hs : ∀ x k, x < n → k < n → e x k = true → e k x = true) : ((groupsTo e n n).map List.length).sum = n := by
  have hp : ((groupsTo e n n).flatten).Perm (List.range n) := by
    refine (List.perm_ext_iff_of_nodup ?_ List.nodup_range).2 fun x => ?_
    · refine List.pairwise_flatten.2 ⟨fun l hl => ?_, ?_⟩
      · unfold groupsTo at hl
        obtain ⟨i, _, rfl⟩ := List.mem_map.1 hl
        exact comp_up.imp fun {a b} h => by omega
      · unfold groupsTo
        rw [List.pairwise_map, List.pairwise_filter]
        refine List.pairwise_lt_range.imp fun {i j} hij hi hj x hx y hy e => ?_
        subst e
        exact leadB_t.1 hj i hij ((mem_comp.1 hx).trans ((mem_comp.1 hy).symm hs))
    · rw [List.mem_flatten, List.mem_range]
      constructor
      · rintro ⟨l, hl, hx⟩
        unfold groupsTo at hl
        obtain ⟨i, _, rfl⟩ := List.mem_map.1 hl
        exact (mem_comp.1 hx).lt
      · intro hx
        have hm : x ∈ comp e n x := mem_comp.2 (.refl hx)
        have hup := comp_up (e := e) (n := n) (i := x)
        cases hc : comp e n x with
        | nil => rw [hc] at hm; cases hm
        | cons h0 t =>
          rw [hc, List.pairwise_cons] at hup
          have h0x : Rch e n x h0 := mem_comp.1 (by rw [hc]; simp)
          refine ⟨comp e n h0, ?_, mem_comp.2 (h0x.symm hs)⟩
          unfold groupsTo
          refine List.mem_map.2 ⟨h0, List.mem_filter.2 ⟨List.mem_range.2 h0x.lt, leadB_t.2 fun j hj hr => ?_⟩, rfl⟩
          have h1 := mem_comp.2 (h0x.trans (hr.symm hs))
          rw [hc] at h1
          rcases List.mem_cons.1 h1 with rfl | h1
          · omega
          · have := hup.1 j h1; omega
  have := hp.length_eq
  rwa [List.length_flatten, List.length_range] at this
theorem gl_sum {ps : List Si} {a b : Int} (h : (glRes ps a b).2 = true) : iiTot (cvRes ps (glRes ps a b).1).1 = ps.length := by
  obtain ⟨h1, h2⟩ := gl_in h
  obtain ⟨hv, _⟩ := gl_facts h
  rw [cv_at hv h1 h2]
  simp only [iiTot, cvTo, List.map_map]
  have := groups_all (n := ps.length) (edge_sym (limit := (glRes ps a b).1) (areSi_nd hv))
  refine Eq.trans ?_ this
  congr 2
  funext g
  simp
theorem cv_ok2 (ps : List Si) (L : Int) : (loneRes ps L).2 = (cvRes ps L).2 := by
  unfold loneRes cvRes
  split
  · split <;> rfl
  · rfl
theorem cv_none {ps : List Si} {L : Int} (h : (cvRes ps L).2 = false) : (cvRes ps L).1 = [] := by
  unfold cvRes at h ⊢
  split
  · rename_i hv
    rw [if_pos hv] at h
    split
    · rename_i hr; rw [if_pos hr] at h; cases h
    · rfl
  · rfl
/-- lone is who has a cover alone -/
theorem cv_lone {ps : List Si} {L : Int} : ∀ g ∈ (cvRes ps L).1, ∀ x ∈ g, ((loneRes ps L).1.any fun y => decide (y = x)) = decide (g.length = 1) := by
  intro g hg x hx
  by_cases hv : areSi ps = true
  rotate_left
  · unfold cvRes at hg; rw [if_neg hv] at hg; cases hg
  by_cases hr : inR L (-30) 16 = true
  rotate_left
  · unfold cvRes at hg; rw [if_pos hv, if_neg hr] at hg; cases hg
  have e1 : (cvRes ps L).1 = cvTo ps L ps.length := by unfold cvRes; rw [if_pos hv, if_pos hr]
  have e2 : (loneRes ps L).1 = loneTo ps L ps.length := by unfold loneRes; rw [if_pos hv, if_pos hr]
  rw [e1] at hg
  rw [e2]
  obtain ⟨k, rfl⟩ := cvTo_mem hg
  obtain ⟨m, hm, rfl⟩ := List.mem_map.1 hx
  have hml := (mem_comp.1 hm).lt
  have hs := edge_sym (limit := L) (areSi_nd hv)
  rw [Bool.eq_iff_iff, List.any_eq_true, decide_eq_true_eq, List.length_map, comp_same hs (mem_comp.1 hm)]
  constructor
  · rintro ⟨y, hy, hd⟩
    unfold loneTo at hy
    obtain ⟨i, hi, rfl⟩ := List.mem_map.1 hy
    obtain ⟨hi1, hi2⟩ := List.mem_filter.1 hi
    obtain rfl := sid_inj hv (List.mem_range.1 hi1) hml (of_decide_eq_true hd)
    exact of_decide_eq_true hi2
  · intro h1
    exact ⟨sid ps m, by unfold loneTo; exact List.mem_map.2 ⟨m, List.mem_filter.2 ⟨List.mem_range.2 hml, decide_eq_true h1⟩, rfl⟩, by simp⟩

end Go.Proofs.Ytafenginfojcmaa
