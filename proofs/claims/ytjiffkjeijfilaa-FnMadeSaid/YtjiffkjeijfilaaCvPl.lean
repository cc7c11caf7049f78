/- Changes: plain facts for the great laws. -/
import Derived.Test.YtjiffkjeijfilaaCoG
set_option maxRecDepth 8000
set_option linter.unusedSimpArgs false
set_option linter.unusedVariables false
namespace Go.Proofs.Ytjiffkjeijfilaa
open Go Go.RowKit

set_option maxHeartbeats 2000000
theorem mkM_some {ps : List Ra} {x y : Cv} {ch : Int} (h : mkM ps x ch = some y) : ∃ d z g, d ∈ daysM ps x ch ∧ z ∈ zonesM x ch ∧ g ∈ wsM ps x ch ∧ hitM ps x (chB ch 8) d z g = some y := by
  unfold mkM at h
  obtain ⟨d, hd, h⟩ := List.exists_of_findSome?_eq_some h
  obtain ⟨z, hz, h⟩ := List.exists_of_findSome?_eq_some h
  obtain ⟨g, hg, h⟩ := List.exists_of_findSome?_eq_some h
  exact ⟨d, z, g, hd, hz, hg, h⟩
theorem hitM_some {ps : List Ra} {x y : Cv} {fr : Bool} {d z g : Int} (h : hitM ps x fr d z g = some y) : 0 < (forGo d z g ps).1 ∧ (fr = true ∨ (forGo d z g ps).1 = x.paid) ∧ y = setCv x d z g (forGo d z g ps).1 := by
  unfold hitM at h
  split at h
  · rename_i hc
    cases h
    exact ⟨hc.1, hc.2, rfl⟩
  · cases h
theorem isRa_bb {r : Ra} (h : isRa r = true) : (0 ≤ r.zone ∧ r.zone ≤ 9) ∧ (1 ≤ r.grams ∧ r.grams ≤ 2000) ∧ (0 ≤ r.frm ∧ r.frm ≤ 4000) ∧ (0 ≤ r.til ∧ r.til ≤ 4000) ∧ r.frm ≤ r.til ∧ 1 ≤ r.cents ∧ r.cents ≤ 9999 := by
  simp only [isRa, inR, Bool.and_eq_true, decide_eq_true_eq] at h
  omega
theorem forGo_cents {d z g : Int} : ∀ {ps : List Ra}, (∀ r ∈ ps, isRa r = true) → 0 < (forGo d z g ps).1 → (forGo d z g ps).1 ≤ 9999
  | [], _, h => by simp [forGo] at h
  | r :: l, hr, h => by
    simp only [forGo] at h ⊢
    split
    · exact (isRa_bb (hr r (by simp))).2.2.2.2.2.2
    · rename_i hc
      rw [if_neg hc] at h
      exact forGo_cents (fun q hq => hr q (by simp [hq])) h
theorem raDays_b {ps : List Ra} (h : ∀ r ∈ ps, isRa r = true) : ∀ d ∈ raDays ps, 0 ≤ d ∧ d ≤ 4000 := by
  induction ps with
  | nil => intro d hd; cases hd
  | cons r l ih =>
    intro d hd
    have hr := isRa_bb (h r (by simp))
    rw [raDays_cons] at hd
    rcases List.mem_append.1 hd with hd | hd
    · rcases List.mem_cons.1 hd with rfl | hd
      · omega
      · split at hd
        · rw [List.mem_singleton.1 hd]; omega
        · cases hd
    · exact ih (fun q hq => h q (by simp [hq])) d hd
theorem putAll_in : ∀ (l o : List Int) (x : Int), x ∈ putAll l o → x ∈ l ∨ x ∈ o
  | [], _, _, h => .inr h
  | a :: r, o, x, h => by
    rw [putAll_1] at h
    rcases putAll_in r _ x h with h | h
    · exact .inl (by simp [h])
    · unfold putI at h
      split at h
      · exact .inr h
      · rcases List.mem_append.1 h with h | h
        · exact .inr ((List.takeWhile_sublist _).subset h)
        · rcases List.mem_cons.1 h with rfl | h
          · exact .inl (by simp)
          · exact .inr ((List.dropWhile_sublist _).subset h)
theorem isCv_bb {x : Cv} (h : isCv x = true) : (1 ≤ x.id ∧ x.id ≤ 999) ∧ (0 ≤ x.day ∧ x.day ≤ 4000) ∧ (0 ≤ x.zone ∧ x.zone ≤ 9) ∧ (1 ≤ x.grams ∧ x.grams ≤ 2000) ∧ 1 ≤ x.paid ∧ x.paid ≤ 9999 := by
  simp only [isCv, inR, Bool.and_eq_true, decide_eq_true_eq] at h
  omega
theorem isCv_set {x : Cv} (h : isCv x = true) {d z g c : Int} (hd : 0 ≤ d ∧ d ≤ 4000) (hz : 0 ≤ z ∧ z ≤ 9) (hg : 1 ≤ g ∧ g ≤ 2000) (hc : 1 ≤ c ∧ c ≤ 9999) : isCv (setCv x d z g c) = true := by
  simp only [isCv, setCv, inR, Bool.and_eq_true, decide_eq_true_eq] at h ⊢
  obtain ⟨h1, h2, h3, h4, h5, h6, h7, h8, h9, h10⟩ := h
  exact ⟨decide_eq_true h1, decide_eq_true hd, decide_eq_true hz, decide_eq_true hg, decide_eq_true hc, decide_eq_true h6, decide_eq_true h7, decide_eq_true h8, decide_eq_true h9, decide_eq_true h10⟩
/-- what a made cover is -/
theorem made {ps : List Ra} (hv : areRa ps = true) {x y : Cv} (hx : isCv x = true) {ch : Int} (h : mkM ps x ch = some y) : isCv y = true ∧ (forGo y.day y.zone y.grams ps).1 = y.paid ∧ (∃ d z g c, y = setCv x d z g c) ∧
    (chB ch 1 = false → y.day = x.day) ∧ (chB ch 2 = false → y.zone = x.zone) ∧ (chB ch 4 = false → y.grams = x.grams) ∧ (chB ch 8 = false → y.paid = x.paid) := by
  obtain ⟨d, z, g, hd, hz, hg, hh⟩ := mkM_some h
  obtain ⟨h1, h2, rfl⟩ := hitM_some hh
  have hr := areRa_at hv
  have hb := isCv_bb hx
  have hc := forGo_cents hr h1
  have hdb : (0 ≤ d ∧ d ≤ 4000) ∧ (chB ch 1 = false → d = x.day) := by
    unfold daysM at hd
    split at hd
    · rename_i hc1
      refine ⟨?_, fun hf => by rw [hf] at hc1; cases hc1⟩
      rcases putAll_in _ _ _ hd with hd | hd
      · exact raDays_b hr d hd
      · rw [List.mem_singleton.1 hd]; omega
    · have e := List.mem_singleton.1 hd
      exact ⟨by omega, fun _ => e⟩
  have hzb : (0 ≤ z ∧ z ≤ 9) ∧ (chB ch 2 = false → z = x.zone) := by
    unfold zonesM at hz
    split at hz
    · rename_i hc1
      refine ⟨?_, fun hf => by rw [hf] at hc1; cases hc1⟩
      simp only [List.mem_cons, List.not_mem_nil, or_false] at hz
      omega
    · have e := List.mem_singleton.1 hz
      exact ⟨by omega, fun _ => e⟩
  have hgb : (1 ≤ g ∧ g ≤ 2000) ∧ (chB ch 4 = false → g = x.grams) := by
    unfold wsM at hg
    split at hg
    · rename_i hc1
      refine ⟨?_, fun hf => by rw [hf] at hc1; cases hc1⟩
      rcases putAll_in _ _ _ hg with hg | hg
      · obtain ⟨r, hrm, hr1, rfl⟩ := raW_mem.1 hg
        have := isRa_bb (hr r hrm)
        omega
      · rw [List.mem_singleton.1 hg]; omega
    · have e := List.mem_singleton.1 hg
      exact ⟨by omega, fun _ => e⟩
  refine ⟨isCv_set hx hdb.1 hzb.1 hgb.1 ⟨by omega, hc⟩, rfl, ⟨_, _, _, _, rfl⟩, hdb.2, hzb.2, hgb.2, fun hf => ?_⟩
  rcases h2 with h2 | h2
  · rw [hf] at h2; cases h2
  · exact h2
theorem has0 {ps : List Ra} {x : Cv} (hx : isCv x = true) : hasM ps x 0 = decide ((forGo x.day x.zone x.grams ps).1 = x.paid) := by
  have hb := isCv_bb hx
  have c1 : chB 0 1 = false := by decide
  have c2 : chB 0 2 = false := by decide
  have c4 : chB 0 4 = false := by decide
  have c8 : chB 0 8 = false := by decide
  have e : mkM ps x 0 = hitM ps x false x.day x.zone x.grams := by
    simp [mkM, daysM, zonesM, wsM, c1, c2, c4, c8]
  rw [hasM, e, hitM]
  by_cases h : (forGo x.day x.zone x.grams ps).1 = x.paid
  · rw [if_pos ⟨by omega, .inr h⟩]; simp [h]
  · rw [if_neg (fun hc => h (hc.2.resolve_left (by simp)))]; simp [h]
theorem mem_all {ps : List Ra} {x : Cv} {a : Int} : a ∈ allM ps x ↔ (0 ≤ a ∧ a ≤ 15) ∧ hasM ps x a = true := by
  rw [allM_eq, List.mem_filter, mem_rangeI]
  constructor
  · rintro ⟨h1, h2⟩; exact ⟨by omega, h2⟩
  · rintro ⟨h1, h2⟩; exact ⟨by omega, h2⟩
theorem best_le : ∀ (l : List Int) (b : Int), ones (bestGo ⟨1, 1, 1, 1⟩ l b) ≤ ones b ∧ ∀ a ∈ l, ones (bestGo ⟨1, 1, 1, 1⟩ l b) ≤ ones a
  | [], b => ⟨Int.le_refl _, fun a ha => by cases ha⟩
  | x :: r, b => by
    obtain ⟨h1, h2⟩ := best_le r (if better ⟨1, 1, 1, 1⟩ x b = true then x else b)
    simp only [bestGo]
    have h3 : ones (if better ⟨1, 1, 1, 1⟩ x b = true then x else b) ≤ ones b ∧ ones (if better ⟨1, 1, 1, 1⟩ x b = true then x else b) ≤ ones x := by
      rw [better_one]
      by_cases hs : smaller x b = true
      · rw [if_pos hs]
        simp only [smaller, decide_eq_true_eq] at hs
        omega
      · rw [if_neg hs]
        simp only [smaller, decide_eq_true_eq] at hs
        omega
    refine ⟨by omega, fun a ha => ?_⟩
    rcases List.mem_cons.1 ha with rfl | ha
    · omega
    · exact h2 a ha
theorem best_all {L : List Int} (h : L ≠ []) : (bsRes ⟨1, 1, 1, 1⟩ L).1 ∈ L ∧ ∀ a ∈ L, ones (bsRes ⟨1, 1, 1, 1⟩ L).1 ≤ ones a := by
  cases L with
  | nil => exact absurd rfl h
  | cons a r =>
    have h1 := best_le r a
    simp only [bsRes]
    refine ⟨?_, fun b hb => ?_⟩
    · rcases bestGo_mem ⟨1, 1, 1, 1⟩ r a with e | e
      · rw [e]; simp
      · simp [e]
    · rcases List.mem_cons.1 hb with rfl | hb
      · exact h1.1
      · exact h1.2 b hb
theorem ones_dec : ∀ a ∈ rangeI 0 16, (0 ≤ ones a ∧ ones a ≤ 4) ∧ (ones a = 0 → a = 0) ∧ ones a = ((a.tdiv 1).tmod 2 + (a.tdiv 2).tmod 2 + (a.tdiv 4).tmod 2 + (a.tdiv 8).tmod 2) ∧ (0 ≤ (a.tdiv 1).tmod 2 ∧ (a.tdiv 1).tmod 2 ≤ 1) ∧ (0 ≤ (a.tdiv 2).tmod 2 ∧ (a.tdiv 2).tmod 2 ≤ 1) ∧ (0 ≤ (a.tdiv 4).tmod 2 ∧ (a.tdiv 4).tmod 2 ≤ 1) ∧ (0 ≤ (a.tdiv 8).tmod 2 ∧ (a.tdiv 8).tmod 2 ≤ 1) := by decide
theorem ones_b {a : Int} (h : 0 ≤ a ∧ a ≤ 15) : (0 ≤ ones a ∧ ones a ≤ 4) ∧ (ones a = 0 → a = 0) ∧ ones a = ((a.tdiv 1).tmod 2 + (a.tdiv 2).tmod 2 + (a.tdiv 4).tmod 2 + (a.tdiv 8).tmod 2) ∧ (0 ≤ (a.tdiv 1).tmod 2 ∧ (a.tdiv 1).tmod 2 ≤ 1) ∧ (0 ≤ (a.tdiv 2).tmod 2 ∧ (a.tdiv 2).tmod 2 ≤ 1) ∧ (0 ≤ (a.tdiv 4).tmod 2 ∧ (a.tdiv 4).tmod 2 ≤ 1) ∧ (0 ≤ (a.tdiv 8).tmod 2 ∧ (a.tdiv 8).tmod 2 ≤ 1) := ones_dec a (mem_rangeI.2 (by omega))
/-- where there is no change that makes the cover -/
theorem ch_no {ps : List Ra} {x : Cv} (h : (lcRes ps x).2.2 = false) : (pcRes ps x).1 = [] ∧ (exRes ps x).2 = (pcRes ps x).2 ∧ (exRes ps x).1 = false ∧ (ndRes ps x).2 = false := by
  by_cases hv : areRa ps = true
  rotate_left
  · simp [pcRes, exRes, ndRes, hv]
  by_cases hx : isCv x = true
  rotate_left
  · simp [pcRes, exRes, ndRes, hv, hx]
  by_cases hL : allM ps x = []
  rotate_left
  · unfold lcRes at h; rw [if_pos hv, if_pos hx, if_neg hL] at h; cases h
  have h0 : hasM ps x 0 = false := by
    cases hh : hasM ps x 0 with
    | false => rfl
    | true =>
      have : (0 : Int) ∈ allM ps x := mem_all.2 ⟨by omega, hh⟩
      rw [hL] at this; cases this
  rw [has0 hx] at h0
  have h1 : ¬ (forGo x.day x.zone x.grams ps).1 = x.paid := by simpa using h0
  simp [pcRes, exRes, ndRes, hv, hx, hL, h1]
structure ChOk (ps : List Ra) (x : Cv) : Prop where
  pc2 : (pcRes ps x).2 = true
  pcl : 0 < (pcRes ps x).1.length
  pcn : ¬ (pcRes ps x).1 = []
  ex2 : (exRes ps x).2 = true
  ex1 : (exRes ps x).1 = decide ((lcRes ps x).1 = 0)
  mc : mcRes ps x (lcRes ps x).1 = ((lcRes ps x).2.1, true)
  ey : exRes ps (lcRes ps x).2.1 = (true, true)
  cc : ccRes ps x ⟨1, 1, 1, 1⟩ = ((lcRes ps x).1, ones (lcRes ps x).1, true)
  le4 : 0 ≤ ones (lcRes ps x).1 ∧ ones (lcRes ps x).1 ≤ 4
  mem : ((pcRes ps x).1.any fun y => decide (y = (lcRes ps x).1)) = true
  min : ∀ a ∈ (pcRes ps x).1, (0 ≤ a ∧ a ≤ 15) ∧ ones (lcRes ps x).1 ≤ ones a
  nd2 : (ndRes ps x).2 = true
  nd : ∀ a ∈ (pcRes ps x).1, IntKind.i64.wrap (((a % 2 ^ IntKind.i64.bits).toNat &&& ((ndRes ps x).1 % 2 ^ IntKind.i64.bits).toNat : Nat) : Int) = (ndRes ps x).1
theorem and_nd {L : List Int} {a : Int} (ha : a ∈ L) (hb : 0 ≤ a ∧ a ≤ 15) : IntKind.i64.wrap (((a % 2 ^ IntKind.i64.bits).toNat &&& (ndS L % 2 ^ IntKind.i64.bits).toNat : Nat) : Int) = ndS L := by
  have key : ∀ p : Int → Bool, ((L.all p) && p a) = L.all p := fun p => by
    cases h : L.all p with
    | false => rfl
    | true => rw [List.all_eq_true.1 h a ha]; rfl
  have h1 := and_ch (L.all fun c => chB c 1) (L.all fun c => chB c 2) (L.all fun c => chB c 4) (L.all fun c => chB c 8) hb.1 hb.2
  rw [key fun c => chB c 1, key fun c => chB c 2, key fun c => chB c 4, key fun c => chB c 8] at h1
  rw [Nat.and_comm]
  exact h1
theorem ch_ok {ps : List Ra} {x : Cv} (h : (lcRes ps x).2.2 = true) : ChOk ps x := by
  by_cases hv : areRa ps = true
  rotate_left
  · unfold lcRes at h; rw [if_neg hv] at h; cases h
  by_cases hx : isCv x = true
  rotate_left
  · unfold lcRes at h; rw [if_pos hv, if_neg hx] at h; cases h
  by_cases hL : allM ps x = []
  · unfold lcRes at h; rw [if_pos hv, if_pos hx, if_pos hL] at h; cases h
  have e1 : lcRes ps x = ((bsRes ⟨1, 1, 1, 1⟩ (allM ps x)).1, (pairM (mkM ps x (bsRes ⟨1, 1, 1, 1⟩ (allM ps x)).1)).1, true) := by unfold lcRes; rw [if_pos hv, if_pos hx, if_neg hL]
  have e2 : pcRes ps x = (allM ps x, true) := by unfold pcRes; rw [if_pos hv, if_pos hx]
  have e3 : exRes ps x = (decide ((forGo x.day x.zone x.grams ps).1 = x.paid), true) := by unfold exRes; rw [if_pos (by simp [hv, hx])]
  have e4 : ndRes ps x = (ndS (allM ps x), true) := by unfold ndRes; rw [if_pos hv, if_pos hx, if_neg hL]
  have e5 : ccRes ps x ⟨1, 1, 1, 1⟩ = ((bsRes ⟨1, 1, 1, 1⟩ (allM ps x)).1, ones (bsRes ⟨1, 1, 1, 1⟩ (allM ps x)).1, true) := by unfold ccRes; rw [if_pos one4_ok, if_pos hv, if_pos hx, if_neg hL]; rfl
  obtain ⟨hm, hmin⟩ := best_all hL
  generalize hb : (bsRes ⟨1, 1, 1, 1⟩ (allM ps x)).1 = b at *
  obtain ⟨hbb, hhas⟩ := mem_all.1 hm
  obtain ⟨y, hy⟩ := Option.isSome_iff_exists.1 hhas
  have hmade := made hv hx hy
  have e6 : (lcRes ps x).2.1 = y := by rw [e1, hy]; rfl
  have e7 : (lcRes ps x).1 = b := by rw [e1]
  have e8 : (pcRes ps x).1 = allM ps x := by rw [e2]
  refine ⟨by rw [e2], by rw [e8]; exact List.length_pos_iff.2 hL, by rw [e8]; exact hL, by rw [e3], ?_, ?_, ?_, by rw [e7]; exact e5, by rw [e7]; exact (ones_b hbb).1, ?_, ?_, by rw [e4], ?_⟩
  · rw [e3, e7, ← has0 hx]
    show hasM ps x 0 = decide (b = 0)
    rw [Bool.eq_iff_iff, decide_eq_true_eq]
    constructor
    · intro h0
      have h9 := hmin 0 (mem_all.2 ⟨by omega, h0⟩)
      have h8 : ones 0 = 0 := by decide
      exact (ones_b hbb).2.1 (by have := (ones_b hbb).1; omega)
    · rintro rfl; exact hhas
  · rw [e6, e7]
    unfold mcRes
    rw [if_pos hv, if_pos hx, if_pos (by simp only [inR, decide_eq_true_eq]; omega), hy]
    rfl
  · rw [e6]
    unfold exRes
    rw [if_pos (by simp [hv, hmade.1]), decide_eq_true hmade.2.1]
  · rw [e7, e8]
    exact List.any_eq_true.2 ⟨b, hm, by simp⟩
  · rw [e7, e8]
    exact fun a ha => ⟨(mem_all.1 ha).1, hmin a ha⟩
  · rw [e8, e4]
    exact fun a ha => and_nd ha (mem_all.1 ha).1

end Go.Proofs.Ytjiffkjeijfilaa
