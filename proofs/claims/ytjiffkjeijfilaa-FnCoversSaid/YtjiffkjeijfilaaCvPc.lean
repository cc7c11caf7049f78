/- A cover without a fault: plain facts for its great law. -/
import Derived.Test.YtjiffkjeijfilaaCvS
set_option maxRecDepth 8000
set_option linter.unusedSimpArgs false
set_option linter.unusedVariables false
namespace Go.Proofs.Ytjiffkjeijfilaa
open Go Go.RowKit

set_option maxHeartbeats 1000000

theorem cov_true {ps : List Ra} {ms : List Ma} {x : Cv} (h : (foRes ps ms x).2 = true) (h0 : (foRes ps ms x).1 = 0) : (duRes ps x).2 = true ∧ (duRes ps x).1 = 0 ∧ (roRes ms x).2 = true := by
  by_cases hv : areRa ps = true
  rotate_left
  · unfold foRes at h; rw [if_neg hv] at h; cases h
  by_cases hm : areMa ms = true
  rotate_left
  · unfold foRes at h; rw [if_pos hv, if_neg hm] at h; cases h
  by_cases hc : isCv x = true
  rotate_left
  · unfold foRes at h; rw [if_pos hv, if_pos hm, if_neg hc] at h; cases h
  unfold foRes at h0
  rw [if_pos hv, if_pos hm, if_pos hc] at h0
  simp only [ftI] at h0
  have h1 : ¬ (forGo x.day x.zone x.grams ps).1 = 0 := fun e => by rw [if_pos e] at h0; cases h0
  rw [if_neg h1] at h0
  have h2 : ¬ x.paid < (forGo x.day x.zone x.grams ps).1 := fun e => by rw [if_pos e] at h0; cases h0
  rw [if_neg h2] at h0
  have h3 : ¬ 2 * (forGo x.day x.zone x.grams ps).1 < x.paid := fun e => by rw [if_pos e] at h0; cases h0
  rw [if_neg h3] at h0
  have h4 : ¬ tm ms x.frm x.leave x.to = 10000 := fun e => by rw [if_pos e] at h0; cases h0
  rw [if_neg h4] at h0
  have h5 : ¬ x.arrive < tm ms x.frm x.leave x.to := fun e => by rw [if_pos e] at h0; cases h0
  have e1 : duRes ps x = (0, true) := by unfold duRes; rw [if_pos hv, if_pos hc, if_neg h1, if_neg h2]
  have e2 : roRes ms x = (brL ms x.frm x.leave x.to, true) := by unfold roRes roT; rw [if_pos hm, if_pos hc, if_neg h4, if_neg h5]
  rw [e1, e2]
  exact ⟨rfl, rfl, rfl⟩
theorem roRes_len (ms : List Ma) (x : Cv) : (roRes ms x).1.length ≤ 10000 := by
  unfold roRes
  split
  · split
    · exact roT_len ms x
    · simp
  · simp
theorem br_walk {ms : List Ma} (hv : areMa ms = true) {t e : Int} (ht : 0 ≤ t ∧ t ≤ 9) {s m : Int} {l : List Int} (h : BR ms t e s m l) : 0 ≤ s ∧ s ≤ 9 → m ≤ 9999 → tm ms s m t = e → erGo ms l s m = (t, e, true) := by
  induction h with
  | done m =>
    intro hs hm he
    rw [tm_self hv hs hm] at he
    rw [erGo, he]
  | @step s m i l hne hi hh hf hr ih =>
    intro hs hm he
    have h1 := hh
    simp only [hitB, Bool.and_eq_true, decide_eq_true_eq] at h1
    have hb := isMa_b ((areMa_at hv).1 _ (List.getElem_mem hi))
    have e1 : ms[((i : Nat) : Int).toNat]? = some ms[i] := by rw [Int.toNat_natCast]; exact List.getElem?_eq_getElem hi
    have e2 : inR ((i : Nat) : Int) 0 ((ms.length : Int) - 1) = true := by simp only [inR, decide_eq_true_eq]; omega
    have e3 := ih (by omega) (by omega) h1.2.2
    rw [erGo, if_pos e2, e1]
    simp only
    rw [if_pos h1.1, if_pos h1.2.1]
    exact e3
theorem ro_true {ms : List Ma} {x : Cv} (h : (roRes ms x).2 = true) : areMa ms = true ∧ isCv x = true ∧ tm ms x.frm x.leave x.to ≠ 10000 ∧ tm ms x.frm x.leave x.to ≤ x.arrive ∧ (roRes ms x).1 = brL ms x.frm x.leave x.to := by
  by_cases hm : areMa ms = true
  rotate_left
  · unfold roRes at h; rw [if_neg hm] at h; cases h
  by_cases hc : isCv x = true
  rotate_left
  · unfold roRes at h; rw [if_pos hm, if_neg hc] at h; cases h
  have e : roRes ms x = roT ms x := by unfold roRes; rw [if_pos hm, if_pos hc]
  rw [e] at h ⊢
  by_cases h4 : tm ms x.frm x.leave x.to = 10000
  · unfold roT at h; rw [if_pos h4] at h; cases h
  by_cases h5 : x.arrive < tm ms x.frm x.leave x.to
  · unfold roT at h; rw [if_neg h4, if_pos h5] at h; cases h
  exact ⟨hm, hc, h4, by omega, by unfold roT; rw [if_neg h4, if_neg h5]⟩
theorem ro_iff {ms : List Ma} {x : Cv} (hm : areMa ms = true) (hc : isCv x = true) : (roRes ms x).2 = decide (tm ms x.frm x.leave x.to ≤ x.arrive) := by
  have hb := isCv_b hc
  unfold roRes roT
  rw [if_pos hm, if_pos hc]
  by_cases h4 : tm ms x.frm x.leave x.to = 10000
  · rw [if_pos h4, decide_eq_false (by omega)]
  rw [if_neg h4]
  by_cases h5 : x.arrive < tm ms x.frm x.leave x.to
  · rw [if_pos h5, decide_eq_false (by omega)]
  · rw [if_neg h5, decide_eq_true (by omega)]
theorem route_end {ms : List Ma} {x : Cv} (h : (roRes ms x).2 = true) : (eoRes ms x.frm x.leave (roRes ms x).1).2.2 = true ∧ (eoRes ms x.frm x.leave (roRes ms x).1).1 = x.to ∧ (eoRes ms x.frm x.leave (roRes ms x).1).2.1 ≤ x.arrive := by
  obtain ⟨hm, hc, h4, h5, h6⟩ := ro_true h
  have hb := isCv_b hc
  have e1 : inR x.frm 0 9 = true := by simp only [inR, decide_eq_true_eq]; omega
  have e2 : inR x.leave 0 9999 = true := by simp only [inR, decide_eq_true_eq]; omega
  have hw := br_walk hm (t := x.to) (by omega) (brL_ok hm (by omega) (by omega) (by omega) h4) (by omega) (by omega) rfl
  rw [h6]
  unfold eoRes
  rw [if_pos hm, if_pos e1, if_pos e2, hw]
  exact ⟨rfl, rfl, h5⟩
theorem llGo_mono {ms : List Ma} {f t u : Int} : ∀ (l : List Ma) (b : Int), b ≤ llGo ms f t u l b
  | [], _ => Int.le_refl _
  | x :: r, b => by
    rw [llGo]
    refine Int.le_trans ?_ (llGo_mono r _)
    split
    · split <;> omega
    · exact Int.le_refl _
theorem llGo_ge {ms : List Ma} {f t u : Int} {y : Ma} (hy : hitL ms f t u y = true) : ∀ (l : List Ma) (b : Int), y ∈ l → y.leave ≤ llGo ms f t u l b
  | [], _, h => by cases h
  | x :: r, b, h => by
    rw [llGo]
    rcases List.mem_cons.1 h with rfl | h
    · refine Int.le_trans ?_ (llGo_mono r _)
      rw [if_pos hy]
      split <;> omega
    · exact llGo_ge hy r _ h
theorem llGo_mem {ms : List Ma} {f t u : Int} : ∀ (l : List Ma) (b : Int), llGo ms f t u l b = b ∨ ∃ y ∈ l, hitL ms f t u y = true ∧ llGo ms f t u l b = y.leave
  | [], _ => .inl rfl
  | x :: r, b => by
    rw [llGo]
    rcases llGo_mem r (if hitL ms f t u x = true then (if b < x.leave then x.leave else b) else b) with e | ⟨y, h1, h2, h3⟩
    · rw [e]
      by_cases hx : hitL ms f t u x = true
      · rw [if_pos hx]
        split
        · exact .inr ⟨x, by simp, hx, rfl⟩
        · exact .inl rfl
      · rw [if_neg hx]; exact .inl rfl
    · exact .inr ⟨y, by simp [h1], h2, h3⟩
theorem ll_hit {ms : List Ma} {f t u : Int} (h : 0 ≤ llV ms f t u) : ∃ y ∈ ms, hitL ms f t u y = true ∧ llV ms f t u = y.leave := by
  rcases llGo_mem (ms := ms) (f := f) (t := t) (u := u) ms (-1) with e | e
  · unfold llV at h; omega
  · exact e
theorem ll_iff {ms : List Ma} (hv : areMa ms = true) {f t u m : Int} (hf : 0 ≤ f ∧ f ≤ 9) (ht : 0 ≤ t ∧ t ≤ 9) (hu : u ≤ 9999) (hm : 0 ≤ m ∧ m ≤ 9999) (hne : f ≠ t) : m ≤ llV ms f t u ↔ tm ms f m t ≤ u := by
  constructor
  · intro h
    obtain ⟨y, hy, h1, h2⟩ := ll_hit (ms := ms) (f := f) (t := t) (u := u) (by omega)
    simp only [hitL, Bool.and_eq_true, decide_eq_true_eq] at h1
    have hb := isMa_b ((areMa_at hv).1 y hy)
    have r2 := tm_rs hv (s := y.to) (m := y.arrive) (by omega) (by omega) ht (by omega)
    have := tm_least hv (s := f) (m := m) hf hm.2 (r2.cons hy h1.1 (by omega))
    omega
  · intro h
    obtain ⟨y, hy, h1⟩ := hit_ex hv hf hm.2 ht rfl (by omega) hne
    simp only [hitB, Bool.and_eq_true, decide_eq_true_eq] at h1
    have h2 := llGo_ge (ms := ms) (f := f) (t := t) (u := u) (y := y) (by simp only [hitL, Bool.and_eq_true, decide_eq_true_eq]; omega) ms (-1) hy
    unfold llV
    omega
theorem sm_iff {ms : List Ma} {x : Cv} (hm : areMa ms = true) (hc : isCv x = true) : (smRes ms x).2 = decide (x.leave ≤ llV ms x.frm x.to x.arrive) ∧ ((smRes ms x).2 = true → (smRes ms x).1 = llV ms x.frm x.to x.arrive - x.leave) := by
  have hb := isCv_b hc
  unfold smRes llRes
  rw [if_pos hm, if_pos hc]
  by_cases h0 : 0 ≤ llV ms x.frm x.to x.arrive
  · simp only
    rw [if_pos (decide_eq_true h0), if_neg (show ¬ llV ms x.frm x.to x.arrive < 0 by omega)]
    by_cases h1 : llV ms x.frm x.to x.arrive < x.leave
    · rw [if_pos h1, decide_eq_false (by omega)]
      exact ⟨rfl, fun h => by cases h⟩
    · rw [if_neg h1, decide_eq_true (by omega)]
      exact ⟨rfl, fun _ => rfl⟩
  · simp only
    rw [if_neg (by simp [h0]), decide_eq_false (by omega)]
    exact ⟨rfl, fun h => by cases h⟩
theorem known_fine (ms : List Ma) (x : Cv) : (smRes ms x).2 = (roRes ms x).2 := by
  by_cases hm : areMa ms = true
  rotate_left
  · unfold smRes roRes; rw [if_neg hm, if_neg hm]
  by_cases hc : isCv x = true
  rotate_left
  · unfold smRes roRes; rw [if_pos hm, if_neg hc, if_pos hm, if_neg hc]
  have hb := isCv_b hc
  rw [ro_iff hm hc, (sm_iff hm hc).1, decide_eq_decide]
  exact ll_iff hm (by omega) (by omega) (by omega) (by omega) (by omega)
theorem late_fine {ms : List Ma} {x : Cv} (h : (smRes ms x).2 = true) : (roRes ms ⟨x.id, x.day, x.zone, x.grams, x.paid, x.frm, x.to, IntKind.i64.wrap (x.leave + (smRes ms x).1), x.arrive⟩).2 = true := by
  have hr := ro_true (by rw [← known_fine]; exact h)
  obtain ⟨hm, hc, _⟩ := hr
  have hb := isCv_b hc
  have hs := sm_iff hm hc
  have h1 := h
  rw [hs.1, decide_eq_true_eq] at h1
  rw [hs.2 h, show x.leave + (llV ms x.frm x.to x.arrive - x.leave) = llV ms x.frm x.to x.arrive by omega]
  have hl := llV_b hm x.frm x.to x.arrive
  rw [wrap_id (by omega) (by omega)]
  obtain ⟨y, hy, g1, g2⟩ := ll_hit (ms := ms) (f := x.frm) (t := x.to) (u := x.arrive) (by omega)
  simp only [hitL, Bool.and_eq_true, decide_eq_true_eq] at g1
  have hyb := isMa_b ((areMa_at hm).1 y hy)
  have hge := tm_ge hm (s := y.to) (m := y.arrive) (by omega) (by omega) (t := x.to) (by omega)
  have hc2 : isCv ⟨x.id, x.day, x.zone, x.grams, x.paid, x.frm, x.to, llV ms x.frm x.to x.arrive, x.arrive⟩ = true := by
    simp only [isCv, inR, Bool.and_eq_true, decide_eq_true_eq] at hc ⊢
    omega
  rw [ro_iff hm hc2, decide_eq_true_eq]
  have h9 : tm ms x.frm (llV ms x.frm x.to x.arrive) x.to ≤ x.arrive := (ll_iff hm (by omega) (by omega) (by omega) (by omega) (by omega)).1 (Int.le_refl _)
  exact h9

end Go.Proofs.Ytjiffkjeijfilaa
