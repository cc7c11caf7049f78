/- The text of a sighting. -/
import Derived.Test.YtnbjiigcldmgoaaDoorSdU
set_option maxRecDepth 8000
set_option linter.unusedSimpArgs false
set_option linter.unusedVariables false
namespace Go.Proofs.YtnbjiigcldmgoaaDoor
open Go Go.RowKit

set_option maxHeartbeats 4000000
theorem areSi_one (s : Si) : areSi [s] = isSi s := by
  simp only [areSi, siGo]
  cases isSi s <;> simp
def stGo : List Int → List UInt8 → List UInt8
  | [], o => o
  | t :: r, o => stGo r (o ++ ([32, 35] ++ numT t))
def stTxt (s : Si) : List UInt8 := stGo s.traits (numT s.id ++ [32] ++ s.town ++ [32] ++ numT s.year)
def stRes (s : Si) : List UInt8 × Bool := if isSi s = true then (stTxt s, true) else ([], false)
theorem wordGo_len {n : Nat} : ∀ {l : List UInt8}, wordGo n l = true → inR n 1 10 = true
  | [], h => h
  | c :: r, h => by
    simp only [wordGo] at h
    split at h
    · cases h
    · split at h
      · cases h
      · exact wordGo_len h
theorem isSi_b {s : Si} (h : isSi s = true) : 1 ≤ s.id ∧ s.id ≤ 999 ∧ 1840 ≤ s.year ∧ s.year ≤ 2100 ∧ s.town.length ≤ 10 ∧ s.traits.length ≤ 8 ∧ ∀ t ∈ s.traits, 1 ≤ t ∧ t ≤ 50 := by
  simp only [isSi, Bool.and_eq_true, decide_eq_true_eq] at h
  obtain ⟨h1, h2, h3, h4, h5⟩ := h
  have hw := wordGo_len (l := s.town) (n := s.town.length) h3
  have hr : ∀ (l : List Int) (o : Option Int), risGo 1 50 o l = true → ∀ t ∈ l, 1 ≤ t ∧ t ≤ 50 := by
    intro l
    induction l with
    | nil => intro o _ t ht; cases ht
    | cons x r ih =>
      intro o hx t ht
      simp only [risGo, Bool.if_false_right, Bool.and_eq_true, decide_eq_true_eq] at hx
      rcases List.mem_cons.1 ht with rfl | ht
      · have := hx.1; simp only [inR, decide_eq_true_eq] at this; exact this
      · exact ih _ hx.2.2 t ht
  have ht := hr s.traits none h5
  simp only [inR, decide_eq_true_eq] at h1 h2 hw
  exact ⟨h1.1, h1.2, h2.1, h2.2, by omega, by omega, ht⟩

def q_st : Con := fun args H K => match args with
  | [.agg s_e] => onv (eSi.dec H s_e) fun s => (∀ w, H.I w → tabI w) ∧ K (.tup [.c (.str ((stRes s).1)), .c (.bool ((stRes s).2))]) H
  | _ => False
@[simp ↓] theorem q_st_eq (s_e : List AC) (H : AHeap) (K : AV → AHeap → Prop) : q_st [.agg s_e] H K = (onv (eSi.dec H s_e) fun s => (∀ w, H.I w → tabI w) ∧ K (.tup [.c (.str ((stRes s).1)), .c (.bool ((stRes s).2))]) H) := rfl

@[simp] theorem onv_decL_one {α : Type} (E : EncH α) (H : AHeap) (e : List AC) (K : List α → Prop) : onv (E.decL H [e]) K = onv (E.dec H e) fun x => K [x] := by
  simp only [EncH.decL]
  cases E.dec H e <;> rfl
@[simp] theorem si_eta1 (p : Si) : (⟨p.id, p.year, p.town, p.traits⟩ : Si) = p := (rfl)
def boxS (b i : Nat) (s : Si) : ABlk := ⟨28, 4, false, false, [[.int .i64 s.id, .int .i64 s.year, .str s.town, .sl b i s.traits.length]]⟩

theorem impl_SightingText_s : Sound Tryd.prog 7 q_st := by
  intro args H K h
  unfold q_st at h
  split at h
  rotate_left
  all_goals first | exact False.elim h | skip
  rename_i s_e
  have h1 := onv_iff.1 h
  clear h
  obtain ⟨s, hd_s, h⟩ := h1
  obtain ⟨b_s, i_s, k_s, rfl, hat_s, htx_s⟩ := eSi_at hd_s
  have hE := soundE_cons impl_areSightings_s (soundE_cons strconv_Itoa_s (soundE_nil (P := Tryd.prog)))
  refine acalls_fn impl_SightingText_k hE ⟨by simp, fun hwf => ?_⟩
  have hsr : SubE H H := SubE.refl H
  have hsp : ∀ H' k, H.n ≤ H'.n → SubE H H' → SubE H (H'.push k) := fun H' k hn hs => SubE.push hwf hn hs k
  have hst : ∀ H', SubE H H' → SubE H H'.toRo := fun H' hs => hs.toRo
  have hss : ∀ H' i k, H.n ≤ i → SubE H H' → SubE H (H'.set i k) := fun H' i k hn hs => SubE.set hwf hn hs k
  have hsk : ∀ H' i, H.n ≤ i → SubE H H' → SubE H (H'.kill i) := fun H' i hn hs => SubE.kill hwf hn hs
  have hb_s : b_s < H.n := (hwf b_s k_s hat_s.blk).1
  have hne_s : (b_s = H.n) = False := eq_false (by omega)
  have hne1_s : ∀ i, (b_s = H.n + i) = False := fun i => eq_false (by omega)
  have hne2_s : (b_s = H.n + 1 + 1) = False ∧ (b_s = H.n + 1 + 1 + 1) = False ∧ (b_s = H.n + 1 + 1 + 1 + 1) = False ∧ (b_s = H.n + 1 + 1 + 1 + 1 + 1) = False ∧ (b_s = H.n + 1 + 1 + 1 + 1 + 1 + 1) = False ∧ (b_s = H.n + 1 + 1 + 1 + 1 + 1 + 1 + 1) = False ∧ (b_s = H.n + 1 + 1 + 1 + 1 + 1 + 1 + 1 + 1) = False ∧ (b_s = H.n + 1 + 1 + 1 + 1 + 1 + 1 + 1 + 1 + 1) = False ∧ (b_s = H.n + 1 + 1 + 1 + 1 + 1 + 1 + 1 + 1 + 1 + 1) = False ∧ (b_s = H.n + 1 + 1 + 1 + 1 + 1 + 1 + 1 + 1 + 1 + 1 + 1) = False ∧ (b_s = H.n + 1 + 1 + 1 + 1 + 1 + 1 + 1 + 1 + 1 + 1 + 1 + 1) = False := ⟨eq_false (by omega), eq_false (by omega), eq_false (by omega), eq_false (by omega), eq_false (by omega), eq_false (by omega), eq_false (by omega), eq_false (by omega), eq_false (by omega), eq_false (by omega), eq_false (by omega)⟩
  have hmx_s : s.traits.length ≤ 9223372036854775807 := by have h1 := (hwf b_s k_s hat_s.blk).2.2; have h2 := hat_s.len; omega
  obtain ⟨hI, h⟩ := h
  by_cases hv : isSi s = true
  rotate_left
  · simp (config := {contextual := true, implicitDefEqProofs := false, maxSteps := 2000000}) [-Int.not_le, -Int.not_lt, argsF, impl_SightingText_c, hat_s.blk, hat_s.esz, hat_s.len, hat_s.els, hne_s, hne1_s, hne2_s.1, hne2_s.2.1, hne2_s.2.2.1, hne2_s.2.2.2.1, hne2_s.2.2.2.2.1, hne2_s.2.2.2.2.2.1, hne2_s.2.2.2.2.2.2.1, hne2_s.2.2.2.2.2.2.2.1, hne2_s.2.2.2.2.2.2.2.2.1, hne2_s.2.2.2.2.2.2.2.2.2.1, hne2_s.2.2.2.2.2.2.2.2.2.2, htx_s, hsr, hsp, hst, hss, hsk, hv, areSi_one]
    simp only [stRes, hv, if_false, reduceCtorEq] at h
    (refine Out.plain hwf ?_ rfl ?_; (repeat first | exact Sub.refl _ | refine Sub.push hwf ?_ _ | refine Sub.set hwf ?_ (by first | exact Nat.le_refl _ | omega) _ | refine Sub.kill hwf ?_ (by first | exact Nat.le_refl _ | omega))); exact h
  obtain ⟨v1, v2, v3, v4, v5, v6, v7⟩ := isSi_b hv
  have l0 := numT_len19 (n := s.id) (by omega) (by omega)
  have p0 : 0 ≤ s.id := by omega
  have r0 : s.id ≤ 9223372036854775807 := by omega
  have l1 := numT_len19 (n := s.year) (by omega) (by omega)
  have p1 : 0 ≤ s.year := by omega
  have r1 : s.year ≤ 9223372036854775807 := by omega
  simp only [stRes, stTxt, hv, if_true] at h
  have hwfB : ((H.push (boxS b_s i_s s)).push (boxS b_s i_s s)).WF := WF.push (WF.push hwf (by simp [boxS, AC.okR, hb_s]) (by simp [boxS])) (by simp [boxS, AC.okR]; omega) (by simp [boxS])
  have hbs1 : b_s < H.n + 1 := by omega
  have hbs2 : b_s < H.n + 1 + 1 := by omega
  simp (config := {contextual := true, implicitDefEqProofs := false, maxSteps := 2000000}) [-Int.not_le, -Int.not_lt, argsF, impl_SightingText_c, hat_s.blk, hat_s.esz, hat_s.len, hat_s.els, hne_s, hne1_s, hne2_s.1, hne2_s.2.1, hne2_s.2.2.1, hne2_s.2.2.2.1, hne2_s.2.2.2.2.1, hne2_s.2.2.2.2.2.1, hne2_s.2.2.2.2.2.2.1, hne2_s.2.2.2.2.2.2.2.1, hne2_s.2.2.2.2.2.2.2.2.1, hne2_s.2.2.2.2.2.2.2.2.2.1, hne2_s.2.2.2.2.2.2.2.2.2.2, htx_s, hsr, hsp, hst, hss, hsk, hv, areSi_one, hI, p0, r0, p1, r1]
  repeat (refine ⟨by omega, ?_⟩)
  have e0 : numT s.id ++ 32 :: (s.town ++ 32 :: numT s.year) = numT s.id ++ [32] ++ s.town ++ [32] ++ numT s.year := by simp
  rw [e0]
  generalize hT : numT s.id ++ [32] ++ s.town ++ [32] ++ numT s.year = T0 at h
  have hTl : T0.length ≤ 50 := by rw [← hT]; simp only [List.length_append, List.length_cons, List.length_nil]; omega
  refine aloop_list s.traits (fun j (o : List UInt8) => [(4, .c (.str (o))), (24, .c (.sl b_s i_s s.traits.length)), (25, .c (.int .i64 s.traits.length)), (26, .c (.int .i64 (j)))]) (fun j (o : List UInt8) => (H.push (boxS b_s i_s s)).push (boxS b_s i_s s)) (fun j l (o : List UInt8) => o.length ≤ 50 + 30 * j ∧ stGo l o = stGo s.traits T0) hE _ T0 ⟨by show T0.length ≤ 50 + 30 * 0; omega, rfl⟩ (Weak.since (H := (H.push (boxS b_s i_s s)).push (boxS b_s i_s s)) (by simp only [push_n]; omega) hwfB (.refl _) (by simp [frOk, AV.okR, AV.ok1, AC.okR, AV.ren, AV.ren1, AC.ren, AFrame.get, pl1_old, *]; first | done | omega)) (fun j o hlt hi => ?_) fun o hi => ?_
  · obtain ⟨hi0, hi⟩ := hi
    have hj1 := idx_lt hlt
    have w1 : IntKind.i64.wrap ((j : Int) + 1) = (j : Int) + 1 := wrap_id (by omega) (by omega)
    have et := hat_s.get hlt
    have hvt := v7 _ (List.getElem_mem hlt)
    have lt := numT_len19 (n := s.traits[j]) (by omega) (by omega)
    have pt : 0 ≤ s.traits[j] := Int.le_trans (by decide) hvt.1
    have rt : s.traits[j] ≤ 9223372036854775807 := Int.le_trans hvt.2 (by decide)
    simp (config := {contextual := true, implicitDefEqProofs := false, maxSteps := 2000000}) [-Int.not_le, -Int.not_lt, argsF, impl_SightingText_l0, boxS, hat_s.blk, hat_s.esz, hat_s.len, hat_s.els, hne_s, hne1_s, hne2_s.1, hne2_s.2.1, hne2_s.2.2.1, hne2_s.2.2.2.1, hne2_s.2.2.2.2.1, hne2_s.2.2.2.2.2.1, hne2_s.2.2.2.2.2.2.1, hne2_s.2.2.2.2.2.2.2.1, hne2_s.2.2.2.2.2.2.2.2.1, hne2_s.2.2.2.2.2.2.2.2.2.1, hne2_s.2.2.2.2.2.2.2.2.2.2, et, hj1, hlt, w1, hI, pt, rt]
    simp only [stGo] at hi
    refine ⟨by omega, by omega, ?_⟩
    exact ⟨o ++ 32 :: 35 :: numT s.traits[j], ⟨by simp only [List.length_append, List.length_cons]; omega, by simpa using hi⟩, .since (by simp only [push_n]; omega) hwfB (.refl _) (by simp [frOk, AV.okR, AV.ok1, AC.okR, AV.ren, AV.ren1, AC.ren, AFrame.get, pl1_old, *]; first | done | omega)⟩
  · obtain ⟨hi0, hi⟩ := hi
    simp only [stGo] at hi
    simp (config := {contextual := true, implicitDefEqProofs := false, maxSteps := 2000000}) [-Int.not_le, -Int.not_lt, argsF, impl_SightingText_l0, boxS, hat_s.blk, hat_s.esz, hat_s.len, hat_s.els, hne_s, hne1_s, hne2_s.1, hne2_s.2.1, hne2_s.2.2.1, hne2_s.2.2.2.1, hne2_s.2.2.2.2.1, hne2_s.2.2.2.2.2.1, hne2_s.2.2.2.2.2.2.1, hne2_s.2.2.2.2.2.2.2.1, hne2_s.2.2.2.2.2.2.2.2.1, hne2_s.2.2.2.2.2.2.2.2.2.1, hne2_s.2.2.2.2.2.2.2.2.2.2]
    rw [← hi] at h
    (refine Out.plain hwf ?_ rfl ?_; (repeat first | exact Sub.refl _ | refine Sub.push hwf ?_ _ | refine Sub.set hwf ?_ (by first | exact Nat.le_refl _ | omega) _ | refine Sub.kill hwf ?_ (by first | exact Nat.le_refl _ | omega))); exact h

theorem spec_SightingText_s : Sound Tryd.prog 5 q_st := by
  intro args H K h
  unfold q_st at h
  split at h
  rotate_left
  all_goals first | exact False.elim h | skip
  rename_i s_e
  have h1 := onv_iff.1 h
  clear h
  obtain ⟨s, hd_s, h⟩ := h1
  obtain ⟨b_s, i_s, k_s, rfl, hat_s, htx_s⟩ := eSi_at hd_s
  have hE := soundE_cons spec_l13One_s (soundE_cons spec_l1Num_s (soundE_nil (P := Tryd.prog)))
  refine acalls_fn spec_SightingText_k hE ⟨by simp, fun hwf => ?_⟩
  have hsr : SubE H H := SubE.refl H
  have hsp : ∀ H' k, H.n ≤ H'.n → SubE H H' → SubE H (H'.push k) := fun H' k hn hs => SubE.push hwf hn hs k
  have hst : ∀ H', SubE H H' → SubE H H'.toRo := fun H' hs => hs.toRo
  have hss : ∀ H' i k, H.n ≤ i → SubE H H' → SubE H (H'.set i k) := fun H' i k hn hs => SubE.set hwf hn hs k
  have hsk : ∀ H' i, H.n ≤ i → SubE H H' → SubE H (H'.kill i) := fun H' i hn hs => SubE.kill hwf hn hs
  have hb_s : b_s < H.n := (hwf b_s k_s hat_s.blk).1
  have hne_s : (b_s = H.n) = False := eq_false (by omega)
  have hne1_s : ∀ i, (b_s = H.n + i) = False := fun i => eq_false (by omega)
  have hne2_s : (b_s = H.n + 1 + 1) = False ∧ (b_s = H.n + 1 + 1 + 1) = False ∧ (b_s = H.n + 1 + 1 + 1 + 1) = False ∧ (b_s = H.n + 1 + 1 + 1 + 1 + 1) = False ∧ (b_s = H.n + 1 + 1 + 1 + 1 + 1 + 1) = False ∧ (b_s = H.n + 1 + 1 + 1 + 1 + 1 + 1 + 1) = False ∧ (b_s = H.n + 1 + 1 + 1 + 1 + 1 + 1 + 1 + 1) = False ∧ (b_s = H.n + 1 + 1 + 1 + 1 + 1 + 1 + 1 + 1 + 1) = False ∧ (b_s = H.n + 1 + 1 + 1 + 1 + 1 + 1 + 1 + 1 + 1 + 1) = False ∧ (b_s = H.n + 1 + 1 + 1 + 1 + 1 + 1 + 1 + 1 + 1 + 1 + 1) = False ∧ (b_s = H.n + 1 + 1 + 1 + 1 + 1 + 1 + 1 + 1 + 1 + 1 + 1 + 1) = False := ⟨eq_false (by omega), eq_false (by omega), eq_false (by omega), eq_false (by omega), eq_false (by omega), eq_false (by omega), eq_false (by omega), eq_false (by omega), eq_false (by omega), eq_false (by omega), eq_false (by omega)⟩
  have hmx_s : s.traits.length ≤ 9223372036854775807 := by have h1 := (hwf b_s k_s hat_s.blk).2.2; have h2 := hat_s.len; omega
  obtain ⟨hI, h⟩ := h
  by_cases hv : isSi s = true
  rotate_left
  · simp (config := {contextual := true, implicitDefEqProofs := false, maxSteps := 2000000}) [-Int.not_le, -Int.not_lt, argsF, spec_SightingText_c, hat_s.blk, hat_s.esz, hat_s.len, hat_s.els, hne_s, hne1_s, hne2_s.1, hne2_s.2.1, hne2_s.2.2.1, hne2_s.2.2.2.1, hne2_s.2.2.2.2.1, hne2_s.2.2.2.2.2.1, hne2_s.2.2.2.2.2.2.1, hne2_s.2.2.2.2.2.2.2.1, hne2_s.2.2.2.2.2.2.2.2.1, hne2_s.2.2.2.2.2.2.2.2.2.1, hne2_s.2.2.2.2.2.2.2.2.2.2, htx_s, hsr, hsp, hst, hss, hsk, hv, areSi_one]
    simp only [stRes, hv, if_false, reduceCtorEq] at h
    (refine Out.plain hwf ?_ rfl ?_; (repeat first | exact Sub.refl _ | refine Sub.push hwf ?_ _ | refine Sub.set hwf ?_ (by first | exact Nat.le_refl _ | omega) _ | refine Sub.kill hwf ?_ (by first | exact Nat.le_refl _ | omega))); exact h
  obtain ⟨v1, v2, v3, v4, v5, v6, v7⟩ := isSi_b hv
  have l0 := numT_len19 (n := s.id) (by omega) (by omega)
  have p0 : 0 ≤ s.id := by omega
  have r0 : s.id ≤ 9223372036854775807 := by omega
  have l1 := numT_len19 (n := s.year) (by omega) (by omega)
  have p1 : 0 ≤ s.year := by omega
  have r1 : s.year ≤ 9223372036854775807 := by omega
  simp only [stRes, stTxt, hv, if_true] at h
  have hwfB : (H.push (boxS b_s i_s s)).WF := WF.push hwf (by simp [boxS, AC.okR, hb_s]) (by simp [boxS])
  have hbs1 : b_s < H.n + 1 := by omega
  have hbs2 : b_s < H.n + 1 + 1 := by omega
  simp (config := {contextual := true, implicitDefEqProofs := false, maxSteps := 2000000}) [-Int.not_le, -Int.not_lt, argsF, spec_SightingText_c, hat_s.blk, hat_s.esz, hat_s.len, hat_s.els, hne_s, hne1_s, hne2_s.1, hne2_s.2.1, hne2_s.2.2.1, hne2_s.2.2.2.1, hne2_s.2.2.2.2.1, hne2_s.2.2.2.2.2.1, hne2_s.2.2.2.2.2.2.1, hne2_s.2.2.2.2.2.2.2.1, hne2_s.2.2.2.2.2.2.2.2.1, hne2_s.2.2.2.2.2.2.2.2.2.1, hne2_s.2.2.2.2.2.2.2.2.2.2, htx_s, hsr, hsp, hst, hss, hsk, hv, areSi_one, hI, p0, r0, p1, r1]
  repeat (refine ⟨by omega, ?_⟩)
  have e0 : numT s.id ++ 32 :: (s.town ++ 32 :: numT s.year) = numT s.id ++ [32] ++ s.town ++ [32] ++ numT s.year := by simp
  rw [e0]
  generalize hT : numT s.id ++ [32] ++ s.town ++ [32] ++ numT s.year = T0 at h
  have hTl : T0.length ≤ 50 := by rw [← hT]; simp only [List.length_append, List.length_cons, List.length_nil]; omega
  refine aloop_list s.traits (fun j (o : List UInt8) => [(1, .c (.ptr H.n 0 0)), (4, .c (.str (o))), (5, .c (.int .i64 (j)))]) (fun j (o : List UInt8) => H.push (boxS b_s i_s s)) (fun j l (o : List UInt8) => o.length ≤ 50 + 30 * j ∧ stGo l o = stGo s.traits T0) hE _ T0 ⟨by show T0.length ≤ 50 + 30 * 0; omega, rfl⟩ (Weak.since (H := H.push (boxS b_s i_s s)) (by simp only [push_n]; omega) hwfB (.refl _) (by simp [frOk, AV.okR, AV.ok1, AC.okR, AV.ren, AV.ren1, AC.ren, AFrame.get, pl1_old, *]; first | done | omega)) (fun j o hlt hi => ?_) fun o hi => ?_
  · obtain ⟨hi0, hi⟩ := hi
    have hj1 := idx_lt hlt
    have w1 : IntKind.i64.wrap ((j : Int) + 1) = (j : Int) + 1 := wrap_id (by omega) (by omega)
    have et := hat_s.get hlt
    have hvt := v7 _ (List.getElem_mem hlt)
    have lt := numT_len19 (n := s.traits[j]) (by omega) (by omega)
    have pt : 0 ≤ s.traits[j] := Int.le_trans (by decide) hvt.1
    have rt : s.traits[j] ≤ 9223372036854775807 := Int.le_trans hvt.2 (by decide)
    simp (config := {contextual := true, implicitDefEqProofs := false, maxSteps := 2000000}) [-Int.not_le, -Int.not_lt, argsF, spec_SightingText_l0, boxS, hat_s.blk, hat_s.esz, hat_s.len, hat_s.els, hne_s, hne1_s, hne2_s.1, hne2_s.2.1, hne2_s.2.2.1, hne2_s.2.2.2.1, hne2_s.2.2.2.2.1, hne2_s.2.2.2.2.2.1, hne2_s.2.2.2.2.2.2.1, hne2_s.2.2.2.2.2.2.2.1, hne2_s.2.2.2.2.2.2.2.2.1, hne2_s.2.2.2.2.2.2.2.2.2.1, hne2_s.2.2.2.2.2.2.2.2.2.2, et, hj1, hlt, w1, hI, pt, rt]
    simp only [stGo] at hi
    refine ⟨by omega, by omega, ?_⟩
    exact ⟨o ++ 32 :: 35 :: numT s.traits[j], ⟨by simp only [List.length_append, List.length_cons]; omega, by simpa using hi⟩, .since (by simp only [push_n]; omega) hwfB (.refl _) (by simp [frOk, AV.okR, AV.ok1, AC.okR, AV.ren, AV.ren1, AC.ren, AFrame.get, pl1_old, *]; first | done | omega)⟩
  · obtain ⟨hi0, hi⟩ := hi
    simp only [stGo] at hi
    simp (config := {contextual := true, implicitDefEqProofs := false, maxSteps := 2000000}) [-Int.not_le, -Int.not_lt, argsF, spec_SightingText_l0, boxS, hat_s.blk, hat_s.esz, hat_s.len, hat_s.els, hne_s, hne1_s, hne2_s.1, hne2_s.2.1, hne2_s.2.2.1, hne2_s.2.2.2.1, hne2_s.2.2.2.2.1, hne2_s.2.2.2.2.2.1, hne2_s.2.2.2.2.2.2.1, hne2_s.2.2.2.2.2.2.2.1, hne2_s.2.2.2.2.2.2.2.2.1, hne2_s.2.2.2.2.2.2.2.2.2.1, hne2_s.2.2.2.2.2.2.2.2.2.2]
    rw [← hi] at h
    (refine Out.plain hwf ?_ rfl ?_; (repeat first | exact Sub.refl _ | refine Sub.push hwf ?_ _ | refine Sub.set hwf ?_ (by first | exact Nat.le_refl _ | omega) _ | refine Sub.kill hwf ?_ (by first | exact Nat.le_refl _ | omega))); exact h

end Go.Proofs.YtnbjiigcldmgoaaDoor
