/- The printings: unique tones, the next printing. -/
import Derived.Test.YtegmlgikdniohaaDoorPrW
set_option maxRecDepth 8000
set_option linter.unusedSimpArgs false
set_option linter.unusedVariables false
namespace Go.Proofs.YtegmlgikdniohaaDoor
open Go Go.RowKit

def aloGo (m : Nat) (t : Int) : List Pr → Nat → Bool → Bool
  | [], _, b => b
  | p :: r, j, b => if hasT p t = decide ((j : Int) = (m : Int)) then aloGo m t r (j + 1) b else aloGo m t r (j + 1) false
theorem aloGo_false (m : Nat) (t : Int) : ∀ (l : List Pr) (j : Nat), aloGo m t l j false = false
  | [], _ => rfl
  | p :: r, j => by simp only [aloGo, ite_self]; exact aloGo_false m t r _
theorem aloGo_iff (m : Nat) (t : Int) : ∀ (l : List Pr) (j : Nat), aloGo m t l j true = true ↔ ∀ i (h : i < l.length), hasT l[i] t = decide (j + i = m)
  | [], _ => by simp [aloGo]
  | p :: r, j => by
    simp only [aloGo]
    constructor
    · intro h
      split at h
      · rename_i h0
        have ih := (aloGo_iff m t r (j + 1)).1 h
        intro i hi
        cases i with
        | zero => simpa using h0.trans (by simp [Int.ofNat_inj])
        | succ i => have := ih i (by simpa using hi); simpa [Nat.add_assoc, Nat.add_comm 1 i] using this
      · rw [aloGo_false] at h; cases h
    · intro h
      have h0 := h 0 (by simp)
      simp only [List.getElem_cons_zero, Nat.add_zero] at h0
      rw [if_pos (by rw [h0]; simp [Int.ofNat_inj]), aloGo_iff m t r (j + 1)]
      intro i hi
      have := h (i + 1) (by simpa using hi)
      simpa [Nat.add_assoc, Nat.add_comm 1 i] using this
def cntGo (t : Int) : List Pr → Int → Int
  | [], n => n
  | p :: r, n => if hasT p t = true then cntGo t r (IntKind.i64.wrap (n + 1)) else cntGo t r n
theorem cntGo_eq (t : Int) : ∀ (l : List Pr) (n : Nat), n + l.length ≤ 1000000 → cntGo t l n = ((n + (l.filter fun p => hasT p t).length : Nat) : Int)
  | [], n, _ => by simp [cntGo]
  | p :: r, n, h => by
    simp only [List.length_cons] at h
    have hw : IntKind.i64.wrap ((n : Int) + 1) = ((n + 1 : Nat) : Int) := by rw [wrap_id (by omega) (by omega)]; rfl
    simp only [cntGo, hw]
    split
    · rename_i hp; rw [cntGo_eq t r (n + 1) (by omega), List.filter_cons_of_pos (p := fun p => hasT p t) hp]; simp; omega
    · rename_i hp; rw [cntGo_eq t r n (by omega), List.filter_cons_of_neg (p := fun p => hasT p t) hp]
/-- one only, and this one -/
theorem one_only {p : Pr → Bool} : ∀ (l : List Pr) (m : Nat) (hm : m < l.length), p l[m] = true → ((l.filter p).length = 1 ↔ ∀ i (h : i < l.length), p l[i] = decide (i = m))
  | x :: r, 0, _, hp => by
    simp only [List.getElem_cons_zero] at hp
    rw [List.filter_cons_of_pos hp]
    simp only [List.length_cons, Nat.add_eq_right, List.length_eq_zero_iff, List.filter_eq_nil_iff]
    constructor
    · intro h i hi
      cases i with
      | zero => simpa using hp
      | succ i => have h2 := h _ (List.getElem_mem (Nat.lt_of_succ_lt_succ hi)); simpa using h2
    · intro h a ha
      obtain ⟨i, hi, rfl⟩ := List.getElem_of_mem ha
      have h2 := h (i + 1) (Nat.succ_lt_succ hi)
      rw [List.getElem_cons_succ] at h2
      simpa using h2
  | x :: r, m + 1, hm, hp => by
    have hm' : m < r.length := by simpa using hm
    have hp' : p r[m] = true := by simpa using hp
    have hin : r[m] ∈ r.filter p := List.mem_filter.2 ⟨List.getElem_mem hm', hp'⟩
    by_cases hx : p x = true
    · rw [List.filter_cons_of_pos hx]
      constructor
      · intro h
        have h1 : r.filter p = [] := by simpa using h
        rw [h1] at hin; cases hin
      · intro h
        have := h 0 (by simp)
        simp [hx] at this
    · rw [List.filter_cons_of_neg hx, one_only r m hm' hp']
      constructor
      · intro h i hi
        cases i with
        | zero => simpa using hx
        | succ i => have h2 := h i (Nat.lt_of_succ_lt_succ hi); rw [List.getElem_cons_succ, h2]; simp
      · intro h i hi
        have h2 := h (i + 1) (Nat.succ_lt_succ hi)
        rw [List.getElem_cons_succ] at h2
        simpa using h2
def utRes (ps : List Pr) (n : Int) : List Int × Bool := if arePr ps = true then if ixOf (fun p : Pr => decide (p.num = n)) ps 0 < 0 then ([], false) else
  (accM (fun t => aloGo (ixOf (fun p : Pr => decide (p.num = n)) ps 0).toNat t ps 0 true) (fun t => t) (rangeI (-20) 141) [], true) else ([], false)
theorem ut_eq {ps : List Pr} {m : Nat} (hv : arePr ps = true) (hm : m < ps.length) :
    accM (fun t => decide (cntGo t ps 0 = 1)) (fun t => t) (rangeI (ps[m].hue - ps[m].spread) (2 * ps[m].spread + 1).toNat) [] = accM (fun t => aloGo m t ps 0 true) (fun t => t) (rangeI (-20) 141) [] := by
  have hb := isPr_b (arePr_at hv hm)
  have hl := arePr_len hv
  generalize hA : ps[m].hue - ps[m].spread = a
  have hN : (2 * ps[m].spread + 1).toNat + ((a + 20).toNat + (120 - (ps[m].hue + ps[m].spread)).toNat) = 141 := by omega
  simp only [accM_eq, List.nil_append, List.map_id']
  have e1 : rangeI (-20) 141 = rangeI (-20) (a + 20).toNat ++ (rangeI a (2 * ps[m].spread + 1).toNat ++ rangeI (ps[m].hue + ps[m].spread + 1) (120 - (ps[m].hue + ps[m].spread)).toNat) := by
    rw [show 141 = (a + 20).toNat + ((2 * ps[m].spread + 1).toNat + (120 - (ps[m].hue + ps[m].spread)).toNat) by omega, rangeI_add, rangeI_add]
    rw [show (-20 : Int) + ((a + 20).toNat : Int) = a by omega, show a + (((2 * ps[m].spread + 1).toNat : Nat) : Int) = ps[m].hue + ps[m].spread + 1 by omega]
  have hw1 : IntKind.i64.wrap (ps[m].hue - ps[m].spread) = ps[m].hue - ps[m].spread := wrap_id (by omega) (by omega)
  have hw2 : IntKind.i64.wrap (ps[m].hue + ps[m].spread) = ps[m].hue + ps[m].spread := wrap_id (by omega) (by omega)
  have hh : ∀ t, hasT ps[m] t = decide (a ≤ t ∧ t ≤ ps[m].hue + ps[m].spread) := fun t => by rw [← hA]; simp only [hasT, inR, hw1, hw2]
  have out : ∀ t, ¬ (a ≤ t ∧ t ≤ ps[m].hue + ps[m].spread) → aloGo m t ps 0 true = false := fun t ht => by
    rw [Bool.eq_false_iff]
    intro h
    have := (aloGo_iff m t ps 0).1 h m hm
    rw [hh t] at this
    simp at this
    exact ht this
  have f1 : ∀ (lo : Int) (k : Nat), (∀ t ∈ rangeI lo k, ¬ (a ≤ t ∧ t ≤ ps[m].hue + ps[m].spread)) → (rangeI lo k).filter (fun t => aloGo m t ps 0 true) = [] := fun lo k h => by
    rw [List.filter_eq_nil_iff]
    intro t ht
    rw [out t (h t ht)]; simp
  rw [e1, List.filter_append, List.filter_append, f1 _ _ (fun t ht => by have := mem_rangeI.1 ht; omega), f1 (ps[m].hue + ps[m].spread + 1) _ (fun t ht => by have := mem_rangeI.1 ht; omega)]
  simp only [List.nil_append, List.append_nil]
  apply List.filter_congr
  intro t ht
  have ht' := mem_rangeI.1 ht
  have hc := cntGo_eq t ps 0 (by omega)
  have ho := one_only (p := fun p => hasT p t) ps m hm (by rw [hh t]; simp; omega)
  rw [show ((0 : Nat) : Int) = 0 from rfl, Nat.zero_add] at hc
  rw [hc, Bool.eq_iff_iff, aloGo_iff, decide_eq_true_eq]
  simp only [Nat.zero_add]
  rw [← ho]
  omega

def q_ut : Con := fun args H K => match args with
  | [ps_v, .c (.int .i64 n)] => ePr.rd H (fun ps => K (.tup [.c (.sl (H.n) (0) ((utRes ps n).1.length)), .c (.bool ((utRes ps n).2))]) (H.push (rowK eI 3 (utRes ps n).1))) ps_v
  | _ => False
@[simp ↓] theorem q_ut_eq (ps_v : AV) (n : Int) (H : AHeap) (K : AV → AHeap → Prop) : q_ut [ps_v, .c (.int .i64 n)] H K = (ePr.rd H (fun ps => K (.tup [.c (.sl (H.n) (0) ((utRes ps n).1.length)), .c (.bool ((utRes ps n).2))]) (H.push (rowK eI 3 (utRes ps n).1))) ps_v) := rfl

theorem impl_UniqueTones_s : Sound Tryd.prog 13 q_ut := by
  intro args H K h
  unfold q_ut at h
  split at h
  rotate_left
  all_goals first | exact False.elim h | skip
  rename_i ps_v n
  have h1 := Enc.rd_at h
  clear h
  obtain ⟨b_ps, i_ps, k_ps, ps, rfl, hat_ps, h⟩ := h1
  have hE := soundE_cons impl_printingAt_s (soundE_cons impl_arePrintings_s (soundE_cons impl_Printing__has_s (soundE_nil (P := Tryd.prog))))
  refine acalls_fn impl_UniqueTones_k hE ⟨by simp, fun hwf => ?_⟩
  have hb_ps : b_ps < H.n := (hwf b_ps k_ps hat_ps.blk).1
  have hne_ps : (b_ps = H.n) = False := eq_false (by omega)
  have hne1_ps : ∀ i, (b_ps = H.n + i) = False := fun i => eq_false (by omega)
  have hne2_ps : (b_ps = H.n + 1 + 1) = False ∧ (b_ps = H.n + 1 + 1 + 1) = False ∧ (b_ps = H.n + 1 + 1 + 1 + 1) = False ∧ (b_ps = H.n + 1 + 1 + 1 + 1 + 1) = False ∧ (b_ps = H.n + 1 + 1 + 1 + 1 + 1 + 1) = False ∧ (b_ps = H.n + 1 + 1 + 1 + 1 + 1 + 1 + 1) = False ∧ (b_ps = H.n + 1 + 1 + 1 + 1 + 1 + 1 + 1 + 1) = False ∧ (b_ps = H.n + 1 + 1 + 1 + 1 + 1 + 1 + 1 + 1 + 1) = False ∧ (b_ps = H.n + 1 + 1 + 1 + 1 + 1 + 1 + 1 + 1 + 1 + 1) = False ∧ (b_ps = H.n + 1 + 1 + 1 + 1 + 1 + 1 + 1 + 1 + 1 + 1 + 1) = False ∧ (b_ps = H.n + 1 + 1 + 1 + 1 + 1 + 1 + 1 + 1 + 1 + 1 + 1 + 1) = False := ⟨eq_false (by omega), eq_false (by omega), eq_false (by omega), eq_false (by omega), eq_false (by omega), eq_false (by omega), eq_false (by omega), eq_false (by omega), eq_false (by omega), eq_false (by omega), eq_false (by omega)⟩
  have hmx_ps : ps.length ≤ 9223372036854775807 := by have h1 := (hwf b_ps k_ps hat_ps.blk).2.2; have h2 := hat_ps.len; omega
  rcases ixOf_find (fun p : Pr => decide (p.num = n)) ps with ⟨e, hf⟩ | ⟨m, hm, e, hf, _⟩
  · simp (config := {contextual := true, implicitDefEqProofs := false, maxSteps := 60000}) [-Int.not_le, -Int.not_lt, argsF, impl_UniqueTones_c, hat_ps.blk, hat_ps.esz, hat_ps.len, hat_ps.els, hne_ps, hne1_ps, hne2_ps.1, hne2_ps.2.1, hne2_ps.2.2.1, hne2_ps.2.2.2.1, hne2_ps.2.2.2.2.1, hne2_ps.2.2.2.2.2.1, hne2_ps.2.2.2.2.2.2.1, hne2_ps.2.2.2.2.2.2.2.1, hne2_ps.2.2.2.2.2.2.2.2.1, hne2_ps.2.2.2.2.2.2.2.2.2.1, hne2_ps.2.2.2.2.2.2.2.2.2.2, e]
    unfold utRes at h
    rw [e] at h
    simp only [show (-1 : Int) < 0 by omega, if_true, ite_self] at h
    first | exact (.one (c := none) hwf (by (repeat first | exact Sub.refl _ | refine Sub.push hwf ?_ _ | refine Sub.set hwf ?_ (by first | exact Nat.le_refl _ | omega | (simp only [push_n, set_n, kill_n]; omega)) _ | refine Sub.kill hwf ?_ (by first | exact Nat.le_refl _ | omega | (simp only [push_n, set_n, kill_n]; omega)))) ⟨rfl, rfl⟩ (plain_map (fun _ => rfl) _) (by simp [frOk, AV.okR, AV.ok1, AC.okR, AV.ren, AV.ren1, AC.ren, AFrame.get, pl1_old, *]; first | done | omega) h) | exact (.one (c := some (H.n)) hwf (by (repeat first | exact Sub.refl _ | refine Sub.push hwf ?_ _ | refine Sub.set hwf ?_ (by first | exact Nat.le_refl _ | omega | (simp only [push_n, set_n, kill_n]; omega)) _ | refine Sub.kill hwf ?_ (by first | exact Nat.le_refl _ | omega | (simp only [push_n, set_n, kill_n]; omega)))) ⟨by omega, by simp [push_b, set_b, kill_b, rowK]; done⟩ (plain_map (fun _ => rfl) _) (by simp [frOk, AV.okR, AV.ok1, AC.okR, AV.ren, AV.ren1, AC.ren, AFrame.get, pl1_old, *]; first | done | omega) h) | exact (.one (c := some (H.n + 1)) hwf (by (repeat first | exact Sub.refl _ | refine Sub.push hwf ?_ _ | refine Sub.set hwf ?_ (by first | exact Nat.le_refl _ | omega | (simp only [push_n, set_n, kill_n]; omega)) _ | refine Sub.kill hwf ?_ (by first | exact Nat.le_refl _ | omega | (simp only [push_n, set_n, kill_n]; omega)))) ⟨by omega, by simp [push_b, set_b, kill_b, rowK]; done⟩ (plain_map (fun _ => rfl) _) (by simp [frOk, AV.okR, AV.ok1, AC.okR, AV.ren, AV.ren1, AC.ren, AFrame.get, pl1_old, *]; first | done | omega) h) | exact (.one (c := some (H.n + 2)) hwf (by (repeat first | exact Sub.refl _ | refine Sub.push hwf ?_ _ | refine Sub.set hwf ?_ (by first | exact Nat.le_refl _ | omega | (simp only [push_n, set_n, kill_n]; omega)) _ | refine Sub.kill hwf ?_ (by first | exact Nat.le_refl _ | omega | (simp only [push_n, set_n, kill_n]; omega)))) ⟨by omega, by simp [push_b, set_b, kill_b, rowK]; done⟩ (plain_map (fun _ => rfl) _) (by simp [frOk, AV.okR, AV.ok1, AC.okR, AV.ren, AV.ren1, AC.ren, AFrame.get, pl1_old, *]; first | done | omega) h)
  · have hm0 : ((m : Int) < 0) = False := eq_false (by omega)
    have hm1 := idx_lt hm
    have em := hat_ps.get hm
    by_cases hv : arePr ps = true
    rotate_left
    · simp (config := {contextual := true, implicitDefEqProofs := false, maxSteps := 60000}) [-Int.not_le, -Int.not_lt, argsF, impl_UniqueTones_c, hat_ps.blk, hat_ps.esz, hat_ps.len, hat_ps.els, hne_ps, hne1_ps, hne2_ps.1, hne2_ps.2.1, hne2_ps.2.2.1, hne2_ps.2.2.2.1, hne2_ps.2.2.2.2.1, hne2_ps.2.2.2.2.2.1, hne2_ps.2.2.2.2.2.2.1, hne2_ps.2.2.2.2.2.2.2.1, hne2_ps.2.2.2.2.2.2.2.2.1, hne2_ps.2.2.2.2.2.2.2.2.2.1, hne2_ps.2.2.2.2.2.2.2.2.2.2, e, hm0, hv]
      unfold utRes at h
      simp only [hv, if_false, reduceCtorEq] at h
      first | exact (.one (c := none) hwf (by (repeat first | exact Sub.refl _ | refine Sub.push hwf ?_ _ | refine Sub.set hwf ?_ (by first | exact Nat.le_refl _ | omega | (simp only [push_n, set_n, kill_n]; omega)) _ | refine Sub.kill hwf ?_ (by first | exact Nat.le_refl _ | omega | (simp only [push_n, set_n, kill_n]; omega)))) ⟨rfl, rfl⟩ (plain_map (fun _ => rfl) _) (by simp [frOk, AV.okR, AV.ok1, AC.okR, AV.ren, AV.ren1, AC.ren, AFrame.get, pl1_old, *]; first | done | omega) h) | exact (.one (c := some (H.n)) hwf (by (repeat first | exact Sub.refl _ | refine Sub.push hwf ?_ _ | refine Sub.set hwf ?_ (by first | exact Nat.le_refl _ | omega | (simp only [push_n, set_n, kill_n]; omega)) _ | refine Sub.kill hwf ?_ (by first | exact Nat.le_refl _ | omega | (simp only [push_n, set_n, kill_n]; omega)))) ⟨by omega, by simp [push_b, set_b, kill_b, rowK]; done⟩ (plain_map (fun _ => rfl) _) (by simp [frOk, AV.okR, AV.ok1, AC.okR, AV.ren, AV.ren1, AC.ren, AFrame.get, pl1_old, *]; first | done | omega) h) | exact (.one (c := some (H.n + 1)) hwf (by (repeat first | exact Sub.refl _ | refine Sub.push hwf ?_ _ | refine Sub.set hwf ?_ (by first | exact Nat.le_refl _ | omega | (simp only [push_n, set_n, kill_n]; omega)) _ | refine Sub.kill hwf ?_ (by first | exact Nat.le_refl _ | omega | (simp only [push_n, set_n, kill_n]; omega)))) ⟨by omega, by simp [push_b, set_b, kill_b, rowK]; done⟩ (plain_map (fun _ => rfl) _) (by simp [frOk, AV.okR, AV.ok1, AC.okR, AV.ren, AV.ren1, AC.ren, AFrame.get, pl1_old, *]; first | done | omega) h) | exact (.one (c := some (H.n + 2)) hwf (by (repeat first | exact Sub.refl _ | refine Sub.push hwf ?_ _ | refine Sub.set hwf ?_ (by first | exact Nat.le_refl _ | omega | (simp only [push_n, set_n, kill_n]; omega)) _ | refine Sub.kill hwf ?_ (by first | exact Nat.le_refl _ | omega | (simp only [push_n, set_n, kill_n]; omega)))) ⟨by omega, by simp [push_b, set_b, kill_b, rowK]; done⟩ (plain_map (fun _ => rfl) _) (by simp [frOk, AV.okR, AV.ok1, AC.okR, AV.ren, AV.ren1, AC.ren, AFrame.get, pl1_old, *]; first | done | omega) h)
    have hb := isPr_b (arePr_at hv hm)
    have hlen := arePr_len hv
    unfold utRes at h
    simp only [hv, e, hm0, if_true, if_false, Int.toNat_natCast] at h
    simp (config := {contextual := true, implicitDefEqProofs := false, maxSteps := 60000}) [-Int.not_le, -Int.not_lt, argsF, impl_UniqueTones_c, hat_ps.blk, hat_ps.esz, hat_ps.len, hat_ps.els, hne_ps, hne1_ps, hne2_ps.1, hne2_ps.2.1, hne2_ps.2.2.1, hne2_ps.2.2.2.1, hne2_ps.2.2.2.2.1, hne2_ps.2.2.2.2.2.1, hne2_ps.2.2.2.2.2.2.1, hne2_ps.2.2.2.2.2.2.2.1, hne2_ps.2.2.2.2.2.2.2.2.1, hne2_ps.2.2.2.2.2.2.2.2.2.1, hne2_ps.2.2.2.2.2.2.2.2.2.2, e, hm0, hv]
    refine aloop_list (rangeI (-20) 141) (fun jo out => [(0, .c (.sl b_ps i_ps ps.length)), (6, .c (.int .i64 ((m : Int)))), (7, .c (.sl (H.n) (0) (out.length))), (8, .c (.int .i64 (-20 + (jo : Int))))]) (fun jo out => H.push (rowK eI 3 out)) (fun jo l out => (out.length ≤ jo) ∧ K (.tup [.c (.sl (H.n) (0) ((accM (fun t => aloGo m t ps 0 true) (fun t => t) l out).length)), .c (.bool (true))]) (H.push (rowK eI 3 (accM (fun t => aloGo m t ps 0 true) (fun t => t) l out)))) hE _ ([]) (⟨by simp, h⟩) (.one (c := none) hwf (by (repeat first | exact Sub.refl _ | refine Sub.push hwf ?_ _ | refine Sub.set hwf ?_ (by first | exact Nat.le_refl _ | omega | (simp only [push_n, set_n, kill_n]; omega)) _ | refine Sub.kill hwf ?_ (by first | exact Nat.le_refl _ | omega | (simp only [push_n, set_n, kill_n]; omega)))) ⟨rfl, rfl⟩ (plain_map (fun _ => rfl) _) (by simp [frOk, AV.okR, AV.ok1, AC.okR, AV.ren, AV.ren1, AC.ren, AFrame.get, pl1_old, *]; first | done | omega)) (fun jo out hlto hio => ?_) fun out hio => ?_
    ·
      obtain ⟨hso, hio⟩ := hio
      clear em e hf
      have hj : jo < 141 := by simpa using hlto
      have hj2 : -20 + (jo : Int) ≤ 120 := by omega
      have w2 : IntKind.i64.wrap (-20 + (jo : Int) + 1) = -20 + (jo : Int) + 1 := wrap_id (by omega) (by omega)
      have hb1 : (out.length + 1) * 8 ≤ 140737488355328 := by omega
      have hb2 : out.length + 1 ≤ 140737488355328 := by omega
      simp (config := {contextual := true, implicitDefEqProofs := false, maxSteps := 60000}) [-Int.not_le, -Int.not_lt, argsF, impl_UniqueTones_l1, hj2, w2]
      refine aloop_list ps (fun j b => [(0, .c (.sl b_ps i_ps ps.length)), (6, .c (.int .i64 ((m : Int)))), (7, .c (.sl (H.n) (0) (out.length))), (8, .c (.int .i64 (-20 + (jo : Int)))), (9, .c (.bool (b))), (26, .c (.sl b_ps i_ps ps.length)), (27, .c (.int .i64 ps.length)), (28, .c (.int .i64 (j)))]) (fun j b => H.push (rowK eI 3 out)) (fun j l b => aloGo m (-20 + (jo : Int)) l j b = aloGo m (-20 + (jo : Int)) ps 0 true) hE _ (true) (rfl) (.one (c := some (H.n)) hwf (by (repeat first | exact Sub.refl _ | refine Sub.push hwf ?_ _ | refine Sub.set hwf ?_ (by first | exact Nat.le_refl _ | omega | (simp only [push_n, set_n, kill_n]; omega)) _ | refine Sub.kill hwf ?_ (by first | exact Nat.le_refl _ | omega | (simp only [push_n, set_n, kill_n]; omega)))) ⟨by omega, by simp [push_b, set_b, kill_b, rowK]; done⟩ (plain_map (fun _ => rfl) _) (by simp [frOk, AV.okR, AV.ok1, AC.okR, AV.ren, AV.ren1, AC.ren, AFrame.get, pl1_old, *]; first | done | omega)) (fun j b hlt hi => ?_) fun b hi => ?_
      ·
        have e1 := hat_ps.get hlt
        have hj1 := idx_lt hlt
        have w1 : IntKind.i64.wrap ((j : Int) + 1) = (j : Int) + 1 := wrap_id (by omega) (by omega)
        simp (config := {contextual := true, implicitDefEqProofs := false, maxSteps := 60000}) [-Int.not_le, -Int.not_lt, argsF, impl_UniqueTones_l0, hat_ps.blk, hat_ps.esz, hat_ps.len, hat_ps.els, hne_ps, hne1_ps, hne2_ps.1, hne2_ps.2.1, hne2_ps.2.2.1, hne2_ps.2.2.2.1, hne2_ps.2.2.2.2.1, hne2_ps.2.2.2.2.2.1, hne2_ps.2.2.2.2.2.2.1, hne2_ps.2.2.2.2.2.2.2.1, hne2_ps.2.2.2.2.2.2.2.2.1, hne2_ps.2.2.2.2.2.2.2.2.2.1, hne2_ps.2.2.2.2.2.2.2.2.2.2, e1, hj1, w1]
        simp only [aloGo] at hi
        repeat' split
        all_goals try simp only [*, if_true, if_false, reduceCtorEq] at hi
        all_goals first | exact ⟨_, hi, .one (c := some (H.n)) hwf (by (repeat first | exact Sub.refl _ | refine Sub.push hwf ?_ _ | refine Sub.set hwf ?_ (by first | exact Nat.le_refl _ | omega | (simp only [push_n, set_n, kill_n]; omega)) _ | refine Sub.kill hwf ?_ (by first | exact Nat.le_refl _ | omega | (simp only [push_n, set_n, kill_n]; omega)))) ⟨by omega, by simp [push_b, set_b, kill_b, rowK]; done⟩ (plain_map (fun _ => rfl) _) (by simp [frOk, AV.okR, AV.ok1, AC.okR, AV.ren, AV.ren1, AC.ren, AFrame.get, pl1_old, *]; first | done | omega)⟩ | exact ⟨_, hi, .one (c := some (H.n + 1)) hwf (by (repeat first | exact Sub.refl _ | refine Sub.push hwf ?_ _ | refine Sub.set hwf ?_ (by first | exact Nat.le_refl _ | omega | (simp only [push_n, set_n, kill_n]; omega)) _ | refine Sub.kill hwf ?_ (by first | exact Nat.le_refl _ | omega | (simp only [push_n, set_n, kill_n]; omega)))) ⟨by omega, by simp [push_b, set_b, kill_b, rowK]; done⟩ (plain_map (fun _ => rfl) _) (by simp [frOk, AV.okR, AV.ok1, AC.okR, AV.ren, AV.ren1, AC.ren, AFrame.get, pl1_old, *]; first | done | omega)⟩ | exact ⟨_, hi, .one (c := some (H.n + 2)) hwf (by (repeat first | exact Sub.refl _ | refine Sub.push hwf ?_ _ | refine Sub.set hwf ?_ (by first | exact Nat.le_refl _ | omega | (simp only [push_n, set_n, kill_n]; omega)) _ | refine Sub.kill hwf ?_ (by first | exact Nat.le_refl _ | omega | (simp only [push_n, set_n, kill_n]; omega)))) ⟨by omega, by simp [push_b, set_b, kill_b, rowK]; done⟩ (plain_map (fun _ => rfl) _) (by simp [frOk, AV.okR, AV.ok1, AC.okR, AV.ren, AV.ren1, AC.ren, AFrame.get, pl1_old, *]; first | done | omega)⟩ | exact ⟨_, hi, .one (c := some (H.n + 3)) hwf (by (repeat first | exact Sub.refl _ | refine Sub.push hwf ?_ _ | refine Sub.set hwf ?_ (by first | exact Nat.le_refl _ | omega | (simp only [push_n, set_n, kill_n]; omega)) _ | refine Sub.kill hwf ?_ (by first | exact Nat.le_refl _ | omega | (simp only [push_n, set_n, kill_n]; omega)))) ⟨by omega, by simp [push_b, set_b, kill_b, rowK]; done⟩ (plain_map (fun _ => rfl) _) (by simp [frOk, AV.okR, AV.ok1, AC.okR, AV.ren, AV.ren1, AC.ren, AFrame.get, pl1_old, *]; first | done | omega)⟩ | exact ⟨_, hi, .one (c := some (H.n + 4)) hwf (by (repeat first | exact Sub.refl _ | refine Sub.push hwf ?_ _ | refine Sub.set hwf ?_ (by first | exact Nat.le_refl _ | omega | (simp only [push_n, set_n, kill_n]; omega)) _ | refine Sub.kill hwf ?_ (by first | exact Nat.le_refl _ | omega | (simp only [push_n, set_n, kill_n]; omega)))) ⟨by omega, by simp [push_b, set_b, kill_b, rowK]; done⟩ (plain_map (fun _ => rfl) _) (by simp [frOk, AV.okR, AV.ok1, AC.okR, AV.ren, AV.ren1, AC.ren, AFrame.get, pl1_old, *]; first | done | omega)⟩
      ·
        simp only [aloGo] at hi
        subst hi
        simp (config := {contextual := true, implicitDefEqProofs := false, maxSteps := 60000}) [-Int.not_le, -Int.not_lt, argsF, impl_UniqueTones_l0, hat_ps.blk, hat_ps.esz, hat_ps.len, hat_ps.els, hne_ps, hne1_ps, hne2_ps.1, hne2_ps.2.1, hne2_ps.2.2.1, hne2_ps.2.2.2.1, hne2_ps.2.2.2.2.1, hne2_ps.2.2.2.2.2.1, hne2_ps.2.2.2.2.2.2.1, hne2_ps.2.2.2.2.2.2.2.1, hne2_ps.2.2.2.2.2.2.2.2.1, hne2_ps.2.2.2.2.2.2.2.2.2.1, hne2_ps.2.2.2.2.2.2.2.2.2.2, w2, hb1, hb2]
        simp only [accM, rangeI_get] at hio
        repeat' split
        all_goals simp only [*, if_true, if_false, reduceCtorEq] at hio
        all_goals first | exact ⟨_, ⟨by first | omega | (simp; omega), hio⟩, .one (c := some (H.n)) hwf (by (repeat first | exact Sub.refl _ | refine Sub.push hwf ?_ _ | refine Sub.set hwf ?_ (by first | exact Nat.le_refl _ | omega | (simp only [push_n, set_n, kill_n]; omega)) _ | refine Sub.kill hwf ?_ (by first | exact Nat.le_refl _ | omega | (simp only [push_n, set_n, kill_n]; omega)))) ⟨by omega, by simp [push_b, set_b, kill_b, rowK]; done⟩ (plain_map (fun _ => rfl) _) (by simp [frOk, AV.okR, AV.ok1, AC.okR, AV.ren, AV.ren1, AC.ren, AFrame.get, pl1_old, *]; first | done | omega)⟩ | exact ⟨_, ⟨by first | omega | (simp; omega), hio⟩, .one (c := some (H.n + 1)) hwf (by (repeat first | exact Sub.refl _ | refine Sub.push hwf ?_ _ | refine Sub.set hwf ?_ (by first | exact Nat.le_refl _ | omega | (simp only [push_n, set_n, kill_n]; omega)) _ | refine Sub.kill hwf ?_ (by first | exact Nat.le_refl _ | omega | (simp only [push_n, set_n, kill_n]; omega)))) ⟨by omega, by simp [push_b, set_b, kill_b, rowK]; done⟩ (plain_map (fun _ => rfl) _) (by simp [frOk, AV.okR, AV.ok1, AC.okR, AV.ren, AV.ren1, AC.ren, AFrame.get, pl1_old, *]; first | done | omega)⟩ | exact ⟨_, ⟨by first | omega | (simp; omega), hio⟩, .one (c := some (H.n + 2)) hwf (by (repeat first | exact Sub.refl _ | refine Sub.push hwf ?_ _ | refine Sub.set hwf ?_ (by first | exact Nat.le_refl _ | omega | (simp only [push_n, set_n, kill_n]; omega)) _ | refine Sub.kill hwf ?_ (by first | exact Nat.le_refl _ | omega | (simp only [push_n, set_n, kill_n]; omega)))) ⟨by omega, by simp [push_b, set_b, kill_b, rowK]; done⟩ (plain_map (fun _ => rfl) _) (by simp [frOk, AV.okR, AV.ok1, AC.okR, AV.ren, AV.ren1, AC.ren, AFrame.get, pl1_old, *]; first | done | omega)⟩ | exact ⟨_, ⟨by first | omega | (simp; omega), hio⟩, .one (c := some (H.n + 3)) hwf (by (repeat first | exact Sub.refl _ | refine Sub.push hwf ?_ _ | refine Sub.set hwf ?_ (by first | exact Nat.le_refl _ | omega | (simp only [push_n, set_n, kill_n]; omega)) _ | refine Sub.kill hwf ?_ (by first | exact Nat.le_refl _ | omega | (simp only [push_n, set_n, kill_n]; omega)))) ⟨by omega, by simp [push_b, set_b, kill_b, rowK]; done⟩ (plain_map (fun _ => rfl) _) (by simp [frOk, AV.okR, AV.ok1, AC.okR, AV.ren, AV.ren1, AC.ren, AFrame.get, pl1_old, *]; first | done | omega)⟩
    ·
      obtain ⟨hso, hio⟩ := hio
      simp (config := {contextual := true, implicitDefEqProofs := false, maxSteps := 60000}) [-Int.not_le, -Int.not_lt, argsF, impl_UniqueTones_l1]
      simp only [accM] at hio
      first | exact (.one (c := some (H.n)) hwf (by (repeat first | exact Sub.refl _ | refine Sub.push hwf ?_ _ | refine Sub.set hwf ?_ (by first | exact Nat.le_refl _ | omega | (simp only [push_n, set_n, kill_n]; omega)) _ | refine Sub.kill hwf ?_ (by first | exact Nat.le_refl _ | omega | (simp only [push_n, set_n, kill_n]; omega)))) ⟨by omega, by simp [push_b, set_b, kill_b, rowK]; done⟩ (plain_map (fun _ => rfl) _) (by simp [frOk, AV.okR, AV.ok1, AC.okR, AV.ren, AV.ren1, AC.ren, AFrame.get, pl1_old, *]; first | done | omega) hio) | exact (.one (c := some (H.n + 1)) hwf (by (repeat first | exact Sub.refl _ | refine Sub.push hwf ?_ _ | refine Sub.set hwf ?_ (by first | exact Nat.le_refl _ | omega | (simp only [push_n, set_n, kill_n]; omega)) _ | refine Sub.kill hwf ?_ (by first | exact Nat.le_refl _ | omega | (simp only [push_n, set_n, kill_n]; omega)))) ⟨by omega, by simp [push_b, set_b, kill_b, rowK]; done⟩ (plain_map (fun _ => rfl) _) (by simp [frOk, AV.okR, AV.ok1, AC.okR, AV.ren, AV.ren1, AC.ren, AFrame.get, pl1_old, *]; first | done | omega) hio) | exact (.one (c := some (H.n + 2)) hwf (by (repeat first | exact Sub.refl _ | refine Sub.push hwf ?_ _ | refine Sub.set hwf ?_ (by first | exact Nat.le_refl _ | omega | (simp only [push_n, set_n, kill_n]; omega)) _ | refine Sub.kill hwf ?_ (by first | exact Nat.le_refl _ | omega | (simp only [push_n, set_n, kill_n]; omega)))) ⟨by omega, by simp [push_b, set_b, kill_b, rowK]; done⟩ (plain_map (fun _ => rfl) _) (by simp [frOk, AV.okR, AV.ok1, AC.okR, AV.ren, AV.ren1, AC.ren, AFrame.get, pl1_old, *]; first | done | omega) hio) | exact (.one (c := some (H.n + 3)) hwf (by (repeat first | exact Sub.refl _ | refine Sub.push hwf ?_ _ | refine Sub.set hwf ?_ (by first | exact Nat.le_refl _ | omega | (simp only [push_n, set_n, kill_n]; omega)) _ | refine Sub.kill hwf ?_ (by first | exact Nat.le_refl _ | omega | (simp only [push_n, set_n, kill_n]; omega)))) ⟨by omega, by simp [push_b, set_b, kill_b, rowK]; done⟩ (plain_map (fun _ => rfl) _) (by simp [frOk, AV.okR, AV.ok1, AC.okR, AV.ren, AV.ren1, AC.ren, AFrame.get, pl1_old, *]; first | done | omega) hio) | exact (.one (c := some (H.n + 4)) hwf (by (repeat first | exact Sub.refl _ | refine Sub.push hwf ?_ _ | refine Sub.set hwf ?_ (by first | exact Nat.le_refl _ | omega | (simp only [push_n, set_n, kill_n]; omega)) _ | refine Sub.kill hwf ?_ (by first | exact Nat.le_refl _ | omega | (simp only [push_n, set_n, kill_n]; omega)))) ⟨by omega, by simp [push_b, set_b, kill_b, rowK]; done⟩ (plain_map (fun _ => rfl) _) (by simp [frOk, AV.okR, AV.ok1, AC.okR, AV.ren, AV.ren1, AC.ren, AFrame.get, pl1_old, *]; first | done | omega) hio)

theorem spec_UniqueTones_s : Sound Tryd.prog 14 q_ut := by
  intro args H K h
  unfold q_ut at h
  split at h
  rotate_left
  all_goals first | exact False.elim h | skip
  rename_i ps_v n
  have h1 := Enc.rd_at h
  clear h
  obtain ⟨b_ps, i_ps, k_ps, ps, rfl, hat_ps, h⟩ := h1
  have hE := soundE_cons spec_l14Find_s (soundE_cons spec_l14Good_s (soundE_cons spec_l14Has_s (soundE_nil (P := Tryd.prog))))
  refine acalls_fn spec_UniqueTones_k hE ⟨by simp, fun hwf => ?_⟩
  have hb_ps : b_ps < H.n := (hwf b_ps k_ps hat_ps.blk).1
  have hne_ps : (b_ps = H.n) = False := eq_false (by omega)
  have hne1_ps : ∀ i, (b_ps = H.n + i) = False := fun i => eq_false (by omega)
  have hne2_ps : (b_ps = H.n + 1 + 1) = False ∧ (b_ps = H.n + 1 + 1 + 1) = False ∧ (b_ps = H.n + 1 + 1 + 1 + 1) = False ∧ (b_ps = H.n + 1 + 1 + 1 + 1 + 1) = False ∧ (b_ps = H.n + 1 + 1 + 1 + 1 + 1 + 1) = False ∧ (b_ps = H.n + 1 + 1 + 1 + 1 + 1 + 1 + 1) = False ∧ (b_ps = H.n + 1 + 1 + 1 + 1 + 1 + 1 + 1 + 1) = False ∧ (b_ps = H.n + 1 + 1 + 1 + 1 + 1 + 1 + 1 + 1 + 1) = False ∧ (b_ps = H.n + 1 + 1 + 1 + 1 + 1 + 1 + 1 + 1 + 1 + 1) = False ∧ (b_ps = H.n + 1 + 1 + 1 + 1 + 1 + 1 + 1 + 1 + 1 + 1 + 1) = False ∧ (b_ps = H.n + 1 + 1 + 1 + 1 + 1 + 1 + 1 + 1 + 1 + 1 + 1 + 1) = False := ⟨eq_false (by omega), eq_false (by omega), eq_false (by omega), eq_false (by omega), eq_false (by omega), eq_false (by omega), eq_false (by omega), eq_false (by omega), eq_false (by omega), eq_false (by omega), eq_false (by omega)⟩
  have hmx_ps : ps.length ≤ 9223372036854775807 := by have h1 := (hwf b_ps k_ps hat_ps.blk).2.2; have h2 := hat_ps.len; omega
  rcases ixOf_find (fun p : Pr => decide (p.num = n)) ps with ⟨e, hf⟩ | ⟨m, hm, e, hf, _⟩
  · simp (config := {contextual := true, implicitDefEqProofs := false, maxSteps := 60000}) [-Int.not_le, -Int.not_lt, argsF, spec_UniqueTones_c, hat_ps.blk, hat_ps.esz, hat_ps.len, hat_ps.els, hne_ps, hne1_ps, hne2_ps.1, hne2_ps.2.1, hne2_ps.2.2.1, hne2_ps.2.2.2.1, hne2_ps.2.2.2.2.1, hne2_ps.2.2.2.2.2.1, hne2_ps.2.2.2.2.2.2.1, hne2_ps.2.2.2.2.2.2.2.1, hne2_ps.2.2.2.2.2.2.2.2.1, hne2_ps.2.2.2.2.2.2.2.2.2.1, hne2_ps.2.2.2.2.2.2.2.2.2.2, e]
    unfold utRes at h
    rw [e] at h
    simp only [show (-1 : Int) < 0 by omega, if_true, ite_self] at h
    first | exact (.one (c := none) hwf (by (repeat first | exact Sub.refl _ | refine Sub.push hwf ?_ _ | refine Sub.set hwf ?_ (by first | exact Nat.le_refl _ | omega | (simp only [push_n, set_n, kill_n]; omega)) _ | refine Sub.kill hwf ?_ (by first | exact Nat.le_refl _ | omega | (simp only [push_n, set_n, kill_n]; omega)))) ⟨rfl, rfl⟩ (plain_map (fun _ => rfl) _) (by simp [frOk, AV.okR, AV.ok1, AC.okR, AV.ren, AV.ren1, AC.ren, AFrame.get, pl1_old, *]; first | done | omega) h) | exact (.one (c := some (H.n)) hwf (by (repeat first | exact Sub.refl _ | refine Sub.push hwf ?_ _ | refine Sub.set hwf ?_ (by first | exact Nat.le_refl _ | omega | (simp only [push_n, set_n, kill_n]; omega)) _ | refine Sub.kill hwf ?_ (by first | exact Nat.le_refl _ | omega | (simp only [push_n, set_n, kill_n]; omega)))) ⟨by omega, by simp [push_b, set_b, kill_b, rowK]; done⟩ (plain_map (fun _ => rfl) _) (by simp [frOk, AV.okR, AV.ok1, AC.okR, AV.ren, AV.ren1, AC.ren, AFrame.get, pl1_old, *]; first | done | omega) h) | exact (.one (c := some (H.n + 1)) hwf (by (repeat first | exact Sub.refl _ | refine Sub.push hwf ?_ _ | refine Sub.set hwf ?_ (by first | exact Nat.le_refl _ | omega | (simp only [push_n, set_n, kill_n]; omega)) _ | refine Sub.kill hwf ?_ (by first | exact Nat.le_refl _ | omega | (simp only [push_n, set_n, kill_n]; omega)))) ⟨by omega, by simp [push_b, set_b, kill_b, rowK]; done⟩ (plain_map (fun _ => rfl) _) (by simp [frOk, AV.okR, AV.ok1, AC.okR, AV.ren, AV.ren1, AC.ren, AFrame.get, pl1_old, *]; first | done | omega) h) | exact (.one (c := some (H.n + 2)) hwf (by (repeat first | exact Sub.refl _ | refine Sub.push hwf ?_ _ | refine Sub.set hwf ?_ (by first | exact Nat.le_refl _ | omega | (simp only [push_n, set_n, kill_n]; omega)) _ | refine Sub.kill hwf ?_ (by first | exact Nat.le_refl _ | omega | (simp only [push_n, set_n, kill_n]; omega)))) ⟨by omega, by simp [push_b, set_b, kill_b, rowK]; done⟩ (plain_map (fun _ => rfl) _) (by simp [frOk, AV.okR, AV.ok1, AC.okR, AV.ren, AV.ren1, AC.ren, AFrame.get, pl1_old, *]; first | done | omega) h)
  · have hm0 : ((m : Int) < 0) = False := eq_false (by omega)
    have hm1 := idx_lt hm
    have em := hat_ps.get hm
    by_cases hv : arePr ps = true
    rotate_left
    · simp (config := {contextual := true, implicitDefEqProofs := false, maxSteps := 60000}) [-Int.not_le, -Int.not_lt, argsF, spec_UniqueTones_c, hat_ps.blk, hat_ps.esz, hat_ps.len, hat_ps.els, hne_ps, hne1_ps, hne2_ps.1, hne2_ps.2.1, hne2_ps.2.2.1, hne2_ps.2.2.2.1, hne2_ps.2.2.2.2.1, hne2_ps.2.2.2.2.2.1, hne2_ps.2.2.2.2.2.2.1, hne2_ps.2.2.2.2.2.2.2.1, hne2_ps.2.2.2.2.2.2.2.2.1, hne2_ps.2.2.2.2.2.2.2.2.2.1, hne2_ps.2.2.2.2.2.2.2.2.2.2, e, hm0, hv]
      unfold utRes at h
      simp only [hv, if_false, reduceCtorEq] at h
      first | exact (.one (c := none) hwf (by (repeat first | exact Sub.refl _ | refine Sub.push hwf ?_ _ | refine Sub.set hwf ?_ (by first | exact Nat.le_refl _ | omega | (simp only [push_n, set_n, kill_n]; omega)) _ | refine Sub.kill hwf ?_ (by first | exact Nat.le_refl _ | omega | (simp only [push_n, set_n, kill_n]; omega)))) ⟨rfl, rfl⟩ (plain_map (fun _ => rfl) _) (by simp [frOk, AV.okR, AV.ok1, AC.okR, AV.ren, AV.ren1, AC.ren, AFrame.get, pl1_old, *]; first | done | omega) h) | exact (.one (c := some (H.n)) hwf (by (repeat first | exact Sub.refl _ | refine Sub.push hwf ?_ _ | refine Sub.set hwf ?_ (by first | exact Nat.le_refl _ | omega | (simp only [push_n, set_n, kill_n]; omega)) _ | refine Sub.kill hwf ?_ (by first | exact Nat.le_refl _ | omega | (simp only [push_n, set_n, kill_n]; omega)))) ⟨by omega, by simp [push_b, set_b, kill_b, rowK]; done⟩ (plain_map (fun _ => rfl) _) (by simp [frOk, AV.okR, AV.ok1, AC.okR, AV.ren, AV.ren1, AC.ren, AFrame.get, pl1_old, *]; first | done | omega) h) | exact (.one (c := some (H.n + 1)) hwf (by (repeat first | exact Sub.refl _ | refine Sub.push hwf ?_ _ | refine Sub.set hwf ?_ (by first | exact Nat.le_refl _ | omega | (simp only [push_n, set_n, kill_n]; omega)) _ | refine Sub.kill hwf ?_ (by first | exact Nat.le_refl _ | omega | (simp only [push_n, set_n, kill_n]; omega)))) ⟨by omega, by simp [push_b, set_b, kill_b, rowK]; done⟩ (plain_map (fun _ => rfl) _) (by simp [frOk, AV.okR, AV.ok1, AC.okR, AV.ren, AV.ren1, AC.ren, AFrame.get, pl1_old, *]; first | done | omega) h) | exact (.one (c := some (H.n + 2)) hwf (by (repeat first | exact Sub.refl _ | refine Sub.push hwf ?_ _ | refine Sub.set hwf ?_ (by first | exact Nat.le_refl _ | omega | (simp only [push_n, set_n, kill_n]; omega)) _ | refine Sub.kill hwf ?_ (by first | exact Nat.le_refl _ | omega | (simp only [push_n, set_n, kill_n]; omega)))) ⟨by omega, by simp [push_b, set_b, kill_b, rowK]; done⟩ (plain_map (fun _ => rfl) _) (by simp [frOk, AV.okR, AV.ok1, AC.okR, AV.ren, AV.ren1, AC.ren, AFrame.get, pl1_old, *]; first | done | omega) h)
    have hb := isPr_b (arePr_at hv hm)
    have hlen := arePr_len hv
    unfold utRes at h
    simp only [hv, e, hm0, if_true, if_false, Int.toNat_natCast] at h
    rw [← ut_eq hv hm] at h
    have hw1 : IntKind.i64.wrap (ps[m].hue - ps[m].spread) = ps[m].hue - ps[m].spread := wrap_id (by omega) (by omega)
    have hw2 : IntKind.i64.wrap (ps[m].hue + ps[m].spread) = ps[m].hue + ps[m].spread := wrap_id (by omega) (by omega)
    have hj3 : ¬ (ps[m].hue - ps[m].spread + (((2 * ps[m].spread + 1).toNat : Nat) : Int) ≤ ps[m].hue + ps[m].spread) := by omega
    have hj4 : ¬ (ps[m].hue - ps[m].spread + max (2 * ps[m].spread + 1) 0 ≤ ps[m].hue + ps[m].spread) := by omega
    simp (config := {contextual := true, implicitDefEqProofs := false, maxSteps := 60000}) [-Int.not_le, -Int.not_lt, argsF, spec_UniqueTones_c, hat_ps.blk, hat_ps.esz, hat_ps.len, hat_ps.els, hne_ps, hne1_ps, hne2_ps.1, hne2_ps.2.1, hne2_ps.2.2.1, hne2_ps.2.2.2.1, hne2_ps.2.2.2.2.1, hne2_ps.2.2.2.2.2.1, hne2_ps.2.2.2.2.2.2.1, hne2_ps.2.2.2.2.2.2.2.1, hne2_ps.2.2.2.2.2.2.2.2.1, hne2_ps.2.2.2.2.2.2.2.2.2.1, hne2_ps.2.2.2.2.2.2.2.2.2.2, e, hm0, hm1, hm, em, hv, hw1]
    clear e hf
    refine aloop_list (rangeI (ps[m].hue - ps[m].spread) (2 * ps[m].spread + 1).toNat) (fun jo out => [(0, .c (.sl b_ps i_ps ps.length)), (6, .c (.sl (H.n) (0) (out.length))), (7, .c (.int .i64 ((m : Int)))), (8, .c (.int .i64 (ps[m].hue - ps[m].spread + (jo : Int))))]) (fun jo out => H.push (rowK eI 3 out)) (fun jo l out => (out.length ≤ jo) ∧ K (.tup [.c (.sl (H.n) (0) ((accM (fun t => decide (cntGo t ps 0 = 1)) (fun t => t) l out).length)), .c (.bool (true))]) (H.push (rowK eI 3 (accM (fun t => decide (cntGo t ps 0 = 1)) (fun t => t) l out)))) hE _ ([]) (⟨by simp, h⟩) (.one (c := some (H.n)) hwf (by (repeat first | exact Sub.refl _ | refine Sub.push hwf ?_ _ | refine Sub.set hwf ?_ (by first | exact Nat.le_refl _ | omega | (simp only [push_n, set_n, kill_n]; omega)) _ | refine Sub.kill hwf ?_ (by first | exact Nat.le_refl _ | omega | (simp only [push_n, set_n, kill_n]; omega)))) ⟨by omega, by simp [push_b, set_b, kill_b, rowK]; done⟩ (plain_map (fun _ => rfl) _) (by simp [frOk, AV.okR, AV.ok1, AC.okR, AV.ren, AV.ren1, AC.ren, AFrame.get, pl1_old, *]; first | done | omega)) (fun jo out hlto hio => ?_) fun out hio => ?_
    ·
      obtain ⟨hso, hio⟩ := hio
      have hj : jo < (2 * ps[m].spread + 1).toNat := by simpa using hlto
      have hj2 : ps[m].hue - ps[m].spread + (jo : Int) ≤ ps[m].hue + ps[m].spread := by omega
      have w2 : IntKind.i64.wrap (ps[m].hue - ps[m].spread + (jo : Int) + 1) = ps[m].hue - ps[m].spread + (jo : Int) + 1 := wrap_id (by omega) (by omega)
      have hb1 : (out.length + 1) * 8 ≤ 140737488355328 := by omega
      have hb2 : out.length + 1 ≤ 140737488355328 := by omega
      simp (config := {contextual := true, implicitDefEqProofs := false, maxSteps := 60000}) [-Int.not_le, -Int.not_lt, argsF, spec_UniqueTones_l1, hat_ps.blk, hat_ps.esz, hat_ps.len, hat_ps.els, hne_ps, hne1_ps, hne2_ps.1, hne2_ps.2.1, hne2_ps.2.2.1, hne2_ps.2.2.2.1, hne2_ps.2.2.2.2.1, hne2_ps.2.2.2.2.2.1, hne2_ps.2.2.2.2.2.2.1, hne2_ps.2.2.2.2.2.2.2.1, hne2_ps.2.2.2.2.2.2.2.2.1, hne2_ps.2.2.2.2.2.2.2.2.2.1, hne2_ps.2.2.2.2.2.2.2.2.2.2, hj2, w2, hm1, hm, em, hw2]
      refine aloop_list ps (fun j b => [(0, .c (.sl b_ps i_ps ps.length)), (6, .c (.sl (H.n) (0) (out.length))), (7, .c (.int .i64 ((m : Int)))), (8, .c (.int .i64 (ps[m].hue - ps[m].spread + (jo : Int)))), (9, .c (.int .i64 (b))), (10, .c (.int .i64 (j)))]) (fun j b => H.push (rowK eI 3 out)) (fun j l b => cntGo (ps[m].hue - ps[m].spread + (jo : Int)) l b = cntGo (ps[m].hue - ps[m].spread + (jo : Int)) ps 0) hE _ (0) (rfl) (.one (c := some (H.n)) hwf (by (repeat first | exact Sub.refl _ | refine Sub.push hwf ?_ _ | refine Sub.set hwf ?_ (by first | exact Nat.le_refl _ | omega | (simp only [push_n, set_n, kill_n]; omega)) _ | refine Sub.kill hwf ?_ (by first | exact Nat.le_refl _ | omega | (simp only [push_n, set_n, kill_n]; omega)))) ⟨by omega, by simp [push_b, set_b, kill_b, rowK]; done⟩ (plain_map (fun _ => rfl) _) (by simp [frOk, AV.okR, AV.ok1, AC.okR, AV.ren, AV.ren1, AC.ren, AFrame.get, pl1_old, *]; first | done | omega)) (fun j b hlt hi => ?_) fun b hi => ?_
      ·
        have e1 := hat_ps.get hlt
        have hj1 := idx_lt hlt
        have w1 : IntKind.i64.wrap ((j : Int) + 1) = (j : Int) + 1 := wrap_id (by omega) (by omega)
        simp (config := {contextual := true, implicitDefEqProofs := false, maxSteps := 60000}) [-Int.not_le, -Int.not_lt, argsF, spec_UniqueTones_l0, hat_ps.blk, hat_ps.esz, hat_ps.len, hat_ps.els, hne_ps, hne1_ps, hne2_ps.1, hne2_ps.2.1, hne2_ps.2.2.1, hne2_ps.2.2.2.1, hne2_ps.2.2.2.2.1, hne2_ps.2.2.2.2.2.1, hne2_ps.2.2.2.2.2.2.1, hne2_ps.2.2.2.2.2.2.2.1, hne2_ps.2.2.2.2.2.2.2.2.1, hne2_ps.2.2.2.2.2.2.2.2.2.1, hne2_ps.2.2.2.2.2.2.2.2.2.2, e1, hj1, w1]
        simp only [cntGo] at hi
        repeat' split
        all_goals try simp only [*, if_true, if_false, reduceCtorEq] at hi
        all_goals first | exact ⟨_, hi, .one (c := some (H.n)) hwf (by (repeat first | exact Sub.refl _ | refine Sub.push hwf ?_ _ | refine Sub.set hwf ?_ (by first | exact Nat.le_refl _ | omega | (simp only [push_n, set_n, kill_n]; omega)) _ | refine Sub.kill hwf ?_ (by first | exact Nat.le_refl _ | omega | (simp only [push_n, set_n, kill_n]; omega)))) ⟨by omega, by simp [push_b, set_b, kill_b, rowK]; done⟩ (plain_map (fun _ => rfl) _) (by simp [frOk, AV.okR, AV.ok1, AC.okR, AV.ren, AV.ren1, AC.ren, AFrame.get, pl1_old, *]; first | done | omega)⟩ | exact ⟨_, hi, .one (c := some (H.n + 1)) hwf (by (repeat first | exact Sub.refl _ | refine Sub.push hwf ?_ _ | refine Sub.set hwf ?_ (by first | exact Nat.le_refl _ | omega | (simp only [push_n, set_n, kill_n]; omega)) _ | refine Sub.kill hwf ?_ (by first | exact Nat.le_refl _ | omega | (simp only [push_n, set_n, kill_n]; omega)))) ⟨by omega, by simp [push_b, set_b, kill_b, rowK]; done⟩ (plain_map (fun _ => rfl) _) (by simp [frOk, AV.okR, AV.ok1, AC.okR, AV.ren, AV.ren1, AC.ren, AFrame.get, pl1_old, *]; first | done | omega)⟩ | exact ⟨_, hi, .one (c := some (H.n + 2)) hwf (by (repeat first | exact Sub.refl _ | refine Sub.push hwf ?_ _ | refine Sub.set hwf ?_ (by first | exact Nat.le_refl _ | omega | (simp only [push_n, set_n, kill_n]; omega)) _ | refine Sub.kill hwf ?_ (by first | exact Nat.le_refl _ | omega | (simp only [push_n, set_n, kill_n]; omega)))) ⟨by omega, by simp [push_b, set_b, kill_b, rowK]; done⟩ (plain_map (fun _ => rfl) _) (by simp [frOk, AV.okR, AV.ok1, AC.okR, AV.ren, AV.ren1, AC.ren, AFrame.get, pl1_old, *]; first | done | omega)⟩ | exact ⟨_, hi, .one (c := some (H.n + 3)) hwf (by (repeat first | exact Sub.refl _ | refine Sub.push hwf ?_ _ | refine Sub.set hwf ?_ (by first | exact Nat.le_refl _ | omega | (simp only [push_n, set_n, kill_n]; omega)) _ | refine Sub.kill hwf ?_ (by first | exact Nat.le_refl _ | omega | (simp only [push_n, set_n, kill_n]; omega)))) ⟨by omega, by simp [push_b, set_b, kill_b, rowK]; done⟩ (plain_map (fun _ => rfl) _) (by simp [frOk, AV.okR, AV.ok1, AC.okR, AV.ren, AV.ren1, AC.ren, AFrame.get, pl1_old, *]; first | done | omega)⟩ | exact ⟨_, hi, .one (c := some (H.n + 4)) hwf (by (repeat first | exact Sub.refl _ | refine Sub.push hwf ?_ _ | refine Sub.set hwf ?_ (by first | exact Nat.le_refl _ | omega | (simp only [push_n, set_n, kill_n]; omega)) _ | refine Sub.kill hwf ?_ (by first | exact Nat.le_refl _ | omega | (simp only [push_n, set_n, kill_n]; omega)))) ⟨by omega, by simp [push_b, set_b, kill_b, rowK]; done⟩ (plain_map (fun _ => rfl) _) (by simp [frOk, AV.okR, AV.ok1, AC.okR, AV.ren, AV.ren1, AC.ren, AFrame.get, pl1_old, *]; first | done | omega)⟩
      ·
        simp only [cntGo] at hi
        subst hi
        simp (config := {contextual := true, implicitDefEqProofs := false, maxSteps := 60000}) [-Int.not_le, -Int.not_lt, argsF, spec_UniqueTones_l0, hat_ps.blk, hat_ps.esz, hat_ps.len, hat_ps.els, hne_ps, hne1_ps, hne2_ps.1, hne2_ps.2.1, hne2_ps.2.2.1, hne2_ps.2.2.2.1, hne2_ps.2.2.2.2.1, hne2_ps.2.2.2.2.2.1, hne2_ps.2.2.2.2.2.2.1, hne2_ps.2.2.2.2.2.2.2.1, hne2_ps.2.2.2.2.2.2.2.2.1, hne2_ps.2.2.2.2.2.2.2.2.2.1, hne2_ps.2.2.2.2.2.2.2.2.2.2, w2, hb1, hb2]
        simp only [accM, rangeI_get, decide_eq_true_eq] at hio
        repeat' split
        all_goals simp only [*, if_true, if_false, reduceCtorEq] at hio
        all_goals first | exact ⟨_, ⟨by first | omega | (simp; omega), hio⟩, .one (c := some (H.n)) hwf (by (repeat first | exact Sub.refl _ | refine Sub.push hwf ?_ _ | refine Sub.set hwf ?_ (by first | exact Nat.le_refl _ | omega | (simp only [push_n, set_n, kill_n]; omega)) _ | refine Sub.kill hwf ?_ (by first | exact Nat.le_refl _ | omega | (simp only [push_n, set_n, kill_n]; omega)))) ⟨by omega, by simp [push_b, set_b, kill_b, rowK]; done⟩ (plain_map (fun _ => rfl) _) (by simp [frOk, AV.okR, AV.ok1, AC.okR, AV.ren, AV.ren1, AC.ren, AFrame.get, pl1_old, *]; first | done | omega)⟩ | exact ⟨_, ⟨by first | omega | (simp; omega), hio⟩, .one (c := some (H.n + 1)) hwf (by (repeat first | exact Sub.refl _ | refine Sub.push hwf ?_ _ | refine Sub.set hwf ?_ (by first | exact Nat.le_refl _ | omega | (simp only [push_n, set_n, kill_n]; omega)) _ | refine Sub.kill hwf ?_ (by first | exact Nat.le_refl _ | omega | (simp only [push_n, set_n, kill_n]; omega)))) ⟨by omega, by simp [push_b, set_b, kill_b, rowK]; done⟩ (plain_map (fun _ => rfl) _) (by simp [frOk, AV.okR, AV.ok1, AC.okR, AV.ren, AV.ren1, AC.ren, AFrame.get, pl1_old, *]; first | done | omega)⟩ | exact ⟨_, ⟨by first | omega | (simp; omega), hio⟩, .one (c := some (H.n + 2)) hwf (by (repeat first | exact Sub.refl _ | refine Sub.push hwf ?_ _ | refine Sub.set hwf ?_ (by first | exact Nat.le_refl _ | omega | (simp only [push_n, set_n, kill_n]; omega)) _ | refine Sub.kill hwf ?_ (by first | exact Nat.le_refl _ | omega | (simp only [push_n, set_n, kill_n]; omega)))) ⟨by omega, by simp [push_b, set_b, kill_b, rowK]; done⟩ (plain_map (fun _ => rfl) _) (by simp [frOk, AV.okR, AV.ok1, AC.okR, AV.ren, AV.ren1, AC.ren, AFrame.get, pl1_old, *]; first | done | omega)⟩ | exact ⟨_, ⟨by first | omega | (simp; omega), hio⟩, .one (c := some (H.n + 3)) hwf (by (repeat first | exact Sub.refl _ | refine Sub.push hwf ?_ _ | refine Sub.set hwf ?_ (by first | exact Nat.le_refl _ | omega | (simp only [push_n, set_n, kill_n]; omega)) _ | refine Sub.kill hwf ?_ (by first | exact Nat.le_refl _ | omega | (simp only [push_n, set_n, kill_n]; omega)))) ⟨by omega, by simp [push_b, set_b, kill_b, rowK]; done⟩ (plain_map (fun _ => rfl) _) (by simp [frOk, AV.okR, AV.ok1, AC.okR, AV.ren, AV.ren1, AC.ren, AFrame.get, pl1_old, *]; first | done | omega)⟩
    ·
      obtain ⟨hso, hio⟩ := hio
      simp (config := {contextual := true, implicitDefEqProofs := false, maxSteps := 60000}) [-Int.not_le, -Int.not_lt, argsF, spec_UniqueTones_l1, hat_ps.blk, hat_ps.esz, hat_ps.len, hat_ps.els, hne_ps, hne1_ps, hne2_ps.1, hne2_ps.2.1, hne2_ps.2.2.1, hne2_ps.2.2.2.1, hne2_ps.2.2.2.2.1, hne2_ps.2.2.2.2.2.1, hne2_ps.2.2.2.2.2.2.1, hne2_ps.2.2.2.2.2.2.2.1, hne2_ps.2.2.2.2.2.2.2.2.1, hne2_ps.2.2.2.2.2.2.2.2.2.1, hne2_ps.2.2.2.2.2.2.2.2.2.2, hm1, hm, em, hw2, hj3, hj4]
      simp only [accM] at hio
      first | exact (.one (c := some (H.n)) hwf (by (repeat first | exact Sub.refl _ | refine Sub.push hwf ?_ _ | refine Sub.set hwf ?_ (by first | exact Nat.le_refl _ | omega | (simp only [push_n, set_n, kill_n]; omega)) _ | refine Sub.kill hwf ?_ (by first | exact Nat.le_refl _ | omega | (simp only [push_n, set_n, kill_n]; omega)))) ⟨by omega, by simp [push_b, set_b, kill_b, rowK]; done⟩ (plain_map (fun _ => rfl) _) (by simp [frOk, AV.okR, AV.ok1, AC.okR, AV.ren, AV.ren1, AC.ren, AFrame.get, pl1_old, *]; first | done | omega) hio) | exact (.one (c := some (H.n + 1)) hwf (by (repeat first | exact Sub.refl _ | refine Sub.push hwf ?_ _ | refine Sub.set hwf ?_ (by first | exact Nat.le_refl _ | omega | (simp only [push_n, set_n, kill_n]; omega)) _ | refine Sub.kill hwf ?_ (by first | exact Nat.le_refl _ | omega | (simp only [push_n, set_n, kill_n]; omega)))) ⟨by omega, by simp [push_b, set_b, kill_b, rowK]; done⟩ (plain_map (fun _ => rfl) _) (by simp [frOk, AV.okR, AV.ok1, AC.okR, AV.ren, AV.ren1, AC.ren, AFrame.get, pl1_old, *]; first | done | omega) hio) | exact (.one (c := some (H.n + 2)) hwf (by (repeat first | exact Sub.refl _ | refine Sub.push hwf ?_ _ | refine Sub.set hwf ?_ (by first | exact Nat.le_refl _ | omega | (simp only [push_n, set_n, kill_n]; omega)) _ | refine Sub.kill hwf ?_ (by first | exact Nat.le_refl _ | omega | (simp only [push_n, set_n, kill_n]; omega)))) ⟨by omega, by simp [push_b, set_b, kill_b, rowK]; done⟩ (plain_map (fun _ => rfl) _) (by simp [frOk, AV.okR, AV.ok1, AC.okR, AV.ren, AV.ren1, AC.ren, AFrame.get, pl1_old, *]; first | done | omega) hio) | exact (.one (c := some (H.n + 3)) hwf (by (repeat first | exact Sub.refl _ | refine Sub.push hwf ?_ _ | refine Sub.set hwf ?_ (by first | exact Nat.le_refl _ | omega | (simp only [push_n, set_n, kill_n]; omega)) _ | refine Sub.kill hwf ?_ (by first | exact Nat.le_refl _ | omega | (simp only [push_n, set_n, kill_n]; omega)))) ⟨by omega, by simp [push_b, set_b, kill_b, rowK]; done⟩ (plain_map (fun _ => rfl) _) (by simp [frOk, AV.okR, AV.ok1, AC.okR, AV.ren, AV.ren1, AC.ren, AFrame.get, pl1_old, *]; first | done | omega) hio) | exact (.one (c := some (H.n + 4)) hwf (by (repeat first | exact Sub.refl _ | refine Sub.push hwf ?_ _ | refine Sub.set hwf ?_ (by first | exact Nat.le_refl _ | omega | (simp only [push_n, set_n, kill_n]; omega)) _ | refine Sub.kill hwf ?_ (by first | exact Nat.le_refl _ | omega | (simp only [push_n, set_n, kill_n]; omega)))) ⟨by omega, by simp [push_b, set_b, kill_b, rowK]; done⟩ (plain_map (fun _ => rfl) _) (by simp [frOk, AV.okR, AV.ok1, AC.okR, AV.ren, AV.ren1, AC.ren, AFrame.get, pl1_old, *]; first | done | omega) hio)

end Go.Proofs.YtegmlgikdniohaaDoor
