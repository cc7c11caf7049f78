/- The postmarks: the gap between. -/
import Derived.Test.YtnehhdcaknppnaaGreatDoorPoT
set_option maxRecDepth 8000
set_option linter.unusedSimpArgs false
set_option linter.unusedVariables false
namespace Go.Proofs.YtnehhdcaknppnaaGreatDoor
open Go Go.RowKit

set_option maxHeartbeats 1000000
def gF (t : List UInt8) : List Po → Int → Int
  | [], f => f
  | p :: r, f => gF t r (if p.town = t then (if p.first < f then p.first else f) else f)
def gL (t : List UInt8) : List Po → Int → Int
  | [], m => m
  | p :: r, m => gL t r (if p.town = t then (if m < p.last then p.last else m) else m)
def usedD (t : List UInt8) (ps : List Po) (d : Int) : Bool := ps.any fun p => decide (p.town = t) && inR d p.first p.last
def freeGo (u : Int → Bool) : Nat → Int → Int → Int
  | 0, _, c => c
  | n + 1, d, c => freeGo u n (d + 1) (if u d = true then c else c + 1)
theorem gF_b (t : List UInt8) : ∀ (l : List Po) (f : Int), (∀ p ∈ l, isPo p = true) → 0 ≤ f → 0 ≤ gF t l f ∧ gF t l f ≤ f
  | [], f, _, h => ⟨h, Int.le_refl _⟩
  | p :: r, f, hp, h => by
    have hb := isPo_b (hp p (by simp))
    have hr : ∀ p ∈ r, isPo p = true := fun q hq => hp q (by simp [hq])
    simp only [gF]
    split
    · split
      · have := gF_b t r p.first hr (by omega); omega
      · exact gF_b t r f hr h
    · exact gF_b t r f hr h
theorem gL_b (t : List UInt8) : ∀ (l : List Po) (m : Int), (∀ p ∈ l, isPo p = true) → -1 ≤ m → m ≤ 4000 → -1 ≤ gL t l m ∧ gL t l m ≤ 4000
  | [], m, _, h, h2 => ⟨h, h2⟩
  | p :: r, m, hp, h, h2 => by
    have hb := isPo_b (hp p (by simp))
    have hr : ∀ p ∈ r, isPo p = true := fun q hq => hp q (by simp [hq])
    simp only [gL]
    split
    · split
      · exact gL_b t r _ hr (by omega) (by omega)
      · exact gL_b t r _ hr h h2
    · exact gL_b t r _ hr h h2
theorem gF_eq (t : List UInt8) : ∀ (l : List Po), (∀ p ∈ l, isPo p = true) → 0 ≤ gL t l (-1) → gF t l 4001 = gF t l 4000
  | [], _, h => by simp [gL] at h
  | p :: r, hp, h => by
    have hb := isPo_b (hp p (by simp))
    have hr : ∀ p ∈ r, isPo p = true := fun q hq => hp q (by simp [hq])
    simp only [gF, gL] at h ⊢
    split
    · rw [if_pos (by omega)]
      split
      · rfl
      · rw [show p.first = 4000 by omega]
    · rename_i hn
      rw [if_neg hn] at h
      exact gF_eq t r hr h
theorem freeGo_b (u : Int → Bool) : ∀ (n : Nat) (d c : Int), c ≤ freeGo u n d c ∧ freeGo u n d c ≤ c + n
  | 0, _, c => by simp [freeGo]
  | n + 1, d, c => by
    simp only [freeGo]
    by_cases hu : u d = true
    · rw [if_pos hu]; have := freeGo_b u n (d + 1) c; omega
    · rw [if_neg hu]; have := freeGo_b u n (d + 1) (c + 1); omega
theorem usedD_add (t : List UInt8) (ps : List Po) (j : Nat) (h : j < ps.length) (d : Int) : usedD t (ps.take (j + 1)) d = (usedD t (ps.take j) d || (decide (ps[j].town = t) && inR d ps[j].first ps[j].last)) := by
  rw [List.take_succ_eq_append_getElem h]
  simp only [usedD, List.any_append, List.any_cons, List.any_nil, Bool.or_false]
theorem usedD_cons (t : List UInt8) (p : Po) (l : List Po) (d : Int) : usedD t (p :: l) d = ((decide (p.town = t) && inR d p.first p.last) || usedD t l d) := rfl
def gapRes (ps : List Po) (t : List UInt8) : Int × Bool := if arePo ps = true then (if isWord t = true then (if gL t ps (-1) < 0 then (0, false) else (freeGo (usedD t ps) (gL t ps (-1) + 1 - gF t ps 4000).toNat (gF t ps 4000) 0, true)) else (0, false)) else (0, false)
/-- a row of days -/
def dayL (u : Int → Bool) : List (List AC) := (List.range 4001).map fun (d : Nat) => [.bool (u (d : Int))]
theorem dayL_len (u : Int → Bool) : (dayL u).length = 4001 := by unfold dayL; rw [List.length_map, List.length_range]
theorem dayL_get (u : Int → Bool) {d : Nat} (h : d < 4001) : (dayL u)[d]? = some [.bool (u (d : Int))] := by
  unfold dayL
  rw [List.getElem?_map, List.getElem?_range h]
  rfl
theorem dayL_at (u : Int → Bool) {d : Nat} (h : d < (dayL u).length) : (dayL u)[d] = [.bool (u (d : Int))] := by
  have h1 := dayL_get u (d := d) (by rw [dayL_len] at h; exact h)
  rw [List.getElem?_eq_getElem h] at h1
  exact Option.some.inj h1
theorem dayL_0 : List.replicate 4001 [AC.bool false] = dayL fun _ => false := by
  apply List.ext_getElem?
  intro i
  rcases Nat.lt_or_ge i 4001 with h | h
  · rw [dayL_get _ h, List.getElem?_replicate, if_pos h]
  · rw [List.getElem?_eq_none (by rw [List.length_replicate]; exact h), List.getElem?_eq_none (by rw [dayL_len]; exact h)]
theorem dayL_set (u : Int → Bool) {d : Nat} (h : d < 4001) : (dayL u).set d [.bool true] = dayL fun x => if x = (d : Int) then true else u x := by
  apply List.ext_getElem?
  intro i
  rw [List.getElem?_set, dayL_len]
  rcases Nat.lt_or_ge i 4001 with hi | hi
  · rw [dayL_get _ hi, dayL_get _ hi, if_pos h]
    by_cases e : d = i
    · subst e; simp
    · rw [if_neg e, if_neg (by omega)]
  · rw [if_neg (by omega), List.getElem?_eq_none (by rw [dayL_len]; exact hi), List.getElem?_eq_none (by rw [dayL_len]; exact hi)]
theorem dayL_wf (u : Int → Bool) : ∀ e ∈ dayL u, ∀ n, ∀ x ∈ e, x.okR some n := fun e he n x hx => by
  simp only [dayL, List.mem_map] at he
  obtain ⟨d, _, rfl⟩ := he
  rw [List.mem_singleton.1 hx]
  trivial

def dayK (u : Int → Bool) : ABlk := ⟨4, 1, false, false, dayL u⟩
theorem dayK_wf {H : AHeap} (hwf : H.WF) (u : Int → Bool) : (H.push (dayK u)).WF := WF.push hwf (fun e he x hx => dayL_wf u e he _ x hx) (by show (dayL u).length ≤ _; rw [dayL_len]; omega)
theorem set_under (H : AHeap) (k b k' : ABlk) : ((H.push k).push b).set H.n k' = (H.push k').push b := by
  simp only [AHeap.set, AHeap.push, AHeap.mk.injEq, true_and, and_true]
  funext i
  by_cases h1 : i = H.n
  · subst h1; simp
  · by_cases h2 : i = H.n + 1 <;> simp [h1, h2]
theorem set_top (H : AHeap) (k b k' : ABlk) : ((H.push k).push b).set (H.n + 1) k' = (H.push k).push k' := push_set (H := H.push k) b k'
theorem usedD_0 (t : List UInt8) : usedD t [] = fun _ => false := rfl

def q_gap : Con := fun args H K => match args with
  | [ps_v, .c (.str t)] => ePo.rd H (fun ps => (∀ p ∈ ps, txP p) ∧ t.length ≤ 9223372036854775806 ∧ K (.tup [.c (.int .i64 ((gapRes ps t).1)), .c (.bool ((gapRes ps t).2))]) H) ps_v
  | _ => False
@[simp ↓] theorem q_gap_eq (ps_v : AV) (t : List UInt8) (H : AHeap) (K : AV → AHeap → Prop) : q_gap [ps_v, .c (.str t)] H K = (ePo.rd H (fun ps => (∀ p ∈ ps, txP p) ∧ t.length ≤ 9223372036854775806 ∧ K (.tup [.c (.int .i64 ((gapRes ps t).1)), .c (.bool ((gapRes ps t).2))]) H) ps_v) := rfl

theorem impl_GapBetween_s : Sound Tryz.prog 12 q_gap := by
  intro args H K h
  unfold q_gap at h
  split at h
  rotate_left
  all_goals first | exact False.elim h | skip
  rename_i ps_v t
  have h1 := Enc.rd_at h
  clear h
  obtain ⟨b_ps, i_ps, k_ps, ps, rfl, hat_ps, h⟩ := h1
  have hE := soundE_cons impl_arePostmarks_s (soundE_cons impl_isWord_s (soundE_nil (P := Tryz.prog)))
  refine acalls_fn impl_GapBetween_k hE ⟨by simp, fun hwf => ?_⟩
  have hb_ps : b_ps < H.n := (hwf b_ps k_ps hat_ps.blk).1
  have hne_ps : (b_ps = H.n) = False := eq_false (by omega)
  have hne1_ps : ∀ i, (b_ps = H.n + i) = False := fun i => eq_false (by omega)
  have hne2_ps : (b_ps = H.n + 1 + 1) = False ∧ (b_ps = H.n + 1 + 1 + 1) = False ∧ (b_ps = H.n + 1 + 1 + 1 + 1) = False ∧ (b_ps = H.n + 1 + 1 + 1 + 1 + 1) = False ∧ (b_ps = H.n + 1 + 1 + 1 + 1 + 1 + 1) = False ∧ (b_ps = H.n + 1 + 1 + 1 + 1 + 1 + 1 + 1) = False ∧ (b_ps = H.n + 1 + 1 + 1 + 1 + 1 + 1 + 1 + 1) = False ∧ (b_ps = H.n + 1 + 1 + 1 + 1 + 1 + 1 + 1 + 1 + 1) = False ∧ (b_ps = H.n + 1 + 1 + 1 + 1 + 1 + 1 + 1 + 1 + 1 + 1) = False ∧ (b_ps = H.n + 1 + 1 + 1 + 1 + 1 + 1 + 1 + 1 + 1 + 1 + 1) = False ∧ (b_ps = H.n + 1 + 1 + 1 + 1 + 1 + 1 + 1 + 1 + 1 + 1 + 1 + 1) = False := ⟨eq_false (by omega), eq_false (by omega), eq_false (by omega), eq_false (by omega), eq_false (by omega), eq_false (by omega), eq_false (by omega), eq_false (by omega), eq_false (by omega), eq_false (by omega), eq_false (by omega)⟩
  have hmx_ps : ps.length ≤ 9223372036854775807 := by have h1 := (hwf b_ps k_ps hat_ps.blk).2.2; have h2 := hat_ps.len; omega
  obtain ⟨hok, htl, h⟩ := h
  have htl2 : t.length ≤ 9223372036854775807 := by omega
  by_cases hv : arePo ps = true
  rotate_left
  · have e : gapRes ps t = (0, false) := by unfold gapRes; rw [if_neg hv]
    rw [e] at h
    simp (config := {contextual := true, implicitDefEqProofs := false, maxSteps := 2000000}) [-Int.not_le, -Int.not_lt, argsF, impl_GapBetween_c, hat_ps.blk, hat_ps.esz, hat_ps.len, hat_ps.els, hne_ps, hne1_ps, hne2_ps.1, hne2_ps.2.1, hne2_ps.2.2.1, hne2_ps.2.2.2.1, hne2_ps.2.2.2.2.1, hne2_ps.2.2.2.2.2.1, hne2_ps.2.2.2.2.2.2.1, hne2_ps.2.2.2.2.2.2.2.1, hne2_ps.2.2.2.2.2.2.2.2.1, hne2_ps.2.2.2.2.2.2.2.2.2.1, hne2_ps.2.2.2.2.2.2.2.2.2.2, hok, hv, htl2]
    (refine Out.plain hwf ?_ rfl ?_; (repeat first | exact Sub.refl _ | refine Sub.push hwf ?_ _ | refine Sub.set hwf ?_ (by first | exact Nat.le_refl _ | omega) _ | refine Sub.kill hwf ?_ (by first | exact Nat.le_refl _ | omega))); exact h
  by_cases hwd : isWord t = true
  rotate_left
  · have e : gapRes ps t = (0, false) := by unfold gapRes; rw [if_pos hv, if_neg hwd]
    rw [e] at h
    simp (config := {contextual := true, implicitDefEqProofs := false, maxSteps := 2000000}) [-Int.not_le, -Int.not_lt, argsF, impl_GapBetween_c, hat_ps.blk, hat_ps.esz, hat_ps.len, hat_ps.els, hne_ps, hne1_ps, hne2_ps.1, hne2_ps.2.1, hne2_ps.2.2.1, hne2_ps.2.2.2.1, hne2_ps.2.2.2.2.1, hne2_ps.2.2.2.2.2.1, hne2_ps.2.2.2.2.2.2.1, hne2_ps.2.2.2.2.2.2.2.1, hne2_ps.2.2.2.2.2.2.2.2.1, hne2_ps.2.2.2.2.2.2.2.2.2.1, hne2_ps.2.2.2.2.2.2.2.2.2.2, hok, hv, htl2, hwd]
    (refine Out.plain hwf ?_ rfl ?_; (repeat first | exact Sub.refl _ | refine Sub.push hwf ?_ _ | refine Sub.set hwf ?_ (by first | exact Nat.le_refl _ | omega) _ | refine Sub.kill hwf ?_ (by first | exact Nat.le_refl _ | omega))); exact h
  have hvv : ∀ p ∈ ps, isPo p = true := fun p hp => arePo_at hv hp
  have e : gapRes ps t = if gL t ps (-1) < 0 then (0, false) else (freeGo (usedD t ps) (gL t ps (-1) + 1 - gF t ps 4000).toNat (gF t ps 4000) 0, true) := by unfold gapRes; rw [if_pos hv, if_pos hwd]
  rw [e] at h
  clear e
  have hu0 : (⟨4, 1, false, false, List.replicate 4001 [AC.bool false]⟩ : ABlk) = dayK (usedD t (ps.take 0)) := by rw [dayL_0]; rfl
  simp (config := {contextual := true, implicitDefEqProofs := false, maxSteps := 2000000}) [-Int.not_le, -Int.not_lt, argsF, -List.reduceReplicate, impl_GapBetween_c, hat_ps.blk, hat_ps.esz, hat_ps.len, hat_ps.els, hne_ps, hne1_ps, hne2_ps.1, hne2_ps.2.1, hne2_ps.2.2.1, hne2_ps.2.2.2.1, hne2_ps.2.2.2.2.1, hne2_ps.2.2.2.2.2.1, hne2_ps.2.2.2.2.2.2.1, hne2_ps.2.2.2.2.2.2.2.1, hne2_ps.2.2.2.2.2.2.2.2.1, hne2_ps.2.2.2.2.2.2.2.2.2.1, hne2_ps.2.2.2.2.2.2.2.2.2.2, hok, hv, htl2, hwd]
  rw [hu0]
  refine aloop_list2 ps (fun j f m => [(1, .c (.str (t))), (6, .c (.sl (H.n) (0) (4001))), (7, .c (.int .i64 (f))), (8, .c (.int .i64 (m))), (23, .c (.sl b_ps i_ps ps.length)), (24, .c (.int .i64 ps.length)), (25, .c (.int .i64 (j)))]) (fun j f m => H.push (dayK (usedD t (ps.take j)))) (fun j l f m => gF t l f = gF t ps 4001 ∧ gL t l m = gL t ps (-1) ∧ 0 ≤ f ∧ f ≤ 4001 ∧ -1 ≤ m ∧ m ≤ 4000) hE _ 4001 (-1) ⟨rfl, rfl, by omega, by omega, by omega, by omega⟩ (Weak.since (H := H.push (dayK (usedD t (ps.take 0)))) (by simp only [push_n]; omega) (dayK_wf hwf _) (.refl _) (by simp [frOk, AV.okR, AV.ok1, AC.okR, AV.ren, AV.ren1, AC.ren, AFrame.get, pl1_old, *]; first | done | omega)) (fun jo f m hlto hi => ?_) fun f m hi => ?_
  · obtain ⟨hf, hm, f0, f1, m0, m1⟩ := hi
    have hb := isPo_b (hvv _ (List.getElem_mem hlto))
    have e1 := hat_ps.get hlto
    have hj1 := idx_lt hlto
    have w1 : IntKind.i64.wrap ((jo : Int) + 1) = (jo : Int) + 1 := wrap_id (by omega) (by omega)
    simp only [gF, gL] at hf hm
    by_cases hc : ps[jo].town = t
    rotate_left
    · have hus : usedD t (ps.take (jo + 1)) = usedD t (ps.take jo) := by
        funext d
        rw [usedD_add t ps jo hlto, decide_eq_false hc, Bool.false_and, Bool.or_false]
      rw [if_neg hc] at hf hm
      simp (config := {contextual := true, implicitDefEqProofs := false, maxSteps := 2000000}) [-Int.not_le, -Int.not_lt, argsF, impl_GapBetween_l1, hat_ps.blk, hat_ps.esz, hat_ps.len, hat_ps.els, hne_ps, hne1_ps, hne2_ps.1, hne2_ps.2.1, hne2_ps.2.2.1, hne2_ps.2.2.2.1, hne2_ps.2.2.2.2.1, hne2_ps.2.2.2.2.2.1, hne2_ps.2.2.2.2.2.2.1, hne2_ps.2.2.2.2.2.2.2.1, hne2_ps.2.2.2.2.2.2.2.2.1, hne2_ps.2.2.2.2.2.2.2.2.2.1, hne2_ps.2.2.2.2.2.2.2.2.2.2, e1, hj1, w1, hlto, hc]
      exact ⟨f, m, ⟨hf, hm, f0, f1, m0, m1⟩, by rw [hus, set_top]; exact Weak.since (H := H.push (dayK (usedD t (ps.take jo)))) (by simp only [push_n]; omega) (dayK_wf hwf _) (Sub.push (dayK_wf hwf _) (.refl _) _) (by simp [frOk, AV.okR, AV.ok1, AC.okR, AV.ren, AV.ren1, AC.ren, AFrame.get, pl1_old, *]; first | done | omega)⟩
    rw [if_pos hc] at hf hm
    have hbx : (⟨34, 6, false, false, [[AC.int .i64 ps[jo].id, AC.str t, AC.int .i64 ps[jo].kind, AC.int .i64 ps[jo].first, AC.int .i64 ps[jo].last, AC.str ps[jo].lost]]⟩ : ABlk) = boxP ps[jo] := by simp only [boxP, hc]
    simp (config := {contextual := true, implicitDefEqProofs := false, maxSteps := 2000000}) [-Int.not_le, -Int.not_lt, argsF, impl_GapBetween_l1, hat_ps.blk, hat_ps.esz, hat_ps.len, hat_ps.els, hne_ps, hne1_ps, hne2_ps.1, hne2_ps.2.1, hne2_ps.2.2.1, hne2_ps.2.2.2.1, hne2_ps.2.2.2.2.1, hne2_ps.2.2.2.2.2.1, hne2_ps.2.2.2.2.2.2.1, hne2_ps.2.2.2.2.2.2.2.1, hne2_ps.2.2.2.2.2.2.2.2.1, hne2_ps.2.2.2.2.2.2.2.2.2.1, hne2_ps.2.2.2.2.2.2.2.2.2.2, e1, hj1, w1, hlto, hc]
    rw [set_top, hbx]
    generalize hgf : (if ps[jo].first < f then ps[jo].first else f) = f' at hf ⊢
    generalize hgm : (if m < ps[jo].last then ps[jo].last else m) = m' at hm ⊢
    have f0' : 0 ≤ f' ∧ f' ≤ 4001 := by split at hgf <;> omega
    have m0' : -1 ≤ m' ∧ m' ≤ 4000 := by split at hgm <;> omega
    have huz : (fun d => usedD t (ps.take jo) d || (decide (ps[jo].first ≤ d) && decide (d < ps[jo].first + ((0 : Nat) : Int)))) = usedD t (ps.take jo) := by
      funext d
      rw [show (decide (ps[jo].first ≤ d) && decide (d < ps[jo].first + ((0 : Nat) : Int))) = false by simp only [Bool.and_eq_false_iff, decide_eq_false_iff_not]; omega, Bool.or_false]
    obtain ⟨n, hn⟩ : ∃ n : Nat, (n : Int) = ps[jo].last + 1 - ps[jo].first := ⟨(ps[jo].last + 1 - ps[jo].first).toNat, Int.toNat_of_nonneg (by omega)⟩
    have hbwf : ∀ u, ((H.push (dayK u)).push (boxP ps[jo])).WF := fun u => boxP_wf (dayK_wf hwf u) _
    refine aloop_list (List.replicate n ()) (fun j _ => [(1, .c (.str (t))), (6, .c (.sl (H.n) (0) (4001))), (7, .c (.int .i64 (f'))), (8, .c (.int .i64 (m'))), (10, .c (.ptr (H.n + 1) 0 0)), (11, .c (.int .i64 (ps[jo].first + (j : Int)))), (23, .c (.sl b_ps i_ps ps.length)), (24, .c (.int .i64 ps.length)), (25, .c (.int .i64 ((jo : Int))))]) (fun j _ => (H.push (dayK fun d => usedD t (ps.take jo) d || (decide (ps[jo].first ≤ d) && decide (d < ps[jo].first + (j : Int))))).push (boxP ps[jo])) (fun _ _ _ => True) hE _ () trivial (by rw [huz]; exact Weak.since (H := (H.push (dayK _)).push (boxP ps[jo])) (by simp only [push_n]; omega) (hbwf _) (.refl _) (by simp [frOk, AV.okR, AV.ok1, AC.okR, AV.ren, AV.ren1, AC.ren, AFrame.get, pl1_old, *]; first | done | omega)) (fun j _ hlt _ => ?_) fun _ _ => ?_
    · rw [List.length_replicate] at hlt
      have g1 : ps[jo].first + (j : Int) ≤ ps[jo].last := by omega
      have g2 : (ps[jo].first + (j : Int)).toNat < 4001 := by omega
      have g3 : 0 ≤ ps[jo].first + (j : Int) := by omega
      have g4 : ps[jo].first + (j : Int) < 4001 := by omega
      have w2 : IntKind.i64.wrap (ps[jo].first + (j : Int) + 1) = ps[jo].first + (j : Int) + 1 := wrap_id (by omega) (by omega)
      have hs := dayL_set (fun d => usedD t (ps.take jo) d || (decide (ps[jo].first ≤ d) && decide (d < ps[jo].first + (j : Int)))) g2
      have hus : (fun x => if x = (((ps[jo].first + (j : Int)).toNat : Nat) : Int) then true else usedD t (ps.take jo) x || (decide (ps[jo].first ≤ x) && decide (x < ps[jo].first + (j : Int)))) = fun d => usedD t (ps.take jo) d || (decide (ps[jo].first ≤ d) && decide (d < ps[jo].first + ((j + 1 : Nat) : Int))) := by
        funext d
        rw [Int.toNat_of_nonneg g3]
        by_cases hd : d = ps[jo].first + (j : Int)
        · rw [if_pos hd, show (decide (ps[jo].first ≤ d) && decide (d < ps[jo].first + ((j + 1 : Nat) : Int))) = true by simp only [Bool.and_eq_true, decide_eq_true_eq]; omega, Bool.or_true]
        · rw [if_neg hd]
          congr 2
          rw [decide_eq_decide]; omega
      rw [hus] at hs
      have hln := dayL_len (fun d => usedD t (ps.take jo) d || (decide (ps[jo].first ≤ d) && decide (d < ps[jo].first + (j : Int))))
      generalize hu1 : (fun d => usedD t (ps.take jo) d || (decide (ps[jo].first ≤ d) && decide (d < ps[jo].first + (j : Int)))) = u1 at *
      generalize hu2 : (fun d => usedD t (ps.take jo) d || (decide (ps[jo].first ≤ d) && decide (d < ps[jo].first + ((j + 1 : Nat) : Int)))) = u2 at *
      simp (config := {contextual := true, implicitDefEqProofs := false, maxSteps := 2000000}) [-Int.not_le, -Int.not_lt, argsF, impl_GapBetween_l0, boxP, dayK, g1, g2, g3, g4, w2, hs, hln, dayL_at]
      refine ⟨(), trivial, ?_⟩
      rw [set_under]
      rw [hu2]
      exact Weak.since (H := (H.push (dayK u2)).push (boxP ps[jo])) (by simp only [push_n]; omega) (hbwf _) (.refl _) (by simp [frOk, AV.okR, AV.ok1, AC.okR, AV.ren, AV.ren1, AC.ren, AFrame.get, pl1_old, *]; first | done | omega)
    · rw [List.length_replicate]
      have g1 : ¬ ps[jo].first + (n : Int) ≤ ps[jo].last := by omega
      have hus : usedD t (ps.take (jo + 1)) = fun d => usedD t (ps.take jo) d || (decide (ps[jo].first ≤ d) && decide (d < ps[jo].first + (n : Int))) := by
        funext d
        rw [usedD_add t ps jo hlto, decide_eq_true hc, Bool.true_and]
        congr 1
        simp only [inR]
        rw [← Bool.decide_and, decide_eq_decide]; omega
      simp (config := {contextual := true, implicitDefEqProofs := false, maxSteps := 2000000}) [-Int.not_le, -Int.not_lt, argsF, impl_GapBetween_l0, boxP, g1, hj1, w1]
      exact ⟨f', m', ⟨hf, hm, f0'.1, f0'.2, m0'.1, m0'.2⟩, by rw [hus]; exact Weak.since (H := H.push (dayK _)) (by simp only [push_n]; omega) (dayK_wf hwf _) (Sub.push (dayK_wf hwf _) (.refl _) _) (by simp [frOk, AV.okR, AV.ok1, AC.okR, AV.ren, AV.ren1, AC.ren, AFrame.get, pl1_old, *]; first | done | omega)⟩
  · obtain ⟨hf, hm, f0, f1, m0, m1⟩ := hi
    simp only [gF, gL] at hf hm
    rw [List.take_length]
    simp (config := {contextual := true, implicitDefEqProofs := false, maxSteps := 2000000}) [-Int.not_le, -Int.not_lt, argsF, impl_GapBetween_l1]
    refine ite_i (fun h1 => ?_) (fun h1 => ?_)
    · rw [← hm, if_pos h1] at h; (refine Out.plain hwf ?_ rfl ?_; (repeat first | exact Sub.refl _ | refine Sub.push hwf ?_ _ | refine Sub.set hwf ?_ (by first | exact Nat.le_refl _ | omega) _ | refine Sub.kill hwf ?_ (by first | exact Nat.le_refl _ | omega))); exact h
    rw [← hm, if_neg h1, ← gF_eq t ps hvv (by omega), ← hf] at h
    generalize hn : (m + 1 - f).toNat = n at h
    refine aloop_list (List.replicate n ()) (fun j c => [(6, .c (.sl (H.n) (0) (4001))), (8, .c (.int .i64 (m))), (12, .c (.int .i64 (c))), (13, .c (.int .i64 (f + (j : Int))))]) (fun j _ => H.push (dayK (usedD t ps))) (fun j l c => freeGo (usedD t ps) l.length (f + (j : Int)) c = freeGo (usedD t ps) n f 0 ∧ 0 ≤ c ∧ c ≤ (j : Int)) hE _ 0 ⟨by simp, by omega, by omega⟩ (Weak.since (H := H.push (dayK (usedD t ps))) (by simp only [push_n]; omega) (dayK_wf hwf _) (.refl _) (by simp [frOk, AV.okR, AV.ok1, AC.okR, AV.ren, AV.ren1, AC.ren, AFrame.get, pl1_old, *]; first | done | omega)) (fun j c hlt hi => ?_) fun c hi => ?_
    · obtain ⟨hi, c0, c1⟩ := hi
      rw [List.length_cons, freeGo] at hi
      rw [List.length_replicate] at hlt
      have g1 : f + (j : Int) ≤ m := by omega
      have g2 : (f + (j : Int)).toNat < 4001 := by omega
      have g3 : 0 ≤ f + (j : Int) := by omega
      have g4 : f + (j : Int) < 4001 := by omega
      have w2 : IntKind.i64.wrap (f + (j : Int) + 1) = f + (j : Int) + 1 := wrap_id (by omega) (by omega)
      have w3 : IntKind.i64.wrap (c + 1) = c + 1 := wrap_id (by omega) (by omega)
      have hln := dayL_len (usedD t ps)
      have mx : max (f + (j : Int)) 0 = f + (j : Int) := by omega
      have ej : f + (j : Int) + 1 = f + ((j + 1 : Nat) : Int) := by omega
      simp (config := {contextual := true, implicitDefEqProofs := false, maxSteps := 2000000}) [-Int.not_le, -Int.not_lt, argsF, impl_GapBetween_l2, dayK, g1, g2, g3, g4, w2, w3, hln, dayL_at, mx]
      refine ite_i (fun hu => ?_) (fun hu => ?_)
      · rw [hu, if_pos rfl] at hi
        exact ⟨c, ⟨by rw [← ej]; exact hi, by omega, by omega⟩, Weak.since (H := H.push (dayK (usedD t ps))) (by simp only [push_n]; omega) (dayK_wf hwf _) (.refl _) (by simp [frOk, AV.okR, AV.ok1, AC.okR, AV.ren, AV.ren1, AC.ren, AFrame.get, pl1_old, *]; first | done | omega)⟩
      · rw [if_neg hu] at hi
        exact ⟨c + 1, ⟨by rw [← ej]; exact hi, by omega, by omega⟩, Weak.since (H := H.push (dayK (usedD t ps))) (by simp only [push_n]; omega) (dayK_wf hwf _) (.refl _) (by simp [frOk, AV.okR, AV.ok1, AC.okR, AV.ren, AV.ren1, AC.ren, AFrame.get, pl1_old, *]; first | done | omega)⟩
    · obtain ⟨hi, c0, c1⟩ := hi
      rw [List.length_replicate] at hi ⊢
      have g1 : ¬ f + (n : Int) ≤ m := by omega
      simp (config := {contextual := true, implicitDefEqProofs := false, maxSteps := 2000000}) [-Int.not_le, -Int.not_lt, argsF, impl_GapBetween_l2, g1]
      simp only [List.length_nil, freeGo] at hi
      rw [← hi] at h
      (refine Out.plain hwf ?_ rfl ?_; (repeat first | exact Sub.refl _ | refine Sub.push hwf ?_ _ | refine Sub.set hwf ?_ (by first | exact Nat.le_refl _ | omega) _ | refine Sub.kill hwf ?_ (by first | exact Nat.le_refl _ | omega))); exact h

theorem spec_GapBetween_s : Sound Tryz.prog 13 q_gap := by
  intro args H K h
  unfold q_gap at h
  split at h
  rotate_left
  all_goals first | exact False.elim h | skip
  rename_i ps_v t
  have h1 := Enc.rd_at h
  clear h
  obtain ⟨b_ps, i_ps, k_ps, ps, rfl, hat_ps, h⟩ := h1
  have hE := soundE_cons spec_l11Good_s (soundE_cons spec_l2Word_s (soundE_cons spec_l1Least_s (soundE_cons spec_l1Most_s (soundE_cons spec_l11Used_s (soundE_nil (P := Tryz.prog))))))
  refine acalls_fn spec_GapBetween_k hE ⟨by simp, fun hwf => ?_⟩
  have hb_ps : b_ps < H.n := (hwf b_ps k_ps hat_ps.blk).1
  have hne_ps : (b_ps = H.n) = False := eq_false (by omega)
  have hne1_ps : ∀ i, (b_ps = H.n + i) = False := fun i => eq_false (by omega)
  have hne2_ps : (b_ps = H.n + 1 + 1) = False ∧ (b_ps = H.n + 1 + 1 + 1) = False ∧ (b_ps = H.n + 1 + 1 + 1 + 1) = False ∧ (b_ps = H.n + 1 + 1 + 1 + 1 + 1) = False ∧ (b_ps = H.n + 1 + 1 + 1 + 1 + 1 + 1) = False ∧ (b_ps = H.n + 1 + 1 + 1 + 1 + 1 + 1 + 1) = False ∧ (b_ps = H.n + 1 + 1 + 1 + 1 + 1 + 1 + 1 + 1) = False ∧ (b_ps = H.n + 1 + 1 + 1 + 1 + 1 + 1 + 1 + 1 + 1) = False ∧ (b_ps = H.n + 1 + 1 + 1 + 1 + 1 + 1 + 1 + 1 + 1 + 1) = False ∧ (b_ps = H.n + 1 + 1 + 1 + 1 + 1 + 1 + 1 + 1 + 1 + 1 + 1) = False ∧ (b_ps = H.n + 1 + 1 + 1 + 1 + 1 + 1 + 1 + 1 + 1 + 1 + 1 + 1) = False := ⟨eq_false (by omega), eq_false (by omega), eq_false (by omega), eq_false (by omega), eq_false (by omega), eq_false (by omega), eq_false (by omega), eq_false (by omega), eq_false (by omega), eq_false (by omega), eq_false (by omega)⟩
  have hmx_ps : ps.length ≤ 9223372036854775807 := by have h1 := (hwf b_ps k_ps hat_ps.blk).2.2; have h2 := hat_ps.len; omega
  obtain ⟨hok, htl, h⟩ := h
  have htl2 : t.length ≤ 9223372036854775807 := by omega
  by_cases hv : arePo ps = true
  rotate_left
  · have e : gapRes ps t = (0, false) := by unfold gapRes; rw [if_neg hv]
    rw [e] at h
    simp (config := {contextual := true, implicitDefEqProofs := false, maxSteps := 2000000}) [-Int.not_le, -Int.not_lt, argsF, spec_GapBetween_c, hat_ps.blk, hat_ps.esz, hat_ps.len, hat_ps.els, hne_ps, hne1_ps, hne2_ps.1, hne2_ps.2.1, hne2_ps.2.2.1, hne2_ps.2.2.2.1, hne2_ps.2.2.2.2.1, hne2_ps.2.2.2.2.2.1, hne2_ps.2.2.2.2.2.2.1, hne2_ps.2.2.2.2.2.2.2.1, hne2_ps.2.2.2.2.2.2.2.2.1, hne2_ps.2.2.2.2.2.2.2.2.2.1, hne2_ps.2.2.2.2.2.2.2.2.2.2, hok, hv, htl2]
    (refine Out.plain hwf ?_ rfl ?_; (repeat first | exact Sub.refl _ | refine Sub.push hwf ?_ _ | refine Sub.set hwf ?_ (by first | exact Nat.le_refl _ | omega) _ | refine Sub.kill hwf ?_ (by first | exact Nat.le_refl _ | omega))); exact h
  by_cases hwd : isWord t = true
  rotate_left
  · have e : gapRes ps t = (0, false) := by unfold gapRes; rw [if_pos hv, if_neg hwd]
    rw [e] at h
    simp (config := {contextual := true, implicitDefEqProofs := false, maxSteps := 2000000}) [-Int.not_le, -Int.not_lt, argsF, spec_GapBetween_c, hat_ps.blk, hat_ps.esz, hat_ps.len, hat_ps.els, hne_ps, hne1_ps, hne2_ps.1, hne2_ps.2.1, hne2_ps.2.2.1, hne2_ps.2.2.2.1, hne2_ps.2.2.2.2.1, hne2_ps.2.2.2.2.2.1, hne2_ps.2.2.2.2.2.2.1, hne2_ps.2.2.2.2.2.2.2.1, hne2_ps.2.2.2.2.2.2.2.2.1, hne2_ps.2.2.2.2.2.2.2.2.2.1, hne2_ps.2.2.2.2.2.2.2.2.2.2, hok, hv, htl2, hwd]
    (refine Out.plain hwf ?_ rfl ?_; (repeat first | exact Sub.refl _ | refine Sub.push hwf ?_ _ | refine Sub.set hwf ?_ (by first | exact Nat.le_refl _ | omega) _ | refine Sub.kill hwf ?_ (by first | exact Nat.le_refl _ | omega))); exact h
  have hvv : ∀ p ∈ ps, isPo p = true := fun p hp => arePo_at hv hp
  have e : gapRes ps t = if gL t ps (-1) < 0 then (0, false) else (freeGo (usedD t ps) (gL t ps (-1) + 1 - gF t ps 4000).toNat (gF t ps 4000) 0, true) := by unfold gapRes; rw [if_pos hv, if_pos hwd]
  rw [e] at h
  clear e
  simp (config := {contextual := true, implicitDefEqProofs := false, maxSteps := 2000000}) [-Int.not_le, -Int.not_lt, argsF, spec_GapBetween_c, hat_ps.blk, hat_ps.esz, hat_ps.len, hat_ps.els, hne_ps, hne1_ps, hne2_ps.1, hne2_ps.2.1, hne2_ps.2.2.1, hne2_ps.2.2.2.1, hne2_ps.2.2.2.2.1, hne2_ps.2.2.2.2.2.1, hne2_ps.2.2.2.2.2.2.1, hne2_ps.2.2.2.2.2.2.2.1, hne2_ps.2.2.2.2.2.2.2.2.1, hne2_ps.2.2.2.2.2.2.2.2.2.1, hne2_ps.2.2.2.2.2.2.2.2.2.2, hok, hv, htl2, hwd]
  refine aloop_list2 ps (fun j f m => [(0, .c (.sl b_ps i_ps ps.length)), (1, .c (.str (t))), (6, .c (.int .i64 (f))), (7, .c (.int .i64 (m))), (8, .c (.int .i64 ((j : Int))))]) (fun j f m => H) (fun j l f m => gF t l f = gF t ps 4000 ∧ gL t l m = gL t ps (-1) ∧ 0 ≤ f ∧ f ≤ 4000 ∧ -1 ≤ m ∧ m ≤ 4000) hE _ 4000 (-1) ⟨rfl, rfl, by omega, by omega, by omega, by omega⟩ (.same hwf (by simp [frOk, AV.okR, AV.ok1, AC.okR, AV.ren, AV.ren1, AC.ren, AFrame.get, pl1_old, *]; first | done | omega)) (fun jo f m hlto hi => ?_) fun f m hi => ?_
  · obtain ⟨hf, hm, f0, f1, m0, m1⟩ := hi
    have hb := isPo_b (hvv _ (List.getElem_mem hlto))
    have e1 := hat_ps.get hlto
    have hj1 := idx_lt hlto
    have w1 : IntKind.i64.wrap ((jo : Int) + 1) = (jo : Int) + 1 := wrap_id (by omega) (by omega)
    simp only [gF, gL] at hf hm
    by_cases hc : ps[jo].town = t
    rotate_left
    · rw [if_neg hc] at hf hm
      simp (config := {contextual := true, implicitDefEqProofs := false, maxSteps := 2000000}) [-Int.not_le, -Int.not_lt, argsF, spec_GapBetween_l0, hat_ps.blk, hat_ps.esz, hat_ps.len, hat_ps.els, hne_ps, hne1_ps, hne2_ps.1, hne2_ps.2.1, hne2_ps.2.2.1, hne2_ps.2.2.2.1, hne2_ps.2.2.2.2.1, hne2_ps.2.2.2.2.2.1, hne2_ps.2.2.2.2.2.2.1, hne2_ps.2.2.2.2.2.2.2.1, hne2_ps.2.2.2.2.2.2.2.2.1, hne2_ps.2.2.2.2.2.2.2.2.2.1, hne2_ps.2.2.2.2.2.2.2.2.2.2, e1, hj1, w1, hlto, hc]
      exact ⟨f, m, ⟨hf, hm, f0, f1, m0, m1⟩, .drop hwf (by (repeat first | exact Sub.refl _ | refine Sub.push hwf ?_ _ | refine Sub.set hwf ?_ (by first | exact Nat.le_refl _ | omega) _ | refine Sub.kill hwf ?_ (by first | exact Nat.le_refl _ | omega))) (by simp [frOk, AV.okR, AV.ok1, AC.okR, AV.ren, AV.ren1, AC.ren, AFrame.get, pl1_old, *]; first | done | omega)⟩
    rw [if_pos hc] at hf hm
    simp (config := {contextual := true, implicitDefEqProofs := false, maxSteps := 2000000}) [-Int.not_le, -Int.not_lt, argsF, spec_GapBetween_l0, hat_ps.blk, hat_ps.esz, hat_ps.len, hat_ps.els, hne_ps, hne1_ps, hne2_ps.1, hne2_ps.2.1, hne2_ps.2.2.1, hne2_ps.2.2.2.1, hne2_ps.2.2.2.2.1, hne2_ps.2.2.2.2.2.1, hne2_ps.2.2.2.2.2.2.1, hne2_ps.2.2.2.2.2.2.2.1, hne2_ps.2.2.2.2.2.2.2.2.1, hne2_ps.2.2.2.2.2.2.2.2.2.1, hne2_ps.2.2.2.2.2.2.2.2.2.2, e1, hj1, w1, hlto, hc]
    generalize hgf : (if ps[jo].first < f then ps[jo].first else f) = f' at hf ⊢
    generalize hgm : (if m < ps[jo].last then ps[jo].last else m) = m' at hm ⊢
    have f0' : 0 ≤ f' ∧ f' ≤ 4001 := by split at hgf <;> omega
    have m0' : -1 ≤ m' ∧ m' ≤ 4000 := by split at hgm <;> omega
    have f1' : f' ≤ 4000 := by split at hgf <;> omega
    exact ⟨f', m', ⟨hf, hm, f0'.1, f1', m0'.1, m0'.2⟩, .drop hwf (by (repeat first | exact Sub.refl _ | refine Sub.push hwf ?_ _ | refine Sub.set hwf ?_ (by first | exact Nat.le_refl _ | omega) _ | refine Sub.kill hwf ?_ (by first | exact Nat.le_refl _ | omega))) (by simp [frOk, AV.okR, AV.ok1, AC.okR, AV.ren, AV.ren1, AC.ren, AFrame.get, pl1_old, *]; first | done | omega)⟩
  · obtain ⟨hf, hm, f0, f1, m0, m1⟩ := hi
    simp only [gF, gL] at hf hm
    simp (config := {contextual := true, implicitDefEqProofs := false, maxSteps := 2000000}) [-Int.not_le, -Int.not_lt, argsF, spec_GapBetween_l0]
    refine ite_i (fun h1 => ?_) (fun h1 => ?_)
    · rw [← hm, if_pos h1] at h; (refine Out.plain hwf ?_ rfl ?_; (repeat first | exact Sub.refl _ | refine Sub.push hwf ?_ _ | refine Sub.set hwf ?_ (by first | exact Nat.le_refl _ | omega) _ | refine Sub.kill hwf ?_ (by first | exact Nat.le_refl _ | omega))); exact h
    rw [← hm, if_neg h1, ← hf] at h
    generalize hn : (m + 1 - f).toNat = n at h
    refine aloop_list (List.replicate n ()) (fun jo c => [(0, .c (.sl b_ps i_ps ps.length)), (1, .c (.str (t))), (7, .c (.int .i64 (m))), (9, .c (.int .i64 (c))), (10, .c (.int .i64 (f + (jo : Int))))]) (fun jo _ => H) (fun jo l c => freeGo (usedD t ps) l.length (f + (jo : Int)) c = freeGo (usedD t ps) n f 0 ∧ 0 ≤ c ∧ c ≤ (jo : Int)) hE _ 0 ⟨by simp, by omega, by omega⟩ (Weak.since (H := H) (Nat.le_refl _) hwf (.refl _) (by simp [frOk, AV.okR, AV.ok1, AC.okR, AV.ren, AV.ren1, AC.ren, AFrame.get, pl1_old, *]; first | done | omega)) (fun jo c hlto hi => ?_) fun c hi => ?_
    · obtain ⟨hi, c0, c1⟩ := hi
      rw [List.length_cons, freeGo] at hi
      rw [List.length_replicate] at hlto
      have g1 : f + (jo : Int) ≤ m := by omega
      have w2 : IntKind.i64.wrap (f + (jo : Int) + 1) = f + (jo : Int) + 1 := wrap_id (by omega) (by omega)
      have w3 : IntKind.i64.wrap (c + 1) = c + 1 := wrap_id (by omega) (by omega)
      have ej : f + (jo : Int) + 1 = f + ((jo + 1 : Nat) : Int) := by omega
      simp (config := {contextual := true, implicitDefEqProofs := false, maxSteps := 2000000}) [-Int.not_le, -Int.not_lt, argsF, spec_GapBetween_l2, g1]
      refine aloop_list ps (fun j b => [(0, .c (.sl b_ps i_ps ps.length)), (1, .c (.str (t))), (7, .c (.int .i64 (m))), (9, .c (.int .i64 (c))), (10, .c (.int .i64 (f + (jo : Int)))), (11, .c (.bool (b))), (12, .c (.int .i64 ((j : Int))))]) (fun j b => H) (fun j l b => (b || usedD t l (f + (jo : Int))) = usedD t ps (f + (jo : Int))) hE _ false (by simp) (.same hwf (by simp [frOk, AV.okR, AV.ok1, AC.okR, AV.ren, AV.ren1, AC.ren, AFrame.get, pl1_old, *]; first | done | omega)) (fun j b hlt hib => ?_) fun b hib => ?_
      · have e1 := hat_ps.get hlt
        have hj1 := idx_lt hlt
        have w1 : IntKind.i64.wrap ((j : Int) + 1) = (j : Int) + 1 := wrap_id (by omega) (by omega)
        rw [usedD_cons] at hib
        cases b with
        | true =>
          simp (config := {contextual := true, implicitDefEqProofs := false, maxSteps := 2000000}) [-Int.not_le, -Int.not_lt, argsF, spec_GapBetween_l1, hat_ps.blk, hat_ps.esz, hat_ps.len, hat_ps.els, hne_ps, hne1_ps, hne2_ps.1, hne2_ps.2.1, hne2_ps.2.2.1, hne2_ps.2.2.2.1, hne2_ps.2.2.2.2.1, hne2_ps.2.2.2.2.2.1, hne2_ps.2.2.2.2.2.2.1, hne2_ps.2.2.2.2.2.2.2.1, hne2_ps.2.2.2.2.2.2.2.2.1, hne2_ps.2.2.2.2.2.2.2.2.2.1, hne2_ps.2.2.2.2.2.2.2.2.2.2, e1, hj1, w1, hlt]
          exact ⟨true, by rw [Bool.true_or] at hib ⊢; exact hib, .drop hwf (by (repeat first | exact Sub.refl _ | refine Sub.push hwf ?_ _ | refine Sub.set hwf ?_ (by first | exact Nat.le_refl _ | omega) _ | refine Sub.kill hwf ?_ (by first | exact Nat.le_refl _ | omega))) (by simp [frOk, AV.okR, AV.ok1, AC.okR, AV.ren, AV.ren1, AC.ren, AFrame.get, pl1_old, *]; first | done | omega)⟩
        | false =>
          by_cases hc : ps[j].town = t
          · simp (config := {contextual := true, implicitDefEqProofs := false, maxSteps := 2000000}) [-Int.not_le, -Int.not_lt, argsF, spec_GapBetween_l1, hat_ps.blk, hat_ps.esz, hat_ps.len, hat_ps.els, hne_ps, hne1_ps, hne2_ps.1, hne2_ps.2.1, hne2_ps.2.2.1, hne2_ps.2.2.2.1, hne2_ps.2.2.2.2.1, hne2_ps.2.2.2.2.2.1, hne2_ps.2.2.2.2.2.2.1, hne2_ps.2.2.2.2.2.2.2.1, hne2_ps.2.2.2.2.2.2.2.2.1, hne2_ps.2.2.2.2.2.2.2.2.2.1, hne2_ps.2.2.2.2.2.2.2.2.2.2, e1, hj1, w1, hlt, hc]
            rw [decide_eq_true hc] at hib
            exact ⟨inR (f + (jo : Int)) ps[j].first ps[j].last, by rw [Bool.true_and, Bool.false_or] at hib; exact hib, .drop hwf (by (repeat first | exact Sub.refl _ | refine Sub.push hwf ?_ _ | refine Sub.set hwf ?_ (by first | exact Nat.le_refl _ | omega) _ | refine Sub.kill hwf ?_ (by first | exact Nat.le_refl _ | omega))) (by simp [frOk, AV.okR, AV.ok1, AC.okR, AV.ren, AV.ren1, AC.ren, AFrame.get, pl1_old, *]; first | done | omega)⟩
          · simp (config := {contextual := true, implicitDefEqProofs := false, maxSteps := 2000000}) [-Int.not_le, -Int.not_lt, argsF, spec_GapBetween_l1, hat_ps.blk, hat_ps.esz, hat_ps.len, hat_ps.els, hne_ps, hne1_ps, hne2_ps.1, hne2_ps.2.1, hne2_ps.2.2.1, hne2_ps.2.2.2.1, hne2_ps.2.2.2.2.1, hne2_ps.2.2.2.2.2.1, hne2_ps.2.2.2.2.2.2.1, hne2_ps.2.2.2.2.2.2.2.1, hne2_ps.2.2.2.2.2.2.2.2.1, hne2_ps.2.2.2.2.2.2.2.2.2.1, hne2_ps.2.2.2.2.2.2.2.2.2.2, e1, hj1, w1, hlt, hc]
            rw [decide_eq_false hc] at hib
            exact ⟨false, by rw [Bool.false_and, Bool.false_or] at hib; exact hib, .drop hwf (by (repeat first | exact Sub.refl _ | refine Sub.push hwf ?_ _ | refine Sub.set hwf ?_ (by first | exact Nat.le_refl _ | omega) _ | refine Sub.kill hwf ?_ (by first | exact Nat.le_refl _ | omega))) (by simp [frOk, AV.okR, AV.ok1, AC.okR, AV.ren, AV.ren1, AC.ren, AFrame.get, pl1_old, *]; first | done | omega)⟩
      · simp only [usedD, List.any_nil, Bool.or_false] at hib
        change b = usedD t ps (f + (jo : Int)) at hib
        simp (config := {contextual := true, implicitDefEqProofs := false, maxSteps := 2000000}) [-Int.not_le, -Int.not_lt, argsF, spec_GapBetween_l1, w2, w3]
        refine ite_i (fun hu => ?_) (fun hu => ?_)
        · rw [← hib, hu, if_pos rfl] at hi
          exact ⟨c, ⟨by rw [← ej]; exact hi, by omega, by omega⟩, Weak.since (H := H) (Nat.le_refl _) hwf (.refl _) (by simp [frOk, AV.okR, AV.ok1, AC.okR, AV.ren, AV.ren1, AC.ren, AFrame.get, pl1_old, *]; first | done | omega)⟩
        · rw [← hib, if_neg hu] at hi
          exact ⟨c + 1, ⟨by rw [← ej]; exact hi, by omega, by omega⟩, Weak.since (H := H) (Nat.le_refl _) hwf (.refl _) (by simp [frOk, AV.okR, AV.ok1, AC.okR, AV.ren, AV.ren1, AC.ren, AFrame.get, pl1_old, *]; first | done | omega)⟩
    · obtain ⟨hi, c0, c1⟩ := hi
      rw [List.length_replicate] at hi ⊢
      have g1 : ¬ f + (n : Int) ≤ m := by omega
      simp (config := {contextual := true, implicitDefEqProofs := false, maxSteps := 2000000}) [-Int.not_le, -Int.not_lt, argsF, spec_GapBetween_l2, g1]
      simp only [List.length_nil, freeGo] at hi
      rw [← hi] at h
      (refine Out.plain hwf ?_ rfl ?_; (repeat first | exact Sub.refl _ | refine Sub.push hwf ?_ _ | refine Sub.set hwf ?_ (by first | exact Nat.le_refl _ | omega) _ | refine Sub.kill hwf ?_ (by first | exact Nat.le_refl _ | omega))); exact h

end Go.Proofs.YtnehhdcaknppnaaGreatDoor
