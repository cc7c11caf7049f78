/- The postmarks: what the law on postmarks asks, plainly. -/
import Derived.Test.YtnehhdcaknppnaaDoorPoPl
import Derived.Test.YtnehhdcaknppnaaDoorPoU
import Derived.Test.YtnehhdcaknppnaaDoorPoW
import Derived.Test.YtnehhdcaknppnaaDoorPoRm
set_option maxRecDepth 8000
set_option linter.unusedSimpArgs false
set_option linter.unusedVariables false
namespace Go.Proofs.YtnehhdcaknppnaaDoor
open Go Go.RowKit

set_option maxHeartbeats 2000000
theorem ll_all {ps : List Po} {i k : Int} (h : (llRes ps i k).2 = true) : arePo ps = true ∧ ∃ (m : Nat) (hm : m < ps.length), k.toNat < ps[m].lost.length ∧ llRes ps i k = (ps.set m (llP ps[m] k.toNat), true) ∧ arePo (ps.set m (llP ps[m] k.toNat)) = true := by
  by_cases hv : arePo ps = true
  rotate_left
  · unfold llRes at h; rw [if_neg hv] at h; cases h
  rcases ixOf_at (fun p : Po => decide (p.id = i)) ps 0 with ⟨h1, _⟩ | ⟨m, hm, h1, h2, _⟩
  · unfold llRes at h; rw [if_pos hv, h1] at h; cases h
  rw [Nat.zero_add] at h1
  have hgd : ps.getD m default = ps[m] := by simp [List.getD_eq_getElem?_getD, hm]
  have e : llRes ps i k = if inR k 0 (ps[m].town.length - 1) = true then (if ps[m].lost[k.toNat]? = some 120 then ([], false) else if arePo (ps.set m (llP ps[m] k.toNat)) = true then (ps.set m (llP ps[m] k.toNat), true) else ([], false)) else ([], false) := by
    unfold llRes
    rw [if_pos hv, h1, if_neg (by omega), Int.toNat_natCast, hgd]
  rw [e] at h
  by_cases hr : inR k 0 (ps[m].town.length - 1) = true
  rotate_left
  · rw [if_neg hr] at h; cases h
  have hr2 : 0 ≤ k ∧ k ≤ (ps[m].town.length : Int) - 1 := by simpa [inR] using hr
  have hb := isPo_b (arePo_at hv (List.getElem_mem hm))
  by_cases hx : ps[m].lost[k.toNat]? = some 120
  · rw [if_pos hr, if_pos hx] at h; cases h
  by_cases ha : arePo (ps.set m (llP ps[m] k.toNat)) = true
  rotate_left
  · rw [if_pos hr, if_neg hx, if_neg ha] at h; cases h
  exact ⟨hv, m, hm, by omega, by rw [e, if_pos hr, if_neg hx, if_pos ha], ha⟩
theorem readsGo_self : ∀ l : List UInt8, readsGo l l = true
  | [] => rfl
  | x :: r => by simp only [readsGo, if_true]; exact readsGo_self r
theorem reads_self (l : List UInt8) : reads l l = true := by unfold reads; rw [if_pos rfl]; exact readsGo_self l
theorem readsGo_set : ∀ (l : List UInt8) (k : Nat), readsGo (l.set k 63) l = true
  | [], _ => by simp [readsGo]
  | x :: r, 0 => by
    simp only [List.set_cons_zero, readsGo]
    by_cases h : (63 : UInt8) = x
    · rw [if_pos h]; exact readsGo_self r
    · rw [if_neg h, if_pos trivial]; exact readsGo_self r
  | x :: r, k + 1 => by
    simp only [List.set_cons_succ, readsGo, if_true]
    exact readsGo_set r k
theorem reads_set (l : List UInt8) (k : Nat) : reads (l.set k 63) l = true := by unfold reads; rw [if_pos List.length_set]; exact readsGo_set l k
theorem shown_ll {p : Po} {k : Nat} (h : p.lost.length = p.town.length) (hk : k < p.lost.length) : shown (llP p k) = (shown p).set k 63 := by
  have e : p.lost.take k ++ [120] ++ p.lost.drop (k + 1) = p.lost.set k 120 := by
    rw [List.set_eq_take_append_cons_drop, if_pos hk, List.append_assoc]; rfl
  unfold shown llP
  simp only
  rw [e]
  apply List.ext_getElem?
  intro i
  rw [List.getElem?_set, List.getElem?_zipWith, List.getElem?_zipWith, List.getElem?_set]
  by_cases hi : k = i
  · subst hi
    have h1 : k < p.town.length := by omega
    have h2 : k < min p.town.length p.lost.length := by omega
    simp [hk, h1, h2]
  · simp [hi]
theorem isRd_shown {p : Po} (h : isPo p = true) : isRd (shown p) = true := by
  have hb := isPo_b h
  have hl : p.lost.length = p.town.length := by omega
  have hs := shown_len hl
  have hw : isWord p.town = true := by
    simp only [isPo, Bool.and_eq_true] at h; exact h.2.1
  unfold isWord at hw
  rw [wordGo_all, Bool.and_eq_true, List.all_eq_true] at hw
  rw [isRd_eq, Bool.and_eq_true, List.all_eq_true]
  refine ⟨fun c hc => ?_, by rw [hs]; simp only [inR, decide_eq_true_eq]; omega⟩
  have hc := List.mem_of_mem_take hc
  obtain ⟨j, hj, rfl⟩ := List.getElem_of_mem hc
  have hj2 : j < p.town.length := by omega
  have hg := shown_get hl hj2
  rw [List.getElem?_eq_getElem hj, Option.some.injEq] at hg
  rw [hg]
  split
  · rfl
  · have := hw.1 _ (List.getElem_mem hj2)
    simp only [okR, this, Bool.or_true]
theorem any_int {l : List Int} {t : Int} (h : t ∈ l) : (l.any fun x => decide (x = t)) = true := List.any_eq_true.2 ⟨t, h, by simp⟩
/-- what has been shown is read, where a letter has been lost since too -/
theorem rm_has {ps qs : List Po} {j : Nat} (hq : arePo qs = true) (hj : j < ps.length) (hj2 : j < qs.length) (hv : isPo ps[j] = true) (hid : qs[j].id = ps[j].id) (hf : qs[j].first = ps[j].first) (hl : qs[j].last = ps[j].last) (hr : reads (shown qs[j]) (shown ps[j]) = true) :
    (rmRes qs (shown ps[j]) ps[j].first).2 = true ∧ ((rmRes qs (shown ps[j]) ps[j].first).1.any fun x => decide (x = ps[j].id)) = true := by
  have hb := isPo_b hv
  have hd : inR ps[j].first 0 4000 = true := by simp only [inR, decide_eq_true_eq]; omega
  have e : rmRes qs (shown ps[j]) ps[j].first = (accM (rmP (shown ps[j]) ps[j].first) (fun p => p.id) qs [], true) := by
    unfold rmRes; rw [if_pos hq, if_pos (isRd_shown hv), if_pos hd]
  rw [e]
  refine ⟨rfl, any_int ?_⟩
  rw [accM_eq, List.nil_append]
  refine List.mem_map.2 ⟨qs[j], List.mem_filter.2 ⟨List.getElem_mem hj2, ?_⟩, hid⟩
  simp only [rmP, hr, Bool.and_true, inR, decide_eq_true_eq]
  omega
theorem ll_at {ps : List Po} {m k j : Nat} (hv : arePo ps = true) (hm : m < ps.length) (hk : k < ps[m].lost.length) (hj : j < ps.length) :
    ((ps.set m (llP ps[m] k))[j]'(by rw [List.length_set]; exact hj)).id = ps[j].id ∧ ((ps.set m (llP ps[m] k))[j]'(by rw [List.length_set]; exact hj)).first = ps[j].first ∧ ((ps.set m (llP ps[m] k))[j]'(by rw [List.length_set]; exact hj)).last = ps[j].last ∧ reads (shown ((ps.set m (llP ps[m] k))[j]'(by rw [List.length_set]; exact hj))) (shown ps[j]) = true := by
  rw [List.getElem_set]
  by_cases e : m = j
  · subst e
    have hb := isPo_b (arePo_at hv (List.getElem_mem hm))
    rw [if_pos rfl, shown_ll (by omega) hk]
    exact ⟨rfl, rfl, rfl, reads_set _ _⟩
  · rw [if_neg e]
    exact ⟨rfl, rfl, rfl, reads_self _⟩
theorem ll_none {ps : List Po} {i k : Int} (h : (llRes ps i k).2 = false) : (llRes ps i k).1 = [] := by
  unfold llRes at *
  repeat' split
  all_goals first | rfl | (simp_all; done)
theorem ll_tx {ps : List Po} {i k : Int} (hx : ∀ p ∈ ps, txP p) : ∀ p ∈ (llRes ps i k).1, txP p := fun p hp => by
  cases h : (llRes ps i k).2 with
  | false => rw [ll_none h] at hp; cases hp
  | true =>
    obtain ⟨hv, m, hm, hk, hEe, hva⟩ := ll_all h
    rw [hEe] at hp
    rcases List.mem_or_eq_of_mem_set hp with hp | he
    · exact hx p hp
    · rw [he]
      have h3 := hx _ (List.getElem_mem hm)
      refine ⟨h3.1, ?_⟩
      have h4 := h3.2
      simp only [llP, List.length_append, List.length_take, List.length_drop, List.length_cons, List.length_nil]
      omega
theorem ll_law {ps : List Po} {i k : Int} (h : (llRes ps i k).2 = true) : ∀ (j : Nat) (hj : j < ps.length), shRes ps[j] = (shown ps[j], true) ∧ (shown ps[j]).length ≤ 1000 ∧ (rmRes (llRes ps i k).1 (shown ps[j]) ps[j].first).2 = true ∧ ((rmRes (llRes ps i k).1 (shown ps[j]) ps[j].first).1.any fun x => decide (x = ps[j].id)) = true := fun j hj => by
  obtain ⟨hv, m, hm, hk, hEe, hva⟩ := ll_all h
  have hvj := arePo_at hv (List.getElem_mem hj)
  have hb := isPo_b hvj
  obtain ⟨l1, l2, l3, l4⟩ := ll_at hv hm hk hj
  rw [hEe]
  exact ⟨by unfold shRes; rw [if_pos hvj], by rw [shown_len (by omega)]; omega, rm_has hva hj (by rw [List.length_set]; exact hj) hvj l1 l2 l3 l4⟩
theorem luGo_spec (t : List UInt8) : ∀ (l : List Po) (i m : Int), m ≤ (luGo t l i m).2 ∧ (∀ p ∈ l, p.town = t → p.last ≤ (luGo t l i m).2) ∧ (luGo t l i m = (i, m) ∨ ∃ p ∈ l, p.town = t ∧ luGo t l i m = (p.id, p.last))
  | [], i, m => ⟨Int.le_refl _, fun p hp => (by cases hp), .inl rfl⟩
  | x :: r, i, m => by
    simp only [luGo]
    by_cases hc : x.town = t
    · rw [if_pos hc]
      by_cases hm : m < x.last
      · rw [if_pos hm]
        obtain ⟨h1, h2, h3⟩ := luGo_spec t r x.id x.last
        refine ⟨by omega, fun p hp ht => ?_, .inr ?_⟩
        · rcases List.mem_cons.1 hp with rfl | hp
          · exact h1
          · exact h2 p hp ht
        · rcases h3 with h3 | ⟨p, hp, h3⟩
          · exact ⟨x, by simp, hc, h3⟩
          · exact ⟨p, by simp [hp], h3⟩
      · rw [if_neg hm]
        obtain ⟨h1, h2, h3⟩ := luGo_spec t r i m
        refine ⟨h1, fun p hp ht => ?_, h3.imp id fun ⟨p, hp, h⟩ => ⟨p, by simp [hp], h⟩⟩
        rcases List.mem_cons.1 hp with rfl | hp
        · omega
        · exact h2 p hp ht
    · rw [if_neg hc]
      obtain ⟨h1, h2, h3⟩ := luGo_spec t r i m
      refine ⟨h1, fun p hp ht => ?_, h3.imp id fun ⟨p, hp, h⟩ => ⟨p, by simp [hp], h⟩⟩
      rcases List.mem_cons.1 hp with rfl | hp
      · exact absurd ht hc
      · exact h2 p hp ht
theorem lu_all {ps : List Po} {t : List UInt8} (h : (luRes ps t).2.2 = true) : ∀ p ∈ ps, (p.town = t → p.last ≤ (luRes ps t).2.1) ∧ (p.id = (luRes ps t).1 → p.town = t ∧ p.last = (luRes ps t).2.1) := by
  by_cases hv : arePo ps = true
  rotate_left
  · unfold luRes at h; rw [if_neg hv] at h; cases h
  by_cases hw : isWord t = true
  rotate_left
  · unfold luRes at h; rw [if_pos hv, if_neg hw] at h; cases h
  by_cases h0 : (luGo t ps 0 (-1)).1 = 0
  · unfold luRes at h; rw [if_pos hv, if_pos hw, if_pos h0] at h; cases h
  have e : luRes ps t = ((luGo t ps 0 (-1)).1, (luGo t ps 0 (-1)).2, true) := by unfold luRes; rw [if_pos hv, if_pos hw, if_neg h0]
  rw [e]
  obtain ⟨h1, h2, h3⟩ := luGo_spec t ps 0 (-1)
  rcases h3 with h3 | ⟨q, hq, hqt, h3⟩
  · rw [h3] at h0; exact absurd rfl h0
  intro p hp
  refine ⟨fun ht => h2 p hp ht, fun hi => ?_⟩
  rw [h3] at hi ⊢
  obtain ⟨a, ha, rfl⟩ := List.getElem_of_mem hp
  obtain ⟨b, hb, rfl⟩ := List.getElem_of_mem hq
  obtain rfl : a = b := arePo_one hv ha hb hi
  exact ⟨hqt, rfl⟩
theorem st_comm (ps : List Po) (a b : Int) : stRes ps b a = stRes ps a b := by
  unfold stRes
  by_cases hv : arePo ps = true
  rotate_left
  · rw [if_neg hv, if_neg hv]
  rw [if_pos hv, if_pos hv]
  by_cases h1 : ixOf (fun p : Po => decide (p.id = a)) ps 0 < 0
  · rw [if_pos h1, if_pos h1]
    split <;> rfl
  · by_cases h2 : ixOf (fun p : Po => decide (p.id = b)) ps 0 < 0
    · rw [if_pos h2, if_neg h1, if_pos h2]
    · rw [if_neg h2, if_neg h1, if_neg h1, if_neg h2, reads_comm]
theorem st_self {ps : List Po} {a : Int} (h : (stRes ps a a).2 = true) : (stRes ps a a).1 = true := by
  unfold stRes at *
  by_cases hv : arePo ps = true
  rotate_left
  · rw [if_neg hv] at h; cases h
  rw [if_pos hv] at h ⊢
  by_cases h1 : ixOf (fun p : Po => decide (p.id = a)) ps 0 < 0
  · rw [if_pos h1] at h; cases h
  · rw [if_neg h1, if_neg h1]
    exact reads_self _

def q_rInts : Con := fun args H K => match args with
  | [ps_v, rs_v] => eI.rd H (fun ps => eI.rd H (fun rs => K (.c (.bool (decide (ps = rs)))) H) rs_v) ps_v
  | _ => False
@[simp ↓] theorem q_rInts_eq (ps_v : AV) (rs_v : AV) (H : AHeap) (K : AV → AHeap → Prop) : q_rInts [ps_v, rs_v] H K = (eI.rd H (fun ps => eI.rd H (fun rs => K (.c (.bool (decide (ps = rs)))) H) rs_v) ps_v) := rfl

theorem laws_rInts_s : Sound Tryd.prog 58 q_rInts := by
  intro args H K h
  unfold q_rInts at h
  split at h
  rotate_left
  all_goals first | exact False.elim h | skip
  rename_i ps_v rs_v
  have h1 := Enc.rd_at h
  clear h
  obtain ⟨b_ps, i_ps, k_ps, ps, rfl, hat_ps, h⟩ := h1
  have h1 := Enc.rd_at h
  clear h
  obtain ⟨b_rs, i_rs, k_rs, rs, rfl, hat_rs, h⟩ := h1
  have hE := soundE_nil (P := Tryd.prog)
  refine acalls_fn laws_rInts_k hE ⟨by simp, fun hwf => ?_⟩
  have hb_ps : b_ps < H.n := (hwf b_ps k_ps hat_ps.blk).1
  have hne_ps : (b_ps = H.n) = False := eq_false (by omega)
  have hne1_ps : ∀ i, (b_ps = H.n + i) = False := fun i => eq_false (by omega)
  have hne2_ps : (b_ps = H.n + 1 + 1) = False ∧ (b_ps = H.n + 1 + 1 + 1) = False ∧ (b_ps = H.n + 1 + 1 + 1 + 1) = False ∧ (b_ps = H.n + 1 + 1 + 1 + 1 + 1) = False ∧ (b_ps = H.n + 1 + 1 + 1 + 1 + 1 + 1) = False ∧ (b_ps = H.n + 1 + 1 + 1 + 1 + 1 + 1 + 1) = False ∧ (b_ps = H.n + 1 + 1 + 1 + 1 + 1 + 1 + 1 + 1) = False ∧ (b_ps = H.n + 1 + 1 + 1 + 1 + 1 + 1 + 1 + 1 + 1) = False ∧ (b_ps = H.n + 1 + 1 + 1 + 1 + 1 + 1 + 1 + 1 + 1 + 1) = False ∧ (b_ps = H.n + 1 + 1 + 1 + 1 + 1 + 1 + 1 + 1 + 1 + 1 + 1) = False ∧ (b_ps = H.n + 1 + 1 + 1 + 1 + 1 + 1 + 1 + 1 + 1 + 1 + 1 + 1) = False := ⟨eq_false (by omega), eq_false (by omega), eq_false (by omega), eq_false (by omega), eq_false (by omega), eq_false (by omega), eq_false (by omega), eq_false (by omega), eq_false (by omega), eq_false (by omega), eq_false (by omega)⟩
  have hmx_ps : ps.length ≤ 9223372036854775807 := by have h1 := (hwf b_ps k_ps hat_ps.blk).2.2; have h2 := hat_ps.len; omega
  have hb_rs : b_rs < H.n := (hwf b_rs k_rs hat_rs.blk).1
  have hne_rs : (b_rs = H.n) = False := eq_false (by omega)
  have hne1_rs : ∀ i, (b_rs = H.n + i) = False := fun i => eq_false (by omega)
  have hne2_rs : (b_rs = H.n + 1 + 1) = False ∧ (b_rs = H.n + 1 + 1 + 1) = False ∧ (b_rs = H.n + 1 + 1 + 1 + 1) = False ∧ (b_rs = H.n + 1 + 1 + 1 + 1 + 1) = False ∧ (b_rs = H.n + 1 + 1 + 1 + 1 + 1 + 1) = False ∧ (b_rs = H.n + 1 + 1 + 1 + 1 + 1 + 1 + 1) = False ∧ (b_rs = H.n + 1 + 1 + 1 + 1 + 1 + 1 + 1 + 1) = False ∧ (b_rs = H.n + 1 + 1 + 1 + 1 + 1 + 1 + 1 + 1 + 1) = False ∧ (b_rs = H.n + 1 + 1 + 1 + 1 + 1 + 1 + 1 + 1 + 1 + 1) = False ∧ (b_rs = H.n + 1 + 1 + 1 + 1 + 1 + 1 + 1 + 1 + 1 + 1 + 1) = False ∧ (b_rs = H.n + 1 + 1 + 1 + 1 + 1 + 1 + 1 + 1 + 1 + 1 + 1 + 1) = False := ⟨eq_false (by omega), eq_false (by omega), eq_false (by omega), eq_false (by omega), eq_false (by omega), eq_false (by omega), eq_false (by omega), eq_false (by omega), eq_false (by omega), eq_false (by omega), eq_false (by omega)⟩
  have hmx_rs : rs.length ≤ 9223372036854775807 := by have h1 := (hwf b_rs k_rs hat_rs.blk).2.2; have h2 := hat_rs.len; omega
  by_cases hlen : ps.length = rs.length
  rotate_left
  · have hne : ¬ (ps.length : Int) = (rs.length : Int) := by omega
    rw [decide_eq_false (fun e => hlen (by rw [e]))] at h
    simp (config := {contextual := true, implicitDefEqProofs := false, maxSteps := 2000000}) [-Int.not_le, -Int.not_lt, argsF, laws_rInts_c, hat_ps.blk, hat_ps.esz, hat_ps.len, hat_ps.els, hne_ps, hne1_ps, hne2_ps.1, hne2_ps.2.1, hne2_ps.2.2.1, hne2_ps.2.2.2.1, hne2_ps.2.2.2.2.1, hne2_ps.2.2.2.2.2.1, hne2_ps.2.2.2.2.2.2.1, hne2_ps.2.2.2.2.2.2.2.1, hne2_ps.2.2.2.2.2.2.2.2.1, hne2_ps.2.2.2.2.2.2.2.2.2.1, hne2_ps.2.2.2.2.2.2.2.2.2.2, hat_rs.blk, hat_rs.esz, hat_rs.len, hat_rs.els, hne_rs, hne1_rs, hne2_rs.1, hne2_rs.2.1, hne2_rs.2.2.1, hne2_rs.2.2.2.1, hne2_rs.2.2.2.2.1, hne2_rs.2.2.2.2.2.1, hne2_rs.2.2.2.2.2.2.1, hne2_rs.2.2.2.2.2.2.2.1, hne2_rs.2.2.2.2.2.2.2.2.1, hne2_rs.2.2.2.2.2.2.2.2.2.1, hne2_rs.2.2.2.2.2.2.2.2.2.2, hlen, hne]
    (refine Out.plain hwf ?_ rfl ?_; (repeat first | exact Sub.refl _ | refine Sub.push hwf ?_ _ | refine Sub.set hwf ?_ (by first | exact Nat.le_refl _ | omega) _ | refine Sub.kill hwf ?_ (by first | exact Nat.le_refl _ | omega))); exact h
  simp (config := {contextual := true, implicitDefEqProofs := false, maxSteps := 2000000}) [-Int.not_le, -Int.not_lt, argsF, laws_rInts_c, hat_ps.blk, hat_ps.esz, hat_ps.len, hat_ps.els, hne_ps, hne1_ps, hne2_ps.1, hne2_ps.2.1, hne2_ps.2.2.1, hne2_ps.2.2.2.1, hne2_ps.2.2.2.2.1, hne2_ps.2.2.2.2.2.1, hne2_ps.2.2.2.2.2.2.1, hne2_ps.2.2.2.2.2.2.2.1, hne2_ps.2.2.2.2.2.2.2.2.1, hne2_ps.2.2.2.2.2.2.2.2.2.1, hne2_ps.2.2.2.2.2.2.2.2.2.2, hat_rs.blk, hat_rs.esz, hat_rs.len, hat_rs.els, hne_rs, hne1_rs, hne2_rs.1, hne2_rs.2.1, hne2_rs.2.2.1, hne2_rs.2.2.2.1, hne2_rs.2.2.2.2.1, hne2_rs.2.2.2.2.2.1, hne2_rs.2.2.2.2.2.2.1, hne2_rs.2.2.2.2.2.2.2.1, hne2_rs.2.2.2.2.2.2.2.2.1, hne2_rs.2.2.2.2.2.2.2.2.2.1, hne2_rs.2.2.2.2.2.2.2.2.2.2, hlen]
  refine aloop_list ps (fun j _ => [(0, .c (.sl b_ps i_ps ps.length)), (1, .c (.sl b_rs i_rs rs.length)), (5, .c (.int .i64 (j)))]) (fun j _ => H) (fun j l _ => K (.c (.bool (decide (l = rs.drop j)))) H) hE _ (()) (by simpa using h) (Weak.since (H := H) (Nat.le_refl _) hwf (.refl _) (by simp [frOk, AV.okR, AV.ok1, AC.okR, AV.ren, AV.ren1, AC.ren, AFrame.get, pl1_old, *]; first | done | omega)) (fun j _ hlt hi => ?_) fun _ hi => ?_
  ·
    have e1 := hat_ps.get hlt
    have hj1 := idx_lt hlt
    have w1 : IntKind.i64.wrap ((j : Int) + 1) = (j : Int) + 1 := wrap_id (by omega) (by omega)
    have hr : j < rs.length := by omega
    have hr1 := idx_lt hr
    have e2 := hat_rs.get hr
    rw [List.drop_eq_getElem_cons hr] at hi
    simp (config := {contextual := true, implicitDefEqProofs := false, maxSteps := 60000}) [-Int.not_le, -Int.not_lt, argsF, laws_rInts_l0, hat_rs.blk, hat_rs.esz, hat_rs.len, hat_rs.els, hne_rs, hne1_rs, hne2_rs.1, hne2_rs.2.1, hne2_rs.2.2.1, hne2_rs.2.2.2.1, hne2_rs.2.2.2.2.1, hne2_rs.2.2.2.2.2.1, hne2_rs.2.2.2.2.2.2.1, hne2_rs.2.2.2.2.2.2.2.1, hne2_rs.2.2.2.2.2.2.2.2.1, hne2_rs.2.2.2.2.2.2.2.2.2.1, hne2_rs.2.2.2.2.2.2.2.2.2.2, hat_ps.blk, hat_ps.esz, hat_ps.len, hat_ps.els, hne_ps, hne1_ps, hne2_ps.1, hne2_ps.2.1, hne2_ps.2.2.1, hne2_ps.2.2.2.1, hne2_ps.2.2.2.2.1, hne2_ps.2.2.2.2.2.1, hne2_ps.2.2.2.2.2.2.1, hne2_ps.2.2.2.2.2.2.2.1, hne2_ps.2.2.2.2.2.2.2.2.1, hne2_ps.2.2.2.2.2.2.2.2.2.1, hne2_ps.2.2.2.2.2.2.2.2.2.2, e1, hj1, w1, hr, hr1, e2]
    simp only [List.cons.injEq] at hi
    refine ite_i (fun g => ?_) (fun g => ?_)
    · simp only [g, true_and] at hi
      exact ⟨(), hi, .drop hwf (by (repeat first | exact Sub.refl _ | refine Sub.push hwf ?_ _ | refine Sub.set hwf ?_ (by first | exact Nat.le_refl _ | omega) _ | refine Sub.kill hwf ?_ (by first | exact Nat.le_refl _ | omega))) (by simp [frOk, AV.okR, AV.ok1, AC.okR, AV.ren, AV.ren1, AC.ren, AFrame.get, pl1_old, *]; first | done | omega)⟩
    · simp only [g, false_and, decide_false] at hi
      (refine Out.plain hwf ?_ rfl ?_; (repeat first | exact Sub.refl _ | refine Sub.push hwf ?_ _ | refine Sub.set hwf ?_ (by first | exact Nat.le_refl _ | omega) _ | refine Sub.kill hwf ?_ (by first | exact Nat.le_refl _ | omega))); exact hi
  ·
    simp (config := {contextual := true, implicitDefEqProofs := false, maxSteps := 60000}) [-Int.not_le, -Int.not_lt, argsF, laws_rInts_l0, hat_rs.blk, hat_rs.esz, hat_rs.len, hat_rs.els, hne_rs, hne1_rs, hne2_rs.1, hne2_rs.2.1, hne2_rs.2.2.1, hne2_rs.2.2.2.1, hne2_rs.2.2.2.2.1, hne2_rs.2.2.2.2.2.1, hne2_rs.2.2.2.2.2.2.1, hne2_rs.2.2.2.2.2.2.2.1, hne2_rs.2.2.2.2.2.2.2.2.1, hne2_rs.2.2.2.2.2.2.2.2.2.1, hne2_rs.2.2.2.2.2.2.2.2.2.2, hat_ps.blk, hat_ps.esz, hat_ps.len, hat_ps.els, hne_ps, hne1_ps, hne2_ps.1, hne2_ps.2.1, hne2_ps.2.2.1, hne2_ps.2.2.2.1, hne2_ps.2.2.2.2.1, hne2_ps.2.2.2.2.2.1, hne2_ps.2.2.2.2.2.2.1, hne2_ps.2.2.2.2.2.2.2.1, hne2_ps.2.2.2.2.2.2.2.2.1, hne2_ps.2.2.2.2.2.2.2.2.2.1, hne2_ps.2.2.2.2.2.2.2.2.2.2, hlen]
    rw [show ps.length = rs.length by omega, List.drop_length] at hi
    (refine Out.plain hwf ?_ rfl ?_; (repeat first | exact Sub.refl _ | refine Sub.push hwf ?_ _ | refine Sub.set hwf ?_ (by first | exact Nat.le_refl _ | omega) _ | refine Sub.kill hwf ?_ (by first | exact Nat.le_refl _ | omega))); simpa using hi

def q_rHas : Con := fun args H K => match args with
  | [ps_v, .c (.int .i64 n)] => eI.rd H (fun ps => K (.c (.bool (ps.any fun x => decide (x = n)))) H) ps_v
  | _ => False
@[simp ↓] theorem q_rHas_eq (ps_v : AV) (n : Int) (H : AHeap) (K : AV → AHeap → Prop) : q_rHas [ps_v, .c (.int .i64 n)] H K = (eI.rd H (fun ps => K (.c (.bool (ps.any fun x => decide (x = n)))) H) ps_v) := rfl

theorem laws_rHas_s : Sound Tryd.prog 53 q_rHas := by
  intro args H K h
  unfold q_rHas at h
  split at h
  rotate_left
  all_goals first | exact False.elim h | skip
  rename_i ps_v n
  have h1 := Enc.rd_at h
  clear h
  obtain ⟨b_ps, i_ps, k_ps, ps, rfl, hat_ps, h⟩ := h1
  have hE := soundE_nil (P := Tryd.prog)
  refine acalls_fn laws_rHas_k hE ⟨by simp, fun hwf => ?_⟩
  have hb_ps : b_ps < H.n := (hwf b_ps k_ps hat_ps.blk).1
  have hne_ps : (b_ps = H.n) = False := eq_false (by omega)
  have hne1_ps : ∀ i, (b_ps = H.n + i) = False := fun i => eq_false (by omega)
  have hne2_ps : (b_ps = H.n + 1 + 1) = False ∧ (b_ps = H.n + 1 + 1 + 1) = False ∧ (b_ps = H.n + 1 + 1 + 1 + 1) = False ∧ (b_ps = H.n + 1 + 1 + 1 + 1 + 1) = False ∧ (b_ps = H.n + 1 + 1 + 1 + 1 + 1 + 1) = False ∧ (b_ps = H.n + 1 + 1 + 1 + 1 + 1 + 1 + 1) = False ∧ (b_ps = H.n + 1 + 1 + 1 + 1 + 1 + 1 + 1 + 1) = False ∧ (b_ps = H.n + 1 + 1 + 1 + 1 + 1 + 1 + 1 + 1 + 1) = False ∧ (b_ps = H.n + 1 + 1 + 1 + 1 + 1 + 1 + 1 + 1 + 1 + 1) = False ∧ (b_ps = H.n + 1 + 1 + 1 + 1 + 1 + 1 + 1 + 1 + 1 + 1 + 1) = False ∧ (b_ps = H.n + 1 + 1 + 1 + 1 + 1 + 1 + 1 + 1 + 1 + 1 + 1 + 1) = False := ⟨eq_false (by omega), eq_false (by omega), eq_false (by omega), eq_false (by omega), eq_false (by omega), eq_false (by omega), eq_false (by omega), eq_false (by omega), eq_false (by omega), eq_false (by omega), eq_false (by omega)⟩
  have hmx_ps : ps.length ≤ 9223372036854775807 := by have h1 := (hwf b_ps k_ps hat_ps.blk).2.2; have h2 := hat_ps.len; omega
  simp (config := {contextual := true, implicitDefEqProofs := false, maxSteps := 60000}) [-Int.not_le, -Int.not_lt, argsF, laws_rHas_c, hat_ps.blk, hat_ps.esz, hat_ps.len, hat_ps.els, hne_ps, hne1_ps, hne2_ps.1, hne2_ps.2.1, hne2_ps.2.2.1, hne2_ps.2.2.2.1, hne2_ps.2.2.2.2.1, hne2_ps.2.2.2.2.2.1, hne2_ps.2.2.2.2.2.2.1, hne2_ps.2.2.2.2.2.2.2.1, hne2_ps.2.2.2.2.2.2.2.2.1, hne2_ps.2.2.2.2.2.2.2.2.2.1, hne2_ps.2.2.2.2.2.2.2.2.2.2]
  refine aloop_list ps (fun j _ => [(0, .c (.sl b_ps i_ps ps.length)), (1, .c (.int .i64 (n))), (5, .c (.int .i64 (j)))]) (fun j _ => H) (fun j l _ => K (.c (.bool (l.any fun x => decide (x = n)))) H) hE _ (()) (h) (.same hwf (by simp [frOk, AV.okR, AV.ok1, AC.okR, AV.ren, AV.ren1, AC.ren, AFrame.get, pl1_old, *]; first | done | omega)) (fun j _ hlt hi => ?_) fun _ hi => ?_
  ·
    have e1 := hat_ps.get hlt
    have hj1 := idx_lt hlt
    have w1 : IntKind.i64.wrap ((j : Int) + 1) = (j : Int) + 1 := wrap_id (by omega) (by omega)
    simp (config := {contextual := true, implicitDefEqProofs := false, maxSteps := 60000}) [-Int.not_le, -Int.not_lt, argsF, laws_rHas_l0, hat_ps.blk, hat_ps.esz, hat_ps.len, hat_ps.els, hne_ps, hne1_ps, hne2_ps.1, hne2_ps.2.1, hne2_ps.2.2.1, hne2_ps.2.2.2.1, hne2_ps.2.2.2.2.1, hne2_ps.2.2.2.2.2.1, hne2_ps.2.2.2.2.2.2.1, hne2_ps.2.2.2.2.2.2.2.1, hne2_ps.2.2.2.2.2.2.2.2.1, hne2_ps.2.2.2.2.2.2.2.2.2.1, hne2_ps.2.2.2.2.2.2.2.2.2.2, e1, hj1, w1]
    rw [List.any_cons] at hi
    refine ite_i (fun g => ?_) (fun g => ?_)
    · rw [decide_eq_true g, Bool.true_or] at hi
      (refine Out.plain hwf ?_ rfl ?_; (repeat first | exact Sub.refl _ | refine Sub.push hwf ?_ _ | refine Sub.set hwf ?_ (by first | exact Nat.le_refl _ | omega) _ | refine Sub.kill hwf ?_ (by first | exact Nat.le_refl _ | omega))); exact hi
    · rw [decide_eq_false g, Bool.false_or] at hi
      exact ⟨(), hi, .drop hwf (by (repeat first | exact Sub.refl _ | refine Sub.push hwf ?_ _ | refine Sub.set hwf ?_ (by first | exact Nat.le_refl _ | omega) _ | refine Sub.kill hwf ?_ (by first | exact Nat.le_refl _ | omega))) (by simp [frOk, AV.okR, AV.ok1, AC.okR, AV.ren, AV.ren1, AC.ren, AFrame.get, pl1_old, *]; first | done | omega)⟩
  ·
    simp (config := {contextual := true, implicitDefEqProofs := false, maxSteps := 60000}) [-Int.not_le, -Int.not_lt, argsF, laws_rHas_l0, hat_ps.blk, hat_ps.esz, hat_ps.len, hat_ps.els, hne_ps, hne1_ps, hne2_ps.1, hne2_ps.2.1, hne2_ps.2.2.1, hne2_ps.2.2.2.1, hne2_ps.2.2.2.2.1, hne2_ps.2.2.2.2.2.1, hne2_ps.2.2.2.2.2.2.1, hne2_ps.2.2.2.2.2.2.2.1, hne2_ps.2.2.2.2.2.2.2.2.1, hne2_ps.2.2.2.2.2.2.2.2.2.1, hne2_ps.2.2.2.2.2.2.2.2.2.2]
    simp only [List.any_nil] at hi
    (refine Out.plain hwf ?_ rfl ?_; (repeat first | exact Sub.refl _ | refine Sub.push hwf ?_ _ | refine Sub.set hwf ?_ (by first | exact Nat.le_refl _ | omega) _ | refine Sub.kill hwf ?_ (by first | exact Nat.le_refl _ | omega))); exact hi

end Go.Proofs.YtnehhdcaknppnaaDoor
