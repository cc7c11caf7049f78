/- AddSighting: the walk of its law. -/
import Derived.Test.YtnbjiigcldmgoaaSiB
import Derived.Test.YtnbjiigcldmgoaaSiN
set_option maxRecDepth 8000
set_option linter.unusedSimpArgs false
set_option linter.unusedVariables false
namespace Go.Proofs.Ytnbjiigcldmgoaa
open Go Go.RowKit

set_option maxHeartbeats 100000000
def heldS : List Si → Int → Int
  | [], k => k
  | p :: r, k => if p.id = k then if p.year = k + 1 then if p.town = markT (k + 1 + 1) then if heldInt p.traits (k + 1 + 1 + 1) < 0 then -1 else heldS r (heldInt p.traits (k + 1 + 1 + 1)) else -1 else -1 else -1
theorem heldS_mks : ∀ (ps : List Si) (k : Int), 0 ≤ k → heldS (mksS ps k) k = endS ps k
  | [], k, _ => rfl
  | p :: r, k, h => by
    rw [mksS, heldS, mkS]
    simp only [if_true, heldInt_mks]
    rw [if_neg (by omega), heldS_mks r _ (by omega), endS]
theorem heldInt_le : ∀ (l : List Int) (k : Int), heldInt l k ≤ k + (l.length : Int) ∨ heldInt l k < 0
  | [], k => by simp [heldInt]
  | p :: r, k => by
    rw [heldInt]
    split
    · have := heldInt_le r (k + 1)
      simp only [List.length_cons]
      omega
    · omega
theorem heldInt_ge : ∀ (l : List Int) (k : Int), k ≤ heldInt l k ∨ heldInt l k < 0
  | [], k => by simp [heldInt]
  | p :: r, k => by
    rw [heldInt]
    split
    · have := heldInt_ge r (k + 1)
      omega
    · omega
theorem mksS_in {n : Nat} : ∀ {ps : List Si} (_ : ∀ p ∈ ps, p.traits.length ≤ n) (k : Int), ∀ p ∈ mksS ps k, p.traits.length ≤ n
  | [], _, _, p, hp => by cases hp
  | g :: r, h, k, p, hp => by
    rcases List.mem_cons.1 hp with rfl | hp
    · simp only [mkS, mksInt_len]; exact h g (by simp)
    · exact mksS_in (fun x hx => h x (by simp [hx])) _ p hp
theorem mksS_tx : ∀ (ps : List Si) (k : Int), 0 < k → endS ps k ≤ 1099511627000 → ∀ p ∈ mksS ps k, p.town.length ≤ 9223372036854775807
  | [], _, _, _, p, hp => by cases hp
  | g :: r, k, h0, h1, p, hp => by
    have e := endS_eq (g :: r) k
    simp only [List.length_cons] at e
    rcases List.mem_cons.1 hp with rfl | hp
    · exact markT_len _ (by omega) (by omega)
    · exact mksS_tx r _ (by omega) h1 p hp
theorem adRes_ok {ps : List Si} {y : Int} {t : List UInt8} {tr : List Int} (h2 : ∀ p ∈ ps, p.traits.length ≤ 1048576 ∧ p.town.length ≤ 9223372036854775807) (ht : t.length ≤ 9223372036854775807) (hr : tr.length ≤ 1048576) :
    (adRes ps y t tr).1.length ≤ 10 ∧ ∀ p ∈ (adRes ps y t tr).1, p.traits.length ≤ 8 ∧ p.town.length ≤ 9223372036854775807 := by
  unfold adRes
  split
  · split
    · rename_i hva
      refine ⟨areSi_len hva, fun p hp => ⟨(areSi_b hva p hp).2.2.2.2, ?_⟩⟩
      rcases List.mem_append.1 hp with hp | hp
      · exact (h2 p hp).2
      · rw [List.mem_singleton.1 hp]; exact ht
    · simp
  · simp
theorem siTot_b {n : Nat} : ∀ {ps : List Si}, (∀ p ∈ ps, p.traits.length ≤ n) → siTot ps ≤ ps.length * n
  | [], _ => by simp [siTot]
  | g :: r, h => by
    have h1 := siTot_b (ps := r) fun x hx => h x (by simp [hx])
    have h2 := h g (by simp)
    simp only [siTot, List.map_cons, List.sum_cons, List.length_cons] at h1 ⊢
    rw [Nat.add_mul]
    omega

def q_heldS : Con := fun args H K => match args with
  | [ps_v, .c (.int .i64 k)] => eSi.rd H (fun ps => (∀ p ∈ ps, p.traits.length ≤ 1048576) ∧ 0 < k ∧ k + 1048579 * (ps.length : Int) ≤ 1099511627000 ∧ K (.c (.int .i64 (heldS ps k))) H) ps_v
  | _ => False
@[simp ↓] theorem q_heldS_eq (ps_v : AV) (k : Int) (H : AHeap) (K : AV → AHeap → Prop) : q_heldS [ps_v, .c (.int .i64 k)] H K = (eSi.rd H (fun ps => (∀ p ∈ ps, p.traits.length ≤ 1048576) ∧ 0 < k ∧ k + 1048579 * (ps.length : Int) ≤ 1099511627000 ∧ K (.c (.int .i64 (heldS ps k))) H) ps_v) := rfl

theorem laws_heldSightingS_s : Sound Try.prog 29 q_heldS := by
  intro args H K h
  unfold q_heldS at h
  split at h
  rotate_left
  all_goals first | exact False.elim h | skip
  rename_i ps_v k
  have h1 := EncH.rd_at h
  clear h
  obtain ⟨b_ps, i_ps, k_ps, ps, rfl, hat_ps, h⟩ := h1
  have hE := soundE_cons laws_markText_s (soundE_cons laws_heldIntS_s (soundE_nil (P := Try.prog)))
  refine acalls_fn laws_heldSightingS_k hE ⟨by simp, fun hwf => ?_⟩
  have hsr : SubE H H := SubE.refl H
  have hsp : ∀ H' k, H.n ≤ H'.n → SubE H H' → SubE H (H'.push k) := fun H' k hn hs => SubE.push hwf hn hs k
  have hst : ∀ H', SubE H H' → SubE H H'.toRo := fun H' hs => hs.toRo
  have hss : ∀ H' i k, H.n ≤ i → SubE H H' → SubE H (H'.set i k) := fun H' i k hn hs => SubE.set hwf hn hs k
  have hsk : ∀ H' i, H.n ≤ i → SubE H H' → SubE H (H'.kill i) := fun H' i hn hs => SubE.kill hwf hn hs
  have hon_ps := hat_ps.on
  have hb_ps : b_ps < H.n := (hwf b_ps k_ps hat_ps.blk).1
  have hne_ps : (b_ps = H.n) = False := eq_false (by omega)
  have hne1_ps : ∀ i, (b_ps = H.n + i) = False := fun i => eq_false (by omega)
  have hne2_ps : (b_ps = H.n + 1 + 1) = False ∧ (b_ps = H.n + 1 + 1 + 1) = False ∧ (b_ps = H.n + 1 + 1 + 1 + 1) = False ∧ (b_ps = H.n + 1 + 1 + 1 + 1 + 1) = False ∧ (b_ps = H.n + 1 + 1 + 1 + 1 + 1 + 1) = False ∧ (b_ps = H.n + 1 + 1 + 1 + 1 + 1 + 1 + 1) = False ∧ (b_ps = H.n + 1 + 1 + 1 + 1 + 1 + 1 + 1 + 1) = False ∧ (b_ps = H.n + 1 + 1 + 1 + 1 + 1 + 1 + 1 + 1 + 1) = False ∧ (b_ps = H.n + 1 + 1 + 1 + 1 + 1 + 1 + 1 + 1 + 1 + 1) = False ∧ (b_ps = H.n + 1 + 1 + 1 + 1 + 1 + 1 + 1 + 1 + 1 + 1 + 1) = False ∧ (b_ps = H.n + 1 + 1 + 1 + 1 + 1 + 1 + 1 + 1 + 1 + 1 + 1 + 1) = False := ⟨eq_false (by omega), eq_false (by omega), eq_false (by omega), eq_false (by omega), eq_false (by omega), eq_false (by omega), eq_false (by omega), eq_false (by omega), eq_false (by omega), eq_false (by omega), eq_false (by omega)⟩
  have hmx_ps : ps.length ≤ 9223372036854775807 := by have h1 := (hwf b_ps k_ps hat_ps.blk).2.2; have h2 := hat_ps.len; omega
  obtain ⟨hl, hk0, hk1, h⟩ := h
  simp (config := {contextual := true, implicitDefEqProofs := false, maxSteps := 60000}) [-Int.not_le, -Int.not_lt, argsF, laws_heldSightingS_c, hat_ps.blk, hat_ps.esz, hat_ps.len, hon_ps, hne_ps, hne1_ps, hne2_ps.1, hne2_ps.2.1, hne2_ps.2.2.1, hne2_ps.2.2.2.1, hne2_ps.2.2.2.2.1, hne2_ps.2.2.2.2.2.1, hne2_ps.2.2.2.2.2.2.1, hne2_ps.2.2.2.2.2.2.2.1, hne2_ps.2.2.2.2.2.2.2.2.1, hne2_ps.2.2.2.2.2.2.2.2.2.1, hne2_ps.2.2.2.2.2.2.2.2.2.2, hsr, hsp, hst, hss, hsk]
  refine aloop_list ps (fun j (m : Int) => [(0, .c (.sl b_ps i_ps ps.length)), (1, .c (.int .i64 (m))), (5, .c (.int .i64 ((j : Int))))]) (fun j (m : Int) => H) (fun j l (m : Int) => 0 < m ∧ m + 1048579 * (l.length : Int) ≤ 1099511627000 ∧ K (.c (.int .i64 (heldS l m))) H) hE _ k ⟨hk0, hk1, h⟩ (.same hwf (by simp [frOk, AV.okR, AV.ok1, AC.okR, AV.ren, AV.ren1, AC.ren, AFrame.get, pl1_old, *]; first | done | omega)) (fun j m hlt hi => ?_) fun m hi => ?_
  · obtain ⟨hm0, hm1, hi⟩ := hi
    simp only [List.length_cons] at hm1
    have hj1 := idx_lt hlt
    have w0 : IntKind.i64.wrap ((j : Int) + 1) = (j : Int) + 1 := wrap_id (by omega) (by omega)
    have w1 : IntKind.i64.wrap (m + 1) = m + 1 := wrap_id (by omega) (by omega)
    have w2 : IntKind.i64.wrap (m + 1 + 1) = m + 1 + 1 := wrap_id (by omega) (by omega)
    have w3 : IntKind.i64.wrap (m + 1 + 1 + 1) = m + 1 + 1 + 1 := wrap_id (by omega) (by omega)
    have g1 : 0 < m + 1 + 1 := by omega
    have g2 : m + 1 + 1 ≤ 1099511627776 := by omega
    have g3 : 0 ≤ m + 1 + 1 + 1 := by omega
    have g4 : m + 1 + 1 + 1 ≤ 1099511627776 := by omega
    obtain ⟨ex_x, e_x, hd_x⟩ := hat_ps.get hlt
    obtain ⟨b_x, i_x, k_x, rfl, hat_x, htx_x⟩ := eSi_at hd_x
    have hb_x : b_x < H.n := (hwf b_x k_x hat_x.blk).1
    have hne_x : (b_x = H.n) = False := eq_false (by omega)
    have hne1_x : ∀ i, (b_x = H.n + i) = False := fun i => eq_false (by omega)
    have hne2_x : (b_x = H.n + 1 + 1) = False ∧ (b_x = H.n + 1 + 1 + 1) = False ∧ (b_x = H.n + 1 + 1 + 1 + 1) = False ∧ (b_x = H.n + 1 + 1 + 1 + 1 + 1) = False ∧ (b_x = H.n + 1 + 1 + 1 + 1 + 1 + 1) = False ∧ (b_x = H.n + 1 + 1 + 1 + 1 + 1 + 1 + 1) = False ∧ (b_x = H.n + 1 + 1 + 1 + 1 + 1 + 1 + 1 + 1) = False ∧ (b_x = H.n + 1 + 1 + 1 + 1 + 1 + 1 + 1 + 1 + 1) = False ∧ (b_x = H.n + 1 + 1 + 1 + 1 + 1 + 1 + 1 + 1 + 1 + 1) = False ∧ (b_x = H.n + 1 + 1 + 1 + 1 + 1 + 1 + 1 + 1 + 1 + 1 + 1) = False ∧ (b_x = H.n + 1 + 1 + 1 + 1 + 1 + 1 + 1 + 1 + 1 + 1 + 1 + 1) = False := ⟨eq_false (by omega), eq_false (by omega), eq_false (by omega), eq_false (by omega), eq_false (by omega), eq_false (by omega), eq_false (by omega), eq_false (by omega), eq_false (by omega), eq_false (by omega), eq_false (by omega)⟩
    have hpl := hl _ (List.getElem_mem hlt)
    have hle := heldInt_le ps[j].traits (m + 1 + 1 + 1)
    have hge := heldInt_ge ps[j].traits (m + 1 + 1 + 1)
    simp (config := {contextual := true, implicitDefEqProofs := false, maxSteps := 2000000}) [-Int.not_le, -Int.not_lt, argsF, laws_heldSightingS_l0, hat_ps.blk, hat_ps.esz, hat_ps.len, hon_ps, hne_ps, hne1_ps, hne2_ps.1, hne2_ps.2.1, hne2_ps.2.2.1, hne2_ps.2.2.2.1, hne2_ps.2.2.2.2.1, hne2_ps.2.2.2.2.2.1, hne2_ps.2.2.2.2.2.2.1, hne2_ps.2.2.2.2.2.2.2.1, hne2_ps.2.2.2.2.2.2.2.2.1, hne2_ps.2.2.2.2.2.2.2.2.2.1, hne2_ps.2.2.2.2.2.2.2.2.2.2, hsr, hsp, hst, hss, hsk, hj1, w0, w1, w2, w3, g1, g2, g3, g4, hlt, hpl, e_x, htx_x, hat_x.blk, hat_x.esz, hat_x.len, hat_x.els, hne_x, hne1_x, hne2_x.1, hne2_x.2.1, hne2_x.2.2.1, hne2_x.2.2.2.1, hne2_x.2.2.2.2.1, hne2_x.2.2.2.2.2.1, hne2_x.2.2.2.2.2.2.1, hne2_x.2.2.2.2.2.2.2.1, hne2_x.2.2.2.2.2.2.2.2.1, hne2_x.2.2.2.2.2.2.2.2.2.1, hne2_x.2.2.2.2.2.2.2.2.2.2]
    simp only [heldS] at hi
    refine ite_i (fun hc => ?_) (fun hc => ?_)
    rotate_left
    · rw [if_neg hc] at hi; (refine Out.plain hwf ?_ rfl ?_; (repeat first | exact Sub.refl _ | refine Sub.push hwf ?_ _ | refine Sub.set hwf ?_ (by first | exact Nat.le_refl _ | omega) _ | refine Sub.kill hwf ?_ (by first | exact Nat.le_refl _ | omega))); exact hi
    rw [if_pos hc] at hi
    refine ite_i (fun hc => ?_) (fun hc => ?_)
    rotate_left
    · rw [if_neg hc] at hi; (refine Out.plain hwf ?_ rfl ?_; (repeat first | exact Sub.refl _ | refine Sub.push hwf ?_ _ | refine Sub.set hwf ?_ (by first | exact Nat.le_refl _ | omega) _ | refine Sub.kill hwf ?_ (by first | exact Nat.le_refl _ | omega))); exact hi
    rw [if_pos hc] at hi
    refine ite_i (fun hc => ?_) (fun hc => ?_)
    rotate_left
    · rw [if_neg hc] at hi; (refine Out.plain hwf ?_ rfl ?_; (repeat first | exact Sub.refl _ | refine Sub.push hwf ?_ _ | refine Sub.set hwf ?_ (by first | exact Nat.le_refl _ | omega) _ | refine Sub.kill hwf ?_ (by first | exact Nat.le_refl _ | omega))); exact hi
    rw [if_pos hc] at hi
    refine ite_i (fun hc => ?_) (fun hc => ?_)
    · rw [if_pos hc] at hi; (refine Out.plain hwf ?_ rfl ?_; (repeat first | exact Sub.refl _ | refine Sub.push hwf ?_ _ | refine Sub.set hwf ?_ (by first | exact Nat.le_refl _ | omega) _ | refine Sub.kill hwf ?_ (by first | exact Nat.le_refl _ | omega))); exact hi
    · rw [if_neg hc] at hi
      exact ⟨_, ⟨by omega, by omega, hi⟩, .drop hwf (by (repeat first | exact Sub.refl _ | refine Sub.push hwf ?_ _ | refine Sub.set hwf ?_ (by first | exact Nat.le_refl _ | omega) _ | refine Sub.kill hwf ?_ (by first | exact Nat.le_refl _ | omega))) (by simp [frOk, AV.okR, AV.ok1, AC.okR, AV.ren, AV.ren1, AC.ren, AFrame.get, pl1_old, *]; first | done | omega)⟩
  · obtain ⟨hm0, hm1, hi⟩ := hi
    simp only [heldS] at hi
    simp (config := {contextual := true, implicitDefEqProofs := false, maxSteps := 2000000}) [-Int.not_le, -Int.not_lt, argsF, laws_heldSightingS_l0]
    (refine Out.plain hwf ?_ rfl ?_; (repeat first | exact Sub.refl _ | refine Sub.push hwf ?_ _ | refine Sub.set hwf ?_ (by first | exact Nat.le_refl _ | omega) _ | refine Sub.kill hwf ?_ (by first | exact Nat.le_refl _ | omega))); exact hi

end Go.Proofs.Ytnbjiigcldmgoaa
