/- The postmarks: the latest use; the same town. -/
import Derived.Test.YtnehhdcaknppnaaDoorPoT
set_option maxRecDepth 8000
set_option linter.unusedSimpArgs false
set_option linter.unusedVariables false
namespace Go.Proofs.YtnehhdcaknppnaaDoor
open Go Go.RowKit

set_option maxHeartbeats 1000000
def luGo (t : List UInt8) : List Po → Int → Int → Int × Int
  | [], i, m => (i, m)
  | p :: r, i, m => if p.town = t then (if m < p.last then luGo t r p.id p.last else luGo t r i m) else luGo t r i m
def luRes (ps : List Po) (t : List UInt8) : Int × Int × Bool := if arePo ps = true then (if isWord t = true then (if (luGo t ps 0 (-1)).1 = 0 then (0, 0, false) else ((luGo t ps 0 (-1)).1, (luGo t ps 0 (-1)).2, true)) else (0, 0, false)) else (0, 0, false)
theorem luGo_ok (t : List UInt8) : ∀ (l : List Po) (i m : Int), (∀ p ∈ l, isPo p = true) → (i = 0 ∧ m = -1 ∨ 1 ≤ i ∧ 0 ≤ m) → ((luGo t l i m).1 = 0 ∧ (luGo t l i m).2 = -1 ∨ 1 ≤ (luGo t l i m).1 ∧ 0 ≤ (luGo t l i m).2)
  | [], i, m, _, h => h
  | p :: r, i, m, hp, h => by
    have hb := isPo_b (hp p (by simp))
    have hr : ∀ p ∈ r, isPo p = true := fun q hq => hp q (by simp [hq])
    simp only [luGo]
    split
    · split
      · exact luGo_ok t r _ _ hr (by omega)
      · exact luGo_ok t r _ _ hr h
    · exact luGo_ok t r _ _ hr h

def q_lu : Con := fun args H K => match args with
  | [ps_v, .c (.str t)] => ePo.rd H (fun ps => (∀ p ∈ ps, txP p) ∧ t.length ≤ 9223372036854775806 ∧ K (.tup [.c (.int .i64 ((luRes ps t).1)), .c (.int .i64 ((luRes ps t).2.1)), .c (.bool ((luRes ps t).2.2))]) H) ps_v
  | _ => False
@[simp ↓] theorem q_lu_eq (ps_v : AV) (t : List UInt8) (H : AHeap) (K : AV → AHeap → Prop) : q_lu [ps_v, .c (.str t)] H K = (ePo.rd H (fun ps => (∀ p ∈ ps, txP p) ∧ t.length ≤ 9223372036854775806 ∧ K (.tup [.c (.int .i64 ((luRes ps t).1)), .c (.int .i64 ((luRes ps t).2.1)), .c (.bool ((luRes ps t).2.2))]) H) ps_v) := rfl

theorem impl_LatestUse_s : Sound Tryd.prog 27 q_lu := by
  intro args H K h
  unfold q_lu at h
  split at h
  rotate_left
  all_goals first | exact False.elim h | skip
  rename_i ps_v t
  have h1 := Enc.rd_at h
  clear h
  obtain ⟨b_ps, i_ps, k_ps, ps, rfl, hat_ps, h⟩ := h1
  have hE := soundE_cons impl_arePostmarks_s (soundE_cons impl_isWord_s (soundE_nil (P := Tryd.prog)))
  refine acalls_fn impl_LatestUse_k hE ⟨by simp, fun hwf => ?_⟩
  have hb_ps : b_ps < H.n := (hwf b_ps k_ps hat_ps.blk).1
  have hne_ps : (b_ps = H.n) = False := eq_false (by omega)
  have hne1_ps : ∀ i, (b_ps = H.n + i) = False := fun i => eq_false (by omega)
  have hne2_ps : (b_ps = H.n + 1 + 1) = False ∧ (b_ps = H.n + 1 + 1 + 1) = False ∧ (b_ps = H.n + 1 + 1 + 1 + 1) = False ∧ (b_ps = H.n + 1 + 1 + 1 + 1 + 1) = False ∧ (b_ps = H.n + 1 + 1 + 1 + 1 + 1 + 1) = False ∧ (b_ps = H.n + 1 + 1 + 1 + 1 + 1 + 1 + 1) = False ∧ (b_ps = H.n + 1 + 1 + 1 + 1 + 1 + 1 + 1 + 1) = False ∧ (b_ps = H.n + 1 + 1 + 1 + 1 + 1 + 1 + 1 + 1 + 1) = False ∧ (b_ps = H.n + 1 + 1 + 1 + 1 + 1 + 1 + 1 + 1 + 1 + 1) = False ∧ (b_ps = H.n + 1 + 1 + 1 + 1 + 1 + 1 + 1 + 1 + 1 + 1 + 1) = False ∧ (b_ps = H.n + 1 + 1 + 1 + 1 + 1 + 1 + 1 + 1 + 1 + 1 + 1 + 1) = False := ⟨eq_false (by omega), eq_false (by omega), eq_false (by omega), eq_false (by omega), eq_false (by omega), eq_false (by omega), eq_false (by omega), eq_false (by omega), eq_false (by omega), eq_false (by omega), eq_false (by omega)⟩
  have hmx_ps : ps.length ≤ 9223372036854775807 := by have h1 := (hwf b_ps k_ps hat_ps.blk).2.2; have h2 := hat_ps.len; omega
  obtain ⟨hok, htl, h⟩ := h
  have htl2 : t.length ≤ 9223372036854775807 := by omega
  simp (config := {contextual := true, implicitDefEqProofs := false, maxSteps := 60000}) [-Int.not_le, -Int.not_lt, argsF, impl_LatestUse_c, hat_ps.blk, hat_ps.esz, hat_ps.len, hat_ps.els, hne_ps, hne1_ps, hne2_ps.1, hne2_ps.2.1, hne2_ps.2.2.1, hne2_ps.2.2.2.1, hne2_ps.2.2.2.2.1, hne2_ps.2.2.2.2.2.1, hne2_ps.2.2.2.2.2.2.1, hne2_ps.2.2.2.2.2.2.2.1, hne2_ps.2.2.2.2.2.2.2.2.1, hne2_ps.2.2.2.2.2.2.2.2.2.1, hne2_ps.2.2.2.2.2.2.2.2.2.2, hok, htl, htl2]
  unfold luRes at h
  repeat' split
  all_goals simp only [*, if_true, if_false, reduceCtorEq] at h
  all_goals first | ((refine Out.plain hwf ?_ rfl ?_; (repeat first | exact Sub.refl _ | refine Sub.push hwf ?_ _ | refine Sub.set hwf ?_ (by first | exact Nat.le_refl _ | omega) _ | refine Sub.kill hwf ?_ (by first | exact Nat.le_refl _ | omega))); exact h) | skip
  have hv := ‹arePo ps = true›
  refine aloop_list2 ps (fun j i m => [(1, .c (.str (t))), (7, .c (.int .i64 (i))), (8, .c (.int .i64 (m))), (19, .c (.sl b_ps i_ps ps.length)), (20, .c (.int .i64 ps.length)), (21, .c (.int .i64 (j)))]) (fun j i m => H) (fun j l i m => luGo t l i m = luGo t ps 0 (-1)) hE _ (0) (-1) (rfl) (.same hwf (by simp [frOk, AV.okR, AV.ok1, AC.okR, AV.ren, AV.ren1, AC.ren, AFrame.get, pl1_old, *]; first | done | omega)) (fun j i m hlt hi => ?_) fun i m hi => ?_
  ·
    have e1 := hat_ps.get hlt
    have hj1 := idx_lt hlt
    have w1 : IntKind.i64.wrap ((j : Int) + 1) = (j : Int) + 1 := wrap_id (by omega) (by omega)
    simp (config := {contextual := true, implicitDefEqProofs := false, maxSteps := 60000}) [-Int.not_le, -Int.not_lt, argsF, impl_LatestUse_l0, hat_ps.blk, hat_ps.esz, hat_ps.len, hat_ps.els, hne_ps, hne1_ps, hne2_ps.1, hne2_ps.2.1, hne2_ps.2.2.1, hne2_ps.2.2.2.1, hne2_ps.2.2.2.2.1, hne2_ps.2.2.2.2.2.1, hne2_ps.2.2.2.2.2.2.1, hne2_ps.2.2.2.2.2.2.2.1, hne2_ps.2.2.2.2.2.2.2.2.1, hne2_ps.2.2.2.2.2.2.2.2.2.1, hne2_ps.2.2.2.2.2.2.2.2.2.2, e1, hj1, w1]
    simp only [luGo] at hi
    repeat' split
    all_goals try simp only [*, if_true, if_false, reduceCtorEq, and_self, and_true, true_and, and_false, false_and, not_true_eq_false, not_false_eq_true] at hi
    all_goals first | ((refine Out.plain hwf ?_ rfl ?_; (repeat first | exact Sub.refl _ | refine Sub.push hwf ?_ _ | refine Sub.set hwf ?_ (by first | exact Nat.le_refl _ | omega) _ | refine Sub.kill hwf ?_ (by first | exact Nat.le_refl _ | omega))); exact hi) | exact ⟨_, _, hi, .drop hwf (by (repeat first | exact Sub.refl _ | refine Sub.push hwf ?_ _ | refine Sub.set hwf ?_ (by first | exact Nat.le_refl _ | omega) _ | refine Sub.kill hwf ?_ (by first | exact Nat.le_refl _ | omega))) (by simp [frOk, AV.okR, AV.ok1, AC.okR, AV.ren, AV.ren1, AC.ren, AFrame.get, pl1_old, *]; first | done | omega)⟩
  ·
    simp (config := {contextual := true, implicitDefEqProofs := false, maxSteps := 60000}) [-Int.not_le, -Int.not_lt, argsF, impl_LatestUse_l0, hat_ps.blk, hat_ps.esz, hat_ps.len, hat_ps.els, hne_ps, hne1_ps, hne2_ps.1, hne2_ps.2.1, hne2_ps.2.2.1, hne2_ps.2.2.2.1, hne2_ps.2.2.2.2.1, hne2_ps.2.2.2.2.2.1, hne2_ps.2.2.2.2.2.2.1, hne2_ps.2.2.2.2.2.2.2.1, hne2_ps.2.2.2.2.2.2.2.2.1, hne2_ps.2.2.2.2.2.2.2.2.2.1, hne2_ps.2.2.2.2.2.2.2.2.2.2]
    simp only [luGo] at hi
    have hk := luGo_ok t ps 0 (-1) (fun p hp => arePo_at hv hp) (.inl ⟨rfl, rfl⟩)
    rw [← hi] at h hk
    simp only at hk
    rcases hk with ⟨h1, h2⟩ | ⟨h1, h2⟩
    · subst h1 h2
      first | ((refine Out.plain hwf ?_ rfl ?_; (repeat first | exact Sub.refl _ | refine Sub.push hwf ?_ _ | refine Sub.set hwf ?_ (by first | exact Nat.le_refl _ | omega) _ | refine Sub.kill hwf ?_ (by first | exact Nat.le_refl _ | omega))); simpa using h) | skip
    · have h3 : ¬ i = 0 := by omega
      have h4 : ¬ m < 0 := by omega
      simp only [h3, h4, h2, if_true, if_false, decide_true, decide_false] at h ⊢
      first | ((refine Out.plain hwf ?_ rfl ?_; (repeat first | exact Sub.refl _ | refine Sub.push hwf ?_ _ | refine Sub.set hwf ?_ (by first | exact Nat.le_refl _ | omega) _ | refine Sub.kill hwf ?_ (by first | exact Nat.le_refl _ | omega))); simpa using h) | skip

theorem spec_LatestUse_s : Sound Tryd.prog 26 q_lu := by
  intro args H K h
  unfold q_lu at h
  split at h
  rotate_left
  all_goals first | exact False.elim h | skip
  rename_i ps_v t
  have h1 := Enc.rd_at h
  clear h
  obtain ⟨b_ps, i_ps, k_ps, ps, rfl, hat_ps, h⟩ := h1
  have hE := soundE_cons spec_l11Good_s (soundE_cons spec_l2Word_s (soundE_nil (P := Tryd.prog)))
  refine acalls_fn spec_LatestUse_k hE ⟨by simp, fun hwf => ?_⟩
  have hb_ps : b_ps < H.n := (hwf b_ps k_ps hat_ps.blk).1
  have hne_ps : (b_ps = H.n) = False := eq_false (by omega)
  have hne1_ps : ∀ i, (b_ps = H.n + i) = False := fun i => eq_false (by omega)
  have hne2_ps : (b_ps = H.n + 1 + 1) = False ∧ (b_ps = H.n + 1 + 1 + 1) = False ∧ (b_ps = H.n + 1 + 1 + 1 + 1) = False ∧ (b_ps = H.n + 1 + 1 + 1 + 1 + 1) = False ∧ (b_ps = H.n + 1 + 1 + 1 + 1 + 1 + 1) = False ∧ (b_ps = H.n + 1 + 1 + 1 + 1 + 1 + 1 + 1) = False ∧ (b_ps = H.n + 1 + 1 + 1 + 1 + 1 + 1 + 1 + 1) = False ∧ (b_ps = H.n + 1 + 1 + 1 + 1 + 1 + 1 + 1 + 1 + 1) = False ∧ (b_ps = H.n + 1 + 1 + 1 + 1 + 1 + 1 + 1 + 1 + 1 + 1) = False ∧ (b_ps = H.n + 1 + 1 + 1 + 1 + 1 + 1 + 1 + 1 + 1 + 1 + 1) = False ∧ (b_ps = H.n + 1 + 1 + 1 + 1 + 1 + 1 + 1 + 1 + 1 + 1 + 1 + 1) = False := ⟨eq_false (by omega), eq_false (by omega), eq_false (by omega), eq_false (by omega), eq_false (by omega), eq_false (by omega), eq_false (by omega), eq_false (by omega), eq_false (by omega), eq_false (by omega), eq_false (by omega)⟩
  have hmx_ps : ps.length ≤ 9223372036854775807 := by have h1 := (hwf b_ps k_ps hat_ps.blk).2.2; have h2 := hat_ps.len; omega
  obtain ⟨hok, htl, h⟩ := h
  have htl2 : t.length ≤ 9223372036854775807 := by omega
  simp (config := {contextual := true, implicitDefEqProofs := false, maxSteps := 60000}) [-Int.not_le, -Int.not_lt, argsF, spec_LatestUse_c, hat_ps.blk, hat_ps.esz, hat_ps.len, hat_ps.els, hne_ps, hne1_ps, hne2_ps.1, hne2_ps.2.1, hne2_ps.2.2.1, hne2_ps.2.2.2.1, hne2_ps.2.2.2.2.1, hne2_ps.2.2.2.2.2.1, hne2_ps.2.2.2.2.2.2.1, hne2_ps.2.2.2.2.2.2.2.1, hne2_ps.2.2.2.2.2.2.2.2.1, hne2_ps.2.2.2.2.2.2.2.2.2.1, hne2_ps.2.2.2.2.2.2.2.2.2.2, hok, htl, htl2]
  unfold luRes at h
  repeat' split
  all_goals simp only [*, if_true, if_false, reduceCtorEq] at h
  all_goals first | ((refine Out.plain hwf ?_ rfl ?_; (repeat first | exact Sub.refl _ | refine Sub.push hwf ?_ _ | refine Sub.set hwf ?_ (by first | exact Nat.le_refl _ | omega) _ | refine Sub.kill hwf ?_ (by first | exact Nat.le_refl _ | omega))); exact h) | skip
  have hv := ‹arePo ps = true›
  refine aloop_list2 ps (fun j i m => [(0, .c (.sl b_ps i_ps ps.length)), (1, .c (.str (t))), (7, .c (.int .i64 (i))), (8, .c (.int .i64 (m))), (9, .c (.int .i64 (j)))]) (fun j i m => H) (fun j l i m => luGo t l i m = luGo t ps 0 (-1)) hE _ (0) (-1) (rfl) (.same hwf (by simp [frOk, AV.okR, AV.ok1, AC.okR, AV.ren, AV.ren1, AC.ren, AFrame.get, pl1_old, *]; first | done | omega)) (fun j i m hlt hi => ?_) fun i m hi => ?_
  ·
    have e1 := hat_ps.get hlt
    have hj1 := idx_lt hlt
    have w1 : IntKind.i64.wrap ((j : Int) + 1) = (j : Int) + 1 := wrap_id (by omega) (by omega)
    simp (config := {contextual := true, implicitDefEqProofs := false, maxSteps := 60000}) [-Int.not_le, -Int.not_lt, argsF, spec_LatestUse_l0, hat_ps.blk, hat_ps.esz, hat_ps.len, hat_ps.els, hne_ps, hne1_ps, hne2_ps.1, hne2_ps.2.1, hne2_ps.2.2.1, hne2_ps.2.2.2.1, hne2_ps.2.2.2.2.1, hne2_ps.2.2.2.2.2.1, hne2_ps.2.2.2.2.2.2.1, hne2_ps.2.2.2.2.2.2.2.1, hne2_ps.2.2.2.2.2.2.2.2.1, hne2_ps.2.2.2.2.2.2.2.2.2.1, hne2_ps.2.2.2.2.2.2.2.2.2.2, e1, hj1, w1]
    simp only [luGo] at hi
    repeat' split
    all_goals try simp only [*, if_true, if_false, reduceCtorEq, and_self, and_true, true_and, and_false, false_and, not_true_eq_false, not_false_eq_true] at hi
    all_goals first | ((refine Out.plain hwf ?_ rfl ?_; (repeat first | exact Sub.refl _ | refine Sub.push hwf ?_ _ | refine Sub.set hwf ?_ (by first | exact Nat.le_refl _ | omega) _ | refine Sub.kill hwf ?_ (by first | exact Nat.le_refl _ | omega))); exact hi) | exact ⟨_, _, hi, .drop hwf (by (repeat first | exact Sub.refl _ | refine Sub.push hwf ?_ _ | refine Sub.set hwf ?_ (by first | exact Nat.le_refl _ | omega) _ | refine Sub.kill hwf ?_ (by first | exact Nat.le_refl _ | omega))) (by simp [frOk, AV.okR, AV.ok1, AC.okR, AV.ren, AV.ren1, AC.ren, AFrame.get, pl1_old, *]; first | done | omega)⟩
  ·
    simp (config := {contextual := true, implicitDefEqProofs := false, maxSteps := 60000}) [-Int.not_le, -Int.not_lt, argsF, spec_LatestUse_l0, hat_ps.blk, hat_ps.esz, hat_ps.len, hat_ps.els, hne_ps, hne1_ps, hne2_ps.1, hne2_ps.2.1, hne2_ps.2.2.1, hne2_ps.2.2.2.1, hne2_ps.2.2.2.2.1, hne2_ps.2.2.2.2.2.1, hne2_ps.2.2.2.2.2.2.1, hne2_ps.2.2.2.2.2.2.2.1, hne2_ps.2.2.2.2.2.2.2.2.1, hne2_ps.2.2.2.2.2.2.2.2.2.1, hne2_ps.2.2.2.2.2.2.2.2.2.2]
    simp only [luGo] at hi
    have hk := luGo_ok t ps 0 (-1) (fun p hp => arePo_at hv hp) (.inl ⟨rfl, rfl⟩)
    rw [← hi] at h hk
    simp only at hk
    rcases hk with ⟨h1, h2⟩ | ⟨h1, h2⟩
    · subst h1 h2
      first | ((refine Out.plain hwf ?_ rfl ?_; (repeat first | exact Sub.refl _ | refine Sub.push hwf ?_ _ | refine Sub.set hwf ?_ (by first | exact Nat.le_refl _ | omega) _ | refine Sub.kill hwf ?_ (by first | exact Nat.le_refl _ | omega))); simpa using h) | skip
    · have h3 : ¬ i = 0 := by omega
      have h4 : ¬ m < 0 := by omega
      simp only [h3, h4, h2, if_true, if_false, decide_true, decide_false] at h ⊢
      first | ((refine Out.plain hwf ?_ rfl ?_; (repeat first | exact Sub.refl _ | refine Sub.push hwf ?_ _ | refine Sub.set hwf ?_ (by first | exact Nat.le_refl _ | omega) _ | refine Sub.kill hwf ?_ (by first | exact Nat.le_refl _ | omega))); simpa using h) | skip

def stRes (ps : List Po) (a b : Int) : Bool × Bool := if arePo ps = true then (if ixOf (fun p : Po => decide (p.id = a)) ps 0 < 0 then (false, false) else if ixOf (fun p : Po => decide (p.id = b)) ps 0 < 0 then (false, false)
  else (reads (shown (ps.getD (ixOf (fun p : Po => decide (p.id = a)) ps 0).toNat default)) (shown (ps.getD (ixOf (fun p : Po => decide (p.id = b)) ps 0).toNat default)), true)) else (false, false)

def q_st : Con := fun args H K => match args with
  | [ps_v, .c (.int .i64 a), .c (.int .i64 b)] => ePo.rd H (fun ps => (∀ p ∈ ps, txP p) ∧ K (.tup [.c (.bool ((stRes ps a b).1)), .c (.bool ((stRes ps a b).2))]) H) ps_v
  | _ => False
@[simp ↓] theorem q_st_eq (ps_v : AV) (a : Int) (b : Int) (H : AHeap) (K : AV → AHeap → Prop) : q_st [ps_v, .c (.int .i64 a), .c (.int .i64 b)] H K = (ePo.rd H (fun ps => (∀ p ∈ ps, txP p) ∧ K (.tup [.c (.bool ((stRes ps a b).1)), .c (.bool ((stRes ps a b).2))]) H) ps_v) := rfl

theorem impl_SameTown_s : Sound Tryd.prog 31 q_st := by
  intro args H K h
  unfold q_st at h
  split at h
  rotate_left
  all_goals first | exact False.elim h | skip
  rename_i ps_v a b
  have h1 := Enc.rd_at h
  clear h
  obtain ⟨b_ps, i_ps, k_ps, ps, rfl, hat_ps, h⟩ := h1
  have hE := soundE_cons impl_arePostmarks_s (soundE_cons impl_postmarkAt_s (soundE_cons impl_shownBy_s (soundE_cons impl_readsAs_s (soundE_nil (P := Tryd.prog)))))
  refine acalls_fn impl_SameTown_k hE ⟨by simp, fun hwf => ?_⟩
  have hb_ps : b_ps < H.n := (hwf b_ps k_ps hat_ps.blk).1
  have hne_ps : (b_ps = H.n) = False := eq_false (by omega)
  have hne1_ps : ∀ i, (b_ps = H.n + i) = False := fun i => eq_false (by omega)
  have hne2_ps : (b_ps = H.n + 1 + 1) = False ∧ (b_ps = H.n + 1 + 1 + 1) = False ∧ (b_ps = H.n + 1 + 1 + 1 + 1) = False ∧ (b_ps = H.n + 1 + 1 + 1 + 1 + 1) = False ∧ (b_ps = H.n + 1 + 1 + 1 + 1 + 1 + 1) = False ∧ (b_ps = H.n + 1 + 1 + 1 + 1 + 1 + 1 + 1) = False ∧ (b_ps = H.n + 1 + 1 + 1 + 1 + 1 + 1 + 1 + 1) = False ∧ (b_ps = H.n + 1 + 1 + 1 + 1 + 1 + 1 + 1 + 1 + 1) = False ∧ (b_ps = H.n + 1 + 1 + 1 + 1 + 1 + 1 + 1 + 1 + 1 + 1) = False ∧ (b_ps = H.n + 1 + 1 + 1 + 1 + 1 + 1 + 1 + 1 + 1 + 1 + 1) = False ∧ (b_ps = H.n + 1 + 1 + 1 + 1 + 1 + 1 + 1 + 1 + 1 + 1 + 1 + 1) = False := ⟨eq_false (by omega), eq_false (by omega), eq_false (by omega), eq_false (by omega), eq_false (by omega), eq_false (by omega), eq_false (by omega), eq_false (by omega), eq_false (by omega), eq_false (by omega), eq_false (by omega)⟩
  have hmx_ps : ps.length ≤ 9223372036854775807 := by have h1 := (hwf b_ps k_ps hat_ps.blk).2.2; have h2 := hat_ps.len; omega
  obtain ⟨hok, h⟩ := h
  by_cases hv : arePo ps = true
  rotate_left
  · have e : stRes ps a b = (false, false) := by unfold stRes; rw [if_neg hv]
    rw [e] at h
    simp (config := {contextual := true, implicitDefEqProofs := false, maxSteps := 2000000}) [-Int.not_le, -Int.not_lt, argsF, impl_SameTown_c, hat_ps.blk, hat_ps.esz, hat_ps.len, hat_ps.els, hne_ps, hne1_ps, hne2_ps.1, hne2_ps.2.1, hne2_ps.2.2.1, hne2_ps.2.2.2.1, hne2_ps.2.2.2.2.1, hne2_ps.2.2.2.2.2.1, hne2_ps.2.2.2.2.2.2.1, hne2_ps.2.2.2.2.2.2.2.1, hne2_ps.2.2.2.2.2.2.2.2.1, hne2_ps.2.2.2.2.2.2.2.2.2.1, hne2_ps.2.2.2.2.2.2.2.2.2.2, hok, hv]
    (refine Out.plain hwf ?_ rfl ?_; (repeat first | exact Sub.refl _ | refine Sub.push hwf ?_ _ | refine Sub.set hwf ?_ (by first | exact Nat.le_refl _ | omega) _ | refine Sub.kill hwf ?_ (by first | exact Nat.le_refl _ | omega))); exact h
  rcases ixOf_at (fun p : Po => decide (p.id = a)) ps 0 with ⟨h1, _⟩ | ⟨m, hm, h1, _⟩
  · have e : stRes ps a b = (false, false) := by unfold stRes; rw [if_pos hv, h1]; rfl
    rw [e] at h
    simp (config := {contextual := true, implicitDefEqProofs := false, maxSteps := 2000000}) [-Int.not_le, -Int.not_lt, argsF, impl_SameTown_c, hat_ps.blk, hat_ps.esz, hat_ps.len, hat_ps.els, hne_ps, hne1_ps, hne2_ps.1, hne2_ps.2.1, hne2_ps.2.2.1, hne2_ps.2.2.2.1, hne2_ps.2.2.2.2.1, hne2_ps.2.2.2.2.2.1, hne2_ps.2.2.2.2.2.2.1, hne2_ps.2.2.2.2.2.2.2.1, hne2_ps.2.2.2.2.2.2.2.2.1, hne2_ps.2.2.2.2.2.2.2.2.2.1, hne2_ps.2.2.2.2.2.2.2.2.2.2, hok, hv, h1]
    (refine Out.plain hwf ?_ rfl ?_; (repeat first | exact Sub.refl _ | refine Sub.push hwf ?_ _ | refine Sub.set hwf ?_ (by first | exact Nat.le_refl _ | omega) _ | refine Sub.kill hwf ?_ (by first | exact Nat.le_refl _ | omega))); exact h
  rw [Nat.zero_add] at h1
  rcases ixOf_at (fun p : Po => decide (p.id = b)) ps 0 with ⟨h2, _⟩ | ⟨k, hk, h2, _⟩
  · have e : stRes ps a b = (false, false) := by unfold stRes; rw [if_pos hv, h2, if_neg (by omega)]; rfl
    rw [e] at h
    simp (config := {contextual := true, implicitDefEqProofs := false, maxSteps := 2000000}) [-Int.not_le, -Int.not_lt, argsF, impl_SameTown_c, hat_ps.blk, hat_ps.esz, hat_ps.len, hat_ps.els, hne_ps, hne1_ps, hne2_ps.1, hne2_ps.2.1, hne2_ps.2.2.1, hne2_ps.2.2.2.1, hne2_ps.2.2.2.2.1, hne2_ps.2.2.2.2.2.1, hne2_ps.2.2.2.2.2.2.1, hne2_ps.2.2.2.2.2.2.2.1, hne2_ps.2.2.2.2.2.2.2.2.1, hne2_ps.2.2.2.2.2.2.2.2.2.1, hne2_ps.2.2.2.2.2.2.2.2.2.2, hok, hv, h1, h2]
    (refine Out.plain hwf ?_ rfl ?_; (repeat first | exact Sub.refl _ | refine Sub.push hwf ?_ _ | refine Sub.set hwf ?_ (by first | exact Nat.le_refl _ | omega) _ | refine Sub.kill hwf ?_ (by first | exact Nat.le_refl _ | omega))); exact h
  rw [Nat.zero_add] at h2
  have e : stRes ps a b = (reads (shown ps[m]) (shown ps[k]), true) := by
    unfold stRes
    rw [if_pos hv, h1, h2, if_neg (by omega), if_neg (by omega)]
    simp [List.getD_eq_getElem?_getD, hm, hk]
  rw [e] at h
  have e1 := hat_ps.get hm
  have e2 := hat_ps.get hk
  have hj1 := idx_lt hm
  have hj2 := idx_lt hk
  have b1 := isPo_b (arePo_at hv (List.getElem_mem hm))
  have b2 := isPo_b (arePo_at hv (List.getElem_mem hk))
  have b3 : ps[m].lost.length = ps[m].town.length := by omega
  have b4 : ps[k].lost.length = ps[k].town.length := by omega
  have b5 : ps[m].town.length ≤ 1000 := by omega
  have b6 : ps[k].town.length ≤ 1000 := by omega
  have b7 : (shown ps[m]).length ≤ 9223372036854775806 := by rw [shown_len b3]; omega
  simp (config := {contextual := true, implicitDefEqProofs := false, maxSteps := 2000000}) [-Int.not_le, -Int.not_lt, argsF, impl_SameTown_c, hat_ps.blk, hat_ps.esz, hat_ps.len, hat_ps.els, hne_ps, hne1_ps, hne2_ps.1, hne2_ps.2.1, hne2_ps.2.2.1, hne2_ps.2.2.2.1, hne2_ps.2.2.2.2.1, hne2_ps.2.2.2.2.2.1, hne2_ps.2.2.2.2.2.2.1, hne2_ps.2.2.2.2.2.2.2.1, hne2_ps.2.2.2.2.2.2.2.2.1, hne2_ps.2.2.2.2.2.2.2.2.2.1, hne2_ps.2.2.2.2.2.2.2.2.2.2, hok, hv, h1, h2, e1, e2, hm, hk, hj1, hj2, b3, b4, b5, b6, b7]
  (refine Out.plain hwf ?_ rfl ?_; (repeat first | exact Sub.refl _ | refine Sub.push hwf ?_ _ | refine Sub.set hwf ?_ (by first | exact Nat.le_refl _ | omega) _ | refine Sub.kill hwf ?_ (by first | exact Nat.le_refl _ | omega))); exact h

theorem spec_SameTown_s : Sound Tryd.prog 30 q_st := by
  intro args H K h
  unfold q_st at h
  split at h
  rotate_left
  all_goals first | exact False.elim h | skip
  rename_i ps_v a b
  have h1 := Enc.rd_at h
  clear h
  obtain ⟨b_ps, i_ps, k_ps, ps, rfl, hat_ps, h⟩ := h1
  have hE := soundE_cons spec_l11Good_s (soundE_cons spec_l11Find_s (soundE_cons spec_l11Shown_s (soundE_cons spec_l11Reads_s (soundE_nil (P := Tryd.prog)))))
  refine acalls_fn spec_SameTown_k hE ⟨by simp, fun hwf => ?_⟩
  have hb_ps : b_ps < H.n := (hwf b_ps k_ps hat_ps.blk).1
  have hne_ps : (b_ps = H.n) = False := eq_false (by omega)
  have hne1_ps : ∀ i, (b_ps = H.n + i) = False := fun i => eq_false (by omega)
  have hne2_ps : (b_ps = H.n + 1 + 1) = False ∧ (b_ps = H.n + 1 + 1 + 1) = False ∧ (b_ps = H.n + 1 + 1 + 1 + 1) = False ∧ (b_ps = H.n + 1 + 1 + 1 + 1 + 1) = False ∧ (b_ps = H.n + 1 + 1 + 1 + 1 + 1 + 1) = False ∧ (b_ps = H.n + 1 + 1 + 1 + 1 + 1 + 1 + 1) = False ∧ (b_ps = H.n + 1 + 1 + 1 + 1 + 1 + 1 + 1 + 1) = False ∧ (b_ps = H.n + 1 + 1 + 1 + 1 + 1 + 1 + 1 + 1 + 1) = False ∧ (b_ps = H.n + 1 + 1 + 1 + 1 + 1 + 1 + 1 + 1 + 1 + 1) = False ∧ (b_ps = H.n + 1 + 1 + 1 + 1 + 1 + 1 + 1 + 1 + 1 + 1 + 1) = False ∧ (b_ps = H.n + 1 + 1 + 1 + 1 + 1 + 1 + 1 + 1 + 1 + 1 + 1 + 1) = False := ⟨eq_false (by omega), eq_false (by omega), eq_false (by omega), eq_false (by omega), eq_false (by omega), eq_false (by omega), eq_false (by omega), eq_false (by omega), eq_false (by omega), eq_false (by omega), eq_false (by omega)⟩
  have hmx_ps : ps.length ≤ 9223372036854775807 := by have h1 := (hwf b_ps k_ps hat_ps.blk).2.2; have h2 := hat_ps.len; omega
  obtain ⟨hok, h⟩ := h
  by_cases hv : arePo ps = true
  rotate_left
  · have e : stRes ps a b = (false, false) := by unfold stRes; rw [if_neg hv]
    rw [e] at h
    simp (config := {contextual := true, implicitDefEqProofs := false, maxSteps := 2000000}) [-Int.not_le, -Int.not_lt, argsF, spec_SameTown_c, hat_ps.blk, hat_ps.esz, hat_ps.len, hat_ps.els, hne_ps, hne1_ps, hne2_ps.1, hne2_ps.2.1, hne2_ps.2.2.1, hne2_ps.2.2.2.1, hne2_ps.2.2.2.2.1, hne2_ps.2.2.2.2.2.1, hne2_ps.2.2.2.2.2.2.1, hne2_ps.2.2.2.2.2.2.2.1, hne2_ps.2.2.2.2.2.2.2.2.1, hne2_ps.2.2.2.2.2.2.2.2.2.1, hne2_ps.2.2.2.2.2.2.2.2.2.2, hok, hv]
    (refine Out.plain hwf ?_ rfl ?_; (repeat first | exact Sub.refl _ | refine Sub.push hwf ?_ _ | refine Sub.set hwf ?_ (by first | exact Nat.le_refl _ | omega) _ | refine Sub.kill hwf ?_ (by first | exact Nat.le_refl _ | omega))); exact h
  rcases ixOf_at (fun p : Po => decide (p.id = a)) ps 0 with ⟨h1, _⟩ | ⟨m, hm, h1, _⟩
  · have e : stRes ps a b = (false, false) := by unfold stRes; rw [if_pos hv, h1]; rfl
    rw [e] at h
    simp (config := {contextual := true, implicitDefEqProofs := false, maxSteps := 2000000}) [-Int.not_le, -Int.not_lt, argsF, spec_SameTown_c, hat_ps.blk, hat_ps.esz, hat_ps.len, hat_ps.els, hne_ps, hne1_ps, hne2_ps.1, hne2_ps.2.1, hne2_ps.2.2.1, hne2_ps.2.2.2.1, hne2_ps.2.2.2.2.1, hne2_ps.2.2.2.2.2.1, hne2_ps.2.2.2.2.2.2.1, hne2_ps.2.2.2.2.2.2.2.1, hne2_ps.2.2.2.2.2.2.2.2.1, hne2_ps.2.2.2.2.2.2.2.2.2.1, hne2_ps.2.2.2.2.2.2.2.2.2.2, hok, hv, h1]
    (refine Out.plain hwf ?_ rfl ?_; (repeat first | exact Sub.refl _ | refine Sub.push hwf ?_ _ | refine Sub.set hwf ?_ (by first | exact Nat.le_refl _ | omega) _ | refine Sub.kill hwf ?_ (by first | exact Nat.le_refl _ | omega))); exact h
  rw [Nat.zero_add] at h1
  rcases ixOf_at (fun p : Po => decide (p.id = b)) ps 0 with ⟨h2, _⟩ | ⟨k, hk, h2, _⟩
  · have e : stRes ps a b = (false, false) := by unfold stRes; rw [if_pos hv, h2, if_neg (by omega)]; rfl
    rw [e] at h
    simp (config := {contextual := true, implicitDefEqProofs := false, maxSteps := 2000000}) [-Int.not_le, -Int.not_lt, argsF, spec_SameTown_c, hat_ps.blk, hat_ps.esz, hat_ps.len, hat_ps.els, hne_ps, hne1_ps, hne2_ps.1, hne2_ps.2.1, hne2_ps.2.2.1, hne2_ps.2.2.2.1, hne2_ps.2.2.2.2.1, hne2_ps.2.2.2.2.2.1, hne2_ps.2.2.2.2.2.2.1, hne2_ps.2.2.2.2.2.2.2.1, hne2_ps.2.2.2.2.2.2.2.2.1, hne2_ps.2.2.2.2.2.2.2.2.2.1, hne2_ps.2.2.2.2.2.2.2.2.2.2, hok, hv, h1, h2]
    (refine Out.plain hwf ?_ rfl ?_; (repeat first | exact Sub.refl _ | refine Sub.push hwf ?_ _ | refine Sub.set hwf ?_ (by first | exact Nat.le_refl _ | omega) _ | refine Sub.kill hwf ?_ (by first | exact Nat.le_refl _ | omega))); exact h
  rw [Nat.zero_add] at h2
  have e : stRes ps a b = (reads (shown ps[m]) (shown ps[k]), true) := by
    unfold stRes
    rw [if_pos hv, h1, h2, if_neg (by omega), if_neg (by omega)]
    simp [List.getD_eq_getElem?_getD, hm, hk]
  rw [e] at h
  have e1 := hat_ps.get hm
  have e2 := hat_ps.get hk
  have hj1 := idx_lt hm
  have hj2 := idx_lt hk
  have b1 := isPo_b (arePo_at hv (List.getElem_mem hm))
  have b2 := isPo_b (arePo_at hv (List.getElem_mem hk))
  have b3 : ps[m].lost.length = ps[m].town.length := by omega
  have b4 : ps[k].lost.length = ps[k].town.length := by omega
  have b5 : ps[m].town.length ≤ 1000 := by omega
  have b6 : ps[k].town.length ≤ 1000 := by omega
  have b7 : (shown ps[m]).length ≤ 9223372036854775806 := by rw [shown_len b3]; omega
  simp (config := {contextual := true, implicitDefEqProofs := false, maxSteps := 2000000}) [-Int.not_le, -Int.not_lt, argsF, spec_SameTown_c, hat_ps.blk, hat_ps.esz, hat_ps.len, hat_ps.els, hne_ps, hne1_ps, hne2_ps.1, hne2_ps.2.1, hne2_ps.2.2.1, hne2_ps.2.2.2.1, hne2_ps.2.2.2.2.1, hne2_ps.2.2.2.2.2.1, hne2_ps.2.2.2.2.2.2.1, hne2_ps.2.2.2.2.2.2.2.1, hne2_ps.2.2.2.2.2.2.2.2.1, hne2_ps.2.2.2.2.2.2.2.2.2.1, hne2_ps.2.2.2.2.2.2.2.2.2.2, hok, hv, h1, h2, e1, e2, hm, hk, hj1, hj2, b3, b4, b5, b6, b7]
  (refine Out.plain hwf ?_ rfl ?_; (repeat first | exact Sub.refl _ | refine Sub.push hwf ?_ _ | refine Sub.set hwf ?_ (by first | exact Nat.le_refl _ | omega) _ | refine Sub.kill hwf ?_ (by first | exact Nat.le_refl _ | omega))); exact h

end Go.Proofs.YtnehhdcaknppnaaDoor
