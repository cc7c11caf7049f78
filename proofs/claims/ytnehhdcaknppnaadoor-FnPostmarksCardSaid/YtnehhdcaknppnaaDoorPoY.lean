/- The postmarks: the towns on a day. -/
import Derived.Test.YtnehhdcaknppnaaDoorPoX
set_option maxRecDepth 8000
set_option linter.unusedSimpArgs false
set_option linter.unusedVariables false
namespace Go.Proofs.YtnehhdcaknppnaaDoor
open Go Go.RowKit

set_option maxHeartbeats 2000000
def towns (d : Int) (l : List Po) : List (List UInt8) := accM (fun p : Po => inR d p.first p.last) (fun p => p.town) l []
theorem towns_eq (d : Int) (l : List Po) : towns d l = (l.filter fun p : Po => inR d p.first p.last).map fun p => p.town := by simp [towns, accM_eq]
theorem towns_cons (d : Int) (p : Po) (l : List Po) : towns d (p :: l) = if inR d p.first p.last = true then p.town :: towns d l else towns d l := by
  rw [towns_eq, towns_eq]
  split
  · rename_i h; rw [List.filter_cons, if_pos h]; rfl
  · rename_i h; rw [List.filter_cons, if_neg h]
theorem insAll_len : ∀ (l o : List (List UInt8)), (insAll l o).length ≤ o.length + l.length
  | [], o => by simp [insAll]
  | x :: r, o => by
    have h1 := insAll_len r (insT o x)
    have h2 := insT_len o x
    rw [insAll, List.length_cons]
    omega
def tnRes (ps : List Po) (d : Int) : List (List UInt8) × Bool := if arePo ps = true then (if inR d 0 4000 = true then (insAll (towns d ps) [], true) else ([], false)) else ([], false)
theorem towns_len (d : Int) (l : List Po) : (towns d l).length ≤ l.length := accM_len _ _ _
theorem tnRes_len (ps : List Po) (d : Int) : (tnRes ps d).1.length ≤ ps.length := by
  unfold tnRes
  repeat' split
  all_goals first | (simp; done) | skip
  have h1 := insAll_len (towns d ps) []
  have h2 := towns_len d ps
  simp only [List.length_nil] at h1
  show (insAll (towns d ps) []).length ≤ _
  omega

theorem ins_row {out : List (List UInt8)} {n : List UInt8} {q : Nat} (hq : q ≤ out.length) : List.take (min q out.length + 1) (List.take q (out.map eT.cells) ++ [[AC.str n]]) ++ List.take ((out.length : Int) - (q : Int)).toNat (List.drop q (out.map eT.cells)) = (out.take q ++ n :: out.drop q).map eT.cells := by
  have h1 : (List.take q (out.map eT.cells) ++ [[AC.str n]]).length = q + 1 := by simp; omega
  have h2 : ((out.length : Int) - (q : Int)).toNat = (List.drop q (out.map eT.cells)).length := by rw [List.length_drop, List.length_map]; omega
  rw [Nat.min_eq_left hq, ← h1, List.take_length, h2, List.take_length, List.map_append, List.map_cons, List.map_take, List.map_drop, List.append_assoc]
  rfl
theorem ins_len {out : List (List UInt8)} {n : List UInt8} {q : Nat} (hq : q ≤ out.length) : min q out.length + 1 + min ((out.length : Int) - (q : Int)).toNat (out.length - q) = (out.take q ++ n :: out.drop q).length := by
  simp only [List.length_append, List.length_take, List.length_cons, List.length_drop]
  omega

def q_tn : Con := fun args H K => match args with
  | [ps_v, .c (.int .i64 d)] => ePo.rd H (fun ps => (∀ p ∈ ps, txP p) ∧ K (.tup [.c (.sl (H.n) (0) ((tnRes ps d).1.length)), .c (.bool ((tnRes ps d).2))]) (H.push (rowK eT 9 (tnRes ps d).1))) ps_v
  | _ => False
@[simp ↓] theorem q_tn_eq (ps_v : AV) (d : Int) (H : AHeap) (K : AV → AHeap → Prop) : q_tn [ps_v, .c (.int .i64 d)] H K = (ePo.rd H (fun ps => (∀ p ∈ ps, txP p) ∧ K (.tup [.c (.sl (H.n) (0) ((tnRes ps d).1.length)), .c (.bool ((tnRes ps d).2))]) (H.push (rowK eT 9 (tnRes ps d).1))) ps_v) := rfl

theorem impl_TownsOn_s : Sound Tryd.prog 46 q_tn := by
  intro args H K h
  unfold q_tn at h
  split at h
  rotate_left
  all_goals first | exact False.elim h | skip
  rename_i ps_v d
  have h1 := Enc.rd_at h
  clear h
  obtain ⟨b_ps, i_ps, k_ps, ps, rfl, hat_ps, h⟩ := h1
  have hE := soundE_cons impl_arePostmarks_s (soundE_cons impl_isDay_s (soundE_cons impl_inRange_s (soundE_cons slices_SortTA_s (soundE_cons slices_CompactT_s (soundE_nil (P := Tryd.prog))))))
  refine acalls_fn impl_TownsOn_k hE ⟨by simp, fun hwf => ?_⟩
  have hb_ps : b_ps < H.n := (hwf b_ps k_ps hat_ps.blk).1
  have hne_ps : (b_ps = H.n) = False := eq_false (by omega)
  have hne1_ps : ∀ i, (b_ps = H.n + i) = False := fun i => eq_false (by omega)
  have hne2_ps : (b_ps = H.n + 1 + 1) = False ∧ (b_ps = H.n + 1 + 1 + 1) = False ∧ (b_ps = H.n + 1 + 1 + 1 + 1) = False ∧ (b_ps = H.n + 1 + 1 + 1 + 1 + 1) = False ∧ (b_ps = H.n + 1 + 1 + 1 + 1 + 1 + 1) = False ∧ (b_ps = H.n + 1 + 1 + 1 + 1 + 1 + 1 + 1) = False ∧ (b_ps = H.n + 1 + 1 + 1 + 1 + 1 + 1 + 1 + 1) = False ∧ (b_ps = H.n + 1 + 1 + 1 + 1 + 1 + 1 + 1 + 1 + 1) = False ∧ (b_ps = H.n + 1 + 1 + 1 + 1 + 1 + 1 + 1 + 1 + 1 + 1) = False ∧ (b_ps = H.n + 1 + 1 + 1 + 1 + 1 + 1 + 1 + 1 + 1 + 1 + 1) = False ∧ (b_ps = H.n + 1 + 1 + 1 + 1 + 1 + 1 + 1 + 1 + 1 + 1 + 1 + 1) = False := ⟨eq_false (by omega), eq_false (by omega), eq_false (by omega), eq_false (by omega), eq_false (by omega), eq_false (by omega), eq_false (by omega), eq_false (by omega), eq_false (by omega), eq_false (by omega), eq_false (by omega)⟩
  have hmx_ps : ps.length ≤ 9223372036854775807 := by have h1 := (hwf b_ps k_ps hat_ps.blk).2.2; have h2 := hat_ps.len; omega
  obtain ⟨hok, h⟩ := h
  by_cases hv : arePo ps = true
  rotate_left
  · have e : tnRes ps d = ([], false) := by unfold tnRes; rw [if_neg hv]
    rw [e] at h
    simp (config := {contextual := true, implicitDefEqProofs := false, maxSteps := 2000000}) [-Int.not_le, -Int.not_lt, argsF, impl_TownsOn_c, hat_ps.blk, hat_ps.esz, hat_ps.len, hat_ps.els, hne_ps, hne1_ps, hne2_ps.1, hne2_ps.2.1, hne2_ps.2.2.1, hne2_ps.2.2.2.1, hne2_ps.2.2.2.2.1, hne2_ps.2.2.2.2.2.1, hne2_ps.2.2.2.2.2.2.1, hne2_ps.2.2.2.2.2.2.2.1, hne2_ps.2.2.2.2.2.2.2.2.1, hne2_ps.2.2.2.2.2.2.2.2.2.1, hne2_ps.2.2.2.2.2.2.2.2.2.2, hok, hv]
    first | exact (.one (c := none) hwf (by (repeat first | exact Sub.refl _ | refine Sub.push hwf ?_ _ | refine Sub.set hwf ?_ (by first | exact Nat.le_refl _ | omega) _ | refine Sub.kill hwf ?_ (by first | exact Nat.le_refl _ | omega))) ⟨rfl, rfl⟩ (plain_map (fun _ => rfl) _) (by simp [frOk, AV.okR, AV.ok1, AC.okR, AV.ren, AV.ren1, AC.ren, AFrame.get, pl1_old, *]; first | done | omega) h) | exact (.one (c := some (H.n)) hwf (by (repeat first | exact Sub.refl _ | refine Sub.push hwf ?_ _ | refine Sub.set hwf ?_ (by first | exact Nat.le_refl _ | omega) _ | refine Sub.kill hwf ?_ (by first | exact Nat.le_refl _ | omega))) ⟨by omega, by simp [push_b, set_b, kill_b, rowK]; done⟩ (plain_map (fun _ => rfl) _) (by simp [frOk, AV.okR, AV.ok1, AC.okR, AV.ren, AV.ren1, AC.ren, AFrame.get, pl1_old, *]; first | done | omega) h) | exact (.one (c := some (H.n + 1)) hwf (by (repeat first | exact Sub.refl _ | refine Sub.push hwf ?_ _ | refine Sub.set hwf ?_ (by first | exact Nat.le_refl _ | omega) _ | refine Sub.kill hwf ?_ (by first | exact Nat.le_refl _ | omega))) ⟨by omega, by simp [push_b, set_b, kill_b, rowK]; done⟩ (plain_map (fun _ => rfl) _) (by simp [frOk, AV.okR, AV.ok1, AC.okR, AV.ren, AV.ren1, AC.ren, AFrame.get, pl1_old, *]; first | done | omega) h) | exact (.one (c := some (H.n + 2)) hwf (by (repeat first | exact Sub.refl _ | refine Sub.push hwf ?_ _ | refine Sub.set hwf ?_ (by first | exact Nat.le_refl _ | omega) _ | refine Sub.kill hwf ?_ (by first | exact Nat.le_refl _ | omega))) ⟨by omega, by simp [push_b, set_b, kill_b, rowK]; done⟩ (plain_map (fun _ => rfl) _) (by simp [frOk, AV.okR, AV.ok1, AC.okR, AV.ren, AV.ren1, AC.ren, AFrame.get, pl1_old, *]; first | done | omega) h) | exact (.one (c := some (H.n + 3)) hwf (by (repeat first | exact Sub.refl _ | refine Sub.push hwf ?_ _ | refine Sub.set hwf ?_ (by first | exact Nat.le_refl _ | omega) _ | refine Sub.kill hwf ?_ (by first | exact Nat.le_refl _ | omega))) ⟨by omega, by simp [push_b, set_b, kill_b, rowK]; done⟩ (plain_map (fun _ => rfl) _) (by simp [frOk, AV.okR, AV.ok1, AC.okR, AV.ren, AV.ren1, AC.ren, AFrame.get, pl1_old, *]; first | done | omega) h) | exact (.one (c := some (H.n + 4)) hwf (by (repeat first | exact Sub.refl _ | refine Sub.push hwf ?_ _ | refine Sub.set hwf ?_ (by first | exact Nat.le_refl _ | omega) _ | refine Sub.kill hwf ?_ (by first | exact Nat.le_refl _ | omega))) ⟨by omega, by simp [push_b, set_b, kill_b, rowK]; done⟩ (plain_map (fun _ => rfl) _) (by simp [frOk, AV.okR, AV.ok1, AC.okR, AV.ren, AV.ren1, AC.ren, AFrame.get, pl1_old, *]; first | done | omega) h)
  by_cases hd : inR d 0 4000 = true
  rotate_left
  · have e : tnRes ps d = ([], false) := by unfold tnRes; rw [if_pos hv, if_neg hd]
    rw [e] at h
    simp (config := {contextual := true, implicitDefEqProofs := false, maxSteps := 2000000}) [-Int.not_le, -Int.not_lt, argsF, impl_TownsOn_c, hat_ps.blk, hat_ps.esz, hat_ps.len, hat_ps.els, hne_ps, hne1_ps, hne2_ps.1, hne2_ps.2.1, hne2_ps.2.2.1, hne2_ps.2.2.2.1, hne2_ps.2.2.2.2.1, hne2_ps.2.2.2.2.2.1, hne2_ps.2.2.2.2.2.2.1, hne2_ps.2.2.2.2.2.2.2.1, hne2_ps.2.2.2.2.2.2.2.2.1, hne2_ps.2.2.2.2.2.2.2.2.2.1, hne2_ps.2.2.2.2.2.2.2.2.2.2, hok, hv, hd]
    first | exact (.one (c := none) hwf (by (repeat first | exact Sub.refl _ | refine Sub.push hwf ?_ _ | refine Sub.set hwf ?_ (by first | exact Nat.le_refl _ | omega) _ | refine Sub.kill hwf ?_ (by first | exact Nat.le_refl _ | omega))) ⟨rfl, rfl⟩ (plain_map (fun _ => rfl) _) (by simp [frOk, AV.okR, AV.ok1, AC.okR, AV.ren, AV.ren1, AC.ren, AFrame.get, pl1_old, *]; first | done | omega) h) | exact (.one (c := some (H.n)) hwf (by (repeat first | exact Sub.refl _ | refine Sub.push hwf ?_ _ | refine Sub.set hwf ?_ (by first | exact Nat.le_refl _ | omega) _ | refine Sub.kill hwf ?_ (by first | exact Nat.le_refl _ | omega))) ⟨by omega, by simp [push_b, set_b, kill_b, rowK]; done⟩ (plain_map (fun _ => rfl) _) (by simp [frOk, AV.okR, AV.ok1, AC.okR, AV.ren, AV.ren1, AC.ren, AFrame.get, pl1_old, *]; first | done | omega) h) | exact (.one (c := some (H.n + 1)) hwf (by (repeat first | exact Sub.refl _ | refine Sub.push hwf ?_ _ | refine Sub.set hwf ?_ (by first | exact Nat.le_refl _ | omega) _ | refine Sub.kill hwf ?_ (by first | exact Nat.le_refl _ | omega))) ⟨by omega, by simp [push_b, set_b, kill_b, rowK]; done⟩ (plain_map (fun _ => rfl) _) (by simp [frOk, AV.okR, AV.ok1, AC.okR, AV.ren, AV.ren1, AC.ren, AFrame.get, pl1_old, *]; first | done | omega) h) | exact (.one (c := some (H.n + 2)) hwf (by (repeat first | exact Sub.refl _ | refine Sub.push hwf ?_ _ | refine Sub.set hwf ?_ (by first | exact Nat.le_refl _ | omega) _ | refine Sub.kill hwf ?_ (by first | exact Nat.le_refl _ | omega))) ⟨by omega, by simp [push_b, set_b, kill_b, rowK]; done⟩ (plain_map (fun _ => rfl) _) (by simp [frOk, AV.okR, AV.ok1, AC.okR, AV.ren, AV.ren1, AC.ren, AFrame.get, pl1_old, *]; first | done | omega) h) | exact (.one (c := some (H.n + 3)) hwf (by (repeat first | exact Sub.refl _ | refine Sub.push hwf ?_ _ | refine Sub.set hwf ?_ (by first | exact Nat.le_refl _ | omega) _ | refine Sub.kill hwf ?_ (by first | exact Nat.le_refl _ | omega))) ⟨by omega, by simp [push_b, set_b, kill_b, rowK]; done⟩ (plain_map (fun _ => rfl) _) (by simp [frOk, AV.okR, AV.ok1, AC.okR, AV.ren, AV.ren1, AC.ren, AFrame.get, pl1_old, *]; first | done | omega) h) | exact (.one (c := some (H.n + 4)) hwf (by (repeat first | exact Sub.refl _ | refine Sub.push hwf ?_ _ | refine Sub.set hwf ?_ (by first | exact Nat.le_refl _ | omega) _ | refine Sub.kill hwf ?_ (by first | exact Nat.le_refl _ | omega))) ⟨by omega, by simp [push_b, set_b, kill_b, rowK]; done⟩ (plain_map (fun _ => rfl) _) (by simp [frOk, AV.okR, AV.ok1, AC.okR, AV.ren, AV.ren1, AC.ren, AFrame.get, pl1_old, *]; first | done | omega) h)
  have e : tnRes ps d = (insAll (towns d ps) [], true) := by unfold tnRes; rw [if_pos hv, if_pos hd]
  rw [e] at h
  clear e
  have hp12 := arePo_len hv
  have htn := towns_len d ps

  rw [← compactT_insAll] at h
  simp (config := {contextual := true, implicitDefEqProofs := false, maxSteps := 2000000}) [-Int.not_le, -Int.not_lt, argsF, impl_TownsOn_c, hat_ps.blk, hat_ps.esz, hat_ps.len, hat_ps.els, hne_ps, hne1_ps, hne2_ps.1, hne2_ps.2.1, hne2_ps.2.2.1, hne2_ps.2.2.2.1, hne2_ps.2.2.2.2.1, hne2_ps.2.2.2.2.2.1, hne2_ps.2.2.2.2.2.2.1, hne2_ps.2.2.2.2.2.2.2.1, hne2_ps.2.2.2.2.2.2.2.2.1, hne2_ps.2.2.2.2.2.2.2.2.2.1, hne2_ps.2.2.2.2.2.2.2.2.2.2, hok, hv, hd]
  refine aloop_list ps (fun j (out : List (List UInt8)) => [(1, .c (.int .i64 (d))), (6, .c (.sl (H.n) (0) (out.length))), (17, .c (.sl b_ps i_ps ps.length)), (18, .c (.int .i64 ps.length)), (19, .c (.int .i64 (j)))]) (fun j (out : List (List UInt8)) => H.push (rowK eT 9 out)) (fun j l (out : List (List UInt8)) => out.length ≤ j ∧ out ++ towns d l = towns d ps) hE _ [] ⟨Nat.le_refl _, rfl⟩ (.one (c := none) hwf (by (repeat first | exact Sub.refl _ | refine Sub.push hwf ?_ _ | refine Sub.set hwf ?_ (by first | exact Nat.le_refl _ | omega) _ | refine Sub.kill hwf ?_ (by first | exact Nat.le_refl _ | omega))) ⟨rfl, rfl⟩ (plain_map (fun _ => rfl) _) (by simp [frOk, AV.okR, AV.ok1, AC.okR, AV.ren, AV.ren1, AC.ren, AFrame.get, pl1_old, *]; first | done | omega)) (fun j out hlt hi => ?_) fun out hi => ?_
  · obtain ⟨hi0, hi⟩ := hi
    have e1 := hat_ps.get hlt
    have hj1 := idx_lt hlt
    have w1 : IntKind.i64.wrap ((j : Int) + 1) = (j : Int) + 1 := wrap_id (by omega) (by omega)
    have hb1' : (out.length + 1) * 16 ≤ 140737488355328 := by omega
    have hb2' : out.length + 1 ≤ 140737488355328 := by omega
    rw [towns_cons] at hi
    simp (config := {contextual := true, implicitDefEqProofs := false, maxSteps := 2000000}) [-Int.not_le, -Int.not_lt, argsF, impl_TownsOn_l0, hat_ps.blk, hat_ps.esz, hat_ps.len, hat_ps.els, hne_ps, hne1_ps, hne2_ps.1, hne2_ps.2.1, hne2_ps.2.2.1, hne2_ps.2.2.2.1, hne2_ps.2.2.2.2.1, hne2_ps.2.2.2.2.2.1, hne2_ps.2.2.2.2.2.2.1, hne2_ps.2.2.2.2.2.2.2.1, hne2_ps.2.2.2.2.2.2.2.2.1, hne2_ps.2.2.2.2.2.2.2.2.2.1, hne2_ps.2.2.2.2.2.2.2.2.2.2, e1, hj1, w1, hlt, hb1', hb2']
    refine ite_i (fun hu => ?_) (fun hu => ?_)
    · rw [if_pos hu] at hi
      first | exact ⟨out ++ [ps[j].town], ⟨by simp; omega, by rw [List.append_assoc]; exact hi⟩, .one (c := some (H.n + 1 + 1)) hwf (by (repeat first | exact Sub.refl _ | refine Sub.push hwf ?_ _ | refine Sub.set hwf ?_ (by first | exact Nat.le_refl _ | omega) _ | refine Sub.kill hwf ?_ (by first | exact Nat.le_refl _ | omega))) ⟨by omega, by simp [push_b, set_b, kill_b, rowK]; done⟩ (plain_map (fun _ => rfl) _) (by simp [frOk, AV.okR, AV.ok1, AC.okR, AV.ren, AV.ren1, AC.ren, AFrame.get, pl1_old, *]; first | done | omega)⟩ | exact ⟨out ++ [ps[j].town], ⟨by simp; omega, by rw [List.append_assoc]; exact hi⟩, .one (c := some (H.n + 1 + 1 + 1)) hwf (by (repeat first | exact Sub.refl _ | refine Sub.push hwf ?_ _ | refine Sub.set hwf ?_ (by first | exact Nat.le_refl _ | omega) _ | refine Sub.kill hwf ?_ (by first | exact Nat.le_refl _ | omega))) ⟨by omega, by simp [push_b, set_b, kill_b, rowK]; done⟩ (plain_map (fun _ => rfl) _) (by simp [frOk, AV.okR, AV.ok1, AC.okR, AV.ren, AV.ren1, AC.ren, AFrame.get, pl1_old, *]; first | done | omega)⟩ | exact ⟨out ++ [ps[j].town], ⟨by simp; omega, by rw [List.append_assoc]; exact hi⟩, .one (c := some (H.n)) hwf (by (repeat first | exact Sub.refl _ | refine Sub.push hwf ?_ _ | refine Sub.set hwf ?_ (by first | exact Nat.le_refl _ | omega) _ | refine Sub.kill hwf ?_ (by first | exact Nat.le_refl _ | omega))) ⟨by omega, by simp [push_b, set_b, kill_b, rowK]; done⟩ (plain_map (fun _ => rfl) _) (by simp [frOk, AV.okR, AV.ok1, AC.okR, AV.ren, AV.ren1, AC.ren, AFrame.get, pl1_old, *]; first | done | omega)⟩
    · rw [if_neg hu] at hi
      exact ⟨out, ⟨by omega, hi⟩, .one (c := some (H.n)) hwf (by (repeat first | exact Sub.refl _ | refine Sub.push hwf ?_ _ | refine Sub.set hwf ?_ (by first | exact Nat.le_refl _ | omega) _ | refine Sub.kill hwf ?_ (by first | exact Nat.le_refl _ | omega))) ⟨by omega, by simp [push_b, set_b, kill_b, rowK]; done⟩ (plain_map (fun _ => rfl) _) (by simp [frOk, AV.okR, AV.ok1, AC.okR, AV.ren, AV.ren1, AC.ren, AFrame.get, pl1_old, *]; first | done | omega)⟩
  · obtain ⟨hi0, hi⟩ := hi
    have hi' : out = towns d ps := by simpa [towns, accM] using hi
    subst hi'
    have hsl : (sortT (towns d ps)).length = (towns d ps).length := sortT_len _
    have hl6 : (towns d ps).length ≤ 1000000 := by omega
    rcases Nat.eq_zero_or_pos (towns d ps).length with h0 | h0
    · have e0 : towns d ps = [] := List.eq_nil_of_length_eq_zero h0
      rw [e0] at h ⊢
      rw [show Lib.compact (sortT []) = [] by rw [compactT_insAll]; rfl] at h
      simp (config := {contextual := true, implicitDefEqProofs := false, maxSteps := 2000000}) [-Int.not_le, -Int.not_lt, argsF, impl_TownsOn_l0]
      exact (.one (c := some (H.n)) hwf (by (repeat first | exact Sub.refl _ | refine Sub.push hwf ?_ _ | refine Sub.set hwf ?_ (by first | exact Nat.le_refl _ | omega) _ | refine Sub.kill hwf ?_ (by first | exact Nat.le_refl _ | omega))) ⟨by omega, by simp [push_b, set_b, kill_b, rowK]; done⟩ (plain_map (fun _ => rfl) _) (by simp [frOk, AV.okR, AV.ok1, AC.okR, AV.ren, AV.ren1, AC.ren, AFrame.get, pl1_old, *]; first | done | omega) h)
    · have hne : ¬ towns d ps = [] := fun e => by rw [e] at h0; simp at h0
      simp (config := {contextual := true, implicitDefEqProofs := false, maxSteps := 2000000}) [-Int.not_le, -Int.not_lt, argsF, impl_TownsOn_l0, hl6, hsl, hne]
      exact (.one (c := some (H.n)) hwf (by (repeat first | exact Sub.refl _ | refine Sub.push hwf ?_ _ | refine Sub.set hwf ?_ (by first | exact Nat.le_refl _ | omega) _ | refine Sub.kill hwf ?_ (by first | exact Nat.le_refl _ | omega))) ⟨by omega, by simp [push_b, set_b, kill_b, rowK]; done⟩ (plain_map (fun _ => rfl) _) (by simp [frOk, AV.okR, AV.ok1, AC.okR, AV.ren, AV.ren1, AC.ren, AFrame.get, pl1_old, *]; first | done | omega) h)

theorem spec_TownsOn_s : Sound Tryd.prog 45 q_tn := by
  intro args H K h
  unfold q_tn at h
  split at h
  rotate_left
  all_goals first | exact False.elim h | skip
  rename_i ps_v d
  have h1 := Enc.rd_at h
  clear h
  obtain ⟨b_ps, i_ps, k_ps, ps, rfl, hat_ps, h⟩ := h1
  have hE := soundE_cons spec_l11Good_s (soundE_cons spec_l2Day_s (soundE_cons spec_l11Used_s (soundE_nil (P := Tryd.prog))))
  refine acalls_fn spec_TownsOn_k hE ⟨by simp, fun hwf => ?_⟩
  have hb_ps : b_ps < H.n := (hwf b_ps k_ps hat_ps.blk).1
  have hne_ps : (b_ps = H.n) = False := eq_false (by omega)
  have hne1_ps : ∀ i, (b_ps = H.n + i) = False := fun i => eq_false (by omega)
  have hne2_ps : (b_ps = H.n + 1 + 1) = False ∧ (b_ps = H.n + 1 + 1 + 1) = False ∧ (b_ps = H.n + 1 + 1 + 1 + 1) = False ∧ (b_ps = H.n + 1 + 1 + 1 + 1 + 1) = False ∧ (b_ps = H.n + 1 + 1 + 1 + 1 + 1 + 1) = False ∧ (b_ps = H.n + 1 + 1 + 1 + 1 + 1 + 1 + 1) = False ∧ (b_ps = H.n + 1 + 1 + 1 + 1 + 1 + 1 + 1 + 1) = False ∧ (b_ps = H.n + 1 + 1 + 1 + 1 + 1 + 1 + 1 + 1 + 1) = False ∧ (b_ps = H.n + 1 + 1 + 1 + 1 + 1 + 1 + 1 + 1 + 1 + 1) = False ∧ (b_ps = H.n + 1 + 1 + 1 + 1 + 1 + 1 + 1 + 1 + 1 + 1 + 1) = False ∧ (b_ps = H.n + 1 + 1 + 1 + 1 + 1 + 1 + 1 + 1 + 1 + 1 + 1 + 1) = False := ⟨eq_false (by omega), eq_false (by omega), eq_false (by omega), eq_false (by omega), eq_false (by omega), eq_false (by omega), eq_false (by omega), eq_false (by omega), eq_false (by omega), eq_false (by omega), eq_false (by omega)⟩
  have hmx_ps : ps.length ≤ 9223372036854775807 := by have h1 := (hwf b_ps k_ps hat_ps.blk).2.2; have h2 := hat_ps.len; omega
  obtain ⟨hok, h⟩ := h
  by_cases hv : arePo ps = true
  rotate_left
  · have e : tnRes ps d = ([], false) := by unfold tnRes; rw [if_neg hv]
    rw [e] at h
    simp (config := {contextual := true, implicitDefEqProofs := false, maxSteps := 2000000}) [-Int.not_le, -Int.not_lt, argsF, spec_TownsOn_c, hat_ps.blk, hat_ps.esz, hat_ps.len, hat_ps.els, hne_ps, hne1_ps, hne2_ps.1, hne2_ps.2.1, hne2_ps.2.2.1, hne2_ps.2.2.2.1, hne2_ps.2.2.2.2.1, hne2_ps.2.2.2.2.2.1, hne2_ps.2.2.2.2.2.2.1, hne2_ps.2.2.2.2.2.2.2.1, hne2_ps.2.2.2.2.2.2.2.2.1, hne2_ps.2.2.2.2.2.2.2.2.2.1, hne2_ps.2.2.2.2.2.2.2.2.2.2, hok, hv]
    first | exact (.one (c := none) hwf (by (repeat first | exact Sub.refl _ | refine Sub.push hwf ?_ _ | refine Sub.set hwf ?_ (by first | exact Nat.le_refl _ | omega) _ | refine Sub.kill hwf ?_ (by first | exact Nat.le_refl _ | omega))) ⟨rfl, rfl⟩ (plain_map (fun _ => rfl) _) (by simp [frOk, AV.okR, AV.ok1, AC.okR, AV.ren, AV.ren1, AC.ren, AFrame.get, pl1_old, *]; first | done | omega) h) | exact (.one (c := some (H.n)) hwf (by (repeat first | exact Sub.refl _ | refine Sub.push hwf ?_ _ | refine Sub.set hwf ?_ (by first | exact Nat.le_refl _ | omega) _ | refine Sub.kill hwf ?_ (by first | exact Nat.le_refl _ | omega))) ⟨by omega, by simp [push_b, set_b, kill_b, rowK]; done⟩ (plain_map (fun _ => rfl) _) (by simp [frOk, AV.okR, AV.ok1, AC.okR, AV.ren, AV.ren1, AC.ren, AFrame.get, pl1_old, *]; first | done | omega) h) | exact (.one (c := some (H.n + 1)) hwf (by (repeat first | exact Sub.refl _ | refine Sub.push hwf ?_ _ | refine Sub.set hwf ?_ (by first | exact Nat.le_refl _ | omega) _ | refine Sub.kill hwf ?_ (by first | exact Nat.le_refl _ | omega))) ⟨by omega, by simp [push_b, set_b, kill_b, rowK]; done⟩ (plain_map (fun _ => rfl) _) (by simp [frOk, AV.okR, AV.ok1, AC.okR, AV.ren, AV.ren1, AC.ren, AFrame.get, pl1_old, *]; first | done | omega) h) | exact (.one (c := some (H.n + 2)) hwf (by (repeat first | exact Sub.refl _ | refine Sub.push hwf ?_ _ | refine Sub.set hwf ?_ (by first | exact Nat.le_refl _ | omega) _ | refine Sub.kill hwf ?_ (by first | exact Nat.le_refl _ | omega))) ⟨by omega, by simp [push_b, set_b, kill_b, rowK]; done⟩ (plain_map (fun _ => rfl) _) (by simp [frOk, AV.okR, AV.ok1, AC.okR, AV.ren, AV.ren1, AC.ren, AFrame.get, pl1_old, *]; first | done | omega) h) | exact (.one (c := some (H.n + 3)) hwf (by (repeat first | exact Sub.refl _ | refine Sub.push hwf ?_ _ | refine Sub.set hwf ?_ (by first | exact Nat.le_refl _ | omega) _ | refine Sub.kill hwf ?_ (by first | exact Nat.le_refl _ | omega))) ⟨by omega, by simp [push_b, set_b, kill_b, rowK]; done⟩ (plain_map (fun _ => rfl) _) (by simp [frOk, AV.okR, AV.ok1, AC.okR, AV.ren, AV.ren1, AC.ren, AFrame.get, pl1_old, *]; first | done | omega) h) | exact (.one (c := some (H.n + 4)) hwf (by (repeat first | exact Sub.refl _ | refine Sub.push hwf ?_ _ | refine Sub.set hwf ?_ (by first | exact Nat.le_refl _ | omega) _ | refine Sub.kill hwf ?_ (by first | exact Nat.le_refl _ | omega))) ⟨by omega, by simp [push_b, set_b, kill_b, rowK]; done⟩ (plain_map (fun _ => rfl) _) (by simp [frOk, AV.okR, AV.ok1, AC.okR, AV.ren, AV.ren1, AC.ren, AFrame.get, pl1_old, *]; first | done | omega) h)
  by_cases hd : inR d 0 4000 = true
  rotate_left
  · have e : tnRes ps d = ([], false) := by unfold tnRes; rw [if_pos hv, if_neg hd]
    rw [e] at h
    simp (config := {contextual := true, implicitDefEqProofs := false, maxSteps := 2000000}) [-Int.not_le, -Int.not_lt, argsF, spec_TownsOn_c, hat_ps.blk, hat_ps.esz, hat_ps.len, hat_ps.els, hne_ps, hne1_ps, hne2_ps.1, hne2_ps.2.1, hne2_ps.2.2.1, hne2_ps.2.2.2.1, hne2_ps.2.2.2.2.1, hne2_ps.2.2.2.2.2.1, hne2_ps.2.2.2.2.2.2.1, hne2_ps.2.2.2.2.2.2.2.1, hne2_ps.2.2.2.2.2.2.2.2.1, hne2_ps.2.2.2.2.2.2.2.2.2.1, hne2_ps.2.2.2.2.2.2.2.2.2.2, hok, hv, hd]
    first | exact (.one (c := none) hwf (by (repeat first | exact Sub.refl _ | refine Sub.push hwf ?_ _ | refine Sub.set hwf ?_ (by first | exact Nat.le_refl _ | omega) _ | refine Sub.kill hwf ?_ (by first | exact Nat.le_refl _ | omega))) ⟨rfl, rfl⟩ (plain_map (fun _ => rfl) _) (by simp [frOk, AV.okR, AV.ok1, AC.okR, AV.ren, AV.ren1, AC.ren, AFrame.get, pl1_old, *]; first | done | omega) h) | exact (.one (c := some (H.n)) hwf (by (repeat first | exact Sub.refl _ | refine Sub.push hwf ?_ _ | refine Sub.set hwf ?_ (by first | exact Nat.le_refl _ | omega) _ | refine Sub.kill hwf ?_ (by first | exact Nat.le_refl _ | omega))) ⟨by omega, by simp [push_b, set_b, kill_b, rowK]; done⟩ (plain_map (fun _ => rfl) _) (by simp [frOk, AV.okR, AV.ok1, AC.okR, AV.ren, AV.ren1, AC.ren, AFrame.get, pl1_old, *]; first | done | omega) h) | exact (.one (c := some (H.n + 1)) hwf (by (repeat first | exact Sub.refl _ | refine Sub.push hwf ?_ _ | refine Sub.set hwf ?_ (by first | exact Nat.le_refl _ | omega) _ | refine Sub.kill hwf ?_ (by first | exact Nat.le_refl _ | omega))) ⟨by omega, by simp [push_b, set_b, kill_b, rowK]; done⟩ (plain_map (fun _ => rfl) _) (by simp [frOk, AV.okR, AV.ok1, AC.okR, AV.ren, AV.ren1, AC.ren, AFrame.get, pl1_old, *]; first | done | omega) h) | exact (.one (c := some (H.n + 2)) hwf (by (repeat first | exact Sub.refl _ | refine Sub.push hwf ?_ _ | refine Sub.set hwf ?_ (by first | exact Nat.le_refl _ | omega) _ | refine Sub.kill hwf ?_ (by first | exact Nat.le_refl _ | omega))) ⟨by omega, by simp [push_b, set_b, kill_b, rowK]; done⟩ (plain_map (fun _ => rfl) _) (by simp [frOk, AV.okR, AV.ok1, AC.okR, AV.ren, AV.ren1, AC.ren, AFrame.get, pl1_old, *]; first | done | omega) h) | exact (.one (c := some (H.n + 3)) hwf (by (repeat first | exact Sub.refl _ | refine Sub.push hwf ?_ _ | refine Sub.set hwf ?_ (by first | exact Nat.le_refl _ | omega) _ | refine Sub.kill hwf ?_ (by first | exact Nat.le_refl _ | omega))) ⟨by omega, by simp [push_b, set_b, kill_b, rowK]; done⟩ (plain_map (fun _ => rfl) _) (by simp [frOk, AV.okR, AV.ok1, AC.okR, AV.ren, AV.ren1, AC.ren, AFrame.get, pl1_old, *]; first | done | omega) h) | exact (.one (c := some (H.n + 4)) hwf (by (repeat first | exact Sub.refl _ | refine Sub.push hwf ?_ _ | refine Sub.set hwf ?_ (by first | exact Nat.le_refl _ | omega) _ | refine Sub.kill hwf ?_ (by first | exact Nat.le_refl _ | omega))) ⟨by omega, by simp [push_b, set_b, kill_b, rowK]; done⟩ (plain_map (fun _ => rfl) _) (by simp [frOk, AV.okR, AV.ok1, AC.okR, AV.ren, AV.ren1, AC.ren, AFrame.get, pl1_old, *]; first | done | omega) h)
  have e : tnRes ps d = (insAll (towns d ps) [], true) := by unfold tnRes; rw [if_pos hv, if_pos hd]
  rw [e] at h
  clear e
  have hp12 := arePo_len hv
  have htn := towns_len d ps

  simp (config := {contextual := true, implicitDefEqProofs := false, maxSteps := 2000000}) [-Int.not_le, -Int.not_lt, argsF, spec_TownsOn_c, hat_ps.blk, hat_ps.esz, hat_ps.len, hat_ps.els, hne_ps, hne1_ps, hne2_ps.1, hne2_ps.2.1, hne2_ps.2.2.1, hne2_ps.2.2.2.1, hne2_ps.2.2.2.2.1, hne2_ps.2.2.2.2.2.1, hne2_ps.2.2.2.2.2.2.1, hne2_ps.2.2.2.2.2.2.2.1, hne2_ps.2.2.2.2.2.2.2.2.1, hne2_ps.2.2.2.2.2.2.2.2.2.1, hne2_ps.2.2.2.2.2.2.2.2.2.2, hok, hv, hd]
  refine aloop_list ps (fun j (out : List (List UInt8)) => [(0, .c (.sl b_ps i_ps ps.length)), (1, .c (.int .i64 (d))), (6, .c (.sl (H.n) (0) (out.length))), (7, .c (.int .i64 (j)))]) (fun j (out : List (List UInt8)) => H.push (rowK eT 9 out)) (fun j l (out : List (List UInt8)) => out.length ≤ j ∧ insAll (towns d l) out = insAll (towns d ps) []) hE _ [] ⟨Nat.le_refl _, rfl⟩ (.one (c := some (H.n)) hwf (by (repeat first | exact Sub.refl _ | refine Sub.push hwf ?_ _ | refine Sub.set hwf ?_ (by first | exact Nat.le_refl _ | omega) _ | refine Sub.kill hwf ?_ (by first | exact Nat.le_refl _ | omega))) ⟨by omega, by simp [push_b, set_b, kill_b, rowK]; done⟩ (plain_map (fun _ => rfl) _) (by simp [frOk, AV.okR, AV.ok1, AC.okR, AV.ren, AV.ren1, AC.ren, AFrame.get, pl1_old, *]; first | done | omega)) (fun jo out hlto hi => ?_) fun out hi => ?_
  · obtain ⟨hi0, hi⟩ := hi
    have e1 := hat_ps.get hlto
    have hj1 := idx_lt hlto
    have w1 : IntKind.i64.wrap ((jo : Int) + 1) = (jo : Int) + 1 := wrap_id (by omega) (by omega)
    have hrw : (H.push (rowK eT 9 out)).WF := WF.push hwf (plain_map (fun _ => rfl) _) (by simp; omega)
    rw [towns_cons] at hi
    simp (config := {contextual := true, implicitDefEqProofs := false, maxSteps := 2000000}) [-Int.not_le, -Int.not_lt, argsF, spec_TownsOn_l2, hat_ps.blk, hat_ps.esz, hat_ps.len, hat_ps.els, hne_ps, hne1_ps, hne2_ps.1, hne2_ps.2.1, hne2_ps.2.2.1, hne2_ps.2.2.2.1, hne2_ps.2.2.2.2.1, hne2_ps.2.2.2.2.2.1, hne2_ps.2.2.2.2.2.2.1, hne2_ps.2.2.2.2.2.2.2.1, hne2_ps.2.2.2.2.2.2.2.2.1, hne2_ps.2.2.2.2.2.2.2.2.2.1, hne2_ps.2.2.2.2.2.2.2.2.2.2, e1, hj1, hlto]
    refine aloop_list out (fun j (b : Bool) => [(0, .c (.sl b_ps i_ps ps.length)), (1, .c (.int .i64 (d))), (6, .c (.sl (H.n) (0) (out.length))), (7, .c (.int .i64 (jo))), (8, .c (.str (ps[jo].town))), (9, .c (.int .i64 out.length)), (10, .c (.bool (b))), (11, .c (.int .i64 (j)))]) (fun j (b : Bool) => H.push (rowK eT 9 out)) (fun j l (b : Bool) => (b || decide (ps[jo].town ∈ l)) = (!inR d ps[jo].first ps[jo].last || decide (ps[jo].town ∈ out))) hE _ (!inR d ps[jo].first ps[jo].last) rfl (Weak.since (H := H.push (rowK eT 9 out)) (by simp only [push_n]; omega) hrw (.refl _) (by simp [frOk, AV.okR, AV.ok1, AC.okR, AV.ren, AV.ren1, AC.ren, AFrame.get, pl1_old, *]; first | done | omega)) (fun j b hlt hib => ?_) fun b hib => ?_
    · have hj2 := idx_lt hlt
      have w2 : IntKind.i64.wrap ((j : Int) + 1) = (j : Int) + 1 := wrap_id (by omega) (by omega)
      simp (config := {contextual := true, implicitDefEqProofs := false, maxSteps := 2000000}) [-Int.not_le, -Int.not_lt, argsF, spec_TownsOn_l0, hj2, w2, hlt]
      refine ite_i (fun g => ?_) (fun g => ?_)
      · subst g
        exact ⟨true, by rw [Bool.true_or] at hib ⊢; exact hib, Weak.since (H := H.push (rowK eT 9 out)) (by simp only [push_n]; omega) hrw (.refl _) (by simp [frOk, AV.okR, AV.ok1, AC.okR, AV.ren, AV.ren1, AC.ren, AFrame.get, pl1_old, *]; first | done | omega)⟩
      · have g2 : b = false := by simpa using g
        subst g2
        have g3 : decide (ps[jo].town ∈ out[j] :: List.drop (j + 1) out) = (decide (out[j] = ps[jo].town) || decide (ps[jo].town ∈ List.drop (j + 1) out)) := by
          rw [← Bool.decide_or, decide_eq_decide, List.mem_cons]
          exact ⟨fun h => h.imp Eq.symm id, fun h => h.imp Eq.symm id⟩
        rw [g3, Bool.false_or] at hib
        exact ⟨decide (out[j] = ps[jo].town), hib, Weak.since (H := H.push (rowK eT 9 out)) (by simp only [push_n]; omega) hrw (.refl _) (by simp [frOk, AV.okR, AV.ok1, AC.okR, AV.ren, AV.ren1, AC.ren, AFrame.get, pl1_old, *]; first | done | omega)⟩
    · simp only [List.not_mem_nil, decide_false, Bool.or_false] at hib
      simp (config := {contextual := true, implicitDefEqProofs := false, maxSteps := 2000000}) [-Int.not_le, -Int.not_lt, argsF, spec_TownsOn_l0]
      have hlt5 : out.length ≤ 12 := by omega
      refine aloop_heap (X := Nat) (fun k => [(0, .c (.sl b_ps i_ps ps.length)), (1, .c (.int .i64 (d))), (6, .c (.sl (H.n) (0) (out.length))), (7, .c (.int .i64 (jo))), (8, .c (.str (ps[jo].town))), (9, .c (.int .i64 (k : Int))), (10, .c (.bool (b)))]) (fun _ => H.push (rowK eT 9 out)) (fun k => k ≤ out.length ∧ posD out ps[jo].town k = posD out ps[jo].town out.length) (fun k => k) hE _ out.length ⟨Nat.le_refl _, rfl⟩ (fun hw0 => Weak.since (H := H.push (rowK eT 9 out)) (by simp only [push_n]; omega) hrw (.refl _) (by simp [frOk, AV.okR, AV.ok1, AC.okR, AV.ren, AV.ren1, AC.ren, AFrame.get, pl1_old, *]; first | done | omega)) (fun k hx hwx => ?_)
      obtain ⟨hk, hpk⟩ := hx
      have next_t : b = true → insAll (towns d (ps.drop (jo + 1))) out = insAll (towns d ps) [] := fun hb => by
        rw [hb] at hib
        have h2 := hib.symm
        simp only [Bool.or_eq_true, Bool.not_eq_true', decide_eq_true_eq] at h2
        by_cases hu : inR d ps[jo].first ps[jo].last = true
        · rw [if_pos hu] at hi
          have h3 : ps[jo].town ∈ out := h2.resolve_left (by rw [hu]; simp)
          rw [insAll, insT, if_pos h3] at hi
          exact hi
        · rw [if_neg hu] at hi
          exact hi
      have next_f : b = false → ∀ q : Nat, posD out ps[jo].town out.length = q → insAll (towns d (ps.drop (jo + 1))) (out.take q ++ ps[jo].town :: out.drop q) = insAll (towns d ps) [] := fun hb q hq => by
        rw [hb] at hib
        have h2 := hib.symm
        simp only [Bool.or_eq_false_iff, Bool.not_eq_false', decide_eq_false_iff_not] at h2
        rw [if_pos h2.1, insAll, insT, if_neg h2.2, hq] at hi
        exact hi
      cases k with
      | zero =>
        have hq0 : posD out ps[jo].town out.length = 0 := hpk.symm
        simp (config := {contextual := true, implicitDefEqProofs := false, maxSteps := 2000000}) [-Int.not_le, -Int.not_lt, argsF, spec_TownsOn_l1, w1]
        refine ite_i (fun hb => ?_) (fun hb => ?_)
        · exact ⟨out, ⟨by omega, next_t hb⟩, Weak.since (H := H.push (rowK eT 9 out)) (by simp only [push_n]; omega) hrw (.refl _) (by simp [frOk, AV.okR, AV.ok1, AC.okR, AV.ren, AV.ren1, AC.ren, AFrame.get, pl1_old, *]; first | done | omega)⟩
        · have hb' : b = false := by simpa using hb
          have hE : (⟨9, 1, false, false, [AC.str ps[jo].town] :: List.map eT.cells out⟩ : ABlk) = rowK eT 9 (ps[jo].town :: out) := rfl
          have hL : 1 + out.length = (ps[jo].town :: out).length := by rw [List.length_cons]; omega
          have hN := next_f hb' 0 hq0
          refine ⟨by omega, by omega, ?_⟩
          rw [hE, hL]
          exact ⟨ps[jo].town :: out, ⟨by rw [List.length_cons]; omega, hN⟩, .one (c := some (H.n + 1 + 1 + 1 + 1 + 1)) hwf (by (repeat first | exact Sub.refl _ | refine Sub.push hwf ?_ _ | refine Sub.set hwf ?_ (by first | exact Nat.le_refl _ | omega) _ | refine Sub.kill hwf ?_ (by first | exact Nat.le_refl _ | omega))) ⟨by omega, by simp [push_b, set_b, kill_b, rowK]; done⟩ (plain_map (fun _ => rfl) _) (by simp [frOk, AV.okR, AV.ok1, AC.okR, AV.ren, AV.ren1, AC.ren, AFrame.get, pl1_old, *]; first | done | omega)⟩
      | succ k =>
        have w3 : IntKind.i64.wrap (k : Int) = (k : Int) := wrap_id (by omega) (by omega)
        have hk2 : k < out.length := by omega
        have hk3 : (k : Int) < (out.length : Int) := by omega
        have hgd : out.getD k [] = out[k] := by simp [List.getD_eq_getElem?_getD, hk2]
        simp only [posD, hgd] at hpk
        simp (config := {contextual := true, implicitDefEqProofs := false, maxSteps := 2000000}) [-Int.not_le, -Int.not_lt, argsF, spec_TownsOn_l1, w1, w3, hk2, hk3]
        refine ite_i (fun g => ?_) (fun g => ?_)
        · rw [if_pos g] at hpk
          exact ⟨fun hw => ⟨k, ⟨by omega, hpk⟩, by omega, Weak.since (H := H.push (rowK eT 9 out)) (by simp only [push_n]; omega) hrw (.refl _) (by simp [frOk, AV.okR, AV.ok1, AC.okR, AV.ren, AV.ren1, AC.ren, AFrame.get, pl1_old, *]; first | done | omega)⟩⟩
        rw [if_neg g] at hpk
        refine ite_i (fun hb => ?_) (fun hb => ?_)
        · exact ⟨out, ⟨by omega, next_t hb⟩, Weak.since (H := H.push (rowK eT 9 out)) (by simp only [push_n]; omega) hrw (.refl _) (by simp [frOk, AV.okR, AV.ok1, AC.okR, AV.ren, AV.ren1, AC.ren, AFrame.get, pl1_old, *]; first | done | omega)⟩
        · have hb' : b = false := by simpa using hb
          have hN := next_f hb' (k + 1) hpk.symm
          have hE := ins_row (n := ps[jo].town) (q := k + 1) (out := out) hk
          have hL := ins_len (n := ps[jo].town) (q := k + 1) (out := out) hk
          simp only [Int.natCast_add, Int.natCast_one] at hE hL
          rw [hE, hL]
          refine ⟨by omega, by omega, by omega, by omega, by omega, by omega, by omega, by omega, by omega, by omega, by omega, by omega, ?_⟩
          have hE2 : (⟨9, 1, false, false, (out.take (k + 1) ++ ps[jo].town :: out.drop (k + 1)).map eT.cells⟩ : ABlk) = rowK eT 9 (out.take (k + 1) ++ ps[jo].town :: out.drop (k + 1)) := rfl
          rw [hE2]
          have hLL : (out.take (k + 1) ++ ps[jo].town :: out.drop (k + 1)).length ≤ jo + 1 := by rw [← hL]; omega
          generalize out.take (k + 1) ++ ps[jo].town :: out.drop (k + 1) = out2 at *
          exact ⟨out2, ⟨hLL, hN⟩, .one (c := some (H.n + 1 + 1 + 1 + 1 + 1)) hwf (by (repeat first | exact Sub.refl _ | refine Sub.push hwf ?_ _ | refine Sub.set hwf ?_ (by first | exact Nat.le_refl _ | omega) _ | refine Sub.kill hwf ?_ (by first | exact Nat.le_refl _ | omega))) ⟨by omega, by simp [push_b, set_b, kill_b, rowK]; done⟩ (plain_map (fun _ => rfl) _) (by simp [frOk, AV.okR, AV.ok1, AC.okR, AV.ren, AV.ren1, AC.ren, AFrame.get, pl1_old, *]; first | done | omega)⟩
  · obtain ⟨hi0, hi⟩ := hi
    have hi' : out = insAll (towns d ps) [] := by simpa [towns, accM, insAll] using hi
    subst hi'
    simp (config := {contextual := true, implicitDefEqProofs := false, maxSteps := 2000000}) [-Int.not_le, -Int.not_lt, argsF, spec_TownsOn_l2]
    exact (.one (c := some (H.n)) hwf (by (repeat first | exact Sub.refl _ | refine Sub.push hwf ?_ _ | refine Sub.set hwf ?_ (by first | exact Nat.le_refl _ | omega) _ | refine Sub.kill hwf ?_ (by first | exact Nat.le_refl _ | omega))) ⟨by omega, by simp [push_b, set_b, kill_b, rowK]; done⟩ (plain_map (fun _ => rfl) _) (by simp [frOk, AV.okR, AV.ok1, AC.okR, AV.ren, AV.ren1, AC.ren, AFrame.get, pl1_old, *]; first | done | omega) h)

end Go.Proofs.YtnehhdcaknppnaaDoor
