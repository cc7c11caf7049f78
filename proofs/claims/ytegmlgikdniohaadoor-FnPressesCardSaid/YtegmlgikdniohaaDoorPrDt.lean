/- The draws of the printings: a list. -/
import Derived.Test.YtegmlgikdniohaaDoorPrDs
set_option maxRecDepth 8000
set_option linter.unusedSimpArgs false
set_option linter.unusedVariables false
namespace Go.Proofs.YtegmlgikdniohaaDoor
open Go Go.RowKit

set_option maxHeartbeats 2000000
/-- what is known of a heap suffices -/
theorem aloop_gen {P : Program} {N n0 : Nat} {body : ACode} {F : AFrame} {H : AHeap} {Q : Exit → AFrame → AHeap → Prop} (R : AHeap → Prop) (h : R H) (f : ∀ G, R G → ALoop P N n0 body F G Q) : ALoop P N n0 body F H Q := f H h
structure DL where
  H : AHeap
  a : Int
  s : Int
  out : List Pr
  ob : Nat
  id : Int
  day : Int
  n : Nat
/-- a heap within a draw: the cursor, a row, all else below as it was -/
structure DL.Ok (x : DL) (H : AHeap) (c b i n : Nat) (a : Int) (up : Int) (ln : Nat) : Prop where
  hn : H.n ≤ x.H.n
  hI : x.H.I = H.I
  cur : x.H.b c = some (curK b i n x.a x.s)
  old : ∀ j, j < H.n → j ≠ c → x.H.b j = H.b j
  row : x.H.b x.ob = some (rowK ePr 34 x.out)
  hob : H.n ≤ x.ob
  at0 : a ≤ x.a
  at1 : x.a ≤ up
  len : x.out.length ≤ ln

def q_prs14 : Con := fun args H K => match args with
  | [.c (.ptr c_p 0 0)] => onCur H c_p 600000000 fun b_c i_c n_c a_c s_c => Stop (∀ (ps : List Pr) (a' s' : Int), ps.length ≤ 14 → a_c ≤ a' → a' ≤ a_c + 5000 → K (.c (.sl (H.n) (0) (ps.length))) ((H.set c_p (curK b_c i_c n_c a' s')).push (rowK ePr 34 ps))) ()
  | _ => False
@[simp ↓] theorem q_prs14_eq (c_p : Nat) (H : AHeap) (K : AV → AHeap → Prop) : q_prs14 [.c (.ptr c_p 0 0)] H K = (onCur H c_p 600000000 fun b_c i_c n_c a_c s_c => Stop (∀ (ps : List Pr) (a' s' : Int), ps.length ≤ 14 → a_c ≤ a' → a' ≤ a_c + 5000 → K (.c (.sl (H.n) (0) (ps.length))) ((H.set c_p (curK b_c i_c n_c a' s')).push (rowK ePr 34 ps))) ()) := rfl

theorem spec_l1Cur__printings14_s : Sound Tryd.prog 25 q_prs14 := by
  intro args H K h
  unfold q_prs14 at h
  split at h
  rotate_left
  all_goals first | exact False.elim h | skip
  rename_i c_p
  have h1 := onCur_iff.1 h
  clear h
  obtain ⟨b_c, i_c, n_c, a_c, s_c, k_c, l_c, hk_c, hcb_c, h0_c, hlim_c, hat_c, rfl, h⟩ := h1
  have hE := soundE_cons spec_l1Cur__pick_s (soundE_cons spec_l1Cur__printing14_s (soundE_cons spec_l1Cur__one_s (soundE_cons spec_l1Cur__among_s (soundE_nil (P := Tryd.prog)))))
  refine acalls_fn __spec_l1Cur__printings14_k hE ⟨by simp, fun hwf => ?_⟩
  have hb_c : b_c < H.n := (hwf b_c k_c hat_c.blk).1
  have hp_c : c_p < H.n := (hwf c_p _ hk_c).1
  have hbc_c : (b_c = c_p) = False := eq_false (Ne.symm hcb_c)
  have hbd_c : (c_p = b_c) = False := eq_false hcb_c
  have hne_c : (b_c = H.n) = False := eq_false (by omega)
  have hnp_c : (c_p = H.n) = False := eq_false (by omega)
  have hne1_c : ∀ i, (b_c = H.n + i) = False := fun i => eq_false (by omega)
  have hnp1_c : ∀ i, (c_p = H.n + i) = False := fun i => eq_false (by omega)
  have hne2_c : (b_c = H.n + 1 + 1) = False ∧ (b_c = H.n + 1 + 1 + 1) = False ∧ (b_c = H.n + 1 + 1 + 1 + 1) = False ∧ (b_c = H.n + 1 + 1 + 1 + 1 + 1) = False ∧ (b_c = H.n + 1 + 1 + 1 + 1 + 1 + 1) = False ∧ (b_c = H.n + 1 + 1 + 1 + 1 + 1 + 1 + 1) = False ∧ (b_c = H.n + 1 + 1 + 1 + 1 + 1 + 1 + 1 + 1) = False ∧ (b_c = H.n + 1 + 1 + 1 + 1 + 1 + 1 + 1 + 1 + 1) = False ∧ (b_c = H.n + 1 + 1 + 1 + 1 + 1 + 1 + 1 + 1 + 1 + 1) = False ∧ (b_c = H.n + 1 + 1 + 1 + 1 + 1 + 1 + 1 + 1 + 1 + 1 + 1) = False ∧ (b_c = H.n + 1 + 1 + 1 + 1 + 1 + 1 + 1 + 1 + 1 + 1 + 1 + 1) = False := ⟨eq_false (by omega), eq_false (by omega), eq_false (by omega), eq_false (by omega), eq_false (by omega), eq_false (by omega), eq_false (by omega), eq_false (by omega), eq_false (by omega), eq_false (by omega), eq_false (by omega)⟩
  have hne2_cp : (c_p = H.n + 1 + 1) = False ∧ (c_p = H.n + 1 + 1 + 1) = False ∧ (c_p = H.n + 1 + 1 + 1 + 1) = False ∧ (c_p = H.n + 1 + 1 + 1 + 1 + 1) = False ∧ (c_p = H.n + 1 + 1 + 1 + 1 + 1 + 1) = False ∧ (c_p = H.n + 1 + 1 + 1 + 1 + 1 + 1 + 1) = False ∧ (c_p = H.n + 1 + 1 + 1 + 1 + 1 + 1 + 1 + 1) = False ∧ (c_p = H.n + 1 + 1 + 1 + 1 + 1 + 1 + 1 + 1 + 1) = False ∧ (c_p = H.n + 1 + 1 + 1 + 1 + 1 + 1 + 1 + 1 + 1 + 1) = False ∧ (c_p = H.n + 1 + 1 + 1 + 1 + 1 + 1 + 1 + 1 + 1 + 1 + 1) = False ∧ (c_p = H.n + 1 + 1 + 1 + 1 + 1 + 1 + 1 + 1 + 1 + 1 + 1 + 1) = False := ⟨eq_false (by omega), eq_false (by omega), eq_false (by omega), eq_false (by omega), eq_false (by omega), eq_false (by omega), eq_false (by omega), eq_false (by omega), eq_false (by omega), eq_false (by omega), eq_false (by omega)⟩
  have hnq_c : (H.n = c_p) = False := eq_false (by omega)
  have hnq1_c : ∀ i, (H.n + i = c_p) = False := fun i => eq_false (by omega)
  have hnb_c : (H.n = b_c) = False := eq_false (by omega)
  have hnb1_c : ∀ i, (H.n + i = b_c) = False := fun i => eq_false (by omega)
  have hnr2_cp : (H.n + 1 + 1 = c_p) = False ∧ (H.n + 1 + 1 + 1 = c_p) = False ∧ (H.n + 1 + 1 + 1 + 1 = c_p) = False ∧ (H.n + 1 + 1 + 1 + 1 + 1 = c_p) = False ∧ (H.n + 1 + 1 + 1 + 1 + 1 + 1 = c_p) = False ∧ (H.n + 1 + 1 + 1 + 1 + 1 + 1 + 1 = c_p) = False ∧ (H.n + 1 + 1 + 1 + 1 + 1 + 1 + 1 + 1 = c_p) = False ∧ (H.n + 1 + 1 + 1 + 1 + 1 + 1 + 1 + 1 + 1 = c_p) = False ∧ (H.n + 1 + 1 + 1 + 1 + 1 + 1 + 1 + 1 + 1 + 1 = c_p) = False ∧ (H.n + 1 + 1 + 1 + 1 + 1 + 1 + 1 + 1 + 1 + 1 + 1 = c_p) = False ∧ (H.n + 1 + 1 + 1 + 1 + 1 + 1 + 1 + 1 + 1 + 1 + 1 + 1 = c_p) = False := ⟨eq_false (by omega), eq_false (by omega), eq_false (by omega), eq_false (by omega), eq_false (by omega), eq_false (by omega), eq_false (by omega), eq_false (by omega), eq_false (by omega), eq_false (by omega), eq_false (by omega)⟩
  have hnr2_c : (H.n + 1 + 1 = b_c) = False ∧ (H.n + 1 + 1 + 1 = b_c) = False ∧ (H.n + 1 + 1 + 1 + 1 = b_c) = False ∧ (H.n + 1 + 1 + 1 + 1 + 1 = b_c) = False ∧ (H.n + 1 + 1 + 1 + 1 + 1 + 1 = b_c) = False ∧ (H.n + 1 + 1 + 1 + 1 + 1 + 1 + 1 = b_c) = False ∧ (H.n + 1 + 1 + 1 + 1 + 1 + 1 + 1 + 1 = b_c) = False ∧ (H.n + 1 + 1 + 1 + 1 + 1 + 1 + 1 + 1 + 1 = b_c) = False ∧ (H.n + 1 + 1 + 1 + 1 + 1 + 1 + 1 + 1 + 1 + 1 = b_c) = False ∧ (H.n + 1 + 1 + 1 + 1 + 1 + 1 + 1 + 1 + 1 + 1 + 1 = b_c) = False ∧ (H.n + 1 + 1 + 1 + 1 + 1 + 1 + 1 + 1 + 1 + 1 + 1 + 1 = b_c) = False := ⟨eq_false (by omega), eq_false (by omega), eq_false (by omega), eq_false (by omega), eq_false (by omega), eq_false (by omega), eq_false (by omega), eq_false (by omega), eq_false (by omega), eq_false (by omega), eq_false (by omega)⟩
  have hmx_c : l_c.length ≤ 9223372036854775807 := by have h1 := (hwf b_c k_c hat_c.blk).2.2; have h2 := hat_c.len; omega
  have hl8 : a_c ≤ 900000000 := by omega
  simp (config := {contextual := true, implicitDefEqProofs := false, maxSteps := 2000000}) [-Int.not_le, -Int.not_lt, argsF, __spec_l1Cur__printings14_c, onCur, dlI, dlT, hk_c, hcb_c, hbc_c, hbd_c, h0_c, hlim_c, hat_c.blk, hat_c.esz, hat_c.len, hat_c.els, hne_c, hnp_c, hne1_c, hnp1_c, hnq_c, hnq1_c, hnb_c, hnb1_c, hne2_c.1, hne2_c.2.1, hne2_c.2.2.1, hne2_c.2.2.2.1, hne2_c.2.2.2.2.1, hne2_c.2.2.2.2.2.1, hne2_c.2.2.2.2.2.2.1, hne2_c.2.2.2.2.2.2.2.1, hne2_c.2.2.2.2.2.2.2.2.1, hne2_c.2.2.2.2.2.2.2.2.2.1, hne2_c.2.2.2.2.2.2.2.2.2.2, hne2_cp.1, hne2_cp.2.1, hne2_cp.2.2.1, hne2_cp.2.2.2.1, hne2_cp.2.2.2.2.1, hne2_cp.2.2.2.2.2.1, hne2_cp.2.2.2.2.2.2.1, hne2_cp.2.2.2.2.2.2.2.1, hne2_cp.2.2.2.2.2.2.2.2.1, hne2_cp.2.2.2.2.2.2.2.2.2.1, hne2_cp.2.2.2.2.2.2.2.2.2.2, hnr2_c.1, hnr2_c.2.1, hnr2_c.2.2.1, hnr2_c.2.2.2.1, hnr2_c.2.2.2.2.1, hnr2_c.2.2.2.2.2.1, hnr2_c.2.2.2.2.2.2.1, hnr2_c.2.2.2.2.2.2.2.1, hnr2_c.2.2.2.2.2.2.2.2.1, hnr2_c.2.2.2.2.2.2.2.2.2.1, hnr2_c.2.2.2.2.2.2.2.2.2.2, hnr2_cp.1, hnr2_cp.2.1, hnr2_cp.2.2.1, hnr2_cp.2.2.2.1, hnr2_cp.2.2.2.2.1, hnr2_cp.2.2.2.2.2.1, hnr2_cp.2.2.2.2.2.2.1, hnr2_cp.2.2.2.2.2.2.2.1, hnr2_cp.2.2.2.2.2.2.2.2.1, hnr2_cp.2.2.2.2.2.2.2.2.2.1, hnr2_cp.2.2.2.2.2.2.2.2.2.2, hl8]
  refine Stop.mk fun d0 a0 s0 hd0 hl0 hu0 => ?_
  have hl0A : 0 ≤ a0 ∧ a0 ≤ 900000000 := by omega
  simp (config := {contextual := true, implicitDefEqProofs := false, maxSteps := 2000000}) [-Int.not_le, -Int.not_lt, argsF, __spec_l1Cur__printings14_c, onCur, dlI, dlT, hk_c, hcb_c, hbc_c, hbd_c, h0_c, hlim_c, hat_c.blk, hat_c.esz, hat_c.len, hat_c.els, hne_c, hnp_c, hne1_c, hnp1_c, hnq_c, hnq1_c, hnb_c, hnb1_c, hne2_c.1, hne2_c.2.1, hne2_c.2.2.1, hne2_c.2.2.2.1, hne2_c.2.2.2.2.1, hne2_c.2.2.2.2.2.1, hne2_c.2.2.2.2.2.2.1, hne2_c.2.2.2.2.2.2.2.1, hne2_c.2.2.2.2.2.2.2.2.1, hne2_c.2.2.2.2.2.2.2.2.2.1, hne2_c.2.2.2.2.2.2.2.2.2.2, hne2_cp.1, hne2_cp.2.1, hne2_cp.2.2.1, hne2_cp.2.2.2.1, hne2_cp.2.2.2.2.1, hne2_cp.2.2.2.2.2.1, hne2_cp.2.2.2.2.2.2.1, hne2_cp.2.2.2.2.2.2.2.1, hne2_cp.2.2.2.2.2.2.2.2.1, hne2_cp.2.2.2.2.2.2.2.2.2.1, hne2_cp.2.2.2.2.2.2.2.2.2.2, hnr2_c.1, hnr2_c.2.1, hnr2_c.2.2.1, hnr2_c.2.2.2.1, hnr2_c.2.2.2.2.1, hnr2_c.2.2.2.2.2.1, hnr2_c.2.2.2.2.2.2.1, hnr2_c.2.2.2.2.2.2.2.1, hnr2_c.2.2.2.2.2.2.2.2.1, hnr2_c.2.2.2.2.2.2.2.2.2.1, hnr2_c.2.2.2.2.2.2.2.2.2.2, hnr2_cp.1, hnr2_cp.2.1, hnr2_cp.2.2.1, hnr2_cp.2.2.2.1, hnr2_cp.2.2.2.2.1, hnr2_cp.2.2.2.2.2.1, hnr2_cp.2.2.2.2.2.2.1, hnr2_cp.2.2.2.2.2.2.2.1, hnr2_cp.2.2.2.2.2.2.2.2.1, hnr2_cp.2.2.2.2.2.2.2.2.2.1, hnr2_cp.2.2.2.2.2.2.2.2.2.2, hl0A]
  refine Stop.mk fun n1 a1 s1 hl1 hu1 hn1 => ?_
  have hn8 := hn1 (by omega)
  have hlA : 0 ≤ a1 ∧ a1 ≤ 900000000 := by omega
  simp (config := {contextual := true, implicitDefEqProofs := false, maxSteps := 2000000}) [-Int.not_le, -Int.not_lt, argsF, __spec_l1Cur__printings14_c, onCur, dlI, dlT, hk_c, hcb_c, hbc_c, hbd_c, h0_c, hlim_c, hat_c.blk, hat_c.esz, hat_c.len, hat_c.els, hne_c, hnp_c, hne1_c, hnp1_c, hnq_c, hnq1_c, hnb_c, hnb1_c, hne2_c.1, hne2_c.2.1, hne2_c.2.2.1, hne2_c.2.2.2.1, hne2_c.2.2.2.2.1, hne2_c.2.2.2.2.2.1, hne2_c.2.2.2.2.2.2.1, hne2_c.2.2.2.2.2.2.2.1, hne2_c.2.2.2.2.2.2.2.2.1, hne2_c.2.2.2.2.2.2.2.2.2.1, hne2_c.2.2.2.2.2.2.2.2.2.2, hne2_cp.1, hne2_cp.2.1, hne2_cp.2.2.1, hne2_cp.2.2.2.1, hne2_cp.2.2.2.2.1, hne2_cp.2.2.2.2.2.1, hne2_cp.2.2.2.2.2.2.1, hne2_cp.2.2.2.2.2.2.2.1, hne2_cp.2.2.2.2.2.2.2.2.1, hne2_cp.2.2.2.2.2.2.2.2.2.1, hne2_cp.2.2.2.2.2.2.2.2.2.2, hnr2_c.1, hnr2_c.2.1, hnr2_c.2.2.1, hnr2_c.2.2.2.1, hnr2_c.2.2.2.2.1, hnr2_c.2.2.2.2.2.1, hnr2_c.2.2.2.2.2.2.1, hnr2_c.2.2.2.2.2.2.2.1, hnr2_c.2.2.2.2.2.2.2.2.1, hnr2_c.2.2.2.2.2.2.2.2.2.1, hnr2_c.2.2.2.2.2.2.2.2.2.2, hnr2_cp.1, hnr2_cp.2.1, hnr2_cp.2.2.1, hnr2_cp.2.2.2.1, hnr2_cp.2.2.2.2.1, hnr2_cp.2.2.2.2.2.1, hnr2_cp.2.2.2.2.2.2.1, hnr2_cp.2.2.2.2.2.2.2.1, hnr2_cp.2.2.2.2.2.2.2.2.1, hnr2_cp.2.2.2.2.2.2.2.2.2.1, hnr2_cp.2.2.2.2.2.2.2.2.2.2, hlA]
  refine aloop_gen (fun G => DL.Ok ⟨G, a1, s1, [], H.n, 0, d0, n1⟩ H c_p b_c i_c l_c.length a_c (a_c + 4) 8) ⟨by simp only [push_n, set_n]; omega, by simp only [push_I, set_I], by simp [push_b, set_b, onCur, dlI, dlT, hk_c, hcb_c, hbc_c, hbd_c, h0_c, hlim_c, hat_c.blk, hat_c.esz, hat_c.len, hat_c.els, hne_c, hnp_c, hne1_c, hnp1_c, hnq_c, hnq1_c, hnb_c, hnb1_c, hne2_c.1, hne2_c.2.1, hne2_c.2.2.1, hne2_c.2.2.2.1, hne2_c.2.2.2.2.1, hne2_c.2.2.2.2.2.1, hne2_c.2.2.2.2.2.2.1, hne2_c.2.2.2.2.2.2.2.1, hne2_c.2.2.2.2.2.2.2.2.1, hne2_c.2.2.2.2.2.2.2.2.2.1, hne2_c.2.2.2.2.2.2.2.2.2.2, hne2_cp.1, hne2_cp.2.1, hne2_cp.2.2.1, hne2_cp.2.2.2.1, hne2_cp.2.2.2.2.1, hne2_cp.2.2.2.2.2.1, hne2_cp.2.2.2.2.2.2.1, hne2_cp.2.2.2.2.2.2.2.1, hne2_cp.2.2.2.2.2.2.2.2.1, hne2_cp.2.2.2.2.2.2.2.2.2.1, hne2_cp.2.2.2.2.2.2.2.2.2.2, hnr2_c.1, hnr2_c.2.1, hnr2_c.2.2.1, hnr2_c.2.2.2.1, hnr2_c.2.2.2.2.1, hnr2_c.2.2.2.2.2.1, hnr2_c.2.2.2.2.2.2.1, hnr2_c.2.2.2.2.2.2.2.1, hnr2_c.2.2.2.2.2.2.2.2.1, hnr2_c.2.2.2.2.2.2.2.2.2.1, hnr2_c.2.2.2.2.2.2.2.2.2.2, hnr2_cp.1, hnr2_cp.2.1, hnr2_cp.2.2.1, hnr2_cp.2.2.2.1, hnr2_cp.2.2.2.2.1, hnr2_cp.2.2.2.2.2.1, hnr2_cp.2.2.2.2.2.2.1, hnr2_cp.2.2.2.2.2.2.2.1, hnr2_cp.2.2.2.2.2.2.2.2.1, hnr2_cp.2.2.2.2.2.2.2.2.2.1, hnr2_cp.2.2.2.2.2.2.2.2.2.2], fun j hj hjc => by have hnj : (j = H.n) = False := eq_false (by omega); have hnj1 : ∀ i, (j = H.n + i) = False := fun i => eq_false (by omega); have hne2_j : (j = H.n + 1 + 1) = False ∧ (j = H.n + 1 + 1 + 1) = False ∧ (j = H.n + 1 + 1 + 1 + 1) = False ∧ (j = H.n + 1 + 1 + 1 + 1 + 1) = False ∧ (j = H.n + 1 + 1 + 1 + 1 + 1 + 1) = False ∧ (j = H.n + 1 + 1 + 1 + 1 + 1 + 1 + 1) = False ∧ (j = H.n + 1 + 1 + 1 + 1 + 1 + 1 + 1 + 1) = False ∧ (j = H.n + 1 + 1 + 1 + 1 + 1 + 1 + 1 + 1 + 1) = False ∧ (j = H.n + 1 + 1 + 1 + 1 + 1 + 1 + 1 + 1 + 1 + 1) = False ∧ (j = H.n + 1 + 1 + 1 + 1 + 1 + 1 + 1 + 1 + 1 + 1 + 1) = False ∧ (j = H.n + 1 + 1 + 1 + 1 + 1 + 1 + 1 + 1 + 1 + 1 + 1 + 1) = False := ⟨eq_false (by omega), eq_false (by omega), eq_false (by omega), eq_false (by omega), eq_false (by omega), eq_false (by omega), eq_false (by omega), eq_false (by omega), eq_false (by omega), eq_false (by omega), eq_false (by omega)⟩;  simp [push_b, set_b, hjc, hnj, hnj1, hne2_j.1, hne2_j.2.1, hne2_j.2.2.1, hne2_j.2.2.2.1, hne2_j.2.2.2.2.1, hne2_j.2.2.2.2.2.1, hne2_j.2.2.2.2.2.2.1, hne2_j.2.2.2.2.2.2.2.1, hne2_j.2.2.2.2.2.2.2.2.1, hne2_j.2.2.2.2.2.2.2.2.2.1, hne2_j.2.2.2.2.2.2.2.2.2.2], by simp [push_b, set_b, onCur, dlI, dlT, hk_c, hcb_c, hbc_c, hbd_c, h0_c, hlim_c, hat_c.blk, hat_c.esz, hat_c.len, hat_c.els, hne_c, hnp_c, hne1_c, hnp1_c, hnq_c, hnq1_c, hnb_c, hnb1_c, hne2_c.1, hne2_c.2.1, hne2_c.2.2.1, hne2_c.2.2.2.1, hne2_c.2.2.2.2.1, hne2_c.2.2.2.2.2.1, hne2_c.2.2.2.2.2.2.1, hne2_c.2.2.2.2.2.2.2.1, hne2_c.2.2.2.2.2.2.2.2.1, hne2_c.2.2.2.2.2.2.2.2.2.1, hne2_c.2.2.2.2.2.2.2.2.2.2, hne2_cp.1, hne2_cp.2.1, hne2_cp.2.2.1, hne2_cp.2.2.2.1, hne2_cp.2.2.2.2.1, hne2_cp.2.2.2.2.2.1, hne2_cp.2.2.2.2.2.2.1, hne2_cp.2.2.2.2.2.2.2.1, hne2_cp.2.2.2.2.2.2.2.2.1, hne2_cp.2.2.2.2.2.2.2.2.2.1, hne2_cp.2.2.2.2.2.2.2.2.2.2, hnr2_c.1, hnr2_c.2.1, hnr2_c.2.2.1, hnr2_c.2.2.2.1, hnr2_c.2.2.2.2.1, hnr2_c.2.2.2.2.2.1, hnr2_c.2.2.2.2.2.2.1, hnr2_c.2.2.2.2.2.2.2.1, hnr2_c.2.2.2.2.2.2.2.2.1, hnr2_c.2.2.2.2.2.2.2.2.2.1, hnr2_c.2.2.2.2.2.2.2.2.2.2, hnr2_cp.1, hnr2_cp.2.1, hnr2_cp.2.2.1, hnr2_cp.2.2.2.1, hnr2_cp.2.2.2.2.1, hnr2_cp.2.2.2.2.2.1, hnr2_cp.2.2.2.2.2.2.1, hnr2_cp.2.2.2.2.2.2.2.1, hnr2_cp.2.2.2.2.2.2.2.2.1, hnr2_cp.2.2.2.2.2.2.2.2.2.1, hnr2_cp.2.2.2.2.2.2.2.2.2.2]; rfl, Nat.le_refl _, by simp only; omega, by simp only; omega, Nat.zero_le _⟩ fun G hG => ?_
  refine aloop_heap (X := DL) (fun x => [(0, .c (.ptr c_p 0 0)), (3, .c (.sl (x.ob) (0) (x.out.length))), (4, .c (.int .i64 (x.id))), (5, .c (.int .i64 (x.day))), (6, .c (.int .i64 ((x.n : Int))))]) (fun x => x.H) (fun x => x.Ok H c_p b_c i_c l_c.length a_c (a_c + 4 + 30 * (x.out.length : Int)) 8 ∧ x.out.length + x.n ≤ 8) (fun x => x.n) hE _ ⟨G, a1, s1, [], H.n, 0, d0, n1⟩ ⟨⟨hG.hn, hG.hI, hG.cur, hG.old, hG.row, hG.hob, hG.at0, by have := hG.at1; simp only [List.length_nil] at *; omega, hG.len⟩, by simp only [List.length_nil]; omega⟩ (fun hw0 => by have q1 := (hw0 _ _ hG.row).1; have q3 : H.n ≤ G.n := hG.hn; simp only at q1; exact .since hG.hn hw0 (.refl _) (by simp [frOk, AV.okR, AV.ok1, AC.okR, AV.ren, AV.ren1, AC.ren, AFrame.get, pl1_old, *]; first | done | omega)) (fun x hxx hwx => ?_)
  obtain ⟨hok, hnn⟩ := hxx
  have hxb : x.H.b b_c = some k_c := by rw [hok.old b_c hb_c (Ne.symm hcb_c)]; exact hat_c.blk
  have hxc := hok.cur
  have hxr := hok.row
  have hob := hok.hob
  have hbq := (hwx _ _ hok.row).1
  have a0 := hok.at0
  have a1' := hok.at1
  have hln := hok.len
  have hbx : b_c < x.H.n := by omega
  have hnx := hok.hn
  have p00 : (c_p = x.H.n) = False := eq_false (by omega)
  have q00 : (x.H.n = c_p) = False := eq_false (by omega)
  have p01 : (c_p = x.H.n + 1) = False := eq_false (by omega)
  have q01 : (x.H.n + 1 = c_p) = False := eq_false (by omega)
  have p02 : (c_p = x.H.n + 1 + 1) = False := eq_false (by omega)
  have q02 : (x.H.n + 1 + 1 = c_p) = False := eq_false (by omega)
  have p10 : (b_c = x.H.n) = False := eq_false (by omega)
  have q10 : (x.H.n = b_c) = False := eq_false (by omega)
  have p11 : (b_c = x.H.n + 1) = False := eq_false (by omega)
  have q11 : (x.H.n + 1 = b_c) = False := eq_false (by omega)
  have p12 : (b_c = x.H.n + 1 + 1) = False := eq_false (by omega)
  have q12 : (x.H.n + 1 + 1 = b_c) = False := eq_false (by omega)
  have p20 : (x.ob = x.H.n) = False := eq_false (by omega)
  have q20 : (x.H.n = x.ob) = False := eq_false (by omega)
  have p21 : (x.ob = x.H.n + 1) = False := eq_false (by omega)
  have q21 : (x.H.n + 1 = x.ob) = False := eq_false (by omega)
  have p22 : (x.ob = x.H.n + 1 + 1) = False := eq_false (by omega)
  have q22 : (x.H.n + 1 + 1 = x.ob) = False := eq_false (by omega)
  have r0 : (x.ob = c_p) = False := eq_false (by omega)
  have r1 : (c_p = x.ob) = False := eq_false (by omega)
  have r2 : (x.ob = b_c) = False := eq_false (by omega)
  have r3 : (b_c = x.ob) = False := eq_false (by omega)
  rcases Nat.eq_zero_or_pos x.n with hz | hz
  rotate_left
  · have hz' : 0 < x.n := hz
    have hlB : 0 ≤ x.a ∧ x.a ≤ 900000000 := by omega
    have wn : IntKind.i64.wrap ((x.n : Int) - 1) = ((x.n - 1 : Nat) : Int) := by rw [wrap_id (by omega) (by omega)]; omega
    simp (config := {contextual := true, implicitDefEqProofs := false, maxSteps := 2000000}) [-Int.not_le, -Int.not_lt, argsF, __spec_l1Cur__printings14_l0, onCur, dlI, dlT, hcb_c, hbc_c, hbd_c, hat_c.esz, hat_c.len, hat_c.els, hxc, hxb, hxr, r0, r1, r2, r3, p00, q00, p01, q01, p02, q02, p10, q10, p11, q11, p12, q12, p20, q20, p21, q21, p22, q22, hz', hlB, wn]
    refine Stop.mk fun y a2 s2 hl2 hu2 hy => ?_
    have hlC : 0 ≤ a2 ∧ a2 ≤ 900000000 := by omega
    simp (config := {contextual := true, implicitDefEqProofs := false, maxSteps := 2000000}) [-Int.not_le, -Int.not_lt, argsF, __spec_l1Cur__printings14_l0, onCur, dlI, dlT, hcb_c, hbc_c, hbd_c, hat_c.esz, hat_c.len, hat_c.els, hxc, hxb, hxr, r0, r1, r2, r3, p00, q00, p01, q01, p02, q02, p10, q10, p11, q11, p12, q12, p20, q20, p21, q21, p22, q22, hz', hlC, wn]
    refine Stop.mk fun z a3 s3 hl3 hu3 hz3 => ?_
    have hlD : 0 ≤ a3 ∧ a3 ≤ 700000000 := by omega
    simp (config := {contextual := true, implicitDefEqProofs := false, maxSteps := 2000000}) [-Int.not_le, -Int.not_lt, argsF, __spec_l1Cur__printings14_l0, onCur, dlI, dlT, hcb_c, hbc_c, hbd_c, hat_c.esz, hat_c.len, hat_c.els, hxc, hxb, hxr, r0, r1, r2, r3, p00, q00, p01, q01, p02, q02, p10, q10, p11, q11, p12, q12, p20, q20, p21, q21, p22, q22, hz', hlD, wn]
    refine Stop.mk fun p a4 s4 hl4 hu4 => ?_
    have hlE : 0 ≤ a4 ∧ a4 ≤ 900000000 := by omega
    have hs1 : (x.out.length + 1) * 40 ≤ 140737488355328 := by omega
    have hs2 : x.out.length + 1 ≤ 140737488355328 := by omega
    have hs3 : x.out.length ≤ 140737488355327 := by omega
    simp (config := {contextual := true, implicitDefEqProofs := false, maxSteps := 2000000}) [-Int.not_le, -Int.not_lt, argsF, __spec_l1Cur__printings14_l0, onCur, dlI, dlT, hcb_c, hbc_c, hbd_c, hat_c.esz, hat_c.len, hat_c.els, hxc, hxb, hxr, r0, r1, r2, r3, p00, q00, p01, q01, p02, q02, p10, q10, p11, q11, p12, q12, p20, q20, p21, q21, p22, q22, hz', hlE, wn, hs1, hs2, hs3]
    refine Stop.mk fun dd a5 s5 hdd hl5 hu5 => ?_
    have hlF : 0 ≤ a5 ∧ a5 ≤ 900000000 := by omega
    simp (config := {contextual := true, implicitDefEqProofs := false, maxSteps := 2000000}) [-Int.not_le, -Int.not_lt, argsF, __spec_l1Cur__printings14_l0, onCur, dlI, dlT, hcb_c, hbc_c, hbd_c, hat_c.esz, hat_c.len, hat_c.els, hxc, hxb, hxr, r0, r1, r2, r3, p00, q00, p01, q01, p02, q02, p10, q10, p11, q11, p12, q12, p20, q20, p21, q21, p22, q22, hz', hlF, wn]
    refine Stop.mk fun zz a6 s6 hl6 hu6 hzz => ?_
    simp (config := {contextual := true, implicitDefEqProofs := false, maxSteps := 2000000}) [-Int.not_le, -Int.not_lt, argsF, __spec_l1Cur__printings14_l0, onCur, dlI, dlT, hcb_c, hbc_c, hbd_c, hat_c.esz, hat_c.len, hat_c.els, hxc, hxb, hxr, r0, r1, r2, r3, p00, q00, p01, q01, p02, q02, p10, q10, p11, q11, p12, q12, p20, q20, p21, q21, p22, q22, hz', wn]
    generalize hid : IntKind.i64.wrap (IntKind.i64.wrap (IntKind.i64.wrap (x.id + 1) + (y : Int)) - IntKind.i64.wrap ((z : Int) / 149)) = id'
    generalize hday : IntKind.i64.wrap (IntKind.i64.wrap (IntKind.i64.wrap (x.day + 1) + dd) - IntKind.i64.wrap ((zz : Int) / 149)) = day'
    exact ⟨fun hw => ⟨⟨_, a6, s6, x.out ++ [p], x.H.n + 1, id', day', x.n - 1⟩, ⟨⟨(by simp only [push_n, set_n, kill_n]; omega), (by simp only [push_I, set_I, kill_I]; exact hok.hI), by simp [push_b, set_b, kill_b, onCur, dlI, dlT, hcb_c, hbc_c, hbd_c, hat_c.esz, hat_c.len, hat_c.els, hxc, hxb, hxr, r0, r1, r2, r3, p00, q00, p01, q01, p02, q02, p10, q10, p11, q11, p12, q12, p20, q20, p21, q21, p22, q22]; done, (fun j hj hjc => by have qj1 : (j = x.H.n) = False := eq_false (by omega); have qj2 : (j = x.H.n + 1) = False := eq_false (by omega); have qj4 : (j = x.H.n + 1 + 1) = False := eq_false (by omega); have qj3 : (j = x.ob) = False := eq_false (by omega); simp [push_b, set_b, kill_b, hjc, qj1, qj2, qj3, qj4, hok.old j hj hjc]; done), by simp [push_b, set_b, kill_b, onCur, dlI, dlT, hcb_c, hbc_c, hbd_c, hat_c.esz, hat_c.len, hat_c.els, hxc, hxb, hxr, r0, r1, r2, r3, p00, q00, p01, q01, p02, q02, p10, q10, p11, q11, p12, q12, p20, q20, p21, q21, p22, q22, rowK]; done, by simp only; omega, by simp only; omega, by simp only [List.length_append, List.length_cons, List.length_nil]; omega, by simp only [List.length_append, List.length_cons, List.length_nil]; omega⟩, by simp only [List.length_append, List.length_cons, List.length_nil]; omega⟩, by simp only; omega, .since (by simp only [push_n, set_n, kill_n]; omega) hw (.refl _) (by simp [frOk, AV.okR, AV.ok1, AC.okR, AV.ren, AV.ren1, AC.ren, AFrame.get, pl1_old, *]; first | done | omega)⟩⟩
  · have hz' : ¬ 0 < x.n := by omega
    have hlB : 0 ≤ x.a ∧ x.a ≤ 900000000 := by omega
    simp (config := {contextual := true, implicitDefEqProofs := false, maxSteps := 2000000}) [-Int.not_le, -Int.not_lt, argsF, __spec_l1Cur__printings14_l0, onCur, dlI, dlT, hcb_c, hbc_c, hbd_c, hat_c.esz, hat_c.len, hat_c.els, hxc, hxb, hxr, r0, r1, r2, r3, p00, q00, p01, q01, p02, q02, p10, q10, p11, q11, p12, q12, p20, q20, p21, q21, p22, q22, hz', hlB]
    refine Stop.mk fun o a2 s2 hl2 hu2 => ?_
    cases o with
    | false =>
      simp (config := {contextual := true, implicitDefEqProofs := false, maxSteps := 2000000}) [-Int.not_le, -Int.not_lt, argsF, __spec_l1Cur__printings14_l0, onCur, dlI, dlT, hcb_c, hbc_c, hbd_c, hat_c.esz, hat_c.len, hat_c.els, hxc, hxb, hxr, r0, r1, r2, r3, p00, q00, p01, q01, p02, q02, p10, q10, p11, q11, p12, q12, p20, q20, p21, q21, p22, q22]
      exact .one (H := H.set c_p _) (c := some x.ob) (cur_wf hwf hk_c _ _) (cur_sub hwf hk_c (by simp only [push_n, set_n, kill_n]; omega) (by simp only [push_I, set_I, kill_I]; exact hok.hI) (by simp [push_b, set_b, kill_b, onCur, dlI, dlT, hcb_c, hbc_c, hbd_c, hat_c.esz, hat_c.len, hat_c.els, hxc, hxb, hxr, r0, r1, r2, r3, p00, q00, p01, q01, p02, q02, p10, q10, p11, q11, p12, q12, p20, q20, p21, q21, p22, q22]; done) (fun j hj hjc => by have qj1 : (j = x.H.n) = False := eq_false (by omega); have qj2 : (j = x.H.n + 1) = False := eq_false (by omega); have qj4 : (j = x.H.n + 1 + 1) = False := eq_false (by omega); have qj3 : (j = x.ob) = False := eq_false (by omega); simp [push_b, set_b, kill_b, hjc, qj1, qj2, qj3, qj4, hok.old j hj hjc]; done)) ⟨by simp only [set_n]; omega, by simp [push_b, set_b, kill_b, onCur, dlI, dlT, hcb_c, hbc_c, hbd_c, hat_c.esz, hat_c.len, hat_c.els, hxc, hxb, hxr, r0, r1, r2, r3, p00, q00, p01, q01, p02, q02, p10, q10, p11, q11, p12, q12, p20, q20, p21, q21, p22, q22]; done⟩ (plain_map (fun _ => rfl) _) (by simp [frOk, AV.okR, AV.ok1, AC.okR, AV.ren, AV.ren1, AC.ren, AFrame.get, pl1_old, *]; first | done | omega) (Stop.out h x.out a2 s2 (by omega) (by omega) (by omega))
    | true =>
      simp (config := {contextual := true, implicitDefEqProofs := false, maxSteps := 2000000}) [-Int.not_le, -Int.not_lt, argsF, __spec_l1Cur__printings14_l0, onCur, dlI, dlT, hcb_c, hbc_c, hbd_c, hat_c.esz, hat_c.len, hat_c.els, hxc, hxb, hxr, r0, r1, r2, r3, p00, q00, p01, q01, p02, q02, p10, q10, p11, q11, p12, q12, p20, q20, p21, q21, p22, q22]
      refine aloop_gen (fun G => DL.Ok ⟨G, a2, s2, [], x.H.n, 0, 0, 0⟩ H c_p b_c i_c l_c.length a_c a2 14) ⟨(by simp only [push_n, set_n, kill_n]; omega), (by simp only [push_I, set_I, kill_I]; exact hok.hI), by simp [push_b, set_b, kill_b, onCur, dlI, dlT, hcb_c, hbc_c, hbd_c, hat_c.esz, hat_c.len, hat_c.els, hxc, hxb, hxr, r0, r1, r2, r3, p00, q00, p01, q01, p02, q02, p10, q10, p11, q11, p12, q12, p20, q20, p21, q21, p22, q22]; done, (fun j hj hjc => by have qj1 : (j = x.H.n) = False := eq_false (by omega); have qj2 : (j = x.H.n + 1) = False := eq_false (by omega); have qj4 : (j = x.H.n + 1 + 1) = False := eq_false (by omega); have qj3 : (j = x.ob) = False := eq_false (by omega); simp [push_b, set_b, kill_b, hjc, qj1, qj2, qj3, qj4, hok.old j hj hjc]; done), by simp [push_b, set_b, kill_b, onCur, dlI, dlT, hcb_c, hbc_c, hbd_c, hat_c.esz, hat_c.len, hat_c.els, hxc, hxb, hxr, r0, r1, r2, r3, p00, q00, p01, q01, p02, q02, p10, q10, p11, q11, p12, q12, p20, q20, p21, q21, p22, q22, rowK]; done, by simp only; omega, by simp only; omega, Int.le_refl _, Nat.zero_le _⟩ fun G hG => ?_
      have hup : a2 ≤ a_c + 4000 := by omega
      have hlo : a_c ≤ a2 := by omega
      clear hok hwx hxb hxc hxr hob hbq a0 a1' hln hbx hnx p00 q00 p01 q01 p02 q02 p10 q10 p11 q11 p12 q12 p20 q20 p21 q21 p22 q22 r0 r1 r2 r3 hnn hz hz' hlB hl2 hu2
      refine aloop_heap (X := DL) (fun x => [(0, .c (.ptr c_p 0 0)), (3, .c (.sl (x.ob) (0) (x.out.length))), (7, .c (.int .i64 ((x.n : Int))))]) (fun x => x.H) (fun x => x.Ok H c_p b_c i_c l_c.length a_c (a2 + 2 * (x.n : Int)) 14 ∧ x.n = x.out.length) (fun x => 20 - x.n) hE _ ⟨G, a2, s2, [], x.H.n, 0, 0, 0⟩ ⟨⟨hG.hn, hG.hI, hG.cur, hG.old, hG.row, hG.hob, hG.at0, by show a2 ≤ a2 + 2 * ((0 : Nat) : Int); omega, hG.len⟩, rfl⟩ (fun hw0 => by have q1 := (hw0 _ _ hG.row).1; have q3 : H.n ≤ G.n := hG.hn; simp only at q1; exact .since hG.hn hw0 (.refl _) (by simp [frOk, AV.okR, AV.ok1, AC.okR, AV.ren, AV.ren1, AC.ren, AFrame.get, pl1_old, *]; first | done | omega)) (fun x hxx hwx => ?_)
      obtain ⟨hok, hnn⟩ := hxx
      have hxb : x.H.b b_c = some k_c := by rw [hok.old b_c hb_c (Ne.symm hcb_c)]; exact hat_c.blk
      have hxc := hok.cur
      have hxr := hok.row
      have hob := hok.hob
      have hbq := (hwx _ _ hok.row).1
      have a0 := hok.at0
      have a1' := hok.at1
      have hln := hok.len
      have hbx : b_c < x.H.n := by omega
      have hnx := hok.hn
      have p00 : (c_p = x.H.n) = False := eq_false (by omega)
      have q00 : (x.H.n = c_p) = False := eq_false (by omega)
      have p01 : (c_p = x.H.n + 1) = False := eq_false (by omega)
      have q01 : (x.H.n + 1 = c_p) = False := eq_false (by omega)
      have p02 : (c_p = x.H.n + 1 + 1) = False := eq_false (by omega)
      have q02 : (x.H.n + 1 + 1 = c_p) = False := eq_false (by omega)
      have p10 : (b_c = x.H.n) = False := eq_false (by omega)
      have q10 : (x.H.n = b_c) = False := eq_false (by omega)
      have p11 : (b_c = x.H.n + 1) = False := eq_false (by omega)
      have q11 : (x.H.n + 1 = b_c) = False := eq_false (by omega)
      have p12 : (b_c = x.H.n + 1 + 1) = False := eq_false (by omega)
      have q12 : (x.H.n + 1 + 1 = b_c) = False := eq_false (by omega)
      have p20 : (x.ob = x.H.n) = False := eq_false (by omega)
      have q20 : (x.H.n = x.ob) = False := eq_false (by omega)
      have p21 : (x.ob = x.H.n + 1) = False := eq_false (by omega)
      have q21 : (x.H.n + 1 = x.ob) = False := eq_false (by omega)
      have p22 : (x.ob = x.H.n + 1 + 1) = False := eq_false (by omega)
      have q22 : (x.H.n + 1 + 1 = x.ob) = False := eq_false (by omega)
      have r0 : (x.ob = c_p) = False := eq_false (by omega)
      have r1 : (c_p = x.ob) = False := eq_false (by omega)
      have r2 : (x.ob = b_c) = False := eq_false (by omega)
      have r3 : (b_c = x.ob) = False := eq_false (by omega)
      have hlB : 0 ≤ x.a ∧ x.a ≤ 900000000 := by omega
      simp (config := {contextual := true, implicitDefEqProofs := false, maxSteps := 2000000}) [-Int.not_le, -Int.not_lt, argsF, __spec_l1Cur__printings14_l1, onCur, dlI, dlT, hcb_c, hbc_c, hbd_c, hat_c.esz, hat_c.len, hat_c.els, hxc, hxb, hxr, r0, r1, r2, r3, p00, q00, p01, q01, p02, q02, p10, q10, p11, q11, p12, q12, p20, q20, p21, q21, p22, q22, hlB]
      refine Stop.mk fun z a3 s3 hl3 hu3 hz3 => ?_
      have hz4 := hz3 (by omega)
      have wz : IntKind.i64.wrap (12 + (z : Int)) = 12 + (z : Int) := wrap_id (by omega) (by omega)
      have wn : IntKind.i64.wrap ((x.n : Int) + 1) = (x.n : Int) + 1 := wrap_id (by omega) (by omega)
      by_cases hc : (x.n : Int) < 12 + (z : Int)
      · simp (config := {contextual := true, implicitDefEqProofs := false, maxSteps := 2000000}) [-Int.not_le, -Int.not_lt, argsF, __spec_l1Cur__printings14_l1, onCur, dlI, dlT, hcb_c, hbc_c, hbd_c, hat_c.esz, hat_c.len, hat_c.els, hxc, hxb, hxr, r0, r1, r2, r3, p00, q00, p01, q01, p02, q02, p10, q10, p11, q11, p12, q12, p20, q20, p21, q21, p22, q22, wz, wn, hc]
        refine ⟨by omega, by omega, ⟨fun hw => ⟨⟨_, a3, s3, x.out ++ [⟨(x.n : Int) + 1, IntKind.i64.wrap (10 * (x.n : Int)), IntKind.i64.wrap (5 + (x.n : Int).tmod 3), IntKind.i64.wrap (4 * (x.n : Int)), 2⟩], x.H.n + 1, 0, 0, x.n + 1⟩, ⟨⟨(by simp only [push_n, set_n, kill_n]; omega), (by simp only [push_I, set_I, kill_I]; exact hok.hI), by simp [push_b, set_b, kill_b, onCur, dlI, dlT, hcb_c, hbc_c, hbd_c, hat_c.esz, hat_c.len, hat_c.els, hxc, hxb, hxr, r0, r1, r2, r3, p00, q00, p01, q01, p02, q02, p10, q10, p11, q11, p12, q12, p20, q20, p21, q21, p22, q22]; done, (fun j hj hjc => by have qj1 : (j = x.H.n) = False := eq_false (by omega); have qj2 : (j = x.H.n + 1) = False := eq_false (by omega); have qj4 : (j = x.H.n + 1 + 1) = False := eq_false (by omega); have qj3 : (j = x.ob) = False := eq_false (by omega); simp [push_b, set_b, kill_b, hjc, qj1, qj2, qj3, qj4, hok.old j hj hjc]; done), by simp [push_b, set_b, kill_b, onCur, dlI, dlT, hcb_c, hbc_c, hbd_c, hat_c.esz, hat_c.len, hat_c.els, hxc, hxb, hxr, r0, r1, r2, r3, p00, q00, p01, q01, p02, q02, p10, q10, p11, q11, p12, q12, p20, q20, p21, q21, p22, q22, rowK]; done, by simp only; omega, by simp only; omega, by simp only; omega, by simp only [List.length_append, List.length_cons, List.length_nil]; omega⟩, by simp only [List.length_append, List.length_cons, List.length_nil]; omega⟩, by simp only; omega, .since (by simp only [push_n, set_n, kill_n]; omega) hw (.refl _) (by simp [frOk, AV.okR, AV.ok1, AC.okR, AV.ren, AV.ren1, AC.ren, AFrame.get, pl1_old, *]; first | done | omega)⟩⟩⟩
      · simp (config := {contextual := true, implicitDefEqProofs := false, maxSteps := 2000000}) [-Int.not_le, -Int.not_lt, argsF, __spec_l1Cur__printings14_l1, onCur, dlI, dlT, hcb_c, hbc_c, hbd_c, hat_c.esz, hat_c.len, hat_c.els, hxc, hxb, hxr, r0, r1, r2, r3, p00, q00, p01, q01, p02, q02, p10, q10, p11, q11, p12, q12, p20, q20, p21, q21, p22, q22, wz, wn, hc]
        exact .one (H := H.set c_p _) (c := some x.ob) (cur_wf hwf hk_c _ _) (cur_sub hwf hk_c (by simp only [push_n, set_n, kill_n]; omega) (by simp only [push_I, set_I, kill_I]; exact hok.hI) (by simp [push_b, set_b, kill_b, onCur, dlI, dlT, hcb_c, hbc_c, hbd_c, hat_c.esz, hat_c.len, hat_c.els, hxc, hxb, hxr, r0, r1, r2, r3, p00, q00, p01, q01, p02, q02, p10, q10, p11, q11, p12, q12, p20, q20, p21, q21, p22, q22]; done) (fun j hj hjc => by have qj1 : (j = x.H.n) = False := eq_false (by omega); have qj2 : (j = x.H.n + 1) = False := eq_false (by omega); have qj4 : (j = x.H.n + 1 + 1) = False := eq_false (by omega); have qj3 : (j = x.ob) = False := eq_false (by omega); simp [push_b, set_b, kill_b, hjc, qj1, qj2, qj3, qj4, hok.old j hj hjc]; done)) ⟨by simp only [set_n]; omega, by simp [push_b, set_b, kill_b, onCur, dlI, dlT, hcb_c, hbc_c, hbd_c, hat_c.esz, hat_c.len, hat_c.els, hxc, hxb, hxr, r0, r1, r2, r3, p00, q00, p01, q01, p02, q02, p10, q10, p11, q11, p12, q12, p20, q20, p21, q21, p22, q22]; done⟩ (plain_map (fun _ => rfl) _) (by simp [frOk, AV.okR, AV.ok1, AC.okR, AV.ren, AV.ren1, AC.ren, AFrame.get, pl1_old, *]; first | done | omega) (Stop.out h x.out a3 s3 (by omega) (by omega) (by omega))

end Go.Proofs.YtegmlgikdniohaaDoor
