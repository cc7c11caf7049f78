/- The draws of the covers: one, an explained one. -/
import Derived.Test.YtjiffkjeijfilaaCvDr
import Derived.Test.YtjiffkjeijfilaaCoU
set_option maxRecDepth 8000
set_option linter.unusedSimpArgs false
set_option linter.unusedVariables false
namespace Go.Proofs.Ytjiffkjeijfilaa
open Go Go.RowKit

set_option maxHeartbeats 2000000

def q_cover : Con := fun args H K => match args with
  | [.c (.ptr c_p 0 0), .c (.int .i64 id)] => onCur H c_p 700000000 fun b_c i_c n_c a_c s_c => Stop (∀ (x : Cv) (a' s' : Int), a_c ≤ a' → a' ≤ a_c + 40 → K (.agg (eCv.cells x)) (H.set c_p (curK b_c i_c n_c a' s'))) ()
  | _ => False
@[simp ↓] theorem q_cover_eq (c_p : Nat) (id : Int) (H : AHeap) (K : AV → AHeap → Prop) : q_cover [.c (.ptr c_p 0 0), .c (.int .i64 id)] H K = (onCur H c_p 700000000 fun b_c i_c n_c a_c s_c => Stop (∀ (x : Cv) (a' s' : Int), a_c ≤ a' → a' ≤ a_c + 40 → K (.agg (eCv.cells x)) (H.set c_p (curK b_c i_c n_c a' s'))) ()) := rfl

/-- a record within a draw: its box, the box of what is returned -/
structure DC where
  H : AHeap
  a : Int
  s : Int
  v : Cv
  bx : Nat
structure DC.Ok (x : DC) (H : AHeap) (c b i n : Nat) (a up : Int) : Prop where
  hn : H.n + 1 ≤ x.H.n
  hI : x.H.I = H.I
  cur : x.H.b c = some (curK b i n x.a x.s)
  old : ∀ j k, j ≠ c → H.b j = some k → x.H.b j = some k
  b4 : x.H.b H.n = some ⟨27, 9, false, false, [[.int .i64 0, .int .i64 0, .int .i64 0, .int .i64 0, .int .i64 0, .int .i64 0, .int .i64 0, .int .i64 0, .int .i64 0]]⟩
  b6 : x.H.b x.bx = some ⟨27, 9, false, false, [eCv.cells x.v]⟩
  lo : H.n < x.bx
  hi : x.bx < x.H.n
  at0 : a ≤ x.a
  at1 : x.a ≤ up

theorem spec_l1Cur__cover_s : Sound Try.prog 69 q_cover := by
  intro args H K h
  unfold q_cover at h
  split at h
  rotate_left
  all_goals first | exact False.elim h | skip
  rename_i c_p id
  have h1 := onCur_iff.1 h
  clear h
  obtain ⟨b_c, i_c, n_c, a_c, s_c, k_c, l_c, hk_c, hcb_c, h0_c, hlim_c, hat_c, rfl, h⟩ := h1
  have hE := soundE_cons spec_l1Cur__among_s (soundE_cons spec_l1Cur__pick_s (soundE_cons spec_l1Cur__one_s (soundE_nil (P := Try.prog))))
  refine acalls_fn __spec_l1Cur__cover_k hE ⟨by simp, fun hwf => ?_⟩
  have hb_c : b_c < H.n := (hwf b_c k_c hat_c.blk).1
  have hp_c : c_p < H.n := (hwf c_p _ hk_c).1
  have hbc_c : (b_c = c_p) = False := eq_false (Ne.symm hcb_c)
  have hbd_c : (c_p = b_c) = False := eq_false hcb_c
  have hne_c : (b_c = H.n) = False := eq_false (by omega)
  have hnp_c : (c_p = H.n) = False := eq_false (by omega)
  have hne1_c : ∀ i, (b_c = H.n + i) = False := fun i => eq_false (by omega)
  have hnp1_c : ∀ i, (c_p = H.n + i) = False := fun i => eq_false (by omega)
  have hne2_c : (b_c = H.n + 1 + 1) = False ∧ (b_c = H.n + 1 + 1 + 1) = False ∧ (b_c = H.n + 1 + 1 + 1 + 1) = False ∧ (b_c = H.n + 1 + 1 + 1 + 1 + 1) = False ∧ (b_c = H.n + 1 + 1 + 1 + 1 + 1 + 1) = False ∧ (b_c = H.n + 1 + 1 + 1 + 1 + 1 + 1 + 1) = False ∧ (b_c = H.n + 1 + 1 + 1 + 1 + 1 + 1 + 1 + 1) = False ∧ (b_c = H.n + 1 + 1 + 1 + 1 + 1 + 1 + 1 + 1 + 1) = False ∧ (b_c = H.n + 1 + 1 + 1 + 1 + 1 + 1 + 1 + 1 + 1 + 1) = False ∧ (b_c = H.n + 1 + 1 + 1 + 1 + 1 + 1 + 1 + 1 + 1 + 1 + 1) = False ∧ (b_c = H.n + 1 + 1 + 1 + 1 + 1 + 1 + 1 + 1 + 1 + 1 + 1 + 1) = False := ⟨eq_false (by omega), eq_false (by omega), eq_false (by omega), eq_false (by omega), eq_false (by omega), eq_false (by omega), eq_false (by omega), eq_false (by omega), eq_false (by omega), eq_false (by omega), eq_false (by omega)⟩
  have hne2_cp : (c_p = H.n + 1 + 1) = False ∧ (c_p = H.n + 1 + 1 + 1) = False ∧ (c_p = H.n + 1 + 1 + 1 + 1) = False ∧ (c_p = H.n + 1 + 1 + 1 + 1 + 1) = False ∧ (c_p = H.n + 1 + 1 + 1 + 1 + 1 + 1) = False ∧ (c_p = H.n + 1 + 1 + 1 + 1 + 1 + 1 + 1) = False ∧ (c_p = H.n + 1 + 1 + 1 + 1 + 1 + 1 + 1 + 1) = False ∧ (c_p = H.n + 1 + 1 + 1 + 1 + 1 + 1 + 1 + 1 + 1) = False ∧ (c_p = H.n + 1 + 1 + 1 + 1 + 1 + 1 + 1 + 1 + 1 + 1) = False ∧ (c_p = H.n + 1 + 1 + 1 + 1 + 1 + 1 + 1 + 1 + 1 + 1 + 1) = False ∧ (c_p = H.n + 1 + 1 + 1 + 1 + 1 + 1 + 1 + 1 + 1 + 1 + 1 + 1) = False := ⟨eq_false (by omega), eq_false (by omega), eq_false (by omega), eq_false (by omega), eq_false (by omega), eq_false (by omega), eq_false (by omega), eq_false (by omega), eq_false (by omega), eq_false (by omega), eq_false (by omega)⟩
  have hnq_c : (H.n = c_p) = False := eq_false (by omega)
  have hnq1_c : ∀ i, (H.n + i = c_p) = False := fun i => eq_false (by omega)
  have hnb_c : (H.n = b_c) = False := eq_false (by omega)
  have hnb1_c : ∀ i, (H.n + i = b_c) = False := fun i => eq_false (by omega)
  have hnr2_cp : (H.n + 1 + 1 = c_p) = False ∧ (H.n + 1 + 1 + 1 = c_p) = False ∧ (H.n + 1 + 1 + 1 + 1 = c_p) = False ∧ (H.n + 1 + 1 + 1 + 1 + 1 = c_p) = False ∧ (H.n + 1 + 1 + 1 + 1 + 1 + 1 = c_p) = False ∧ (H.n + 1 + 1 + 1 + 1 + 1 + 1 + 1 = c_p) = False ∧ (H.n + 1 + 1 + 1 + 1 + 1 + 1 + 1 + 1 = c_p) = False ∧ (H.n + 1 + 1 + 1 + 1 + 1 + 1 + 1 + 1 + 1 = c_p) = False ∧ (H.n + 1 + 1 + 1 + 1 + 1 + 1 + 1 + 1 + 1 + 1 = c_p) = False ∧ (H.n + 1 + 1 + 1 + 1 + 1 + 1 + 1 + 1 + 1 + 1 + 1 = c_p) = False ∧ (H.n + 1 + 1 + 1 + 1 + 1 + 1 + 1 + 1 + 1 + 1 + 1 + 1 = c_p) = False := ⟨eq_false (by omega), eq_false (by omega), eq_false (by omega), eq_false (by omega), eq_false (by omega), eq_false (by omega), eq_false (by omega), eq_false (by omega), eq_false (by omega), eq_false (by omega), eq_false (by omega)⟩
  have hnr2_c : (H.n + 1 + 1 = b_c) = False ∧ (H.n + 1 + 1 + 1 = b_c) = False ∧ (H.n + 1 + 1 + 1 + 1 = b_c) = False ∧ (H.n + 1 + 1 + 1 + 1 + 1 = b_c) = False ∧ (H.n + 1 + 1 + 1 + 1 + 1 + 1 = b_c) = False ∧ (H.n + 1 + 1 + 1 + 1 + 1 + 1 + 1 = b_c) = False ∧ (H.n + 1 + 1 + 1 + 1 + 1 + 1 + 1 + 1 = b_c) = False ∧ (H.n + 1 + 1 + 1 + 1 + 1 + 1 + 1 + 1 + 1 = b_c) = False ∧ (H.n + 1 + 1 + 1 + 1 + 1 + 1 + 1 + 1 + 1 + 1 = b_c) = False ∧ (H.n + 1 + 1 + 1 + 1 + 1 + 1 + 1 + 1 + 1 + 1 + 1 = b_c) = False ∧ (H.n + 1 + 1 + 1 + 1 + 1 + 1 + 1 + 1 + 1 + 1 + 1 + 1 = b_c) = False := ⟨eq_false (by omega), eq_false (by omega), eq_false (by omega), eq_false (by omega), eq_false (by omega), eq_false (by omega), eq_false (by omega), eq_false (by omega), eq_false (by omega), eq_false (by omega), eq_false (by omega)⟩
  have hmx_c : l_c.length ≤ 9223372036854775807 := by have h1 := (hwf b_c k_c hat_c.blk).2.2; have h2 := hat_c.len; omega
  have key3 : ∀ (x : DC) (F : AFrame), x.Ok H c_p b_c i_c l_c.length a_c (a_c + 30) → F.keep [0, 4, 6] = [(0, .c (.ptr c_p 0 0)), (4, .c (.ptr H.n 0 0)), (6, .c (.ptr x.bx 0 0))] → avc Try.prog [(88, q_among), (89, q_cpick), (120, q_one)] 63 H.n __spec_l1Cur__cover_r3 F x.H (endK Try.prog H.n [.cell 4 27] K) := by
    intro x F hok hF
    refine (show avc _ _ _ _ _ _ _ _ = _ from avc_cut _ _).mpr ?_
    rw [hF]
    have hxb_x : x.H.b b_c = some k_c := hok.old b_c k_c (Ne.symm hcb_c) hat_c.blk
    have hxc_x := hok.cur
    have h4_x := hok.b4
    have h6_x := hok.b6
    have lo_x := hok.lo
    have hi_x := hok.hi
    have a0_x := hok.at0
    have a1_x := hok.at1
    have hnx_x := hok.hn
    have hlA_x : 0 ≤ x.a ∧ x.a ≤ 900000000 := by omega
    have r0_x : (c_p = x.bx) = False := eq_false (by omega)
    have w0_x : (x.bx = c_p) = False := eq_false (by omega)
    have r1_x : (b_c = x.bx) = False := eq_false (by omega)
    have w1_x : (x.bx = b_c) = False := eq_false (by omega)
    have r2_x : (H.n = x.bx) = False := eq_false (by omega)
    have w2_x : (x.bx = H.n) = False := eq_false (by omega)
    have px00 : (c_p = x.H.n) = False := eq_false (by omega)
    have qx00 : (x.H.n = c_p) = False := eq_false (by omega)
    have px01 : (c_p = x.H.n + 1) = False := eq_false (by omega)
    have qx01 : (x.H.n + 1 = c_p) = False := eq_false (by omega)
    have px02 : (c_p = x.H.n + 1 + 1) = False := eq_false (by omega)
    have qx02 : (x.H.n + 1 + 1 = c_p) = False := eq_false (by omega)
    have px03 : (c_p = x.H.n + 1 + 1 + 1) = False := eq_false (by omega)
    have qx03 : (x.H.n + 1 + 1 + 1 = c_p) = False := eq_false (by omega)
    have px04 : (c_p = x.H.n + 1 + 1 + 1 + 1) = False := eq_false (by omega)
    have qx04 : (x.H.n + 1 + 1 + 1 + 1 = c_p) = False := eq_false (by omega)
    have px05 : (c_p = x.H.n + 1 + 1 + 1 + 1 + 1) = False := eq_false (by omega)
    have qx05 : (x.H.n + 1 + 1 + 1 + 1 + 1 = c_p) = False := eq_false (by omega)
    have px10 : (b_c = x.H.n) = False := eq_false (by omega)
    have qx10 : (x.H.n = b_c) = False := eq_false (by omega)
    have px11 : (b_c = x.H.n + 1) = False := eq_false (by omega)
    have qx11 : (x.H.n + 1 = b_c) = False := eq_false (by omega)
    have px12 : (b_c = x.H.n + 1 + 1) = False := eq_false (by omega)
    have qx12 : (x.H.n + 1 + 1 = b_c) = False := eq_false (by omega)
    have px13 : (b_c = x.H.n + 1 + 1 + 1) = False := eq_false (by omega)
    have qx13 : (x.H.n + 1 + 1 + 1 = b_c) = False := eq_false (by omega)
    have px14 : (b_c = x.H.n + 1 + 1 + 1 + 1) = False := eq_false (by omega)
    have qx14 : (x.H.n + 1 + 1 + 1 + 1 = b_c) = False := eq_false (by omega)
    have px15 : (b_c = x.H.n + 1 + 1 + 1 + 1 + 1) = False := eq_false (by omega)
    have qx15 : (x.H.n + 1 + 1 + 1 + 1 + 1 = b_c) = False := eq_false (by omega)
    have px20 : (x.bx = x.H.n) = False := eq_false (by omega)
    have qx20 : (x.H.n = x.bx) = False := eq_false (by omega)
    have px21 : (x.bx = x.H.n + 1) = False := eq_false (by omega)
    have qx21 : (x.H.n + 1 = x.bx) = False := eq_false (by omega)
    have px22 : (x.bx = x.H.n + 1 + 1) = False := eq_false (by omega)
    have qx22 : (x.H.n + 1 + 1 = x.bx) = False := eq_false (by omega)
    have px23 : (x.bx = x.H.n + 1 + 1 + 1) = False := eq_false (by omega)
    have qx23 : (x.H.n + 1 + 1 + 1 = x.bx) = False := eq_false (by omega)
    have px24 : (x.bx = x.H.n + 1 + 1 + 1 + 1) = False := eq_false (by omega)
    have qx24 : (x.H.n + 1 + 1 + 1 + 1 = x.bx) = False := eq_false (by omega)
    have px25 : (x.bx = x.H.n + 1 + 1 + 1 + 1 + 1) = False := eq_false (by omega)
    have qx25 : (x.H.n + 1 + 1 + 1 + 1 + 1 = x.bx) = False := eq_false (by omega)
    have px30 : (H.n = x.H.n) = False := eq_false (by omega)
    have qx30 : (x.H.n = H.n) = False := eq_false (by omega)
    have px31 : (H.n = x.H.n + 1) = False := eq_false (by omega)
    have qx31 : (x.H.n + 1 = H.n) = False := eq_false (by omega)
    have px32 : (H.n = x.H.n + 1 + 1) = False := eq_false (by omega)
    have qx32 : (x.H.n + 1 + 1 = H.n) = False := eq_false (by omega)
    have px33 : (H.n = x.H.n + 1 + 1 + 1) = False := eq_false (by omega)
    have qx33 : (x.H.n + 1 + 1 + 1 = H.n) = False := eq_false (by omega)
    have px34 : (H.n = x.H.n + 1 + 1 + 1 + 1) = False := eq_false (by omega)
    have qx34 : (x.H.n + 1 + 1 + 1 + 1 = H.n) = False := eq_false (by omega)
    have px35 : (H.n = x.H.n + 1 + 1 + 1 + 1 + 1) = False := eq_false (by omega)
    have qx35 : (x.H.n + 1 + 1 + 1 + 1 + 1 = H.n) = False := eq_false (by omega)
    simp (config := {contextual := true, implicitDefEqProofs := false, maxSteps := 2000000}) [-Int.not_le, -Int.not_lt, argsF, onCur, dlI, dlT, curOf_lit, hcb_c, hbc_c, hbd_c, hat_c.esz, hat_c.len, hat_c.els, hnp_c, hnq_c, hne_c, hnb_c, hxc_x, hxb_x, h4_x, h6_x, r0_x, w0_x, r1_x, w1_x, r2_x, w2_x, hlA_x, px00, qx00, px01, qx01, px02, qx02, px03, qx03, px04, qx04, px05, qx05, px10, qx10, px11, qx11, px12, qx12, px13, qx13, px14, qx14, px15, qx15, px20, qx20, px21, qx21, px22, qx22, px23, qx23, px24, qx24, px25, qx25, px30, qx30, px31, qx31, px32, qx32, px33, qx33, px34, qx34, px35, qx35]
    refine Stop.mk fun n1 a1 s1 hl1 hu1 hn1 => ?_
    have hl1A : 0 ≤ a1 ∧ a1 ≤ 900000000 := by omega
    rcases (show n1 = 0 ∨ n1 = 1 ∨ 2 ≤ n1 by omega) with rfl | rfl | hn2
    · simp (config := {contextual := true, implicitDefEqProofs := false, maxSteps := 2000000}) [-Int.not_le, -Int.not_lt, argsF, __spec_l1Cur__cover_r1, onCur, dlI, dlT, curOf_lit, hcb_c, hbc_c, hbd_c, hat_c.esz, hat_c.len, hat_c.els, hnp_c, hnq_c, hne_c, hnb_c, hxc_x, hxb_x, h4_x, h6_x, r0_x, w0_x, r1_x, w1_x, r2_x, w2_x, hlA_x, px00, qx00, px01, qx01, px02, qx02, px03, qx03, px04, qx04, px05, qx05, px10, qx10, px11, qx11, px12, qx12, px13, qx13, px14, qx14, px15, qx15, px20, qx20, px21, qx21, px22, qx22, px23, qx23, px24, qx24, px25, qx25, px30, qx30, px31, qx31, px32, qx32, px33, qx33, px34, qx34, px35, qx35, hl1A]
      refine Stop.mk fun y a2 s2 hy hl2 hu2 => ?_
      simp (config := {contextual := true, implicitDefEqProofs := false, maxSteps := 2000000}) [-Int.not_le, -Int.not_lt, argsF, __spec_l1Cur__cover_r2, onCur, dlI, dlT, curOf_lit, hcb_c, hbc_c, hbd_c, hat_c.esz, hat_c.len, hat_c.els, hnp_c, hnq_c, hne_c, hnb_c, hxc_x, hxb_x, h4_x, h6_x, r0_x, w0_x, r1_x, w1_x, r2_x, w2_x, hlA_x, px00, qx00, px01, qx01, px02, qx02, px03, qx03, px04, qx04, px05, qx05, px10, qx10, px11, qx11, px12, qx12, px13, qx13, px14, qx14, px15, qx15, px20, qx20, px21, qx21, px22, qx22, px23, qx23, px24, qx24, px25, qx25, px30, qx30, px31, qx31, px32, qx32, px33, qx33, px34, qx34, px35, qx35]
      exact .old (H := H.set c_p (curK b_c i_c l_c.length a2 s2)) (cur_wf hwf hk_c _ _) (cur_sub2 hk_c (by simp only [push_n, set_n, kill_n]; omega) (by simp only [push_I, set_I, kill_I]; exact hok.hI) (by simp [push_b, set_b, kill_b, onCur, dlI, dlT, curOf_lit, hcb_c, hbc_c, hbd_c, hat_c.esz, hat_c.len, hat_c.els, hnp_c, hnq_c, hne_c, hnb_c, hxc_x, hxb_x, h4_x, h6_x, r0_x, w0_x, r1_x, w1_x, r2_x, w2_x, hlA_x, px00, qx00, px01, qx01, px02, qx02, px03, qx03, px04, qx04, px05, qx05, px10, qx10, px11, qx11, px12, qx12, px13, qx13, px14, qx14, px15, qx15, px20, qx20, px21, qx21, px22, qx22, px23, qx23, px24, qx24, px25, qx25, px30, qx30, px31, qx31, px32, qx32, px33, qx33, px34, qx34, px35, qx35]; done) (fun j k hjc hj => by have hjn := (hwf j k hj).1; have qj0 : (j = x.H.n) = False := eq_false (by omega); have qj1 : (j = x.H.n + 1) = False := eq_false (by omega); have qj2 : (j = x.H.n + 1 + 1) = False := eq_false (by omega); have qj3 : (j = x.H.n + 1 + 1 + 1) = False := eq_false (by omega); have qj4 : (j = x.H.n + 1 + 1 + 1 + 1) = False := eq_false (by omega); have qj5 : (j = x.H.n + 1 + 1 + 1 + 1 + 1) = False := eq_false (by omega); have qj6 : (j = x.H.n + 1 + 1 + 1 + 1 + 1 + 1) = False := eq_false (by omega); have qj7 : (j = x.H.n + 1 + 1 + 1 + 1 + 1 + 1 + 1) = False := eq_false (by omega); have qjo : (j = x.bx) = False := eq_false (by omega); have qjn : (j = H.n) = False := eq_false (by omega); simp [push_b, set_b, kill_b, hjc, qj0, qj1, qj2, qj3, qj4, qj5, qj6, qj7, qjo, qjn, hok.old j k hjc hj]; done)) (by simp [frOk, AV.okR, AV.ok1, AC.okR, AV.ren, AV.ren1, AC.ren, AFrame.get, pl1_old, *]; first | done | rfl | omega) (Stop.out h ⟨x.v.id, x.v.day, x.v.zone, x.v.grams, y, x.v.frm, x.v.to, x.v.leave, x.v.arrive⟩ a2 s2 (by omega) (by omega))
    · simp (config := {contextual := true, implicitDefEqProofs := false, maxSteps := 2000000}) [-Int.not_le, -Int.not_lt, argsF, __spec_l1Cur__cover_r1, onCur, dlI, dlT, curOf_lit, hcb_c, hbc_c, hbd_c, hat_c.esz, hat_c.len, hat_c.els, hnp_c, hnq_c, hne_c, hnb_c, hxc_x, hxb_x, h4_x, h6_x, r0_x, w0_x, r1_x, w1_x, r2_x, w2_x, hlA_x, px00, qx00, px01, qx01, px02, qx02, px03, qx03, px04, qx04, px05, qx05, px10, qx10, px11, qx11, px12, qx12, px13, qx13, px14, qx14, px15, qx15, px20, qx20, px21, qx21, px22, qx22, px23, qx23, px24, qx24, px25, qx25, px30, qx30, px31, qx31, px32, qx32, px33, qx33, px34, qx34, px35, qx35, hl1A]
      refine Stop.mk fun y a2 s2 hy hl2 hu2 => ?_
      simp (config := {contextual := true, implicitDefEqProofs := false, maxSteps := 2000000}) [-Int.not_le, -Int.not_lt, argsF, __spec_l1Cur__cover_r2, onCur, dlI, dlT, curOf_lit, hcb_c, hbc_c, hbd_c, hat_c.esz, hat_c.len, hat_c.els, hnp_c, hnq_c, hne_c, hnb_c, hxc_x, hxb_x, h4_x, h6_x, r0_x, w0_x, r1_x, w1_x, r2_x, w2_x, hlA_x, px00, qx00, px01, qx01, px02, qx02, px03, qx03, px04, qx04, px05, qx05, px10, qx10, px11, qx11, px12, qx12, px13, qx13, px14, qx14, px15, qx15, px20, qx20, px21, qx21, px22, qx22, px23, qx23, px24, qx24, px25, qx25, px30, qx30, px31, qx31, px32, qx32, px33, qx33, px34, qx34, px35, qx35]
      exact .old (H := H.set c_p (curK b_c i_c l_c.length a2 s2)) (cur_wf hwf hk_c _ _) (cur_sub2 hk_c (by simp only [push_n, set_n, kill_n]; omega) (by simp only [push_I, set_I, kill_I]; exact hok.hI) (by simp [push_b, set_b, kill_b, onCur, dlI, dlT, curOf_lit, hcb_c, hbc_c, hbd_c, hat_c.esz, hat_c.len, hat_c.els, hnp_c, hnq_c, hne_c, hnb_c, hxc_x, hxb_x, h4_x, h6_x, r0_x, w0_x, r1_x, w1_x, r2_x, w2_x, hlA_x, px00, qx00, px01, qx01, px02, qx02, px03, qx03, px04, qx04, px05, qx05, px10, qx10, px11, qx11, px12, qx12, px13, qx13, px14, qx14, px15, qx15, px20, qx20, px21, qx21, px22, qx22, px23, qx23, px24, qx24, px25, qx25, px30, qx30, px31, qx31, px32, qx32, px33, qx33, px34, qx34, px35, qx35]; done) (fun j k hjc hj => by have hjn := (hwf j k hj).1; have qj0 : (j = x.H.n) = False := eq_false (by omega); have qj1 : (j = x.H.n + 1) = False := eq_false (by omega); have qj2 : (j = x.H.n + 1 + 1) = False := eq_false (by omega); have qj3 : (j = x.H.n + 1 + 1 + 1) = False := eq_false (by omega); have qj4 : (j = x.H.n + 1 + 1 + 1 + 1) = False := eq_false (by omega); have qj5 : (j = x.H.n + 1 + 1 + 1 + 1 + 1) = False := eq_false (by omega); have qj6 : (j = x.H.n + 1 + 1 + 1 + 1 + 1 + 1) = False := eq_false (by omega); have qj7 : (j = x.H.n + 1 + 1 + 1 + 1 + 1 + 1 + 1) = False := eq_false (by omega); have qjo : (j = x.bx) = False := eq_false (by omega); have qjn : (j = H.n) = False := eq_false (by omega); simp [push_b, set_b, kill_b, hjc, qj0, qj1, qj2, qj3, qj4, qj5, qj6, qj7, qjo, qjn, hok.old j k hjc hj]; done)) (by simp [frOk, AV.okR, AV.ok1, AC.okR, AV.ren, AV.ren1, AC.ren, AFrame.get, pl1_old, *]; first | done | rfl | omega) (Stop.out h ⟨x.v.id, x.v.day, x.v.zone, x.v.grams, x.v.paid, x.v.frm, x.v.to, x.v.leave, y⟩ a2 s2 (by omega) (by omega))
    · have k0 : ((n1 : Int) = 0) = False := eq_false (by omega)
      have k1 : ((n1 : Int) = 1) = False := eq_false (by omega)
      have k2 : (n1 = 0) = False := eq_false (by omega)
      have k3 : (n1 = 1) = False := eq_false (by omega)
      simp (config := {contextual := true, implicitDefEqProofs := false, maxSteps := 2000000}) [-Int.not_le, -Int.not_lt, argsF, __spec_l1Cur__cover_r1, __spec_l1Cur__cover_r2, onCur, dlI, dlT, curOf_lit, hcb_c, hbc_c, hbd_c, hat_c.esz, hat_c.len, hat_c.els, hnp_c, hnq_c, hne_c, hnb_c, hxc_x, hxb_x, h4_x, h6_x, r0_x, w0_x, r1_x, w1_x, r2_x, w2_x, hlA_x, px00, qx00, px01, qx01, px02, qx02, px03, qx03, px04, qx04, px05, qx05, px10, qx10, px11, qx11, px12, qx12, px13, qx13, px14, qx14, px15, qx15, px20, qx20, px21, qx21, px22, qx22, px23, qx23, px24, qx24, px25, qx25, px30, qx30, px31, qx31, px32, qx32, px33, qx33, px34, qx34, px35, qx35, k0, k1, k2, k3]
      exact .old (H := H.set c_p (curK b_c i_c l_c.length a1 s1)) (cur_wf hwf hk_c _ _) (cur_sub2 hk_c (by simp only [push_n, set_n, kill_n]; omega) (by simp only [push_I, set_I, kill_I]; exact hok.hI) (by simp [push_b, set_b, kill_b, onCur, dlI, dlT, curOf_lit, hcb_c, hbc_c, hbd_c, hat_c.esz, hat_c.len, hat_c.els, hnp_c, hnq_c, hne_c, hnb_c, hxc_x, hxb_x, h4_x, h6_x, r0_x, w0_x, r1_x, w1_x, r2_x, w2_x, hlA_x, px00, qx00, px01, qx01, px02, qx02, px03, qx03, px04, qx04, px05, qx05, px10, qx10, px11, qx11, px12, qx12, px13, qx13, px14, qx14, px15, qx15, px20, qx20, px21, qx21, px22, qx22, px23, qx23, px24, qx24, px25, qx25, px30, qx30, px31, qx31, px32, qx32, px33, qx33, px34, qx34, px35, qx35]; done) (fun j k hjc hj => by have hjn := (hwf j k hj).1; have qj0 : (j = x.H.n) = False := eq_false (by omega); have qj1 : (j = x.H.n + 1) = False := eq_false (by omega); have qj2 : (j = x.H.n + 1 + 1) = False := eq_false (by omega); have qj3 : (j = x.H.n + 1 + 1 + 1) = False := eq_false (by omega); have qj4 : (j = x.H.n + 1 + 1 + 1 + 1) = False := eq_false (by omega); have qj5 : (j = x.H.n + 1 + 1 + 1 + 1 + 1) = False := eq_false (by omega); have qj6 : (j = x.H.n + 1 + 1 + 1 + 1 + 1 + 1) = False := eq_false (by omega); have qj7 : (j = x.H.n + 1 + 1 + 1 + 1 + 1 + 1 + 1) = False := eq_false (by omega); have qjo : (j = x.bx) = False := eq_false (by omega); have qjn : (j = H.n) = False := eq_false (by omega); simp [push_b, set_b, kill_b, hjc, qj0, qj1, qj2, qj3, qj4, qj5, qj6, qj7, qjo, qjn, hok.old j k hjc hj]; done)) (by simp [frOk, AV.okR, AV.ok1, AC.okR, AV.ren, AV.ren1, AC.ren, AFrame.get, pl1_old, *]; first | done | rfl | omega) (Stop.out h x.v a1 s1 (by omega) (by omega))
  have hl0A : 0 ≤ a_c ∧ a_c ≤ 900000000 := by omega
  simp (config := {contextual := true, implicitDefEqProofs := false, maxSteps := 2000000}) [-Int.not_le, -Int.not_lt, argsF, __spec_l1Cur__cover_c, onCur, dlI, dlT, hk_c, hcb_c, hbc_c, hbd_c, h0_c, hlim_c, hat_c.blk, hat_c.esz, hat_c.len, hat_c.els, hne_c, hnp_c, hne1_c, hnp1_c, hnq_c, hnq1_c, hnb_c, hnb1_c, hne2_c.1, hne2_c.2.1, hne2_c.2.2.1, hne2_c.2.2.2.1, hne2_c.2.2.2.2.1, hne2_c.2.2.2.2.2.1, hne2_c.2.2.2.2.2.2.1, hne2_c.2.2.2.2.2.2.2.1, hne2_c.2.2.2.2.2.2.2.2.1, hne2_c.2.2.2.2.2.2.2.2.2.1, hne2_c.2.2.2.2.2.2.2.2.2.2, hne2_cp.1, hne2_cp.2.1, hne2_cp.2.2.1, hne2_cp.2.2.2.1, hne2_cp.2.2.2.2.1, hne2_cp.2.2.2.2.2.1, hne2_cp.2.2.2.2.2.2.1, hne2_cp.2.2.2.2.2.2.2.1, hne2_cp.2.2.2.2.2.2.2.2.1, hne2_cp.2.2.2.2.2.2.2.2.2.1, hne2_cp.2.2.2.2.2.2.2.2.2.2, hnr2_c.1, hnr2_c.2.1, hnr2_c.2.2.1, hnr2_c.2.2.2.1, hnr2_c.2.2.2.2.1, hnr2_c.2.2.2.2.2.1, hnr2_c.2.2.2.2.2.2.1, hnr2_c.2.2.2.2.2.2.2.1, hnr2_c.2.2.2.2.2.2.2.2.1, hnr2_c.2.2.2.2.2.2.2.2.2.1, hnr2_c.2.2.2.2.2.2.2.2.2.2, hnr2_cp.1, hnr2_cp.2.1, hnr2_cp.2.2.1, hnr2_cp.2.2.2.1, hnr2_cp.2.2.2.2.1, hnr2_cp.2.2.2.2.2.1, hnr2_cp.2.2.2.2.2.2.1, hnr2_cp.2.2.2.2.2.2.2.1, hnr2_cp.2.2.2.2.2.2.2.2.1, hnr2_cp.2.2.2.2.2.2.2.2.2.1, hnr2_cp.2.2.2.2.2.2.2.2.2.2, hl0A]
  refine Stop.mk fun lv a1 s1 h1 hl1 hu1 => ?_
  have hl1A : 0 ≤ a1 ∧ a1 ≤ 900000000 := by omega
  simp (config := {contextual := true, implicitDefEqProofs := false, maxSteps := 2000000}) [-Int.not_le, -Int.not_lt, argsF, __spec_l1Cur__cover_r5, onCur, dlI, dlT, hk_c, hcb_c, hbc_c, hbd_c, h0_c, hlim_c, hat_c.blk, hat_c.esz, hat_c.len, hat_c.els, hne_c, hnp_c, hne1_c, hnp1_c, hnq_c, hnq1_c, hnb_c, hnb1_c, hne2_c.1, hne2_c.2.1, hne2_c.2.2.1, hne2_c.2.2.2.1, hne2_c.2.2.2.2.1, hne2_c.2.2.2.2.2.1, hne2_c.2.2.2.2.2.2.1, hne2_c.2.2.2.2.2.2.2.1, hne2_c.2.2.2.2.2.2.2.2.1, hne2_c.2.2.2.2.2.2.2.2.2.1, hne2_c.2.2.2.2.2.2.2.2.2.2, hne2_cp.1, hne2_cp.2.1, hne2_cp.2.2.1, hne2_cp.2.2.2.1, hne2_cp.2.2.2.2.1, hne2_cp.2.2.2.2.2.1, hne2_cp.2.2.2.2.2.2.1, hne2_cp.2.2.2.2.2.2.2.1, hne2_cp.2.2.2.2.2.2.2.2.1, hne2_cp.2.2.2.2.2.2.2.2.2.1, hne2_cp.2.2.2.2.2.2.2.2.2.2, hnr2_c.1, hnr2_c.2.1, hnr2_c.2.2.1, hnr2_c.2.2.2.1, hnr2_c.2.2.2.2.1, hnr2_c.2.2.2.2.2.1, hnr2_c.2.2.2.2.2.2.1, hnr2_c.2.2.2.2.2.2.2.1, hnr2_c.2.2.2.2.2.2.2.2.1, hnr2_c.2.2.2.2.2.2.2.2.2.1, hnr2_c.2.2.2.2.2.2.2.2.2.2, hnr2_cp.1, hnr2_cp.2.1, hnr2_cp.2.2.1, hnr2_cp.2.2.2.1, hnr2_cp.2.2.2.2.1, hnr2_cp.2.2.2.2.2.1, hnr2_cp.2.2.2.2.2.2.1, hnr2_cp.2.2.2.2.2.2.2.1, hnr2_cp.2.2.2.2.2.2.2.2.1, hnr2_cp.2.2.2.2.2.2.2.2.2.1, hnr2_cp.2.2.2.2.2.2.2.2.2.2, hl1A]
  refine Stop.mk fun dy a2 s2 h2 hl2 hu2 => ?_
  have hl2A : 0 ≤ a2 ∧ a2 ≤ 900000000 := by omega
  simp (config := {contextual := true, implicitDefEqProofs := false, maxSteps := 2000000}) [-Int.not_le, -Int.not_lt, argsF, onCur, dlI, dlT, hk_c, hcb_c, hbc_c, hbd_c, h0_c, hlim_c, hat_c.blk, hat_c.esz, hat_c.len, hat_c.els, hne_c, hnp_c, hne1_c, hnp1_c, hnq_c, hnq1_c, hnb_c, hnb1_c, hne2_c.1, hne2_c.2.1, hne2_c.2.2.1, hne2_c.2.2.2.1, hne2_c.2.2.2.2.1, hne2_c.2.2.2.2.2.1, hne2_c.2.2.2.2.2.2.1, hne2_c.2.2.2.2.2.2.2.1, hne2_c.2.2.2.2.2.2.2.2.1, hne2_c.2.2.2.2.2.2.2.2.2.1, hne2_c.2.2.2.2.2.2.2.2.2.2, hne2_cp.1, hne2_cp.2.1, hne2_cp.2.2.1, hne2_cp.2.2.2.1, hne2_cp.2.2.2.2.1, hne2_cp.2.2.2.2.2.1, hne2_cp.2.2.2.2.2.2.1, hne2_cp.2.2.2.2.2.2.2.1, hne2_cp.2.2.2.2.2.2.2.2.1, hne2_cp.2.2.2.2.2.2.2.2.2.1, hne2_cp.2.2.2.2.2.2.2.2.2.2, hnr2_c.1, hnr2_c.2.1, hnr2_c.2.2.1, hnr2_c.2.2.2.1, hnr2_c.2.2.2.2.1, hnr2_c.2.2.2.2.2.1, hnr2_c.2.2.2.2.2.2.1, hnr2_c.2.2.2.2.2.2.2.1, hnr2_c.2.2.2.2.2.2.2.2.1, hnr2_c.2.2.2.2.2.2.2.2.2.1, hnr2_c.2.2.2.2.2.2.2.2.2.2, hnr2_cp.1, hnr2_cp.2.1, hnr2_cp.2.2.1, hnr2_cp.2.2.2.1, hnr2_cp.2.2.2.2.1, hnr2_cp.2.2.2.2.2.1, hnr2_cp.2.2.2.2.2.2.1, hnr2_cp.2.2.2.2.2.2.2.1, hnr2_cp.2.2.2.2.2.2.2.2.1, hnr2_cp.2.2.2.2.2.2.2.2.2.1, hnr2_cp.2.2.2.2.2.2.2.2.2.2, hl2A]
  refine Stop.mk fun zo a3 s3 hl3 hu3 h3 => ?_
  have hl3A : 0 ≤ a3 ∧ a3 ≤ 900000000 := by omega
  simp (config := {contextual := true, implicitDefEqProofs := false, maxSteps := 2000000}) [-Int.not_le, -Int.not_lt, argsF, onCur, dlI, dlT, hk_c, hcb_c, hbc_c, hbd_c, h0_c, hlim_c, hat_c.blk, hat_c.esz, hat_c.len, hat_c.els, hne_c, hnp_c, hne1_c, hnp1_c, hnq_c, hnq1_c, hnb_c, hnb1_c, hne2_c.1, hne2_c.2.1, hne2_c.2.2.1, hne2_c.2.2.2.1, hne2_c.2.2.2.2.1, hne2_c.2.2.2.2.2.1, hne2_c.2.2.2.2.2.2.1, hne2_c.2.2.2.2.2.2.2.1, hne2_c.2.2.2.2.2.2.2.2.1, hne2_c.2.2.2.2.2.2.2.2.2.1, hne2_c.2.2.2.2.2.2.2.2.2.2, hne2_cp.1, hne2_cp.2.1, hne2_cp.2.2.1, hne2_cp.2.2.2.1, hne2_cp.2.2.2.2.1, hne2_cp.2.2.2.2.2.1, hne2_cp.2.2.2.2.2.2.1, hne2_cp.2.2.2.2.2.2.2.1, hne2_cp.2.2.2.2.2.2.2.2.1, hne2_cp.2.2.2.2.2.2.2.2.2.1, hne2_cp.2.2.2.2.2.2.2.2.2.2, hnr2_c.1, hnr2_c.2.1, hnr2_c.2.2.1, hnr2_c.2.2.2.1, hnr2_c.2.2.2.2.1, hnr2_c.2.2.2.2.2.1, hnr2_c.2.2.2.2.2.2.1, hnr2_c.2.2.2.2.2.2.2.1, hnr2_c.2.2.2.2.2.2.2.2.1, hnr2_c.2.2.2.2.2.2.2.2.2.1, hnr2_c.2.2.2.2.2.2.2.2.2.2, hnr2_cp.1, hnr2_cp.2.1, hnr2_cp.2.2.1, hnr2_cp.2.2.2.1, hnr2_cp.2.2.2.2.1, hnr2_cp.2.2.2.2.2.1, hnr2_cp.2.2.2.2.2.2.1, hnr2_cp.2.2.2.2.2.2.2.1, hnr2_cp.2.2.2.2.2.2.2.2.1, hnr2_cp.2.2.2.2.2.2.2.2.2.1, hnr2_cp.2.2.2.2.2.2.2.2.2.2, hl3A]
  refine Stop.mk fun gr a4 s4 h4 hl4 hu4 => ?_
  have hl4A : 0 ≤ a4 ∧ a4 ≤ 900000000 := by omega
  simp (config := {contextual := true, implicitDefEqProofs := false, maxSteps := 2000000}) [-Int.not_le, -Int.not_lt, argsF, onCur, dlI, dlT, hk_c, hcb_c, hbc_c, hbd_c, h0_c, hlim_c, hat_c.blk, hat_c.esz, hat_c.len, hat_c.els, hne_c, hnp_c, hne1_c, hnp1_c, hnq_c, hnq1_c, hnb_c, hnb1_c, hne2_c.1, hne2_c.2.1, hne2_c.2.2.1, hne2_c.2.2.2.1, hne2_c.2.2.2.2.1, hne2_c.2.2.2.2.2.1, hne2_c.2.2.2.2.2.2.1, hne2_c.2.2.2.2.2.2.2.1, hne2_c.2.2.2.2.2.2.2.2.1, hne2_c.2.2.2.2.2.2.2.2.2.1, hne2_c.2.2.2.2.2.2.2.2.2.2, hne2_cp.1, hne2_cp.2.1, hne2_cp.2.2.1, hne2_cp.2.2.2.1, hne2_cp.2.2.2.2.1, hne2_cp.2.2.2.2.2.1, hne2_cp.2.2.2.2.2.2.1, hne2_cp.2.2.2.2.2.2.2.1, hne2_cp.2.2.2.2.2.2.2.2.1, hne2_cp.2.2.2.2.2.2.2.2.2.1, hne2_cp.2.2.2.2.2.2.2.2.2.2, hnr2_c.1, hnr2_c.2.1, hnr2_c.2.2.1, hnr2_c.2.2.2.1, hnr2_c.2.2.2.2.1, hnr2_c.2.2.2.2.2.1, hnr2_c.2.2.2.2.2.2.1, hnr2_c.2.2.2.2.2.2.2.1, hnr2_c.2.2.2.2.2.2.2.2.1, hnr2_c.2.2.2.2.2.2.2.2.2.1, hnr2_c.2.2.2.2.2.2.2.2.2.2, hnr2_cp.1, hnr2_cp.2.1, hnr2_cp.2.2.1, hnr2_cp.2.2.2.1, hnr2_cp.2.2.2.2.1, hnr2_cp.2.2.2.2.2.1, hnr2_cp.2.2.2.2.2.2.1, hnr2_cp.2.2.2.2.2.2.2.1, hnr2_cp.2.2.2.2.2.2.2.2.1, hnr2_cp.2.2.2.2.2.2.2.2.2.1, hnr2_cp.2.2.2.2.2.2.2.2.2.2, hl4A]
  refine Stop.mk fun pd a5 s5 h5 hl5 hu5 => ?_
  have hl5A : 0 ≤ a5 ∧ a5 ≤ 900000000 := by omega
  simp (config := {contextual := true, implicitDefEqProofs := false, maxSteps := 2000000}) [-Int.not_le, -Int.not_lt, argsF, onCur, dlI, dlT, hk_c, hcb_c, hbc_c, hbd_c, h0_c, hlim_c, hat_c.blk, hat_c.esz, hat_c.len, hat_c.els, hne_c, hnp_c, hne1_c, hnp1_c, hnq_c, hnq1_c, hnb_c, hnb1_c, hne2_c.1, hne2_c.2.1, hne2_c.2.2.1, hne2_c.2.2.2.1, hne2_c.2.2.2.2.1, hne2_c.2.2.2.2.2.1, hne2_c.2.2.2.2.2.2.1, hne2_c.2.2.2.2.2.2.2.1, hne2_c.2.2.2.2.2.2.2.2.1, hne2_c.2.2.2.2.2.2.2.2.2.1, hne2_c.2.2.2.2.2.2.2.2.2.2, hne2_cp.1, hne2_cp.2.1, hne2_cp.2.2.1, hne2_cp.2.2.2.1, hne2_cp.2.2.2.2.1, hne2_cp.2.2.2.2.2.1, hne2_cp.2.2.2.2.2.2.1, hne2_cp.2.2.2.2.2.2.2.1, hne2_cp.2.2.2.2.2.2.2.2.1, hne2_cp.2.2.2.2.2.2.2.2.2.1, hne2_cp.2.2.2.2.2.2.2.2.2.2, hnr2_c.1, hnr2_c.2.1, hnr2_c.2.2.1, hnr2_c.2.2.2.1, hnr2_c.2.2.2.2.1, hnr2_c.2.2.2.2.2.1, hnr2_c.2.2.2.2.2.2.1, hnr2_c.2.2.2.2.2.2.2.1, hnr2_c.2.2.2.2.2.2.2.2.1, hnr2_c.2.2.2.2.2.2.2.2.2.1, hnr2_c.2.2.2.2.2.2.2.2.2.2, hnr2_cp.1, hnr2_cp.2.1, hnr2_cp.2.2.1, hnr2_cp.2.2.2.1, hnr2_cp.2.2.2.2.1, hnr2_cp.2.2.2.2.2.1, hnr2_cp.2.2.2.2.2.2.1, hnr2_cp.2.2.2.2.2.2.2.1, hnr2_cp.2.2.2.2.2.2.2.2.1, hnr2_cp.2.2.2.2.2.2.2.2.2.1, hnr2_cp.2.2.2.2.2.2.2.2.2.2, hl5A]
  refine Stop.mk fun f a6 s6 hl6 hu6 h6 => ?_
  have hl6A : 0 ≤ a6 ∧ a6 ≤ 900000000 := by omega
  simp (config := {contextual := true, implicitDefEqProofs := false, maxSteps := 2000000}) [-Int.not_le, -Int.not_lt, argsF, onCur, dlI, dlT, hk_c, hcb_c, hbc_c, hbd_c, h0_c, hlim_c, hat_c.blk, hat_c.esz, hat_c.len, hat_c.els, hne_c, hnp_c, hne1_c, hnp1_c, hnq_c, hnq1_c, hnb_c, hnb1_c, hne2_c.1, hne2_c.2.1, hne2_c.2.2.1, hne2_c.2.2.2.1, hne2_c.2.2.2.2.1, hne2_c.2.2.2.2.2.1, hne2_c.2.2.2.2.2.2.1, hne2_c.2.2.2.2.2.2.2.1, hne2_c.2.2.2.2.2.2.2.2.1, hne2_c.2.2.2.2.2.2.2.2.2.1, hne2_c.2.2.2.2.2.2.2.2.2.2, hne2_cp.1, hne2_cp.2.1, hne2_cp.2.2.1, hne2_cp.2.2.2.1, hne2_cp.2.2.2.2.1, hne2_cp.2.2.2.2.2.1, hne2_cp.2.2.2.2.2.2.1, hne2_cp.2.2.2.2.2.2.2.1, hne2_cp.2.2.2.2.2.2.2.2.1, hne2_cp.2.2.2.2.2.2.2.2.2.1, hne2_cp.2.2.2.2.2.2.2.2.2.2, hnr2_c.1, hnr2_c.2.1, hnr2_c.2.2.1, hnr2_c.2.2.2.1, hnr2_c.2.2.2.2.1, hnr2_c.2.2.2.2.2.1, hnr2_c.2.2.2.2.2.2.1, hnr2_c.2.2.2.2.2.2.2.1, hnr2_c.2.2.2.2.2.2.2.2.1, hnr2_c.2.2.2.2.2.2.2.2.2.1, hnr2_c.2.2.2.2.2.2.2.2.2.2, hnr2_cp.1, hnr2_cp.2.1, hnr2_cp.2.2.1, hnr2_cp.2.2.2.1, hnr2_cp.2.2.2.2.1, hnr2_cp.2.2.2.2.2.1, hnr2_cp.2.2.2.2.2.2.1, hnr2_cp.2.2.2.2.2.2.2.1, hnr2_cp.2.2.2.2.2.2.2.2.1, hnr2_cp.2.2.2.2.2.2.2.2.2.1, hnr2_cp.2.2.2.2.2.2.2.2.2.2, hl6A]
  refine Stop.mk fun t a7 s7 hl7 hu7 h7 => ?_
  have hl7A : 0 ≤ a7 ∧ a7 ≤ 900000000 := by omega
  simp (config := {contextual := true, implicitDefEqProofs := false, maxSteps := 2000000}) [-Int.not_le, -Int.not_lt, argsF, onCur, dlI, dlT, hk_c, hcb_c, hbc_c, hbd_c, h0_c, hlim_c, hat_c.blk, hat_c.esz, hat_c.len, hat_c.els, hne_c, hnp_c, hne1_c, hnp1_c, hnq_c, hnq1_c, hnb_c, hnb1_c, hne2_c.1, hne2_c.2.1, hne2_c.2.2.1, hne2_c.2.2.2.1, hne2_c.2.2.2.2.1, hne2_c.2.2.2.2.2.1, hne2_c.2.2.2.2.2.2.1, hne2_c.2.2.2.2.2.2.2.1, hne2_c.2.2.2.2.2.2.2.2.1, hne2_c.2.2.2.2.2.2.2.2.2.1, hne2_c.2.2.2.2.2.2.2.2.2.2, hne2_cp.1, hne2_cp.2.1, hne2_cp.2.2.1, hne2_cp.2.2.2.1, hne2_cp.2.2.2.2.1, hne2_cp.2.2.2.2.2.1, hne2_cp.2.2.2.2.2.2.1, hne2_cp.2.2.2.2.2.2.2.1, hne2_cp.2.2.2.2.2.2.2.2.1, hne2_cp.2.2.2.2.2.2.2.2.2.1, hne2_cp.2.2.2.2.2.2.2.2.2.2, hnr2_c.1, hnr2_c.2.1, hnr2_c.2.2.1, hnr2_c.2.2.2.1, hnr2_c.2.2.2.2.1, hnr2_c.2.2.2.2.2.1, hnr2_c.2.2.2.2.2.2.1, hnr2_c.2.2.2.2.2.2.2.1, hnr2_c.2.2.2.2.2.2.2.2.1, hnr2_c.2.2.2.2.2.2.2.2.2.1, hnr2_c.2.2.2.2.2.2.2.2.2.2, hnr2_cp.1, hnr2_cp.2.1, hnr2_cp.2.2.1, hnr2_cp.2.2.2.1, hnr2_cp.2.2.2.2.1, hnr2_cp.2.2.2.2.2.1, hnr2_cp.2.2.2.2.2.2.1, hnr2_cp.2.2.2.2.2.2.2.1, hnr2_cp.2.2.2.2.2.2.2.2.1, hnr2_cp.2.2.2.2.2.2.2.2.2.1, hnr2_cp.2.2.2.2.2.2.2.2.2.2, hl7A]
  refine Stop.mk fun ar a8 s8 h8 hl8 hu8 => ?_
  simp (config := {contextual := true, implicitDefEqProofs := false, maxSteps := 2000000}) [-Int.not_le, -Int.not_lt, argsF, onCur, dlI, dlT, hk_c, hcb_c, hbc_c, hbd_c, h0_c, hlim_c, hat_c.blk, hat_c.esz, hat_c.len, hat_c.els, hne_c, hnp_c, hne1_c, hnp1_c, hnq_c, hnq1_c, hnb_c, hnb1_c, hne2_c.1, hne2_c.2.1, hne2_c.2.2.1, hne2_c.2.2.2.1, hne2_c.2.2.2.2.1, hne2_c.2.2.2.2.2.1, hne2_c.2.2.2.2.2.2.1, hne2_c.2.2.2.2.2.2.2.1, hne2_c.2.2.2.2.2.2.2.2.1, hne2_c.2.2.2.2.2.2.2.2.2.1, hne2_c.2.2.2.2.2.2.2.2.2.2, hne2_cp.1, hne2_cp.2.1, hne2_cp.2.2.1, hne2_cp.2.2.2.1, hne2_cp.2.2.2.2.1, hne2_cp.2.2.2.2.2.1, hne2_cp.2.2.2.2.2.2.1, hne2_cp.2.2.2.2.2.2.2.1, hne2_cp.2.2.2.2.2.2.2.2.1, hne2_cp.2.2.2.2.2.2.2.2.2.1, hne2_cp.2.2.2.2.2.2.2.2.2.2, hnr2_c.1, hnr2_c.2.1, hnr2_c.2.2.1, hnr2_c.2.2.2.1, hnr2_c.2.2.2.2.1, hnr2_c.2.2.2.2.2.1, hnr2_c.2.2.2.2.2.2.1, hnr2_c.2.2.2.2.2.2.2.1, hnr2_c.2.2.2.2.2.2.2.2.1, hnr2_c.2.2.2.2.2.2.2.2.2.1, hnr2_c.2.2.2.2.2.2.2.2.2.2, hnr2_cp.1, hnr2_cp.2.1, hnr2_cp.2.2.1, hnr2_cp.2.2.2.1, hnr2_cp.2.2.2.2.1, hnr2_cp.2.2.2.2.2.1, hnr2_cp.2.2.2.2.2.2.1, hnr2_cp.2.2.2.2.2.2.2.1, hnr2_cp.2.2.2.2.2.2.2.2.1, hnr2_cp.2.2.2.2.2.2.2.2.2.1, hnr2_cp.2.2.2.2.2.2.2.2.2.2]
  refine avc_gen (fun G => ∃ x : DC, x.H = G ∧ x.Ok H c_p b_c i_c l_c.length a_c (a_c + 20) ∧ x.bx = H.n + 1 + 1 + 1 + 1 + 1 + 1) ⟨⟨_, a8, s8, ⟨id, dy, (zo : Int), gr, pd, (f : Int), (t : Int), lv, IntKind.i64.wrap (lv + ar)⟩, H.n + 1 + 1 + 1 + 1 + 1 + 1⟩, rfl, ⟨(by simp only [push_n, set_n, kill_n]; omega), by simp only [push_I, set_I], by simp [push_b, set_b, onCur, dlI, dlT, hk_c, hcb_c, hbc_c, hbd_c, h0_c, hlim_c, hat_c.blk, hat_c.esz, hat_c.len, hat_c.els, hne_c, hnp_c, hne1_c, hnp1_c, hnq_c, hnq1_c, hnb_c, hnb1_c, hne2_c.1, hne2_c.2.1, hne2_c.2.2.1, hne2_c.2.2.2.1, hne2_c.2.2.2.2.1, hne2_c.2.2.2.2.2.1, hne2_c.2.2.2.2.2.2.1, hne2_c.2.2.2.2.2.2.2.1, hne2_c.2.2.2.2.2.2.2.2.1, hne2_c.2.2.2.2.2.2.2.2.2.1, hne2_c.2.2.2.2.2.2.2.2.2.2, hne2_cp.1, hne2_cp.2.1, hne2_cp.2.2.1, hne2_cp.2.2.2.1, hne2_cp.2.2.2.2.1, hne2_cp.2.2.2.2.2.1, hne2_cp.2.2.2.2.2.2.1, hne2_cp.2.2.2.2.2.2.2.1, hne2_cp.2.2.2.2.2.2.2.2.1, hne2_cp.2.2.2.2.2.2.2.2.2.1, hne2_cp.2.2.2.2.2.2.2.2.2.2, hnr2_c.1, hnr2_c.2.1, hnr2_c.2.2.1, hnr2_c.2.2.2.1, hnr2_c.2.2.2.2.1, hnr2_c.2.2.2.2.2.1, hnr2_c.2.2.2.2.2.2.1, hnr2_c.2.2.2.2.2.2.2.1, hnr2_c.2.2.2.2.2.2.2.2.1, hnr2_c.2.2.2.2.2.2.2.2.2.1, hnr2_c.2.2.2.2.2.2.2.2.2.2, hnr2_cp.1, hnr2_cp.2.1, hnr2_cp.2.2.1, hnr2_cp.2.2.2.1, hnr2_cp.2.2.2.2.1, hnr2_cp.2.2.2.2.2.1, hnr2_cp.2.2.2.2.2.2.1, hnr2_cp.2.2.2.2.2.2.2.1, hnr2_cp.2.2.2.2.2.2.2.2.1, hnr2_cp.2.2.2.2.2.2.2.2.2.1, hnr2_cp.2.2.2.2.2.2.2.2.2.2]; done, (fun j k hjc hj => by have hjn := (hwf j k hj).1; have qj0 : (j = H.n) = False := eq_false (by omega); have qj1 : (j = H.n + 1) = False := eq_false (by omega); have qj2 : (j = H.n + 1 + 1) = False := eq_false (by omega); have qj3 : (j = H.n + 1 + 1 + 1) = False := eq_false (by omega); have qj4 : (j = H.n + 1 + 1 + 1 + 1) = False := eq_false (by omega); have qj5 : (j = H.n + 1 + 1 + 1 + 1 + 1) = False := eq_false (by omega); have qj6 : (j = H.n + 1 + 1 + 1 + 1 + 1 + 1) = False := eq_false (by omega); have qj7 : (j = H.n + 1 + 1 + 1 + 1 + 1 + 1 + 1) = False := eq_false (by omega); simp [push_b, set_b, kill_b, hjc, qj0, qj1, qj2, qj3, qj4, qj5, qj6, qj7, hj]; done), by simp [push_b, set_b, onCur, dlI, dlT, hk_c, hcb_c, hbc_c, hbd_c, h0_c, hlim_c, hat_c.blk, hat_c.esz, hat_c.len, hat_c.els, hne_c, hnp_c, hne1_c, hnp1_c, hnq_c, hnq1_c, hnb_c, hnb1_c, hne2_c.1, hne2_c.2.1, hne2_c.2.2.1, hne2_c.2.2.2.1, hne2_c.2.2.2.2.1, hne2_c.2.2.2.2.2.1, hne2_c.2.2.2.2.2.2.1, hne2_c.2.2.2.2.2.2.2.1, hne2_c.2.2.2.2.2.2.2.2.1, hne2_c.2.2.2.2.2.2.2.2.2.1, hne2_c.2.2.2.2.2.2.2.2.2.2, hne2_cp.1, hne2_cp.2.1, hne2_cp.2.2.1, hne2_cp.2.2.2.1, hne2_cp.2.2.2.2.1, hne2_cp.2.2.2.2.2.1, hne2_cp.2.2.2.2.2.2.1, hne2_cp.2.2.2.2.2.2.2.1, hne2_cp.2.2.2.2.2.2.2.2.1, hne2_cp.2.2.2.2.2.2.2.2.2.1, hne2_cp.2.2.2.2.2.2.2.2.2.2, hnr2_c.1, hnr2_c.2.1, hnr2_c.2.2.1, hnr2_c.2.2.2.1, hnr2_c.2.2.2.2.1, hnr2_c.2.2.2.2.2.1, hnr2_c.2.2.2.2.2.2.1, hnr2_c.2.2.2.2.2.2.2.1, hnr2_c.2.2.2.2.2.2.2.2.1, hnr2_c.2.2.2.2.2.2.2.2.2.1, hnr2_c.2.2.2.2.2.2.2.2.2.2, hnr2_cp.1, hnr2_cp.2.1, hnr2_cp.2.2.1, hnr2_cp.2.2.2.1, hnr2_cp.2.2.2.2.1, hnr2_cp.2.2.2.2.2.1, hnr2_cp.2.2.2.2.2.2.1, hnr2_cp.2.2.2.2.2.2.2.1, hnr2_cp.2.2.2.2.2.2.2.2.1, hnr2_cp.2.2.2.2.2.2.2.2.2.1, hnr2_cp.2.2.2.2.2.2.2.2.2.2]; done, by simp [push_b, set_b, onCur, dlI, dlT, hk_c, hcb_c, hbc_c, hbd_c, h0_c, hlim_c, hat_c.blk, hat_c.esz, hat_c.len, hat_c.els, hne_c, hnp_c, hne1_c, hnp1_c, hnq_c, hnq1_c, hnb_c, hnb1_c, hne2_c.1, hne2_c.2.1, hne2_c.2.2.1, hne2_c.2.2.2.1, hne2_c.2.2.2.2.1, hne2_c.2.2.2.2.2.1, hne2_c.2.2.2.2.2.2.1, hne2_c.2.2.2.2.2.2.2.1, hne2_c.2.2.2.2.2.2.2.2.1, hne2_c.2.2.2.2.2.2.2.2.2.1, hne2_c.2.2.2.2.2.2.2.2.2.2, hne2_cp.1, hne2_cp.2.1, hne2_cp.2.2.1, hne2_cp.2.2.2.1, hne2_cp.2.2.2.2.1, hne2_cp.2.2.2.2.2.1, hne2_cp.2.2.2.2.2.2.1, hne2_cp.2.2.2.2.2.2.2.1, hne2_cp.2.2.2.2.2.2.2.2.1, hne2_cp.2.2.2.2.2.2.2.2.2.1, hne2_cp.2.2.2.2.2.2.2.2.2.2, hnr2_c.1, hnr2_c.2.1, hnr2_c.2.2.1, hnr2_c.2.2.2.1, hnr2_c.2.2.2.2.1, hnr2_c.2.2.2.2.2.1, hnr2_c.2.2.2.2.2.2.1, hnr2_c.2.2.2.2.2.2.2.1, hnr2_c.2.2.2.2.2.2.2.2.1, hnr2_c.2.2.2.2.2.2.2.2.2.1, hnr2_c.2.2.2.2.2.2.2.2.2.2, hnr2_cp.1, hnr2_cp.2.1, hnr2_cp.2.2.1, hnr2_cp.2.2.2.1, hnr2_cp.2.2.2.2.1, hnr2_cp.2.2.2.2.2.1, hnr2_cp.2.2.2.2.2.2.1, hnr2_cp.2.2.2.2.2.2.2.1, hnr2_cp.2.2.2.2.2.2.2.2.1, hnr2_cp.2.2.2.2.2.2.2.2.2.1, hnr2_cp.2.2.2.2.2.2.2.2.2.2]; done, by simp only; omega, (by simp only [push_n, set_n, kill_n]; omega), by simp only; omega, by simp only; omega⟩, rfl⟩ fun G hG => ?_
  obtain ⟨x, rfl, hok, e1⟩ := hG
  rw [← e1]
  clear e1
  have hxb_x : x.H.b b_c = some k_c := hok.old b_c k_c (Ne.symm hcb_c) hat_c.blk
  have hxc_x := hok.cur
  have h4_x := hok.b4
  have h6_x := hok.b6
  have lo_x := hok.lo
  have hi_x := hok.hi
  have a0_x := hok.at0
  have a1_x := hok.at1
  have hnx_x := hok.hn
  have hlA_x : 0 ≤ x.a ∧ x.a ≤ 900000000 := by omega
  have r0_x : (c_p = x.bx) = False := eq_false (by omega)
  have w0_x : (x.bx = c_p) = False := eq_false (by omega)
  have r1_x : (b_c = x.bx) = False := eq_false (by omega)
  have w1_x : (x.bx = b_c) = False := eq_false (by omega)
  have r2_x : (H.n = x.bx) = False := eq_false (by omega)
  have w2_x : (x.bx = H.n) = False := eq_false (by omega)
  have px00 : (c_p = x.H.n) = False := eq_false (by omega)
  have qx00 : (x.H.n = c_p) = False := eq_false (by omega)
  have px01 : (c_p = x.H.n + 1) = False := eq_false (by omega)
  have qx01 : (x.H.n + 1 = c_p) = False := eq_false (by omega)
  have px02 : (c_p = x.H.n + 1 + 1) = False := eq_false (by omega)
  have qx02 : (x.H.n + 1 + 1 = c_p) = False := eq_false (by omega)
  have px03 : (c_p = x.H.n + 1 + 1 + 1) = False := eq_false (by omega)
  have qx03 : (x.H.n + 1 + 1 + 1 = c_p) = False := eq_false (by omega)
  have px04 : (c_p = x.H.n + 1 + 1 + 1 + 1) = False := eq_false (by omega)
  have qx04 : (x.H.n + 1 + 1 + 1 + 1 = c_p) = False := eq_false (by omega)
  have px05 : (c_p = x.H.n + 1 + 1 + 1 + 1 + 1) = False := eq_false (by omega)
  have qx05 : (x.H.n + 1 + 1 + 1 + 1 + 1 = c_p) = False := eq_false (by omega)
  have px10 : (b_c = x.H.n) = False := eq_false (by omega)
  have qx10 : (x.H.n = b_c) = False := eq_false (by omega)
  have px11 : (b_c = x.H.n + 1) = False := eq_false (by omega)
  have qx11 : (x.H.n + 1 = b_c) = False := eq_false (by omega)
  have px12 : (b_c = x.H.n + 1 + 1) = False := eq_false (by omega)
  have qx12 : (x.H.n + 1 + 1 = b_c) = False := eq_false (by omega)
  have px13 : (b_c = x.H.n + 1 + 1 + 1) = False := eq_false (by omega)
  have qx13 : (x.H.n + 1 + 1 + 1 = b_c) = False := eq_false (by omega)
  have px14 : (b_c = x.H.n + 1 + 1 + 1 + 1) = False := eq_false (by omega)
  have qx14 : (x.H.n + 1 + 1 + 1 + 1 = b_c) = False := eq_false (by omega)
  have px15 : (b_c = x.H.n + 1 + 1 + 1 + 1 + 1) = False := eq_false (by omega)
  have qx15 : (x.H.n + 1 + 1 + 1 + 1 + 1 = b_c) = False := eq_false (by omega)
  have px20 : (x.bx = x.H.n) = False := eq_false (by omega)
  have qx20 : (x.H.n = x.bx) = False := eq_false (by omega)
  have px21 : (x.bx = x.H.n + 1) = False := eq_false (by omega)
  have qx21 : (x.H.n + 1 = x.bx) = False := eq_false (by omega)
  have px22 : (x.bx = x.H.n + 1 + 1) = False := eq_false (by omega)
  have qx22 : (x.H.n + 1 + 1 = x.bx) = False := eq_false (by omega)
  have px23 : (x.bx = x.H.n + 1 + 1 + 1) = False := eq_false (by omega)
  have qx23 : (x.H.n + 1 + 1 + 1 = x.bx) = False := eq_false (by omega)
  have px24 : (x.bx = x.H.n + 1 + 1 + 1 + 1) = False := eq_false (by omega)
  have qx24 : (x.H.n + 1 + 1 + 1 + 1 = x.bx) = False := eq_false (by omega)
  have px25 : (x.bx = x.H.n + 1 + 1 + 1 + 1 + 1) = False := eq_false (by omega)
  have qx25 : (x.H.n + 1 + 1 + 1 + 1 + 1 = x.bx) = False := eq_false (by omega)
  have px30 : (H.n = x.H.n) = False := eq_false (by omega)
  have qx30 : (x.H.n = H.n) = False := eq_false (by omega)
  have px31 : (H.n = x.H.n + 1) = False := eq_false (by omega)
  have qx31 : (x.H.n + 1 = H.n) = False := eq_false (by omega)
  have px32 : (H.n = x.H.n + 1 + 1) = False := eq_false (by omega)
  have qx32 : (x.H.n + 1 + 1 = H.n) = False := eq_false (by omega)
  have px33 : (H.n = x.H.n + 1 + 1 + 1) = False := eq_false (by omega)
  have qx33 : (x.H.n + 1 + 1 + 1 = H.n) = False := eq_false (by omega)
  have px34 : (H.n = x.H.n + 1 + 1 + 1 + 1) = False := eq_false (by omega)
  have qx34 : (x.H.n + 1 + 1 + 1 + 1 = H.n) = False := eq_false (by omega)
  have px35 : (H.n = x.H.n + 1 + 1 + 1 + 1 + 1) = False := eq_false (by omega)
  have qx35 : (x.H.n + 1 + 1 + 1 + 1 + 1 = H.n) = False := eq_false (by omega)
  by_cases hft : x.v.frm = x.v.to
  · simp (config := {contextual := true, implicitDefEqProofs := false, maxSteps := 2000000}) [-Int.not_le, -Int.not_lt, argsF, __spec_l1Cur__cover_r4, onCur, dlI, dlT, curOf_lit, hcb_c, hbc_c, hbd_c, hat_c.esz, hat_c.len, hat_c.els, hnp_c, hnq_c, hne_c, hnb_c, hxc_x, hxb_x, h4_x, h6_x, r0_x, w0_x, r1_x, w1_x, r2_x, w2_x, hlA_x, px00, qx00, px01, qx01, px02, qx02, px03, qx03, px04, qx04, px05, qx05, px10, qx10, px11, qx11, px12, qx12, px13, qx13, px14, qx14, px15, qx15, px20, qx20, px21, qx21, px22, qx22, px23, qx23, px24, qx24, px25, qx25, px30, qx30, px31, qx31, px32, qx32, px33, qx33, px34, qx34, px35, qx35, hft]
    refine Stop.mk fun o a9 s9 hl9 hu9 => ?_
    cases o with
    | true =>
      simp (config := {contextual := true, implicitDefEqProofs := false, maxSteps := 2000000}) [-Int.not_le, -Int.not_lt, argsF, __spec_l1Cur__cover_r0, onCur, dlI, dlT, curOf_lit, hcb_c, hbc_c, hbd_c, hat_c.esz, hat_c.len, hat_c.els, hnp_c, hnq_c, hne_c, hnb_c, hxc_x, hxb_x, h4_x, h6_x, r0_x, w0_x, r1_x, w1_x, r2_x, w2_x, hlA_x, px00, qx00, px01, qx01, px02, qx02, px03, qx03, px04, qx04, px05, qx05, px10, qx10, px11, qx11, px12, qx12, px13, qx13, px14, qx14, px15, qx15, px20, qx20, px21, qx21, px22, qx22, px23, qx23, px24, qx24, px25, qx25, px30, qx30, px31, qx31, px32, qx32, px33, qx33, px34, qx34, px35, qx35, hft]
      exact key3 ⟨_, a9, s9, x.v, x.bx⟩ _ ⟨(by simp only [push_n, set_n, kill_n]; omega), (by simp only [push_I, set_I, kill_I]; exact hok.hI), by simp [push_b, set_b, onCur, dlI, dlT, curOf_lit, hcb_c, hbc_c, hbd_c, hat_c.esz, hat_c.len, hat_c.els, hnp_c, hnq_c, hne_c, hnb_c, hxc_x, hxb_x, h4_x, h6_x, r0_x, w0_x, r1_x, w1_x, r2_x, w2_x, hlA_x, px00, qx00, px01, qx01, px02, qx02, px03, qx03, px04, qx04, px05, qx05, px10, qx10, px11, qx11, px12, qx12, px13, qx13, px14, qx14, px15, qx15, px20, qx20, px21, qx21, px22, qx22, px23, qx23, px24, qx24, px25, qx25, px30, qx30, px31, qx31, px32, qx32, px33, qx33, px34, qx34, px35, qx35]; done, (fun j k hjc hj => by have hjn := (hwf j k hj).1; have qj0 : (j = x.H.n) = False := eq_false (by omega); have qj1 : (j = x.H.n + 1) = False := eq_false (by omega); have qj2 : (j = x.H.n + 1 + 1) = False := eq_false (by omega); have qj3 : (j = x.H.n + 1 + 1 + 1) = False := eq_false (by omega); have qj4 : (j = x.H.n + 1 + 1 + 1 + 1) = False := eq_false (by omega); have qj5 : (j = x.H.n + 1 + 1 + 1 + 1 + 1) = False := eq_false (by omega); have qj6 : (j = x.H.n + 1 + 1 + 1 + 1 + 1 + 1) = False := eq_false (by omega); have qj7 : (j = x.H.n + 1 + 1 + 1 + 1 + 1 + 1 + 1) = False := eq_false (by omega); have qjo : (j = x.bx) = False := eq_false (by omega); have qjn : (j = H.n) = False := eq_false (by omega); simp [push_b, set_b, kill_b, hjc, qj0, qj1, qj2, qj3, qj4, qj5, qj6, qj7, qjo, qjn, hok.old j k hjc hj]; done), by simp [push_b, set_b, onCur, dlI, dlT, curOf_lit, hcb_c, hbc_c, hbd_c, hat_c.esz, hat_c.len, hat_c.els, hnp_c, hnq_c, hne_c, hnb_c, hxc_x, hxb_x, h4_x, h6_x, r0_x, w0_x, r1_x, w1_x, r2_x, w2_x, hlA_x, px00, qx00, px01, qx01, px02, qx02, px03, qx03, px04, qx04, px05, qx05, px10, qx10, px11, qx11, px12, qx12, px13, qx13, px14, qx14, px15, qx15, px20, qx20, px21, qx21, px22, qx22, px23, qx23, px24, qx24, px25, qx25, px30, qx30, px31, qx31, px32, qx32, px33, qx33, px34, qx34, px35, qx35]; done, by simp [push_b, set_b, onCur, dlI, dlT, curOf_lit, hcb_c, hbc_c, hbd_c, hat_c.esz, hat_c.len, hat_c.els, hnp_c, hnq_c, hne_c, hnb_c, hxc_x, hxb_x, h4_x, h6_x, r0_x, w0_x, r1_x, w1_x, r2_x, w2_x, hlA_x, px00, qx00, px01, qx01, px02, qx02, px03, qx03, px04, qx04, px05, qx05, px10, qx10, px11, qx11, px12, qx12, px13, qx13, px14, qx14, px15, qx15, px20, qx20, px21, qx21, px22, qx22, px23, qx23, px24, qx24, px25, qx25, px30, qx30, px31, qx31, px32, qx32, px33, qx33, px34, qx34, px35, qx35]; done, lo_x, (by simp only [push_n, set_n, kill_n]; omega), by simp only; omega, by simp only; omega⟩ rfl
    | false =>
      simp (config := {contextual := true, implicitDefEqProofs := false, maxSteps := 2000000}) [-Int.not_le, -Int.not_lt, argsF, __spec_l1Cur__cover_r0, onCur, dlI, dlT, curOf_lit, hcb_c, hbc_c, hbd_c, hat_c.esz, hat_c.len, hat_c.els, hnp_c, hnq_c, hne_c, hnb_c, hxc_x, hxb_x, h4_x, h6_x, r0_x, w0_x, r1_x, w1_x, r2_x, w2_x, hlA_x, px00, qx00, px01, qx01, px02, qx02, px03, qx03, px04, qx04, px05, qx05, px10, qx10, px11, qx11, px12, qx12, px13, qx13, px14, qx14, px15, qx15, px20, qx20, px21, qx21, px22, qx22, px23, qx23, px24, qx24, px25, qx25, px30, qx30, px31, qx31, px32, qx32, px33, qx33, px34, qx34, px35, qx35, hft]
      exact key3 ⟨_, a9, s9, ⟨x.v.id, x.v.day, x.v.zone, x.v.grams, x.v.paid, x.v.frm, _, x.v.leave, x.v.arrive⟩, x.bx⟩ _ ⟨(by simp only [push_n, set_n, kill_n]; omega), (by simp only [push_I, set_I, kill_I]; exact hok.hI), by simp [push_b, set_b, onCur, dlI, dlT, curOf_lit, hcb_c, hbc_c, hbd_c, hat_c.esz, hat_c.len, hat_c.els, hnp_c, hnq_c, hne_c, hnb_c, hxc_x, hxb_x, h4_x, h6_x, r0_x, w0_x, r1_x, w1_x, r2_x, w2_x, hlA_x, px00, qx00, px01, qx01, px02, qx02, px03, qx03, px04, qx04, px05, qx05, px10, qx10, px11, qx11, px12, qx12, px13, qx13, px14, qx14, px15, qx15, px20, qx20, px21, qx21, px22, qx22, px23, qx23, px24, qx24, px25, qx25, px30, qx30, px31, qx31, px32, qx32, px33, qx33, px34, qx34, px35, qx35]; done, (fun j k hjc hj => by have hjn := (hwf j k hj).1; have qj0 : (j = x.H.n) = False := eq_false (by omega); have qj1 : (j = x.H.n + 1) = False := eq_false (by omega); have qj2 : (j = x.H.n + 1 + 1) = False := eq_false (by omega); have qj3 : (j = x.H.n + 1 + 1 + 1) = False := eq_false (by omega); have qj4 : (j = x.H.n + 1 + 1 + 1 + 1) = False := eq_false (by omega); have qj5 : (j = x.H.n + 1 + 1 + 1 + 1 + 1) = False := eq_false (by omega); have qj6 : (j = x.H.n + 1 + 1 + 1 + 1 + 1 + 1) = False := eq_false (by omega); have qj7 : (j = x.H.n + 1 + 1 + 1 + 1 + 1 + 1 + 1) = False := eq_false (by omega); have qjo : (j = x.bx) = False := eq_false (by omega); have qjn : (j = H.n) = False := eq_false (by omega); simp [push_b, set_b, kill_b, hjc, qj0, qj1, qj2, qj3, qj4, qj5, qj6, qj7, qjo, qjn, hok.old j k hjc hj]; done), by simp [push_b, set_b, onCur, dlI, dlT, curOf_lit, hcb_c, hbc_c, hbd_c, hat_c.esz, hat_c.len, hat_c.els, hnp_c, hnq_c, hne_c, hnb_c, hxc_x, hxb_x, h4_x, h6_x, r0_x, w0_x, r1_x, w1_x, r2_x, w2_x, hlA_x, px00, qx00, px01, qx01, px02, qx02, px03, qx03, px04, qx04, px05, qx05, px10, qx10, px11, qx11, px12, qx12, px13, qx13, px14, qx14, px15, qx15, px20, qx20, px21, qx21, px22, qx22, px23, qx23, px24, qx24, px25, qx25, px30, qx30, px31, qx31, px32, qx32, px33, qx33, px34, qx34, px35, qx35]; done, by simp [push_b, set_b, onCur, dlI, dlT, curOf_lit, hcb_c, hbc_c, hbd_c, hat_c.esz, hat_c.len, hat_c.els, hnp_c, hnq_c, hne_c, hnb_c, hxc_x, hxb_x, h4_x, h6_x, r0_x, w0_x, r1_x, w1_x, r2_x, w2_x, hlA_x, px00, qx00, px01, qx01, px02, qx02, px03, qx03, px04, qx04, px05, qx05, px10, qx10, px11, qx11, px12, qx12, px13, qx13, px14, qx14, px15, qx15, px20, qx20, px21, qx21, px22, qx22, px23, qx23, px24, qx24, px25, qx25, px30, qx30, px31, qx31, px32, qx32, px33, qx33, px34, qx34, px35, qx35, hft]; rfl, lo_x, (by simp only [push_n, set_n, kill_n]; omega), by simp only; omega, by simp only; omega⟩ rfl
  · simp (config := {contextual := true, implicitDefEqProofs := false, maxSteps := 2000000}) [-Int.not_le, -Int.not_lt, argsF, __spec_l1Cur__cover_r4, __spec_l1Cur__cover_r0, onCur, dlI, dlT, curOf_lit, hcb_c, hbc_c, hbd_c, hat_c.esz, hat_c.len, hat_c.els, hnp_c, hnq_c, hne_c, hnb_c, hxc_x, hxb_x, h4_x, h6_x, r0_x, w0_x, r1_x, w1_x, r2_x, w2_x, hlA_x, px00, qx00, px01, qx01, px02, qx02, px03, qx03, px04, qx04, px05, qx05, px10, qx10, px11, qx11, px12, qx12, px13, qx13, px14, qx14, px15, qx15, px20, qx20, px21, qx21, px22, qx22, px23, qx23, px24, qx24, px25, qx25, px30, qx30, px31, qx31, px32, qx32, px33, qx33, px34, qx34, px35, qx35, hft]
    exact key3 x _ ⟨hok.hn, hok.hI, hok.cur, hok.old, hok.b4, hok.b6, hok.lo, hok.hi, hok.at0, by omega⟩ rfl

def q_explained : Con := fun args H K => match args with
  | [.c (.ptr c_p 0 0)] => onCur H c_p 500000000 fun b_c i_c n_c a_c s_c => Stop (∀ (ps : List Ra) (x : Cv) (a' s' : Int), ps.length ≤ 40 → a_c ≤ a' → a' ≤ a_c + 6000 → K (.tup [.c (.sl (H.n) (0) (ps.length)), .agg (eCv.cells x)]) ((H.set c_p (curK b_c i_c n_c a' s')).push (rowK eRa 122 ps))) ()
  | _ => False
@[simp ↓] theorem q_explained_eq (c_p : Nat) (H : AHeap) (K : AV → AHeap → Prop) : q_explained [.c (.ptr c_p 0 0)] H K = (onCur H c_p 500000000 fun b_c i_c n_c a_c s_c => Stop (∀ (ps : List Ra) (x : Cv) (a' s' : Int), ps.length ≤ 40 → a_c ≤ a' → a' ≤ a_c + 6000 → K (.tup [.c (.sl (H.n) (0) (ps.length)), .agg (eCv.cells x)]) ((H.set c_p (curK b_c i_c n_c a' s')).push (rowK eRa 122 ps))) ()) := rfl

end Go.Proofs.Ytjiffkjeijfilaa
