/- The draws of the postmarks: a postmark. -/
import Derived.Test.YtnehhdcaknppnaaDoorPoDr
set_option maxRecDepth 8000
set_option linter.unusedSimpArgs false
set_option linter.unusedVariables false
namespace Go.Proofs.YtnehhdcaknppnaaDoor
open Go Go.RowKit

set_option maxHeartbeats 2000000
/-- what is known of a heap suffices -/
theorem aloop_gen {P : Program} {N n0 : Nat} {body : ACode} {F : AFrame} {H : AHeap} {Q : Exit → AFrame → AHeap → Prop} (R : AHeap → Prop) (h : R H) (f : ∀ G, R G → ALoop P N n0 body F G Q) : ALoop P N n0 body F H Q := f H h
structure DP where
  H : AHeap
  a : Int
  s : Int
  lost : List UInt8
  i : Nat
def zeroP : Po := ⟨0, [], 0, 0, 0, []⟩
/-- a heap within a draw: the cursor, two boxes, all else below as it was -/
structure DP.Ok (x : DP) (H : AHeap) (c b i n : Nat) (a : Int) (q4 q5 : Nat) (id : Int) (town : List UInt8) (kind first last : Int) : Prop where
  hn : H.n ≤ x.H.n
  hI : x.H.I = H.I
  cur : x.H.b c = some (curK b i n x.a x.s)
  old : ∀ j, j < H.n → j ≠ c → x.H.b j = H.b j
  zero : x.H.b q4 = some (boxP zeroP)
  box : x.H.b q5 = some (boxP ⟨id, town, kind, first, last, x.lost⟩)
  at0 : a ≤ x.a
  at1 : x.a ≤ a + 2 * (x.i : Int)
  lost : x.lost.length ≤ x.i
  hi : x.i ≤ town.length
theorem DP.Ok.next {x : DP} {H : AHeap} {c b i n q4 q5 : Nat} {a id kind first last : Int} {town : List UInt8} (h : x.Ok H c b i n a q4 q5 id town kind first last) (hc : c < H.n) (h4 : H.n ≤ q4) (h5 : q4 < q5) {a' s' : Int} (ha : x.a ≤ a') (ha2 : a' ≤ x.a + 2) (ch : UInt8) (hi : x.i < town.length) :
    DP.Ok ⟨(x.H.set c (curK b i n a' s')).set q5 (boxP ⟨id, town, kind, first, last, x.lost ++ [ch]⟩), a', s', x.lost ++ [ch], x.i + 1⟩ H c b i n a q4 q5 id town kind first last where
  hn := h.hn
  hI := h.hI
  cur := by rw [set_b, if_neg (by omega), set_b, if_pos rfl]
  old := fun j hj hjc => by rw [set_b, if_neg (by omega), set_b, if_neg hjc]; exact h.old j hj hjc
  zero := by rw [set_b, if_neg (by omega), set_b, if_neg (by omega)]; exact h.zero
  box := by rw [set_b, if_pos rfl]
  at0 := by have := h.at0; simp only; omega
  at1 := by have := h.at1; simp only; omega
  lost := by have := h.lost; simp only [List.length_append, List.length_cons, List.length_nil]; omega
  hi := by simp only; omega
theorem DP.Ok.next0 {x : DP} {H : AHeap} {c b i n q4 q5 : Nat} {a id kind first last : Int} {town : List UInt8} (h : x.Ok H c b i n a q4 q5 id town kind first last) (hc : c < H.n) (h4 : H.n ≤ q4) (h5 : q4 < q5) (ch : UInt8) (hi : x.i < town.length) :
    DP.Ok ⟨x.H.set q5 (boxP ⟨id, town, kind, first, last, x.lost ++ [ch]⟩), x.a, x.s, x.lost ++ [ch], x.i + 1⟩ H c b i n a q4 q5 id town kind first last := by
  have := h.next hc h4 h5 (a' := x.a) (s' := x.s) (Int.le_refl _) (by omega) ch hi
  rwa [cur_self h.cur] at this

def q_pm11 : Con := fun args H K => match args with
  | [.c (.ptr c_p 0 0), .c (.int .i64 id)] => onCur H c_p 700000000 fun b_c i_c n_c a_c s_c => Stop (∀ (p : Po) (a' s' : Int), shP p → a_c ≤ a' → a' ≤ a_c + 300 → K (.agg (ePo.cells p)) (H.set c_p (curK b_c i_c n_c a' s'))) ()
  | _ => False
@[simp ↓] theorem q_pm11_eq (c_p : Nat) (id : Int) (H : AHeap) (K : AV → AHeap → Prop) : q_pm11 [.c (.ptr c_p 0 0), .c (.int .i64 id)] H K = (onCur H c_p 700000000 fun b_c i_c n_c a_c s_c => Stop (∀ (p : Po) (a' s' : Int), shP p → a_c ≤ a' → a' ≤ a_c + 300 → K (.agg (ePo.cells p)) (H.set c_p (curK b_c i_c n_c a' s'))) ()) := rfl

theorem spec_l1Cur__postmark11_s : Sound Tryd.prog 104 q_pm11 := by
  intro args H K h
  unfold q_pm11 at h
  split at h
  rotate_left
  all_goals first | exact False.elim h | skip
  rename_i c_p id
  have h1 := onCur_iff.1 h
  clear h
  obtain ⟨b_c, i_c, n_c, a_c, s_c, k_c, l_c, hk_c, hcb_c, h0_c, hlim_c, hat_c, rfl, h⟩ := h1
  have hE := soundE_cons spec_l1Cur__town11_s (soundE_cons spec_l1Cur__pick_s (soundE_cons spec_l1Cur__among_s (soundE_cons spec_l1Least_s (soundE_cons spec_l1Cur__one_s (soundE_cons spec_l1Cur__of_s (soundE_nil (P := Tryd.prog)))))))
  refine acalls_fn __spec_l1Cur__postmark11_k hE ⟨by simp, fun hwf => ?_⟩
  have hb_c : b_c < H.n := (hwf b_c k_c hat_c.blk).1
  have hp_c : c_p < H.n := (hwf c_p _ hk_c).1
  have hbc_c : (b_c = c_p) = False := eq_false (Ne.symm hcb_c)
  have hbd_c : (c_p = b_c) = False := eq_false hcb_c
  have hne_c : (b_c = H.n) = False := eq_false (by omega)
  have hnp_c : (c_p = H.n) = False := eq_false (by omega)
  have hne1_c : ∀ i, (b_c = H.n + i) = False := fun i => eq_false (by omega)
  have hnp1_c : ∀ i, (c_p = H.n + i) = False := fun i => eq_false (by omega)
  have hne2_c : (b_c = H.n + 1 + 1) = False ∧ (b_c = H.n + 1 + 1 + 1) = False ∧ (b_c = H.n + 1 + 1 + 1 + 1) = False ∧ (b_c = H.n + 1 + 1 + 1 + 1 + 1) = False ∧ (b_c = H.n + 1 + 1 + 1 + 1 + 1 + 1) = False ∧ (b_c = H.n + 1 + 1 + 1 + 1 + 1 + 1 + 1) = False ∧ (b_c = H.n + 1 + 1 + 1 + 1 + 1 + 1 + 1 + 1) = False ∧ (b_c = H.n + 1 + 1 + 1 + 1 + 1 + 1 + 1 + 1 + 1) = False ∧ (b_c = H.n + 1 + 1 + 1 + 1 + 1 + 1 + 1 + 1 + 1 + 1) = False ∧ (b_c = H.n + 1 + 1 + 1 + 1 + 1 + 1 + 1 + 1 + 1 + 1 + 1) = False ∧ (b_c = H.n + 1 + 1 + 1 + 1 + 1 + 1 + 1 + 1 + 1 + 1 + 1 + 1) = False := ⟨eq_false (by omega), eq_false (by omega), eq_false (by omega), eq_false (by omega), eq_false (by omega), eq_false (by omega), eq_false (by omega), eq_false (by omega), eq_false (by omega), eq_false (by omega), eq_false (by omega)⟩
  have hne2_cp : (c_p = H.n + 1 + 1) = False ∧ (c_p = H.n + 1 + 1 + 1) = False ∧ (c_p = H.n + 1 + 1 + 1 + 1) = False ∧ (c_p = H.n + 1 + 1 + 1 + 1 + 1) = False ∧ (c_p = H.n + 1 + 1 + 1 + 1 + 1 + 1) = False ∧ (c_p = H.n + 1 + 1 + 1 + 1 + 1 + 1 + 1) = False ∧ (c_p = H.n + 1 + 1 + 1 + 1 + 1 + 1 + 1 + 1) = False ∧ (c_p = H.n + 1 + 1 + 1 + 1 + 1 + 1 + 1 + 1 + 1) = False ∧ (c_p = H.n + 1 + 1 + 1 + 1 + 1 + 1 + 1 + 1 + 1 + 1) = False ∧ (c_p = H.n + 1 + 1 + 1 + 1 + 1 + 1 + 1 + 1 + 1 + 1 + 1) = False ∧ (c_p = H.n + 1 + 1 + 1 + 1 + 1 + 1 + 1 + 1 + 1 + 1 + 1 + 1) = False := ⟨eq_false (by omega), eq_false (by omega), eq_false (by omega), eq_false (by omega), eq_false (by omega), eq_false (by omega), eq_false (by omega), eq_false (by omega), eq_false (by omega), eq_false (by omega), eq_false (by omega)⟩
  have hnq_c : (H.n = c_p) = False := eq_false (by omega)
  have hnq1_c : ∀ i, (H.n + i = c_p) = False := fun i => eq_false (by omega)
  have hnb_c : (H.n = b_c) = False := eq_false (by omega)
  have hnb1_c : ∀ i, (H.n + i = b_c) = False := fun i => eq_false (by omega)
  have hnr2_cp : (H.n + 1 + 1 = c_p) = False ∧ (H.n + 1 + 1 + 1 = c_p) = False ∧ (H.n + 1 + 1 + 1 + 1 = c_p) = False ∧ (H.n + 1 + 1 + 1 + 1 + 1 = c_p) = False ∧ (H.n + 1 + 1 + 1 + 1 + 1 + 1 = c_p) = False ∧ (H.n + 1 + 1 + 1 + 1 + 1 + 1 + 1 = c_p) = False ∧ (H.n + 1 + 1 + 1 + 1 + 1 + 1 + 1 + 1 = c_p) = False ∧ (H.n + 1 + 1 + 1 + 1 + 1 + 1 + 1 + 1 + 1 = c_p) = False ∧ (H.n + 1 + 1 + 1 + 1 + 1 + 1 + 1 + 1 + 1 + 1 = c_p) = False ∧ (H.n + 1 + 1 + 1 + 1 + 1 + 1 + 1 + 1 + 1 + 1 + 1 = c_p) = False ∧ (H.n + 1 + 1 + 1 + 1 + 1 + 1 + 1 + 1 + 1 + 1 + 1 + 1 = c_p) = False := ⟨eq_false (by omega), eq_false (by omega), eq_false (by omega), eq_false (by omega), eq_false (by omega), eq_false (by omega), eq_false (by omega), eq_false (by omega), eq_false (by omega), eq_false (by omega), eq_false (by omega)⟩
  have hnr2_c : (H.n + 1 + 1 = b_c) = False ∧ (H.n + 1 + 1 + 1 = b_c) = False ∧ (H.n + 1 + 1 + 1 + 1 = b_c) = False ∧ (H.n + 1 + 1 + 1 + 1 + 1 = b_c) = False ∧ (H.n + 1 + 1 + 1 + 1 + 1 + 1 = b_c) = False ∧ (H.n + 1 + 1 + 1 + 1 + 1 + 1 + 1 = b_c) = False ∧ (H.n + 1 + 1 + 1 + 1 + 1 + 1 + 1 + 1 = b_c) = False ∧ (H.n + 1 + 1 + 1 + 1 + 1 + 1 + 1 + 1 + 1 = b_c) = False ∧ (H.n + 1 + 1 + 1 + 1 + 1 + 1 + 1 + 1 + 1 + 1 = b_c) = False ∧ (H.n + 1 + 1 + 1 + 1 + 1 + 1 + 1 + 1 + 1 + 1 + 1 = b_c) = False ∧ (H.n + 1 + 1 + 1 + 1 + 1 + 1 + 1 + 1 + 1 + 1 + 1 + 1 = b_c) = False := ⟨eq_false (by omega), eq_false (by omega), eq_false (by omega), eq_false (by omega), eq_false (by omega), eq_false (by omega), eq_false (by omega), eq_false (by omega), eq_false (by omega), eq_false (by omega), eq_false (by omega)⟩
  have hmx_c : l_c.length ≤ 9223372036854775807 := by have h1 := (hwf b_c k_c hat_c.blk).2.2; have h2 := hat_c.len; omega
  have hl8 : a_c ≤ 800000000 := by omega
  simp (config := {contextual := true, implicitDefEqProofs := false, maxSteps := 2000000}) [-Int.not_le, -Int.not_lt, argsF, __spec_l1Cur__postmark11_c, onCur, dlI, dlT, hk_c, hcb_c, hbc_c, hbd_c, h0_c, hlim_c, hat_c.blk, hat_c.esz, hat_c.len, hat_c.els, hne_c, hnp_c, hne1_c, hnp1_c, hnq_c, hnq1_c, hnb_c, hnb1_c, hne2_c.1, hne2_c.2.1, hne2_c.2.2.1, hne2_c.2.2.2.1, hne2_c.2.2.2.2.1, hne2_c.2.2.2.2.2.1, hne2_c.2.2.2.2.2.2.1, hne2_c.2.2.2.2.2.2.2.1, hne2_c.2.2.2.2.2.2.2.2.1, hne2_c.2.2.2.2.2.2.2.2.2.1, hne2_c.2.2.2.2.2.2.2.2.2.2, hne2_cp.1, hne2_cp.2.1, hne2_cp.2.2.1, hne2_cp.2.2.2.1, hne2_cp.2.2.2.2.1, hne2_cp.2.2.2.2.2.1, hne2_cp.2.2.2.2.2.2.1, hne2_cp.2.2.2.2.2.2.2.1, hne2_cp.2.2.2.2.2.2.2.2.1, hne2_cp.2.2.2.2.2.2.2.2.2.1, hne2_cp.2.2.2.2.2.2.2.2.2.2, hnr2_c.1, hnr2_c.2.1, hnr2_c.2.2.1, hnr2_c.2.2.2.1, hnr2_c.2.2.2.2.1, hnr2_c.2.2.2.2.2.1, hnr2_c.2.2.2.2.2.2.1, hnr2_c.2.2.2.2.2.2.2.1, hnr2_c.2.2.2.2.2.2.2.2.1, hnr2_c.2.2.2.2.2.2.2.2.2.1, hnr2_c.2.2.2.2.2.2.2.2.2.2, hnr2_cp.1, hnr2_cp.2.1, hnr2_cp.2.2.1, hnr2_cp.2.2.2.1, hnr2_cp.2.2.2.2.1, hnr2_cp.2.2.2.2.2.1, hnr2_cp.2.2.2.2.2.2.1, hnr2_cp.2.2.2.2.2.2.2.1, hnr2_cp.2.2.2.2.2.2.2.2.1, hnr2_cp.2.2.2.2.2.2.2.2.2.1, hnr2_cp.2.2.2.2.2.2.2.2.2.2, hl8]
  refine Stop.mk fun town a1 s1 htl hl hu => ?_
  have hlA : 0 ≤ a1 ∧ a1 ≤ 900000000 := by omega
  simp (config := {contextual := true, implicitDefEqProofs := false, maxSteps := 2000000}) [-Int.not_le, -Int.not_lt, argsF, __spec_l1Cur__postmark11_c, onCur, dlI, dlT, hk_c, hcb_c, hbc_c, hbd_c, h0_c, hlim_c, hat_c.blk, hat_c.esz, hat_c.len, hat_c.els, hne_c, hnp_c, hne1_c, hnp1_c, hnq_c, hnq1_c, hnb_c, hnb1_c, hne2_c.1, hne2_c.2.1, hne2_c.2.2.1, hne2_c.2.2.2.1, hne2_c.2.2.2.2.1, hne2_c.2.2.2.2.2.1, hne2_c.2.2.2.2.2.2.1, hne2_c.2.2.2.2.2.2.2.1, hne2_c.2.2.2.2.2.2.2.2.1, hne2_c.2.2.2.2.2.2.2.2.2.1, hne2_c.2.2.2.2.2.2.2.2.2.2, hne2_cp.1, hne2_cp.2.1, hne2_cp.2.2.1, hne2_cp.2.2.2.1, hne2_cp.2.2.2.2.1, hne2_cp.2.2.2.2.2.1, hne2_cp.2.2.2.2.2.2.1, hne2_cp.2.2.2.2.2.2.2.1, hne2_cp.2.2.2.2.2.2.2.2.1, hne2_cp.2.2.2.2.2.2.2.2.2.1, hne2_cp.2.2.2.2.2.2.2.2.2.2, hnr2_c.1, hnr2_c.2.1, hnr2_c.2.2.1, hnr2_c.2.2.2.1, hnr2_c.2.2.2.2.1, hnr2_c.2.2.2.2.2.1, hnr2_c.2.2.2.2.2.2.1, hnr2_c.2.2.2.2.2.2.2.1, hnr2_c.2.2.2.2.2.2.2.2.1, hnr2_c.2.2.2.2.2.2.2.2.2.1, hnr2_c.2.2.2.2.2.2.2.2.2.2, hnr2_cp.1, hnr2_cp.2.1, hnr2_cp.2.2.1, hnr2_cp.2.2.2.1, hnr2_cp.2.2.2.2.1, hnr2_cp.2.2.2.2.2.1, hnr2_cp.2.2.2.2.2.2.1, hnr2_cp.2.2.2.2.2.2.2.1, hnr2_cp.2.2.2.2.2.2.2.2.1, hnr2_cp.2.2.2.2.2.2.2.2.2.1, hnr2_cp.2.2.2.2.2.2.2.2.2.2, hlA]
  refine Stop.mk fun kd a2 s2 hl2 hu2 hkd => ?_
  have hlB : 0 ≤ a2 ∧ a2 ≤ 900000000 := by omega
  simp (config := {contextual := true, implicitDefEqProofs := false, maxSteps := 2000000}) [-Int.not_le, -Int.not_lt, argsF, __spec_l1Cur__postmark11_c, onCur, dlI, dlT, hk_c, hcb_c, hbc_c, hbd_c, h0_c, hlim_c, hat_c.blk, hat_c.esz, hat_c.len, hat_c.els, hne_c, hnp_c, hne1_c, hnp1_c, hnq_c, hnq1_c, hnb_c, hnb1_c, hne2_c.1, hne2_c.2.1, hne2_c.2.2.1, hne2_c.2.2.2.1, hne2_c.2.2.2.2.1, hne2_c.2.2.2.2.2.1, hne2_c.2.2.2.2.2.2.1, hne2_c.2.2.2.2.2.2.2.1, hne2_c.2.2.2.2.2.2.2.2.1, hne2_c.2.2.2.2.2.2.2.2.2.1, hne2_c.2.2.2.2.2.2.2.2.2.2, hne2_cp.1, hne2_cp.2.1, hne2_cp.2.2.1, hne2_cp.2.2.2.1, hne2_cp.2.2.2.2.1, hne2_cp.2.2.2.2.2.1, hne2_cp.2.2.2.2.2.2.1, hne2_cp.2.2.2.2.2.2.2.1, hne2_cp.2.2.2.2.2.2.2.2.1, hne2_cp.2.2.2.2.2.2.2.2.2.1, hne2_cp.2.2.2.2.2.2.2.2.2.2, hnr2_c.1, hnr2_c.2.1, hnr2_c.2.2.1, hnr2_c.2.2.2.1, hnr2_c.2.2.2.2.1, hnr2_c.2.2.2.2.2.1, hnr2_c.2.2.2.2.2.2.1, hnr2_c.2.2.2.2.2.2.2.1, hnr2_c.2.2.2.2.2.2.2.2.1, hnr2_c.2.2.2.2.2.2.2.2.2.1, hnr2_c.2.2.2.2.2.2.2.2.2.2, hnr2_cp.1, hnr2_cp.2.1, hnr2_cp.2.2.1, hnr2_cp.2.2.2.1, hnr2_cp.2.2.2.2.1, hnr2_cp.2.2.2.2.2.1, hnr2_cp.2.2.2.2.2.2.1, hnr2_cp.2.2.2.2.2.2.2.1, hnr2_cp.2.2.2.2.2.2.2.2.1, hnr2_cp.2.2.2.2.2.2.2.2.2.1, hnr2_cp.2.2.2.2.2.2.2.2.2.2, hlB]
  refine Stop.mk fun first a3 s3 hfm hl3 hu3 => ?_
  have hlC : 0 ≤ a3 ∧ a3 ≤ 900000000 := by omega
  simp (config := {contextual := true, implicitDefEqProofs := false, maxSteps := 2000000}) [-Int.not_le, -Int.not_lt, argsF, __spec_l1Cur__postmark11_c, onCur, dlI, dlT, hk_c, hcb_c, hbc_c, hbd_c, h0_c, hlim_c, hat_c.blk, hat_c.esz, hat_c.len, hat_c.els, hne_c, hnp_c, hne1_c, hnp1_c, hnq_c, hnq1_c, hnb_c, hnb1_c, hne2_c.1, hne2_c.2.1, hne2_c.2.2.1, hne2_c.2.2.2.1, hne2_c.2.2.2.2.1, hne2_c.2.2.2.2.2.1, hne2_c.2.2.2.2.2.2.1, hne2_c.2.2.2.2.2.2.2.1, hne2_c.2.2.2.2.2.2.2.2.1, hne2_c.2.2.2.2.2.2.2.2.2.1, hne2_c.2.2.2.2.2.2.2.2.2.2, hne2_cp.1, hne2_cp.2.1, hne2_cp.2.2.1, hne2_cp.2.2.2.1, hne2_cp.2.2.2.2.1, hne2_cp.2.2.2.2.2.1, hne2_cp.2.2.2.2.2.2.1, hne2_cp.2.2.2.2.2.2.2.1, hne2_cp.2.2.2.2.2.2.2.2.1, hne2_cp.2.2.2.2.2.2.2.2.2.1, hne2_cp.2.2.2.2.2.2.2.2.2.2, hnr2_c.1, hnr2_c.2.1, hnr2_c.2.2.1, hnr2_c.2.2.2.1, hnr2_c.2.2.2.2.1, hnr2_c.2.2.2.2.2.1, hnr2_c.2.2.2.2.2.2.1, hnr2_c.2.2.2.2.2.2.2.1, hnr2_c.2.2.2.2.2.2.2.2.1, hnr2_c.2.2.2.2.2.2.2.2.2.1, hnr2_c.2.2.2.2.2.2.2.2.2.2, hnr2_cp.1, hnr2_cp.2.1, hnr2_cp.2.2.1, hnr2_cp.2.2.2.1, hnr2_cp.2.2.2.2.1, hnr2_cp.2.2.2.2.2.1, hnr2_cp.2.2.2.2.2.2.1, hnr2_cp.2.2.2.2.2.2.2.1, hnr2_cp.2.2.2.2.2.2.2.2.1, hnr2_cp.2.2.2.2.2.2.2.2.2.1, hnr2_cp.2.2.2.2.2.2.2.2.2.2, hlC]
  refine Stop.mk fun ad a4 s4 had hl4 hu4 => ?_
  have hlD : 0 ≤ a4 ∧ a4 ≤ 900000000 := by omega
  simp (config := {contextual := true, implicitDefEqProofs := false, maxSteps := 2000000}) [-Int.not_le, -Int.not_lt, argsF, __spec_l1Cur__postmark11_c, onCur, dlI, dlT, hk_c, hcb_c, hbc_c, hbd_c, h0_c, hlim_c, hat_c.blk, hat_c.esz, hat_c.len, hat_c.els, hne_c, hnp_c, hne1_c, hnp1_c, hnq_c, hnq1_c, hnb_c, hnb1_c, hne2_c.1, hne2_c.2.1, hne2_c.2.2.1, hne2_c.2.2.2.1, hne2_c.2.2.2.2.1, hne2_c.2.2.2.2.2.1, hne2_c.2.2.2.2.2.2.1, hne2_c.2.2.2.2.2.2.2.1, hne2_c.2.2.2.2.2.2.2.2.1, hne2_c.2.2.2.2.2.2.2.2.2.1, hne2_c.2.2.2.2.2.2.2.2.2.2, hne2_cp.1, hne2_cp.2.1, hne2_cp.2.2.1, hne2_cp.2.2.2.1, hne2_cp.2.2.2.2.1, hne2_cp.2.2.2.2.2.1, hne2_cp.2.2.2.2.2.2.1, hne2_cp.2.2.2.2.2.2.2.1, hne2_cp.2.2.2.2.2.2.2.2.1, hne2_cp.2.2.2.2.2.2.2.2.2.1, hne2_cp.2.2.2.2.2.2.2.2.2.2, hnr2_c.1, hnr2_c.2.1, hnr2_c.2.2.1, hnr2_c.2.2.2.1, hnr2_c.2.2.2.2.1, hnr2_c.2.2.2.2.2.1, hnr2_c.2.2.2.2.2.2.1, hnr2_c.2.2.2.2.2.2.2.1, hnr2_c.2.2.2.2.2.2.2.2.1, hnr2_c.2.2.2.2.2.2.2.2.2.1, hnr2_c.2.2.2.2.2.2.2.2.2.2, hnr2_cp.1, hnr2_cp.2.1, hnr2_cp.2.2.1, hnr2_cp.2.2.2.1, hnr2_cp.2.2.2.2.1, hnr2_cp.2.2.2.2.2.1, hnr2_cp.2.2.2.2.2.2.1, hnr2_cp.2.2.2.2.2.2.2.1, hnr2_cp.2.2.2.2.2.2.2.2.1, hnr2_cp.2.2.2.2.2.2.2.2.2.1, hnr2_cp.2.2.2.2.2.2.2.2.2.2, hlD]
  generalize (if IntKind.i64.wrap (first + ad) < 4000 then IntKind.i64.wrap (first + ad) else 4000) = last
  generalize IntKind.i64.wrap (1 + (kd : Int)) = kind
  refine aloop_gen (fun G => DP.Ok ⟨G, a4, s4, [], 0⟩ H c_p b_c i_c l_c.length a4 H.n (H.n + 1 + 1) id town kind first last) ⟨by simp only [push_n, set_n]; omega, by simp only [push_I, set_I], by simp [push_b, set_b, onCur, dlI, dlT, hk_c, hcb_c, hbc_c, hbd_c, h0_c, hlim_c, hat_c.blk, hat_c.esz, hat_c.len, hat_c.els, hne_c, hnp_c, hne1_c, hnp1_c, hnq_c, hnq1_c, hnb_c, hnb1_c, hne2_c.1, hne2_c.2.1, hne2_c.2.2.1, hne2_c.2.2.2.1, hne2_c.2.2.2.2.1, hne2_c.2.2.2.2.2.1, hne2_c.2.2.2.2.2.2.1, hne2_c.2.2.2.2.2.2.2.1, hne2_c.2.2.2.2.2.2.2.2.1, hne2_c.2.2.2.2.2.2.2.2.2.1, hne2_c.2.2.2.2.2.2.2.2.2.2, hne2_cp.1, hne2_cp.2.1, hne2_cp.2.2.1, hne2_cp.2.2.2.1, hne2_cp.2.2.2.2.1, hne2_cp.2.2.2.2.2.1, hne2_cp.2.2.2.2.2.2.1, hne2_cp.2.2.2.2.2.2.2.1, hne2_cp.2.2.2.2.2.2.2.2.1, hne2_cp.2.2.2.2.2.2.2.2.2.1, hne2_cp.2.2.2.2.2.2.2.2.2.2, hnr2_c.1, hnr2_c.2.1, hnr2_c.2.2.1, hnr2_c.2.2.2.1, hnr2_c.2.2.2.2.1, hnr2_c.2.2.2.2.2.1, hnr2_c.2.2.2.2.2.2.1, hnr2_c.2.2.2.2.2.2.2.1, hnr2_c.2.2.2.2.2.2.2.2.1, hnr2_c.2.2.2.2.2.2.2.2.2.1, hnr2_c.2.2.2.2.2.2.2.2.2.2, hnr2_cp.1, hnr2_cp.2.1, hnr2_cp.2.2.1, hnr2_cp.2.2.2.1, hnr2_cp.2.2.2.2.1, hnr2_cp.2.2.2.2.2.1, hnr2_cp.2.2.2.2.2.2.1, hnr2_cp.2.2.2.2.2.2.2.1, hnr2_cp.2.2.2.2.2.2.2.2.1, hnr2_cp.2.2.2.2.2.2.2.2.2.1, hnr2_cp.2.2.2.2.2.2.2.2.2.2], fun j hj hjc => by have hnj : (j = H.n) = False := eq_false (by omega); have hnj1 : ∀ i, (j = H.n + i) = False := fun i => eq_false (by omega); have hne2_j : (j = H.n + 1 + 1) = False ∧ (j = H.n + 1 + 1 + 1) = False ∧ (j = H.n + 1 + 1 + 1 + 1) = False ∧ (j = H.n + 1 + 1 + 1 + 1 + 1) = False ∧ (j = H.n + 1 + 1 + 1 + 1 + 1 + 1) = False ∧ (j = H.n + 1 + 1 + 1 + 1 + 1 + 1 + 1) = False ∧ (j = H.n + 1 + 1 + 1 + 1 + 1 + 1 + 1 + 1) = False ∧ (j = H.n + 1 + 1 + 1 + 1 + 1 + 1 + 1 + 1 + 1) = False ∧ (j = H.n + 1 + 1 + 1 + 1 + 1 + 1 + 1 + 1 + 1 + 1) = False ∧ (j = H.n + 1 + 1 + 1 + 1 + 1 + 1 + 1 + 1 + 1 + 1 + 1) = False ∧ (j = H.n + 1 + 1 + 1 + 1 + 1 + 1 + 1 + 1 + 1 + 1 + 1 + 1) = False := ⟨eq_false (by omega), eq_false (by omega), eq_false (by omega), eq_false (by omega), eq_false (by omega), eq_false (by omega), eq_false (by omega), eq_false (by omega), eq_false (by omega), eq_false (by omega), eq_false (by omega)⟩;  simp [push_b, set_b, hjc, hnj, hnj1, hne2_j.1, hne2_j.2.1, hne2_j.2.2.1, hne2_j.2.2.2.1, hne2_j.2.2.2.2.1, hne2_j.2.2.2.2.2.1, hne2_j.2.2.2.2.2.2.1, hne2_j.2.2.2.2.2.2.2.1, hne2_j.2.2.2.2.2.2.2.2.1, hne2_j.2.2.2.2.2.2.2.2.2.1, hne2_j.2.2.2.2.2.2.2.2.2.2], by simp [push_b, set_b, onCur, dlI, dlT, hk_c, hcb_c, hbc_c, hbd_c, h0_c, hlim_c, hat_c.blk, hat_c.esz, hat_c.len, hat_c.els, hne_c, hnp_c, hne1_c, hnp1_c, hnq_c, hnq1_c, hnb_c, hnb1_c, hne2_c.1, hne2_c.2.1, hne2_c.2.2.1, hne2_c.2.2.2.1, hne2_c.2.2.2.2.1, hne2_c.2.2.2.2.2.1, hne2_c.2.2.2.2.2.2.1, hne2_c.2.2.2.2.2.2.2.1, hne2_c.2.2.2.2.2.2.2.2.1, hne2_c.2.2.2.2.2.2.2.2.2.1, hne2_c.2.2.2.2.2.2.2.2.2.2, hne2_cp.1, hne2_cp.2.1, hne2_cp.2.2.1, hne2_cp.2.2.2.1, hne2_cp.2.2.2.2.1, hne2_cp.2.2.2.2.2.1, hne2_cp.2.2.2.2.2.2.1, hne2_cp.2.2.2.2.2.2.2.1, hne2_cp.2.2.2.2.2.2.2.2.1, hne2_cp.2.2.2.2.2.2.2.2.2.1, hne2_cp.2.2.2.2.2.2.2.2.2.2, hnr2_c.1, hnr2_c.2.1, hnr2_c.2.2.1, hnr2_c.2.2.2.1, hnr2_c.2.2.2.2.1, hnr2_c.2.2.2.2.2.1, hnr2_c.2.2.2.2.2.2.1, hnr2_c.2.2.2.2.2.2.2.1, hnr2_c.2.2.2.2.2.2.2.2.1, hnr2_c.2.2.2.2.2.2.2.2.2.1, hnr2_c.2.2.2.2.2.2.2.2.2.2, hnr2_cp.1, hnr2_cp.2.1, hnr2_cp.2.2.1, hnr2_cp.2.2.2.1, hnr2_cp.2.2.2.2.1, hnr2_cp.2.2.2.2.2.1, hnr2_cp.2.2.2.2.2.2.1, hnr2_cp.2.2.2.2.2.2.2.1, hnr2_cp.2.2.2.2.2.2.2.2.1, hnr2_cp.2.2.2.2.2.2.2.2.2.1, hnr2_cp.2.2.2.2.2.2.2.2.2.2]; rfl, by simp [push_b, set_b, onCur, dlI, dlT, hk_c, hcb_c, hbc_c, hbd_c, h0_c, hlim_c, hat_c.blk, hat_c.esz, hat_c.len, hat_c.els, hne_c, hnp_c, hne1_c, hnp1_c, hnq_c, hnq1_c, hnb_c, hnb1_c, hne2_c.1, hne2_c.2.1, hne2_c.2.2.1, hne2_c.2.2.2.1, hne2_c.2.2.2.2.1, hne2_c.2.2.2.2.2.1, hne2_c.2.2.2.2.2.2.1, hne2_c.2.2.2.2.2.2.2.1, hne2_c.2.2.2.2.2.2.2.2.1, hne2_c.2.2.2.2.2.2.2.2.2.1, hne2_c.2.2.2.2.2.2.2.2.2.2, hne2_cp.1, hne2_cp.2.1, hne2_cp.2.2.1, hne2_cp.2.2.2.1, hne2_cp.2.2.2.2.1, hne2_cp.2.2.2.2.2.1, hne2_cp.2.2.2.2.2.2.1, hne2_cp.2.2.2.2.2.2.2.1, hne2_cp.2.2.2.2.2.2.2.2.1, hne2_cp.2.2.2.2.2.2.2.2.2.1, hne2_cp.2.2.2.2.2.2.2.2.2.2, hnr2_c.1, hnr2_c.2.1, hnr2_c.2.2.1, hnr2_c.2.2.2.1, hnr2_c.2.2.2.2.1, hnr2_c.2.2.2.2.2.1, hnr2_c.2.2.2.2.2.2.1, hnr2_c.2.2.2.2.2.2.2.1, hnr2_c.2.2.2.2.2.2.2.2.1, hnr2_c.2.2.2.2.2.2.2.2.2.1, hnr2_c.2.2.2.2.2.2.2.2.2.2, hnr2_cp.1, hnr2_cp.2.1, hnr2_cp.2.2.1, hnr2_cp.2.2.2.1, hnr2_cp.2.2.2.2.1, hnr2_cp.2.2.2.2.2.1, hnr2_cp.2.2.2.2.2.2.1, hnr2_cp.2.2.2.2.2.2.2.1, hnr2_cp.2.2.2.2.2.2.2.2.1, hnr2_cp.2.2.2.2.2.2.2.2.2.1, hnr2_cp.2.2.2.2.2.2.2.2.2.2]; rfl, Int.le_refl _, by simp, Nat.le_refl _, Nat.zero_le _⟩ fun G hG => ?_
  refine aloop_heap (X := DP) (fun x => [(0, .c (.ptr c_p 0 0)), (4, .c (.ptr H.n 0 0)), (5, .c (.ptr (H.n + 1 + 1) 0 0)), (6, .c (.int .i64 ((x.i : Int))))]) (fun x => x.H) (fun x => x.Ok H c_p b_c i_c l_c.length a4 H.n (H.n + 1 + 1) id town kind first last) (fun x => town.length - x.i) hE _ ⟨G, a4, s4, [], 0⟩ hG (fun hw0 => by have q1 := (hw0 _ _ hG.zero).1; have q2 := (hw0 _ _ hG.box).1; exact .since hG.hn hw0 (.refl _) (by simp [frOk, AV.okR, AV.ok1, AC.okR, AV.ren, AV.ren1, AC.ren, AFrame.get, pl1_old, *]; first | done | omega)) (fun x hok hwx => ?_)
  have hxb : x.H.b b_c = some k_c := by rw [hok.old b_c hb_c (Ne.symm hcb_c)]; exact hat_c.blk
  have hzq := (hwx _ _ hok.zero).1
  have hbq := (hwx _ _ hok.box).1
  have a0 := hok.at0
  have a1' := hok.at1
  have ll := hok.lost
  have ii := hok.hi
  have hxl : 0 ≤ x.a ∧ x.a ≤ 900000000 := by omega
  have w1 : IntKind.i64.wrap ((x.i : Int) + 1) = (x.i : Int) + 1 := wrap_id (by omega) (by omega)
  have g0 : (H.n + 1 + 1 = c_p) = False := eq_false (by omega)
  have g1 : (c_p = H.n + 1 + 1) = False := eq_false (by omega)
  have g2 : (H.n = c_p) = False := eq_false (by omega)
  have g3 : (c_p = H.n) = False := eq_false (by omega)
  have gl : x.lost.length ≤ 9223372036854775806 := by omega
  have hxc := hok.cur
  have hxz := hok.zero
  have hxx := hok.box
  simp only [boxP] at hxx hxz
  by_cases hlt : x.i < town.length
  · have hlti : (x.i : Int) < (town.length : Int) := by omega
    by_cases hi0 : x.i = 0
    · have hi0' : ¬ 0 < x.i := by omega
      simp (config := {contextual := true, implicitDefEqProofs := false, maxSteps := 2000000}) [-Int.not_le, -Int.not_lt, argsF, __spec_l1Cur__postmark11_l0, hxc, hxb, hxz, hxx, hlti, hi0', w1, g0, g1, g2, g3, gl]
      exact ⟨fun hw => ⟨⟨_, x.a, x.s, x.lost ++ [46], x.i + 1⟩, hok.next0 hp_c (Nat.le_refl _) (by omega) 46 hlt, by simp only; omega, .since (by exact hok.hn) hw (.refl _) (by simp [frOk, AV.okR, AV.ok1, AC.okR, AV.ren, AV.ren1, AC.ren, AFrame.get, pl1_old, *]; first | done | omega)⟩⟩
    · have hi0' : 0 < x.i := by omega
      simp (config := {contextual := true, implicitDefEqProofs := false, maxSteps := 2000000}) [-Int.not_le, -Int.not_lt, argsF, __spec_l1Cur__postmark11_l0, onCur, dlI, dlT, hcb_c, hbc_c, hbd_c, hat_c.esz, hat_c.len, hat_c.els, hxc, hxb, hxz, hxx, hlti, hi0', hxl, w1, g0, g1, g2, g3, gl]
      refine Stop.mk fun o a5 s5 hl5 hu5 => ?_
      cases o with
      | true =>
        simp (config := {contextual := true, implicitDefEqProofs := false, maxSteps := 2000000}) [-Int.not_le, -Int.not_lt, argsF, __spec_l1Cur__postmark11_l0, hxc, hxb, hxz, hxx, w1, g0, g1, g2, g3, gl, hi0']
        exact ⟨fun hw => ⟨⟨_, a5, s5, x.lost ++ [120], x.i + 1⟩, hok.next hp_c (Nat.le_refl _) (by omega) hl5 hu5 120 hlt, by simp only; omega, .since (by exact hok.hn) hw (.refl _) (by simp [frOk, AV.okR, AV.ok1, AC.okR, AV.ren, AV.ren1, AC.ren, AFrame.get, pl1_old, *]; first | done | omega)⟩⟩
      | false =>
        simp (config := {contextual := true, implicitDefEqProofs := false, maxSteps := 2000000}) [-Int.not_le, -Int.not_lt, argsF, __spec_l1Cur__postmark11_l0, hxc, hxb, hxz, hxx, w1, g0, g1, g2, g3, gl, hi0']
        exact ⟨fun hw => ⟨⟨_, a5, s5, x.lost ++ [46], x.i + 1⟩, hok.next hp_c (Nat.le_refl _) (by omega) hl5 hu5 46 hlt, by simp only; omega, .since (by exact hok.hn) hw (.refl _) (by simp [frOk, AV.okR, AV.ok1, AC.okR, AV.ren, AV.ren1, AC.ren, AFrame.get, pl1_old, *]; first | done | omega)⟩⟩
  · have hlti : ¬ (x.i : Int) < (town.length : Int) := by omega
    have hnx : H.n + 1 + 1 < x.H.n := by omega
    simp (config := {contextual := true, implicitDefEqProofs := false, maxSteps := 2000000}) [-Int.not_le, -Int.not_lt, argsF, __spec_l1Cur__postmark11_l0, onCur, dlI, dlT, hcb_c, hbc_c, hbd_c, hat_c.esz, hat_c.len, hat_c.els, hxc, hxb, hxz, hxx, hlti, hxl, w1, g0, g1, g2, g3, gl]
    refine Stop.mk fun k a5 s5 hl5 hu5 hk => ?_
    have hlE : 0 ≤ a5 ∧ a5 ≤ 900000000 := by omega
    have p1 : (c_p = x.H.n) = False := eq_false (by omega)
    have p2 : (x.H.n = c_p) = False := eq_false (by omega)
    have p3 : (b_c = x.H.n) = False := eq_false (by omega)
    have p4 : (x.H.n = b_c) = False := eq_false (by omega)
    have p5 : (H.n = x.H.n) = False := eq_false (by omega)
    have p6 : (x.H.n = H.n) = False := eq_false (by omega)
    have p7 : (H.n + 1 + 1 = x.H.n) = False := eq_false (by omega)
    have p8 : (x.H.n = H.n + 1 + 1) = False := eq_false (by omega)
    have hbx : b_c < x.H.n := by omega
    rcases (show k = 0 ∨ k = 1 ∨ k = 2 ∨ k = 3 ∨ k = 4 ∨ k = 5 ∨ 6 ≤ k by omega) with rfl | rfl | rfl | rfl | rfl | rfl | hk6
    · simp (config := {contextual := true, implicitDefEqProofs := false, maxSteps := 2000000}) [-Int.not_le, -Int.not_lt, argsF, __spec_l1Cur__postmark11_c, onCur, dlI, dlT, hcb_c, hbc_c, hbd_c, hat_c.esz, hat_c.len, hat_c.els, hxc, hxb, hxz, hxx, g0, g1, g2, g3, p1, p2, p3, p4, p5, p6, p7, p8, hlE, wrap_id]
      refine Stop.mk fun y a6 s6 hy hl6 hu6 => ?_
      simp (config := {contextual := true, implicitDefEqProofs := false, maxSteps := 2000000}) [-Int.not_le, -Int.not_lt, argsF, __spec_l1Cur__postmark11_c, onCur, dlI, dlT, hcb_c, hbc_c, hbd_c, hat_c.esz, hat_c.len, hat_c.els, hxc, hxb, hxz, hxx, g0, g1, g2, g3, p1, p2, p3, p4, p5, p6, p7, p8, hlE, wrap_id]
      exact .old (H := H.set c_p _) (cur_wf hwf hk_c _ _) (cur_sub hwf hk_c (by simp only [push_n, set_n]; omega) (by simp only [push_I, set_I]; exact hok.hI) (by simp [push_b, set_b, g0, g1, g2, g3, p1, p2, p3, p4, p5, p6, p7, p8]; done) (fun j hj hjc => by have qj1 : (j = x.H.n) = False := eq_false (by omega); have qj2 : (j = H.n) = False := eq_false (by omega); have qj3 : (j = H.n + 1 + 1) = False := eq_false (by omega); simp [push_b, set_b, hjc, qj1, qj2, qj3, hok.old j hj hjc]; done)) (by simp [frOk, AV.okR, AV.ok1, AC.okR, AV.ren, AV.ren1, AC.ren, AFrame.get, pl1_old, *]; first | done | omega) (Stop.out h ⟨y, town, kind, first, last, x.lost⟩ a6 s6 ⟨by show town.length ≤ 1000; omega, by show x.lost.length ≤ 1000; omega⟩ (by omega) (by omega))
    · simp (config := {contextual := true, implicitDefEqProofs := false, maxSteps := 2000000}) [-Int.not_le, -Int.not_lt, argsF, __spec_l1Cur__postmark11_c, onCur, dlI, dlT, hcb_c, hbc_c, hbd_c, hat_c.esz, hat_c.len, hat_c.els, hxc, hxb, hxz, hxx, g0, g1, g2, g3, p1, p2, p3, p4, p5, p6, p7, p8, hlE, wrap_id]
      refine Stop.mk fun y a6 s6 hy hl6 hu6 => ?_
      simp (config := {contextual := true, implicitDefEqProofs := false, maxSteps := 2000000}) [-Int.not_le, -Int.not_lt, argsF, __spec_l1Cur__postmark11_c, onCur, dlI, dlT, hcb_c, hbc_c, hbd_c, hat_c.esz, hat_c.len, hat_c.els, hxc, hxb, hxz, hxx, g0, g1, g2, g3, p1, p2, p3, p4, p5, p6, p7, p8, hlE, wrap_id]
      exact .old (H := H.set c_p _) (cur_wf hwf hk_c _ _) (cur_sub hwf hk_c (by simp only [push_n, set_n]; omega) (by simp only [push_I, set_I]; exact hok.hI) (by simp [push_b, set_b, g0, g1, g2, g3, p1, p2, p3, p4, p5, p6, p7, p8]; done) (fun j hj hjc => by have qj1 : (j = x.H.n) = False := eq_false (by omega); have qj2 : (j = H.n) = False := eq_false (by omega); have qj3 : (j = H.n + 1 + 1) = False := eq_false (by omega); simp [push_b, set_b, hjc, qj1, qj2, qj3, hok.old j hj hjc]; done)) (by simp [frOk, AV.okR, AV.ok1, AC.okR, AV.ren, AV.ren1, AC.ren, AFrame.get, pl1_old, *]; first | done | omega) (Stop.out h ⟨id, y, kind, first, last, x.lost⟩ a6 s6 ⟨by show y.length ≤ 1000; simp only [List.mem_cons, List.not_mem_nil, or_false] at hy; rcases hy with rfl | rfl | rfl <;> decide, by show x.lost.length ≤ 1000; omega⟩ (by omega) (by omega))
    · simp (config := {contextual := true, implicitDefEqProofs := false, maxSteps := 2000000}) [-Int.not_le, -Int.not_lt, argsF, __spec_l1Cur__postmark11_c, onCur, dlI, dlT, hcb_c, hbc_c, hbd_c, hat_c.esz, hat_c.len, hat_c.els, hxc, hxb, hxz, hxx, g0, g1, g2, g3, p1, p2, p3, p4, p5, p6, p7, p8, hlE, wrap_id]
      refine Stop.mk fun y a6 s6 hy hl6 hu6 => ?_
      simp (config := {contextual := true, implicitDefEqProofs := false, maxSteps := 2000000}) [-Int.not_le, -Int.not_lt, argsF, __spec_l1Cur__postmark11_c, onCur, dlI, dlT, hcb_c, hbc_c, hbd_c, hat_c.esz, hat_c.len, hat_c.els, hxc, hxb, hxz, hxx, g0, g1, g2, g3, p1, p2, p3, p4, p5, p6, p7, p8, hlE, wrap_id]
      exact .old (H := H.set c_p _) (cur_wf hwf hk_c _ _) (cur_sub hwf hk_c (by simp only [push_n, set_n]; omega) (by simp only [push_I, set_I]; exact hok.hI) (by simp [push_b, set_b, g0, g1, g2, g3, p1, p2, p3, p4, p5, p6, p7, p8]; done) (fun j hj hjc => by have qj1 : (j = x.H.n) = False := eq_false (by omega); have qj2 : (j = H.n) = False := eq_false (by omega); have qj3 : (j = H.n + 1 + 1) = False := eq_false (by omega); simp [push_b, set_b, hjc, qj1, qj2, qj3, hok.old j hj hjc]; done)) (by simp [frOk, AV.okR, AV.ok1, AC.okR, AV.ren, AV.ren1, AC.ren, AFrame.get, pl1_old, *]; first | done | omega) (Stop.out h ⟨id, town, y, first, last, x.lost⟩ a6 s6 ⟨by show town.length ≤ 1000; omega, by show x.lost.length ≤ 1000; omega⟩ (by omega) (by omega))
    · simp (config := {contextual := true, implicitDefEqProofs := false, maxSteps := 2000000}) [-Int.not_le, -Int.not_lt, argsF, __spec_l1Cur__postmark11_c, onCur, dlI, dlT, hcb_c, hbc_c, hbd_c, hat_c.esz, hat_c.len, hat_c.els, hxc, hxb, hxz, hxx, g0, g1, g2, g3, p1, p2, p3, p4, p5, p6, p7, p8, hlE, wrap_id]
      refine Stop.mk fun y a6 s6 hy hl6 hu6 => ?_
      simp (config := {contextual := true, implicitDefEqProofs := false, maxSteps := 2000000}) [-Int.not_le, -Int.not_lt, argsF, __spec_l1Cur__postmark11_c, onCur, dlI, dlT, hcb_c, hbc_c, hbd_c, hat_c.esz, hat_c.len, hat_c.els, hxc, hxb, hxz, hxx, g0, g1, g2, g3, p1, p2, p3, p4, p5, p6, p7, p8, hlE, wrap_id]
      exact .old (H := H.set c_p _) (cur_wf hwf hk_c _ _) (cur_sub hwf hk_c (by simp only [push_n, set_n]; omega) (by simp only [push_I, set_I]; exact hok.hI) (by simp [push_b, set_b, g0, g1, g2, g3, p1, p2, p3, p4, p5, p6, p7, p8]; done) (fun j hj hjc => by have qj1 : (j = x.H.n) = False := eq_false (by omega); have qj2 : (j = H.n) = False := eq_false (by omega); have qj3 : (j = H.n + 1 + 1) = False := eq_false (by omega); simp [push_b, set_b, hjc, qj1, qj2, qj3, hok.old j hj hjc]; done)) (by simp [frOk, AV.okR, AV.ok1, AC.okR, AV.ren, AV.ren1, AC.ren, AFrame.get, pl1_old, *]; first | done | omega) (Stop.out h ⟨id, town, kind, y, last, x.lost⟩ a6 s6 ⟨by show town.length ≤ 1000; omega, by show x.lost.length ≤ 1000; omega⟩ (by omega) (by omega))
    · simp (config := {contextual := true, implicitDefEqProofs := false, maxSteps := 2000000}) [-Int.not_le, -Int.not_lt, argsF, __spec_l1Cur__postmark11_c, onCur, dlI, dlT, hcb_c, hbc_c, hbd_c, hat_c.esz, hat_c.len, hat_c.els, hxc, hxb, hxz, hxx, g0, g1, g2, g3, p1, p2, p3, p4, p5, p6, p7, p8, hlE, wrap_id]
      exact .old (H := H.set c_p _) (cur_wf hwf hk_c _ _) (cur_sub hwf hk_c (by simp only [push_n, set_n]; omega) (by simp only [push_I, set_I]; exact hok.hI) (by simp [push_b, set_b, g0, g1, g2, g3, p1, p2, p3, p4, p5, p6, p7, p8]; done) (fun j hj hjc => by have qj1 : (j = x.H.n) = False := eq_false (by omega); have qj2 : (j = H.n) = False := eq_false (by omega); have qj3 : (j = H.n + 1 + 1) = False := eq_false (by omega); simp [push_b, set_b, hjc, qj1, qj2, qj3, hok.old j hj hjc]; done)) (by simp [frOk, AV.okR, AV.ok1, AC.okR, AV.ren, AV.ren1, AC.ren, AFrame.get, pl1_old, *]; first | done | omega) (Stop.out h ⟨id, town, kind, first, 4001, x.lost⟩ a5 s5 ⟨by show town.length ≤ 1000; omega, by show x.lost.length ≤ 1000; omega⟩ (by omega) (by omega))
    · simp (config := {contextual := true, implicitDefEqProofs := false, maxSteps := 2000000}) [-Int.not_le, -Int.not_lt, argsF, __spec_l1Cur__postmark11_c, onCur, dlI, dlT, hcb_c, hbc_c, hbd_c, hat_c.esz, hat_c.len, hat_c.els, hxc, hxb, hxz, hxx, g0, g1, g2, g3, p1, p2, p3, p4, p5, p6, p7, p8, hlE, wrap_id]
      refine Stop.mk fun y a6 s6 hy hl6 hu6 => ?_
      simp (config := {contextual := true, implicitDefEqProofs := false, maxSteps := 2000000}) [-Int.not_le, -Int.not_lt, argsF, __spec_l1Cur__postmark11_c, onCur, dlI, dlT, hcb_c, hbc_c, hbd_c, hat_c.esz, hat_c.len, hat_c.els, hxc, hxb, hxz, hxx, g0, g1, g2, g3, p1, p2, p3, p4, p5, p6, p7, p8, hlE, wrap_id]
      exact .old (H := H.set c_p _) (cur_wf hwf hk_c _ _) (cur_sub hwf hk_c (by simp only [push_n, set_n]; omega) (by simp only [push_I, set_I]; exact hok.hI) (by simp [push_b, set_b, g0, g1, g2, g3, p1, p2, p3, p4, p5, p6, p7, p8]; done) (fun j hj hjc => by have qj1 : (j = x.H.n) = False := eq_false (by omega); have qj2 : (j = H.n) = False := eq_false (by omega); have qj3 : (j = H.n + 1 + 1) = False := eq_false (by omega); simp [push_b, set_b, hjc, qj1, qj2, qj3, hok.old j hj hjc]; done)) (by simp [frOk, AV.okR, AV.ok1, AC.okR, AV.ren, AV.ren1, AC.ren, AFrame.get, pl1_old, *]; first | done | omega) (Stop.out h ⟨id, town, kind, first, last, y⟩ a6 s6 ⟨by show town.length ≤ 1000; omega, by show y.length ≤ 1000; simp only [List.mem_cons, List.not_mem_nil, or_false] at hy; rcases hy with rfl | rfl | rfl | rfl <;> decide⟩ (by omega) (by omega))
    · have k0 : ((k : Int) = 0) = False := eq_false (by omega)
      have k0' : (k = 0) = False := eq_false (by omega)
      have k1 : ((k : Int) = 1) = False := eq_false (by omega)
      have k2 : ((k : Int) = 2) = False := eq_false (by omega)
      have k3 : ((k : Int) = 3) = False := eq_false (by omega)
      have k4 : ((k : Int) = 4) = False := eq_false (by omega)
      have k5 : ((k : Int) = 5) = False := eq_false (by omega)
      simp (config := {contextual := true, implicitDefEqProofs := false, maxSteps := 2000000}) [-Int.not_le, -Int.not_lt, argsF, __spec_l1Cur__postmark11_c, onCur, dlI, dlT, hcb_c, hbc_c, hbd_c, hat_c.esz, hat_c.len, hat_c.els, hxc, hxb, hxz, hxx, g0, g1, g2, g3, p1, p2, p3, p4, p5, p6, p7, p8, hlE, wrap_id, k0, k0', k1, k2, k3, k4, k5]
      exact .old (H := H.set c_p _) (cur_wf hwf hk_c _ _) (cur_sub hwf hk_c (by simp only [push_n, set_n]; omega) (by simp only [push_I, set_I]; exact hok.hI) (by simp [push_b, set_b, g0, g1, g2, g3, p1, p2, p3, p4, p5, p6, p7, p8]; done) (fun j hj hjc => by have qj1 : (j = x.H.n) = False := eq_false (by omega); have qj2 : (j = H.n) = False := eq_false (by omega); have qj3 : (j = H.n + 1 + 1) = False := eq_false (by omega); simp [push_b, set_b, hjc, qj1, qj2, qj3, hok.old j hj hjc]; done)) (by simp [frOk, AV.okR, AV.ok1, AC.okR, AV.ren, AV.ren1, AC.ren, AFrame.get, pl1_old, *]; first | done | omega) (Stop.out h ⟨id, town, kind, first, last, x.lost⟩ a5 s5 ⟨by show town.length ≤ 1000; omega, by show x.lost.length ≤ 1000; omega⟩ (by omega) (by omega))

end Go.Proofs.YtnehhdcaknppnaaDoor
