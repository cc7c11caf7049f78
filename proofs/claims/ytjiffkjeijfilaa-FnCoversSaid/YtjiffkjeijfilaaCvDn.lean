/- The draw of a timetable. -/
import Derived.Test.YtjiffkjeijfilaaCvDm
set_option maxRecDepth 8000
set_option linter.unusedSimpArgs false
set_option linter.unusedVariables false
namespace Go.Proofs.Ytjiffkjeijfilaa
open Go Go.RowKit

set_option maxHeartbeats 4000000

structure DMa where
  H : AHeap
  a : Int
  s : Int
  out : List Ma
  ob : Nat
  z : Nat
  g : Nat
structure DMa.Ok (x : DMa) (H : AHeap) (c b i n : Nat) (a up : Int) (ln : Nat) : Prop where
  hn : H.n ≤ x.H.n
  hI : x.H.I = H.I
  cur : x.H.b c = some (curK b i n x.a x.s)
  old : ∀ j k, j ≠ c → H.b j = some k → x.H.b j = some k
  row : x.H.b x.ob = some (rowK eMa 113 x.out)
  hob : H.n ≤ x.ob
  at0 : a ≤ x.a
  at1 : x.a ≤ up
  len : x.out.length ≤ ln
theorem DMa.Ok.more {x : DMa} {H : AHeap} {c b i n ln ln' : Nat} {a up up' : Int} (h : x.Ok H c b i n a up ln) (h1 : up ≤ up') (h2 : ln ≤ ln') (z g : Nat) : DMa.Ok ⟨x.H, x.a, x.s, x.out, x.ob, z, g⟩ H c b i n a up' ln' :=
  ⟨h.hn, h.hI, h.cur, h.old, h.row, h.hob, h.at0, Int.le_trans h.at1 h1, Nat.le_trans h.len h2⟩

theorem push_topM (G : AHeap) (k : ABlk) {m : Nat} (hm : m = G.n) : (G.push k).b m = some k := by rw [push_b, if_pos hm]
theorem insM {l : List Ma} {m : Ma} {i : Nat} (h : i + 1 ≤ l.length) : List.take (i + 1 + 1) (List.take (i + 1) (List.take (i + 1) (List.map eMa.cells l)) ++ [eMa.cells m]) ++ List.take (l.length - (i + 1)) (List.drop (i + 1) (List.map eMa.cells l)) = List.map eMa.cells (l.take (i + 1) ++ m :: l.drop (i + 1)) := by
  have hL : (List.map eMa.cells l).length = l.length := List.length_map ..
  have h1 : List.take (i + 1 + 1) (List.take (i + 1) (List.map eMa.cells l) ++ [eMa.cells m]) = List.take (i + 1) (List.map eMa.cells l) ++ [eMa.cells m] := List.take_of_length_le (by rw [List.length_append, List.length_take, hL, List.length_singleton]; omega)
  have h2 : List.take (l.length - (i + 1)) (List.drop (i + 1) (List.map eMa.cells l)) = List.drop (i + 1) (List.map eMa.cells l) := List.take_of_length_le (by rw [List.length_drop, hL]; omega)
  rw [List.take_take, Nat.min_self, h1, h2, List.map_append, List.map_take, List.map_cons, List.map_drop, List.append_assoc]
  rfl

def q_tt : Con := fun args H K => match args with
  | [.c (.ptr c_p 0 0)] => onCur H c_p 600000000 fun b_c i_c n_c a_c s_c => Stop (∀ (ps : List Ma) (a' s' : Int), ps.length ≤ 40 → a_c ≤ a' → a' ≤ a_c + 5000 → K (.c (.sl (H.n) (0) (ps.length))) ((H.set c_p (curK b_c i_c n_c a' s')).push (rowK eMa 113 ps))) ()
  | _ => False
@[simp ↓] theorem q_tt_eq (c_p : Nat) (H : AHeap) (K : AV → AHeap → Prop) : q_tt [.c (.ptr c_p 0 0)] H K = (onCur H c_p 600000000 fun b_c i_c n_c a_c s_c => Stop (∀ (ps : List Ma) (a' s' : Int), ps.length ≤ 40 → a_c ≤ a' → a' ≤ a_c + 5000 → K (.c (.sl (H.n) (0) (ps.length))) ((H.set c_p (curK b_c i_c n_c a' s')).push (rowK eMa 113 ps))) ()) := rfl

theorem spec_l1Cur__timetable_s : Sound Try.prog 68 q_tt := by
  intro args H K h
  unfold q_tt at h
  split at h
  rotate_left
  all_goals first | exact False.elim h | skip
  rename_i c_p
  have h1 := onCur_iff.1 h
  clear h
  obtain ⟨b_c, i_c, n_c, a_c, s_c, k_c, l_c, hk_c, hcb_c, h0_c, hlim_c, hat_c, rfl, h⟩ := h1
  have hE := soundE_cons spec_l1Cur__pick_s (soundE_cons spec_l1Cur__mail_s (soundE_cons spec_l9One_s (soundE_cons spec_l1Cur__one_s (soundE_cons spec_l9Code_s (soundE_nil (P := Try.prog))))))
  refine acalls_fn __spec_l1Cur__timetable_k hE ⟨by simp, fun hwf => ?_⟩
  have hb_c : b_c < H.n := (hwf b_c k_c hat_c.blk).1
  have hp_c : c_p < H.n := (hwf c_p _ hk_c).1
  have hbc_c : (b_c = c_p) = False := eq_false (Ne.symm hcb_c)
  have hbd_c : (c_p = b_c) = False := eq_false hcb_c
  have hne_c : (b_c = H.n) = False := eq_false (by omega)
  have hnp_c : (c_p = H.n) = False := eq_false (by omega)
  have hne1_c : ∀ i, (b_c = H.n + i) = False := fun i => eq_false (by omega)
  have hnp1_c : ∀ i, (c_p = H.n + i) = False := fun i => eq_false (by omega)
  have hne2_c : (b_c = H.n + 1 + 1) = False ∧ (b_c = H.n + 1 + 1 + 1) = False ∧ (b_c = H.n + 1 + 1 + 1 + 1) = False ∧ (b_c = H.n + 1 + 1 + 1 + 1 + 1) = False ∧ (b_c = H.n + 1 + 1 + 1 + 1 + 1 + 1) = False ∧ (b_c = H.n + 1 + 1 + 1 + 1 + 1 + 1 + 1) = False ∧ (b_c = H.n + 1 + 1 + 1 + 1 + 1 + 1 + 1 + 1) = False ∧ (b_c = H.n + 1 + 1 + 1 + 1 + 1 + 1 + 1 + 1 + 1) = False ∧ (b_c = H.n + 1 + 1 + 1 + 1 + 1 + 1 + 1 + 1 + 1 + 1) = False ∧ (b_c = H.n + 1 + 1 + 1 + 1 + 1 + 1 + 1 + 1 + 1 + 1 + 1) = False ∧ (b_c = H.n + 1 + 1 + 1 + 1 + 1 + 1 + 1 + 1 + 1 + 1 + 1 + 1) = False := ⟨eq_false (by omega), eq_false (by omega), eq_false (by omega), eq_false (by omega), eq_false (by omega), eq_false (by omega), eq_false (by omega), eq_false (by omega), eq_false (by omega), eq_false (by omega), eq_false (by omega)⟩
  have hne2_cp : (c_p = H.n + 1 + 1) = False ∧ (c_p = H.n + 1 + 1 + 1) = False ∧ (c_p = H.n + 1 + 1 + 1 + 1) = False ∧ (c_p = H.n + 1 + 1 + 1 + 1 + 1) = False ∧ (c_p = H.n + 1 + 1 + 1 + 1 + 1 + 1) = False ∧ (c_p = H.n + 1 + 1 + 1 + 1 + 1 + 1 + 1) = False ∧ (c_p = H.n + 1 + 1 + 1 + 1 + 1 + 1 + 1 + 1) = False ∧ (c_p = H.n + 1 + 1 + 1 + 1 + 1 + 1 + 1 + 1 + 1) = False ∧ (c_p = H.n + 1 + 1 + 1 + 1 + 1 + 1 + 1 + 1 + 1 + 1) = False ∧ (c_p = H.n + 1 + 1 + 1 + 1 + 1 + 1 + 1 + 1 + 1 + 1 + 1) = False ∧ (c_p = H.n + 1 + 1 + 1 + 1 + 1 + 1 + 1 + 1 + 1 + 1 + 1 + 1) = False := ⟨eq_false (by omega), eq_false (by omega), eq_false (by omega), eq_false (by omega), eq_false (by omega), eq_false (by omega), eq_false (by omega), eq_false (by omega), eq_false (by omega), eq_false (by omega), eq_false (by omega)⟩
  have hnq_c : (H.n = c_p) = False := eq_false (by omega)
  have hnq1_c : ∀ i, (H.n + i = c_p) = False := fun i => eq_false (by omega)
  have hnb_c : (H.n = b_c) = False := eq_false (by omega)
  have hnb1_c : ∀ i, (H.n + i = b_c) = False := fun i => eq_false (by omega)
  have hnr2_cp : (H.n + 1 + 1 = c_p) = False ∧ (H.n + 1 + 1 + 1 = c_p) = False ∧ (H.n + 1 + 1 + 1 + 1 = c_p) = False ∧ (H.n + 1 + 1 + 1 + 1 + 1 = c_p) = False ∧ (H.n + 1 + 1 + 1 + 1 + 1 + 1 = c_p) = False ∧ (H.n + 1 + 1 + 1 + 1 + 1 + 1 + 1 = c_p) = False ∧ (H.n + 1 + 1 + 1 + 1 + 1 + 1 + 1 + 1 = c_p) = False ∧ (H.n + 1 + 1 + 1 + 1 + 1 + 1 + 1 + 1 + 1 = c_p) = False ∧ (H.n + 1 + 1 + 1 + 1 + 1 + 1 + 1 + 1 + 1 + 1 = c_p) = False ∧ (H.n + 1 + 1 + 1 + 1 + 1 + 1 + 1 + 1 + 1 + 1 + 1 = c_p) = False ∧ (H.n + 1 + 1 + 1 + 1 + 1 + 1 + 1 + 1 + 1 + 1 + 1 + 1 = c_p) = False := ⟨eq_false (by omega), eq_false (by omega), eq_false (by omega), eq_false (by omega), eq_false (by omega), eq_false (by omega), eq_false (by omega), eq_false (by omega), eq_false (by omega), eq_false (by omega), eq_false (by omega)⟩
  have hnr2_c : (H.n + 1 + 1 = b_c) = False ∧ (H.n + 1 + 1 + 1 = b_c) = False ∧ (H.n + 1 + 1 + 1 + 1 = b_c) = False ∧ (H.n + 1 + 1 + 1 + 1 + 1 = b_c) = False ∧ (H.n + 1 + 1 + 1 + 1 + 1 + 1 = b_c) = False ∧ (H.n + 1 + 1 + 1 + 1 + 1 + 1 + 1 = b_c) = False ∧ (H.n + 1 + 1 + 1 + 1 + 1 + 1 + 1 + 1 = b_c) = False ∧ (H.n + 1 + 1 + 1 + 1 + 1 + 1 + 1 + 1 + 1 = b_c) = False ∧ (H.n + 1 + 1 + 1 + 1 + 1 + 1 + 1 + 1 + 1 + 1 = b_c) = False ∧ (H.n + 1 + 1 + 1 + 1 + 1 + 1 + 1 + 1 + 1 + 1 + 1 = b_c) = False ∧ (H.n + 1 + 1 + 1 + 1 + 1 + 1 + 1 + 1 + 1 + 1 + 1 + 1 = b_c) = False := ⟨eq_false (by omega), eq_false (by omega), eq_false (by omega), eq_false (by omega), eq_false (by omega), eq_false (by omega), eq_false (by omega), eq_false (by omega), eq_false (by omega), eq_false (by omega), eq_false (by omega)⟩
  have hmx_c : l_c.length ≤ 9223372036854775807 := by have h1 := (hwf b_c k_c hat_c.blk).2.2; have h2 := hat_c.len; omega
  have key4 : ∀ {Q : Exit → AFrame → AHeap → Prop} (w : DMa) (bx k : Nat) (m : Ma) (zz : Int) (F : AFrame) (up : Int) (ln : Nat), w.Ok H c_p b_c i_c l_c.length a_c up ln → up ≤ a_c + 1000 → ln ≤ 20 → w.ob < w.H.n → w.H.b bx = some ⟨113, 4, false, false, [eMa.cells m]⟩ → H.n ≤ bx → bx < w.H.n → bx ≠ w.ob → k ≤ w.out.length →
      F.keep [0, 3, 4, 5, 6] = [(0, .c (.ptr c_p 0 0)), (3, .c (.sl (w.ob) (0) (w.out.length))), (4, .c (.int .i64 (zz))), (5, .c (.ptr bx 0 0)), (6, .c (.int .i64 ((k : Int))))] → (∀ (w' : DMa) (F' : AFrame), w'.Ok H c_p b_c i_c l_c.length a_c up (ln + 1) → w'.ob < w'.H.n → F'.keep [0, 3, 4] = [(0, .c (.ptr c_p 0 0)), (3, .c (.sl (w'.ob) (0) (w'.out.length))), (4, .c (.int .i64 (zz)))] → Q .normal F' w'.H) → avc Try.prog [(89, q_cpick), (122, q_mail), (123, q_isMa), (120, q_one), (124, q_codeMa)] 92 H.n __spec_l1Cur__timetable_r4 F w.H Q := by
    intro Q w bx k m zz F up ln how hup hln hbq_w hbx hbn hbl hbo hkl hF hQ
    refine (show avc _ _ _ _ _ _ _ _ = _ from avc_cut _ _).mpr ?_
    rw [hF]
    have hxb_w : w.H.b b_c = some k_c := how.old b_c k_c (Ne.symm hcb_c) hat_c.blk
    have hxc_w := how.cur
    have hxr_w := how.row
    have hob_w := how.hob
    have a0_w := how.at0
    have a1_w := how.at1
    have hln_w := how.len
    have hnx_w := how.hn
    have hbx_w : b_c < w.H.n := by omega
    have hcx_w : c_p < w.H.n := by omega
    have r0_w : (w.ob = c_p) = False := eq_false (by omega)
    have r1_w : (c_p = w.ob) = False := eq_false (by omega)
    have r2_w : (w.ob = b_c) = False := eq_false (by omega)
    have r3_w : (b_c = w.ob) = False := eq_false (by omega)
    have hlB_w : 0 ≤ w.a ∧ w.a ≤ 700000000 := by omega
    have hlC_w : w.a ≤ 900000000 := by omega
    have pw00 : (c_p = w.H.n) = False := eq_false (by omega)
    have qw00 : (w.H.n = c_p) = False := eq_false (by omega)
    have pw01 : (c_p = w.H.n + 1) = False := eq_false (by omega)
    have qw01 : (w.H.n + 1 = c_p) = False := eq_false (by omega)
    have pw02 : (c_p = w.H.n + 1 + 1) = False := eq_false (by omega)
    have qw02 : (w.H.n + 1 + 1 = c_p) = False := eq_false (by omega)
    have pw03 : (c_p = w.H.n + 1 + 1 + 1) = False := eq_false (by omega)
    have qw03 : (w.H.n + 1 + 1 + 1 = c_p) = False := eq_false (by omega)
    have pw04 : (c_p = w.H.n + 1 + 1 + 1 + 1) = False := eq_false (by omega)
    have qw04 : (w.H.n + 1 + 1 + 1 + 1 = c_p) = False := eq_false (by omega)
    have pw05 : (c_p = w.H.n + 1 + 1 + 1 + 1 + 1) = False := eq_false (by omega)
    have qw05 : (w.H.n + 1 + 1 + 1 + 1 + 1 = c_p) = False := eq_false (by omega)
    have pw06 : (c_p = w.H.n + 1 + 1 + 1 + 1 + 1 + 1) = False := eq_false (by omega)
    have qw06 : (w.H.n + 1 + 1 + 1 + 1 + 1 + 1 = c_p) = False := eq_false (by omega)
    have pw07 : (c_p = w.H.n + 1 + 1 + 1 + 1 + 1 + 1 + 1) = False := eq_false (by omega)
    have qw07 : (w.H.n + 1 + 1 + 1 + 1 + 1 + 1 + 1 = c_p) = False := eq_false (by omega)
    have pw10 : (b_c = w.H.n) = False := eq_false (by omega)
    have qw10 : (w.H.n = b_c) = False := eq_false (by omega)
    have pw11 : (b_c = w.H.n + 1) = False := eq_false (by omega)
    have qw11 : (w.H.n + 1 = b_c) = False := eq_false (by omega)
    have pw12 : (b_c = w.H.n + 1 + 1) = False := eq_false (by omega)
    have qw12 : (w.H.n + 1 + 1 = b_c) = False := eq_false (by omega)
    have pw13 : (b_c = w.H.n + 1 + 1 + 1) = False := eq_false (by omega)
    have qw13 : (w.H.n + 1 + 1 + 1 = b_c) = False := eq_false (by omega)
    have pw14 : (b_c = w.H.n + 1 + 1 + 1 + 1) = False := eq_false (by omega)
    have qw14 : (w.H.n + 1 + 1 + 1 + 1 = b_c) = False := eq_false (by omega)
    have pw15 : (b_c = w.H.n + 1 + 1 + 1 + 1 + 1) = False := eq_false (by omega)
    have qw15 : (w.H.n + 1 + 1 + 1 + 1 + 1 = b_c) = False := eq_false (by omega)
    have pw16 : (b_c = w.H.n + 1 + 1 + 1 + 1 + 1 + 1) = False := eq_false (by omega)
    have qw16 : (w.H.n + 1 + 1 + 1 + 1 + 1 + 1 = b_c) = False := eq_false (by omega)
    have pw17 : (b_c = w.H.n + 1 + 1 + 1 + 1 + 1 + 1 + 1) = False := eq_false (by omega)
    have qw17 : (w.H.n + 1 + 1 + 1 + 1 + 1 + 1 + 1 = b_c) = False := eq_false (by omega)
    have pw20 : (w.ob = w.H.n) = False := eq_false (by omega)
    have qw20 : (w.H.n = w.ob) = False := eq_false (by omega)
    have pw21 : (w.ob = w.H.n + 1) = False := eq_false (by omega)
    have qw21 : (w.H.n + 1 = w.ob) = False := eq_false (by omega)
    have pw22 : (w.ob = w.H.n + 1 + 1) = False := eq_false (by omega)
    have qw22 : (w.H.n + 1 + 1 = w.ob) = False := eq_false (by omega)
    have pw23 : (w.ob = w.H.n + 1 + 1 + 1) = False := eq_false (by omega)
    have qw23 : (w.H.n + 1 + 1 + 1 = w.ob) = False := eq_false (by omega)
    have pw24 : (w.ob = w.H.n + 1 + 1 + 1 + 1) = False := eq_false (by omega)
    have qw24 : (w.H.n + 1 + 1 + 1 + 1 = w.ob) = False := eq_false (by omega)
    have pw25 : (w.ob = w.H.n + 1 + 1 + 1 + 1 + 1) = False := eq_false (by omega)
    have qw25 : (w.H.n + 1 + 1 + 1 + 1 + 1 = w.ob) = False := eq_false (by omega)
    have pw26 : (w.ob = w.H.n + 1 + 1 + 1 + 1 + 1 + 1) = False := eq_false (by omega)
    have qw26 : (w.H.n + 1 + 1 + 1 + 1 + 1 + 1 = w.ob) = False := eq_false (by omega)
    have pw27 : (w.ob = w.H.n + 1 + 1 + 1 + 1 + 1 + 1 + 1) = False := eq_false (by omega)
    have qw27 : (w.H.n + 1 + 1 + 1 + 1 + 1 + 1 + 1 = w.ob) = False := eq_false (by omega)
    have gb0 : (bx = c_p) = False := eq_false (by omega)
    have gb1 : (c_p = bx) = False := eq_false (by omega)
    have gb2 : (bx = b_c) = False := eq_false (by omega)
    have gb3 : (b_c = bx) = False := eq_false (by omega)
    have gb4 : (bx = w.ob) = False := eq_false hbo
    have gb5 : (w.ob = bx) = False := eq_false fun e => hbo e.symm
    have pb00 : (bx = w.H.n) = False := eq_false (by omega)
    have qb00 : (w.H.n = bx) = False := eq_false (by omega)
    have pb01 : (bx = w.H.n + 1) = False := eq_false (by omega)
    have qb01 : (w.H.n + 1 = bx) = False := eq_false (by omega)
    have pb02 : (bx = w.H.n + 1 + 1) = False := eq_false (by omega)
    have qb02 : (w.H.n + 1 + 1 = bx) = False := eq_false (by omega)
    have pb03 : (bx = w.H.n + 1 + 1 + 1) = False := eq_false (by omega)
    have qb03 : (w.H.n + 1 + 1 + 1 = bx) = False := eq_false (by omega)
    have pb04 : (bx = w.H.n + 1 + 1 + 1 + 1) = False := eq_false (by omega)
    have qb04 : (w.H.n + 1 + 1 + 1 + 1 = bx) = False := eq_false (by omega)
    have pb05 : (bx = w.H.n + 1 + 1 + 1 + 1 + 1) = False := eq_false (by omega)
    have qb05 : (w.H.n + 1 + 1 + 1 + 1 + 1 = bx) = False := eq_false (by omega)
    have hself := fun F' => hQ w F' ⟨how.hn, how.hI, how.cur, how.old, how.row, how.hob, how.at0, how.at1, by have := how.len; omega⟩ hbq_w
    rcases Nat.eq_zero_or_pos k with rfl | hk0
    · simp (config := {contextual := true, implicitDefEqProofs := false, maxSteps := 2000000}) [-Int.not_le, -Int.not_lt, argsF, onCur, dlI, dlT, curOf_lit, hcb_c, hbc_c, hbd_c, hat_c.esz, hat_c.len, hat_c.els, hxc_w, hxb_w, hxr_w, r0_w, r1_w, r2_w, r3_w, hlB_w, hlC_w, pw00, qw00, pw01, qw01, pw02, qw02, pw03, qw03, pw04, qw04, pw05, qw05, pw06, qw06, pw07, qw07, pw10, qw10, pw11, qw11, pw12, qw12, pw13, qw13, pw14, qw14, pw15, qw15, pw16, qw16, pw17, qw17, pw20, qw20, pw21, qw21, pw22, qw22, pw23, qw23, pw24, qw24, pw25, qw25, pw26, qw26, pw27, qw27, hbx, gb0, gb1, gb2, gb3, gb4, gb5, pb00, qb00, pb01, qb01, pb02, qb02, pb03, qb03, pb04, qb04, pb05, qb05]
      refine ⟨by omega, by omega, ?_⟩
      rw [Nat.add_comm 1 w.out.length]
      exact hQ ⟨_, w.a, w.s, m :: w.out, w.H.n + 1 + 1 + 1 + 1, 0, 0⟩ _ ⟨(by simp only [push_n, set_n, kill_n]; omega), (by simp only [push_I, set_I, kill_I]; exact how.hI), by simp [push_b, set_b, kill_b, onCur, dlI, dlT, curOf_lit, hcb_c, hbc_c, hbd_c, hat_c.esz, hat_c.len, hat_c.els, hxc_w, hxb_w, hxr_w, r0_w, r1_w, r2_w, r3_w, hlB_w, hlC_w, pw00, qw00, pw01, qw01, pw02, qw02, pw03, qw03, pw04, qw04, pw05, qw05, pw06, qw06, pw07, qw07, pw10, qw10, pw11, qw11, pw12, qw12, pw13, qw13, pw14, qw14, pw15, qw15, pw16, qw16, pw17, qw17, pw20, qw20, pw21, qw21, pw22, qw22, pw23, qw23, pw24, qw24, pw25, qw25, pw26, qw26, pw27, qw27]; done, (fun j k hjc hj => by have hjn := (hwf j k hj).1; have qj0 : (j = w.H.n) = False := eq_false (by omega); have qj1 : (j = w.H.n + 1) = False := eq_false (by omega); have qj2 : (j = w.H.n + 1 + 1) = False := eq_false (by omega); have qj3 : (j = w.H.n + 1 + 1 + 1) = False := eq_false (by omega); have qj4 : (j = w.H.n + 1 + 1 + 1 + 1) = False := eq_false (by omega); have qj5 : (j = w.H.n + 1 + 1 + 1 + 1 + 1) = False := eq_false (by omega); have qj6 : (j = w.H.n + 1 + 1 + 1 + 1 + 1 + 1) = False := eq_false (by omega); have qj7 : (j = w.H.n + 1 + 1 + 1 + 1 + 1 + 1 + 1) = False := eq_false (by omega); have qjo : (j = w.ob) = False := eq_false (by omega); simp [push_b, set_b, kill_b, hjc, qj0, qj1, qj2, qj3, qj4, qj5, qj6, qj7, qjo, how.old j k hjc hj]; done), by simp [push_b, set_b, kill_b, onCur, dlI, dlT, curOf_lit, hcb_c, hbc_c, hbd_c, hat_c.esz, hat_c.len, hat_c.els, hxc_w, hxb_w, hxr_w, r0_w, r1_w, r2_w, r3_w, hlB_w, hlC_w, pw00, qw00, pw01, qw01, pw02, qw02, pw03, qw03, pw04, qw04, pw05, qw05, pw06, qw06, pw07, qw07, pw10, qw10, pw11, qw11, pw12, qw12, pw13, qw13, pw14, qw14, pw15, qw15, pw16, qw16, pw17, qw17, pw20, qw20, pw21, qw21, pw22, qw22, pw23, qw23, pw24, qw24, pw25, qw25, pw26, qw26, pw27, qw27, rowK]; done, by simp only; omega, by simp only; omega, by simp only; omega, by simp only [List.length_cons]; omega⟩ (by simp only [push_n, set_n, kill_n]; omega) rfl
    · obtain ⟨i, rfl⟩ : ∃ i, k = i + 1 := ⟨k - 1, by omega⟩
      have hlt : i < w.out.length := by omega
      have hcg : w.out[i]? = some w.out[i] := List.getElem?_eq_getElem hlt
      have hj1 := idx_lt hlt
      have w1 : IntKind.i64.wrap (i : Int) = (i : Int) := wrap_id (by omega) (by omega)
      have w2 : ((i : Int) + 1 = 0) = False := eq_false (by omega)
      by_cases he : w.out[i] = m
      · simp (config := {contextual := true, implicitDefEqProofs := false, maxSteps := 2000000}) [-Int.not_le, -Int.not_lt, argsF, onCur, dlI, dlT, curOf_lit, hcb_c, hbc_c, hbd_c, hat_c.esz, hat_c.len, hat_c.els, hxc_w, hxb_w, hxr_w, r0_w, r1_w, r2_w, r3_w, hlB_w, hlC_w, pw00, qw00, pw01, qw01, pw02, qw02, pw03, qw03, pw04, qw04, pw05, qw05, pw06, qw06, pw07, qw07, pw10, qw10, pw11, qw11, pw12, qw12, pw13, qw13, pw14, qw14, pw15, qw15, pw16, qw16, pw17, qw17, pw20, qw20, pw21, qw21, pw22, qw22, pw23, qw23, pw24, qw24, pw25, qw25, pw26, qw26, pw27, qw27, hbx, gb0, gb1, gb2, gb3, gb4, gb5, pb00, qb00, pb01, qb01, pb02, qb02, pb03, qb03, pb04, qb04, pb05, qb05, w1, w2, hcg, hlt, hj1, he]
        exact hself _ rfl
      · have hne : ¬ w.out[i].leave = m.leave ∨ ¬ w.out[i].frm = m.frm ∨ ¬ w.out[i].to = m.to ∨ ¬ w.out[i].arrive = m.arrive := by
          refine Decidable.byContradiction fun hc => he ?_
          have h1 : w.out[i].leave = m.leave := Decidable.byContradiction fun h => hc (.inl h)
          have h2 : w.out[i].frm = m.frm := Decidable.byContradiction fun h => hc (.inr (.inl h))
          have h3 : w.out[i].to = m.to := Decidable.byContradiction fun h => hc (.inr (.inr (.inl h)))
          have h4 : w.out[i].arrive = m.arrive := Decidable.byContradiction fun h => hc (.inr (.inr (.inr h)))
          cases hm : w.out[i]
          cases m
          rw [hm] at h1 h2 h3 h4
          simp only at h1 h2 h3 h4
          rw [h1, h2, h3, h4]
        have m1 : min (i + 1) w.out.length = i + 1 := by omega
        have m2 : ((w.out.length : Int) - ((i : Int) + 1)).toNat = w.out.length - (i + 1) := by omega
        have m3 : (i : Int) + 1 ≤ (w.out.length : Int) := by omega
        have m4 : i + 1 ≤ w.out.length := by omega
        have m5 : i + 1 + (w.out.length - (i + 1)) ≤ w.out.length := by omega
        have m6 : (i + 1) * 32 ≤ 140737488355328 ∧ i + 1 ≤ 140737488355328 ∧ (i + 1 + 1) * 32 ≤ 140737488355328 ∧ i + 1 ≤ 140737488355327 ∧ (i + 1 + 1 + (w.out.length - (i + 1))) * 32 ≤ 140737488355328 ∧ i + 1 + 1 + (w.out.length - (i + 1)) ≤ 140737488355328 ∧ (0 : Int) ≤ (i : Int) + 1 := by omega
        have hlen : (w.out.take (i + 1) ++ m :: w.out.drop (i + 1)).length = i + 1 + 1 + (w.out.length - (i + 1)) := by simp only [List.length_append, List.length_take, List.length_cons, List.length_drop]; omega
        simp (config := {contextual := true, implicitDefEqProofs := false, maxSteps := 2000000}) [-Int.not_le, -Int.not_lt, argsF, onCur, dlI, dlT, curOf_lit, hcb_c, hbc_c, hbd_c, hat_c.esz, hat_c.len, hat_c.els, hxc_w, hxb_w, hxr_w, r0_w, r1_w, r2_w, r3_w, hlB_w, hlC_w, pw00, qw00, pw01, qw01, pw02, qw02, pw03, qw03, pw04, qw04, pw05, qw05, pw06, qw06, pw07, qw07, pw10, qw10, pw11, qw11, pw12, qw12, pw13, qw13, pw14, qw14, pw15, qw15, pw16, qw16, pw17, qw17, pw20, qw20, pw21, qw21, pw22, qw22, pw23, qw23, pw24, qw24, pw25, qw25, pw26, qw26, pw27, qw27, hbx, gb0, gb1, gb2, gb3, gb4, gb5, pb00, qb00, pb01, qb01, pb02, qb02, pb03, qb03, pb04, qb04, pb05, qb05, w1, w2, hcg, hlt, hj1, he, m1, m2, m3, m4, m5, m6]
        rw [if_pos hne, ← hlen]
        refine ⟨by omega, ?_⟩
        exact hQ ⟨_, w.a, w.s, w.out.take (i + 1) ++ m :: w.out.drop (i + 1), w.H.n + 1 + 1 + 1 + 1, 0, 0⟩ _ ⟨(by simp only [push_n, set_n, kill_n]; omega), (by simp only [push_I, set_I, kill_I]; exact how.hI), by simp [push_b, set_b, kill_b, onCur, dlI, dlT, curOf_lit, hcb_c, hbc_c, hbd_c, hat_c.esz, hat_c.len, hat_c.els, hxc_w, hxb_w, hxr_w, r0_w, r1_w, r2_w, r3_w, hlB_w, hlC_w, pw00, qw00, pw01, qw01, pw02, qw02, pw03, qw03, pw04, qw04, pw05, qw05, pw06, qw06, pw07, qw07, pw10, qw10, pw11, qw11, pw12, qw12, pw13, qw13, pw14, qw14, pw15, qw15, pw16, qw16, pw17, qw17, pw20, qw20, pw21, qw21, pw22, qw22, pw23, qw23, pw24, qw24, pw25, qw25, pw26, qw26, pw27, qw27]; done, (fun j k hjc hj => by have hjn := (hwf j k hj).1; have qj0 : (j = w.H.n) = False := eq_false (by omega); have qj1 : (j = w.H.n + 1) = False := eq_false (by omega); have qj2 : (j = w.H.n + 1 + 1) = False := eq_false (by omega); have qj3 : (j = w.H.n + 1 + 1 + 1) = False := eq_false (by omega); have qj4 : (j = w.H.n + 1 + 1 + 1 + 1) = False := eq_false (by omega); have qj5 : (j = w.H.n + 1 + 1 + 1 + 1 + 1) = False := eq_false (by omega); have qj6 : (j = w.H.n + 1 + 1 + 1 + 1 + 1 + 1) = False := eq_false (by omega); have qj7 : (j = w.H.n + 1 + 1 + 1 + 1 + 1 + 1 + 1) = False := eq_false (by omega); have qjo : (j = w.ob) = False := eq_false (by omega); simp [push_b, set_b, kill_b, hjc, qj0, qj1, qj2, qj3, qj4, qj5, qj6, qj7, qjo, how.old j k hjc hj]; done), (push_topM _ _ rfl).trans (congrArg (fun z => some (⟨113, 4, false, false, z⟩ : ABlk)) (insM m4)), by simp only; omega, by simp only; omega, by simp only; omega, by simp only; rw [hlen]; omega⟩ (by simp only [push_n, set_n, kill_n]; omega) rfl
  have key5 : ∀ {Q : Exit → AFrame → AHeap → Prop} (w : DMa) (bx : Nat) (m : Ma) (zz : Int) (F : AFrame) (up : Int) (ln : Nat), w.Ok H c_p b_c i_c l_c.length a_c up ln → up ≤ a_c + 1000 → ln ≤ 20 → w.ob < w.H.n → w.H.b bx = some ⟨113, 4, false, false, [eMa.cells m]⟩ → H.n ≤ bx → bx < w.H.n → bx ≠ w.ob →
      F.keep [0, 3, 4, 5] = [(0, .c (.ptr c_p 0 0)), (3, .c (.sl (w.ob) (0) (w.out.length))), (4, .c (.int .i64 (zz))), (5, .c (.ptr bx 0 0))] → (∀ (w' : DMa) (F' : AFrame), w'.Ok H c_p b_c i_c l_c.length a_c up (ln + 1) → w'.ob < w'.H.n → F'.keep [0, 3, 4] = [(0, .c (.ptr c_p 0 0)), (3, .c (.sl (w'.ob) (0) (w'.out.length))), (4, .c (.int .i64 (zz)))] → Q .normal F' w'.H) → avc Try.prog [(89, q_cpick), (122, q_mail), (123, q_isMa), (120, q_one), (124, q_codeMa)] 92 H.n __spec_l1Cur__timetable_r5 F w.H Q := by
    intro Q w bx m zz F up ln how hup hln hbq_w hbx hbn hbl hbo hF hQ
    refine (show avc _ _ _ _ _ _ _ _ = _ from avc_cut _ _).mpr ?_
    rw [hF]
    have hxb_w : w.H.b b_c = some k_c := how.old b_c k_c (Ne.symm hcb_c) hat_c.blk
    have hxc_w := how.cur
    have hxr_w := how.row
    have hob_w := how.hob
    have a0_w := how.at0
    have a1_w := how.at1
    have hln_w := how.len
    have hnx_w := how.hn
    have hbx_w : b_c < w.H.n := by omega
    have hcx_w : c_p < w.H.n := by omega
    have r0_w : (w.ob = c_p) = False := eq_false (by omega)
    have r1_w : (c_p = w.ob) = False := eq_false (by omega)
    have r2_w : (w.ob = b_c) = False := eq_false (by omega)
    have r3_w : (b_c = w.ob) = False := eq_false (by omega)
    have hlB_w : 0 ≤ w.a ∧ w.a ≤ 700000000 := by omega
    have hlC_w : w.a ≤ 900000000 := by omega
    have pw00 : (c_p = w.H.n) = False := eq_false (by omega)
    have qw00 : (w.H.n = c_p) = False := eq_false (by omega)
    have pw01 : (c_p = w.H.n + 1) = False := eq_false (by omega)
    have qw01 : (w.H.n + 1 = c_p) = False := eq_false (by omega)
    have pw02 : (c_p = w.H.n + 1 + 1) = False := eq_false (by omega)
    have qw02 : (w.H.n + 1 + 1 = c_p) = False := eq_false (by omega)
    have pw03 : (c_p = w.H.n + 1 + 1 + 1) = False := eq_false (by omega)
    have qw03 : (w.H.n + 1 + 1 + 1 = c_p) = False := eq_false (by omega)
    have pw04 : (c_p = w.H.n + 1 + 1 + 1 + 1) = False := eq_false (by omega)
    have qw04 : (w.H.n + 1 + 1 + 1 + 1 = c_p) = False := eq_false (by omega)
    have pw05 : (c_p = w.H.n + 1 + 1 + 1 + 1 + 1) = False := eq_false (by omega)
    have qw05 : (w.H.n + 1 + 1 + 1 + 1 + 1 = c_p) = False := eq_false (by omega)
    have pw06 : (c_p = w.H.n + 1 + 1 + 1 + 1 + 1 + 1) = False := eq_false (by omega)
    have qw06 : (w.H.n + 1 + 1 + 1 + 1 + 1 + 1 = c_p) = False := eq_false (by omega)
    have pw07 : (c_p = w.H.n + 1 + 1 + 1 + 1 + 1 + 1 + 1) = False := eq_false (by omega)
    have qw07 : (w.H.n + 1 + 1 + 1 + 1 + 1 + 1 + 1 = c_p) = False := eq_false (by omega)
    have pw10 : (b_c = w.H.n) = False := eq_false (by omega)
    have qw10 : (w.H.n = b_c) = False := eq_false (by omega)
    have pw11 : (b_c = w.H.n + 1) = False := eq_false (by omega)
    have qw11 : (w.H.n + 1 = b_c) = False := eq_false (by omega)
    have pw12 : (b_c = w.H.n + 1 + 1) = False := eq_false (by omega)
    have qw12 : (w.H.n + 1 + 1 = b_c) = False := eq_false (by omega)
    have pw13 : (b_c = w.H.n + 1 + 1 + 1) = False := eq_false (by omega)
    have qw13 : (w.H.n + 1 + 1 + 1 = b_c) = False := eq_false (by omega)
    have pw14 : (b_c = w.H.n + 1 + 1 + 1 + 1) = False := eq_false (by omega)
    have qw14 : (w.H.n + 1 + 1 + 1 + 1 = b_c) = False := eq_false (by omega)
    have pw15 : (b_c = w.H.n + 1 + 1 + 1 + 1 + 1) = False := eq_false (by omega)
    have qw15 : (w.H.n + 1 + 1 + 1 + 1 + 1 = b_c) = False := eq_false (by omega)
    have pw16 : (b_c = w.H.n + 1 + 1 + 1 + 1 + 1 + 1) = False := eq_false (by omega)
    have qw16 : (w.H.n + 1 + 1 + 1 + 1 + 1 + 1 = b_c) = False := eq_false (by omega)
    have pw17 : (b_c = w.H.n + 1 + 1 + 1 + 1 + 1 + 1 + 1) = False := eq_false (by omega)
    have qw17 : (w.H.n + 1 + 1 + 1 + 1 + 1 + 1 + 1 = b_c) = False := eq_false (by omega)
    have pw20 : (w.ob = w.H.n) = False := eq_false (by omega)
    have qw20 : (w.H.n = w.ob) = False := eq_false (by omega)
    have pw21 : (w.ob = w.H.n + 1) = False := eq_false (by omega)
    have qw21 : (w.H.n + 1 = w.ob) = False := eq_false (by omega)
    have pw22 : (w.ob = w.H.n + 1 + 1) = False := eq_false (by omega)
    have qw22 : (w.H.n + 1 + 1 = w.ob) = False := eq_false (by omega)
    have pw23 : (w.ob = w.H.n + 1 + 1 + 1) = False := eq_false (by omega)
    have qw23 : (w.H.n + 1 + 1 + 1 = w.ob) = False := eq_false (by omega)
    have pw24 : (w.ob = w.H.n + 1 + 1 + 1 + 1) = False := eq_false (by omega)
    have qw24 : (w.H.n + 1 + 1 + 1 + 1 = w.ob) = False := eq_false (by omega)
    have pw25 : (w.ob = w.H.n + 1 + 1 + 1 + 1 + 1) = False := eq_false (by omega)
    have qw25 : (w.H.n + 1 + 1 + 1 + 1 + 1 = w.ob) = False := eq_false (by omega)
    have pw26 : (w.ob = w.H.n + 1 + 1 + 1 + 1 + 1 + 1) = False := eq_false (by omega)
    have qw26 : (w.H.n + 1 + 1 + 1 + 1 + 1 + 1 = w.ob) = False := eq_false (by omega)
    have pw27 : (w.ob = w.H.n + 1 + 1 + 1 + 1 + 1 + 1 + 1) = False := eq_false (by omega)
    have qw27 : (w.H.n + 1 + 1 + 1 + 1 + 1 + 1 + 1 = w.ob) = False := eq_false (by omega)
    have gb0 : (bx = c_p) = False := eq_false (by omega)
    have gb1 : (c_p = bx) = False := eq_false (by omega)
    have gb2 : (bx = b_c) = False := eq_false (by omega)
    have gb3 : (b_c = bx) = False := eq_false (by omega)
    have gb4 : (bx = w.ob) = False := eq_false hbo
    have gb5 : (w.ob = bx) = False := eq_false fun e => hbo e.symm
    have pb00 : (bx = w.H.n) = False := eq_false (by omega)
    have qb00 : (w.H.n = bx) = False := eq_false (by omega)
    have pb01 : (bx = w.H.n + 1) = False := eq_false (by omega)
    have qb01 : (w.H.n + 1 = bx) = False := eq_false (by omega)
    have pb02 : (bx = w.H.n + 1 + 1) = False := eq_false (by omega)
    have qb02 : (w.H.n + 1 + 1 = bx) = False := eq_false (by omega)
    have pb03 : (bx = w.H.n + 1 + 1 + 1) = False := eq_false (by omega)
    have qb03 : (w.H.n + 1 + 1 + 1 = bx) = False := eq_false (by omega)
    have pb04 : (bx = w.H.n + 1 + 1 + 1 + 1) = False := eq_false (by omega)
    have qb04 : (w.H.n + 1 + 1 + 1 + 1 = bx) = False := eq_false (by omega)
    have pb05 : (bx = w.H.n + 1 + 1 + 1 + 1 + 1) = False := eq_false (by omega)
    have qb05 : (w.H.n + 1 + 1 + 1 + 1 + 1 = bx) = False := eq_false (by omega)
    simp (config := {contextual := true, implicitDefEqProofs := false, maxSteps := 2000000}) [-Int.not_le, -Int.not_lt, argsF, onCur, dlI, dlT, curOf_lit, hcb_c, hbc_c, hbd_c, hat_c.esz, hat_c.len, hat_c.els, hxc_w, hxb_w, hxr_w, r0_w, r1_w, r2_w, r3_w, hlB_w, hlC_w, pw00, qw00, pw01, qw01, pw02, qw02, pw03, qw03, pw04, qw04, pw05, qw05, pw06, qw06, pw07, qw07, pw10, qw10, pw11, qw11, pw12, qw12, pw13, qw13, pw14, qw14, pw15, qw15, pw16, qw16, pw17, qw17, pw20, qw20, pw21, qw21, pw22, qw22, pw23, qw23, pw24, qw24, pw25, qw25, pw26, qw26, pw27, qw27]
    refine aloop_heap (X := Nat) (fun k => [(0, .c (.ptr c_p 0 0)), (3, .c (.sl (w.ob) (0) (w.out.length))), (4, .c (.int .i64 (zz))), (5, .c (.ptr bx 0 0)), (6, .c (.int .i64 ((k : Int))))]) (fun _ => w.H) (fun k => k ≤ w.out.length) (fun k => k) hE _ w.out.length (Nat.le_refl _) (fun hw0 => .since how.hn hw0 (.refl _) (by simp [frOk, AV.okR, AV.ok1, AC.okR, AV.ren, AV.ren1, AC.ren, AFrame.get, pl1_old, *]; first | done | rfl | omega)) (fun k hk hwk => ?_)
    rcases Nat.eq_zero_or_pos k with rfl | hk0
    · simp (config := {contextual := true, implicitDefEqProofs := false, maxSteps := 2000000}) [-Int.not_le, -Int.not_lt, argsF, __spec_l1Cur__timetable_l0, __spec_l1Cur__timetable_r1, onCur, dlI, dlT, curOf_lit, hcb_c, hbc_c, hbd_c, hat_c.esz, hat_c.len, hat_c.els, hxc_w, hxb_w, hxr_w, r0_w, r1_w, r2_w, r3_w, hlB_w, hlC_w, pw00, qw00, pw01, qw01, pw02, qw02, pw03, qw03, pw04, qw04, pw05, qw05, pw06, qw06, pw07, qw07, pw10, qw10, pw11, qw11, pw12, qw12, pw13, qw13, pw14, qw14, pw15, qw15, pw16, qw16, pw17, qw17, pw20, qw20, pw21, qw21, pw22, qw22, pw23, qw23, pw24, qw24, pw25, qw25, pw26, qw26, pw27, qw27, hbx, gb0, gb1, gb2, gb3, gb4, gb5, pb00, qb00, pb01, qb01, pb02, qb02, pb03, qb03, pb04, qb04, pb05, qb05]
      exact key4 w bx 0 m zz _ up ln how hup hln hbq_w hbx hbn hbl hbo hk rfl hQ
    · obtain ⟨i, rfl⟩ : ∃ i, k = i + 1 := ⟨k - 1, by omega⟩
      have hlt : i < w.out.length := by omega
      have hcg : w.out[i]? = some w.out[i] := List.getElem?_eq_getElem hlt
      have hj1 := idx_lt hlt
      have w1 : IntKind.i64.wrap (i : Int) = (i : Int) := wrap_id (by omega) (by omega)
      have w2 : ((i : Int) + 1 = 0) = False := eq_false (by omega)
      have w3 : (0 < (i : Int) + 1) = True := eq_true (by omega)
      by_cases hc : codeMw m < codeMw w.out[i]
      · simp (config := {contextual := true, implicitDefEqProofs := false, maxSteps := 2000000}) [-Int.not_le, -Int.not_lt, argsF, __spec_l1Cur__timetable_l0, __spec_l1Cur__timetable_r1, __spec_l1Cur__timetable_r2, onCur, dlI, dlT, curOf_lit, hcb_c, hbc_c, hbd_c, hat_c.esz, hat_c.len, hat_c.els, hxc_w, hxb_w, hxr_w, r0_w, r1_w, r2_w, r3_w, hlB_w, hlC_w, pw00, qw00, pw01, qw01, pw02, qw02, pw03, qw03, pw04, qw04, pw05, qw05, pw06, qw06, pw07, qw07, pw10, qw10, pw11, qw11, pw12, qw12, pw13, qw13, pw14, qw14, pw15, qw15, pw16, qw16, pw17, qw17, pw20, qw20, pw21, qw21, pw22, qw22, pw23, qw23, pw24, qw24, pw25, qw25, pw26, qw26, pw27, qw27, hbx, gb0, gb1, gb2, gb3, gb4, gb5, pb00, qb00, pb01, qb01, pb02, qb02, pb03, qb03, pb04, qb04, pb05, qb05, w1, w2, w3, hcg, hlt, hj1, hc]
        exact ⟨fun hw => ⟨i, by omega, by omega, .since how.hn hw (.refl _) (by simp [frOk, AV.okR, AV.ok1, AC.okR, AV.ren, AV.ren1, AC.ren, AFrame.get, pl1_old, *]; first | done | rfl | omega)⟩⟩
      · simp (config := {contextual := true, implicitDefEqProofs := false, maxSteps := 2000000}) [-Int.not_le, -Int.not_lt, argsF, __spec_l1Cur__timetable_l0, __spec_l1Cur__timetable_r1, onCur, dlI, dlT, curOf_lit, hcb_c, hbc_c, hbd_c, hat_c.esz, hat_c.len, hat_c.els, hxc_w, hxb_w, hxr_w, r0_w, r1_w, r2_w, r3_w, hlB_w, hlC_w, pw00, qw00, pw01, qw01, pw02, qw02, pw03, qw03, pw04, qw04, pw05, qw05, pw06, qw06, pw07, qw07, pw10, qw10, pw11, qw11, pw12, qw12, pw13, qw13, pw14, qw14, pw15, qw15, pw16, qw16, pw17, qw17, pw20, qw20, pw21, qw21, pw22, qw22, pw23, qw23, pw24, qw24, pw25, qw25, pw26, qw26, pw27, qw27, hbx, gb0, gb1, gb2, gb3, gb4, gb5, pb00, qb00, pb01, qb01, pb02, qb02, pb03, qb03, pb04, qb04, pb05, qb05, w1, w2, w3, hcg, hlt, hj1, hc]
        exact key4 w bx (i + 1) m zz _ up ln how hup hln hbq_w hbx hbn hbl hbo hk (by simp; rfl) hQ
  have key15 : ∀ (x : DMa) (F : AFrame), x.Ok H c_p b_c i_c l_c.length a_c (a_c + 1000) 20 → x.ob < x.H.n → F.keep [0, 3] = [(0, .c (.ptr c_p 0 0)), (3, .c (.sl (x.ob) (0) (x.out.length)))] → avc Try.prog [(89, q_cpick), (122, q_mail), (123, q_isMa), (120, q_one), (124, q_codeMa)] 92 H.n __spec_l1Cur__timetable_r15 F x.H (endK Try.prog H.n [.tmp 2] K) := by
    intro x F hok hbq_x hF
    refine (show avc _ _ _ _ _ _ _ _ = _ from avc_cut _ _).mpr ?_
    rw [hF]
    have hxb_x : x.H.b b_c = some k_c := hok.old b_c k_c (Ne.symm hcb_c) hat_c.blk
    have hxc_x := hok.cur
    have hxr_x := hok.row
    have hob_x := hok.hob
    have a0_x := hok.at0
    have a1_x := hok.at1
    have hln_x := hok.len
    have hnx_x := hok.hn
    have hbx_x : b_c < x.H.n := by omega
    have hcx_x : c_p < x.H.n := by omega
    have r0_x : (x.ob = c_p) = False := eq_false (by omega)
    have r1_x : (c_p = x.ob) = False := eq_false (by omega)
    have r2_x : (x.ob = b_c) = False := eq_false (by omega)
    have r3_x : (b_c = x.ob) = False := eq_false (by omega)
    have hlB_x : 0 ≤ x.a ∧ x.a ≤ 700000000 := by omega
    have hlC_x : x.a ≤ 900000000 := by omega
    have px00 : (c_p = x.H.n) = False := eq_false (by omega)
    have qx00 : (x.H.n = c_p) = False := eq_false (by omega)
    have px01 : (c_p = x.H.n + 1) = False := eq_false (by omega)
    have qx01 : (x.H.n + 1 = c_p) = False := eq_false (by omega)
    have px02 : (c_p = x.H.n + 1 + 1) = False := eq_false (by omega)
    have qx02 : (x.H.n + 1 + 1 = c_p) = False := eq_false (by omega)
    have px03 : (c_p = x.H.n + 1 + 1 + 1) = False := eq_false (by omega)
    have qx03 : (x.H.n + 1 + 1 + 1 = c_p) = False := eq_false (by omega)
    have px04 : (c_p = x.H.n + 1 + 1 + 1 + 1) = False := eq_false (by omega)
    have qx04 : (x.H.n + 1 + 1 + 1 + 1 = c_p) = False := eq_false (by omega)
    have px05 : (c_p = x.H.n + 1 + 1 + 1 + 1 + 1) = False := eq_false (by omega)
    have qx05 : (x.H.n + 1 + 1 + 1 + 1 + 1 = c_p) = False := eq_false (by omega)
    have px06 : (c_p = x.H.n + 1 + 1 + 1 + 1 + 1 + 1) = False := eq_false (by omega)
    have qx06 : (x.H.n + 1 + 1 + 1 + 1 + 1 + 1 = c_p) = False := eq_false (by omega)
    have px07 : (c_p = x.H.n + 1 + 1 + 1 + 1 + 1 + 1 + 1) = False := eq_false (by omega)
    have qx07 : (x.H.n + 1 + 1 + 1 + 1 + 1 + 1 + 1 = c_p) = False := eq_false (by omega)
    have px10 : (b_c = x.H.n) = False := eq_false (by omega)
    have qx10 : (x.H.n = b_c) = False := eq_false (by omega)
    have px11 : (b_c = x.H.n + 1) = False := eq_false (by omega)
    have qx11 : (x.H.n + 1 = b_c) = False := eq_false (by omega)
    have px12 : (b_c = x.H.n + 1 + 1) = False := eq_false (by omega)
    have qx12 : (x.H.n + 1 + 1 = b_c) = False := eq_false (by omega)
    have px13 : (b_c = x.H.n + 1 + 1 + 1) = False := eq_false (by omega)
    have qx13 : (x.H.n + 1 + 1 + 1 = b_c) = False := eq_false (by omega)
    have px14 : (b_c = x.H.n + 1 + 1 + 1 + 1) = False := eq_false (by omega)
    have qx14 : (x.H.n + 1 + 1 + 1 + 1 = b_c) = False := eq_false (by omega)
    have px15 : (b_c = x.H.n + 1 + 1 + 1 + 1 + 1) = False := eq_false (by omega)
    have qx15 : (x.H.n + 1 + 1 + 1 + 1 + 1 = b_c) = False := eq_false (by omega)
    have px16 : (b_c = x.H.n + 1 + 1 + 1 + 1 + 1 + 1) = False := eq_false (by omega)
    have qx16 : (x.H.n + 1 + 1 + 1 + 1 + 1 + 1 = b_c) = False := eq_false (by omega)
    have px17 : (b_c = x.H.n + 1 + 1 + 1 + 1 + 1 + 1 + 1) = False := eq_false (by omega)
    have qx17 : (x.H.n + 1 + 1 + 1 + 1 + 1 + 1 + 1 = b_c) = False := eq_false (by omega)
    have px20 : (x.ob = x.H.n) = False := eq_false (by omega)
    have qx20 : (x.H.n = x.ob) = False := eq_false (by omega)
    have px21 : (x.ob = x.H.n + 1) = False := eq_false (by omega)
    have qx21 : (x.H.n + 1 = x.ob) = False := eq_false (by omega)
    have px22 : (x.ob = x.H.n + 1 + 1) = False := eq_false (by omega)
    have qx22 : (x.H.n + 1 + 1 = x.ob) = False := eq_false (by omega)
    have px23 : (x.ob = x.H.n + 1 + 1 + 1) = False := eq_false (by omega)
    have qx23 : (x.H.n + 1 + 1 + 1 = x.ob) = False := eq_false (by omega)
    have px24 : (x.ob = x.H.n + 1 + 1 + 1 + 1) = False := eq_false (by omega)
    have qx24 : (x.H.n + 1 + 1 + 1 + 1 = x.ob) = False := eq_false (by omega)
    have px25 : (x.ob = x.H.n + 1 + 1 + 1 + 1 + 1) = False := eq_false (by omega)
    have qx25 : (x.H.n + 1 + 1 + 1 + 1 + 1 = x.ob) = False := eq_false (by omega)
    have px26 : (x.ob = x.H.n + 1 + 1 + 1 + 1 + 1 + 1) = False := eq_false (by omega)
    have qx26 : (x.H.n + 1 + 1 + 1 + 1 + 1 + 1 = x.ob) = False := eq_false (by omega)
    have px27 : (x.ob = x.H.n + 1 + 1 + 1 + 1 + 1 + 1 + 1) = False := eq_false (by omega)
    have qx27 : (x.H.n + 1 + 1 + 1 + 1 + 1 + 1 + 1 = x.ob) = False := eq_false (by omega)
    have hb1 : (x.out.length + 1) * 32 ≤ 140737488355328 := by omega
    have hb2 : x.out.length ≤ 140737488355327 := by omega
    simp (config := {contextual := true, implicitDefEqProofs := false, maxSteps := 2000000}) [-Int.not_le, -Int.not_lt, argsF, onCur, dlI, dlT, curOf_lit, hcb_c, hbc_c, hbd_c, hat_c.esz, hat_c.len, hat_c.els, hxc_x, hxb_x, hxr_x, r0_x, r1_x, r2_x, r3_x, hlB_x, hlC_x, px00, qx00, px01, qx01, px02, qx02, px03, qx03, px04, qx04, px05, qx05, px06, qx06, px07, qx07, px10, qx10, px11, qx11, px12, qx12, px13, qx13, px14, qx14, px15, qx15, px16, qx16, px17, qx17, px20, qx20, px21, qx21, px22, qx22, px23, qx23, px24, qx24, px25, qx25, px26, qx26, px27, qx27]
    refine Stop.mk fun n1 a1 s1 hl1 hu1 hn1 => ?_
    have hlA : 0 ≤ a1 ∧ a1 ≤ 700000000 := by omega
    rcases (show n1 = 0 ∨ n1 = 1 ∨ 2 ≤ n1 by omega) with rfl | rfl | hn2
    · simp (config := {contextual := true, implicitDefEqProofs := false, maxSteps := 2000000}) [-Int.not_le, -Int.not_lt, argsF, __spec_l1Cur__timetable_r13, onCur, dlI, dlT, curOf_lit, hcb_c, hbc_c, hbd_c, hat_c.esz, hat_c.len, hat_c.els, hxc_x, hxb_x, hxr_x, r0_x, r1_x, r2_x, r3_x, hlB_x, hlC_x, px00, qx00, px01, qx01, px02, qx02, px03, qx03, px04, qx04, px05, qx05, px06, qx06, px07, qx07, px10, qx10, px11, qx11, px12, qx12, px13, qx13, px14, qx14, px15, qx15, px16, qx16, px17, qx17, px20, qx20, px21, qx21, px22, qx22, px23, qx23, px24, qx24, px25, qx25, px26, qx26, px27, qx27, hlA]
      refine Stop.mk fun r a2 s2 hl2 hu2 => ?_
      simp (config := {contextual := true, implicitDefEqProofs := false, maxSteps := 2000000}) [-Int.not_le, -Int.not_lt, argsF, onCur, dlI, dlT, curOf_lit, hcb_c, hbc_c, hbd_c, hat_c.esz, hat_c.len, hat_c.els, hxc_x, hxb_x, hxr_x, r0_x, r1_x, r2_x, r3_x, hlB_x, hlC_x, px00, qx00, px01, qx01, px02, qx02, px03, qx03, px04, qx04, px05, qx05, px06, qx06, px07, qx07, px10, qx10, px11, qx11, px12, qx12, px13, qx13, px14, qx14, px15, qx15, px16, qx16, px17, qx17, px20, qx20, px21, qx21, px22, qx22, px23, qx23, px24, qx24, px25, qx25, px26, qx26, px27, qx27, hb1, hb2, __spec_l1Cur__timetable_r14]
      have hlr : (x.out ++ [r]).length ≤ 40 := by rw [List.length_append]; show x.out.length + 1 ≤ 40; omega
      have hq1 : a_c ≤ a2 := by omega
      have hq2 : a2 ≤ a_c + 5000 := by omega
      have h9 := Stop.out h (x.out ++ [r]) a2 s2 hlr hq1 hq2
      rw [List.length_append] at h9
      exact .one (H := H.set c_p (curK b_c i_c l_c.length a2 s2)) (k := rowK eMa 113 (x.out ++ [r])) (c := some (x.H.n + 1)) (cur_wf hwf hk_c _ _) (cur_sub2 hk_c (by simp only [push_n, set_n, kill_n]; omega) (by simp only [push_I, set_I, kill_I]; exact hok.hI) (by simp [push_b, set_b, kill_b, onCur, dlI, dlT, curOf_lit, hcb_c, hbc_c, hbd_c, hat_c.esz, hat_c.len, hat_c.els, hxc_x, hxb_x, hxr_x, r0_x, r1_x, r2_x, r3_x, hlB_x, hlC_x, px00, qx00, px01, qx01, px02, qx02, px03, qx03, px04, qx04, px05, qx05, px06, qx06, px07, qx07, px10, qx10, px11, qx11, px12, qx12, px13, qx13, px14, qx14, px15, qx15, px16, qx16, px17, qx17, px20, qx20, px21, qx21, px22, qx22, px23, qx23, px24, qx24, px25, qx25, px26, qx26, px27, qx27]; done) (fun j k hjc hj => by have hjn := (hwf j k hj).1; have qj0 : (j = x.H.n) = False := eq_false (by omega); have qj1 : (j = x.H.n + 1) = False := eq_false (by omega); have qj2 : (j = x.H.n + 1 + 1) = False := eq_false (by omega); have qj3 : (j = x.H.n + 1 + 1 + 1) = False := eq_false (by omega); have qj4 : (j = x.H.n + 1 + 1 + 1 + 1) = False := eq_false (by omega); have qj5 : (j = x.H.n + 1 + 1 + 1 + 1 + 1) = False := eq_false (by omega); have qj6 : (j = x.H.n + 1 + 1 + 1 + 1 + 1 + 1) = False := eq_false (by omega); have qj7 : (j = x.H.n + 1 + 1 + 1 + 1 + 1 + 1 + 1) = False := eq_false (by omega); have qjo : (j = x.ob) = False := eq_false (by omega); simp [push_b, set_b, kill_b, hjc, qj0, qj1, qj2, qj3, qj4, qj5, qj6, qj7, qjo, hok.old j k hjc hj]; done)) ⟨by simp only [set_n]; omega, by simp [push_b, set_b, kill_b, onCur, dlI, dlT, curOf_lit, hcb_c, hbc_c, hbd_c, hat_c.esz, hat_c.len, hat_c.els, hxc_x, hxb_x, hxr_x, r0_x, r1_x, r2_x, r3_x, hlB_x, hlC_x, px00, qx00, px01, qx01, px02, qx02, px03, qx03, px04, qx04, px05, qx05, px06, qx06, px07, qx07, px10, qx10, px11, qx11, px12, qx12, px13, qx13, px14, qx14, px15, qx15, px16, qx16, px17, qx17, px20, qx20, px21, qx21, px22, qx22, px23, qx23, px24, qx24, px25, qx25, px26, qx26, px27, qx27, rowK]; done⟩ (plain_map (fun _ => rfl) _) (by simp [frOk, AV.okR, AV.ok1, AC.okR, AV.ren, AV.ren1, AC.ren, AFrame.get, pl1_old, *]; first | done | rfl | omega) (h9)
    · simp (config := {contextual := true, implicitDefEqProofs := false, maxSteps := 2000000}) [-Int.not_le, -Int.not_lt, argsF, __spec_l1Cur__timetable_r13, onCur, dlI, dlT, curOf_lit, hcb_c, hbc_c, hbd_c, hat_c.esz, hat_c.len, hat_c.els, hxc_x, hxb_x, hxr_x, r0_x, r1_x, r2_x, r3_x, hlB_x, hlC_x, px00, qx00, px01, qx01, px02, qx02, px03, qx03, px04, qx04, px05, qx05, px06, qx06, px07, qx07, px10, qx10, px11, qx11, px12, qx12, px13, qx13, px14, qx14, px15, qx15, px16, qx16, px17, qx17, px20, qx20, px21, qx21, px22, qx22, px23, qx23, px24, qx24, px25, qx25, px26, qx26, px27, qx27, hlA]
      have hup : a1 ≤ a_c + 1100 := by omega
      have hlo : a_c ≤ a1 := by omega
      refine aloop_heap (X := DMa) (fun y => [(0, .c (.ptr c_p 0 0)), (3, .c (.sl (y.ob) (0) (y.out.length)))]) (fun y => y.H) (fun y => y.Ok H c_p b_c i_c l_c.length a_c (a1 + 4 * (y.out.length : Int)) 21) (fun y => 22 - y.out.length) hE _ ⟨_, a1, s1, x.out, x.ob, 0, 0⟩ ⟨(by simp only [push_n, set_n, kill_n]; omega), (by simp only [push_I, set_I, kill_I]; exact hok.hI), by simp [push_b, set_b, kill_b, onCur, dlI, dlT, curOf_lit, hcb_c, hbc_c, hbd_c, hat_c.esz, hat_c.len, hat_c.els, hxc_x, hxb_x, hxr_x, r0_x, r1_x, r2_x, r3_x, hlB_x, hlC_x, px00, qx00, px01, qx01, px02, qx02, px03, qx03, px04, qx04, px05, qx05, px06, qx06, px07, qx07, px10, qx10, px11, qx11, px12, qx12, px13, qx13, px14, qx14, px15, qx15, px16, qx16, px17, qx17, px20, qx20, px21, qx21, px22, qx22, px23, qx23, px24, qx24, px25, qx25, px26, qx26, px27, qx27]; done, (fun j k hjc hj => by have hjn := (hwf j k hj).1; have qj0 : (j = x.H.n) = False := eq_false (by omega); have qj1 : (j = x.H.n + 1) = False := eq_false (by omega); have qj2 : (j = x.H.n + 1 + 1) = False := eq_false (by omega); have qj3 : (j = x.H.n + 1 + 1 + 1) = False := eq_false (by omega); have qj4 : (j = x.H.n + 1 + 1 + 1 + 1) = False := eq_false (by omega); have qj5 : (j = x.H.n + 1 + 1 + 1 + 1 + 1) = False := eq_false (by omega); have qj6 : (j = x.H.n + 1 + 1 + 1 + 1 + 1 + 1) = False := eq_false (by omega); have qj7 : (j = x.H.n + 1 + 1 + 1 + 1 + 1 + 1 + 1) = False := eq_false (by omega); have qjo : (j = x.ob) = False := eq_false (by omega); simp [push_b, set_b, kill_b, hjc, qj0, qj1, qj2, qj3, qj4, qj5, qj6, qj7, qjo, hok.old j k hjc hj]; done), by simp [push_b, set_b, kill_b, onCur, dlI, dlT, curOf_lit, hcb_c, hbc_c, hbd_c, hat_c.esz, hat_c.len, hat_c.els, hxc_x, hxb_x, hxr_x, r0_x, r1_x, r2_x, r3_x, hlB_x, hlC_x, px00, qx00, px01, qx01, px02, qx02, px03, qx03, px04, qx04, px05, qx05, px06, qx06, px07, qx07, px10, qx10, px11, qx11, px12, qx12, px13, qx13, px14, qx14, px15, qx15, px16, qx16, px17, qx17, px20, qx20, px21, qx21, px22, qx22, px23, qx23, px24, qx24, px25, qx25, px26, qx26, px27, qx27]; done, hob_x, by simp only; omega, by simp only; omega, by simp only; omega⟩ (fun hw0 => .since (by simp only [push_n, set_n, kill_n]; omega) hw0 (.refl _) (by simp [frOk, AV.okR, AV.ok1, AC.okR, AV.ren, AV.ren1, AC.ren, AFrame.get, pl1_old, *]; first | done | rfl | omega)) (fun y hoy hwy => ?_)
      clear hok hxb_x hxc_x hxr_x hob_x hbq_x a0_x a1_x hln_x hnx_x hbx_x hcx_x r0_x r1_x r2_x r3_x hlB_x hlC_x px00 qx00 px01 qx01 px02 qx02 px03 qx03 px04 qx04 px05 qx05 px06 qx06 px07 qx07 px10 qx10 px11 qx11 px12 qx12 px13 qx13 px14 qx14 px15 qx15 px16 qx16 px17 qx17 px20 qx20 px21 qx21 px22 qx22 px23 qx23 px24 qx24 px25 qx25 px26 qx26 px27 qx27
      have hxb_y : y.H.b b_c = some k_c := hoy.old b_c k_c (Ne.symm hcb_c) hat_c.blk
      have hxc_y := hoy.cur
      have hxr_y := hoy.row
      have hob_y := hoy.hob
      have hbq_y := (hwy _ _ hoy.row).1
      have a0_y := hoy.at0
      have a1_y := hoy.at1
      have hln_y := hoy.len
      have hnx_y := hoy.hn
      have hbx_y : b_c < y.H.n := by omega
      have hcx_y : c_p < y.H.n := by omega
      have r0_y : (y.ob = c_p) = False := eq_false (by omega)
      have r1_y : (c_p = y.ob) = False := eq_false (by omega)
      have r2_y : (y.ob = b_c) = False := eq_false (by omega)
      have r3_y : (b_c = y.ob) = False := eq_false (by omega)
      have hlB_y : 0 ≤ y.a ∧ y.a ≤ 700000000 := by omega
      have hlC_y : y.a ≤ 900000000 := by omega
      have py00 : (c_p = y.H.n) = False := eq_false (by omega)
      have qy00 : (y.H.n = c_p) = False := eq_false (by omega)
      have py01 : (c_p = y.H.n + 1) = False := eq_false (by omega)
      have qy01 : (y.H.n + 1 = c_p) = False := eq_false (by omega)
      have py02 : (c_p = y.H.n + 1 + 1) = False := eq_false (by omega)
      have qy02 : (y.H.n + 1 + 1 = c_p) = False := eq_false (by omega)
      have py03 : (c_p = y.H.n + 1 + 1 + 1) = False := eq_false (by omega)
      have qy03 : (y.H.n + 1 + 1 + 1 = c_p) = False := eq_false (by omega)
      have py04 : (c_p = y.H.n + 1 + 1 + 1 + 1) = False := eq_false (by omega)
      have qy04 : (y.H.n + 1 + 1 + 1 + 1 = c_p) = False := eq_false (by omega)
      have py05 : (c_p = y.H.n + 1 + 1 + 1 + 1 + 1) = False := eq_false (by omega)
      have qy05 : (y.H.n + 1 + 1 + 1 + 1 + 1 = c_p) = False := eq_false (by omega)
      have py06 : (c_p = y.H.n + 1 + 1 + 1 + 1 + 1 + 1) = False := eq_false (by omega)
      have qy06 : (y.H.n + 1 + 1 + 1 + 1 + 1 + 1 = c_p) = False := eq_false (by omega)
      have py07 : (c_p = y.H.n + 1 + 1 + 1 + 1 + 1 + 1 + 1) = False := eq_false (by omega)
      have qy07 : (y.H.n + 1 + 1 + 1 + 1 + 1 + 1 + 1 = c_p) = False := eq_false (by omega)
      have py10 : (b_c = y.H.n) = False := eq_false (by omega)
      have qy10 : (y.H.n = b_c) = False := eq_false (by omega)
      have py11 : (b_c = y.H.n + 1) = False := eq_false (by omega)
      have qy11 : (y.H.n + 1 = b_c) = False := eq_false (by omega)
      have py12 : (b_c = y.H.n + 1 + 1) = False := eq_false (by omega)
      have qy12 : (y.H.n + 1 + 1 = b_c) = False := eq_false (by omega)
      have py13 : (b_c = y.H.n + 1 + 1 + 1) = False := eq_false (by omega)
      have qy13 : (y.H.n + 1 + 1 + 1 = b_c) = False := eq_false (by omega)
      have py14 : (b_c = y.H.n + 1 + 1 + 1 + 1) = False := eq_false (by omega)
      have qy14 : (y.H.n + 1 + 1 + 1 + 1 = b_c) = False := eq_false (by omega)
      have py15 : (b_c = y.H.n + 1 + 1 + 1 + 1 + 1) = False := eq_false (by omega)
      have qy15 : (y.H.n + 1 + 1 + 1 + 1 + 1 = b_c) = False := eq_false (by omega)
      have py16 : (b_c = y.H.n + 1 + 1 + 1 + 1 + 1 + 1) = False := eq_false (by omega)
      have qy16 : (y.H.n + 1 + 1 + 1 + 1 + 1 + 1 = b_c) = False := eq_false (by omega)
      have py17 : (b_c = y.H.n + 1 + 1 + 1 + 1 + 1 + 1 + 1) = False := eq_false (by omega)
      have qy17 : (y.H.n + 1 + 1 + 1 + 1 + 1 + 1 + 1 = b_c) = False := eq_false (by omega)
      have py20 : (y.ob = y.H.n) = False := eq_false (by omega)
      have qy20 : (y.H.n = y.ob) = False := eq_false (by omega)
      have py21 : (y.ob = y.H.n + 1) = False := eq_false (by omega)
      have qy21 : (y.H.n + 1 = y.ob) = False := eq_false (by omega)
      have py22 : (y.ob = y.H.n + 1 + 1) = False := eq_false (by omega)
      have qy22 : (y.H.n + 1 + 1 = y.ob) = False := eq_false (by omega)
      have py23 : (y.ob = y.H.n + 1 + 1 + 1) = False := eq_false (by omega)
      have qy23 : (y.H.n + 1 + 1 + 1 = y.ob) = False := eq_false (by omega)
      have py24 : (y.ob = y.H.n + 1 + 1 + 1 + 1) = False := eq_false (by omega)
      have qy24 : (y.H.n + 1 + 1 + 1 + 1 = y.ob) = False := eq_false (by omega)
      have py25 : (y.ob = y.H.n + 1 + 1 + 1 + 1 + 1) = False := eq_false (by omega)
      have qy25 : (y.H.n + 1 + 1 + 1 + 1 + 1 = y.ob) = False := eq_false (by omega)
      have py26 : (y.ob = y.H.n + 1 + 1 + 1 + 1 + 1 + 1) = False := eq_false (by omega)
      have qy26 : (y.H.n + 1 + 1 + 1 + 1 + 1 + 1 = y.ob) = False := eq_false (by omega)
      have py27 : (y.ob = y.H.n + 1 + 1 + 1 + 1 + 1 + 1 + 1) = False := eq_false (by omega)
      have qy27 : (y.H.n + 1 + 1 + 1 + 1 + 1 + 1 + 1 = y.ob) = False := eq_false (by omega)
      simp (config := {contextual := true, implicitDefEqProofs := false, maxSteps := 2000000}) [-Int.not_le, -Int.not_lt, argsF, __spec_l1Cur__timetable_l2, onCur, dlI, dlT, curOf_lit, hcb_c, hbc_c, hbd_c, hat_c.esz, hat_c.len, hat_c.els, hxc_y, hxb_y, hxr_y, r0_y, r1_y, r2_y, r3_y, hlB_y, hlC_y, py00, qy00, py01, qy01, py02, qy02, py03, qy03, py04, qy04, py05, qy05, py06, qy06, py07, qy07, py10, qy10, py11, qy11, py12, qy12, py13, qy13, py14, qy14, py15, qy15, py16, qy16, py17, qy17, py20, qy20, py21, qy21, py22, qy22, py23, qy23, py24, qy24, py25, qy25, py26, qy26, py27, qy27]
      refine Stop.mk fun z a2 s2 hl2 hu2 hz2 => ?_
      have hz3 := hz2 (by omega)
      have wz : IntKind.i64.wrap (20 + (z : Int)) = 20 + (z : Int) := wrap_id (by omega) (by omega)
      by_cases hc : (y.out.length : Int) < 20 + (z : Int)
      · have hb1 : (y.out.length + 1) * 32 ≤ 140737488355328 := by omega
        have hb2 : y.out.length ≤ 140737488355327 := by omega
        simp (config := {contextual := true, implicitDefEqProofs := false, maxSteps := 2000000}) [-Int.not_le, -Int.not_lt, argsF, __spec_l1Cur__timetable_r10, __spec_l1Cur__timetable_r11, onCur, dlI, dlT, curOf_lit, hcb_c, hbc_c, hbd_c, hat_c.esz, hat_c.len, hat_c.els, hxc_y, hxb_y, hxr_y, r0_y, r1_y, r2_y, r3_y, hlB_y, hlC_y, py00, qy00, py01, qy01, py02, qy02, py03, qy03, py04, qy04, py05, qy05, py06, qy06, py07, qy07, py10, qy10, py11, qy11, py12, qy12, py13, qy13, py14, qy14, py15, qy15, py16, qy16, py17, qy17, py20, qy20, py21, qy21, py22, qy22, py23, qy23, py24, qy24, py25, qy25, py26, qy26, py27, qy27, wz, hc, hb1, hb2]
        exact ⟨fun hw => ⟨⟨_, a2, s2, y.out ++ [⟨IntKind.i64.wrap (100 + (y.out.length : Int)), (y.out.length : Int).tmod 3, 3, 200⟩], y.H.n + 1, 0, 0⟩, ⟨(by simp only [push_n, set_n, kill_n]; omega), (by simp only [push_I, set_I, kill_I]; exact hoy.hI), by simp [push_b, set_b, kill_b, onCur, dlI, dlT, curOf_lit, hcb_c, hbc_c, hbd_c, hat_c.esz, hat_c.len, hat_c.els, hxc_y, hxb_y, hxr_y, r0_y, r1_y, r2_y, r3_y, hlB_y, hlC_y, py00, qy00, py01, qy01, py02, qy02, py03, qy03, py04, qy04, py05, qy05, py06, qy06, py07, qy07, py10, qy10, py11, qy11, py12, qy12, py13, qy13, py14, qy14, py15, qy15, py16, qy16, py17, qy17, py20, qy20, py21, qy21, py22, qy22, py23, qy23, py24, qy24, py25, qy25, py26, qy26, py27, qy27]; done, (fun j k hjc hj => by have hjn := (hwf j k hj).1; have qj0 : (j = y.H.n) = False := eq_false (by omega); have qj1 : (j = y.H.n + 1) = False := eq_false (by omega); have qj2 : (j = y.H.n + 1 + 1) = False := eq_false (by omega); have qj3 : (j = y.H.n + 1 + 1 + 1) = False := eq_false (by omega); have qj4 : (j = y.H.n + 1 + 1 + 1 + 1) = False := eq_false (by omega); have qj5 : (j = y.H.n + 1 + 1 + 1 + 1 + 1) = False := eq_false (by omega); have qj6 : (j = y.H.n + 1 + 1 + 1 + 1 + 1 + 1) = False := eq_false (by omega); have qj7 : (j = y.H.n + 1 + 1 + 1 + 1 + 1 + 1 + 1) = False := eq_false (by omega); have qjo : (j = y.ob) = False := eq_false (by omega); simp [push_b, set_b, kill_b, hjc, qj0, qj1, qj2, qj3, qj4, qj5, qj6, qj7, qjo, hoy.old j k hjc hj]; done), by simp [push_b, set_b, kill_b, onCur, dlI, dlT, curOf_lit, hcb_c, hbc_c, hbd_c, hat_c.esz, hat_c.len, hat_c.els, hxc_y, hxb_y, hxr_y, r0_y, r1_y, r2_y, r3_y, hlB_y, hlC_y, py00, qy00, py01, qy01, py02, qy02, py03, qy03, py04, qy04, py05, qy05, py06, qy06, py07, qy07, py10, qy10, py11, qy11, py12, qy12, py13, qy13, py14, qy14, py15, qy15, py16, qy16, py17, qy17, py20, qy20, py21, qy21, py22, qy22, py23, qy23, py24, qy24, py25, qy25, py26, qy26, py27, qy27, rowK]; done, by simp only; omega, by simp only; omega, by simp only [List.length_append, List.length_cons, List.length_nil]; omega, by simp only [List.length_append, List.length_cons, List.length_nil]; omega⟩, by simp only [List.length_append, List.length_cons, List.length_nil]; omega, .since (by simp only [push_n, set_n, kill_n]; omega) hw (.refl _) (by simp [frOk, AV.okR, AV.ok1, AC.okR, AV.ren, AV.ren1, AC.ren, AFrame.get, pl1_old, *]; first | done | rfl | omega)⟩⟩
      · simp (config := {contextual := true, implicitDefEqProofs := false, maxSteps := 2000000}) [-Int.not_le, -Int.not_lt, argsF, __spec_l1Cur__timetable_r10, __spec_l1Cur__timetable_r14, onCur, dlI, dlT, curOf_lit, hcb_c, hbc_c, hbd_c, hat_c.esz, hat_c.len, hat_c.els, hxc_y, hxb_y, hxr_y, r0_y, r1_y, r2_y, r3_y, hlB_y, hlC_y, py00, qy00, py01, qy01, py02, qy02, py03, qy03, py04, qy04, py05, qy05, py06, qy06, py07, qy07, py10, qy10, py11, qy11, py12, qy12, py13, qy13, py14, qy14, py15, qy15, py16, qy16, py17, qy17, py20, qy20, py21, qy21, py22, qy22, py23, qy23, py24, qy24, py25, qy25, py26, qy26, py27, qy27, wz, hc]
        exact .one (H := H.set c_p (curK b_c i_c l_c.length a2 s2)) (k := rowK eMa 113 y.out) (c := some (y.ob)) (cur_wf hwf hk_c _ _) (cur_sub2 hk_c (by simp only [push_n, set_n, kill_n]; omega) (by simp only [push_I, set_I, kill_I]; exact hoy.hI) (by simp [push_b, set_b, kill_b, onCur, dlI, dlT, curOf_lit, hcb_c, hbc_c, hbd_c, hat_c.esz, hat_c.len, hat_c.els, hxc_y, hxb_y, hxr_y, r0_y, r1_y, r2_y, r3_y, hlB_y, hlC_y, py00, qy00, py01, qy01, py02, qy02, py03, qy03, py04, qy04, py05, qy05, py06, qy06, py07, qy07, py10, qy10, py11, qy11, py12, qy12, py13, qy13, py14, qy14, py15, qy15, py16, qy16, py17, qy17, py20, qy20, py21, qy21, py22, qy22, py23, qy23, py24, qy24, py25, qy25, py26, qy26, py27, qy27]; done) (fun j k hjc hj => by have hjn := (hwf j k hj).1; have qj0 : (j = y.H.n) = False := eq_false (by omega); have qj1 : (j = y.H.n + 1) = False := eq_false (by omega); have qj2 : (j = y.H.n + 1 + 1) = False := eq_false (by omega); have qj3 : (j = y.H.n + 1 + 1 + 1) = False := eq_false (by omega); have qj4 : (j = y.H.n + 1 + 1 + 1 + 1) = False := eq_false (by omega); have qj5 : (j = y.H.n + 1 + 1 + 1 + 1 + 1) = False := eq_false (by omega); have qj6 : (j = y.H.n + 1 + 1 + 1 + 1 + 1 + 1) = False := eq_false (by omega); have qj7 : (j = y.H.n + 1 + 1 + 1 + 1 + 1 + 1 + 1) = False := eq_false (by omega); have qjo : (j = y.ob) = False := eq_false (by omega); simp [push_b, set_b, kill_b, hjc, qj0, qj1, qj2, qj3, qj4, qj5, qj6, qj7, qjo, hoy.old j k hjc hj]; done)) ⟨by simp only [set_n]; omega, by simp [push_b, set_b, kill_b, onCur, dlI, dlT, curOf_lit, hcb_c, hbc_c, hbd_c, hat_c.esz, hat_c.len, hat_c.els, hxc_y, hxb_y, hxr_y, r0_y, r1_y, r2_y, r3_y, hlB_y, hlC_y, py00, qy00, py01, qy01, py02, qy02, py03, qy03, py04, qy04, py05, qy05, py06, qy06, py07, qy07, py10, qy10, py11, qy11, py12, qy12, py13, qy13, py14, qy14, py15, qy15, py16, qy16, py17, qy17, py20, qy20, py21, qy21, py22, qy22, py23, qy23, py24, qy24, py25, qy25, py26, qy26, py27, qy27, rowK]; done⟩ (plain_map (fun _ => rfl) _) (by simp [frOk, AV.okR, AV.ok1, AC.okR, AV.ren, AV.ren1, AC.ren, AFrame.get, pl1_old, *]; first | done | rfl | omega) (Stop.out h y.out a2 s2 (by omega) (by omega) (by omega))
    · have k0 : ((n1 : Int) = 0) = False := eq_false (by omega)
      have k1 : ((n1 : Int) = 1) = False := eq_false (by omega)
      have k2 : (n1 = 0) = False := eq_false (by omega)
      have k3 : (n1 = 1) = False := eq_false (by omega)
      simp (config := {contextual := true, implicitDefEqProofs := false, maxSteps := 2000000}) [-Int.not_le, -Int.not_lt, argsF, __spec_l1Cur__timetable_r13, __spec_l1Cur__timetable_r14, onCur, dlI, dlT, curOf_lit, hcb_c, hbc_c, hbd_c, hat_c.esz, hat_c.len, hat_c.els, hxc_x, hxb_x, hxr_x, r0_x, r1_x, r2_x, r3_x, hlB_x, hlC_x, px00, qx00, px01, qx01, px02, qx02, px03, qx03, px04, qx04, px05, qx05, px06, qx06, px07, qx07, px10, qx10, px11, qx11, px12, qx12, px13, qx13, px14, qx14, px15, qx15, px16, qx16, px17, qx17, px20, qx20, px21, qx21, px22, qx22, px23, qx23, px24, qx24, px25, qx25, px26, qx26, px27, qx27, hlA, k0, k1, k2, k3]
      exact .one (H := H.set c_p (curK b_c i_c l_c.length a1 s1)) (k := rowK eMa 113 x.out) (c := some (x.ob)) (cur_wf hwf hk_c _ _) (cur_sub2 hk_c (by simp only [push_n, set_n, kill_n]; omega) (by simp only [push_I, set_I, kill_I]; exact hok.hI) (by simp [push_b, set_b, kill_b, onCur, dlI, dlT, curOf_lit, hcb_c, hbc_c, hbd_c, hat_c.esz, hat_c.len, hat_c.els, hxc_x, hxb_x, hxr_x, r0_x, r1_x, r2_x, r3_x, hlB_x, hlC_x, px00, qx00, px01, qx01, px02, qx02, px03, qx03, px04, qx04, px05, qx05, px06, qx06, px07, qx07, px10, qx10, px11, qx11, px12, qx12, px13, qx13, px14, qx14, px15, qx15, px16, qx16, px17, qx17, px20, qx20, px21, qx21, px22, qx22, px23, qx23, px24, qx24, px25, qx25, px26, qx26, px27, qx27]; done) (fun j k hjc hj => by have hjn := (hwf j k hj).1; have qj0 : (j = x.H.n) = False := eq_false (by omega); have qj1 : (j = x.H.n + 1) = False := eq_false (by omega); have qj2 : (j = x.H.n + 1 + 1) = False := eq_false (by omega); have qj3 : (j = x.H.n + 1 + 1 + 1) = False := eq_false (by omega); have qj4 : (j = x.H.n + 1 + 1 + 1 + 1) = False := eq_false (by omega); have qj5 : (j = x.H.n + 1 + 1 + 1 + 1 + 1) = False := eq_false (by omega); have qj6 : (j = x.H.n + 1 + 1 + 1 + 1 + 1 + 1) = False := eq_false (by omega); have qj7 : (j = x.H.n + 1 + 1 + 1 + 1 + 1 + 1 + 1) = False := eq_false (by omega); have qjo : (j = x.ob) = False := eq_false (by omega); simp [push_b, set_b, kill_b, hjc, qj0, qj1, qj2, qj3, qj4, qj5, qj6, qj7, qjo, hok.old j k hjc hj]; done)) ⟨by simp only [set_n]; omega, by simp [push_b, set_b, kill_b, onCur, dlI, dlT, curOf_lit, hcb_c, hbc_c, hbd_c, hat_c.esz, hat_c.len, hat_c.els, hxc_x, hxb_x, hxr_x, r0_x, r1_x, r2_x, r3_x, hlB_x, hlC_x, px00, qx00, px01, qx01, px02, qx02, px03, qx03, px04, qx04, px05, qx05, px06, qx06, px07, qx07, px10, qx10, px11, qx11, px12, qx12, px13, qx13, px14, qx14, px15, qx15, px16, qx16, px17, qx17, px20, qx20, px21, qx21, px22, qx22, px23, qx23, px24, qx24, px25, qx25, px26, qx26, px27, qx27, rowK]; done⟩ (plain_map (fun _ => rfl) _) (by simp [frOk, AV.okR, AV.ok1, AC.okR, AV.ren, AV.ren1, AC.ren, AFrame.get, pl1_old, *]; first | done | rfl | omega) (Stop.out h x.out a1 s1 (by omega) (by omega) (by omega))
  have hl8 : a_c ≤ 900000000 := by omega
  simp (config := {contextual := true, implicitDefEqProofs := false, maxSteps := 2000000}) [-Int.not_le, -Int.not_lt, argsF, __spec_l1Cur__timetable_c, onCur, dlI, dlT, hk_c, hcb_c, hbc_c, hbd_c, h0_c, hlim_c, hat_c.blk, hat_c.esz, hat_c.len, hat_c.els, hne_c, hnp_c, hne1_c, hnp1_c, hnq_c, hnq1_c, hnb_c, hnb1_c, hne2_c.1, hne2_c.2.1, hne2_c.2.2.1, hne2_c.2.2.2.1, hne2_c.2.2.2.2.1, hne2_c.2.2.2.2.2.1, hne2_c.2.2.2.2.2.2.1, hne2_c.2.2.2.2.2.2.2.1, hne2_c.2.2.2.2.2.2.2.2.1, hne2_c.2.2.2.2.2.2.2.2.2.1, hne2_c.2.2.2.2.2.2.2.2.2.2, hne2_cp.1, hne2_cp.2.1, hne2_cp.2.2.1, hne2_cp.2.2.2.1, hne2_cp.2.2.2.2.1, hne2_cp.2.2.2.2.2.1, hne2_cp.2.2.2.2.2.2.1, hne2_cp.2.2.2.2.2.2.2.1, hne2_cp.2.2.2.2.2.2.2.2.1, hne2_cp.2.2.2.2.2.2.2.2.2.1, hne2_cp.2.2.2.2.2.2.2.2.2.2, hnr2_c.1, hnr2_c.2.1, hnr2_c.2.2.1, hnr2_c.2.2.2.1, hnr2_c.2.2.2.2.1, hnr2_c.2.2.2.2.2.1, hnr2_c.2.2.2.2.2.2.1, hnr2_c.2.2.2.2.2.2.2.1, hnr2_c.2.2.2.2.2.2.2.2.1, hnr2_c.2.2.2.2.2.2.2.2.2.1, hnr2_c.2.2.2.2.2.2.2.2.2.2, hnr2_cp.1, hnr2_cp.2.1, hnr2_cp.2.2.1, hnr2_cp.2.2.2.1, hnr2_cp.2.2.2.2.1, hnr2_cp.2.2.2.2.2.1, hnr2_cp.2.2.2.2.2.2.1, hnr2_cp.2.2.2.2.2.2.2.1, hnr2_cp.2.2.2.2.2.2.2.2.1, hnr2_cp.2.2.2.2.2.2.2.2.2.1, hnr2_cp.2.2.2.2.2.2.2.2.2.2, hl8]
  refine Stop.mk fun n0 a0 s0 hl0 hu0 hn0 => ?_
  have hn0b : n0 ≤ 10 := by first | omega | (have := hn0 (by omega); omega)
  simp (config := {contextual := true, implicitDefEqProofs := false, maxSteps := 2000000}) [-Int.not_le, -Int.not_lt, argsF, __spec_l1Cur__timetable_r9, onCur, dlI, dlT, hk_c, hcb_c, hbc_c, hbd_c, h0_c, hlim_c, hat_c.blk, hat_c.esz, hat_c.len, hat_c.els, hne_c, hnp_c, hne1_c, hnp1_c, hnq_c, hnq1_c, hnb_c, hnb1_c, hne2_c.1, hne2_c.2.1, hne2_c.2.2.1, hne2_c.2.2.2.1, hne2_c.2.2.2.2.1, hne2_c.2.2.2.2.2.1, hne2_c.2.2.2.2.2.2.1, hne2_c.2.2.2.2.2.2.2.1, hne2_c.2.2.2.2.2.2.2.2.1, hne2_c.2.2.2.2.2.2.2.2.2.1, hne2_c.2.2.2.2.2.2.2.2.2.2, hne2_cp.1, hne2_cp.2.1, hne2_cp.2.2.1, hne2_cp.2.2.2.1, hne2_cp.2.2.2.2.1, hne2_cp.2.2.2.2.2.1, hne2_cp.2.2.2.2.2.2.1, hne2_cp.2.2.2.2.2.2.2.1, hne2_cp.2.2.2.2.2.2.2.2.1, hne2_cp.2.2.2.2.2.2.2.2.2.1, hne2_cp.2.2.2.2.2.2.2.2.2.2, hnr2_c.1, hnr2_c.2.1, hnr2_c.2.2.1, hnr2_c.2.2.2.1, hnr2_c.2.2.2.2.1, hnr2_c.2.2.2.2.2.1, hnr2_c.2.2.2.2.2.2.1, hnr2_c.2.2.2.2.2.2.2.1, hnr2_c.2.2.2.2.2.2.2.2.1, hnr2_c.2.2.2.2.2.2.2.2.2.1, hnr2_c.2.2.2.2.2.2.2.2.2.2, hnr2_cp.1, hnr2_cp.2.1, hnr2_cp.2.2.1, hnr2_cp.2.2.2.1, hnr2_cp.2.2.2.2.1, hnr2_cp.2.2.2.2.2.1, hnr2_cp.2.2.2.2.2.2.1, hnr2_cp.2.2.2.2.2.2.2.1, hnr2_cp.2.2.2.2.2.2.2.2.1, hnr2_cp.2.2.2.2.2.2.2.2.2.1, hnr2_cp.2.2.2.2.2.2.2.2.2.2]
  refine aloop_genC (fun G => DMa.Ok ⟨G, a0, s0, [], H.n, 0, 0⟩ H c_p b_c i_c l_c.length a_c (a_c + 10) 0 ∧ H.n < G.n) ⟨⟨by simp only [push_n, set_n]; omega, by simp only [push_I, set_I], by simp [push_b, set_b, onCur, dlI, dlT, hk_c, hcb_c, hbc_c, hbd_c, h0_c, hlim_c, hat_c.blk, hat_c.esz, hat_c.len, hat_c.els, hne_c, hnp_c, hne1_c, hnp1_c, hnq_c, hnq1_c, hnb_c, hnb1_c, hne2_c.1, hne2_c.2.1, hne2_c.2.2.1, hne2_c.2.2.2.1, hne2_c.2.2.2.2.1, hne2_c.2.2.2.2.2.1, hne2_c.2.2.2.2.2.2.1, hne2_c.2.2.2.2.2.2.2.1, hne2_c.2.2.2.2.2.2.2.2.1, hne2_c.2.2.2.2.2.2.2.2.2.1, hne2_c.2.2.2.2.2.2.2.2.2.2, hne2_cp.1, hne2_cp.2.1, hne2_cp.2.2.1, hne2_cp.2.2.2.1, hne2_cp.2.2.2.2.1, hne2_cp.2.2.2.2.2.1, hne2_cp.2.2.2.2.2.2.1, hne2_cp.2.2.2.2.2.2.2.1, hne2_cp.2.2.2.2.2.2.2.2.1, hne2_cp.2.2.2.2.2.2.2.2.2.1, hne2_cp.2.2.2.2.2.2.2.2.2.2, hnr2_c.1, hnr2_c.2.1, hnr2_c.2.2.1, hnr2_c.2.2.2.1, hnr2_c.2.2.2.2.1, hnr2_c.2.2.2.2.2.1, hnr2_c.2.2.2.2.2.2.1, hnr2_c.2.2.2.2.2.2.2.1, hnr2_c.2.2.2.2.2.2.2.2.1, hnr2_c.2.2.2.2.2.2.2.2.2.1, hnr2_c.2.2.2.2.2.2.2.2.2.2, hnr2_cp.1, hnr2_cp.2.1, hnr2_cp.2.2.1, hnr2_cp.2.2.2.1, hnr2_cp.2.2.2.2.1, hnr2_cp.2.2.2.2.2.1, hnr2_cp.2.2.2.2.2.2.1, hnr2_cp.2.2.2.2.2.2.2.1, hnr2_cp.2.2.2.2.2.2.2.2.1, hnr2_cp.2.2.2.2.2.2.2.2.2.1, hnr2_cp.2.2.2.2.2.2.2.2.2.2], (fun j k hjc hj => by have hjn := (hwf j k hj).1; have qj0 : (j = H.n) = False := eq_false (by omega); have qj1 : (j = H.n + 1) = False := eq_false (by omega); have qj2 : (j = H.n + 1 + 1) = False := eq_false (by omega); have qj3 : (j = H.n + 1 + 1 + 1) = False := eq_false (by omega); have qj4 : (j = H.n + 1 + 1 + 1 + 1) = False := eq_false (by omega); have qj5 : (j = H.n + 1 + 1 + 1 + 1 + 1) = False := eq_false (by omega); have qj6 : (j = H.n + 1 + 1 + 1 + 1 + 1 + 1) = False := eq_false (by omega); have qj7 : (j = H.n + 1 + 1 + 1 + 1 + 1 + 1 + 1) = False := eq_false (by omega); simp [push_b, set_b, kill_b, hjc, qj0, qj1, qj2, qj3, qj4, qj5, qj6, qj7, hj]; done), by simp [push_b, set_b, onCur, dlI, dlT, hk_c, hcb_c, hbc_c, hbd_c, h0_c, hlim_c, hat_c.blk, hat_c.esz, hat_c.len, hat_c.els, hne_c, hnp_c, hne1_c, hnp1_c, hnq_c, hnq1_c, hnb_c, hnb1_c, hne2_c.1, hne2_c.2.1, hne2_c.2.2.1, hne2_c.2.2.2.1, hne2_c.2.2.2.2.1, hne2_c.2.2.2.2.2.1, hne2_c.2.2.2.2.2.2.1, hne2_c.2.2.2.2.2.2.2.1, hne2_c.2.2.2.2.2.2.2.2.1, hne2_c.2.2.2.2.2.2.2.2.2.1, hne2_c.2.2.2.2.2.2.2.2.2.2, hne2_cp.1, hne2_cp.2.1, hne2_cp.2.2.1, hne2_cp.2.2.2.1, hne2_cp.2.2.2.2.1, hne2_cp.2.2.2.2.2.1, hne2_cp.2.2.2.2.2.2.1, hne2_cp.2.2.2.2.2.2.2.1, hne2_cp.2.2.2.2.2.2.2.2.1, hne2_cp.2.2.2.2.2.2.2.2.2.1, hne2_cp.2.2.2.2.2.2.2.2.2.2, hnr2_c.1, hnr2_c.2.1, hnr2_c.2.2.1, hnr2_c.2.2.2.1, hnr2_c.2.2.2.2.1, hnr2_c.2.2.2.2.2.1, hnr2_c.2.2.2.2.2.2.1, hnr2_c.2.2.2.2.2.2.2.1, hnr2_c.2.2.2.2.2.2.2.2.1, hnr2_c.2.2.2.2.2.2.2.2.2.1, hnr2_c.2.2.2.2.2.2.2.2.2.2, hnr2_cp.1, hnr2_cp.2.1, hnr2_cp.2.2.1, hnr2_cp.2.2.2.1, hnr2_cp.2.2.2.2.1, hnr2_cp.2.2.2.2.2.1, hnr2_cp.2.2.2.2.2.2.1, hnr2_cp.2.2.2.2.2.2.2.1, hnr2_cp.2.2.2.2.2.2.2.2.1, hnr2_cp.2.2.2.2.2.2.2.2.2.1, hnr2_cp.2.2.2.2.2.2.2.2.2.2, rowK]; done, Nat.le_refl _, by simp only; omega, by simp only; omega, Nat.le_refl _⟩, by simp only [push_n, set_n]; omega⟩ fun G hG => ?_
  refine aloop_heap (X := DMa) (fun x => [(0, .c (.ptr c_p 0 0)), (3, .c (.sl (x.ob) (0) (x.out.length))), (4, .c (.int .i64 ((x.z : Int))))]) (fun x => x.H) (fun x => x.Ok H c_p b_c i_c l_c.length a_c (a_c + 10 + 50 * (10 - (x.z : Int))) (10 - x.z) ∧ x.z ≤ 10 ∧ x.ob < x.H.n) (fun x => x.z) hE _ ⟨G, a0, s0, [], H.n, n0, 0⟩ ⟨hG.1.more (by dsimp only; omega) (by dsimp only; omega) _ _, by dsimp only; omega, hG.2⟩ (fun hw0 => by exact .since hG.1.hn hw0 (.refl _) (by simp [frOk, AV.okR, AV.ok1, AC.okR, AV.ren, AV.ren1, AC.ren, AFrame.get, pl1_old, *]; first | done | rfl | omega)) (fun x hxx hwx => ?_)
  obtain ⟨hok, hz, hbq_x⟩ := hxx
  have hxb_x : x.H.b b_c = some k_c := hok.old b_c k_c (Ne.symm hcb_c) hat_c.blk
  have hxc_x := hok.cur
  have hxr_x := hok.row
  have hob_x := hok.hob
  have a0_x := hok.at0
  have a1_x := hok.at1
  have hln_x := hok.len
  have hnx_x := hok.hn
  have hbx_x : b_c < x.H.n := by omega
  have hcx_x : c_p < x.H.n := by omega
  have r0_x : (x.ob = c_p) = False := eq_false (by omega)
  have r1_x : (c_p = x.ob) = False := eq_false (by omega)
  have r2_x : (x.ob = b_c) = False := eq_false (by omega)
  have r3_x : (b_c = x.ob) = False := eq_false (by omega)
  have hlB_x : 0 ≤ x.a ∧ x.a ≤ 700000000 := by omega
  have hlC_x : x.a ≤ 900000000 := by omega
  have px00 : (c_p = x.H.n) = False := eq_false (by omega)
  have qx00 : (x.H.n = c_p) = False := eq_false (by omega)
  have px01 : (c_p = x.H.n + 1) = False := eq_false (by omega)
  have qx01 : (x.H.n + 1 = c_p) = False := eq_false (by omega)
  have px02 : (c_p = x.H.n + 1 + 1) = False := eq_false (by omega)
  have qx02 : (x.H.n + 1 + 1 = c_p) = False := eq_false (by omega)
  have px03 : (c_p = x.H.n + 1 + 1 + 1) = False := eq_false (by omega)
  have qx03 : (x.H.n + 1 + 1 + 1 = c_p) = False := eq_false (by omega)
  have px04 : (c_p = x.H.n + 1 + 1 + 1 + 1) = False := eq_false (by omega)
  have qx04 : (x.H.n + 1 + 1 + 1 + 1 = c_p) = False := eq_false (by omega)
  have px05 : (c_p = x.H.n + 1 + 1 + 1 + 1 + 1) = False := eq_false (by omega)
  have qx05 : (x.H.n + 1 + 1 + 1 + 1 + 1 = c_p) = False := eq_false (by omega)
  have px06 : (c_p = x.H.n + 1 + 1 + 1 + 1 + 1 + 1) = False := eq_false (by omega)
  have qx06 : (x.H.n + 1 + 1 + 1 + 1 + 1 + 1 = c_p) = False := eq_false (by omega)
  have px07 : (c_p = x.H.n + 1 + 1 + 1 + 1 + 1 + 1 + 1) = False := eq_false (by omega)
  have qx07 : (x.H.n + 1 + 1 + 1 + 1 + 1 + 1 + 1 = c_p) = False := eq_false (by omega)
  have px10 : (b_c = x.H.n) = False := eq_false (by omega)
  have qx10 : (x.H.n = b_c) = False := eq_false (by omega)
  have px11 : (b_c = x.H.n + 1) = False := eq_false (by omega)
  have qx11 : (x.H.n + 1 = b_c) = False := eq_false (by omega)
  have px12 : (b_c = x.H.n + 1 + 1) = False := eq_false (by omega)
  have qx12 : (x.H.n + 1 + 1 = b_c) = False := eq_false (by omega)
  have px13 : (b_c = x.H.n + 1 + 1 + 1) = False := eq_false (by omega)
  have qx13 : (x.H.n + 1 + 1 + 1 = b_c) = False := eq_false (by omega)
  have px14 : (b_c = x.H.n + 1 + 1 + 1 + 1) = False := eq_false (by omega)
  have qx14 : (x.H.n + 1 + 1 + 1 + 1 = b_c) = False := eq_false (by omega)
  have px15 : (b_c = x.H.n + 1 + 1 + 1 + 1 + 1) = False := eq_false (by omega)
  have qx15 : (x.H.n + 1 + 1 + 1 + 1 + 1 = b_c) = False := eq_false (by omega)
  have px16 : (b_c = x.H.n + 1 + 1 + 1 + 1 + 1 + 1) = False := eq_false (by omega)
  have qx16 : (x.H.n + 1 + 1 + 1 + 1 + 1 + 1 = b_c) = False := eq_false (by omega)
  have px17 : (b_c = x.H.n + 1 + 1 + 1 + 1 + 1 + 1 + 1) = False := eq_false (by omega)
  have qx17 : (x.H.n + 1 + 1 + 1 + 1 + 1 + 1 + 1 = b_c) = False := eq_false (by omega)
  have px20 : (x.ob = x.H.n) = False := eq_false (by omega)
  have qx20 : (x.H.n = x.ob) = False := eq_false (by omega)
  have px21 : (x.ob = x.H.n + 1) = False := eq_false (by omega)
  have qx21 : (x.H.n + 1 = x.ob) = False := eq_false (by omega)
  have px22 : (x.ob = x.H.n + 1 + 1) = False := eq_false (by omega)
  have qx22 : (x.H.n + 1 + 1 = x.ob) = False := eq_false (by omega)
  have px23 : (x.ob = x.H.n + 1 + 1 + 1) = False := eq_false (by omega)
  have qx23 : (x.H.n + 1 + 1 + 1 = x.ob) = False := eq_false (by omega)
  have px24 : (x.ob = x.H.n + 1 + 1 + 1 + 1) = False := eq_false (by omega)
  have qx24 : (x.H.n + 1 + 1 + 1 + 1 = x.ob) = False := eq_false (by omega)
  have px25 : (x.ob = x.H.n + 1 + 1 + 1 + 1 + 1) = False := eq_false (by omega)
  have qx25 : (x.H.n + 1 + 1 + 1 + 1 + 1 = x.ob) = False := eq_false (by omega)
  have px26 : (x.ob = x.H.n + 1 + 1 + 1 + 1 + 1 + 1) = False := eq_false (by omega)
  have qx26 : (x.H.n + 1 + 1 + 1 + 1 + 1 + 1 = x.ob) = False := eq_false (by omega)
  have px27 : (x.ob = x.H.n + 1 + 1 + 1 + 1 + 1 + 1 + 1) = False := eq_false (by omega)
  have qx27 : (x.H.n + 1 + 1 + 1 + 1 + 1 + 1 + 1 = x.ob) = False := eq_false (by omega)
  rcases Nat.eq_zero_or_pos x.z with hz0 | hzp
  · simp (config := {contextual := true, implicitDefEqProofs := false, maxSteps := 2000000}) [-Int.not_le, -Int.not_lt, argsF, __spec_l1Cur__timetable_l1, onCur, dlI, dlT, curOf_lit, hcb_c, hbc_c, hbd_c, hat_c.esz, hat_c.len, hat_c.els, hxc_x, hxb_x, hxr_x, r0_x, r1_x, r2_x, r3_x, hlB_x, hlC_x, px00, qx00, px01, qx01, px02, qx02, px03, qx03, px04, qx04, px05, qx05, px06, qx06, px07, qx07, px10, qx10, px11, qx11, px12, qx12, px13, qx13, px14, qx14, px15, qx15, px16, qx16, px17, qx17, px20, qx20, px21, qx21, px22, qx22, px23, qx23, px24, qx24, px25, qx25, px26, qx26, px27, qx27, hz0]
    exact key15 x _ (hok.more (by omega) (by omega) _ _) hbq_x rfl
  · have wz : (0 < x.z) = True := eq_true hzp
    simp (config := {contextual := true, implicitDefEqProofs := false, maxSteps := 2000000}) [-Int.not_le, -Int.not_lt, argsF, __spec_l1Cur__timetable_l1, onCur, dlI, dlT, curOf_lit, hcb_c, hbc_c, hbd_c, hat_c.esz, hat_c.len, hat_c.els, hxc_x, hxb_x, hxr_x, r0_x, r1_x, r2_x, r3_x, hlB_x, hlC_x, px00, qx00, px01, qx01, px02, qx02, px03, qx03, px04, qx04, px05, qx05, px06, qx06, px07, qx07, px10, qx10, px11, qx11, px12, qx12, px13, qx13, px14, qx14, px15, qx15, px16, qx16, px17, qx17, px20, qx20, px21, qx21, px22, qx22, px23, qx23, px24, qx24, px25, qx25, px26, qx26, px27, qx27, wz]
    refine Stop.mk fun m a1 s1 hl1 hu1 => ?_
    simp (config := {contextual := true, implicitDefEqProofs := false, maxSteps := 2000000}) [-Int.not_le, -Int.not_lt, argsF, onCur, dlI, dlT, curOf_lit, hcb_c, hbc_c, hbd_c, hat_c.esz, hat_c.len, hat_c.els, hxc_x, hxb_x, hxr_x, r0_x, r1_x, r2_x, r3_x, hlB_x, hlC_x, px00, qx00, px01, qx01, px02, qx02, px03, qx03, px04, qx04, px05, qx05, px06, qx06, px07, qx07, px10, qx10, px11, qx11, px12, qx12, px13, qx13, px14, qx14, px15, qx15, px16, qx16, px17, qx17, px20, qx20, px21, qx21, px22, qx22, px23, qx23, px24, qx24, px25, qx25, px26, qx26, px27, qx27]
    refine avc_gen (fun G => ∃ w : DMa, ∃ bx : Nat, w.H = G ∧ w.Ok H c_p b_c i_c l_c.length a_c (a_c + 10 + 50 * (10 - (x.z : Int)) + 30) (10 - x.z) ∧ w.ob < w.H.n ∧ w.ob = x.ob ∧ w.out = x.out ∧ w.H.b bx = some ⟨113, 4, false, false, [eMa.cells m]⟩ ∧ H.n ≤ bx ∧ bx < w.H.n ∧ bx ≠ w.ob ∧ bx = x.H.n) ⟨⟨_, a1, s1, x.out, x.ob, 0, 0⟩, x.H.n, rfl, ⟨(by simp only [push_n, set_n, kill_n]; omega), (by simp only [push_I, set_I, kill_I]; exact hok.hI), by simp [push_b, set_b, kill_b, onCur, dlI, dlT, curOf_lit, hcb_c, hbc_c, hbd_c, hat_c.esz, hat_c.len, hat_c.els, hxc_x, hxb_x, hxr_x, r0_x, r1_x, r2_x, r3_x, hlB_x, hlC_x, px00, qx00, px01, qx01, px02, qx02, px03, qx03, px04, qx04, px05, qx05, px06, qx06, px07, qx07, px10, qx10, px11, qx11, px12, qx12, px13, qx13, px14, qx14, px15, qx15, px16, qx16, px17, qx17, px20, qx20, px21, qx21, px22, qx22, px23, qx23, px24, qx24, px25, qx25, px26, qx26, px27, qx27]; done, (fun j k hjc hj => by have hjn := (hwf j k hj).1; have qj0 : (j = x.H.n) = False := eq_false (by omega); have qj1 : (j = x.H.n + 1) = False := eq_false (by omega); have qj2 : (j = x.H.n + 1 + 1) = False := eq_false (by omega); have qj3 : (j = x.H.n + 1 + 1 + 1) = False := eq_false (by omega); have qj4 : (j = x.H.n + 1 + 1 + 1 + 1) = False := eq_false (by omega); have qj5 : (j = x.H.n + 1 + 1 + 1 + 1 + 1) = False := eq_false (by omega); have qj6 : (j = x.H.n + 1 + 1 + 1 + 1 + 1 + 1) = False := eq_false (by omega); have qj7 : (j = x.H.n + 1 + 1 + 1 + 1 + 1 + 1 + 1) = False := eq_false (by omega); have qjo : (j = x.ob) = False := eq_false (by omega); simp [push_b, set_b, kill_b, hjc, qj0, qj1, qj2, qj3, qj4, qj5, qj6, qj7, qjo, hok.old j k hjc hj]; done), by simp [push_b, set_b, kill_b, onCur, dlI, dlT, curOf_lit, hcb_c, hbc_c, hbd_c, hat_c.esz, hat_c.len, hat_c.els, hxc_x, hxb_x, hxr_x, r0_x, r1_x, r2_x, r3_x, hlB_x, hlC_x, px00, qx00, px01, qx01, px02, qx02, px03, qx03, px04, qx04, px05, qx05, px06, qx06, px07, qx07, px10, qx10, px11, qx11, px12, qx12, px13, qx13, px14, qx14, px15, qx15, px16, qx16, px17, qx17, px20, qx20, px21, qx21, px22, qx22, px23, qx23, px24, qx24, px25, qx25, px26, qx26, px27, qx27]; done, hob_x, by simp only; omega, by simp only; omega, by simp only; omega⟩, (by simp only [push_n, set_n, kill_n]; omega), rfl, rfl, by simp [push_b, set_b, kill_b, onCur, dlI, dlT, curOf_lit, hcb_c, hbc_c, hbd_c, hat_c.esz, hat_c.len, hat_c.els, hxc_x, hxb_x, hxr_x, r0_x, r1_x, r2_x, r3_x, hlB_x, hlC_x, px00, qx00, px01, qx01, px02, qx02, px03, qx03, px04, qx04, px05, qx05, px06, qx06, px07, qx07, px10, qx10, px11, qx11, px12, qx12, px13, qx13, px14, qx14, px15, qx15, px16, qx16, px17, qx17, px20, qx20, px21, qx21, px22, qx22, px23, qx23, px24, qx24, px25, qx25, px26, qx26, px27, qx27]; done, by omega, (by simp only [push_n, set_n, kill_n]; omega), by simp only; omega, rfl⟩ fun G1 hG1 => ?_
    obtain ⟨w, bx, rfl, how, hbq_w, e1, e2, hbm, hbx, hbn, hbo, e3⟩ := hG1
    have hzx := hok.len
    rw [← e1, ← e2, ← e3]
    clear hok e1 e2 e3 hxb_x hxc_x hxr_x hob_x hbq_x a0_x a1_x hln_x hnx_x hbx_x hcx_x r0_x r1_x r2_x r3_x hlB_x hlC_x px00 qx00 px01 qx01 px02 qx02 px03 qx03 px04 qx04 px05 qx05 px06 qx06 px07 qx07 px10 qx10 px11 qx11 px12 qx12 px13 qx13 px14 qx14 px15 qx15 px16 qx16 px17 qx17 px20 qx20 px21 qx21 px22 qx22 px23 qx23 px24 qx24 px25 qx25 px26 qx26 px27 qx27
    have hxb_w : w.H.b b_c = some k_c := how.old b_c k_c (Ne.symm hcb_c) hat_c.blk
    have hxc_w := how.cur
    have hxr_w := how.row
    have hob_w := how.hob
    have a0_w := how.at0
    have a1_w := how.at1
    have hln_w := how.len
    have hnx_w := how.hn
    have hbx_w : b_c < w.H.n := by omega
    have hcx_w : c_p < w.H.n := by omega
    have r0_w : (w.ob = c_p) = False := eq_false (by omega)
    have r1_w : (c_p = w.ob) = False := eq_false (by omega)
    have r2_w : (w.ob = b_c) = False := eq_false (by omega)
    have r3_w : (b_c = w.ob) = False := eq_false (by omega)
    have hlB_w : 0 ≤ w.a ∧ w.a ≤ 700000000 := by omega
    have hlC_w : w.a ≤ 900000000 := by omega
    have pw00 : (c_p = w.H.n) = False := eq_false (by omega)
    have qw00 : (w.H.n = c_p) = False := eq_false (by omega)
    have pw01 : (c_p = w.H.n + 1) = False := eq_false (by omega)
    have qw01 : (w.H.n + 1 = c_p) = False := eq_false (by omega)
    have pw02 : (c_p = w.H.n + 1 + 1) = False := eq_false (by omega)
    have qw02 : (w.H.n + 1 + 1 = c_p) = False := eq_false (by omega)
    have pw03 : (c_p = w.H.n + 1 + 1 + 1) = False := eq_false (by omega)
    have qw03 : (w.H.n + 1 + 1 + 1 = c_p) = False := eq_false (by omega)
    have pw04 : (c_p = w.H.n + 1 + 1 + 1 + 1) = False := eq_false (by omega)
    have qw04 : (w.H.n + 1 + 1 + 1 + 1 = c_p) = False := eq_false (by omega)
    have pw05 : (c_p = w.H.n + 1 + 1 + 1 + 1 + 1) = False := eq_false (by omega)
    have qw05 : (w.H.n + 1 + 1 + 1 + 1 + 1 = c_p) = False := eq_false (by omega)
    have pw06 : (c_p = w.H.n + 1 + 1 + 1 + 1 + 1 + 1) = False := eq_false (by omega)
    have qw06 : (w.H.n + 1 + 1 + 1 + 1 + 1 + 1 = c_p) = False := eq_false (by omega)
    have pw07 : (c_p = w.H.n + 1 + 1 + 1 + 1 + 1 + 1 + 1) = False := eq_false (by omega)
    have qw07 : (w.H.n + 1 + 1 + 1 + 1 + 1 + 1 + 1 = c_p) = False := eq_false (by omega)
    have pw10 : (b_c = w.H.n) = False := eq_false (by omega)
    have qw10 : (w.H.n = b_c) = False := eq_false (by omega)
    have pw11 : (b_c = w.H.n + 1) = False := eq_false (by omega)
    have qw11 : (w.H.n + 1 = b_c) = False := eq_false (by omega)
    have pw12 : (b_c = w.H.n + 1 + 1) = False := eq_false (by omega)
    have qw12 : (w.H.n + 1 + 1 = b_c) = False := eq_false (by omega)
    have pw13 : (b_c = w.H.n + 1 + 1 + 1) = False := eq_false (by omega)
    have qw13 : (w.H.n + 1 + 1 + 1 = b_c) = False := eq_false (by omega)
    have pw14 : (b_c = w.H.n + 1 + 1 + 1 + 1) = False := eq_false (by omega)
    have qw14 : (w.H.n + 1 + 1 + 1 + 1 = b_c) = False := eq_false (by omega)
    have pw15 : (b_c = w.H.n + 1 + 1 + 1 + 1 + 1) = False := eq_false (by omega)
    have qw15 : (w.H.n + 1 + 1 + 1 + 1 + 1 = b_c) = False := eq_false (by omega)
    have pw16 : (b_c = w.H.n + 1 + 1 + 1 + 1 + 1 + 1) = False := eq_false (by omega)
    have qw16 : (w.H.n + 1 + 1 + 1 + 1 + 1 + 1 = b_c) = False := eq_false (by omega)
    have pw17 : (b_c = w.H.n + 1 + 1 + 1 + 1 + 1 + 1 + 1) = False := eq_false (by omega)
    have qw17 : (w.H.n + 1 + 1 + 1 + 1 + 1 + 1 + 1 = b_c) = False := eq_false (by omega)
    have pw20 : (w.ob = w.H.n) = False := eq_false (by omega)
    have qw20 : (w.H.n = w.ob) = False := eq_false (by omega)
    have pw21 : (w.ob = w.H.n + 1) = False := eq_false (by omega)
    have qw21 : (w.H.n + 1 = w.ob) = False := eq_false (by omega)
    have pw22 : (w.ob = w.H.n + 1 + 1) = False := eq_false (by omega)
    have qw22 : (w.H.n + 1 + 1 = w.ob) = False := eq_false (by omega)
    have pw23 : (w.ob = w.H.n + 1 + 1 + 1) = False := eq_false (by omega)
    have qw23 : (w.H.n + 1 + 1 + 1 = w.ob) = False := eq_false (by omega)
    have pw24 : (w.ob = w.H.n + 1 + 1 + 1 + 1) = False := eq_false (by omega)
    have qw24 : (w.H.n + 1 + 1 + 1 + 1 = w.ob) = False := eq_false (by omega)
    have pw25 : (w.ob = w.H.n + 1 + 1 + 1 + 1 + 1) = False := eq_false (by omega)
    have qw25 : (w.H.n + 1 + 1 + 1 + 1 + 1 = w.ob) = False := eq_false (by omega)
    have pw26 : (w.ob = w.H.n + 1 + 1 + 1 + 1 + 1 + 1) = False := eq_false (by omega)
    have qw26 : (w.H.n + 1 + 1 + 1 + 1 + 1 + 1 = w.ob) = False := eq_false (by omega)
    have pw27 : (w.ob = w.H.n + 1 + 1 + 1 + 1 + 1 + 1 + 1) = False := eq_false (by omega)
    have qw27 : (w.H.n + 1 + 1 + 1 + 1 + 1 + 1 + 1 = w.ob) = False := eq_false (by omega)
    have gb0 : (bx = c_p) = False := eq_false (by omega)
    have gb1 : (c_p = bx) = False := eq_false (by omega)
    have gb2 : (bx = b_c) = False := eq_false (by omega)
    have gb3 : (b_c = bx) = False := eq_false (by omega)
    have gb4 : (bx = w.ob) = False := eq_false hbo
    have gb5 : (w.ob = bx) = False := eq_false fun e => hbo e.symm
    have pb00 : (bx = w.H.n) = False := eq_false (by omega)
    have qb00 : (w.H.n = bx) = False := eq_false (by omega)
    have pb01 : (bx = w.H.n + 1) = False := eq_false (by omega)
    have qb01 : (w.H.n + 1 = bx) = False := eq_false (by omega)
    have pb02 : (bx = w.H.n + 1 + 1) = False := eq_false (by omega)
    have qb02 : (w.H.n + 1 + 1 = bx) = False := eq_false (by omega)
    have pb03 : (bx = w.H.n + 1 + 1 + 1) = False := eq_false (by omega)
    have qb03 : (w.H.n + 1 + 1 + 1 = bx) = False := eq_false (by omega)
    have pb04 : (bx = w.H.n + 1 + 1 + 1 + 1) = False := eq_false (by omega)
    have qb04 : (w.H.n + 1 + 1 + 1 + 1 = bx) = False := eq_false (by omega)
    have pb05 : (bx = w.H.n + 1 + 1 + 1 + 1 + 1) = False := eq_false (by omega)
    have qb05 : (w.H.n + 1 + 1 + 1 + 1 + 1 = bx) = False := eq_false (by omega)
    have wz1 : IntKind.i64.wrap ((x.z : Int) - 1) = (x.z : Int) - 1 := wrap_id (by omega) (by omega)
    have wz2 : ((x.z - 1 : Nat) : Int) = (x.z : Int) - 1 := by omega
    have key7 : ∀ {QL : Exit → AFrame → AHeap → Prop} (w' : DMa) (F' : AFrame), w'.Ok H c_p b_c i_c l_c.length a_c (a_c + 10 + 50 * (10 - (x.z : Int)) + 40) (10 - x.z + 1) → w'.ob < w'.H.n → F'.keep [0, 3, 4] = [(0, .c (.ptr c_p 0 0)), (3, .c (.sl (w'.ob) (0) (w'.out.length))), (4, .c (.int .i64 ((x.z : Int))))] → avc Try.prog [(89, q_cpick), (122, q_mail), (123, q_isMa), (120, q_one), (124, q_codeMa)] 92 H.n __spec_l1Cur__timetable_r7 F' w'.H (thenQ QL (AgainW H.n (fun x => [(0, .c (.ptr c_p 0 0)), (3, .c (.sl (x.ob) (0) (x.out.length))), (4, .c (.int .i64 ((x.z : Int))))]) (fun x => x.H) (fun x => x.Ok H c_p b_c i_c l_c.length a_c (a_c + 10 + 50 * (10 - (x.z : Int))) (10 - x.z) ∧ x.z ≤ 10 ∧ x.ob < x.H.n) (fun x => x.z) x)) := by
      intro QL w' F' h1 h2 h3
      have h1n := h1.hn
      have h1o := h1.hob
      refine (show avc _ _ _ _ _ _ _ _ = _ from avc_cut _ _).mpr ?_
      rw [h3]
      simp (config := {contextual := true, implicitDefEqProofs := false, maxSteps := 2000000}) [-Int.not_le, -Int.not_lt, argsF, wz1]
      exact ⟨fun hw => ⟨⟨w'.H, w'.a, w'.s, w'.out, w'.ob, x.z - 1, 0⟩, ⟨h1.more (by dsimp only; omega) (by dsimp only; omega) _ _, by dsimp only; omega, h2⟩, by dsimp only; omega, .since h1n hw (.refl _) (by simp [frOk, AV.okR, AV.ok1, AC.okR, AV.ren, AV.ren1, AC.ren, AFrame.get, pl1_old, *]; first | done | rfl | omega)⟩⟩
    by_cases hM : isMa m = true
    · simp (config := {contextual := true, implicitDefEqProofs := false, maxSteps := 2000000}) [-Int.not_le, -Int.not_lt, argsF, __spec_l1Cur__timetable_r6, __spec_l1Cur__timetable_r0, onCur, dlI, dlT, curOf_lit, hcb_c, hbc_c, hbd_c, hat_c.esz, hat_c.len, hat_c.els, hxc_w, hxb_w, hxr_w, r0_w, r1_w, r2_w, r3_w, hlB_w, hlC_w, pw00, qw00, pw01, qw01, pw02, qw02, pw03, qw03, pw04, qw04, pw05, qw05, pw06, qw06, pw07, qw07, pw10, qw10, pw11, qw11, pw12, qw12, pw13, qw13, pw14, qw14, pw15, qw15, pw16, qw16, pw17, qw17, pw20, qw20, pw21, qw21, pw22, qw22, pw23, qw23, pw24, qw24, pw25, qw25, pw26, qw26, pw27, qw27, hbm, hbx, gb0, gb1, gb2, gb3, gb4, gb5, pb00, qb00, pb01, qb01, pb02, qb02, pb03, qb03, pb04, qb04, pb05, qb05, hM]
      exact key5 w bx m (x.z : Int) _ _ _ (how.more (by omega : _ ≤ a_c + 10 + 50 * (10 - (x.z : Int)) + 40) (Nat.le_refl _) w.z w.g) (by omega) (by omega) hbq_w hbm hbx hbn hbo rfl key7
    · have hM0 : isMa m = false := by simpa using hM
      simp (config := {contextual := true, implicitDefEqProofs := false, maxSteps := 2000000}) [-Int.not_le, -Int.not_lt, argsF, __spec_l1Cur__timetable_r6, onCur, dlI, dlT, curOf_lit, hcb_c, hbc_c, hbd_c, hat_c.esz, hat_c.len, hat_c.els, hxc_w, hxb_w, hxr_w, r0_w, r1_w, r2_w, r3_w, hlB_w, hlC_w, pw00, qw00, pw01, qw01, pw02, qw02, pw03, qw03, pw04, qw04, pw05, qw05, pw06, qw06, pw07, qw07, pw10, qw10, pw11, qw11, pw12, qw12, pw13, qw13, pw14, qw14, pw15, qw15, pw16, qw16, pw17, qw17, pw20, qw20, pw21, qw21, pw22, qw22, pw23, qw23, pw24, qw24, pw25, qw25, pw26, qw26, pw27, qw27, hbm, hbx, gb0, gb1, gb2, gb3, gb4, gb5, pb00, qb00, pb01, qb01, pb02, qb02, pb03, qb03, pb04, qb04, pb05, qb05, hM0]
      refine Stop.mk fun o a2 s2 hl2 hu2 => ?_
      have how2 : DMa.Ok ⟨w.H.set c_p (curK b_c i_c l_c.length a2 s2), a2, s2, w.out, w.ob, 0, 0⟩ H c_p b_c i_c l_c.length a_c (a_c + 10 + 50 * (10 - (x.z : Int)) + 40) (10 - x.z) := ⟨(by simp only [push_n, set_n, kill_n]; omega), (by simp only [push_I, set_I, kill_I]; exact how.hI), by simp [push_b, set_b, kill_b, onCur, dlI, dlT, curOf_lit, hcb_c, hbc_c, hbd_c, hat_c.esz, hat_c.len, hat_c.els, hxc_w, hxb_w, hxr_w, r0_w, r1_w, r2_w, r3_w, hlB_w, hlC_w, pw00, qw00, pw01, qw01, pw02, qw02, pw03, qw03, pw04, qw04, pw05, qw05, pw06, qw06, pw07, qw07, pw10, qw10, pw11, qw11, pw12, qw12, pw13, qw13, pw14, qw14, pw15, qw15, pw16, qw16, pw17, qw17, pw20, qw20, pw21, qw21, pw22, qw22, pw23, qw23, pw24, qw24, pw25, qw25, pw26, qw26, pw27, qw27]; done, (fun j k hjc hj => by have hjn := (hwf j k hj).1; have qj0 : (j = w.H.n) = False := eq_false (by omega); have qj1 : (j = w.H.n + 1) = False := eq_false (by omega); have qj2 : (j = w.H.n + 1 + 1) = False := eq_false (by omega); have qj3 : (j = w.H.n + 1 + 1 + 1) = False := eq_false (by omega); have qj4 : (j = w.H.n + 1 + 1 + 1 + 1) = False := eq_false (by omega); have qj5 : (j = w.H.n + 1 + 1 + 1 + 1 + 1) = False := eq_false (by omega); have qj6 : (j = w.H.n + 1 + 1 + 1 + 1 + 1 + 1) = False := eq_false (by omega); have qj7 : (j = w.H.n + 1 + 1 + 1 + 1 + 1 + 1 + 1) = False := eq_false (by omega); have qjo : (j = w.ob) = False := eq_false (by omega); simp [push_b, set_b, kill_b, hjc, qj0, qj1, qj2, qj3, qj4, qj5, qj6, qj7, qjo, how.old j k hjc hj]; done), by simp [push_b, set_b, kill_b, onCur, dlI, dlT, curOf_lit, hcb_c, hbc_c, hbd_c, hat_c.esz, hat_c.len, hat_c.els, hxc_w, hxb_w, hxr_w, r0_w, r1_w, r2_w, r3_w, hlB_w, hlC_w, pw00, qw00, pw01, qw01, pw02, qw02, pw03, qw03, pw04, qw04, pw05, qw05, pw06, qw06, pw07, qw07, pw10, qw10, pw11, qw11, pw12, qw12, pw13, qw13, pw14, qw14, pw15, qw15, pw16, qw16, pw17, qw17, pw20, qw20, pw21, qw21, pw22, qw22, pw23, qw23, pw24, qw24, pw25, qw25, pw26, qw26, pw27, qw27, rowK]; done, by simp only; omega, by simp only; omega, by simp only; omega, by simp only; omega⟩
      cases o with
      | true =>
        simp (config := {contextual := true, implicitDefEqProofs := false, maxSteps := 2000000}) [-Int.not_le, -Int.not_lt, argsF, __spec_l1Cur__timetable_r0, onCur, dlI, dlT, curOf_lit, hcb_c, hbc_c, hbd_c, hat_c.esz, hat_c.len, hat_c.els, hxc_w, hxb_w, hxr_w, r0_w, r1_w, r2_w, r3_w, hlB_w, hlC_w, pw00, qw00, pw01, qw01, pw02, qw02, pw03, qw03, pw04, qw04, pw05, qw05, pw06, qw06, pw07, qw07, pw10, qw10, pw11, qw11, pw12, qw12, pw13, qw13, pw14, qw14, pw15, qw15, pw16, qw16, pw17, qw17, pw20, qw20, pw21, qw21, pw22, qw22, pw23, qw23, pw24, qw24, pw25, qw25, pw26, qw26, pw27, qw27, hbm, hbx, gb0, gb1, gb2, gb3, gb4, gb5, pb00, qb00, pb01, qb01, pb02, qb02, pb03, qb03, pb04, qb04, pb05, qb05, hM0]
        exact key5 _ bx m (x.z : Int) _ _ _ how2 (by omega) (by omega) (by simp only [push_n, set_n, kill_n]; omega) (by simp [push_b, set_b, kill_b, onCur, dlI, dlT, curOf_lit, hcb_c, hbc_c, hbd_c, hat_c.esz, hat_c.len, hat_c.els, hxc_w, hxb_w, hxr_w, r0_w, r1_w, r2_w, r3_w, hlB_w, hlC_w, pw00, qw00, pw01, qw01, pw02, qw02, pw03, qw03, pw04, qw04, pw05, qw05, pw06, qw06, pw07, qw07, pw10, qw10, pw11, qw11, pw12, qw12, pw13, qw13, pw14, qw14, pw15, qw15, pw16, qw16, pw17, qw17, pw20, qw20, pw21, qw21, pw22, qw22, pw23, qw23, pw24, qw24, pw25, qw25, pw26, qw26, pw27, qw27, hbx, gb0, gb1, gb2, gb3, gb4, gb5, pb00, qb00, pb01, qb01, pb02, qb02, pb03, qb03, pb04, qb04, pb05, qb05, hbm]; done) hbx (by simp only [push_n, set_n, kill_n]; omega) hbo rfl key7
      | false =>
        simp (config := {contextual := true, implicitDefEqProofs := false, maxSteps := 2000000}) [-Int.not_le, -Int.not_lt, argsF, __spec_l1Cur__timetable_r0, onCur, dlI, dlT, curOf_lit, hcb_c, hbc_c, hbd_c, hat_c.esz, hat_c.len, hat_c.els, hxc_w, hxb_w, hxr_w, r0_w, r1_w, r2_w, r3_w, hlB_w, hlC_w, pw00, qw00, pw01, qw01, pw02, qw02, pw03, qw03, pw04, qw04, pw05, qw05, pw06, qw06, pw07, qw07, pw10, qw10, pw11, qw11, pw12, qw12, pw13, qw13, pw14, qw14, pw15, qw15, pw16, qw16, pw17, qw17, pw20, qw20, pw21, qw21, pw22, qw22, pw23, qw23, pw24, qw24, pw25, qw25, pw26, qw26, pw27, qw27, hbm, hbx, gb0, gb1, gb2, gb3, gb4, gb5, pb00, qb00, pb01, qb01, pb02, qb02, pb03, qb03, pb04, qb04, pb05, qb05, hM0]
        exact key7 _ _ (how2.more (Int.le_refl _) (by omega) 0 0) (by simp only [push_n, set_n, kill_n]; omega) rfl

end Go.Proofs.Ytjiffkjeijfilaa
