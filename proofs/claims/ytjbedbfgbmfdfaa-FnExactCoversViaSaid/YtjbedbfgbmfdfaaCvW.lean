/- Covers via an office. -/
import Derived.Test.YtjbedbfgbmfdfaaCvV
set_option maxRecDepth 8000
set_option linter.unusedSimpArgs false
set_option linter.unusedVariables false
namespace Go.Proofs.Ytjbedbfgbmfdfaa
open Go Go.RowKit

set_option maxHeartbeats 4000000

theorem Weak.leV {n0 n1 : Nat} {F F' : AFrame} {H H' : AHeap} (hn : n1 ≤ n0) (h : Weak n0 F' H' F H) : Weak n1 F' H' F H := by
  obtain ⟨ρ, h1, h2, h3⟩ := h.ex
  exact ⟨ρ, fun b hb => h1 b (Nat.lt_of_lt_of_le hb hn), Nat.le_trans hn h2, h3⟩
theorem roT_in {ms : List Ma} {x : Cv} (hm : areMa ms = true) (hc : isCv x = true) : ∀ i ∈ (roT ms x).1, 0 ≤ i ∧ i < (ms.length : Int) := by
  have hb := isCv_b hc
  unfold roT
  by_cases c : tm ms x.frm x.leave x.to = 10000
  · rw [if_pos c]; simp
  rw [if_neg c]
  by_cases c2 : x.arrive < tm ms x.frm x.leave x.to
  · rw [if_pos c2]; simp
  rw [if_neg c2]
  exact (brL_ok hm (by omega) (by omega) (by omega) c).mem
noncomputable def vP (ms : List Ma) (n : Int) (x : Cv) : Bool := anyV ms n (roT ms x).1
noncomputable def vL (ms : List Ma) (cs : List Cv) (n : Int) : List Int := accV (vP ms n) Cv.id cs []
noncomputable def vRes (ms : List Ma) (cs : List Cv) (n : Int) : List Int × Bool := if areMa ms = true then if areCo cs = true then if inR n 0 9 = true then (vL ms cs n, true) else ([], false) else ([], false) else ([], false)
theorem vL_len {ms : List Ma} {cs : List Cv} {n : Int} (h : areCo cs = true) : (vL ms cs n).length ≤ 10 := by
  have h1 := areCo_len h
  have h2 := (accV_len (vP ms n) Cv.id cs []).2
  simp only [List.length_nil] at h2
  unfold vL; omega
theorem vRes_len (ms : List Ma) (cs : List Cv) (n : Int) : (vRes ms cs n).1.length ≤ 1048576 := by
  unfold vRes
  by_cases h1 : areMa ms = true
  · rw [if_pos h1]
    by_cases h2 : areCo cs = true
    · rw [if_pos h2]
      by_cases h3 : inR n 0 9 = true
      · rw [if_pos h3]; have := vL_len (ms := ms) (n := n) h2; show (vL ms cs n).length ≤ _; omega
      · rw [if_neg h3]; simp
    · rw [if_neg h2]; simp
  · rw [if_neg h1]; simp

def q_via : Con := fun args H K => match args with
  | [ms_v, cs_v, .c (.int .i64 n)] => eMa.rd H (fun ms => eCv.rd H (fun cs => K (.tup [.c (.sl (H.n) (0) ((vRes ms cs n).1.length)), .c (.bool ((vRes ms cs n).2))]) (H.push (rowK eI 3 (vRes ms cs n).1))) cs_v) ms_v
  | _ => False
@[simp ↓] theorem q_via_eq (ms_v : AV) (cs_v : AV) (n : Int) (H : AHeap) (K : AV → AHeap → Prop) : q_via [ms_v, cs_v, .c (.int .i64 n)] H K = (eMa.rd H (fun ms => eCv.rd H (fun cs => K (.tup [.c (.sl (H.n) (0) ((vRes ms cs n).1.length)), .c (.bool ((vRes ms cs n).2))]) (H.push (rowK eI 3 (vRes ms cs n).1))) cs_v) ms_v) := rfl

theorem impl_CoversVia_s : Sound Try.prog 13 q_via := by
  intro args H K h
  unfold q_via at h
  split at h
  rotate_left
  all_goals first | exact False.elim h | skip
  rename_i ms_v cs_v n
  have h1 := Enc.rd_at h
  clear h
  obtain ⟨b_ms, i_ms, k_ms, ms, rfl, hat_ms, h⟩ := h1
  have h1 := Enc.rd_at h
  clear h
  obtain ⟨b_cs, i_cs, k_cs, cs, rfl, hat_cs, h⟩ := h1
  have hE := soundE_cons impl_isTimetable_s (soundE_cons impl_areCovers_s (soundE_cons impl_isOffice_s (soundE_cons impl_routeOn_s (soundE_cons slices_ContainsFunc___int_int_s (soundE_nil (P := Try.prog))))))
  refine acalls_fn impl_CoversVia_k hE ⟨by simp, fun hwf => ?_⟩
  have hb_ms : b_ms < H.n := (hwf b_ms k_ms hat_ms.blk).1
  have hne_ms : (b_ms = H.n) = False := eq_false (by omega)
  have hne1_ms : ∀ i, (b_ms = H.n + i) = False := fun i => eq_false (by omega)
  have hne2_ms : (b_ms = H.n + 1 + 1) = False ∧ (b_ms = H.n + 1 + 1 + 1) = False ∧ (b_ms = H.n + 1 + 1 + 1 + 1) = False ∧ (b_ms = H.n + 1 + 1 + 1 + 1 + 1) = False ∧ (b_ms = H.n + 1 + 1 + 1 + 1 + 1 + 1) = False ∧ (b_ms = H.n + 1 + 1 + 1 + 1 + 1 + 1 + 1) = False ∧ (b_ms = H.n + 1 + 1 + 1 + 1 + 1 + 1 + 1 + 1) = False ∧ (b_ms = H.n + 1 + 1 + 1 + 1 + 1 + 1 + 1 + 1 + 1) = False ∧ (b_ms = H.n + 1 + 1 + 1 + 1 + 1 + 1 + 1 + 1 + 1 + 1) = False ∧ (b_ms = H.n + 1 + 1 + 1 + 1 + 1 + 1 + 1 + 1 + 1 + 1 + 1) = False ∧ (b_ms = H.n + 1 + 1 + 1 + 1 + 1 + 1 + 1 + 1 + 1 + 1 + 1 + 1) = False := ⟨eq_false (by omega), eq_false (by omega), eq_false (by omega), eq_false (by omega), eq_false (by omega), eq_false (by omega), eq_false (by omega), eq_false (by omega), eq_false (by omega), eq_false (by omega), eq_false (by omega)⟩
  have hmx_ms : ms.length ≤ 9223372036854775807 := by have h1 := (hwf b_ms k_ms hat_ms.blk).2.2; have h2 := hat_ms.len; omega
  have hb_cs : b_cs < H.n := (hwf b_cs k_cs hat_cs.blk).1
  have hne_cs : (b_cs = H.n) = False := eq_false (by omega)
  have hne1_cs : ∀ i, (b_cs = H.n + i) = False := fun i => eq_false (by omega)
  have hne2_cs : (b_cs = H.n + 1 + 1) = False ∧ (b_cs = H.n + 1 + 1 + 1) = False ∧ (b_cs = H.n + 1 + 1 + 1 + 1) = False ∧ (b_cs = H.n + 1 + 1 + 1 + 1 + 1) = False ∧ (b_cs = H.n + 1 + 1 + 1 + 1 + 1 + 1) = False ∧ (b_cs = H.n + 1 + 1 + 1 + 1 + 1 + 1 + 1) = False ∧ (b_cs = H.n + 1 + 1 + 1 + 1 + 1 + 1 + 1 + 1) = False ∧ (b_cs = H.n + 1 + 1 + 1 + 1 + 1 + 1 + 1 + 1 + 1) = False ∧ (b_cs = H.n + 1 + 1 + 1 + 1 + 1 + 1 + 1 + 1 + 1 + 1) = False ∧ (b_cs = H.n + 1 + 1 + 1 + 1 + 1 + 1 + 1 + 1 + 1 + 1 + 1) = False ∧ (b_cs = H.n + 1 + 1 + 1 + 1 + 1 + 1 + 1 + 1 + 1 + 1 + 1 + 1) = False := ⟨eq_false (by omega), eq_false (by omega), eq_false (by omega), eq_false (by omega), eq_false (by omega), eq_false (by omega), eq_false (by omega), eq_false (by omega), eq_false (by omega), eq_false (by omega), eq_false (by omega)⟩
  have hmx_cs : cs.length ≤ 9223372036854775807 := by have h1 := (hwf b_cs k_cs hat_cs.blk).2.2; have h2 := hat_cs.len; omega
  unfold vRes at h
  by_cases hm : areMa ms = true
  rotate_left
  · rw [if_neg hm] at h
    simp (config := {contextual := true, implicitDefEqProofs := false, maxSteps := 2000000}) [-Int.not_le, -Int.not_lt, argsF, impl_CoversVia_c, hat_ms.blk, hat_ms.esz, hat_ms.len, hat_ms.els, hne_ms, hne1_ms, hne2_ms.1, hne2_ms.2.1, hne2_ms.2.2.1, hne2_ms.2.2.2.1, hne2_ms.2.2.2.2.1, hne2_ms.2.2.2.2.2.1, hne2_ms.2.2.2.2.2.2.1, hne2_ms.2.2.2.2.2.2.2.1, hne2_ms.2.2.2.2.2.2.2.2.1, hne2_ms.2.2.2.2.2.2.2.2.2.1, hne2_ms.2.2.2.2.2.2.2.2.2.2, hat_cs.blk, hat_cs.esz, hat_cs.len, hat_cs.els, hne_cs, hne1_cs, hne2_cs.1, hne2_cs.2.1, hne2_cs.2.2.1, hne2_cs.2.2.2.1, hne2_cs.2.2.2.2.1, hne2_cs.2.2.2.2.2.1, hne2_cs.2.2.2.2.2.2.1, hne2_cs.2.2.2.2.2.2.2.1, hne2_cs.2.2.2.2.2.2.2.2.1, hne2_cs.2.2.2.2.2.2.2.2.2.1, hne2_cs.2.2.2.2.2.2.2.2.2.2, hm]
    exact (.one (c := none) hwf (by (repeat first | exact Sub.refl _ | refine Sub.push hwf ?_ _ | refine Sub.set hwf ?_ (by first | exact Nat.le_refl _ | omega | (simp only [push_n, set_n, kill_n]; omega)) _ | refine Sub.kill hwf ?_ (by first | exact Nat.le_refl _ | omega | (simp only [push_n, set_n, kill_n]; omega)))) ⟨rfl, rfl⟩ (plain_map (fun _ => rfl) _) (by simp [frOk, AV.okR, AV.ok1, AC.okR, AV.ren, AV.ren1, AC.ren, AFrame.get, pl1_old, *]; first | done | rfl | omega) h)
  by_cases hc : areCo cs = true
  rotate_left
  · rw [if_pos hm, if_neg hc] at h
    simp (config := {contextual := true, implicitDefEqProofs := false, maxSteps := 2000000}) [-Int.not_le, -Int.not_lt, argsF, impl_CoversVia_c, hat_ms.blk, hat_ms.esz, hat_ms.len, hat_ms.els, hne_ms, hne1_ms, hne2_ms.1, hne2_ms.2.1, hne2_ms.2.2.1, hne2_ms.2.2.2.1, hne2_ms.2.2.2.2.1, hne2_ms.2.2.2.2.2.1, hne2_ms.2.2.2.2.2.2.1, hne2_ms.2.2.2.2.2.2.2.1, hne2_ms.2.2.2.2.2.2.2.2.1, hne2_ms.2.2.2.2.2.2.2.2.2.1, hne2_ms.2.2.2.2.2.2.2.2.2.2, hat_cs.blk, hat_cs.esz, hat_cs.len, hat_cs.els, hne_cs, hne1_cs, hne2_cs.1, hne2_cs.2.1, hne2_cs.2.2.1, hne2_cs.2.2.2.1, hne2_cs.2.2.2.2.1, hne2_cs.2.2.2.2.2.1, hne2_cs.2.2.2.2.2.2.1, hne2_cs.2.2.2.2.2.2.2.1, hne2_cs.2.2.2.2.2.2.2.2.1, hne2_cs.2.2.2.2.2.2.2.2.2.1, hne2_cs.2.2.2.2.2.2.2.2.2.2, hm, hc]
    exact (.one (c := none) hwf (by (repeat first | exact Sub.refl _ | refine Sub.push hwf ?_ _ | refine Sub.set hwf ?_ (by first | exact Nat.le_refl _ | omega | (simp only [push_n, set_n, kill_n]; omega)) _ | refine Sub.kill hwf ?_ (by first | exact Nat.le_refl _ | omega | (simp only [push_n, set_n, kill_n]; omega)))) ⟨rfl, rfl⟩ (plain_map (fun _ => rfl) _) (by simp [frOk, AV.okR, AV.ok1, AC.okR, AV.ren, AV.ren1, AC.ren, AFrame.get, pl1_old, *]; first | done | rfl | omega) h)
  by_cases hn : inR n 0 9 = true
  rotate_left
  · rw [if_pos hm, if_pos hc, if_neg hn] at h
    simp (config := {contextual := true, implicitDefEqProofs := false, maxSteps := 2000000}) [-Int.not_le, -Int.not_lt, argsF, impl_CoversVia_c, hat_ms.blk, hat_ms.esz, hat_ms.len, hat_ms.els, hne_ms, hne1_ms, hne2_ms.1, hne2_ms.2.1, hne2_ms.2.2.1, hne2_ms.2.2.2.1, hne2_ms.2.2.2.2.1, hne2_ms.2.2.2.2.2.1, hne2_ms.2.2.2.2.2.2.1, hne2_ms.2.2.2.2.2.2.2.1, hne2_ms.2.2.2.2.2.2.2.2.1, hne2_ms.2.2.2.2.2.2.2.2.2.1, hne2_ms.2.2.2.2.2.2.2.2.2.2, hat_cs.blk, hat_cs.esz, hat_cs.len, hat_cs.els, hne_cs, hne1_cs, hne2_cs.1, hne2_cs.2.1, hne2_cs.2.2.1, hne2_cs.2.2.2.1, hne2_cs.2.2.2.2.1, hne2_cs.2.2.2.2.2.1, hne2_cs.2.2.2.2.2.2.1, hne2_cs.2.2.2.2.2.2.2.1, hne2_cs.2.2.2.2.2.2.2.2.1, hne2_cs.2.2.2.2.2.2.2.2.2.1, hne2_cs.2.2.2.2.2.2.2.2.2.2, hm, hc, hn]
    exact (.one (c := none) hwf (by (repeat first | exact Sub.refl _ | refine Sub.push hwf ?_ _ | refine Sub.set hwf ?_ (by first | exact Nat.le_refl _ | omega | (simp only [push_n, set_n, kill_n]; omega)) _ | refine Sub.kill hwf ?_ (by first | exact Nat.le_refl _ | omega | (simp only [push_n, set_n, kill_n]; omega)))) ⟨rfl, rfl⟩ (plain_map (fun _ => rfl) _) (by simp [frOk, AV.okR, AV.ok1, AC.okR, AV.ren, AV.ren1, AC.ren, AFrame.get, pl1_old, *]; first | done | rfl | omega) h)
  rw [if_pos hm, if_pos hc, if_pos hn] at h
  have hcv := areCo_at hc
  have hlen := vL_len (ms := ms) (n := n) hc
  have bf_p0 : b_ms < H.n + 1 + 1 + 1 := by omega
  have bf_q0 : ∀ c, pl1 (((H.push ⟨29, 1, false, false, [[.sl b_ms i_ms ms.length]]⟩).push ⟨3, 1, false, false, [[.int .i64 n]]⟩)) c (b_ms) = some (b_ms) := fun c => pl1_old _ c (by simp only [push_n, set_n, kill_n]; omega)
  have bf_p1 : b_cs < H.n + 1 + 1 + 1 := by omega
  have bf_q1 : ∀ c, pl1 (((H.push ⟨29, 1, false, false, [[.sl b_ms i_ms ms.length]]⟩).push ⟨3, 1, false, false, [[.int .i64 n]]⟩)) c (b_cs) = some (b_cs) := fun c => pl1_old _ c (by simp only [push_n, set_n, kill_n]; omega)
  have bf_p2 : H.n < H.n + 1 + 1 + 1 := by omega
  have bf_q2 : ∀ c, pl1 (((H.push ⟨29, 1, false, false, [[.sl b_ms i_ms ms.length]]⟩).push ⟨3, 1, false, false, [[.int .i64 n]]⟩)) c (H.n) = some (H.n) := fun c => pl1_old _ c (by simp only [push_n, set_n, kill_n]; omega)
  have bf_p3 : H.n + 1 < H.n + 1 + 1 + 1 := by omega
  have bf_q3 : ∀ c, pl1 (((H.push ⟨29, 1, false, false, [[.sl b_ms i_ms ms.length]]⟩).push ⟨3, 1, false, false, [[.int .i64 n]]⟩)) c (H.n + 1) = some (H.n + 1) := fun c => pl1_old _ c (by simp only [push_n, set_n, kill_n]; omega)
  have bf_z : ∀ c, pl1 (((H.push ⟨29, 1, false, false, [[.sl b_ms i_ms ms.length]]⟩).push ⟨3, 1, false, false, [[.int .i64 n]]⟩)) c (H.n + 1 + 1) = c := fun c => pl1_new (((H.push ⟨29, 1, false, false, [[.sl b_ms i_ms ms.length]]⟩).push ⟨3, 1, false, false, [[.int .i64 n]]⟩)) c
  have bf_y : H.n + 1 + 1 < H.n + 1 + 1 + 1 := by omega
  have hwfB : (((H.push ⟨29, 1, false, false, [[.sl b_ms i_ms ms.length]]⟩).push ⟨3, 1, false, false, [[.int .i64 n]]⟩)).WF := WF.push (WF.push hwf (by simp [AC.okR]; first | exact hb_ms | (constructor <;> first | exact hb_ms | omega) | omega) (by simp)) (by simp [AC.okR]) (by simp)
  simp (config := {contextual := true, implicitDefEqProofs := false, maxSteps := 2000000}) [-Int.not_le, -Int.not_lt, argsF, impl_CoversVia_c, hat_ms.blk, hat_ms.esz, hat_ms.len, hat_ms.els, hne_ms, hne1_ms, hne2_ms.1, hne2_ms.2.1, hne2_ms.2.2.1, hne2_ms.2.2.2.1, hne2_ms.2.2.2.2.1, hne2_ms.2.2.2.2.2.1, hne2_ms.2.2.2.2.2.2.1, hne2_ms.2.2.2.2.2.2.2.1, hne2_ms.2.2.2.2.2.2.2.2.1, hne2_ms.2.2.2.2.2.2.2.2.2.1, hne2_ms.2.2.2.2.2.2.2.2.2.2, hat_cs.blk, hat_cs.esz, hat_cs.len, hat_cs.els, hne_cs, hne1_cs, hne2_cs.1, hne2_cs.2.1, hne2_cs.2.2.1, hne2_cs.2.2.2.1, hne2_cs.2.2.2.2.1, hne2_cs.2.2.2.2.2.1, hne2_cs.2.2.2.2.2.2.1, hne2_cs.2.2.2.2.2.2.2.1, hne2_cs.2.2.2.2.2.2.2.2.1, hne2_cs.2.2.2.2.2.2.2.2.2.1, hne2_cs.2.2.2.2.2.2.2.2.2.2, hm, hc, hn]
  refine aloop_list cs (fun j (out : List Int) => [(3, .c (.ptr H.n 0 0)), (5, .c (.ptr (H.n + 1) 0 0)), (8, .c (.sl (H.n + 1 + 1) (0) (out.length))), (26, .c (.sl b_cs i_cs cs.length)), (27, .c (.int .i64 cs.length)), (28, .c (.int .i64 ((j : Int))))]) (fun j out => (((H.push ⟨29, 1, false, false, [[.sl b_ms i_ms ms.length]]⟩).push ⟨3, 1, false, false, [[.int .i64 n]]⟩)).push (rowK eI 3 out)) (fun j l out => accV (vP ms n) Cv.id l out = vL ms cs n) hE _ [] rfl (.leV (by simp only [push_n]; omega) (.one (H := ((H.push ⟨29, 1, false, false, [[.sl b_ms i_ms ms.length]]⟩).push ⟨3, 1, false, false, [[.int .i64 n]]⟩)) (c := none) hwfB (.refl _) ⟨rfl, rfl⟩ (plain_map (fun _ => rfl) _) (by simp [frOk, AV.okR, AV.ok1, AC.okR, AV.ren, AV.ren1, AC.ren, AFrame.get, pl1_old, *]; first | done | rfl | omega))) (fun j out hlt hi => ?_) fun out hi => ?_
  · have hj1 := idx_lt hlt
    have e1 := hat_cs.get hlt
    have w1 : IntKind.i64.wrap ((j : Int) + 1) = (j : Int) + 1 := wrap_id (by omega) (by omega)
    have hx := hcv _ (List.getElem_mem hlt)
    have hol : out.length ≤ (vL ms cs n).length := by rw [← hi]; exact (accV_len _ _ _ _).1
    have hs1 : (out.length + 1) * 8 ≤ 140737488355328 := by omega
    have hs2 : out.length + 1 ≤ 140737488355328 := by omega
    have hs3 : out.length ≤ 140737488355327 := by omega
    have hro := roT_in hm hx
    simp only [accV] at hi
    by_cases hh : vP ms n cs[j] = true
    · rw [if_pos hh] at hi
      unfold vP at hh
      simp (config := {contextual := true, implicitDefEqProofs := false, maxSteps := 2000000}) [-Int.not_le, -Int.not_lt, argsF, impl_CoversVia_l0, hat_ms.blk, hat_ms.esz, hat_ms.len, hat_ms.els, hne_ms, hne1_ms, hne2_ms.1, hne2_ms.2.1, hne2_ms.2.2.1, hne2_ms.2.2.2.1, hne2_ms.2.2.2.2.1, hne2_ms.2.2.2.2.2.1, hne2_ms.2.2.2.2.2.2.1, hne2_ms.2.2.2.2.2.2.2.1, hne2_ms.2.2.2.2.2.2.2.2.1, hne2_ms.2.2.2.2.2.2.2.2.2.1, hne2_ms.2.2.2.2.2.2.2.2.2.2, hat_cs.blk, hat_cs.esz, hat_cs.len, hat_cs.els, hne_cs, hne1_cs, hne2_cs.1, hne2_cs.2.1, hne2_cs.2.2.1, hne2_cs.2.2.2.1, hne2_cs.2.2.2.2.1, hne2_cs.2.2.2.2.2.1, hne2_cs.2.2.2.2.2.2.1, hne2_cs.2.2.2.2.2.2.2.1, hne2_cs.2.2.2.2.2.2.2.2.1, hne2_cs.2.2.2.2.2.2.2.2.2.1, hne2_cs.2.2.2.2.2.2.2.2.2.2, hj1, e1, hlt, w1, hm, hx, hro, hh, hs1, hs2, hs3, twoB, cell1, boxI, rowK]
      have hwf := hwfB
      exact ⟨out ++ [cs[j].id], hi, .leV (by simp only [push_n]; omega) (.one (H := ((H.push ⟨29, 1, false, false, [[.sl b_ms i_ms ms.length]]⟩).push ⟨3, 1, false, false, [[.int .i64 n]]⟩)) (c := some (H.n + 1 + 1 + 1 + 1 + 1 + 1)) hwf (by (repeat first | exact Sub.refl _ | refine Sub.push hwf ?_ _ | refine Sub.set hwf ?_ (by first | exact Nat.le_refl _ | omega | (simp only [push_n, set_n, kill_n]; omega)) _ | refine Sub.kill hwf ?_ (by first | exact Nat.le_refl _ | omega | (simp only [push_n, set_n, kill_n]; omega)))) ⟨by simp only [push_n]; omega, by simp [push_b, set_b, kill_b, rowK]; done⟩ (plain_map (fun _ => rfl) _) (by simp [frOk, AV.okR, AV.ok1, AC.okR, AV.ren, AV.ren1, AC.ren, AFrame.get, pl1_old, *]; first | done | rfl | omega))⟩
    · rw [if_neg hh] at hi
      have hh' : vP ms n cs[j] = false := by simpa using hh
      unfold vP at hh'
      simp (config := {contextual := true, implicitDefEqProofs := false, maxSteps := 2000000}) [-Int.not_le, -Int.not_lt, argsF, impl_CoversVia_l0, hat_ms.blk, hat_ms.esz, hat_ms.len, hat_ms.els, hne_ms, hne1_ms, hne2_ms.1, hne2_ms.2.1, hne2_ms.2.2.1, hne2_ms.2.2.2.1, hne2_ms.2.2.2.2.1, hne2_ms.2.2.2.2.2.1, hne2_ms.2.2.2.2.2.2.1, hne2_ms.2.2.2.2.2.2.2.1, hne2_ms.2.2.2.2.2.2.2.2.1, hne2_ms.2.2.2.2.2.2.2.2.2.1, hne2_ms.2.2.2.2.2.2.2.2.2.2, hat_cs.blk, hat_cs.esz, hat_cs.len, hat_cs.els, hne_cs, hne1_cs, hne2_cs.1, hne2_cs.2.1, hne2_cs.2.2.1, hne2_cs.2.2.2.1, hne2_cs.2.2.2.2.1, hne2_cs.2.2.2.2.2.1, hne2_cs.2.2.2.2.2.2.1, hne2_cs.2.2.2.2.2.2.2.1, hne2_cs.2.2.2.2.2.2.2.2.1, hne2_cs.2.2.2.2.2.2.2.2.2.1, hne2_cs.2.2.2.2.2.2.2.2.2.2, hj1, e1, hlt, w1, hm, hx, hro, hh', twoB, cell1, boxI, rowK]
      have hwf := hwfB
      exact ⟨out, hi, .leV (by simp only [push_n]; omega) (.one (H := ((H.push ⟨29, 1, false, false, [[.sl b_ms i_ms ms.length]]⟩).push ⟨3, 1, false, false, [[.int .i64 n]]⟩)) (c := some (H.n + 1 + 1)) hwf (by (repeat first | exact Sub.refl _ | refine Sub.push hwf ?_ _ | refine Sub.set hwf ?_ (by first | exact Nat.le_refl _ | omega | (simp only [push_n, set_n, kill_n]; omega)) _ | refine Sub.kill hwf ?_ (by first | exact Nat.le_refl _ | omega | (simp only [push_n, set_n, kill_n]; omega)))) ⟨by simp only [push_n]; omega, by simp [push_b, set_b, kill_b, rowK]; done⟩ (plain_map (fun _ => rfl) _) (by simp [frOk, AV.okR, AV.ok1, AC.okR, AV.ren, AV.ren1, AC.ren, AFrame.get, pl1_old, *]; first | done | rfl | omega))⟩
  · simp only [accV] at hi
    simp (config := {contextual := true, implicitDefEqProofs := false, maxSteps := 2000000}) [-Int.not_le, -Int.not_lt, argsF, impl_CoversVia_l0, hat_ms.blk, hat_ms.esz, hat_ms.len, hat_ms.els, hne_ms, hne1_ms, hne2_ms.1, hne2_ms.2.1, hne2_ms.2.2.1, hne2_ms.2.2.2.1, hne2_ms.2.2.2.2.1, hne2_ms.2.2.2.2.2.1, hne2_ms.2.2.2.2.2.2.1, hne2_ms.2.2.2.2.2.2.2.1, hne2_ms.2.2.2.2.2.2.2.2.1, hne2_ms.2.2.2.2.2.2.2.2.2.1, hne2_ms.2.2.2.2.2.2.2.2.2.2, hat_cs.blk, hat_cs.esz, hat_cs.len, hat_cs.els, hne_cs, hne1_cs, hne2_cs.1, hne2_cs.2.1, hne2_cs.2.2.1, hne2_cs.2.2.2.1, hne2_cs.2.2.2.2.1, hne2_cs.2.2.2.2.2.1, hne2_cs.2.2.2.2.2.2.1, hne2_cs.2.2.2.2.2.2.2.1, hne2_cs.2.2.2.2.2.2.2.2.1, hne2_cs.2.2.2.2.2.2.2.2.2.1, hne2_cs.2.2.2.2.2.2.2.2.2.2]
    rw [hi]
    exact (.one (c := some (H.n + 1 + 1)) hwf (by (repeat first | exact Sub.refl _ | refine Sub.push hwf ?_ _ | refine Sub.set hwf ?_ (by first | exact Nat.le_refl _ | omega | (simp only [push_n, set_n, kill_n]; omega)) _ | refine Sub.kill hwf ?_ (by first | exact Nat.le_refl _ | omega | (simp only [push_n, set_n, kill_n]; omega)))) ⟨by omega, by simp [push_b, set_b, kill_b, rowK]; done⟩ (plain_map (fun _ => rfl) _) (by simp [frOk, AV.okR, AV.ok1, AC.okR, AV.ren, AV.ren1, AC.ren, AFrame.get, pl1_old, *]; first | done | rfl | omega) h)

theorem spec_CoversVia_s : Sound Try.prog 10 q_via := by
  intro args H K h
  unfold q_via at h
  split at h
  rotate_left
  all_goals first | exact False.elim h | skip
  rename_i ms_v cs_v n
  have h1 := Enc.rd_at h
  clear h
  obtain ⟨b_ms, i_ms, k_ms, ms, rfl, hat_ms, h⟩ := h1
  have h1 := Enc.rd_at h
  clear h
  obtain ⟨b_cs, i_cs, k_cs, cs, rfl, hat_cs, h⟩ := h1
  have hE := soundE_cons spec_l9Good_s (soundE_cons spec_l10Good_s (soundE_cons spec_l9Office_s (soundE_cons spec_l10Route_s (soundE_nil (P := Try.prog)))))
  refine acalls_fn spec_CoversVia_k hE ⟨by simp, fun hwf => ?_⟩
  have hb_ms : b_ms < H.n := (hwf b_ms k_ms hat_ms.blk).1
  have hne_ms : (b_ms = H.n) = False := eq_false (by omega)
  have hne1_ms : ∀ i, (b_ms = H.n + i) = False := fun i => eq_false (by omega)
  have hne2_ms : (b_ms = H.n + 1 + 1) = False ∧ (b_ms = H.n + 1 + 1 + 1) = False ∧ (b_ms = H.n + 1 + 1 + 1 + 1) = False ∧ (b_ms = H.n + 1 + 1 + 1 + 1 + 1) = False ∧ (b_ms = H.n + 1 + 1 + 1 + 1 + 1 + 1) = False ∧ (b_ms = H.n + 1 + 1 + 1 + 1 + 1 + 1 + 1) = False ∧ (b_ms = H.n + 1 + 1 + 1 + 1 + 1 + 1 + 1 + 1) = False ∧ (b_ms = H.n + 1 + 1 + 1 + 1 + 1 + 1 + 1 + 1 + 1) = False ∧ (b_ms = H.n + 1 + 1 + 1 + 1 + 1 + 1 + 1 + 1 + 1 + 1) = False ∧ (b_ms = H.n + 1 + 1 + 1 + 1 + 1 + 1 + 1 + 1 + 1 + 1 + 1) = False ∧ (b_ms = H.n + 1 + 1 + 1 + 1 + 1 + 1 + 1 + 1 + 1 + 1 + 1 + 1) = False := ⟨eq_false (by omega), eq_false (by omega), eq_false (by omega), eq_false (by omega), eq_false (by omega), eq_false (by omega), eq_false (by omega), eq_false (by omega), eq_false (by omega), eq_false (by omega), eq_false (by omega)⟩
  have hmx_ms : ms.length ≤ 9223372036854775807 := by have h1 := (hwf b_ms k_ms hat_ms.blk).2.2; have h2 := hat_ms.len; omega
  have hb_cs : b_cs < H.n := (hwf b_cs k_cs hat_cs.blk).1
  have hne_cs : (b_cs = H.n) = False := eq_false (by omega)
  have hne1_cs : ∀ i, (b_cs = H.n + i) = False := fun i => eq_false (by omega)
  have hne2_cs : (b_cs = H.n + 1 + 1) = False ∧ (b_cs = H.n + 1 + 1 + 1) = False ∧ (b_cs = H.n + 1 + 1 + 1 + 1) = False ∧ (b_cs = H.n + 1 + 1 + 1 + 1 + 1) = False ∧ (b_cs = H.n + 1 + 1 + 1 + 1 + 1 + 1) = False ∧ (b_cs = H.n + 1 + 1 + 1 + 1 + 1 + 1 + 1) = False ∧ (b_cs = H.n + 1 + 1 + 1 + 1 + 1 + 1 + 1 + 1) = False ∧ (b_cs = H.n + 1 + 1 + 1 + 1 + 1 + 1 + 1 + 1 + 1) = False ∧ (b_cs = H.n + 1 + 1 + 1 + 1 + 1 + 1 + 1 + 1 + 1 + 1) = False ∧ (b_cs = H.n + 1 + 1 + 1 + 1 + 1 + 1 + 1 + 1 + 1 + 1 + 1) = False ∧ (b_cs = H.n + 1 + 1 + 1 + 1 + 1 + 1 + 1 + 1 + 1 + 1 + 1 + 1) = False := ⟨eq_false (by omega), eq_false (by omega), eq_false (by omega), eq_false (by omega), eq_false (by omega), eq_false (by omega), eq_false (by omega), eq_false (by omega), eq_false (by omega), eq_false (by omega), eq_false (by omega)⟩
  have hmx_cs : cs.length ≤ 9223372036854775807 := by have h1 := (hwf b_cs k_cs hat_cs.blk).2.2; have h2 := hat_cs.len; omega
  unfold vRes at h
  by_cases hm : areMa ms = true
  rotate_left
  · rw [if_neg hm] at h
    simp (config := {contextual := true, implicitDefEqProofs := false, maxSteps := 2000000}) [-Int.not_le, -Int.not_lt, argsF, spec_CoversVia_c, hat_ms.blk, hat_ms.esz, hat_ms.len, hat_ms.els, hne_ms, hne1_ms, hne2_ms.1, hne2_ms.2.1, hne2_ms.2.2.1, hne2_ms.2.2.2.1, hne2_ms.2.2.2.2.1, hne2_ms.2.2.2.2.2.1, hne2_ms.2.2.2.2.2.2.1, hne2_ms.2.2.2.2.2.2.2.1, hne2_ms.2.2.2.2.2.2.2.2.1, hne2_ms.2.2.2.2.2.2.2.2.2.1, hne2_ms.2.2.2.2.2.2.2.2.2.2, hat_cs.blk, hat_cs.esz, hat_cs.len, hat_cs.els, hne_cs, hne1_cs, hne2_cs.1, hne2_cs.2.1, hne2_cs.2.2.1, hne2_cs.2.2.2.1, hne2_cs.2.2.2.2.1, hne2_cs.2.2.2.2.2.1, hne2_cs.2.2.2.2.2.2.1, hne2_cs.2.2.2.2.2.2.2.1, hne2_cs.2.2.2.2.2.2.2.2.1, hne2_cs.2.2.2.2.2.2.2.2.2.1, hne2_cs.2.2.2.2.2.2.2.2.2.2, hm]
    exact (.one (c := some (H.n)) hwf (by (repeat first | exact Sub.refl _ | refine Sub.push hwf ?_ _ | refine Sub.set hwf ?_ (by first | exact Nat.le_refl _ | omega | (simp only [push_n, set_n, kill_n]; omega)) _ | refine Sub.kill hwf ?_ (by first | exact Nat.le_refl _ | omega | (simp only [push_n, set_n, kill_n]; omega)))) ⟨by omega, by simp [push_b, set_b, kill_b, rowK]; done⟩ (plain_map (fun _ => rfl) _) (by simp [frOk, AV.okR, AV.ok1, AC.okR, AV.ren, AV.ren1, AC.ren, AFrame.get, pl1_old, *]; first | done | rfl | omega) h)
  by_cases hc : areCo cs = true
  rotate_left
  · rw [if_pos hm, if_neg hc] at h
    simp (config := {contextual := true, implicitDefEqProofs := false, maxSteps := 2000000}) [-Int.not_le, -Int.not_lt, argsF, spec_CoversVia_c, hat_ms.blk, hat_ms.esz, hat_ms.len, hat_ms.els, hne_ms, hne1_ms, hne2_ms.1, hne2_ms.2.1, hne2_ms.2.2.1, hne2_ms.2.2.2.1, hne2_ms.2.2.2.2.1, hne2_ms.2.2.2.2.2.1, hne2_ms.2.2.2.2.2.2.1, hne2_ms.2.2.2.2.2.2.2.1, hne2_ms.2.2.2.2.2.2.2.2.1, hne2_ms.2.2.2.2.2.2.2.2.2.1, hne2_ms.2.2.2.2.2.2.2.2.2.2, hat_cs.blk, hat_cs.esz, hat_cs.len, hat_cs.els, hne_cs, hne1_cs, hne2_cs.1, hne2_cs.2.1, hne2_cs.2.2.1, hne2_cs.2.2.2.1, hne2_cs.2.2.2.2.1, hne2_cs.2.2.2.2.2.1, hne2_cs.2.2.2.2.2.2.1, hne2_cs.2.2.2.2.2.2.2.1, hne2_cs.2.2.2.2.2.2.2.2.1, hne2_cs.2.2.2.2.2.2.2.2.2.1, hne2_cs.2.2.2.2.2.2.2.2.2.2, hm, hc]
    exact (.one (c := some (H.n)) hwf (by (repeat first | exact Sub.refl _ | refine Sub.push hwf ?_ _ | refine Sub.set hwf ?_ (by first | exact Nat.le_refl _ | omega | (simp only [push_n, set_n, kill_n]; omega)) _ | refine Sub.kill hwf ?_ (by first | exact Nat.le_refl _ | omega | (simp only [push_n, set_n, kill_n]; omega)))) ⟨by omega, by simp [push_b, set_b, kill_b, rowK]; done⟩ (plain_map (fun _ => rfl) _) (by simp [frOk, AV.okR, AV.ok1, AC.okR, AV.ren, AV.ren1, AC.ren, AFrame.get, pl1_old, *]; first | done | rfl | omega) h)
  by_cases hn : inR n 0 9 = true
  rotate_left
  · rw [if_pos hm, if_pos hc, if_neg hn] at h
    simp (config := {contextual := true, implicitDefEqProofs := false, maxSteps := 2000000}) [-Int.not_le, -Int.not_lt, argsF, spec_CoversVia_c, hat_ms.blk, hat_ms.esz, hat_ms.len, hat_ms.els, hne_ms, hne1_ms, hne2_ms.1, hne2_ms.2.1, hne2_ms.2.2.1, hne2_ms.2.2.2.1, hne2_ms.2.2.2.2.1, hne2_ms.2.2.2.2.2.1, hne2_ms.2.2.2.2.2.2.1, hne2_ms.2.2.2.2.2.2.2.1, hne2_ms.2.2.2.2.2.2.2.2.1, hne2_ms.2.2.2.2.2.2.2.2.2.1, hne2_ms.2.2.2.2.2.2.2.2.2.2, hat_cs.blk, hat_cs.esz, hat_cs.len, hat_cs.els, hne_cs, hne1_cs, hne2_cs.1, hne2_cs.2.1, hne2_cs.2.2.1, hne2_cs.2.2.2.1, hne2_cs.2.2.2.2.1, hne2_cs.2.2.2.2.2.1, hne2_cs.2.2.2.2.2.2.1, hne2_cs.2.2.2.2.2.2.2.1, hne2_cs.2.2.2.2.2.2.2.2.1, hne2_cs.2.2.2.2.2.2.2.2.2.1, hne2_cs.2.2.2.2.2.2.2.2.2.2, hm, hc, hn]
    exact (.one (c := some (H.n)) hwf (by (repeat first | exact Sub.refl _ | refine Sub.push hwf ?_ _ | refine Sub.set hwf ?_ (by first | exact Nat.le_refl _ | omega | (simp only [push_n, set_n, kill_n]; omega)) _ | refine Sub.kill hwf ?_ (by first | exact Nat.le_refl _ | omega | (simp only [push_n, set_n, kill_n]; omega)))) ⟨by omega, by simp [push_b, set_b, kill_b, rowK]; done⟩ (plain_map (fun _ => rfl) _) (by simp [frOk, AV.okR, AV.ok1, AC.okR, AV.ren, AV.ren1, AC.ren, AFrame.get, pl1_old, *]; first | done | rfl | omega) h)
  rw [if_pos hm, if_pos hc, if_pos hn] at h
  have hcv := areCo_at hc
  have hlen := vL_len (ms := ms) (n := n) hc
  simp (config := {contextual := true, implicitDefEqProofs := false, maxSteps := 2000000}) [-Int.not_le, -Int.not_lt, argsF, spec_CoversVia_c, hat_ms.blk, hat_ms.esz, hat_ms.len, hat_ms.els, hne_ms, hne1_ms, hne2_ms.1, hne2_ms.2.1, hne2_ms.2.2.1, hne2_ms.2.2.2.1, hne2_ms.2.2.2.2.1, hne2_ms.2.2.2.2.2.1, hne2_ms.2.2.2.2.2.2.1, hne2_ms.2.2.2.2.2.2.2.1, hne2_ms.2.2.2.2.2.2.2.2.1, hne2_ms.2.2.2.2.2.2.2.2.2.1, hne2_ms.2.2.2.2.2.2.2.2.2.2, hat_cs.blk, hat_cs.esz, hat_cs.len, hat_cs.els, hne_cs, hne1_cs, hne2_cs.1, hne2_cs.2.1, hne2_cs.2.2.1, hne2_cs.2.2.2.1, hne2_cs.2.2.2.2.1, hne2_cs.2.2.2.2.2.1, hne2_cs.2.2.2.2.2.2.1, hne2_cs.2.2.2.2.2.2.2.1, hne2_cs.2.2.2.2.2.2.2.2.1, hne2_cs.2.2.2.2.2.2.2.2.2.1, hne2_cs.2.2.2.2.2.2.2.2.2.2, hm, hc, hn]
  refine aloop_list cs (fun j (out : List Int) => [(0, .c (.sl b_ms i_ms ms.length)), (1, .c (.sl b_cs i_cs cs.length)), (2, .c (.int .i64 (n))), (8, .c (.sl (H.n) (0) (out.length))), (9, .c (.int .i64 ((j : Int))))]) (fun j out => H.push (rowK eI 3 out)) (fun j l out => accV (vP ms n) Cv.id l out = vL ms cs n) hE _ [] rfl (.one (c := some (H.n)) hwf (by (repeat first | exact Sub.refl _ | refine Sub.push hwf ?_ _ | refine Sub.set hwf ?_ (by first | exact Nat.le_refl _ | omega | (simp only [push_n, set_n, kill_n]; omega)) _ | refine Sub.kill hwf ?_ (by first | exact Nat.le_refl _ | omega | (simp only [push_n, set_n, kill_n]; omega)))) ⟨by omega, by simp [push_b, set_b, kill_b, rowK]; done⟩ (plain_map (fun _ => rfl) _) (by simp [frOk, AV.okR, AV.ok1, AC.okR, AV.ren, AV.ren1, AC.ren, AFrame.get, pl1_old, *]; first | done | rfl | omega)) (fun j out hlt hi => ?_) fun out hi => ?_
  · have hj1 := idx_lt hlt
    have e1 := hat_cs.get hlt
    have w1 : IntKind.i64.wrap ((j : Int) + 1) = (j : Int) + 1 := wrap_id (by omega) (by omega)
    have hx := hcv _ (List.getElem_mem hlt)
    have hol : out.length ≤ (vL ms cs n).length := by rw [← hi]; exact (accV_len _ _ _ _).1
    have hs1 : (out.length + 1) * 8 ≤ 140737488355328 := by omega
    have hs2 : out.length + 1 ≤ 140737488355328 := by omega
    have hs3 : out.length ≤ 140737488355327 := by omega
    have hro := roT_in hm hx
    simp only [accV] at hi
    have hrl := roT_len ms cs[j]
    have hvp : vP ms n cs[j] = (roT ms cs[j]).1.any (viaB ms n) := rfl
    simp (config := {contextual := true, implicitDefEqProofs := false, maxSteps := 2000000}) [-Int.not_le, -Int.not_lt, argsF, spec_CoversVia_l1, hat_ms.blk, hat_ms.esz, hat_ms.len, hat_ms.els, hne_ms, hne1_ms, hne2_ms.1, hne2_ms.2.1, hne2_ms.2.2.1, hne2_ms.2.2.2.1, hne2_ms.2.2.2.2.1, hne2_ms.2.2.2.2.2.1, hne2_ms.2.2.2.2.2.2.1, hne2_ms.2.2.2.2.2.2.2.1, hne2_ms.2.2.2.2.2.2.2.2.1, hne2_ms.2.2.2.2.2.2.2.2.2.1, hne2_ms.2.2.2.2.2.2.2.2.2.2, hat_cs.blk, hat_cs.esz, hat_cs.len, hat_cs.els, hne_cs, hne1_cs, hne2_cs.1, hne2_cs.2.1, hne2_cs.2.2.1, hne2_cs.2.2.2.1, hne2_cs.2.2.2.2.1, hne2_cs.2.2.2.2.2.1, hne2_cs.2.2.2.2.2.2.1, hne2_cs.2.2.2.2.2.2.2.1, hne2_cs.2.2.2.2.2.2.2.2.1, hne2_cs.2.2.2.2.2.2.2.2.2.1, hne2_cs.2.2.2.2.2.2.2.2.2.2, hj1, e1, hlt, w1, hm, hx]
    generalize (roT ms cs[j]).1 = r at hro hrl hvp ⊢
    have hwfR : ((H.push (rowK eI 3 out)).push (rowK eI 3 r)).WF := wf_row (wf_row hwf _ (by omega)) _ (by omega)
    refine aloop_list r (fun k (b : Bool) => [(0, .c (.sl b_ms i_ms ms.length)), (1, .c (.sl b_cs i_cs cs.length)), (2, .c (.int .i64 (n))), (8, .c (.sl (H.n) (0) (out.length))), (9, .c (.int .i64 ((j : Int)))), (10, .c (.sl (H.n + 1) (0) (r.length))), (12, .c (.bool (b))), (13, .c (.int .i64 ((k : Int))))]) (fun k _ => (H.push (rowK eI 3 out)).push (rowK eI 3 r)) (fun k l b => (b || l.any (viaB ms n)) = vP ms n cs[j]) hE _ false (by rw [hvp]; rfl) (.since (by simp only [push_n]; omega) hwfR (.refl _) (by simp [frOk, AV.okR, AV.ok1, AC.okR, AV.ren, AV.ren1, AC.ren, AFrame.get, pl1_old, *]; first | done | rfl | omega)) (fun k b hkl hki => ?_) fun b hki => ?_
    · have hk1 := idx_lt hkl
      have w2 : IntKind.i64.wrap ((k : Int) + 1) = (k : Int) + 1 := wrap_id (by omega) (by omega)
      have hb := hro _ (List.getElem_mem hkl)
      have il : (r[k]).toNat < ms.length := by omega
      have e2 := hat_ms.get il
      have hv := viaB_at (n := n) il
      simp only [List.any_cons, ← Bool.or_assoc] at hki
      cases b with
      | true =>
        simp (config := {contextual := true, implicitDefEqProofs := false, maxSteps := 2000000}) [-Int.not_le, -Int.not_lt, argsF, spec_CoversVia_l0, hat_ms.blk, hat_ms.esz, hat_ms.len, hat_ms.els, hne_ms, hne1_ms, hne2_ms.1, hne2_ms.2.1, hne2_ms.2.2.1, hne2_ms.2.2.2.1, hne2_ms.2.2.2.2.1, hne2_ms.2.2.2.2.2.1, hne2_ms.2.2.2.2.2.2.1, hne2_ms.2.2.2.2.2.2.2.1, hne2_ms.2.2.2.2.2.2.2.2.1, hne2_ms.2.2.2.2.2.2.2.2.2.1, hne2_ms.2.2.2.2.2.2.2.2.2.2, hat_cs.blk, hat_cs.esz, hat_cs.len, hat_cs.els, hne_cs, hne1_cs, hne2_cs.1, hne2_cs.2.1, hne2_cs.2.2.1, hne2_cs.2.2.2.1, hne2_cs.2.2.2.2.1, hne2_cs.2.2.2.2.2.1, hne2_cs.2.2.2.2.2.2.1, hne2_cs.2.2.2.2.2.2.2.1, hne2_cs.2.2.2.2.2.2.2.2.1, hne2_cs.2.2.2.2.2.2.2.2.2.1, hne2_cs.2.2.2.2.2.2.2.2.2.2, hk1, hkl, w2, hb.1, hb.2, il, e2, rowK]
        exact ⟨true, by simpa using hki, .since (by simp only [push_n]; omega) hwfR (.refl _) (by simp [frOk, AV.okR, AV.ok1, AC.okR, AV.ren, AV.ren1, AC.ren, AFrame.get, pl1_old, *]; first | done | rfl | omega)⟩
      | false =>
        simp (config := {contextual := true, implicitDefEqProofs := false, maxSteps := 2000000}) [-Int.not_le, -Int.not_lt, argsF, spec_CoversVia_l0, hat_ms.blk, hat_ms.esz, hat_ms.len, hat_ms.els, hne_ms, hne1_ms, hne2_ms.1, hne2_ms.2.1, hne2_ms.2.2.1, hne2_ms.2.2.2.1, hne2_ms.2.2.2.2.1, hne2_ms.2.2.2.2.2.1, hne2_ms.2.2.2.2.2.2.1, hne2_ms.2.2.2.2.2.2.2.1, hne2_ms.2.2.2.2.2.2.2.2.1, hne2_ms.2.2.2.2.2.2.2.2.2.1, hne2_ms.2.2.2.2.2.2.2.2.2.2, hat_cs.blk, hat_cs.esz, hat_cs.len, hat_cs.els, hne_cs, hne1_cs, hne2_cs.1, hne2_cs.2.1, hne2_cs.2.2.1, hne2_cs.2.2.2.1, hne2_cs.2.2.2.2.1, hne2_cs.2.2.2.2.2.1, hne2_cs.2.2.2.2.2.2.1, hne2_cs.2.2.2.2.2.2.2.1, hne2_cs.2.2.2.2.2.2.2.2.1, hne2_cs.2.2.2.2.2.2.2.2.2.1, hne2_cs.2.2.2.2.2.2.2.2.2.2, hk1, hkl, w2, hb.1, hb.2, il, e2, rowK]
        rw [hv] at hki
        exact ⟨_, by simpa using hki, .since (by simp only [push_n]; omega) hwfR (.refl _) (by simp [frOk, AV.okR, AV.ok1, AC.okR, AV.ren, AV.ren1, AC.ren, AFrame.get, pl1_old, *]; first | done | rfl | omega)⟩
    · simp only [List.any_nil, Bool.or_false] at hki
      rw [← hki] at hi
      cases b with
      | true =>
        rw [if_pos rfl] at hi
        simp (config := {contextual := true, implicitDefEqProofs := false, maxSteps := 2000000}) [-Int.not_le, -Int.not_lt, argsF, spec_CoversVia_l0, hat_ms.blk, hat_ms.esz, hat_ms.len, hat_ms.els, hne_ms, hne1_ms, hne2_ms.1, hne2_ms.2.1, hne2_ms.2.2.1, hne2_ms.2.2.2.1, hne2_ms.2.2.2.2.1, hne2_ms.2.2.2.2.2.1, hne2_ms.2.2.2.2.2.2.1, hne2_ms.2.2.2.2.2.2.2.1, hne2_ms.2.2.2.2.2.2.2.2.1, hne2_ms.2.2.2.2.2.2.2.2.2.1, hne2_ms.2.2.2.2.2.2.2.2.2.2, hat_cs.blk, hat_cs.esz, hat_cs.len, hat_cs.els, hne_cs, hne1_cs, hne2_cs.1, hne2_cs.2.1, hne2_cs.2.2.1, hne2_cs.2.2.2.1, hne2_cs.2.2.2.2.1, hne2_cs.2.2.2.2.2.1, hne2_cs.2.2.2.2.2.2.1, hne2_cs.2.2.2.2.2.2.2.1, hne2_cs.2.2.2.2.2.2.2.2.1, hne2_cs.2.2.2.2.2.2.2.2.2.1, hne2_cs.2.2.2.2.2.2.2.2.2.2, hj1, e1, hlt, w1, hs1, hs2, hs3, rowK]
        exact ⟨out ++ [cs[j].id], hi, .one (c := some (H.n + 1 + 1 + 1)) hwf (by (repeat first | exact Sub.refl _ | refine Sub.push hwf ?_ _ | refine Sub.set hwf ?_ (by first | exact Nat.le_refl _ | omega | (simp only [push_n, set_n, kill_n]; omega)) _ | refine Sub.kill hwf ?_ (by first | exact Nat.le_refl _ | omega | (simp only [push_n, set_n, kill_n]; omega)))) ⟨by omega, by simp [push_b, set_b, kill_b, rowK]; done⟩ (plain_map (fun _ => rfl) _) (by simp [frOk, AV.okR, AV.ok1, AC.okR, AV.ren, AV.ren1, AC.ren, AFrame.get, pl1_old, *]; first | done | rfl | omega)⟩
      | false =>
        rw [if_neg (by simp)] at hi
        simp (config := {contextual := true, implicitDefEqProofs := false, maxSteps := 2000000}) [-Int.not_le, -Int.not_lt, argsF, spec_CoversVia_l0, hat_ms.blk, hat_ms.esz, hat_ms.len, hat_ms.els, hne_ms, hne1_ms, hne2_ms.1, hne2_ms.2.1, hne2_ms.2.2.1, hne2_ms.2.2.2.1, hne2_ms.2.2.2.2.1, hne2_ms.2.2.2.2.2.1, hne2_ms.2.2.2.2.2.2.1, hne2_ms.2.2.2.2.2.2.2.1, hne2_ms.2.2.2.2.2.2.2.2.1, hne2_ms.2.2.2.2.2.2.2.2.2.1, hne2_ms.2.2.2.2.2.2.2.2.2.2, hat_cs.blk, hat_cs.esz, hat_cs.len, hat_cs.els, hne_cs, hne1_cs, hne2_cs.1, hne2_cs.2.1, hne2_cs.2.2.1, hne2_cs.2.2.2.1, hne2_cs.2.2.2.2.1, hne2_cs.2.2.2.2.2.1, hne2_cs.2.2.2.2.2.2.1, hne2_cs.2.2.2.2.2.2.2.1, hne2_cs.2.2.2.2.2.2.2.2.1, hne2_cs.2.2.2.2.2.2.2.2.2.1, hne2_cs.2.2.2.2.2.2.2.2.2.2, hj1, e1, hlt, w1, rowK]
        exact ⟨out, hi, .one (c := some (H.n)) hwf (by (repeat first | exact Sub.refl _ | refine Sub.push hwf ?_ _ | refine Sub.set hwf ?_ (by first | exact Nat.le_refl _ | omega | (simp only [push_n, set_n, kill_n]; omega)) _ | refine Sub.kill hwf ?_ (by first | exact Nat.le_refl _ | omega | (simp only [push_n, set_n, kill_n]; omega)))) ⟨by omega, by simp [push_b, set_b, kill_b, rowK]; done⟩ (plain_map (fun _ => rfl) _) (by simp [frOk, AV.okR, AV.ok1, AC.okR, AV.ren, AV.ren1, AC.ren, AFrame.get, pl1_old, *]; first | done | rfl | omega)⟩
  · simp only [accV] at hi
    simp (config := {contextual := true, implicitDefEqProofs := false, maxSteps := 2000000}) [-Int.not_le, -Int.not_lt, argsF, spec_CoversVia_l1, hat_ms.blk, hat_ms.esz, hat_ms.len, hat_ms.els, hne_ms, hne1_ms, hne2_ms.1, hne2_ms.2.1, hne2_ms.2.2.1, hne2_ms.2.2.2.1, hne2_ms.2.2.2.2.1, hne2_ms.2.2.2.2.2.1, hne2_ms.2.2.2.2.2.2.1, hne2_ms.2.2.2.2.2.2.2.1, hne2_ms.2.2.2.2.2.2.2.2.1, hne2_ms.2.2.2.2.2.2.2.2.2.1, hne2_ms.2.2.2.2.2.2.2.2.2.2, hat_cs.blk, hat_cs.esz, hat_cs.len, hat_cs.els, hne_cs, hne1_cs, hne2_cs.1, hne2_cs.2.1, hne2_cs.2.2.1, hne2_cs.2.2.2.1, hne2_cs.2.2.2.2.1, hne2_cs.2.2.2.2.2.1, hne2_cs.2.2.2.2.2.2.1, hne2_cs.2.2.2.2.2.2.2.1, hne2_cs.2.2.2.2.2.2.2.2.1, hne2_cs.2.2.2.2.2.2.2.2.2.1, hne2_cs.2.2.2.2.2.2.2.2.2.2]
    rw [hi]
    exact (.one (c := some (H.n)) hwf (by (repeat first | exact Sub.refl _ | refine Sub.push hwf ?_ _ | refine Sub.set hwf ?_ (by first | exact Nat.le_refl _ | omega | (simp only [push_n, set_n, kill_n]; omega)) _ | refine Sub.kill hwf ?_ (by first | exact Nat.le_refl _ | omega | (simp only [push_n, set_n, kill_n]; omega)))) ⟨by omega, by simp [push_b, set_b, kill_b, rowK]; done⟩ (plain_map (fun _ => rfl) _) (by simp [frOk, AV.okR, AV.ok1, AC.okR, AV.ren, AV.ren1, AC.ren, AFrame.get, pl1_old, *]; first | done | rfl | omega) h)

end Go.Proofs.Ytjbedbfgbmfdfaa
