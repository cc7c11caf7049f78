/- The route of a cover; covers via an office. -/
import Derived.Test.YtjiffkjeijfilaaCvB
import Derived.Test.YtjiffkjeijfilaaCvF
set_option maxRecDepth 8000
set_option linter.unusedSimpArgs false
set_option linter.unusedVariables false
namespace Go.Proofs.Ytjiffkjeijfilaa
open Go Go.RowKit

set_option maxHeartbeats 4000000

noncomputable def roT (ms : List Ma) (x : Cv) : List Int × Bool := if tm ms x.frm x.leave x.to = 10000 then ([], false) else if x.arrive < tm ms x.frm x.leave x.to then ([], false) else (brL ms x.frm x.leave x.to, true)
theorem roT_len (ms : List Ma) (x : Cv) : (roT ms x).1.length ≤ 10000 := by
  unfold roT
  repeat' split
  all_goals first | exact brL_len _ _ _ _ | simp

def q_ro : Con := fun args H K => match args with
  | [ms_v, .agg x_e] => eMa.rd H (fun ms => onv (eCv.dec x_e) fun x => areMa ms = true ∧ isCv x = true ∧ K (.tup [.c (.sl (H.n) (0) ((roT ms x).1.length)), .c (.bool ((roT ms x).2))]) (H.push (rowK eI 3 (roT ms x).1))) ms_v
  | _ => False
@[simp ↓] theorem q_ro_eq (ms_v : AV) (x_e : List AC) (H : AHeap) (K : AV → AHeap → Prop) : q_ro [ms_v, .agg x_e] H K = (eMa.rd H (fun ms => onv (eCv.dec x_e) fun x => areMa ms = true ∧ isCv x = true ∧ K (.tup [.c (.sl (H.n) (0) ((roT ms x).1.length)), .c (.bool ((roT ms x).2))]) (H.push (rowK eI 3 (roT ms x).1))) ms_v) := rfl

theorem impl_routeOn_s : Sound Try.prog 81 q_ro := by
  intro args H K h
  unfold q_ro at h
  split at h
  rotate_left
  all_goals first | exact False.elim h | skip
  rename_i ms_v x_e
  have h1 := Enc.rd_at h
  clear h
  obtain ⟨b_ms, i_ms, k_ms, ms, rfl, hat_ms, h⟩ := h1
  have h1 := onv_iff.1 h
  clear h
  obtain ⟨x, hd_x, h⟩ := h1
  obtain rfl := eCv.cd _ _ hd_x
  clear hd_x
  have hE := soundE_cons impl_earliest_s (soundE_cons impl_inRange_s (soundE_cons impl_bestRoute_s (soundE_nil (P := Try.prog))))
  refine acalls_fn impl_routeOn_k hE ⟨by simp, fun hwf => ?_⟩
  have hb_ms : b_ms < H.n := (hwf b_ms k_ms hat_ms.blk).1
  have hne_ms : (b_ms = H.n) = False := eq_false (by omega)
  have hne1_ms : ∀ i, (b_ms = H.n + i) = False := fun i => eq_false (by omega)
  have hne2_ms : (b_ms = H.n + 1 + 1) = False ∧ (b_ms = H.n + 1 + 1 + 1) = False ∧ (b_ms = H.n + 1 + 1 + 1 + 1) = False ∧ (b_ms = H.n + 1 + 1 + 1 + 1 + 1) = False ∧ (b_ms = H.n + 1 + 1 + 1 + 1 + 1 + 1) = False ∧ (b_ms = H.n + 1 + 1 + 1 + 1 + 1 + 1 + 1) = False ∧ (b_ms = H.n + 1 + 1 + 1 + 1 + 1 + 1 + 1 + 1) = False ∧ (b_ms = H.n + 1 + 1 + 1 + 1 + 1 + 1 + 1 + 1 + 1) = False ∧ (b_ms = H.n + 1 + 1 + 1 + 1 + 1 + 1 + 1 + 1 + 1 + 1) = False ∧ (b_ms = H.n + 1 + 1 + 1 + 1 + 1 + 1 + 1 + 1 + 1 + 1 + 1) = False ∧ (b_ms = H.n + 1 + 1 + 1 + 1 + 1 + 1 + 1 + 1 + 1 + 1 + 1 + 1) = False := ⟨eq_false (by omega), eq_false (by omega), eq_false (by omega), eq_false (by omega), eq_false (by omega), eq_false (by omega), eq_false (by omega), eq_false (by omega), eq_false (by omega), eq_false (by omega), eq_false (by omega)⟩
  have hmx_ms : ms.length ≤ 9223372036854775807 := by have h1 := (hwf b_ms k_ms hat_ms.blk).2.2; have h2 := hat_ms.len; omega
  obtain ⟨hm, hc, h⟩ := h
  have hb := isCv_b hc
  obtain ⟨_, _, _, _, _, _, _, _, b9, b10, f0, f1, t0, t1, _, l0, l1, a1⟩ := hb
  have l2 : x.leave ≤ 9999 := by omega
  have t10 : x.to < 10 := by omega
  have tn : x.to.toNat < 10 := by omega
  have a0 : 0 ≤ x.arrive := by omega
  have ht0 := tm_le hm ⟨f0, f1⟩ l2 ⟨t0, t1⟩
  have htg := tm_ge hm ⟨f0, f1⟩ l2 ⟨t0, t1⟩
  unfold roT at h

  have hl : (scanT ms (startT x.frm x.leave)).length = 10 := by rw [scanT_len, startT_len]
  have hgt : (encL (scanT ms (startT x.frm x.leave)))[x.to.toNat]? = some (encT (tm ms x.frm x.leave x.to)) := encL_at hl t0 t1
  have hgt2 : ∀ hlx : x.to.toNat < (encL (scanT ms (startT x.frm x.leave))).length, (encL (scanT ms (startT x.frm x.leave)))[x.to.toNat]'hlx = encT (tm ms x.frm x.leave x.to) := fun hlx => by rw [List.getElem?_eq_getElem hlx] at hgt; exact Option.some.inj hgt
  have hll : (encL (scanT ms (startT x.frm x.leave))).length = 10 := by rw [encL_len]; exact hl
  have hbr : ∀ c : ¬ tm ms x.frm x.leave x.to = 10000, brT ms x.frm x.leave x.to = (brL ms x.frm x.leave x.to, true) := fun c => by unfold brT; rw [if_neg c]
  by_cases c : tm ms x.frm x.leave x.to = 10000
  · rw [if_pos c] at h
    have hi : inR (encT (tm ms x.frm x.leave x.to)) 0 x.arrive = false := by rw [c]; unfold inR; exact decide_eq_false (by show ¬ (0 ≤ encT 10000 ∧ _); rw [show encT 10000 = -1 from rfl]; omega)
    simp (config := {contextual := true, implicitDefEqProofs := false, maxSteps := 2000000}) [-Int.not_le, -Int.not_lt, argsF, impl_routeOn_c, hat_ms.blk, hat_ms.esz, hat_ms.len, hat_ms.els, hne_ms, hne1_ms, hne2_ms.1, hne2_ms.2.1, hne2_ms.2.2.1, hne2_ms.2.2.2.1, hne2_ms.2.2.2.2.1, hne2_ms.2.2.2.2.2.1, hne2_ms.2.2.2.2.2.2.1, hne2_ms.2.2.2.2.2.2.2.1, hne2_ms.2.2.2.2.2.2.2.2.1, hne2_ms.2.2.2.2.2.2.2.2.2.1, hne2_ms.2.2.2.2.2.2.2.2.2.2, hm, hc, f0, f1, l0, l2, t0, t1, t10, tn, hll, hgt, hgt2, hi, rowK]
    exact (.one (c := none) hwf (by (repeat first | exact Sub.refl _ | refine Sub.push hwf ?_ _ | refine Sub.set hwf ?_ (by first | exact Nat.le_refl _ | omega | (simp only [push_n, set_n, kill_n]; omega)) _ | refine Sub.kill hwf ?_ (by first | exact Nat.le_refl _ | omega | (simp only [push_n, set_n, kill_n]; omega)))) ⟨rfl, rfl⟩ (plain_map (fun _ => rfl) _) (by simp [frOk, AV.okR, AV.ok1, AC.okR, AV.ren, AV.ren1, AC.ren, AFrame.get, pl1_old, *]; first | done | rfl | omega) h)
  rw [if_neg c] at h
  have hen : encT (tm ms x.frm x.leave x.to) = tm ms x.frm x.leave x.to := by unfold encT; rw [if_neg c]
  by_cases c2 : x.arrive < tm ms x.frm x.leave x.to
  · rw [if_pos c2] at h
    have hi : inR (encT (tm ms x.frm x.leave x.to)) 0 x.arrive = false := by rw [hen]; unfold inR; exact decide_eq_false (by omega)
    simp (config := {contextual := true, implicitDefEqProofs := false, maxSteps := 2000000}) [-Int.not_le, -Int.not_lt, argsF, impl_routeOn_c, hat_ms.blk, hat_ms.esz, hat_ms.len, hat_ms.els, hne_ms, hne1_ms, hne2_ms.1, hne2_ms.2.1, hne2_ms.2.2.1, hne2_ms.2.2.2.1, hne2_ms.2.2.2.2.1, hne2_ms.2.2.2.2.2.1, hne2_ms.2.2.2.2.2.2.1, hne2_ms.2.2.2.2.2.2.2.1, hne2_ms.2.2.2.2.2.2.2.2.1, hne2_ms.2.2.2.2.2.2.2.2.2.1, hne2_ms.2.2.2.2.2.2.2.2.2.2, hm, hc, f0, f1, l0, l2, t0, t1, t10, tn, hll, hgt, hgt2, hi, rowK]
    exact (.one (c := none) hwf (by (repeat first | exact Sub.refl _ | refine Sub.push hwf ?_ _ | refine Sub.set hwf ?_ (by first | exact Nat.le_refl _ | omega | (simp only [push_n, set_n, kill_n]; omega)) _ | refine Sub.kill hwf ?_ (by first | exact Nat.le_refl _ | omega | (simp only [push_n, set_n, kill_n]; omega)))) ⟨rfl, rfl⟩ (plain_map (fun _ => rfl) _) (by simp [frOk, AV.okR, AV.ok1, AC.okR, AV.ren, AV.ren1, AC.ren, AFrame.get, pl1_old, *]; first | done | rfl | omega) h)
  rw [if_neg c2] at h
  have hi : inR (encT (tm ms x.frm x.leave x.to)) 0 x.arrive = true := by rw [hen]; unfold inR; exact decide_eq_true (by omega)
  have hb2 := hbr c
  simp (config := {contextual := true, implicitDefEqProofs := false, maxSteps := 2000000}) [-Int.not_le, -Int.not_lt, argsF, impl_routeOn_c, hat_ms.blk, hat_ms.esz, hat_ms.len, hat_ms.els, hne_ms, hne1_ms, hne2_ms.1, hne2_ms.2.1, hne2_ms.2.2.1, hne2_ms.2.2.2.1, hne2_ms.2.2.2.2.1, hne2_ms.2.2.2.2.2.1, hne2_ms.2.2.2.2.2.2.1, hne2_ms.2.2.2.2.2.2.2.1, hne2_ms.2.2.2.2.2.2.2.2.1, hne2_ms.2.2.2.2.2.2.2.2.2.1, hne2_ms.2.2.2.2.2.2.2.2.2.2, hm, hc, f0, f1, l0, l2, t0, t1, t10, tn, hll, hgt, hgt2, hi, hb2, rowK]
  exact (.one (c := some (H.n + 1 + 1)) hwf (by (repeat first | exact Sub.refl _ | refine Sub.push hwf ?_ _ | refine Sub.set hwf ?_ (by first | exact Nat.le_refl _ | omega | (simp only [push_n, set_n, kill_n]; omega)) _ | refine Sub.kill hwf ?_ (by first | exact Nat.le_refl _ | omega | (simp only [push_n, set_n, kill_n]; omega)))) ⟨by omega, by simp [push_b, set_b, kill_b, rowK]; done⟩ (plain_map (fun _ => rfl) _) (by simp [frOk, AV.okR, AV.ok1, AC.okR, AV.ren, AV.ren1, AC.ren, AFrame.get, pl1_old, *]; first | done | rfl | omega) h)

theorem spec_l10Route_s : Sound Try.prog 82 q_ro := by
  intro args H K h
  unfold q_ro at h
  split at h
  rotate_left
  all_goals first | exact False.elim h | skip
  rename_i ms_v x_e
  have h1 := Enc.rd_at h
  clear h
  obtain ⟨b_ms, i_ms, k_ms, ms, rfl, hat_ms, h⟩ := h1
  have h1 := onv_iff.1 h
  clear h
  obtain ⟨x, hd_x, h⟩ := h1
  obtain rfl := eCv.cd _ _ hd_x
  clear hd_x
  have hE := soundE_cons spec_EarliestAt_s (soundE_cons spec_BestRoute_s (soundE_nil (P := Try.prog)))
  refine acalls_fn spec_l10Route_k hE ⟨by simp, fun hwf => ?_⟩
  have hb_ms : b_ms < H.n := (hwf b_ms k_ms hat_ms.blk).1
  have hne_ms : (b_ms = H.n) = False := eq_false (by omega)
  have hne1_ms : ∀ i, (b_ms = H.n + i) = False := fun i => eq_false (by omega)
  have hne2_ms : (b_ms = H.n + 1 + 1) = False ∧ (b_ms = H.n + 1 + 1 + 1) = False ∧ (b_ms = H.n + 1 + 1 + 1 + 1) = False ∧ (b_ms = H.n + 1 + 1 + 1 + 1 + 1) = False ∧ (b_ms = H.n + 1 + 1 + 1 + 1 + 1 + 1) = False ∧ (b_ms = H.n + 1 + 1 + 1 + 1 + 1 + 1 + 1) = False ∧ (b_ms = H.n + 1 + 1 + 1 + 1 + 1 + 1 + 1 + 1) = False ∧ (b_ms = H.n + 1 + 1 + 1 + 1 + 1 + 1 + 1 + 1 + 1) = False ∧ (b_ms = H.n + 1 + 1 + 1 + 1 + 1 + 1 + 1 + 1 + 1 + 1) = False ∧ (b_ms = H.n + 1 + 1 + 1 + 1 + 1 + 1 + 1 + 1 + 1 + 1 + 1) = False ∧ (b_ms = H.n + 1 + 1 + 1 + 1 + 1 + 1 + 1 + 1 + 1 + 1 + 1 + 1) = False := ⟨eq_false (by omega), eq_false (by omega), eq_false (by omega), eq_false (by omega), eq_false (by omega), eq_false (by omega), eq_false (by omega), eq_false (by omega), eq_false (by omega), eq_false (by omega), eq_false (by omega)⟩
  have hmx_ms : ms.length ≤ 9223372036854775807 := by have h1 := (hwf b_ms k_ms hat_ms.blk).2.2; have h2 := hat_ms.len; omega
  obtain ⟨hm, hc, h⟩ := h
  have hb := isCv_b hc
  obtain ⟨_, _, _, _, _, _, _, _, b9, b10, f0, f1, t0, t1, _, l0, l1, a1⟩ := hb
  have l2 : x.leave ≤ 9999 := by omega
  have t10 : x.to < 10 := by omega
  have tn : x.to.toNat < 10 := by omega
  have a0 : 0 ≤ x.arrive := by omega
  have ht0 := tm_le hm ⟨f0, f1⟩ l2 ⟨t0, t1⟩
  have htg := tm_ge hm ⟨f0, f1⟩ l2 ⟨t0, t1⟩
  unfold roT at h

  by_cases c : tm ms x.frm x.leave x.to = 10000
  · rw [if_pos c] at h
    have hea : eaRes ms x.frm x.leave x.to = (0, false) := by unfold eaRes; rw [if_pos c]
    simp (config := {contextual := true, implicitDefEqProofs := false, maxSteps := 2000000}) [-Int.not_le, -Int.not_lt, argsF, spec_l10Route_c, hat_ms.blk, hat_ms.esz, hat_ms.len, hat_ms.els, hne_ms, hne1_ms, hne2_ms.1, hne2_ms.2.1, hne2_ms.2.2.1, hne2_ms.2.2.2.1, hne2_ms.2.2.2.2.1, hne2_ms.2.2.2.2.2.1, hne2_ms.2.2.2.2.2.2.1, hne2_ms.2.2.2.2.2.2.2.1, hne2_ms.2.2.2.2.2.2.2.2.1, hne2_ms.2.2.2.2.2.2.2.2.2.1, hne2_ms.2.2.2.2.2.2.2.2.2.2, hm, hc, f0, f1, l0, l2, t0, t1, hea]
    exact (.one (c := some (H.n + 1)) hwf (by (repeat first | exact Sub.refl _ | refine Sub.push hwf ?_ _ | refine Sub.set hwf ?_ (by first | exact Nat.le_refl _ | omega | (simp only [push_n, set_n, kill_n]; omega)) _ | refine Sub.kill hwf ?_ (by first | exact Nat.le_refl _ | omega | (simp only [push_n, set_n, kill_n]; omega)))) ⟨by omega, by simp [push_b, set_b, kill_b, rowK]; done⟩ (plain_map (fun _ => rfl) _) (by simp [frOk, AV.okR, AV.ok1, AC.okR, AV.ren, AV.ren1, AC.ren, AFrame.get, pl1_old, *]; first | done | rfl | omega) h)
  rw [if_neg c] at h
  have hea : eaRes ms x.frm x.leave x.to = (tm ms x.frm x.leave x.to, true) := by unfold eaRes; rw [if_neg c]
  by_cases c2 : x.arrive < tm ms x.frm x.leave x.to
  · rw [if_pos c2] at h
    simp (config := {contextual := true, implicitDefEqProofs := false, maxSteps := 2000000}) [-Int.not_le, -Int.not_lt, argsF, spec_l10Route_c, hat_ms.blk, hat_ms.esz, hat_ms.len, hat_ms.els, hne_ms, hne1_ms, hne2_ms.1, hne2_ms.2.1, hne2_ms.2.2.1, hne2_ms.2.2.2.1, hne2_ms.2.2.2.2.1, hne2_ms.2.2.2.2.2.1, hne2_ms.2.2.2.2.2.2.1, hne2_ms.2.2.2.2.2.2.2.1, hne2_ms.2.2.2.2.2.2.2.2.1, hne2_ms.2.2.2.2.2.2.2.2.2.1, hne2_ms.2.2.2.2.2.2.2.2.2.2, hm, hc, f0, f1, l0, l2, t0, t1, hea, c2]
    exact (.one (c := some (H.n + 1)) hwf (by (repeat first | exact Sub.refl _ | refine Sub.push hwf ?_ _ | refine Sub.set hwf ?_ (by first | exact Nat.le_refl _ | omega | (simp only [push_n, set_n, kill_n]; omega)) _ | refine Sub.kill hwf ?_ (by first | exact Nat.le_refl _ | omega | (simp only [push_n, set_n, kill_n]; omega)))) ⟨by omega, by simp [push_b, set_b, kill_b, rowK]; done⟩ (plain_map (fun _ => rfl) _) (by simp [frOk, AV.okR, AV.ok1, AC.okR, AV.ren, AV.ren1, AC.ren, AFrame.get, pl1_old, *]; first | done | rfl | omega) h)
  rw [if_neg c2] at h
  have hb2 : brT ms x.frm x.leave x.to = (brL ms x.frm x.leave x.to, true) := by unfold brT; rw [if_neg c]
  simp (config := {contextual := true, implicitDefEqProofs := false, maxSteps := 2000000}) [-Int.not_le, -Int.not_lt, argsF, spec_l10Route_c, hat_ms.blk, hat_ms.esz, hat_ms.len, hat_ms.els, hne_ms, hne1_ms, hne2_ms.1, hne2_ms.2.1, hne2_ms.2.2.1, hne2_ms.2.2.2.1, hne2_ms.2.2.2.2.1, hne2_ms.2.2.2.2.2.1, hne2_ms.2.2.2.2.2.2.1, hne2_ms.2.2.2.2.2.2.2.1, hne2_ms.2.2.2.2.2.2.2.2.1, hne2_ms.2.2.2.2.2.2.2.2.2.1, hne2_ms.2.2.2.2.2.2.2.2.2.2, hm, hc, f0, f1, l0, l2, t0, t1, hea, c2, hb2]
  exact (.one (c := some (H.n + 1)) hwf (by (repeat first | exact Sub.refl _ | refine Sub.push hwf ?_ _ | refine Sub.set hwf ?_ (by first | exact Nat.le_refl _ | omega | (simp only [push_n, set_n, kill_n]; omega)) _ | refine Sub.kill hwf ?_ (by first | exact Nat.le_refl _ | omega | (simp only [push_n, set_n, kill_n]; omega)))) ⟨by omega, by simp [push_b, set_b, kill_b, rowK]; done⟩ (plain_map (fun _ => rfl) _) (by simp [frOk, AV.okR, AV.ok1, AC.okR, AV.ren, AV.ren1, AC.ren, AFrame.get, pl1_old, *]; first | done | rfl | omega) h)

end Go.Proofs.Ytjiffkjeijfilaa
