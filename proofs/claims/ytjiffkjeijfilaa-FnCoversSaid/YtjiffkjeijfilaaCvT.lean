/- The least minutes: the reference; the earliest at an office. -/
import Derived.Test.YtjiffkjeijfilaaCvE
set_option maxRecDepth 8000
set_option linter.unusedSimpArgs false
set_option linter.unusedVariables false
namespace Go.Proofs.Ytjiffkjeijfilaa
open Go Go.RowKit

set_option maxHeartbeats 4000000

def q_least : Con := fun args H K => match args with
  | [.c (.int .i64 a), .c (.int .i64 b)] => K (.c (.int .i64 (if a < b then a else b))) H
  | _ => False
@[simp ↓] theorem q_least_eq (a : Int) (b : Int) (H : AHeap) (K : AV → AHeap → Prop) : q_least [.c (.int .i64 a), .c (.int .i64 b)] H K = (K (.c (.int .i64 (if a < b then a else b))) H) := rfl

theorem spec_l1Least_s : Sound Try.prog 158 q_least := by
  intro args H K h
  unfold q_least at h
  split at h
  rotate_left
  all_goals first | exact False.elim h | skip
  rename_i a b
  have hE := soundE_nil (P := Try.prog)
  refine acalls_fn spec_l1Least_k hE ⟨by simp, fun hwf => ?_⟩
  simp (config := {contextual := true, implicitDefEqProofs := false, maxSteps := 60000}) [-Int.not_le, -Int.not_lt, argsF, spec_l1Least_c]
  split <;> rename_i q <;> simp only [q, if_true, if_false] at h <;> (refine Out.plain hwf ?_ rfl ?_; (repeat first | exact Sub.refl _ | refine Sub.push hwf ?_ _ | refine Sub.set hwf ?_ (by first | exact Nat.le_refl _ | omega | (simp only [push_n, set_n, kill_n]; omega)) _ | refine Sub.kill hwf ?_ (by first | exact Nat.le_refl _ | omega | (simp only [push_n, set_n, kill_n]; omega)))) <;> exact h

def ten : List Int := List.replicate 10 10000
def zer : List Int := List.replicate 10 0
theorem ten_len : ten.length = 10 := rfl
theorem ten_at {j : Nat} (h : j < 10) : ten[j]? = some 10000 := by unfold ten; rw [List.getElem?_replicate, if_pos h]
theorem ten_set {j : Nat} (h : j < 10) : (List.map eI.cells (upd ten zer j)).set j [AC.int .i64 10000] = List.map eI.cells (upd ten zer (j + 1)) := by
  rw [← upd_set (new := ten) (old := zer) rfl (show j < zer.length from h) (ten_at h), List.map_set]; rfl
theorem upd_ten_len {j : Nat} (h : j ≤ 10) : (upd ten zer j).length = 10 := upd_len (new := ten) (old := zer) rfl h
theorem same_row {out : List Int} (hl : out.length = 10) {t : Int} (h0 : 0 ≤ t) (h1 : t ≤ 9) : (List.map eI.cells out).set t.toNat [AC.int .i64 (gN out t)] = List.map eI.cells out := by
  have h := congrArg (List.map eI.cells) (set_same hl h0 h1)
  rw [List.map_set] at h; exact h

theorem spec_l9Times_s : Sound Try.prog 139 q_times := by
  intro args H K h
  unfold q_times at h
  split at h
  rotate_left
  all_goals first | exact False.elim h | skip
  rename_i ps_v s m
  have h1 := Enc.rd_at h
  clear h
  obtain ⟨b_ps, i_ps, k_ps, ps, rfl, hat_ps, h⟩ := h1
  have hE := soundE_cons spec_l1Least_s (soundE_nil (P := Try.prog))
  refine acalls_fn spec_l9Times_k hE ⟨by simp, fun hwf => ?_⟩
  have hb_ps : b_ps < H.n := (hwf b_ps k_ps hat_ps.blk).1
  have hne_ps : (b_ps = H.n) = False := eq_false (by omega)
  have hne1_ps : ∀ i, (b_ps = H.n + i) = False := fun i => eq_false (by omega)
  have hne2_ps : (b_ps = H.n + 1 + 1) = False ∧ (b_ps = H.n + 1 + 1 + 1) = False ∧ (b_ps = H.n + 1 + 1 + 1 + 1) = False ∧ (b_ps = H.n + 1 + 1 + 1 + 1 + 1) = False ∧ (b_ps = H.n + 1 + 1 + 1 + 1 + 1 + 1) = False ∧ (b_ps = H.n + 1 + 1 + 1 + 1 + 1 + 1 + 1) = False ∧ (b_ps = H.n + 1 + 1 + 1 + 1 + 1 + 1 + 1 + 1) = False ∧ (b_ps = H.n + 1 + 1 + 1 + 1 + 1 + 1 + 1 + 1 + 1) = False ∧ (b_ps = H.n + 1 + 1 + 1 + 1 + 1 + 1 + 1 + 1 + 1 + 1) = False ∧ (b_ps = H.n + 1 + 1 + 1 + 1 + 1 + 1 + 1 + 1 + 1 + 1 + 1) = False ∧ (b_ps = H.n + 1 + 1 + 1 + 1 + 1 + 1 + 1 + 1 + 1 + 1 + 1 + 1) = False := ⟨eq_false (by omega), eq_false (by omega), eq_false (by omega), eq_false (by omega), eq_false (by omega), eq_false (by omega), eq_false (by omega), eq_false (by omega), eq_false (by omega), eq_false (by omega), eq_false (by omega)⟩
  have hmx_ps : ps.length ≤ 9223372036854775807 := by have h1 := (hwf b_ps k_ps hat_ps.blk).2.2; have h2 := hat_ps.len; omega
  obtain ⟨hv, h0, h1, h2, h3, h⟩ := h
  have hvm := (areMa_at hv).1
  have hs10 : s < 10 := by omega
  have hsn : s.toNat < 10 := by omega
  have hst : (List.map eI.cells ten).set s.toNat [AC.int .i64 m] = List.map eI.cells (startT s m) := by
    unfold startT; rw [List.map_set]; rfl
  have hwfT : ∀ out : List Int, out.length = 10 → (H.push (rowK eI 3 out)).WF := fun out hl => wf_row hwf _ (by omega)
  simp (config := {contextual := true, implicitDefEqProofs := false, maxSteps := 2000000}) [-Int.not_le, -Int.not_lt, argsF, spec_l9Times_c, hat_ps.blk, hat_ps.esz, hat_ps.len, hat_ps.els, hne_ps, hne1_ps, hne2_ps.1, hne2_ps.2.1, hne2_ps.2.2.1, hne2_ps.2.2.2.1, hne2_ps.2.2.2.2.1, hne2_ps.2.2.2.2.2.1, hne2_ps.2.2.2.2.2.2.1, hne2_ps.2.2.2.2.2.2.2.1, hne2_ps.2.2.2.2.2.2.2.2.1, hne2_ps.2.2.2.2.2.2.2.2.2.1, hne2_ps.2.2.2.2.2.2.2.2.2.2]
  refine aloop_list ten (fun j _ => [(0, .c (.sl b_ps i_ps ps.length)), (1, .c (.int .i64 (s))), (2, .c (.int .i64 (m))), (7, .c (.sl (H.n) (0) (10))), (8, .c (.int .i64 ((j : Int))))]) (fun j _ => H.push (rowK eI 3 (upd ten zer j))) (fun j l _ => True) hE _ () trivial (.since (by simp only [push_n]; omega) (hwfT _ (upd_ten_len (by omega))) (.refl _) (by simp [frOk, AV.okR, AV.ok1, AC.okR, AV.ren, AV.ren1, AC.ren, AFrame.get, pl1_old, *]; first | done | rfl | omega)) (fun j _ hlt _ => ?_) fun _ _ => ?_
  · have hj : j < 10 := hlt
    have hj1 : (j : Int) < 10 := by omega
    have w1 : IntKind.i64.wrap ((j : Int) + 1) = (j : Int) + 1 := wrap_id (by omega) (by omega)
    have hul := upd_ten_len (j := j) (by omega)
    have hset := ten_set hj
    simp (config := {contextual := true, implicitDefEqProofs := false, maxSteps := 2000000}) [-Int.not_le, -Int.not_lt, argsF, spec_l9Times_l0, hat_ps.blk, hat_ps.esz, hat_ps.len, hat_ps.els, hne_ps, hne1_ps, hne2_ps.1, hne2_ps.2.1, hne2_ps.2.2.1, hne2_ps.2.2.2.1, hne2_ps.2.2.2.2.1, hne2_ps.2.2.2.2.2.1, hne2_ps.2.2.2.2.2.2.1, hne2_ps.2.2.2.2.2.2.2.1, hne2_ps.2.2.2.2.2.2.2.2.1, hne2_ps.2.2.2.2.2.2.2.2.2.1, hne2_ps.2.2.2.2.2.2.2.2.2.2, hj, hj1, w1, hul, hset, push_setR, rowK]
    exact ⟨(), trivial, .since (by simp only [push_n]; omega) (hwfT _ (upd_ten_len (by omega))) (.refl _) (by simp [frOk, AV.okR, AV.ok1, AC.okR, AV.ren, AV.ren1, AC.ren, AFrame.get, pl1_old, *]; first | done | rfl | omega)⟩
  have hu : upd ten zer 10 = ten := upd_all rfl
  simp (config := {contextual := true, implicitDefEqProofs := false, maxSteps := 2000000}) [-Int.not_le, -Int.not_lt, argsF, spec_l9Times_l0, hat_ps.blk, hat_ps.esz, hat_ps.len, hat_ps.els, hne_ps, hne1_ps, hne2_ps.1, hne2_ps.2.1, hne2_ps.2.2.1, hne2_ps.2.2.2.1, hne2_ps.2.2.2.2.1, hne2_ps.2.2.2.2.2.1, hne2_ps.2.2.2.2.2.2.1, hne2_ps.2.2.2.2.2.2.2.1, hne2_ps.2.2.2.2.2.2.2.2.1, hne2_ps.2.2.2.2.2.2.2.2.2.1, hne2_ps.2.2.2.2.2.2.2.2.2.2, ten_len, hu, h0, hs10, hsn, hst, push_setR, rowK]
  refine aloop_list ps (fun j (out : List Int) => [(0, .c (.sl b_ps i_ps ps.length)), (7, .c (.sl (H.n) (0) (10))), (9, .c (.int .i64 ((j : Int))))]) (fun j out => H.push (rowK eI 3 out)) (fun j l out => scanT l out = scanT ps (startT s m) ∧ out.length = 10 ∧ ∀ v ∈ out, 0 ≤ v ∧ v ≤ 10000) hE _ (startT s m) ⟨rfl, startT_len s m, startT_b h2 h3⟩ (.since (by simp only [push_n]; omega) (hwfT _ (startT_len s m)) (.refl _) (by simp [frOk, AV.okR, AV.ok1, AC.okR, AV.ren, AV.ren1, AC.ren, AFrame.get, pl1_old, *]; first | done | rfl | omega)) (fun j out hlt hi => ?_) fun out hi => ?_
  · obtain ⟨hi, hl, hb⟩ := hi
    have hj1 := idx_lt hlt
    have e1 := hat_ps.get hlt
    have w1 : IntKind.i64.wrap ((j : Int) + 1) = (j : Int) + 1 := wrap_id (by omega) (by omega)
    have hx := hvm _ (List.getElem_mem hlt)
    have hm := isMa_b hx
    obtain ⟨m0, m1, m2, m3, m4, m5, m6, m7⟩ := hm
    have m1' : ps[j].frm < 10 := by omega
    have m3' : ps[j].to < 10 := by omega
    have hgf := gN_at hl m0 m1
    have hgt := gN_at hl m2 m3
    have hgf2 : ∀ hlx : ps[j].frm.toNat < out.length, out[ps[j].frm.toNat]'hlx = gN out ps[j].frm := fun hlx => by rw [List.getElem?_eq_getElem hlx] at hgf; exact Option.some.inj hgf
    have hgt2 : ∀ hlx : ps[j].to.toNat < out.length, out[ps[j].to.toNat]'hlx = gN out ps[j].to := fun hlx => by rw [List.getElem?_eq_getElem hlx] at hgt; exact Option.some.inj hgt
    have m1n : ps[j].frm.toNat < 10 := by omega
    have m3n : ps[j].to.toNat < 10 := by omega
    have hl' : (stepT out ps[j]).length = 10 := by rw [stepT_len]; exact hl
    have hb' := stepT_b hl hb hx
    simp only [scanT] at hi
    by_cases c1 : gN out ps[j].frm ≤ ps[j].leave
    rotate_left
    · rw [stepT_no c1] at hi
      simp (config := {contextual := true, implicitDefEqProofs := false, maxSteps := 2000000}) [-Int.not_le, -Int.not_lt, argsF, spec_l9Times_l1, hat_ps.blk, hat_ps.esz, hat_ps.len, hat_ps.els, hne_ps, hne1_ps, hne2_ps.1, hne2_ps.2.1, hne2_ps.2.2.1, hne2_ps.2.2.2.1, hne2_ps.2.2.2.2.1, hne2_ps.2.2.2.2.2.1, hne2_ps.2.2.2.2.2.2.1, hne2_ps.2.2.2.2.2.2.2.1, hne2_ps.2.2.2.2.2.2.2.2.1, hne2_ps.2.2.2.2.2.2.2.2.2.1, hne2_ps.2.2.2.2.2.2.2.2.2.2, e1, hlt, hj1, w1, m0, m1', m2, m3', hgf, hgt, hgf2, hgt2, m1n, m3n, hl, c1, rowK]
      exact ⟨out, ⟨hi, hl, hb⟩, .since (by simp only [push_n]; omega) (hwfT out hl) (by have hwf := hwfT out hl; (repeat first | exact Sub.refl _ | refine Sub.push hwf ?_ _ | refine Sub.set hwf ?_ (by first | exact Nat.le_refl _ | omega | (simp only [push_n, set_n, kill_n]; omega)) _ | refine Sub.kill hwf ?_ (by first | exact Nat.le_refl _ | omega | (simp only [push_n, set_n, kill_n]; omega)))) (by simp [frOk, AV.okR, AV.ok1, AC.okR, AV.ren, AV.ren1, AC.ren, AFrame.get, pl1_old, *]; first | done | rfl | omega)⟩
    by_cases c2 : gN out ps[j].to < ps[j].arrive
    · have hset : (List.map eI.cells out).set ps[j].to.toNat [AC.int .i64 (gN out ps[j].to)] = List.map eI.cells (stepT out ps[j]) := by
        rw [stepT_old hl hx (by omega)]; exact same_row hl m2 m3
      simp (config := {contextual := true, implicitDefEqProofs := false, maxSteps := 2000000}) [-Int.not_le, -Int.not_lt, argsF, spec_l9Times_l1, hat_ps.blk, hat_ps.esz, hat_ps.len, hat_ps.els, hne_ps, hne1_ps, hne2_ps.1, hne2_ps.2.1, hne2_ps.2.2.1, hne2_ps.2.2.2.1, hne2_ps.2.2.2.2.1, hne2_ps.2.2.2.2.2.1, hne2_ps.2.2.2.2.2.2.1, hne2_ps.2.2.2.2.2.2.2.1, hne2_ps.2.2.2.2.2.2.2.2.1, hne2_ps.2.2.2.2.2.2.2.2.2.1, hne2_ps.2.2.2.2.2.2.2.2.2.2, e1, hlt, hj1, w1, m0, m1', m2, m3', hgf, hgt, hgf2, hgt2, m1n, m3n, hl, c1, c2, hset, set_low, push_setR, rowK]
      exact ⟨stepT out ps[j], ⟨hi, hl', hb'⟩, .since (by simp only [push_n]; omega) (hwfT _ hl') (by have hwf := hwfT _ hl'; (repeat first | exact Sub.refl _ | refine Sub.push hwf ?_ _ | refine Sub.set hwf ?_ (by first | exact Nat.le_refl _ | omega | (simp only [push_n, set_n, kill_n]; omega)) _ | refine Sub.kill hwf ?_ (by first | exact Nat.le_refl _ | omega | (simp only [push_n, set_n, kill_n]; omega)))) (by simp [frOk, AV.okR, AV.ok1, AC.okR, AV.ren, AV.ren1, AC.ren, AFrame.get, pl1_old, *]; first | done | rfl | omega)⟩
    · have hset : (List.map eI.cells out).set ps[j].to.toNat [AC.int .i64 ps[j].arrive] = List.map eI.cells (stepT out ps[j]) := by
        by_cases c3 : ps[j].arrive < gN out ps[j].to
        · rw [stepT_new c1 c3, List.map_set]; rfl
        · have e : ps[j].arrive = gN out ps[j].to := by omega
          rw [stepT_old hl hx c3, e]; exact same_row hl m2 m3
      simp (config := {contextual := true, implicitDefEqProofs := false, maxSteps := 2000000}) [-Int.not_le, -Int.not_lt, argsF, spec_l9Times_l1, hat_ps.blk, hat_ps.esz, hat_ps.len, hat_ps.els, hne_ps, hne1_ps, hne2_ps.1, hne2_ps.2.1, hne2_ps.2.2.1, hne2_ps.2.2.2.1, hne2_ps.2.2.2.2.1, hne2_ps.2.2.2.2.2.1, hne2_ps.2.2.2.2.2.2.1, hne2_ps.2.2.2.2.2.2.2.1, hne2_ps.2.2.2.2.2.2.2.2.1, hne2_ps.2.2.2.2.2.2.2.2.2.1, hne2_ps.2.2.2.2.2.2.2.2.2.2, e1, hlt, hj1, w1, m0, m1', m2, m3', hgf, hgt, hgf2, hgt2, m1n, m3n, hl, c1, c2, hset, set_low, push_setR, rowK]
      exact ⟨stepT out ps[j], ⟨hi, hl', hb'⟩, .since (by simp only [push_n]; omega) (hwfT _ hl') (by have hwf := hwfT _ hl'; (repeat first | exact Sub.refl _ | refine Sub.push hwf ?_ _ | refine Sub.set hwf ?_ (by first | exact Nat.le_refl _ | omega | (simp only [push_n, set_n, kill_n]; omega)) _ | refine Sub.kill hwf ?_ (by first | exact Nat.le_refl _ | omega | (simp only [push_n, set_n, kill_n]; omega)))) (by simp [frOk, AV.okR, AV.ok1, AC.okR, AV.ren, AV.ren1, AC.ren, AFrame.get, pl1_old, *]; first | done | rfl | omega)⟩
  · obtain ⟨hi, hl, hb⟩ := hi
    simp only [scanT] at hi
    simp (config := {contextual := true, implicitDefEqProofs := false, maxSteps := 2000000}) [-Int.not_le, -Int.not_lt, argsF, spec_l9Times_l1, hat_ps.blk, hat_ps.esz, hat_ps.len, hat_ps.els, hne_ps, hne1_ps, hne2_ps.1, hne2_ps.2.1, hne2_ps.2.2.1, hne2_ps.2.2.2.1, hne2_ps.2.2.2.2.1, hne2_ps.2.2.2.2.2.1, hne2_ps.2.2.2.2.2.2.1, hne2_ps.2.2.2.2.2.2.2.1, hne2_ps.2.2.2.2.2.2.2.2.1, hne2_ps.2.2.2.2.2.2.2.2.2.1, hne2_ps.2.2.2.2.2.2.2.2.2.2]
    rw [← hi] at h
    exact (.one (c := some (H.n)) hwf (by (repeat first | exact Sub.refl _ | refine Sub.push hwf ?_ _ | refine Sub.set hwf ?_ (by first | exact Nat.le_refl _ | omega | (simp only [push_n, set_n, kill_n]; omega)) _ | refine Sub.kill hwf ?_ (by first | exact Nat.le_refl _ | omega | (simp only [push_n, set_n, kill_n]; omega)))) ⟨by omega, by simp [push_b, set_b, kill_b, rowK]; done⟩ (plain_map (fun _ => rfl) _) (by simp [frOk, AV.okR, AV.ok1, AC.okR, AV.ren, AV.ren1, AC.ren, AFrame.get, pl1_old, *]; first | done | rfl | omega) h)

end Go.Proofs.Ytjiffkjeijfilaa
