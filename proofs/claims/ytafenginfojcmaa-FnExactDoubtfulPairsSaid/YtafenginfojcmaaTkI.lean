/- The laws' helpers: numbers. -/
import Derived.Test.YtafenginfojcmaaBas
import Derived.Test.YtafenginfojcmaaSiC
set_option maxRecDepth 8000
set_option linter.unusedSimpArgs false
set_option linter.unusedVariables false
namespace Go.Proofs.Ytafenginfojcmaa
open Go Go.RowKit

def q_toSInt : Con := fun args H K => match args with
  | [ps_v] => eI.rd H (fun ps => ps.length ≤ 1048576 ∧ K (.c (.sl (H.n) (0) (ps.length))) (H.push (rowK eI 3 ps))) ps_v
  | _ => False
@[simp ↓] theorem q_toSInt_eq (ps_v : AV) (H : AHeap) (K : AV → AHeap → Prop) : q_toSInt [ps_v] H K = (eI.rd H (fun ps => ps.length ≤ 1048576 ∧ K (.c (.sl (H.n) (0) (ps.length))) (H.push (rowK eI 3 ps))) ps_v) := rfl

theorem laws_toIntS_s : Sound Try.prog 70 q_toSInt := by
  intro args H K h
  unfold q_toSInt at h
  split at h
  rotate_left
  all_goals first | exact False.elim h | skip
  rename_i ps_v
  have h1 := Enc.rd_at h
  clear h
  obtain ⟨b_ps, i_ps, k_ps, ps, rfl, hat_ps, h⟩ := h1
  have hE := soundE_nil (P := Try.prog)
  refine acalls_fn laws_toIntS_k hE ⟨by simp, fun hwf => ?_⟩
  have hb_ps : b_ps < H.n := (hwf b_ps k_ps hat_ps.blk).1
  have hne_ps : (b_ps = H.n) = False := eq_false (by omega)
  have hne1_ps : ∀ i, (b_ps = H.n + i) = False := fun i => eq_false (by omega)
  have hne2_ps : (b_ps = H.n + 1 + 1) = False ∧ (b_ps = H.n + 1 + 1 + 1) = False ∧ (b_ps = H.n + 1 + 1 + 1 + 1) = False ∧ (b_ps = H.n + 1 + 1 + 1 + 1 + 1) = False ∧ (b_ps = H.n + 1 + 1 + 1 + 1 + 1 + 1) = False ∧ (b_ps = H.n + 1 + 1 + 1 + 1 + 1 + 1 + 1) = False ∧ (b_ps = H.n + 1 + 1 + 1 + 1 + 1 + 1 + 1 + 1) = False ∧ (b_ps = H.n + 1 + 1 + 1 + 1 + 1 + 1 + 1 + 1 + 1) = False ∧ (b_ps = H.n + 1 + 1 + 1 + 1 + 1 + 1 + 1 + 1 + 1 + 1) = False ∧ (b_ps = H.n + 1 + 1 + 1 + 1 + 1 + 1 + 1 + 1 + 1 + 1 + 1) = False ∧ (b_ps = H.n + 1 + 1 + 1 + 1 + 1 + 1 + 1 + 1 + 1 + 1 + 1 + 1) = False := ⟨eq_false (by omega), eq_false (by omega), eq_false (by omega), eq_false (by omega), eq_false (by omega), eq_false (by omega), eq_false (by omega), eq_false (by omega), eq_false (by omega), eq_false (by omega), eq_false (by omega)⟩
  have hmx_ps : ps.length ≤ 9223372036854775807 := by have h1 := (hwf b_ps k_ps hat_ps.blk).2.2; have h2 := hat_ps.len; omega
  obtain ⟨hl, h⟩ := h
  have hl1 : (8 : Int) * (ps.length : Int) ≤ 140737488355328 := by omega
  have hl2 : (ps.length : Int) ≤ 140737488355328 := by omega
  have hl3 : (ps.length : Int) * 8 ≤ 140737488355328 := by omega
  simp (config := {contextual := true, implicitDefEqProofs := false, maxSteps := 60000}) [-Int.not_le, -Int.not_lt, argsF, laws_toIntS_c, hat_ps.blk, hat_ps.esz, hat_ps.len, hat_ps.els, hne_ps, hne1_ps, hne2_ps.1, hne2_ps.2.1, hne2_ps.2.2.1, hne2_ps.2.2.2.1, hne2_ps.2.2.2.2.1, hne2_ps.2.2.2.2.2.1, hne2_ps.2.2.2.2.2.2.1, hne2_ps.2.2.2.2.2.2.2.1, hne2_ps.2.2.2.2.2.2.2.2.1, hne2_ps.2.2.2.2.2.2.2.2.2.1, hne2_ps.2.2.2.2.2.2.2.2.2.2, hl1, hl2, hl3]
  have hzo : ∀ j, ∀ e ∈ upd (ps.map eI.cells) (List.replicate ps.length [.int .i64 0]) j, ∀ x ∈ e, x.okR some H.n := fun j => plain_ok fun e he => by
    rcases List.mem_append.1 he with he | he
    · obtain ⟨p, _, rfl⟩ := List.mem_map.1 (List.mem_of_mem_take he); rfl
    · rw [(List.mem_replicate.1 (List.mem_of_mem_drop he)).2]; rfl
  have hul : (ps.map eI.cells).length = (List.replicate ps.length ([.int .i64 0] : List AC)).length := by simp
  have hu0 : H.push ⟨3, 1, false, false, List.replicate ps.length [.int .i64 0]⟩ = H.push ⟨3, 1, false, false, upd (ps.map eI.cells) (List.replicate ps.length [.int .i64 0]) 0⟩ := by rw [upd_0]
  rw [hu0]
  have hend : upd (ps.map eI.cells) (List.replicate ps.length [.int .i64 0]) ps.length = ps.map eI.cells := by have := upd_all hul; simpa using this
  refine aloop_list ps (fun j _ => [(0, .c (.sl b_ps i_ps ps.length)), (3, .c (.sl (H.n) (0) (ps.length))), (4, .c (.int .i64 (j)))]) (fun j _ => H.push ⟨3, 1, false, false, (upd (ps.map eI.cells) (List.replicate ps.length [.int .i64 0]) j)⟩) (fun j l _ => True) hE _ (()) (trivial) (.one (c := some (H.n)) hwf (by (repeat first | exact Sub.refl _ | refine Sub.push hwf ?_ _ | refine Sub.set hwf ?_ (by first | exact Nat.le_refl _ | omega | (simp only [push_n, set_n, kill_n]; omega)) _ | refine Sub.kill hwf ?_ (by first | exact Nat.le_refl _ | omega | (simp only [push_n, set_n, kill_n]; omega)))) ⟨by omega, by simp [push_b, set_b, kill_b, rowK]; done⟩ ( hzo 0) (by simp [frOk, AV.okR, AV.ok1, AC.okR, AV.ren, AV.ren1, AC.ren, AFrame.get, pl1_old, *]; first | done | rfl | omega)) (fun j _ hlt hi => ?_) fun _ hi => ?_
  ·
    have e1 := hat_ps.get hlt
    have hj1 := idx_lt hlt
    have w1 : IntKind.i64.wrap ((j : Int) + 1) = (j : Int) + 1 := wrap_id (by omega) (by omega)
    have eg := upd_get hul (j := j) (by simpa using hlt)
    simp only [List.getElem_replicate] at eg
    have eg2 : ∀ h, (upd (ps.map eI.cells) (List.replicate ps.length [.int .i64 0]) j)[j]'h = [.int .i64 0] := fun h => by rw [List.getElem?_eq_getElem h] at eg; simpa using eg
    clear eg
    have el := upd_len hul (j := j) (by simp; omega)
    simp only [List.length_replicate] at el
    have es := upd_set hul (j := j) (by simpa using hlt) (x := eI.cells ps[j]) (by simp [hlt])
    rw [eI_cells] at es
    simp (config := {contextual := true, implicitDefEqProofs := false, maxSteps := 60000}) [-Int.not_le, -Int.not_lt, argsF, laws_toIntS_l0, hat_ps.blk, hat_ps.esz, hat_ps.len, hat_ps.els, hne_ps, hne1_ps, hne2_ps.1, hne2_ps.2.1, hne2_ps.2.2.1, hne2_ps.2.2.2.1, hne2_ps.2.2.2.2.1, hne2_ps.2.2.2.2.2.1, hne2_ps.2.2.2.2.2.2.1, hne2_ps.2.2.2.2.2.2.2.1, hne2_ps.2.2.2.2.2.2.2.2.1, hne2_ps.2.2.2.2.2.2.2.2.2.1, hne2_ps.2.2.2.2.2.2.2.2.2.2, e1, hj1, w1, el, es, eg2, hlt]
    exact ⟨(), trivial, .one (c := some (H.n)) hwf (by (repeat first | exact Sub.refl _ | refine Sub.push hwf ?_ _ | refine Sub.set hwf ?_ (by first | exact Nat.le_refl _ | omega | (simp only [push_n, set_n, kill_n]; omega)) _ | refine Sub.kill hwf ?_ (by first | exact Nat.le_refl _ | omega | (simp only [push_n, set_n, kill_n]; omega)))) ⟨by omega, by simp [push_b, set_b, kill_b, rowK]; done⟩ ( hzo (j + 1)) (by simp [frOk, AV.okR, AV.ok1, AC.okR, AV.ren, AV.ren1, AC.ren, AFrame.get, pl1_old, *]; first | done | rfl | omega)⟩
  ·
    simp (config := {contextual := true, implicitDefEqProofs := false, maxSteps := 60000}) [-Int.not_le, -Int.not_lt, argsF, laws_toIntS_l0, hat_ps.blk, hat_ps.esz, hat_ps.len, hat_ps.els, hne_ps, hne1_ps, hne2_ps.1, hne2_ps.2.1, hne2_ps.2.2.1, hne2_ps.2.2.2.1, hne2_ps.2.2.2.2.1, hne2_ps.2.2.2.2.2.1, hne2_ps.2.2.2.2.2.2.1, hne2_ps.2.2.2.2.2.2.2.1, hne2_ps.2.2.2.2.2.2.2.2.1, hne2_ps.2.2.2.2.2.2.2.2.2.1, hne2_ps.2.2.2.2.2.2.2.2.2.2]
    rw [hend]
    exact (.one (c := some (H.n)) hwf (by (repeat first | exact Sub.refl _ | refine Sub.push hwf ?_ _ | refine Sub.set hwf ?_ (by first | exact Nat.le_refl _ | omega | (simp only [push_n, set_n, kill_n]; omega)) _ | refine Sub.kill hwf ?_ (by first | exact Nat.le_refl _ | omega | (simp only [push_n, set_n, kill_n]; omega)))) ⟨by omega, by simp [push_b, set_b, kill_b, rowK]; done⟩ (plain_map (fun _ => rfl) _) (by simp [frOk, AV.okR, AV.ok1, AC.okR, AV.ren, AV.ren1, AC.ren, AFrame.get, pl1_old, *]; first | done | rfl | omega) h)

def q_eqSInt : Con := fun args H K => match args with
  | [ps_v, rs_v] => eI.rd H (fun ps => eI.rd H (fun rs => K (.c (.bool (decide (ps = rs)))) H) rs_v) ps_v
  | _ => False
@[simp ↓] theorem q_eqSInt_eq (ps_v : AV) (rs_v : AV) (H : AHeap) (K : AV → AHeap → Prop) : q_eqSInt [ps_v, rs_v] H K = (eI.rd H (fun ps => eI.rd H (fun rs => K (.c (.bool (decide (ps = rs)))) H) rs_v) ps_v) := rfl

theorem laws_eqIntS_s : Sound Try.prog 50 q_eqSInt := by
  intro args H K h
  unfold q_eqSInt at h
  split at h
  rotate_left
  all_goals first | exact False.elim h | skip
  rename_i ps_v rs_v
  have h1 := Enc.rd_at h
  clear h
  obtain ⟨b_ps, i_ps, k_ps, ps, rfl, hat_ps, h⟩ := h1
  have h1 := Enc.rd_at h
  clear h
  obtain ⟨b_rs, i_rs, k_rs, rs, rfl, hat_rs, h⟩ := h1
  have hE := soundE_nil (P := Try.prog)
  refine acalls_fn laws_eqIntS_k hE ⟨by simp, fun hwf => ?_⟩
  have hb_ps : b_ps < H.n := (hwf b_ps k_ps hat_ps.blk).1
  have hne_ps : (b_ps = H.n) = False := eq_false (by omega)
  have hne1_ps : ∀ i, (b_ps = H.n + i) = False := fun i => eq_false (by omega)
  have hne2_ps : (b_ps = H.n + 1 + 1) = False ∧ (b_ps = H.n + 1 + 1 + 1) = False ∧ (b_ps = H.n + 1 + 1 + 1 + 1) = False ∧ (b_ps = H.n + 1 + 1 + 1 + 1 + 1) = False ∧ (b_ps = H.n + 1 + 1 + 1 + 1 + 1 + 1) = False ∧ (b_ps = H.n + 1 + 1 + 1 + 1 + 1 + 1 + 1) = False ∧ (b_ps = H.n + 1 + 1 + 1 + 1 + 1 + 1 + 1 + 1) = False ∧ (b_ps = H.n + 1 + 1 + 1 + 1 + 1 + 1 + 1 + 1 + 1) = False ∧ (b_ps = H.n + 1 + 1 + 1 + 1 + 1 + 1 + 1 + 1 + 1 + 1) = False ∧ (b_ps = H.n + 1 + 1 + 1 + 1 + 1 + 1 + 1 + 1 + 1 + 1 + 1) = False ∧ (b_ps = H.n + 1 + 1 + 1 + 1 + 1 + 1 + 1 + 1 + 1 + 1 + 1 + 1) = False := ⟨eq_false (by omega), eq_false (by omega), eq_false (by omega), eq_false (by omega), eq_false (by omega), eq_false (by omega), eq_false (by omega), eq_false (by omega), eq_false (by omega), eq_false (by omega), eq_false (by omega)⟩
  have hmx_ps : ps.length ≤ 9223372036854775807 := by have h1 := (hwf b_ps k_ps hat_ps.blk).2.2; have h2 := hat_ps.len; omega
  have hb_rs : b_rs < H.n := (hwf b_rs k_rs hat_rs.blk).1
  have hne_rs : (b_rs = H.n) = False := eq_false (by omega)
  have hne1_rs : ∀ i, (b_rs = H.n + i) = False := fun i => eq_false (by omega)
  have hne2_rs : (b_rs = H.n + 1 + 1) = False ∧ (b_rs = H.n + 1 + 1 + 1) = False ∧ (b_rs = H.n + 1 + 1 + 1 + 1) = False ∧ (b_rs = H.n + 1 + 1 + 1 + 1 + 1) = False ∧ (b_rs = H.n + 1 + 1 + 1 + 1 + 1 + 1) = False ∧ (b_rs = H.n + 1 + 1 + 1 + 1 + 1 + 1 + 1) = False ∧ (b_rs = H.n + 1 + 1 + 1 + 1 + 1 + 1 + 1 + 1) = False ∧ (b_rs = H.n + 1 + 1 + 1 + 1 + 1 + 1 + 1 + 1 + 1) = False ∧ (b_rs = H.n + 1 + 1 + 1 + 1 + 1 + 1 + 1 + 1 + 1 + 1) = False ∧ (b_rs = H.n + 1 + 1 + 1 + 1 + 1 + 1 + 1 + 1 + 1 + 1 + 1) = False ∧ (b_rs = H.n + 1 + 1 + 1 + 1 + 1 + 1 + 1 + 1 + 1 + 1 + 1 + 1) = False := ⟨eq_false (by omega), eq_false (by omega), eq_false (by omega), eq_false (by omega), eq_false (by omega), eq_false (by omega), eq_false (by omega), eq_false (by omega), eq_false (by omega), eq_false (by omega), eq_false (by omega)⟩
  have hmx_rs : rs.length ≤ 9223372036854775807 := by have h1 := (hwf b_rs k_rs hat_rs.blk).2.2; have h2 := hat_rs.len; omega
  simp (config := {contextual := true, implicitDefEqProofs := false, maxSteps := 60000}) [-Int.not_le, -Int.not_lt, argsF, laws_eqIntS_c, hat_ps.blk, hat_ps.esz, hat_ps.len, hat_ps.els, hne_ps, hne1_ps, hne2_ps.1, hne2_ps.2.1, hne2_ps.2.2.1, hne2_ps.2.2.2.1, hne2_ps.2.2.2.2.1, hne2_ps.2.2.2.2.2.1, hne2_ps.2.2.2.2.2.2.1, hne2_ps.2.2.2.2.2.2.2.1, hne2_ps.2.2.2.2.2.2.2.2.1, hne2_ps.2.2.2.2.2.2.2.2.2.1, hne2_ps.2.2.2.2.2.2.2.2.2.2, hat_rs.blk, hat_rs.esz, hat_rs.len, hat_rs.els, hne_rs, hne1_rs, hne2_rs.1, hne2_rs.2.1, hne2_rs.2.2.1, hne2_rs.2.2.2.1, hne2_rs.2.2.2.2.1, hne2_rs.2.2.2.2.2.1, hne2_rs.2.2.2.2.2.2.1, hne2_rs.2.2.2.2.2.2.2.1, hne2_rs.2.2.2.2.2.2.2.2.1, hne2_rs.2.2.2.2.2.2.2.2.2.1, hne2_rs.2.2.2.2.2.2.2.2.2.2]
  split
  · rename_i hlen
    refine aloop_list ps (fun j _ => [(0, .c (.sl b_ps i_ps ps.length)), (1, .c (.sl b_rs i_rs rs.length)), (5, .c (.int .i64 (j)))]) (fun j _ => H) (fun j l _ => K (.c (.bool (decide (l = rs.drop j)))) H) hE _ (()) (by simpa using h) (.same hwf (by simp [frOk, AV.okR, AV.ok1, AC.okR, AV.ren, AV.ren1, AC.ren, AFrame.get, pl1_old, *]; first | done | rfl | omega)) (fun j _ hlt hi => ?_) fun _ hi => ?_
    ·
      have e1 := hat_ps.get hlt
      have hj1 := idx_lt hlt
      have w1 : IntKind.i64.wrap ((j : Int) + 1) = (j : Int) + 1 := wrap_id (by omega) (by omega)
      have hr : j < rs.length := by omega
      have hr1 := idx_lt hr
      have e2 := hat_rs.get hr
      rw [List.drop_eq_getElem_cons hr] at hi
      simp (config := {contextual := true, implicitDefEqProofs := false, maxSteps := 60000}) [-Int.not_le, -Int.not_lt, argsF, laws_eqIntS_l0, hat_rs.blk, hat_rs.esz, hat_rs.len, hat_rs.els, hne_rs, hne1_rs, hne2_rs.1, hne2_rs.2.1, hne2_rs.2.2.1, hne2_rs.2.2.2.1, hne2_rs.2.2.2.2.1, hne2_rs.2.2.2.2.2.1, hne2_rs.2.2.2.2.2.2.1, hne2_rs.2.2.2.2.2.2.2.1, hne2_rs.2.2.2.2.2.2.2.2.1, hne2_rs.2.2.2.2.2.2.2.2.2.1, hne2_rs.2.2.2.2.2.2.2.2.2.2, hat_ps.blk, hat_ps.esz, hat_ps.len, hat_ps.els, hne_ps, hne1_ps, hne2_ps.1, hne2_ps.2.1, hne2_ps.2.2.1, hne2_ps.2.2.2.1, hne2_ps.2.2.2.2.1, hne2_ps.2.2.2.2.2.1, hne2_ps.2.2.2.2.2.2.1, hne2_ps.2.2.2.2.2.2.2.1, hne2_ps.2.2.2.2.2.2.2.2.1, hne2_ps.2.2.2.2.2.2.2.2.2.1, hne2_ps.2.2.2.2.2.2.2.2.2.2, e1, hj1, w1, hr, hr1, e2]
      simp only [List.cons.injEq] at hi
      repeat' split
      all_goals simp only [*, true_and, false_and, decide_false] at hi
      all_goals first | ((refine Out.plain hwf ?_ rfl ?_; (repeat first | exact Sub.refl _ | refine Sub.push hwf ?_ _ | refine Sub.set hwf ?_ (by first | exact Nat.le_refl _ | omega | (simp only [push_n, set_n, kill_n]; omega)) _ | refine Sub.kill hwf ?_ (by first | exact Nat.le_refl _ | omega | (simp only [push_n, set_n, kill_n]; omega)))); simpa using hi) | exact ⟨(), hi, .drop hwf (by (repeat first | exact Sub.refl _ | refine Sub.push hwf ?_ _ | refine Sub.set hwf ?_ (by first | exact Nat.le_refl _ | omega | (simp only [push_n, set_n, kill_n]; omega)) _ | refine Sub.kill hwf ?_ (by first | exact Nat.le_refl _ | omega | (simp only [push_n, set_n, kill_n]; omega)))) (by simp [frOk, AV.okR, AV.ok1, AC.okR, AV.ren, AV.ren1, AC.ren, AFrame.get, pl1_old, *]; first | done | rfl | omega)⟩
    ·
      simp (config := {contextual := true, implicitDefEqProofs := false, maxSteps := 60000}) [-Int.not_le, -Int.not_lt, argsF, laws_eqIntS_l0, hat_rs.blk, hat_rs.esz, hat_rs.len, hat_rs.els, hne_rs, hne1_rs, hne2_rs.1, hne2_rs.2.1, hne2_rs.2.2.1, hne2_rs.2.2.2.1, hne2_rs.2.2.2.2.1, hne2_rs.2.2.2.2.2.1, hne2_rs.2.2.2.2.2.2.1, hne2_rs.2.2.2.2.2.2.2.1, hne2_rs.2.2.2.2.2.2.2.2.1, hne2_rs.2.2.2.2.2.2.2.2.2.1, hne2_rs.2.2.2.2.2.2.2.2.2.2, hat_ps.blk, hat_ps.esz, hat_ps.len, hat_ps.els, hne_ps, hne1_ps, hne2_ps.1, hne2_ps.2.1, hne2_ps.2.2.1, hne2_ps.2.2.2.1, hne2_ps.2.2.2.2.1, hne2_ps.2.2.2.2.2.1, hne2_ps.2.2.2.2.2.2.1, hne2_ps.2.2.2.2.2.2.2.1, hne2_ps.2.2.2.2.2.2.2.2.1, hne2_ps.2.2.2.2.2.2.2.2.2.1, hne2_ps.2.2.2.2.2.2.2.2.2.2]
      rw [show ps.length = rs.length by omega, List.drop_length] at hi
      (refine Out.plain hwf ?_ rfl ?_; (repeat first | exact Sub.refl _ | refine Sub.push hwf ?_ _ | refine Sub.set hwf ?_ (by first | exact Nat.le_refl _ | omega | (simp only [push_n, set_n, kill_n]; omega)) _ | refine Sub.kill hwf ?_ (by first | exact Nat.le_refl _ | omega | (simp only [push_n, set_n, kill_n]; omega)))); simpa using hi
  · rename_i hlen
    (refine Out.plain hwf ?_ rfl ?_; (repeat first | exact Sub.refl _ | refine Sub.push hwf ?_ _ | refine Sub.set hwf ?_ (by first | exact Nat.le_refl _ | omega | (simp only [push_n, set_n, kill_n]; omega)) _ | refine Sub.kill hwf ?_ (by first | exact Nat.le_refl _ | omega | (simp only [push_n, set_n, kill_n]; omega))))
    rwa [decide_eq_false (fun e => hlen (by rw [e]))] at h

def mkInt (k : Int) : Int := k
def mksInt : Nat → Int → List Int
  | 0, _ => []
  | n + 1, k => mkInt k :: mksInt n (k + 1)
@[simp] theorem mksInt_len : ∀ (n : Nat) (k : Int), (mksInt n k).length = n
  | 0, _ => rfl
  | n + 1, k => by simp [mksInt, mksInt_len n]
theorem mksInt_get : ∀ (n : Nat) (k : Int) (j : Nat), j < n → (mksInt n k)[j]? = some (mkInt (k + (j : Int)))
  | 0, _, _, h => by omega
  | n + 1, k, 0, _ => by simp [mksInt]
  | n + 1, k, j + 1, h => by
    simp only [mksInt, List.getElem?_cons_succ]
    rw [mksInt_get n _ j (by omega)]
    congr 2
    push_cast
    omega
def heldInt : List Int → Int → Int
  | [], k => k
  | p :: r, k => if p = k then heldInt r (k + 1) else -1
@[simp] theorem mksInt_take {β : Type} (n : Nat) (k : Int) (f : Int → β) : ((mksInt n k).map f).take n = (mksInt n k).map f := by
  rw [List.take_of_length_le]; simp
@[simp] theorem heldInt_mks : ∀ (n : Nat) (k : Int), heldInt (mksInt n k) k = k + (n : Int)
  | 0, k => by simp [mksInt, heldInt]
  | n + 1, k => by
    simp only [mksInt, heldInt, mkInt, if_true]
    rw [heldInt_mks n]
    push_cast
    omega
@[simp] theorem posInt (n : Nat) : (1 + (n : Int) < 0) = False := eq_false (by omega)

def q_heldSInt : Con := fun args H K => match args with
  | [ps_v, .c (.int .i64 k)] => eI.rd H (fun ps => ps.length ≤ 1048576 ∧ 0 ≤ k ∧ k ≤ 1099511627776 ∧ K (.c (.int .i64 (heldInt ps k))) H) ps_v
  | _ => False
@[simp ↓] theorem q_heldSInt_eq (ps_v : AV) (k : Int) (H : AHeap) (K : AV → AHeap → Prop) : q_heldSInt [ps_v, .c (.int .i64 k)] H K = (eI.rd H (fun ps => ps.length ≤ 1048576 ∧ 0 ≤ k ∧ k ≤ 1099511627776 ∧ K (.c (.int .i64 (heldInt ps k))) H) ps_v) := rfl

theorem laws_heldIntS_s : Sound Try.prog 54 q_heldSInt := by
  intro args H K h
  unfold q_heldSInt at h
  split at h
  rotate_left
  all_goals first | exact False.elim h | skip
  rename_i ps_v k
  have h1 := Enc.rd_at h
  clear h
  obtain ⟨b_ps, i_ps, k_ps, ps, rfl, hat_ps, h⟩ := h1
  have hE := soundE_nil (P := Try.prog)
  refine acalls_fn laws_heldIntS_k hE ⟨by simp, fun hwf => ?_⟩
  have hb_ps : b_ps < H.n := (hwf b_ps k_ps hat_ps.blk).1
  have hne_ps : (b_ps = H.n) = False := eq_false (by omega)
  have hne1_ps : ∀ i, (b_ps = H.n + i) = False := fun i => eq_false (by omega)
  have hne2_ps : (b_ps = H.n + 1 + 1) = False ∧ (b_ps = H.n + 1 + 1 + 1) = False ∧ (b_ps = H.n + 1 + 1 + 1 + 1) = False ∧ (b_ps = H.n + 1 + 1 + 1 + 1 + 1) = False ∧ (b_ps = H.n + 1 + 1 + 1 + 1 + 1 + 1) = False ∧ (b_ps = H.n + 1 + 1 + 1 + 1 + 1 + 1 + 1) = False ∧ (b_ps = H.n + 1 + 1 + 1 + 1 + 1 + 1 + 1 + 1) = False ∧ (b_ps = H.n + 1 + 1 + 1 + 1 + 1 + 1 + 1 + 1 + 1) = False ∧ (b_ps = H.n + 1 + 1 + 1 + 1 + 1 + 1 + 1 + 1 + 1 + 1) = False ∧ (b_ps = H.n + 1 + 1 + 1 + 1 + 1 + 1 + 1 + 1 + 1 + 1 + 1) = False ∧ (b_ps = H.n + 1 + 1 + 1 + 1 + 1 + 1 + 1 + 1 + 1 + 1 + 1 + 1) = False := ⟨eq_false (by omega), eq_false (by omega), eq_false (by omega), eq_false (by omega), eq_false (by omega), eq_false (by omega), eq_false (by omega), eq_false (by omega), eq_false (by omega), eq_false (by omega), eq_false (by omega)⟩
  have hmx_ps : ps.length ≤ 9223372036854775807 := by have h1 := (hwf b_ps k_ps hat_ps.blk).2.2; have h2 := hat_ps.len; omega
  obtain ⟨hl, hk1, hk2, h⟩ := h
  simp (config := {contextual := true, implicitDefEqProofs := false, maxSteps := 60000}) [-Int.not_le, -Int.not_lt, argsF, laws_heldIntS_c, hat_ps.blk, hat_ps.esz, hat_ps.len, hat_ps.els, hne_ps, hne1_ps, hne2_ps.1, hne2_ps.2.1, hne2_ps.2.2.1, hne2_ps.2.2.2.1, hne2_ps.2.2.2.2.1, hne2_ps.2.2.2.2.2.1, hne2_ps.2.2.2.2.2.2.1, hne2_ps.2.2.2.2.2.2.2.1, hne2_ps.2.2.2.2.2.2.2.2.1, hne2_ps.2.2.2.2.2.2.2.2.2.1, hne2_ps.2.2.2.2.2.2.2.2.2.2]
  refine aloop_list ps (fun j k => [(0, .c (.sl b_ps i_ps ps.length)), (1, .c (.int .i64 (k))), (5, .c (.int .i64 (j)))]) (fun j k => H) (fun j l k => (0 ≤ k ∧ k ≤ 1099511627776 + 1 * (j : Int)) ∧ K (.c (.int .i64 (heldInt l k))) H) hE _ (k) (⟨by omega, h⟩) (.same hwf (by simp [frOk, AV.okR, AV.ok1, AC.okR, AV.ren, AV.ren1, AC.ren, AFrame.get, pl1_old, *]; first | done | rfl | omega)) (fun j k hlt hi => ?_) fun k hi => ?_
  ·
    have e1 := hat_ps.get hlt
    have hj1 := idx_lt hlt
    have w1 : IntKind.i64.wrap ((j : Int) + 1) = (j : Int) + 1 := wrap_id (by omega) (by omega)
    obtain ⟨hs, hi⟩ := hi
    obtain ⟨hs1, hs2⟩ := hs
    have wk1 : IntKind.i64.wrap (k + 1) = k + 1 := wrap_id (by omega) (by omega)
    simp (config := {contextual := true, implicitDefEqProofs := false, maxSteps := 60000}) [-Int.not_le, -Int.not_lt, argsF, laws_heldIntS_l0, hat_ps.blk, hat_ps.esz, hat_ps.len, hat_ps.els, hne_ps, hne1_ps, hne2_ps.1, hne2_ps.2.1, hne2_ps.2.2.1, hne2_ps.2.2.2.1, hne2_ps.2.2.2.2.1, hne2_ps.2.2.2.2.2.1, hne2_ps.2.2.2.2.2.2.1, hne2_ps.2.2.2.2.2.2.2.1, hne2_ps.2.2.2.2.2.2.2.2.1, hne2_ps.2.2.2.2.2.2.2.2.2.1, hne2_ps.2.2.2.2.2.2.2.2.2.2, e1, hj1, w1, wk1]
    simp only [heldInt] at hi
    repeat' split
    all_goals try simp only [*, if_true, if_false, reduceCtorEq, and_self, and_true, true_and, and_false, false_and, not_true_eq_false, not_false_eq_true] at hi
    all_goals first | ((refine Out.plain hwf ?_ rfl ?_; (repeat first | exact Sub.refl _ | refine Sub.push hwf ?_ _ | refine Sub.set hwf ?_ (by first | exact Nat.le_refl _ | omega | (simp only [push_n, set_n, kill_n]; omega)) _ | refine Sub.kill hwf ?_ (by first | exact Nat.le_refl _ | omega | (simp only [push_n, set_n, kill_n]; omega)))); exact hi) | exact ⟨_, ⟨by push_cast; omega, hi⟩, .drop hwf (by (repeat first | exact Sub.refl _ | refine Sub.push hwf ?_ _ | refine Sub.set hwf ?_ (by first | exact Nat.le_refl _ | omega | (simp only [push_n, set_n, kill_n]; omega)) _ | refine Sub.kill hwf ?_ (by first | exact Nat.le_refl _ | omega | (simp only [push_n, set_n, kill_n]; omega)))) (by simp [frOk, AV.okR, AV.ok1, AC.okR, AV.ren, AV.ren1, AC.ren, AFrame.get, pl1_old, *]; first | done | rfl | omega)⟩
  ·
    obtain ⟨hs, hi⟩ := hi
    simp (config := {contextual := true, implicitDefEqProofs := false, maxSteps := 60000}) [-Int.not_le, -Int.not_lt, argsF, laws_heldIntS_l0, hat_ps.blk, hat_ps.esz, hat_ps.len, hat_ps.els, hne_ps, hne1_ps, hne2_ps.1, hne2_ps.2.1, hne2_ps.2.2.1, hne2_ps.2.2.2.1, hne2_ps.2.2.2.2.1, hne2_ps.2.2.2.2.2.1, hne2_ps.2.2.2.2.2.2.1, hne2_ps.2.2.2.2.2.2.2.1, hne2_ps.2.2.2.2.2.2.2.2.1, hne2_ps.2.2.2.2.2.2.2.2.2.1, hne2_ps.2.2.2.2.2.2.2.2.2.2]
    simp only [heldInt] at hi
    (refine Out.plain hwf ?_ rfl ?_; (repeat first | exact Sub.refl _ | refine Sub.push hwf ?_ _ | refine Sub.set hwf ?_ (by first | exact Nat.le_refl _ | omega | (simp only [push_n, set_n, kill_n]; omega)) _ | refine Sub.kill hwf ?_ (by first | exact Nat.le_refl _ | omega | (simp only [push_n, set_n, kill_n]; omega)))); exact hi

def q_markSInt : Con := fun args H K => match args with
  | [.c (.sl b i n), .c (.int .i64 k)] => onv (H.b b) fun kb => i = 0 ∧ kb.ro = false ∧ kb.esz = eI.n ∧ kb.els.length = n ∧ n ≤ 1048576 ∧ 0 ≤ k ∧ k ≤ 1099511627776 ∧ onv (eI.decL kb.els) fun _ => K (.c (.int .i64 (k + (n : Int)))) (H.set b (reK kb ((mksInt n k).map eI.cells)))
  | _ => False
@[simp ↓] theorem q_markSInt_eq (b i n : Nat) (k : Int) (H : AHeap) (K : AV → AHeap → Prop) : q_markSInt [.c (.sl b i n), .c (.int .i64 k)] H K = onv (H.b b) fun kb => i = 0 ∧ kb.ro = false ∧ kb.esz = eI.n ∧ kb.els.length = n ∧ n ≤ 1048576 ∧ 0 ≤ k ∧ k ≤ 1099511627776 ∧ onv (eI.decL kb.els) fun _ => K (.c (.int .i64 (k + (n : Int)))) (H.set b (reK kb ((mksInt n k).map eI.cells))) := rfl

theorem laws_markIntS_s : Sound Try.prog 53 q_markSInt := by
  intro args H K h
  unfold q_markSInt at h
  split at h
  rotate_left
  all_goals first | exact False.elim h | skip
  rename_i b i n k
  have h1 := onv_iff.1 h
  clear h
  obtain ⟨kb, hk, rfl, hro, hesz, hlen, hl, hk1, hk2, h⟩ := h1
  have h1 := onv_iff.1 h
  clear h
  obtain ⟨ps, hp, h⟩ := h1
  have he := Enc.decL_eq eI hp
  have hpl : ps.length = n := by rw [← hlen, he]; simp
  have hE := soundE_nil (P := Try.prog)
  refine acalls_fn laws_markIntS_k hE ⟨by simp, fun hwf => ?_⟩
  have hb : b < H.n := (hwf b kb hk).1
  have hesz' : kb.esz = 1 := hesz
  have hul : ((mksInt n k).map eI.cells).length = (ps.map eI.cells).length := by simp [hpl]
  have hzo : ∀ j, ∀ e ∈ upd ((mksInt n k).map eI.cells) (ps.map eI.cells) j, ∀ x ∈ e, x.okR some H.n := fun j => plain_ok fun e he => by
    rcases List.mem_append.1 he with he | he
    · obtain ⟨p, _, rfl⟩ := List.mem_map.1 (List.mem_of_mem_take he); rfl
    · obtain ⟨p, _, rfl⟩ := List.mem_map.1 (List.mem_of_mem_drop he); rfl
  have hwf' : ∀ j, j ≤ n → (H.set b (reK kb (upd ((mksInt n k).map eI.cells) (ps.map eI.cells) j))).WF := fun j hj => WF.set hwf hk (hzo j) (by
    have := upd_len hul (j := j) (by simpa [hpl] using hj)
    rw [reK_els, this]; simp; omega)
  have hW : ∀ F, frOk some H.n F F → Weak H.n F H F (H.set b (reK kb (upd ((mksInt n k).map eI.cells) (ps.map eI.cells) 0))) := fun F hF => by
    rw [upd_0, ← he, reK_self, set_self hk]; exact .same hwf hF
  have hend : upd ((mksInt n k).map eI.cells) (ps.map eI.cells) ps.length = (mksInt n k).map eI.cells := by have := upd_all hul; simpa using this
  simp (config := {contextual := true, implicitDefEqProofs := false, maxSteps := 60000}) [-Int.not_le, -Int.not_lt, argsF, laws_markIntS_c]
  refine aloop_list ps (fun j s => [(0, .c (.sl (b) (0) (n))), (1, .c (.int .i64 (s))), (5, .c (.int .i64 (j)))]) (fun j s => H.set b (reK kb (upd ((mksInt n k).map eI.cells) (ps.map eI.cells) j))) (fun j l s => s = k + (j : Int)) hE _ k (by simp) (hW _ (by simp [frOk, AV.okR, AV.ok1, AC.okR, AV.ren, AV.ren1, AC.ren, AFrame.get, pl1_old, *]; first | done | rfl | omega)) (fun j s hlt hi => ?_) fun s hi => ?_
  · have hj : j < n := by omega
    have hj1 := idx_lt hj
    have w1 : IntKind.i64.wrap ((j : Int) + 1) = (j : Int) + 1 := wrap_id (by omega) (by omega)
    have eg := upd_get hul (j := j) (by simpa using hlt)
    simp only [List.getElem_map, eI_cells] at eg
    have el := upd_len hul (j := j) (by simp; omega)
    simp only [List.length_map, hpl] at el
    have eg2 : ∀ h, (upd ((mksInt n k).map eI.cells) (ps.map eI.cells) j)[j]'h = eI.cells ps[j] := fun h => by rw [List.getElem?_eq_getElem h] at eg; simpa using eg
    simp only [eI_cells] at eg2
    have es := upd_set hul (j := j) (by simpa using hlt) (x := eI.cells (mkInt s)) (by rw [List.getElem?_map, mksInt_get n k j hj, hi]; rfl)
    simp only [eI_cells, mkInt] at es
    have wk1 : IntKind.i64.wrap (s + 1) = s + 1 := wrap_id (by omega) (by omega)
    simp (config := {contextual := true, implicitDefEqProofs := false, maxSteps := 60000}) [-Int.not_le, -Int.not_lt, argsF, laws_markIntS_l0, hb, hj, hj1, w1, hro, hesz, hlen, hk, eg2, el, es, reK_full hro hesz', wk1]
    exact ⟨s + 1, by push_cast; omega, .same (H := H.set b _) (hwf' (j + 1) (by omega)) (by simp [frOk, AV.okR, AV.ok1, AC.okR, AV.ren, AV.ren1, AC.ren, AFrame.get, pl1_old, *]; first | done | rfl | omega)⟩
  · have hj1 : ¬ ((ps.length : Int) < (n : Int)) := by omega
    simp (config := {contextual := true, implicitDefEqProofs := false, maxSteps := 60000}) [-Int.not_le, -Int.not_lt, argsF, laws_markIntS_l0, hj1]
    have hs : s = k + (n : Int) := by rw [hi, hpl]
    rw [hs, hend]
    exact .old (H := H.set b _) (by rw [← hend]; exact hwf' _ (by omega)) (.refl _) (by simp [frOk, AV.okR, AV.ok1, AC.okR, AV.ren, AV.ren1, AC.ren, AFrame.get, pl1_old, *]; first | done | rfl | omega) h

end Go.Proofs.Ytafenginfojcmaa
