/- The laws' helpers: postmarks. -/
import Derived.Test.YtnehhdcaknppnaaDoorTkP0
import Derived.Test.YtnehhdcaknppnaaDoorTkI
set_option maxRecDepth 8000
set_option linter.unusedSimpArgs false
set_option linter.unusedVariables false
namespace Go.Proofs.YtnehhdcaknppnaaDoor
open Go Go.RowKit

def q_toSPostmark : Con := fun args H K => match args with
  | [ps_v] => ePoB.rd H (fun ps => ps.length ≤ 1048576 ∧ K (.c (.sl (H.n) (0) (ps.length))) (H.push (rowK ePoB 26 ps))) ps_v
  | _ => False
@[simp ↓] theorem q_toSPostmark_eq (ps_v : AV) (H : AHeap) (K : AV → AHeap → Prop) : q_toSPostmark [ps_v] H K = (ePoB.rd H (fun ps => ps.length ≤ 1048576 ∧ K (.c (.sl (H.n) (0) (ps.length))) (H.push (rowK ePoB 26 ps))) ps_v) := rfl

theorem laws_toPostmarkS_s : Sound Tryd.prog 23 q_toSPostmark := by
  intro args H K h
  unfold q_toSPostmark at h
  split at h
  rotate_left
  all_goals first | exact False.elim h | skip
  rename_i ps_v
  have h1 := Enc.rd_at h
  clear h
  obtain ⟨b_ps, i_ps, k_ps, ps, rfl, hat_ps, h⟩ := h1
  have hE := soundE_cons laws_toPostmark_s (soundE_nil (P := Tryd.prog))
  refine acalls_fn laws_toPostmarkS_k hE ⟨by simp, fun hwf => ?_⟩
  have hb_ps : b_ps < H.n := (hwf b_ps k_ps hat_ps.blk).1
  have hne_ps : (b_ps = H.n) = False := eq_false (by omega)
  have hne1_ps : ∀ i, (b_ps = H.n + i) = False := fun i => eq_false (by omega)
  have hne2_ps : (b_ps = H.n + 1 + 1) = False ∧ (b_ps = H.n + 1 + 1 + 1) = False ∧ (b_ps = H.n + 1 + 1 + 1 + 1) = False ∧ (b_ps = H.n + 1 + 1 + 1 + 1 + 1) = False ∧ (b_ps = H.n + 1 + 1 + 1 + 1 + 1 + 1) = False ∧ (b_ps = H.n + 1 + 1 + 1 + 1 + 1 + 1 + 1) = False ∧ (b_ps = H.n + 1 + 1 + 1 + 1 + 1 + 1 + 1 + 1) = False ∧ (b_ps = H.n + 1 + 1 + 1 + 1 + 1 + 1 + 1 + 1 + 1) = False ∧ (b_ps = H.n + 1 + 1 + 1 + 1 + 1 + 1 + 1 + 1 + 1 + 1) = False ∧ (b_ps = H.n + 1 + 1 + 1 + 1 + 1 + 1 + 1 + 1 + 1 + 1 + 1) = False ∧ (b_ps = H.n + 1 + 1 + 1 + 1 + 1 + 1 + 1 + 1 + 1 + 1 + 1 + 1) = False := ⟨eq_false (by omega), eq_false (by omega), eq_false (by omega), eq_false (by omega), eq_false (by omega), eq_false (by omega), eq_false (by omega), eq_false (by omega), eq_false (by omega), eq_false (by omega), eq_false (by omega)⟩
  have hmx_ps : ps.length ≤ 9223372036854775807 := by have h1 := (hwf b_ps k_ps hat_ps.blk).2.2; have h2 := hat_ps.len; omega
  obtain ⟨hl, h⟩ := h
  have hl1 : (64 : Int) * (ps.length : Int) ≤ 140737488355328 := by omega
  have hl2 : (ps.length : Int) ≤ 140737488355328 := by omega
  have hl3 : (ps.length : Int) * 64 ≤ 140737488355328 := by omega
  simp (config := {contextual := true, implicitDefEqProofs := false, maxSteps := 60000}) [-Int.not_le, -Int.not_lt, argsF, laws_toPostmarkS_c, hat_ps.blk, hat_ps.esz, hat_ps.len, hat_ps.els, hne_ps, hne1_ps, hne2_ps.1, hne2_ps.2.1, hne2_ps.2.2.1, hne2_ps.2.2.2.1, hne2_ps.2.2.2.2.1, hne2_ps.2.2.2.2.2.1, hne2_ps.2.2.2.2.2.2.1, hne2_ps.2.2.2.2.2.2.2.1, hne2_ps.2.2.2.2.2.2.2.2.1, hne2_ps.2.2.2.2.2.2.2.2.2.1, hne2_ps.2.2.2.2.2.2.2.2.2.2, hl1, hl2, hl3]
  have hzo : ∀ j, ∀ e ∈ upd (ps.map ePoB.cells) (List.replicate ps.length [.int .i64 0, .str [], .int .i64 0, .int .i64 0, .int .i64 0, .str []]) j, ∀ x ∈ e, x.okR some H.n := fun j => plain_ok fun e he => by
    rcases List.mem_append.1 he with he | he
    · obtain ⟨p, _, rfl⟩ := List.mem_map.1 (List.mem_of_mem_take he); rfl
    · rw [(List.mem_replicate.1 (List.mem_of_mem_drop he)).2]; rfl
  have hul : (ps.map ePoB.cells).length = (List.replicate ps.length ([.int .i64 0, .str [], .int .i64 0, .int .i64 0, .int .i64 0, .str []] : List AC)).length := by simp
  have hu0 : H.push ⟨26, 6, false, false, List.replicate ps.length [.int .i64 0, .str [], .int .i64 0, .int .i64 0, .int .i64 0, .str []]⟩ = H.push ⟨26, 6, false, false, upd (ps.map ePoB.cells) (List.replicate ps.length [.int .i64 0, .str [], .int .i64 0, .int .i64 0, .int .i64 0, .str []]) 0⟩ := by rw [upd_0]
  rw [hu0]
  have hend : upd (ps.map ePoB.cells) (List.replicate ps.length [.int .i64 0, .str [], .int .i64 0, .int .i64 0, .int .i64 0, .str []]) ps.length = ps.map ePoB.cells := by have := upd_all hul; simpa using this
  refine aloop_list ps (fun j _ => [(0, .c (.sl b_ps i_ps ps.length)), (3, .c (.sl (H.n) (0) (ps.length))), (4, .c (.int .i64 (j)))]) (fun j _ => H.push ⟨26, 6, false, false, (upd (ps.map ePoB.cells) (List.replicate ps.length [.int .i64 0, .str [], .int .i64 0, .int .i64 0, .int .i64 0, .str []]) j)⟩) (fun j l _ => True) hE _ (()) (trivial) (.one (c := some (H.n)) hwf (by (repeat first | exact Sub.refl _ | refine Sub.push hwf ?_ _ | refine Sub.set hwf ?_ (by first | exact Nat.le_refl _ | omega) _ | refine Sub.kill hwf ?_ (by first | exact Nat.le_refl _ | omega))) ⟨by omega, by simp [push_b, set_b, kill_b, rowK]; done⟩ ( hzo 0) (by simp [frOk, AV.okR, AV.ok1, AC.okR, AV.ren, AV.ren1, AC.ren, AFrame.get, pl1_old, *]; first | done | omega)) (fun j _ hlt hi => ?_) fun _ hi => ?_
  ·
    have e1 := hat_ps.get hlt
    have hj1 := idx_lt hlt
    have w1 : IntKind.i64.wrap ((j : Int) + 1) = (j : Int) + 1 := wrap_id (by omega) (by omega)
    have eg := upd_get hul (j := j) (by simpa using hlt)
    simp only [List.getElem_replicate] at eg
    have eg2 : ∀ h, (upd (ps.map ePoB.cells) (List.replicate ps.length [.int .i64 0, .str [], .int .i64 0, .int .i64 0, .int .i64 0, .str []]) j)[j]'h = [.int .i64 0, .str [], .int .i64 0, .int .i64 0, .int .i64 0, .str []] := fun h => by rw [List.getElem?_eq_getElem h] at eg; simpa using eg
    clear eg
    have el := upd_len hul (j := j) (by simp; omega)
    simp only [List.length_replicate] at el
    have es := upd_set hul (j := j) (by simpa using hlt) (x := ePoB.cells ps[j]) (by simp [hlt])
    rw [ePoB_cells] at es
    simp (config := {contextual := true, implicitDefEqProofs := false, maxSteps := 60000}) [-Int.not_le, -Int.not_lt, argsF, laws_toPostmarkS_l0, hat_ps.blk, hat_ps.esz, hat_ps.len, hat_ps.els, hne_ps, hne1_ps, hne2_ps.1, hne2_ps.2.1, hne2_ps.2.2.1, hne2_ps.2.2.2.1, hne2_ps.2.2.2.2.1, hne2_ps.2.2.2.2.2.1, hne2_ps.2.2.2.2.2.2.1, hne2_ps.2.2.2.2.2.2.2.1, hne2_ps.2.2.2.2.2.2.2.2.1, hne2_ps.2.2.2.2.2.2.2.2.2.1, hne2_ps.2.2.2.2.2.2.2.2.2.2, e1, hj1, w1, el, es, eg2, hlt]
    exact ⟨(), trivial, .one (c := some (H.n)) hwf (by (repeat first | exact Sub.refl _ | refine Sub.push hwf ?_ _ | refine Sub.set hwf ?_ (by first | exact Nat.le_refl _ | omega) _ | refine Sub.kill hwf ?_ (by first | exact Nat.le_refl _ | omega))) ⟨by omega, by simp [push_b, set_b, kill_b, rowK]; done⟩ ( hzo (j + 1)) (by simp [frOk, AV.okR, AV.ok1, AC.okR, AV.ren, AV.ren1, AC.ren, AFrame.get, pl1_old, *]; first | done | omega)⟩
  ·
    simp (config := {contextual := true, implicitDefEqProofs := false, maxSteps := 60000}) [-Int.not_le, -Int.not_lt, argsF, laws_toPostmarkS_l0, hat_ps.blk, hat_ps.esz, hat_ps.len, hat_ps.els, hne_ps, hne1_ps, hne2_ps.1, hne2_ps.2.1, hne2_ps.2.2.1, hne2_ps.2.2.2.1, hne2_ps.2.2.2.2.1, hne2_ps.2.2.2.2.2.1, hne2_ps.2.2.2.2.2.2.1, hne2_ps.2.2.2.2.2.2.2.1, hne2_ps.2.2.2.2.2.2.2.2.1, hne2_ps.2.2.2.2.2.2.2.2.2.1, hne2_ps.2.2.2.2.2.2.2.2.2.2]
    rw [hend]
    exact (.one (c := some (H.n)) hwf (by (repeat first | exact Sub.refl _ | refine Sub.push hwf ?_ _ | refine Sub.set hwf ?_ (by first | exact Nat.le_refl _ | omega) _ | refine Sub.kill hwf ?_ (by first | exact Nat.le_refl _ | omega))) ⟨by omega, by simp [push_b, set_b, kill_b, rowK]; done⟩ (plain_map (fun _ => rfl) _) (by simp [frOk, AV.okR, AV.ok1, AC.okR, AV.ren, AV.ren1, AC.ren, AFrame.get, pl1_old, *]; first | done | omega) h)

def q_toSB : Con := fun args H K => match args with
  | [ps_v] => ePoB.rd H (fun ps => ps.length ≤ 1048576 ∧ K (.c (.sl (H.n) (0) ((unB ps).length))) (H.push (rowK ePo 26 (unB ps)))) ps_v
  | _ => False
@[simp ↓] theorem q_toSB_eq (ps_v : AV) (H : AHeap) (K : AV → AHeap → Prop) : q_toSB [ps_v] H K = (ePoB.rd H (fun ps => ps.length ≤ 1048576 ∧ K (.c (.sl (H.n) (0) ((unB ps).length))) (H.push (rowK ePo 26 (unB ps)))) ps_v) := rfl

theorem laws_toPostmarkSB_s : Sound Tryd.prog 23 q_toSB := by
  intro args H K h
  refine laws_toPostmarkS_s args H K ?_
  unfold q_toSB at h
  unfold q_toSPostmark
  split at h
  rotate_left
  · exact h.elim
  simp only [unB_len, ← rowB] at h
  exact h

def q_eqPostmark : Con := fun args H K => match args with
  | [.agg p_e, .agg r_e] => onv (ePo.dec p_e) fun p => onv (ePo.dec r_e) fun r => K (.c (.bool (decide (p = r)))) H
  | _ => False
@[simp ↓] theorem q_eqPostmark_eq (p_e : List AC) (r_e : List AC) (H : AHeap) (K : AV → AHeap → Prop) : q_eqPostmark [.agg p_e, .agg r_e] H K = (onv (ePo.dec p_e) fun p => onv (ePo.dec r_e) fun r => K (.c (.bool (decide (p = r)))) H) := rfl

theorem laws_eqPostmark_s : Sound Tryd.prog 65 q_eqPostmark := by
  intro args H K h
  unfold q_eqPostmark at h
  split at h
  rotate_left
  all_goals first | exact False.elim h | skip
  rename_i p_e r_e
  have h1 := onv_iff.1 h
  clear h
  obtain ⟨p, hd_p, h⟩ := h1
  obtain rfl := ePo.cd _ _ hd_p
  clear hd_p
  have h1 := onv_iff.1 h
  clear h
  obtain ⟨r, hd_r, h⟩ := h1
  obtain rfl := ePo.cd _ _ hd_r
  clear hd_r
  have hE := soundE_nil (P := Tryd.prog)
  refine acalls_fn laws_eqPostmark_k hE ⟨by simp, fun hwf => ?_⟩
  simp (config := {contextual := true, implicitDefEqProofs := false, maxSteps := 2000000}) [-Int.not_le, -Int.not_lt, argsF, laws_eqPostmark_c]
  repeat' (refine ite_i (fun _ => ?_) (fun _ => ?_))
  · have hd : p = r := by cases p; cases r; simp_all
    rw [decide_eq_true hd] at h
    (refine Out.plain hwf ?_ rfl ?_; (repeat first | exact Sub.refl _ | refine Sub.push hwf ?_ _ | refine Sub.set hwf ?_ (by first | exact Nat.le_refl _ | omega) _ | refine Sub.kill hwf ?_ (by first | exact Nat.le_refl _ | omega))); exact h
  all_goals
    have hd : decide (p = r) = false := decide_eq_false (fun e => by subst e; contradiction)
    rw [hd] at h
    (refine Out.plain hwf ?_ rfl ?_; (repeat first | exact Sub.refl _ | refine Sub.push hwf ?_ _ | refine Sub.set hwf ?_ (by first | exact Nat.le_refl _ | omega) _ | refine Sub.kill hwf ?_ (by first | exact Nat.le_refl _ | omega))); exact h

def q_eqSPostmark : Con := fun args H K => match args with
  | [ps_v, rs_v] => ePo.rd H (fun ps => ePo.rd H (fun rs => K (.c (.bool (decide (ps = rs)))) H) rs_v) ps_v
  | _ => False
@[simp ↓] theorem q_eqSPostmark_eq (ps_v : AV) (rs_v : AV) (H : AHeap) (K : AV → AHeap → Prop) : q_eqSPostmark [ps_v, rs_v] H K = (ePo.rd H (fun ps => ePo.rd H (fun rs => K (.c (.bool (decide (ps = rs)))) H) rs_v) ps_v) := rfl

theorem laws_eqPostmarkS_s : Sound Tryd.prog 25 q_eqSPostmark := by
  intro args H K h
  unfold q_eqSPostmark at h
  split at h
  rotate_left
  all_goals first | exact False.elim h | skip
  rename_i ps_v rs_v
  have h1 := Enc.rd_at h
  clear h
  obtain ⟨b_ps, i_ps, k_ps, ps, rfl, hat_ps, h⟩ := h1
  have h1 := Enc.rd_at h
  clear h
  obtain ⟨b_rs, i_rs, k_rs, rs, rfl, hat_rs, h⟩ := h1
  have hE := soundE_cons laws_eqPostmark_s (soundE_nil (P := Tryd.prog))
  refine acalls_fn laws_eqPostmarkS_k hE ⟨by simp, fun hwf => ?_⟩
  have hb_ps : b_ps < H.n := (hwf b_ps k_ps hat_ps.blk).1
  have hne_ps : (b_ps = H.n) = False := eq_false (by omega)
  have hne1_ps : ∀ i, (b_ps = H.n + i) = False := fun i => eq_false (by omega)
  have hne2_ps : (b_ps = H.n + 1 + 1) = False ∧ (b_ps = H.n + 1 + 1 + 1) = False ∧ (b_ps = H.n + 1 + 1 + 1 + 1) = False ∧ (b_ps = H.n + 1 + 1 + 1 + 1 + 1) = False ∧ (b_ps = H.n + 1 + 1 + 1 + 1 + 1 + 1) = False ∧ (b_ps = H.n + 1 + 1 + 1 + 1 + 1 + 1 + 1) = False ∧ (b_ps = H.n + 1 + 1 + 1 + 1 + 1 + 1 + 1 + 1) = False ∧ (b_ps = H.n + 1 + 1 + 1 + 1 + 1 + 1 + 1 + 1 + 1) = False ∧ (b_ps = H.n + 1 + 1 + 1 + 1 + 1 + 1 + 1 + 1 + 1 + 1) = False ∧ (b_ps = H.n + 1 + 1 + 1 + 1 + 1 + 1 + 1 + 1 + 1 + 1 + 1) = False ∧ (b_ps = H.n + 1 + 1 + 1 + 1 + 1 + 1 + 1 + 1 + 1 + 1 + 1 + 1) = False := ⟨eq_false (by omega), eq_false (by omega), eq_false (by omega), eq_false (by omega), eq_false (by omega), eq_false (by omega), eq_false (by omega), eq_false (by omega), eq_false (by omega), eq_false (by omega), eq_false (by omega)⟩
  have hmx_ps : ps.length ≤ 9223372036854775807 := by have h1 := (hwf b_ps k_ps hat_ps.blk).2.2; have h2 := hat_ps.len; omega
  have hb_rs : b_rs < H.n := (hwf b_rs k_rs hat_rs.blk).1
  have hne_rs : (b_rs = H.n) = False := eq_false (by omega)
  have hne1_rs : ∀ i, (b_rs = H.n + i) = False := fun i => eq_false (by omega)
  have hne2_rs : (b_rs = H.n + 1 + 1) = False ∧ (b_rs = H.n + 1 + 1 + 1) = False ∧ (b_rs = H.n + 1 + 1 + 1 + 1) = False ∧ (b_rs = H.n + 1 + 1 + 1 + 1 + 1) = False ∧ (b_rs = H.n + 1 + 1 + 1 + 1 + 1 + 1) = False ∧ (b_rs = H.n + 1 + 1 + 1 + 1 + 1 + 1 + 1) = False ∧ (b_rs = H.n + 1 + 1 + 1 + 1 + 1 + 1 + 1 + 1) = False ∧ (b_rs = H.n + 1 + 1 + 1 + 1 + 1 + 1 + 1 + 1 + 1) = False ∧ (b_rs = H.n + 1 + 1 + 1 + 1 + 1 + 1 + 1 + 1 + 1 + 1) = False ∧ (b_rs = H.n + 1 + 1 + 1 + 1 + 1 + 1 + 1 + 1 + 1 + 1 + 1) = False ∧ (b_rs = H.n + 1 + 1 + 1 + 1 + 1 + 1 + 1 + 1 + 1 + 1 + 1 + 1) = False := ⟨eq_false (by omega), eq_false (by omega), eq_false (by omega), eq_false (by omega), eq_false (by omega), eq_false (by omega), eq_false (by omega), eq_false (by omega), eq_false (by omega), eq_false (by omega), eq_false (by omega)⟩
  have hmx_rs : rs.length ≤ 9223372036854775807 := by have h1 := (hwf b_rs k_rs hat_rs.blk).2.2; have h2 := hat_rs.len; omega
  simp (config := {contextual := true, implicitDefEqProofs := false, maxSteps := 60000}) [-Int.not_le, -Int.not_lt, argsF, laws_eqPostmarkS_c, hat_ps.blk, hat_ps.esz, hat_ps.len, hat_ps.els, hne_ps, hne1_ps, hne2_ps.1, hne2_ps.2.1, hne2_ps.2.2.1, hne2_ps.2.2.2.1, hne2_ps.2.2.2.2.1, hne2_ps.2.2.2.2.2.1, hne2_ps.2.2.2.2.2.2.1, hne2_ps.2.2.2.2.2.2.2.1, hne2_ps.2.2.2.2.2.2.2.2.1, hne2_ps.2.2.2.2.2.2.2.2.2.1, hne2_ps.2.2.2.2.2.2.2.2.2.2, hat_rs.blk, hat_rs.esz, hat_rs.len, hat_rs.els, hne_rs, hne1_rs, hne2_rs.1, hne2_rs.2.1, hne2_rs.2.2.1, hne2_rs.2.2.2.1, hne2_rs.2.2.2.2.1, hne2_rs.2.2.2.2.2.1, hne2_rs.2.2.2.2.2.2.1, hne2_rs.2.2.2.2.2.2.2.1, hne2_rs.2.2.2.2.2.2.2.2.1, hne2_rs.2.2.2.2.2.2.2.2.2.1, hne2_rs.2.2.2.2.2.2.2.2.2.2]
  split
  · rename_i hlen
    refine aloop_list ps (fun j _ => [(0, .c (.sl b_ps i_ps ps.length)), (1, .c (.sl b_rs i_rs rs.length)), (5, .c (.int .i64 (j)))]) (fun j _ => H) (fun j l _ => K (.c (.bool (decide (l = rs.drop j)))) H) hE _ (()) (by simpa using h) (.same hwf (by simp [frOk, AV.okR, AV.ok1, AC.okR, AV.ren, AV.ren1, AC.ren, AFrame.get, pl1_old, *]; first | done | omega)) (fun j _ hlt hi => ?_) fun _ hi => ?_
    ·
      have e1 := hat_ps.get hlt
      have hj1 := idx_lt hlt
      have w1 : IntKind.i64.wrap ((j : Int) + 1) = (j : Int) + 1 := wrap_id (by omega) (by omega)
      have hr : j < rs.length := by omega
      have hr1 := idx_lt hr
      have e2 := hat_rs.get hr
      rw [List.drop_eq_getElem_cons hr] at hi
      simp (config := {contextual := true, implicitDefEqProofs := false, maxSteps := 60000}) [-Int.not_le, -Int.not_lt, argsF, laws_eqPostmarkS_l0, hat_rs.blk, hat_rs.esz, hat_rs.len, hat_rs.els, hne_rs, hne1_rs, hne2_rs.1, hne2_rs.2.1, hne2_rs.2.2.1, hne2_rs.2.2.2.1, hne2_rs.2.2.2.2.1, hne2_rs.2.2.2.2.2.1, hne2_rs.2.2.2.2.2.2.1, hne2_rs.2.2.2.2.2.2.2.1, hne2_rs.2.2.2.2.2.2.2.2.1, hne2_rs.2.2.2.2.2.2.2.2.2.1, hne2_rs.2.2.2.2.2.2.2.2.2.2, hat_ps.blk, hat_ps.esz, hat_ps.len, hat_ps.els, hne_ps, hne1_ps, hne2_ps.1, hne2_ps.2.1, hne2_ps.2.2.1, hne2_ps.2.2.2.1, hne2_ps.2.2.2.2.1, hne2_ps.2.2.2.2.2.1, hne2_ps.2.2.2.2.2.2.1, hne2_ps.2.2.2.2.2.2.2.1, hne2_ps.2.2.2.2.2.2.2.2.1, hne2_ps.2.2.2.2.2.2.2.2.2.1, hne2_ps.2.2.2.2.2.2.2.2.2.2, e1, hj1, w1, hr, hr1, e2]
      simp only [List.cons.injEq] at hi
      repeat' split
      all_goals simp only [*, true_and, false_and, decide_false] at hi
      all_goals first | ((refine Out.plain hwf ?_ rfl ?_; (repeat first | exact Sub.refl _ | refine Sub.push hwf ?_ _ | refine Sub.set hwf ?_ (by first | exact Nat.le_refl _ | omega) _ | refine Sub.kill hwf ?_ (by first | exact Nat.le_refl _ | omega))); simpa using hi) | exact ⟨(), hi, .drop hwf (by (repeat first | exact Sub.refl _ | refine Sub.push hwf ?_ _ | refine Sub.set hwf ?_ (by first | exact Nat.le_refl _ | omega) _ | refine Sub.kill hwf ?_ (by first | exact Nat.le_refl _ | omega))) (by simp [frOk, AV.okR, AV.ok1, AC.okR, AV.ren, AV.ren1, AC.ren, AFrame.get, pl1_old, *]; first | done | omega)⟩
    ·
      simp (config := {contextual := true, implicitDefEqProofs := false, maxSteps := 60000}) [-Int.not_le, -Int.not_lt, argsF, laws_eqPostmarkS_l0, hat_rs.blk, hat_rs.esz, hat_rs.len, hat_rs.els, hne_rs, hne1_rs, hne2_rs.1, hne2_rs.2.1, hne2_rs.2.2.1, hne2_rs.2.2.2.1, hne2_rs.2.2.2.2.1, hne2_rs.2.2.2.2.2.1, hne2_rs.2.2.2.2.2.2.1, hne2_rs.2.2.2.2.2.2.2.1, hne2_rs.2.2.2.2.2.2.2.2.1, hne2_rs.2.2.2.2.2.2.2.2.2.1, hne2_rs.2.2.2.2.2.2.2.2.2.2, hat_ps.blk, hat_ps.esz, hat_ps.len, hat_ps.els, hne_ps, hne1_ps, hne2_ps.1, hne2_ps.2.1, hne2_ps.2.2.1, hne2_ps.2.2.2.1, hne2_ps.2.2.2.2.1, hne2_ps.2.2.2.2.2.1, hne2_ps.2.2.2.2.2.2.1, hne2_ps.2.2.2.2.2.2.2.1, hne2_ps.2.2.2.2.2.2.2.2.1, hne2_ps.2.2.2.2.2.2.2.2.2.1, hne2_ps.2.2.2.2.2.2.2.2.2.2]
      rw [show ps.length = rs.length by omega, List.drop_length] at hi
      (refine Out.plain hwf ?_ rfl ?_; (repeat first | exact Sub.refl _ | refine Sub.push hwf ?_ _ | refine Sub.set hwf ?_ (by first | exact Nat.le_refl _ | omega) _ | refine Sub.kill hwf ?_ (by first | exact Nat.le_refl _ | omega))); simpa using hi
  · rename_i hlen
    (refine Out.plain hwf ?_ rfl ?_; (repeat first | exact Sub.refl _ | refine Sub.push hwf ?_ _ | refine Sub.set hwf ?_ (by first | exact Nat.le_refl _ | omega) _ | refine Sub.kill hwf ?_ (by first | exact Nat.le_refl _ | omega)))
    rwa [decide_eq_false (fun e => hlen (by rw [e]))] at h

def mkPostmark (k : Int) : Po := ⟨k, markT (k + 1), k + 1 + 1, k + 1 + 1 + 1, k + 1 + 1 + 1 + 1, markT (k + 1 + 1 + 1 + 1 + 1)⟩
def mksPostmark : Nat → Int → List Po
  | 0, _ => []
  | n + 1, k => mkPostmark k :: mksPostmark n (k + 1 + 1 + 1 + 1 + 1 + 1)
@[simp] theorem mksPostmark_len : ∀ (n : Nat) (k : Int), (mksPostmark n k).length = n
  | 0, _ => rfl
  | n + 1, k => by simp [mksPostmark, mksPostmark_len n]
theorem mksPostmark_get : ∀ (n : Nat) (k : Int) (j : Nat), j < n → (mksPostmark n k)[j]? = some (mkPostmark (k + 6 * (j : Int)))
  | 0, _, _, h => by omega
  | n + 1, k, 0, _ => by simp [mksPostmark]
  | n + 1, k, j + 1, h => by
    simp only [mksPostmark, List.getElem?_cons_succ]
    rw [mksPostmark_get n _ j (by omega)]
    congr 2
    push_cast
    omega
def heldPostmark : List Po → Int → Int
  | [], k => k
  | p :: r, k => if p.id = k then if p.town = markT (k + 1) then if p.kind = k + 1 + 1 then if p.first = k + 1 + 1 + 1 then if p.last = k + 1 + 1 + 1 + 1 then if p.lost = markT (k + 1 + 1 + 1 + 1 + 1) then heldPostmark r (k + 1 + 1 + 1 + 1 + 1 + 1) else -1 else -1 else -1 else -1 else -1 else -1
@[simp] theorem mksPostmark_take {β : Type} (n : Nat) (k : Int) (f : Po → β) : ((mksPostmark n k).map f).take n = (mksPostmark n k).map f := by
  rw [List.take_of_length_le]; simp
@[simp] theorem heldPostmark_mks : ∀ (n : Nat) (k : Int), heldPostmark (mksPostmark n k) k = k + 6 * (n : Int)
  | 0, k => by simp [mksPostmark, heldPostmark]
  | n + 1, k => by
    simp only [mksPostmark, heldPostmark, mkPostmark, if_true]
    rw [heldPostmark_mks n]
    push_cast
    omega
@[simp] theorem posPostmark (n : Nat) : (1 + 6 * (n : Int) < 0) = False := eq_false (by omega)

def q_heldSPostmark : Con := fun args H K => match args with
  | [ps_v, .c (.int .i64 k)] => ePo.rd H (fun ps => ps.length ≤ 1048576 ∧ 0 < k ∧ k ≤ 1099000000000 ∧ K (.c (.int .i64 (heldPostmark ps k))) H) ps_v
  | _ => False
@[simp ↓] theorem q_heldSPostmark_eq (ps_v : AV) (k : Int) (H : AHeap) (K : AV → AHeap → Prop) : q_heldSPostmark [ps_v, .c (.int .i64 k)] H K = (ePo.rd H (fun ps => ps.length ≤ 1048576 ∧ 0 < k ∧ k ≤ 1099000000000 ∧ K (.c (.int .i64 (heldPostmark ps k))) H) ps_v) := rfl

theorem laws_heldPostmarkS_s : Sound Tryd.prog 35 q_heldSPostmark := by
  intro args H K h
  unfold q_heldSPostmark at h
  split at h
  rotate_left
  all_goals first | exact False.elim h | skip
  rename_i ps_v k
  have h1 := Enc.rd_at h
  clear h
  obtain ⟨b_ps, i_ps, k_ps, ps, rfl, hat_ps, h⟩ := h1
  have hE := soundE_cons laws_markText_s (soundE_nil (P := Tryd.prog))
  refine acalls_fn laws_heldPostmarkS_k hE ⟨by simp, fun hwf => ?_⟩
  have hb_ps : b_ps < H.n := (hwf b_ps k_ps hat_ps.blk).1
  have hne_ps : (b_ps = H.n) = False := eq_false (by omega)
  have hne1_ps : ∀ i, (b_ps = H.n + i) = False := fun i => eq_false (by omega)
  have hne2_ps : (b_ps = H.n + 1 + 1) = False ∧ (b_ps = H.n + 1 + 1 + 1) = False ∧ (b_ps = H.n + 1 + 1 + 1 + 1) = False ∧ (b_ps = H.n + 1 + 1 + 1 + 1 + 1) = False ∧ (b_ps = H.n + 1 + 1 + 1 + 1 + 1 + 1) = False ∧ (b_ps = H.n + 1 + 1 + 1 + 1 + 1 + 1 + 1) = False ∧ (b_ps = H.n + 1 + 1 + 1 + 1 + 1 + 1 + 1 + 1) = False ∧ (b_ps = H.n + 1 + 1 + 1 + 1 + 1 + 1 + 1 + 1 + 1) = False ∧ (b_ps = H.n + 1 + 1 + 1 + 1 + 1 + 1 + 1 + 1 + 1 + 1) = False ∧ (b_ps = H.n + 1 + 1 + 1 + 1 + 1 + 1 + 1 + 1 + 1 + 1 + 1) = False ∧ (b_ps = H.n + 1 + 1 + 1 + 1 + 1 + 1 + 1 + 1 + 1 + 1 + 1 + 1) = False := ⟨eq_false (by omega), eq_false (by omega), eq_false (by omega), eq_false (by omega), eq_false (by omega), eq_false (by omega), eq_false (by omega), eq_false (by omega), eq_false (by omega), eq_false (by omega), eq_false (by omega)⟩
  have hmx_ps : ps.length ≤ 9223372036854775807 := by have h1 := (hwf b_ps k_ps hat_ps.blk).2.2; have h2 := hat_ps.len; omega
  obtain ⟨hl, hk1, hk2, h⟩ := h
  simp (config := {contextual := true, implicitDefEqProofs := false, maxSteps := 60000}) [-Int.not_le, -Int.not_lt, argsF, laws_heldPostmarkS_c, hat_ps.blk, hat_ps.esz, hat_ps.len, hat_ps.els, hne_ps, hne1_ps, hne2_ps.1, hne2_ps.2.1, hne2_ps.2.2.1, hne2_ps.2.2.2.1, hne2_ps.2.2.2.2.1, hne2_ps.2.2.2.2.2.1, hne2_ps.2.2.2.2.2.2.1, hne2_ps.2.2.2.2.2.2.2.1, hne2_ps.2.2.2.2.2.2.2.2.1, hne2_ps.2.2.2.2.2.2.2.2.2.1, hne2_ps.2.2.2.2.2.2.2.2.2.2]
  refine aloop_list ps (fun j k => [(0, .c (.sl b_ps i_ps ps.length)), (1, .c (.int .i64 (k))), (5, .c (.int .i64 (j)))]) (fun j k => H) (fun j l k => (0 < k ∧ k ≤ 1099000000000 + 6 * (j : Int)) ∧ K (.c (.int .i64 (heldPostmark l k))) H) hE _ (k) (⟨by omega, h⟩) (.same hwf (by simp [frOk, AV.okR, AV.ok1, AC.okR, AV.ren, AV.ren1, AC.ren, AFrame.get, pl1_old, *]; first | done | omega)) (fun j k hlt hi => ?_) fun k hi => ?_
  ·
    have e1 := hat_ps.get hlt
    have hj1 := idx_lt hlt
    have w1 : IntKind.i64.wrap ((j : Int) + 1) = (j : Int) + 1 := wrap_id (by omega) (by omega)
    obtain ⟨hs, hi⟩ := hi
    obtain ⟨hs1, hs2⟩ := hs
    have wk1 : IntKind.i64.wrap (k + 1) = k + 1 := wrap_id (by omega) (by omega)
    have wk2 : IntKind.i64.wrap (k + 1 + 1) = k + 1 + 1 := wrap_id (by omega) (by omega)
    have wk3 : IntKind.i64.wrap (k + 1 + 1 + 1) = k + 1 + 1 + 1 := wrap_id (by omega) (by omega)
    have wk4 : IntKind.i64.wrap (k + 1 + 1 + 1 + 1) = k + 1 + 1 + 1 + 1 := wrap_id (by omega) (by omega)
    have wk5 : IntKind.i64.wrap (k + 1 + 1 + 1 + 1 + 1) = k + 1 + 1 + 1 + 1 + 1 := wrap_id (by omega) (by omega)
    have wk6 : IntKind.i64.wrap (k + 1 + 1 + 1 + 1 + 1 + 1) = k + 1 + 1 + 1 + 1 + 1 + 1 := wrap_id (by omega) (by omega)
    have gt1 : 0 < k + 1 := by omega
    have gu1 : k + 1 ≤ 1099511627776 := by omega
    have gt5 : 0 < k + 1 + 1 + 1 + 1 + 1 := by omega
    have gu5 : k + 1 + 1 + 1 + 1 + 1 ≤ 1099511627776 := by omega
    simp (config := {contextual := true, implicitDefEqProofs := false, maxSteps := 60000}) [-Int.not_le, -Int.not_lt, argsF, laws_heldPostmarkS_l0, hat_ps.blk, hat_ps.esz, hat_ps.len, hat_ps.els, hne_ps, hne1_ps, hne2_ps.1, hne2_ps.2.1, hne2_ps.2.2.1, hne2_ps.2.2.2.1, hne2_ps.2.2.2.2.1, hne2_ps.2.2.2.2.2.1, hne2_ps.2.2.2.2.2.2.1, hne2_ps.2.2.2.2.2.2.2.1, hne2_ps.2.2.2.2.2.2.2.2.1, hne2_ps.2.2.2.2.2.2.2.2.2.1, hne2_ps.2.2.2.2.2.2.2.2.2.2, e1, hj1, w1, wk1, wk2, wk3, wk4, wk5, wk6, gt1, gu1, gt5, gu5]
    simp only [heldPostmark] at hi
    repeat' split
    all_goals try simp only [*, if_true, if_false, reduceCtorEq, and_self, and_true, true_and, and_false, false_and, not_true_eq_false, not_false_eq_true] at hi
    all_goals first | ((refine Out.plain hwf ?_ rfl ?_; (repeat first | exact Sub.refl _ | refine Sub.push hwf ?_ _ | refine Sub.set hwf ?_ (by first | exact Nat.le_refl _ | omega) _ | refine Sub.kill hwf ?_ (by first | exact Nat.le_refl _ | omega))); exact hi) | exact ⟨_, ⟨by push_cast; omega, hi⟩, .drop hwf (by (repeat first | exact Sub.refl _ | refine Sub.push hwf ?_ _ | refine Sub.set hwf ?_ (by first | exact Nat.le_refl _ | omega) _ | refine Sub.kill hwf ?_ (by first | exact Nat.le_refl _ | omega))) (by simp [frOk, AV.okR, AV.ok1, AC.okR, AV.ren, AV.ren1, AC.ren, AFrame.get, pl1_old, *]; first | done | omega)⟩
  ·
    obtain ⟨hs, hi⟩ := hi
    simp (config := {contextual := true, implicitDefEqProofs := false, maxSteps := 60000}) [-Int.not_le, -Int.not_lt, argsF, laws_heldPostmarkS_l0, hat_ps.blk, hat_ps.esz, hat_ps.len, hat_ps.els, hne_ps, hne1_ps, hne2_ps.1, hne2_ps.2.1, hne2_ps.2.2.1, hne2_ps.2.2.2.1, hne2_ps.2.2.2.2.1, hne2_ps.2.2.2.2.2.1, hne2_ps.2.2.2.2.2.2.1, hne2_ps.2.2.2.2.2.2.2.1, hne2_ps.2.2.2.2.2.2.2.2.1, hne2_ps.2.2.2.2.2.2.2.2.2.1, hne2_ps.2.2.2.2.2.2.2.2.2.2]
    simp only [heldPostmark] at hi
    (refine Out.plain hwf ?_ rfl ?_; (repeat first | exact Sub.refl _ | refine Sub.push hwf ?_ _ | refine Sub.set hwf ?_ (by first | exact Nat.le_refl _ | omega) _ | refine Sub.kill hwf ?_ (by first | exact Nat.le_refl _ | omega))); exact hi

def q_markSPostmark : Con := fun args H K => match args with
  | [.c (.sl b i n), .c (.int .i64 k)] => onv (H.b b) fun kb => i = 0 ∧ kb.ro = false ∧ kb.esz = ePo.n ∧ kb.els.length = n ∧ n ≤ 1048576 ∧ 0 < k ∧ k ≤ 1099000000000 ∧ onv (ePo.decL kb.els) fun _ => K (.c (.int .i64 (k + 6 * (n : Int)))) (H.set b (reK kb ((mksPostmark n k).map ePo.cells)))
  | _ => False
@[simp ↓] theorem q_markSPostmark_eq (b i n : Nat) (k : Int) (H : AHeap) (K : AV → AHeap → Prop) : q_markSPostmark [.c (.sl b i n), .c (.int .i64 k)] H K = onv (H.b b) fun kb => i = 0 ∧ kb.ro = false ∧ kb.esz = ePo.n ∧ kb.els.length = n ∧ n ≤ 1048576 ∧ 0 < k ∧ k ≤ 1099000000000 ∧ onv (ePo.decL kb.els) fun _ => K (.c (.int .i64 (k + 6 * (n : Int)))) (H.set b (reK kb ((mksPostmark n k).map ePo.cells))) := rfl

theorem laws_markPostmarkS_s : Sound Tryd.prog 34 q_markSPostmark := by
  intro args H K h
  unfold q_markSPostmark at h
  split at h
  rotate_left
  all_goals first | exact False.elim h | skip
  rename_i b i n k
  have h1 := onv_iff.1 h
  clear h
  obtain ⟨kb, hk, rfl, hro, hesz, hlen, hl, hk1, hk2, h⟩ := h1
  have h1 := onv_iff.1 h
  clear h
  obtain ⟨ps, hp, h⟩ := h1
  have he := Enc.decL_eq ePo hp
  have hpl : ps.length = n := by rw [← hlen, he]; simp
  have hE := soundE_cons laws_markText_s (soundE_nil (P := Tryd.prog))
  refine acalls_fn laws_markPostmarkS_k hE ⟨by simp, fun hwf => ?_⟩
  have hb : b < H.n := (hwf b kb hk).1
  have hesz' : kb.esz = 6 := hesz
  have hul : ((mksPostmark n k).map ePo.cells).length = (ps.map ePo.cells).length := by simp [hpl]
  have hzo : ∀ j, ∀ e ∈ upd ((mksPostmark n k).map ePo.cells) (ps.map ePo.cells) j, ∀ x ∈ e, x.okR some H.n := fun j => plain_ok fun e he => by
    rcases List.mem_append.1 he with he | he
    · obtain ⟨p, _, rfl⟩ := List.mem_map.1 (List.mem_of_mem_take he); rfl
    · obtain ⟨p, _, rfl⟩ := List.mem_map.1 (List.mem_of_mem_drop he); rfl
  have hwf' : ∀ j, j ≤ n → (H.set b (reK kb (upd ((mksPostmark n k).map ePo.cells) (ps.map ePo.cells) j))).WF := fun j hj => WF.set hwf hk (hzo j) (by
    have := upd_len hul (j := j) (by simpa [hpl] using hj)
    rw [reK_els, this]; simp; omega)
  have hW : ∀ F, frOk some H.n F F → Weak H.n F H F (H.set b (reK kb (upd ((mksPostmark n k).map ePo.cells) (ps.map ePo.cells) 0))) := fun F hF => by
    rw [upd_0, ← he, reK_self, set_self hk]; exact .same hwf hF
  have hend : upd ((mksPostmark n k).map ePo.cells) (ps.map ePo.cells) ps.length = (mksPostmark n k).map ePo.cells := by have := upd_all hul; simpa using this
  simp (config := {contextual := true, implicitDefEqProofs := false, maxSteps := 60000}) [-Int.not_le, -Int.not_lt, argsF, laws_markPostmarkS_c]
  refine aloop_list ps (fun j s => [(0, .c (.sl (b) (0) (n))), (1, .c (.int .i64 (s))), (5, .c (.int .i64 (j)))]) (fun j s => H.set b (reK kb (upd ((mksPostmark n k).map ePo.cells) (ps.map ePo.cells) j))) (fun j l s => s = k + 6 * (j : Int)) hE _ k (by simp) (hW _ (by simp [frOk, AV.okR, AV.ok1, AC.okR, AV.ren, AV.ren1, AC.ren, AFrame.get, pl1_old, *]; first | done | omega)) (fun j s hlt hi => ?_) fun s hi => ?_
  · have hj : j < n := by omega
    have hj1 := idx_lt hj
    have w1 : IntKind.i64.wrap ((j : Int) + 1) = (j : Int) + 1 := wrap_id (by omega) (by omega)
    have eg := upd_get hul (j := j) (by simpa using hlt)
    simp only [List.getElem_map, ePo_cells] at eg
    have el := upd_len hul (j := j) (by simp; omega)
    simp only [List.length_map, hpl] at el
    have eg2 : ∀ h, (upd ((mksPostmark n k).map ePo.cells) (ps.map ePo.cells) j)[j]'h = ePo.cells ps[j] := fun h => by rw [List.getElem?_eq_getElem h] at eg; simpa using eg
    simp only [ePo_cells] at eg2
    have es := upd_set hul (j := j) (by simpa using hlt) (x := ePo.cells (mkPostmark s)) (by rw [List.getElem?_map, mksPostmark_get n k j hj, hi]; rfl)
    simp only [ePo_cells, mkPostmark] at es
    have wk1 : IntKind.i64.wrap (s + 1) = s + 1 := wrap_id (by omega) (by omega)
    have wk2 : IntKind.i64.wrap (s + 1 + 1) = s + 1 + 1 := wrap_id (by omega) (by omega)
    have wk3 : IntKind.i64.wrap (s + 1 + 1 + 1) = s + 1 + 1 + 1 := wrap_id (by omega) (by omega)
    have wk4 : IntKind.i64.wrap (s + 1 + 1 + 1 + 1) = s + 1 + 1 + 1 + 1 := wrap_id (by omega) (by omega)
    have wk5 : IntKind.i64.wrap (s + 1 + 1 + 1 + 1 + 1) = s + 1 + 1 + 1 + 1 + 1 := wrap_id (by omega) (by omega)
    have wk6 : IntKind.i64.wrap (s + 1 + 1 + 1 + 1 + 1 + 1) = s + 1 + 1 + 1 + 1 + 1 + 1 := wrap_id (by omega) (by omega)
    have gt1 : 0 < s + 1 := by omega
    have gu1 : s + 1 ≤ 1099511627776 := by omega
    have gt5 : 0 < s + 1 + 1 + 1 + 1 + 1 := by omega
    have gu5 : s + 1 + 1 + 1 + 1 + 1 ≤ 1099511627776 := by omega
    simp (config := {contextual := true, implicitDefEqProofs := false, maxSteps := 60000}) [-Int.not_le, -Int.not_lt, argsF, laws_markPostmarkS_l0, hb, hj, hj1, w1, hro, hesz, hlen, hk, eg2, el, es, reK_full hro hesz', wk1, wk2, wk3, wk4, wk5, wk6, gt1, gu1, gt5, gu5]
    exact ⟨s + 1 + 1 + 1 + 1 + 1 + 1, by push_cast; omega, .same (H := H.set b _) (hwf' (j + 1) (by omega)) (by simp [frOk, AV.okR, AV.ok1, AC.okR, AV.ren, AV.ren1, AC.ren, AFrame.get, pl1_old, *]; first | done | omega)⟩
  · have hj1 : ¬ ((ps.length : Int) < (n : Int)) := by omega
    simp (config := {contextual := true, implicitDefEqProofs := false, maxSteps := 60000}) [-Int.not_le, -Int.not_lt, argsF, laws_markPostmarkS_l0, hj1]
    have hs : s = k + 6 * (n : Int) := by rw [hi, hpl]
    rw [hs, hend]
    exact .old (H := H.set b _) (by rw [← hend]; exact hwf' _ (by omega)) (.refl _) (by simp [frOk, AV.okR, AV.ok1, AC.okR, AV.ren, AV.ren1, AC.ren, AFrame.get, pl1_old, *]; first | done | omega) h

def q_szPos : Con := fun args H K => match args with
  | [ps_v, .c (.int .i64 l)] => ePoB.rd H (fun ps => 0 ≤ l ∧ l ≤ 1048576 ∧ K (.c (.int .i64 (szPos ps l))) H) ps_v
  | _ => False
@[simp ↓] theorem q_szPos_eq (ps_v : AV) (l : Int) (H : AHeap) (K : AV → AHeap → Prop) : q_szPos [ps_v, .c (.int .i64 l)] H K = (ePoB.rd H (fun ps => 0 ≤ l ∧ l ≤ 1048576 ∧ K (.c (.int .i64 (szPos ps l))) H) ps_v) := rfl

theorem laws_szPostmarkS_s : Sound Tryd.prog 21 q_szPos := by
  intro args H K h
  unfold q_szPos at h
  split at h
  rotate_left
  all_goals first | exact False.elim h | skip
  rename_i ps_v l
  have h1 := Enc.rd_at h
  clear h
  obtain ⟨b_ps, i_ps, k_ps, ps, rfl, hat_ps, h⟩ := h1
  have hE := soundE_cons laws_szPostmark_s (soundE_nil (P := Tryd.prog))
  refine acalls_fn laws_szPostmarkS_k hE ⟨by simp, fun hwf => ?_⟩
  have hb_ps : b_ps < H.n := (hwf b_ps k_ps hat_ps.blk).1
  have hne_ps : (b_ps = H.n) = False := eq_false (by omega)
  have hne1_ps : ∀ i, (b_ps = H.n + i) = False := fun i => eq_false (by omega)
  have hne2_ps : (b_ps = H.n + 1 + 1) = False ∧ (b_ps = H.n + 1 + 1 + 1) = False ∧ (b_ps = H.n + 1 + 1 + 1 + 1) = False ∧ (b_ps = H.n + 1 + 1 + 1 + 1 + 1) = False ∧ (b_ps = H.n + 1 + 1 + 1 + 1 + 1 + 1) = False ∧ (b_ps = H.n + 1 + 1 + 1 + 1 + 1 + 1 + 1) = False ∧ (b_ps = H.n + 1 + 1 + 1 + 1 + 1 + 1 + 1 + 1) = False ∧ (b_ps = H.n + 1 + 1 + 1 + 1 + 1 + 1 + 1 + 1 + 1) = False ∧ (b_ps = H.n + 1 + 1 + 1 + 1 + 1 + 1 + 1 + 1 + 1 + 1) = False ∧ (b_ps = H.n + 1 + 1 + 1 + 1 + 1 + 1 + 1 + 1 + 1 + 1 + 1) = False ∧ (b_ps = H.n + 1 + 1 + 1 + 1 + 1 + 1 + 1 + 1 + 1 + 1 + 1 + 1) = False := ⟨eq_false (by omega), eq_false (by omega), eq_false (by omega), eq_false (by omega), eq_false (by omega), eq_false (by omega), eq_false (by omega), eq_false (by omega), eq_false (by omega), eq_false (by omega), eq_false (by omega)⟩
  have hmx_ps : ps.length ≤ 9223372036854775807 := by have h1 := (hwf b_ps k_ps hat_ps.blk).2.2; have h2 := hat_ps.len; omega
  obtain ⟨hl1, hl2, h⟩ := h
  have hw : IntKind.i64.wrap (l - (ps.length : Int)) = l - (ps.length : Int) := wrap_id (by omega) (by omega)
  simp (config := {contextual := true, implicitDefEqProofs := false, maxSteps := 60000}) [-Int.not_le, -Int.not_lt, argsF, laws_szPostmarkS_c, hat_ps.blk, hat_ps.esz, hat_ps.len, hat_ps.els, hne_ps, hne1_ps, hne2_ps.1, hne2_ps.2.1, hne2_ps.2.2.1, hne2_ps.2.2.2.1, hne2_ps.2.2.2.2.1, hne2_ps.2.2.2.2.2.1, hne2_ps.2.2.2.2.2.2.1, hne2_ps.2.2.2.2.2.2.2.1, hne2_ps.2.2.2.2.2.2.2.2.1, hne2_ps.2.2.2.2.2.2.2.2.2.1, hne2_ps.2.2.2.2.2.2.2.2.2.2, hw]
  unfold szPos at h
  refine ite_i (fun h1 => ?_) (fun h1 => ?_)
  · rw [if_pos h1] at h; (refine Out.plain hwf ?_ rfl ?_; (repeat first | exact Sub.refl _ | refine Sub.push hwf ?_ _ | refine Sub.set hwf ?_ (by first | exact Nat.le_refl _ | omega) _ | refine Sub.kill hwf ?_ (by first | exact Nat.le_refl _ | omega))); exact h
  rw [if_neg h1] at h
  refine aloop_list ps (fun j (m : Int) => [(0, .c (.sl b_ps i_ps ps.length)), (1, .c (.int .i64 (m))), (5, .c (.int .i64 ((j : Int))))]) (fun j (m : Int) => H) (fun j r (m : Int) => 0 ≤ m ∧ m ≤ 1048576 ∧ K (.c (.int .i64 (szPoGo r m))) H) hE _ (l - (ps.length : Int)) ⟨by omega, by omega, h⟩ (.same hwf (by simp [frOk, AV.okR, AV.ok1, AC.okR, AV.ren, AV.ren1, AC.ren, AFrame.get, pl1_old, *]; first | done | omega)) (fun j m hlt hi => ?_) fun m hi => ?_
  · obtain ⟨hm1, hm2, hi⟩ := hi
    have e1 := hat_ps.get hlt
    have hj1 := idx_lt hlt
    have w1 : IntKind.i64.wrap ((j : Int) + 1) = (j : Int) + 1 := wrap_id (by omega) (by omega)
    simp (config := {contextual := true, implicitDefEqProofs := false, maxSteps := 60000}) [-Int.not_le, -Int.not_lt, argsF, laws_szPostmarkS_l0, hat_ps.blk, hat_ps.esz, hat_ps.len, hat_ps.els, hne_ps, hne1_ps, hne2_ps.1, hne2_ps.2.1, hne2_ps.2.2.1, hne2_ps.2.2.2.1, hne2_ps.2.2.2.2.1, hne2_ps.2.2.2.2.2.1, hne2_ps.2.2.2.2.2.2.1, hne2_ps.2.2.2.2.2.2.2.1, hne2_ps.2.2.2.2.2.2.2.2.1, hne2_ps.2.2.2.2.2.2.2.2.2.1, hne2_ps.2.2.2.2.2.2.2.2.2.2, e1, hj1, w1, hlt, hm1, hm2]
    simp only [szPoGo] at hi
    refine ite_i (fun h2 => ?_) (fun h2 => ?_)
    · rw [if_pos h2] at hi; (refine Out.plain hwf ?_ rfl ?_; (repeat first | exact Sub.refl _ | refine Sub.push hwf ?_ _ | refine Sub.set hwf ?_ (by first | exact Nat.le_refl _ | omega) _ | refine Sub.kill hwf ?_ (by first | exact Nat.le_refl _ | omega))); exact hi
    · rw [if_neg h2] at hi
      have := szPo_le ps[j].p (l := m) (by omega)
      exact ⟨szPo ps[j].p m, ⟨by omega, by omega, hi⟩, .drop hwf (by (repeat first | exact Sub.refl _ | refine Sub.push hwf ?_ _ | refine Sub.set hwf ?_ (by first | exact Nat.le_refl _ | omega) _ | refine Sub.kill hwf ?_ (by first | exact Nat.le_refl _ | omega))) (by simp [frOk, AV.okR, AV.ok1, AC.okR, AV.ren, AV.ren1, AC.ren, AFrame.get, pl1_old, *]; first | done | omega)⟩
  · obtain ⟨hm1, hm2, hi⟩ := hi
    simp (config := {contextual := true, implicitDefEqProofs := false, maxSteps := 60000}) [-Int.not_le, -Int.not_lt, argsF, laws_szPostmarkS_l0]
    simp only [szPoGo] at hi
    (refine Out.plain hwf ?_ rfl ?_; (repeat first | exact Sub.refl _ | refine Sub.push hwf ?_ _ | refine Sub.set hwf ?_ (by first | exact Nat.le_refl _ | omega) _ | refine Sub.kill hwf ?_ (by first | exact Nat.le_refl _ | omega))); exact hi

end Go.Proofs.YtnehhdcaknppnaaDoor
