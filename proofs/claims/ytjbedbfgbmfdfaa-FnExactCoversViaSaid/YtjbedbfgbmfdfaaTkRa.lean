/- The laws' helpers: rates. -/
import Derived.Test.YtjbedbfgbmfdfaaCoS
import Derived.Test.YtjbedbfgbmfdfaaTkI
import Derived.Test.YtjbedbfgbmfdfaaTkV
set_option maxRecDepth 8000
set_option linter.unusedSimpArgs false
set_option linter.unusedVariables false
namespace Go.Proofs.Ytjbedbfgbmfdfaa
open Go Go.RowKit

def q_toRate : Con := fun args H K => match args with
  | [.agg p_e] => onv (eRa.dec p_e) fun p => K (.agg (eRa.cells p)) H
  | _ => False
@[simp ↓] theorem q_toRate_eq (p_e : List AC) (H : AHeap) (K : AV → AHeap → Prop) : q_toRate [.agg p_e] H K = (onv (eRa.dec p_e) fun p => K (.agg (eRa.cells p)) H) := rfl

theorem laws_toRate_s : Sound Try.prog 83 q_toRate := by
  intro args H K h
  unfold q_toRate at h
  split at h
  rotate_left
  all_goals first | exact False.elim h | skip
  rename_i p_e
  have h1 := onv_iff.1 h
  clear h
  obtain ⟨p, hd_p, h⟩ := h1
  obtain rfl := eRa.cd _ _ hd_p
  clear hd_p
  have hE := soundE_nil (P := Try.prog)
  refine acalls_fn laws_toRate_k hE ⟨by simp, fun hwf => ?_⟩
  simp (config := {contextual := true, implicitDefEqProofs := false, maxSteps := 60000}) [-Int.not_le, -Int.not_lt, argsF, laws_toRate_c]
  (refine Out.plain hwf ?_ rfl ?_; (repeat first | exact Sub.refl _ | refine Sub.push hwf ?_ _ | refine Sub.set hwf ?_ (by first | exact Nat.le_refl _ | omega | (simp only [push_n, set_n, kill_n]; omega)) _ | refine Sub.kill hwf ?_ (by first | exact Nat.le_refl _ | omega | (simp only [push_n, set_n, kill_n]; omega)))); simpa using h

def q_eqRate : Con := fun args H K => match args with
  | [.agg p_e, .agg r_e] => onv (eRa.dec p_e) fun p => onv (eRa.dec r_e) fun r => K (.c (.bool (decide (p = r)))) H
  | _ => False
@[simp ↓] theorem q_eqRate_eq (p_e : List AC) (r_e : List AC) (H : AHeap) (K : AV → AHeap → Prop) : q_eqRate [.agg p_e, .agg r_e] H K = (onv (eRa.dec p_e) fun p => onv (eRa.dec r_e) fun r => K (.c (.bool (decide (p = r)))) H) := rfl

theorem laws_eqRate_s : Sound Try.prog 86 q_eqRate := by
  intro args H K h
  unfold q_eqRate at h
  split at h
  rotate_left
  all_goals first | exact False.elim h | skip
  rename_i p_e r_e
  have h1 := onv_iff.1 h
  clear h
  obtain ⟨p, hd_p, h⟩ := h1
  obtain rfl := eRa.cd _ _ hd_p
  clear hd_p
  have h1 := onv_iff.1 h
  clear h
  obtain ⟨r, hd_r, h⟩ := h1
  obtain rfl := eRa.cd _ _ hd_r
  clear hd_r
  have hE := soundE_nil (P := Try.prog)
  refine acalls_fn laws_eqRate_k hE ⟨by simp, fun hwf => ?_⟩
  simp (config := {contextual := true, implicitDefEqProofs := false, maxSteps := 60000}) [-Int.not_le, -Int.not_lt, argsF, laws_eqRate_c]
  cases p; cases r
  repeat' split
  all_goals ((refine Out.plain hwf ?_ rfl ?_; (repeat first | exact Sub.refl _ | refine Sub.push hwf ?_ _ | refine Sub.set hwf ?_ (by first | exact Nat.le_refl _ | omega | (simp only [push_n, set_n, kill_n]; omega)) _ | refine Sub.kill hwf ?_ (by first | exact Nat.le_refl _ | omega | (simp only [push_n, set_n, kill_n]; omega)))); simp_all)

def q_szSRate : Con := fun args H K => match args with
  | [.c (.sl ps_b ps_i ps), .c (.int .i64 l)] => K (.c (.int .i64 (if IntKind.i64.wrap (l - ps) < 0 then -1 else IntKind.i64.wrap (l - ps)))) H
  | _ => False
@[simp ↓] theorem q_szSRate_eq (ps_b ps_i ps : Nat) (l : Int) (H : AHeap) (K : AV → AHeap → Prop) : q_szSRate [.c (.sl ps_b ps_i ps), .c (.int .i64 l)] H K = (K (.c (.int .i64 (if IntKind.i64.wrap (l - ps) < 0 then -1 else IntKind.i64.wrap (l - ps)))) H) := rfl

theorem laws_szRateS_s : Sound Try.prog 21 q_szSRate := by
  intro args H K h
  unfold q_szSRate at h
  split at h
  rotate_left
  all_goals first | exact False.elim h | skip
  rename_i ps_b ps_i ps l
  have hE := soundE_nil (P := Try.prog)
  refine acalls_fn laws_szRateS_k hE ⟨by simp, fun hwf => ?_⟩
  simp (config := {contextual := true, implicitDefEqProofs := false, maxSteps := 60000}) [-Int.not_le, -Int.not_lt, argsF, laws_szRateS_c]
  split <;> ((refine Out.plain hwf ?_ rfl ?_; (repeat first | exact Sub.refl _ | refine Sub.push hwf ?_ _ | refine Sub.set hwf ?_ (by first | exact Nat.le_refl _ | omega | (simp only [push_n, set_n, kill_n]; omega)) _ | refine Sub.kill hwf ?_ (by first | exact Nat.le_refl _ | omega | (simp only [push_n, set_n, kill_n]; omega)))); simp_all)

def q_toSRate : Con := fun args H K => match args with
  | [ps_v] => eRa.rd H (fun ps => ps.length ≤ 1048576 ∧ K (.c (.sl (H.n) (0) (ps.length))) (H.push (rowK eRa 100 ps))) ps_v
  | _ => False
@[simp ↓] theorem q_toSRate_eq (ps_v : AV) (H : AHeap) (K : AV → AHeap → Prop) : q_toSRate [ps_v] H K = (eRa.rd H (fun ps => ps.length ≤ 1048576 ∧ K (.c (.sl (H.n) (0) (ps.length))) (H.push (rowK eRa 100 ps))) ps_v) := rfl

theorem laws_toRateS_s : Sound Try.prog 23 q_toSRate := by
  intro args H K h
  unfold q_toSRate at h
  split at h
  rotate_left
  all_goals first | exact False.elim h | skip
  rename_i ps_v
  have h1 := Enc.rd_at h
  clear h
  obtain ⟨b_ps, i_ps, k_ps, ps, rfl, hat_ps, h⟩ := h1
  have hE := soundE_cons laws_toRate_s (soundE_nil (P := Try.prog))
  refine acalls_fn laws_toRateS_k hE ⟨by simp, fun hwf => ?_⟩
  have hb_ps : b_ps < H.n := (hwf b_ps k_ps hat_ps.blk).1
  have hne_ps : (b_ps = H.n) = False := eq_false (by omega)
  have hne1_ps : ∀ i, (b_ps = H.n + i) = False := fun i => eq_false (by omega)
  have hne2_ps : (b_ps = H.n + 1 + 1) = False ∧ (b_ps = H.n + 1 + 1 + 1) = False ∧ (b_ps = H.n + 1 + 1 + 1 + 1) = False ∧ (b_ps = H.n + 1 + 1 + 1 + 1 + 1) = False ∧ (b_ps = H.n + 1 + 1 + 1 + 1 + 1 + 1) = False ∧ (b_ps = H.n + 1 + 1 + 1 + 1 + 1 + 1 + 1) = False ∧ (b_ps = H.n + 1 + 1 + 1 + 1 + 1 + 1 + 1 + 1) = False ∧ (b_ps = H.n + 1 + 1 + 1 + 1 + 1 + 1 + 1 + 1 + 1) = False ∧ (b_ps = H.n + 1 + 1 + 1 + 1 + 1 + 1 + 1 + 1 + 1 + 1) = False ∧ (b_ps = H.n + 1 + 1 + 1 + 1 + 1 + 1 + 1 + 1 + 1 + 1 + 1) = False ∧ (b_ps = H.n + 1 + 1 + 1 + 1 + 1 + 1 + 1 + 1 + 1 + 1 + 1 + 1) = False := ⟨eq_false (by omega), eq_false (by omega), eq_false (by omega), eq_false (by omega), eq_false (by omega), eq_false (by omega), eq_false (by omega), eq_false (by omega), eq_false (by omega), eq_false (by omega), eq_false (by omega)⟩
  have hmx_ps : ps.length ≤ 9223372036854775807 := by have h1 := (hwf b_ps k_ps hat_ps.blk).2.2; have h2 := hat_ps.len; omega
  obtain ⟨hl, h⟩ := h
  have hl1 : (40 : Int) * (ps.length : Int) ≤ 140737488355328 := by omega
  have hl2 : (ps.length : Int) ≤ 140737488355328 := by omega
  have hl3 : (ps.length : Int) * 40 ≤ 140737488355328 := by omega
  simp (config := {contextual := true, implicitDefEqProofs := false, maxSteps := 60000}) [-Int.not_le, -Int.not_lt, argsF, laws_toRateS_c, hat_ps.blk, hat_ps.esz, hat_ps.len, hat_ps.els, hne_ps, hne1_ps, hne2_ps.1, hne2_ps.2.1, hne2_ps.2.2.1, hne2_ps.2.2.2.1, hne2_ps.2.2.2.2.1, hne2_ps.2.2.2.2.2.1, hne2_ps.2.2.2.2.2.2.1, hne2_ps.2.2.2.2.2.2.2.1, hne2_ps.2.2.2.2.2.2.2.2.1, hne2_ps.2.2.2.2.2.2.2.2.2.1, hne2_ps.2.2.2.2.2.2.2.2.2.2, hl1, hl2, hl3]
  have hzo : ∀ j, ∀ e ∈ upd (ps.map eRa.cells) (List.replicate ps.length [.int .i64 0, .int .i64 0, .int .i64 0, .int .i64 0, .int .i64 0]) j, ∀ x ∈ e, x.okR some H.n := fun j => plain_ok fun e he => by
    rcases List.mem_append.1 he with he | he
    · obtain ⟨p, _, rfl⟩ := List.mem_map.1 (List.mem_of_mem_take he); rfl
    · rw [(List.mem_replicate.1 (List.mem_of_mem_drop he)).2]; rfl
  have hul : (ps.map eRa.cells).length = (List.replicate ps.length ([.int .i64 0, .int .i64 0, .int .i64 0, .int .i64 0, .int .i64 0] : List AC)).length := by simp
  have hu0 : H.push ⟨100, 5, false, false, List.replicate ps.length [.int .i64 0, .int .i64 0, .int .i64 0, .int .i64 0, .int .i64 0]⟩ = H.push ⟨100, 5, false, false, upd (ps.map eRa.cells) (List.replicate ps.length [.int .i64 0, .int .i64 0, .int .i64 0, .int .i64 0, .int .i64 0]) 0⟩ := by rw [upd_0]
  rw [hu0]
  have hend : upd (ps.map eRa.cells) (List.replicate ps.length [.int .i64 0, .int .i64 0, .int .i64 0, .int .i64 0, .int .i64 0]) ps.length = ps.map eRa.cells := by have := upd_all hul; simpa using this
  refine aloop_list ps (fun j _ => [(0, .c (.sl b_ps i_ps ps.length)), (3, .c (.sl (H.n) (0) (ps.length))), (4, .c (.int .i64 (j)))]) (fun j _ => H.push ⟨100, 5, false, false, (upd (ps.map eRa.cells) (List.replicate ps.length [.int .i64 0, .int .i64 0, .int .i64 0, .int .i64 0, .int .i64 0]) j)⟩) (fun j l _ => True) hE _ (()) (trivial) (.one (c := some (H.n)) hwf (by (repeat first | exact Sub.refl _ | refine Sub.push hwf ?_ _ | refine Sub.set hwf ?_ (by first | exact Nat.le_refl _ | omega | (simp only [push_n, set_n, kill_n]; omega)) _ | refine Sub.kill hwf ?_ (by first | exact Nat.le_refl _ | omega | (simp only [push_n, set_n, kill_n]; omega)))) ⟨by omega, by simp [push_b, set_b, kill_b, rowK]; done⟩ ( hzo 0) (by simp [frOk, AV.okR, AV.ok1, AC.okR, AV.ren, AV.ren1, AC.ren, AFrame.get, pl1_old, *]; first | done | rfl | omega)) (fun j _ hlt hi => ?_) fun _ hi => ?_
  ·
    have e1 := hat_ps.get hlt
    have hj1 := idx_lt hlt
    have w1 : IntKind.i64.wrap ((j : Int) + 1) = (j : Int) + 1 := wrap_id (by omega) (by omega)
    have eg := upd_get hul (j := j) (by simpa using hlt)
    simp only [List.getElem_replicate] at eg
    have eg2 : ∀ h, (upd (ps.map eRa.cells) (List.replicate ps.length [.int .i64 0, .int .i64 0, .int .i64 0, .int .i64 0, .int .i64 0]) j)[j]'h = [.int .i64 0, .int .i64 0, .int .i64 0, .int .i64 0, .int .i64 0] := fun h => by rw [List.getElem?_eq_getElem h] at eg; simpa using eg
    clear eg
    have el := upd_len hul (j := j) (by simp; omega)
    simp only [List.length_replicate] at el
    have es := upd_set hul (j := j) (by simpa using hlt) (x := eRa.cells ps[j]) (by simp [hlt])
    rw [eRa_cells] at es
    simp (config := {contextual := true, implicitDefEqProofs := false, maxSteps := 60000}) [-Int.not_le, -Int.not_lt, argsF, laws_toRateS_l0, hat_ps.blk, hat_ps.esz, hat_ps.len, hat_ps.els, hne_ps, hne1_ps, hne2_ps.1, hne2_ps.2.1, hne2_ps.2.2.1, hne2_ps.2.2.2.1, hne2_ps.2.2.2.2.1, hne2_ps.2.2.2.2.2.1, hne2_ps.2.2.2.2.2.2.1, hne2_ps.2.2.2.2.2.2.2.1, hne2_ps.2.2.2.2.2.2.2.2.1, hne2_ps.2.2.2.2.2.2.2.2.2.1, hne2_ps.2.2.2.2.2.2.2.2.2.2, e1, hj1, w1, el, es, eg2, hlt]
    exact ⟨(), trivial, .one (c := some (H.n)) hwf (by (repeat first | exact Sub.refl _ | refine Sub.push hwf ?_ _ | refine Sub.set hwf ?_ (by first | exact Nat.le_refl _ | omega | (simp only [push_n, set_n, kill_n]; omega)) _ | refine Sub.kill hwf ?_ (by first | exact Nat.le_refl _ | omega | (simp only [push_n, set_n, kill_n]; omega)))) ⟨by omega, by simp [push_b, set_b, kill_b, rowK]; done⟩ ( hzo (j + 1)) (by simp [frOk, AV.okR, AV.ok1, AC.okR, AV.ren, AV.ren1, AC.ren, AFrame.get, pl1_old, *]; first | done | rfl | omega)⟩
  ·
    simp (config := {contextual := true, implicitDefEqProofs := false, maxSteps := 60000}) [-Int.not_le, -Int.not_lt, argsF, laws_toRateS_l0, hat_ps.blk, hat_ps.esz, hat_ps.len, hat_ps.els, hne_ps, hne1_ps, hne2_ps.1, hne2_ps.2.1, hne2_ps.2.2.1, hne2_ps.2.2.2.1, hne2_ps.2.2.2.2.1, hne2_ps.2.2.2.2.2.1, hne2_ps.2.2.2.2.2.2.1, hne2_ps.2.2.2.2.2.2.2.1, hne2_ps.2.2.2.2.2.2.2.2.1, hne2_ps.2.2.2.2.2.2.2.2.2.1, hne2_ps.2.2.2.2.2.2.2.2.2.2]
    rw [hend]
    exact (.one (c := some (H.n)) hwf (by (repeat first | exact Sub.refl _ | refine Sub.push hwf ?_ _ | refine Sub.set hwf ?_ (by first | exact Nat.le_refl _ | omega | (simp only [push_n, set_n, kill_n]; omega)) _ | refine Sub.kill hwf ?_ (by first | exact Nat.le_refl _ | omega | (simp only [push_n, set_n, kill_n]; omega)))) ⟨by omega, by simp [push_b, set_b, kill_b, rowK]; done⟩ (plain_map (fun _ => rfl) _) (by simp [frOk, AV.okR, AV.ok1, AC.okR, AV.ren, AV.ren1, AC.ren, AFrame.get, pl1_old, *]; first | done | rfl | omega) h)

def q_eqSRate : Con := fun args H K => match args with
  | [ps_v, rs_v] => eRa.rd H (fun ps => eRa.rd H (fun rs => K (.c (.bool (decide (ps = rs)))) H) rs_v) ps_v
  | _ => False
@[simp ↓] theorem q_eqSRate_eq (ps_v : AV) (rs_v : AV) (H : AHeap) (K : AV → AHeap → Prop) : q_eqSRate [ps_v, rs_v] H K = (eRa.rd H (fun ps => eRa.rd H (fun rs => K (.c (.bool (decide (ps = rs)))) H) rs_v) ps_v) := rfl

theorem laws_eqRateS_s : Sound Try.prog 25 q_eqSRate := by
  intro args H K h
  unfold q_eqSRate at h
  split at h
  rotate_left
  all_goals first | exact False.elim h | skip
  rename_i ps_v rs_v
  have h1 := Enc.rd_at h
  clear h
  obtain ⟨b_ps, i_ps, k_ps, ps, rfl, hat_ps, h⟩ := h1
  have h1 := Enc.rd_at h
  clear h
  obtain ⟨b_rs, i_rs, k_rs, rs, rfl, hat_rs, h⟩ := h1
  have hE := soundE_cons laws_eqRate_s (soundE_nil (P := Try.prog))
  refine acalls_fn laws_eqRateS_k hE ⟨by simp, fun hwf => ?_⟩
  have hb_ps : b_ps < H.n := (hwf b_ps k_ps hat_ps.blk).1
  have hne_ps : (b_ps = H.n) = False := eq_false (by omega)
  have hne1_ps : ∀ i, (b_ps = H.n + i) = False := fun i => eq_false (by omega)
  have hne2_ps : (b_ps = H.n + 1 + 1) = False ∧ (b_ps = H.n + 1 + 1 + 1) = False ∧ (b_ps = H.n + 1 + 1 + 1 + 1) = False ∧ (b_ps = H.n + 1 + 1 + 1 + 1 + 1) = False ∧ (b_ps = H.n + 1 + 1 + 1 + 1 + 1 + 1) = False ∧ (b_ps = H.n + 1 + 1 + 1 + 1 + 1 + 1 + 1) = False ∧ (b_ps = H.n + 1 + 1 + 1 + 1 + 1 + 1 + 1 + 1) = False ∧ (b_ps = H.n + 1 + 1 + 1 + 1 + 1 + 1 + 1 + 1 + 1) = False ∧ (b_ps = H.n + 1 + 1 + 1 + 1 + 1 + 1 + 1 + 1 + 1 + 1) = False ∧ (b_ps = H.n + 1 + 1 + 1 + 1 + 1 + 1 + 1 + 1 + 1 + 1 + 1) = False ∧ (b_ps = H.n + 1 + 1 + 1 + 1 + 1 + 1 + 1 + 1 + 1 + 1 + 1 + 1) = False := ⟨eq_false (by omega), eq_false (by omega), eq_false (by omega), eq_false (by omega), eq_false (by omega), eq_false (by omega), eq_false (by omega), eq_false (by omega), eq_false (by omega), eq_false (by omega), eq_false (by omega)⟩
  have hmx_ps : ps.length ≤ 9223372036854775807 := by have h1 := (hwf b_ps k_ps hat_ps.blk).2.2; have h2 := hat_ps.len; omega
  have hb_rs : b_rs < H.n := (hwf b_rs k_rs hat_rs.blk).1
  have hne_rs : (b_rs = H.n) = False := eq_false (by omega)
  have hne1_rs : ∀ i, (b_rs = H.n + i) = False := fun i => eq_false (by omega)
  have hne2_rs : (b_rs = H.n + 1 + 1) = False ∧ (b_rs = H.n + 1 + 1 + 1) = False ∧ (b_rs = H.n + 1 + 1 + 1 + 1) = False ∧ (b_rs = H.n + 1 + 1 + 1 + 1 + 1) = False ∧ (b_rs = H.n + 1 + 1 + 1 + 1 + 1 + 1) = False ∧ (b_rs = H.n + 1 + 1 + 1 + 1 + 1 + 1 + 1) = False ∧ (b_rs = H.n + 1 + 1 + 1 + 1 + 1 + 1 + 1 + 1) = False ∧ (b_rs = H.n + 1 + 1 + 1 + 1 + 1 + 1 + 1 + 1 + 1) = False ∧ (b_rs = H.n + 1 + 1 + 1 + 1 + 1 + 1 + 1 + 1 + 1 + 1) = False ∧ (b_rs = H.n + 1 + 1 + 1 + 1 + 1 + 1 + 1 + 1 + 1 + 1 + 1) = False ∧ (b_rs = H.n + 1 + 1 + 1 + 1 + 1 + 1 + 1 + 1 + 1 + 1 + 1 + 1) = False := ⟨eq_false (by omega), eq_false (by omega), eq_false (by omega), eq_false (by omega), eq_false (by omega), eq_false (by omega), eq_false (by omega), eq_false (by omega), eq_false (by omega), eq_false (by omega), eq_false (by omega)⟩
  have hmx_rs : rs.length ≤ 9223372036854775807 := by have h1 := (hwf b_rs k_rs hat_rs.blk).2.2; have h2 := hat_rs.len; omega
  simp (config := {contextual := true, implicitDefEqProofs := false, maxSteps := 60000}) [-Int.not_le, -Int.not_lt, argsF, laws_eqRateS_c, hat_ps.blk, hat_ps.esz, hat_ps.len, hat_ps.els, hne_ps, hne1_ps, hne2_ps.1, hne2_ps.2.1, hne2_ps.2.2.1, hne2_ps.2.2.2.1, hne2_ps.2.2.2.2.1, hne2_ps.2.2.2.2.2.1, hne2_ps.2.2.2.2.2.2.1, hne2_ps.2.2.2.2.2.2.2.1, hne2_ps.2.2.2.2.2.2.2.2.1, hne2_ps.2.2.2.2.2.2.2.2.2.1, hne2_ps.2.2.2.2.2.2.2.2.2.2, hat_rs.blk, hat_rs.esz, hat_rs.len, hat_rs.els, hne_rs, hne1_rs, hne2_rs.1, hne2_rs.2.1, hne2_rs.2.2.1, hne2_rs.2.2.2.1, hne2_rs.2.2.2.2.1, hne2_rs.2.2.2.2.2.1, hne2_rs.2.2.2.2.2.2.1, hne2_rs.2.2.2.2.2.2.2.1, hne2_rs.2.2.2.2.2.2.2.2.1, hne2_rs.2.2.2.2.2.2.2.2.2.1, hne2_rs.2.2.2.2.2.2.2.2.2.2]
  split
  · rename_i hlen
    refine aloop_list ps (fun j _ => [(0, .c (.sl b_ps i_ps ps.length)), (1, .c (.sl b_rs i_rs rs.length)), (5, .c (.int .i64 (j)))]) (fun j _ => H) (fun j l _ => K (.c (.bool (decide (l = rs.drop j)))) H) hE _ (()) (by simpa using h) (.same hwf (by simp [frOk, AV.okR, AV.ok1, AC.okR, AV.ren, AV.ren1, AC.ren, AFrame.get, pl1_old, *]; first | done | rfl | omega)) (fun j _ hlt hi => ?_) fun _ hi => ?_
    ·
      have e1 := hat_ps.get hlt
      have hj1 := idx_lt hlt
      have w1 : IntKind.i64.wrap ((j : Int) + 1) = (j : Int) + 1 := wrap_id (by omega) (by omega)
      have hr : j < rs.length := by omega
      have hr1 := idx_lt hr
      have e2 := hat_rs.get hr
      rw [List.drop_eq_getElem_cons hr] at hi
      simp (config := {contextual := true, implicitDefEqProofs := false, maxSteps := 60000}) [-Int.not_le, -Int.not_lt, argsF, laws_eqRateS_l0, hat_rs.blk, hat_rs.esz, hat_rs.len, hat_rs.els, hne_rs, hne1_rs, hne2_rs.1, hne2_rs.2.1, hne2_rs.2.2.1, hne2_rs.2.2.2.1, hne2_rs.2.2.2.2.1, hne2_rs.2.2.2.2.2.1, hne2_rs.2.2.2.2.2.2.1, hne2_rs.2.2.2.2.2.2.2.1, hne2_rs.2.2.2.2.2.2.2.2.1, hne2_rs.2.2.2.2.2.2.2.2.2.1, hne2_rs.2.2.2.2.2.2.2.2.2.2, hat_ps.blk, hat_ps.esz, hat_ps.len, hat_ps.els, hne_ps, hne1_ps, hne2_ps.1, hne2_ps.2.1, hne2_ps.2.2.1, hne2_ps.2.2.2.1, hne2_ps.2.2.2.2.1, hne2_ps.2.2.2.2.2.1, hne2_ps.2.2.2.2.2.2.1, hne2_ps.2.2.2.2.2.2.2.1, hne2_ps.2.2.2.2.2.2.2.2.1, hne2_ps.2.2.2.2.2.2.2.2.2.1, hne2_ps.2.2.2.2.2.2.2.2.2.2, e1, hj1, w1, hr, hr1, e2]
      simp only [List.cons.injEq] at hi
      repeat' split
      all_goals simp only [*, true_and, false_and, decide_false] at hi
      all_goals first | ((refine Out.plain hwf ?_ rfl ?_; (repeat first | exact Sub.refl _ | refine Sub.push hwf ?_ _ | refine Sub.set hwf ?_ (by first | exact Nat.le_refl _ | omega | (simp only [push_n, set_n, kill_n]; omega)) _ | refine Sub.kill hwf ?_ (by first | exact Nat.le_refl _ | omega | (simp only [push_n, set_n, kill_n]; omega)))); simpa using hi) | exact ⟨(), hi, .drop hwf (by (repeat first | exact Sub.refl _ | refine Sub.push hwf ?_ _ | refine Sub.set hwf ?_ (by first | exact Nat.le_refl _ | omega | (simp only [push_n, set_n, kill_n]; omega)) _ | refine Sub.kill hwf ?_ (by first | exact Nat.le_refl _ | omega | (simp only [push_n, set_n, kill_n]; omega)))) (by simp [frOk, AV.okR, AV.ok1, AC.okR, AV.ren, AV.ren1, AC.ren, AFrame.get, pl1_old, *]; first | done | rfl | omega)⟩
    ·
      simp (config := {contextual := true, implicitDefEqProofs := false, maxSteps := 60000}) [-Int.not_le, -Int.not_lt, argsF, laws_eqRateS_l0, hat_rs.blk, hat_rs.esz, hat_rs.len, hat_rs.els, hne_rs, hne1_rs, hne2_rs.1, hne2_rs.2.1, hne2_rs.2.2.1, hne2_rs.2.2.2.1, hne2_rs.2.2.2.2.1, hne2_rs.2.2.2.2.2.1, hne2_rs.2.2.2.2.2.2.1, hne2_rs.2.2.2.2.2.2.2.1, hne2_rs.2.2.2.2.2.2.2.2.1, hne2_rs.2.2.2.2.2.2.2.2.2.1, hne2_rs.2.2.2.2.2.2.2.2.2.2, hat_ps.blk, hat_ps.esz, hat_ps.len, hat_ps.els, hne_ps, hne1_ps, hne2_ps.1, hne2_ps.2.1, hne2_ps.2.2.1, hne2_ps.2.2.2.1, hne2_ps.2.2.2.2.1, hne2_ps.2.2.2.2.2.1, hne2_ps.2.2.2.2.2.2.1, hne2_ps.2.2.2.2.2.2.2.1, hne2_ps.2.2.2.2.2.2.2.2.1, hne2_ps.2.2.2.2.2.2.2.2.2.1, hne2_ps.2.2.2.2.2.2.2.2.2.2]
      rw [show ps.length = rs.length by omega, List.drop_length] at hi
      (refine Out.plain hwf ?_ rfl ?_; (repeat first | exact Sub.refl _ | refine Sub.push hwf ?_ _ | refine Sub.set hwf ?_ (by first | exact Nat.le_refl _ | omega | (simp only [push_n, set_n, kill_n]; omega)) _ | refine Sub.kill hwf ?_ (by first | exact Nat.le_refl _ | omega | (simp only [push_n, set_n, kill_n]; omega)))); simpa using hi
  · rename_i hlen
    (refine Out.plain hwf ?_ rfl ?_; (repeat first | exact Sub.refl _ | refine Sub.push hwf ?_ _ | refine Sub.set hwf ?_ (by first | exact Nat.le_refl _ | omega | (simp only [push_n, set_n, kill_n]; omega)) _ | refine Sub.kill hwf ?_ (by first | exact Nat.le_refl _ | omega | (simp only [push_n, set_n, kill_n]; omega))))
    rwa [decide_eq_false (fun e => hlen (by rw [e]))] at h

def mkRate (k : Int) : Ra := ⟨k, k + 1, k + 1 + 1, k + 1 + 1 + 1, k + 1 + 1 + 1 + 1⟩
def mksRate : Nat → Int → List Ra
  | 0, _ => []
  | n + 1, k => mkRate k :: mksRate n (k + 1 + 1 + 1 + 1 + 1)
@[simp] theorem mksRate_len : ∀ (n : Nat) (k : Int), (mksRate n k).length = n
  | 0, _ => rfl
  | n + 1, k => by simp [mksRate, mksRate_len n]
theorem mksRate_get : ∀ (n : Nat) (k : Int) (j : Nat), j < n → (mksRate n k)[j]? = some (mkRate (k + 5 * (j : Int)))
  | 0, _, _, h => by omega
  | n + 1, k, 0, _ => by simp [mksRate]
  | n + 1, k, j + 1, h => by
    simp only [mksRate, List.getElem?_cons_succ]
    rw [mksRate_get n _ j (by omega)]
    congr 2
    push_cast
    omega
def heldRate : List Ra → Int → Int
  | [], k => k
  | p :: r, k => if p.zone = k then if p.grams = k + 1 then if p.frm = k + 1 + 1 then if p.til = k + 1 + 1 + 1 then if p.cents = k + 1 + 1 + 1 + 1 then heldRate r (k + 1 + 1 + 1 + 1 + 1) else -1 else -1 else -1 else -1 else -1
@[simp] theorem mksRate_take {β : Type} (n : Nat) (k : Int) (f : Ra → β) : ((mksRate n k).map f).take n = (mksRate n k).map f := by
  rw [List.take_of_length_le]; simp
@[simp] theorem heldRate_mks : ∀ (n : Nat) (k : Int), heldRate (mksRate n k) k = k + 5 * (n : Int)
  | 0, k => by simp [mksRate, heldRate]
  | n + 1, k => by
    simp only [mksRate, heldRate, mkRate, if_true]
    rw [heldRate_mks n]
    push_cast
    omega
@[simp] theorem posRate (n : Nat) : (1 + 5 * (n : Int) < 0) = False := eq_false (by omega)

def q_markSRate : Con := fun args H K => match args with
  | [.c (.sl b i n), .c (.int .i64 k)] => onv (H.b b) fun kb => i = 0 ∧ kb.ro = false ∧ kb.esz = eRa.n ∧ kb.els.length = n ∧ n ≤ 1048576 ∧ 0 ≤ k ∧ k ≤ 1099511627776 ∧ onv (eRa.decL kb.els) fun _ => K (.c (.int .i64 (k + 5 * (n : Int)))) (H.set b (reK kb ((mksRate n k).map eRa.cells)))
  | _ => False
@[simp ↓] theorem q_markSRate_eq (b i n : Nat) (k : Int) (H : AHeap) (K : AV → AHeap → Prop) : q_markSRate [.c (.sl b i n), .c (.int .i64 k)] H K = onv (H.b b) fun kb => i = 0 ∧ kb.ro = false ∧ kb.esz = eRa.n ∧ kb.els.length = n ∧ n ≤ 1048576 ∧ 0 ≤ k ∧ k ≤ 1099511627776 ∧ onv (eRa.decL kb.els) fun _ => K (.c (.int .i64 (k + 5 * (n : Int)))) (H.set b (reK kb ((mksRate n k).map eRa.cells))) := rfl

theorem laws_markRateS_s : Sound Try.prog 26 q_markSRate := by
  intro args H K h
  unfold q_markSRate at h
  split at h
  rotate_left
  all_goals first | exact False.elim h | skip
  rename_i b i n k
  have h1 := onv_iff.1 h
  clear h
  obtain ⟨kb, hk, rfl, hro, hesz, hlen, hl, hk1, hk2, h⟩ := h1
  have h1 := onv_iff.1 h
  clear h
  obtain ⟨ps, hp, h⟩ := h1
  have he := Enc.decL_eq eRa hp
  have hpl : ps.length = n := by rw [← hlen, he]; simp
  have hE := soundE_nil (P := Try.prog)
  refine acalls_fn laws_markRateS_k hE ⟨by simp, fun hwf => ?_⟩
  have hb : b < H.n := (hwf b kb hk).1
  have hesz' : kb.esz = 5 := hesz
  have hul : ((mksRate n k).map eRa.cells).length = (ps.map eRa.cells).length := by simp [hpl]
  have hzo : ∀ j, ∀ e ∈ upd ((mksRate n k).map eRa.cells) (ps.map eRa.cells) j, ∀ x ∈ e, x.okR some H.n := fun j => plain_ok fun e he => by
    rcases List.mem_append.1 he with he | he
    · obtain ⟨p, _, rfl⟩ := List.mem_map.1 (List.mem_of_mem_take he); rfl
    · obtain ⟨p, _, rfl⟩ := List.mem_map.1 (List.mem_of_mem_drop he); rfl
  have hwf' : ∀ j, j ≤ n → (H.set b (reK kb (upd ((mksRate n k).map eRa.cells) (ps.map eRa.cells) j))).WF := fun j hj => WF.set hwf hk (hzo j) (by
    have := upd_len hul (j := j) (by simpa [hpl] using hj)
    rw [reK_els, this]; simp; omega)
  have hW : ∀ F, frOk some H.n F F → Weak H.n F H F (H.set b (reK kb (upd ((mksRate n k).map eRa.cells) (ps.map eRa.cells) 0))) := fun F hF => by
    rw [upd_0, ← he, reK_self, set_self hk]; exact .same hwf hF
  have hend : upd ((mksRate n k).map eRa.cells) (ps.map eRa.cells) ps.length = (mksRate n k).map eRa.cells := by have := upd_all hul; simpa using this
  simp (config := {contextual := true, implicitDefEqProofs := false, maxSteps := 60000}) [-Int.not_le, -Int.not_lt, argsF, laws_markRateS_c]
  refine aloop_list ps (fun j s => [(0, .c (.sl (b) (0) (n))), (1, .c (.int .i64 (s))), (5, .c (.int .i64 (j)))]) (fun j s => H.set b (reK kb (upd ((mksRate n k).map eRa.cells) (ps.map eRa.cells) j))) (fun j l s => s = k + 5 * (j : Int)) hE _ k (by simp) (hW _ (by simp [frOk, AV.okR, AV.ok1, AC.okR, AV.ren, AV.ren1, AC.ren, AFrame.get, pl1_old, *]; first | done | rfl | omega)) (fun j s hlt hi => ?_) fun s hi => ?_
  · have hj : j < n := by omega
    have hj1 := idx_lt hj
    have w1 : IntKind.i64.wrap ((j : Int) + 1) = (j : Int) + 1 := wrap_id (by omega) (by omega)
    have eg := upd_get hul (j := j) (by simpa using hlt)
    simp only [List.getElem_map, eRa_cells] at eg
    have el := upd_len hul (j := j) (by simp; omega)
    simp only [List.length_map, hpl] at el
    have eg2 : ∀ h, (upd ((mksRate n k).map eRa.cells) (ps.map eRa.cells) j)[j]'h = eRa.cells ps[j] := fun h => by rw [List.getElem?_eq_getElem h] at eg; simpa using eg
    simp only [eRa_cells] at eg2
    have es := upd_set hul (j := j) (by simpa using hlt) (x := eRa.cells (mkRate s)) (by rw [List.getElem?_map, mksRate_get n k j hj, hi]; rfl)
    simp only [eRa_cells, mkRate] at es
    have wk1 : IntKind.i64.wrap (s + 1) = s + 1 := wrap_id (by omega) (by omega)
    have wk2 : IntKind.i64.wrap (s + 1 + 1) = s + 1 + 1 := wrap_id (by omega) (by omega)
    have wk3 : IntKind.i64.wrap (s + 1 + 1 + 1) = s + 1 + 1 + 1 := wrap_id (by omega) (by omega)
    have wk4 : IntKind.i64.wrap (s + 1 + 1 + 1 + 1) = s + 1 + 1 + 1 + 1 := wrap_id (by omega) (by omega)
    have wk5 : IntKind.i64.wrap (s + 1 + 1 + 1 + 1 + 1) = s + 1 + 1 + 1 + 1 + 1 := wrap_id (by omega) (by omega)
    simp (config := {contextual := true, implicitDefEqProofs := false, maxSteps := 60000}) [-Int.not_le, -Int.not_lt, argsF, laws_markRateS_l0, hb, hj, hj1, w1, hro, hesz, hlen, hk, eg2, el, es, reK_full hro hesz', wk1, wk2, wk3, wk4, wk5]
    exact ⟨s + 1 + 1 + 1 + 1 + 1, by push_cast; omega, .same (H := H.set b _) (hwf' (j + 1) (by omega)) (by simp [frOk, AV.okR, AV.ok1, AC.okR, AV.ren, AV.ren1, AC.ren, AFrame.get, pl1_old, *]; first | done | rfl | omega)⟩
  · have hj1 : ¬ ((ps.length : Int) < (n : Int)) := by omega
    simp (config := {contextual := true, implicitDefEqProofs := false, maxSteps := 60000}) [-Int.not_le, -Int.not_lt, argsF, laws_markRateS_l0, hj1]
    have hs : s = k + 5 * (n : Int) := by rw [hi, hpl]
    rw [hs, hend]
    exact .old (H := H.set b _) (by rw [← hend]; exact hwf' _ (by omega)) (.refl _) (by simp [frOk, AV.okR, AV.ok1, AC.okR, AV.ren, AV.ren1, AC.ren, AFrame.get, pl1_old, *]; first | done | rfl | omega) h

end Go.Proofs.Ytjbedbfgbmfdfaa
