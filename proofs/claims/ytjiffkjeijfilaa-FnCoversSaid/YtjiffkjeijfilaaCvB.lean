/- The first of the earliest routes. -/
import Derived.Test.YtjiffkjeijfilaaCvT
set_option maxRecDepth 8000
set_option linter.unusedSimpArgs false
set_option linter.unusedVariables false
namespace Go.Proofs.Ytjiffkjeijfilaa
open Go Go.RowKit

set_option maxHeartbeats 4000000

/-- what is answered -/
noncomputable def brT (ps : List Ma) (s m t : Int) : List Int × Bool := if tm ps s m t = 10000 then ([], false) else (brL ps s m t, true)
theorem brT_len (ps : List Ma) (s m t : Int) : (brT ps s m t).1.length ≤ 10000 := by
  unfold brT; split
  · simp
  · exact brL_len ps s m t
def eaRes (ps : List Ma) (s m t : Int) : Int × Bool := if tm ps s m t = 10000 then (0, false) else (tm ps s m t, true)
def tkL (L : List Int) (j : Nat) : List Int := L.take j
theorem tkL_len {L : List Int} {j : Nat} (h : j ≤ L.length) : (tkL L j).length = j := by unfold tkL; rw [List.length_take]; omega
@[simp] theorem tkL_0 (L : List Int) : tkL L 0 = [] := rfl
theorem tkL_all (L : List Int) : tkL L L.length = L := List.take_length
theorem tkL_row {L : List Int} {j : Nat} (h : j < L.length) {k : Int} (hk : L[j] = k) : List.map eI.cells (tkL L j) ++ [[AC.int .i64 k]] = List.map eI.cells (tkL L (j + 1)) := by
  subst hk
  have e : tkL L (j + 1) = tkL L j ++ [L[j]] := by unfold tkL; rw [List.take_add_one, List.getElem?_eq_getElem h]; rfl
  rw [e, List.map_append]; rfl
theorem tkL_tk {L : List Int} {j : Nat} (h : j ≤ L.length) : List.take j (List.map eI.cells (tkL L j)) = List.map eI.cells (tkL L j) := List.take_of_length_le (by rw [List.length_map, tkL_len h]; exact Nat.le_refl _)
theorem hitB_no {ps : List Ma} {s m t e : Int} {x : Ma} (h : hitB ps s m t e x = false) (h1 : x.frm = s) (h2 : m ≤ x.leave) : tm ps x.to x.arrive t ≠ e := fun h3 => by
  simp [hitB, h1, h2, h3] at h

def q_asked : Con := fun args H K => match args with
  | [ps_v, .c (.int .i64 s), .c (.int .i64 m)] => eMa.rd H (fun ps => K (.c (.bool (areMa ps && (inR s 0 9 && inR m 0 9999)))) H) ps_v
  | _ => False
@[simp ↓] theorem q_asked_eq (ps_v : AV) (s : Int) (m : Int) (H : AHeap) (K : AV → AHeap → Prop) : q_asked [ps_v, .c (.int .i64 s), .c (.int .i64 m)] H K = (eMa.rd H (fun ps => K (.c (.bool (areMa ps && (inR s 0 9 && inR m 0 9999)))) H) ps_v) := rfl

theorem spec_l9Asked_s : Sound Try.prog 143 q_asked := by
  intro args H K h
  unfold q_asked at h
  split at h
  rotate_left
  all_goals first | exact False.elim h | skip
  rename_i ps_v s m
  have h1 := Enc.rd_at h
  clear h
  obtain ⟨b_ps, i_ps, k_ps, ps, rfl, hat_ps, h⟩ := h1
  have hE := soundE_cons spec_l9Good_s (soundE_cons spec_l9Office_s (soundE_cons spec_l9Minute_s (soundE_nil (P := Try.prog))))
  refine acalls_fn spec_l9Asked_k hE ⟨by simp, fun hwf => ?_⟩
  have hb_ps : b_ps < H.n := (hwf b_ps k_ps hat_ps.blk).1
  have hne_ps : (b_ps = H.n) = False := eq_false (by omega)
  have hne1_ps : ∀ i, (b_ps = H.n + i) = False := fun i => eq_false (by omega)
  have hne2_ps : (b_ps = H.n + 1 + 1) = False ∧ (b_ps = H.n + 1 + 1 + 1) = False ∧ (b_ps = H.n + 1 + 1 + 1 + 1) = False ∧ (b_ps = H.n + 1 + 1 + 1 + 1 + 1) = False ∧ (b_ps = H.n + 1 + 1 + 1 + 1 + 1 + 1) = False ∧ (b_ps = H.n + 1 + 1 + 1 + 1 + 1 + 1 + 1) = False ∧ (b_ps = H.n + 1 + 1 + 1 + 1 + 1 + 1 + 1 + 1) = False ∧ (b_ps = H.n + 1 + 1 + 1 + 1 + 1 + 1 + 1 + 1 + 1) = False ∧ (b_ps = H.n + 1 + 1 + 1 + 1 + 1 + 1 + 1 + 1 + 1 + 1) = False ∧ (b_ps = H.n + 1 + 1 + 1 + 1 + 1 + 1 + 1 + 1 + 1 + 1 + 1) = False ∧ (b_ps = H.n + 1 + 1 + 1 + 1 + 1 + 1 + 1 + 1 + 1 + 1 + 1 + 1) = False := ⟨eq_false (by omega), eq_false (by omega), eq_false (by omega), eq_false (by omega), eq_false (by omega), eq_false (by omega), eq_false (by omega), eq_false (by omega), eq_false (by omega), eq_false (by omega), eq_false (by omega)⟩
  have hmx_ps : ps.length ≤ 9223372036854775807 := by have h1 := (hwf b_ps k_ps hat_ps.blk).2.2; have h2 := hat_ps.len; omega
  simp (config := {contextual := true, implicitDefEqProofs := false, maxSteps := 2000000}) [-Int.not_le, -Int.not_lt, argsF, spec_l9Asked_c, hat_ps.blk, hat_ps.esz, hat_ps.len, hat_ps.els, hne_ps, hne1_ps, hne2_ps.1, hne2_ps.2.1, hne2_ps.2.2.1, hne2_ps.2.2.2.1, hne2_ps.2.2.2.2.1, hne2_ps.2.2.2.2.2.1, hne2_ps.2.2.2.2.2.2.1, hne2_ps.2.2.2.2.2.2.2.1, hne2_ps.2.2.2.2.2.2.2.2.1, hne2_ps.2.2.2.2.2.2.2.2.2.1, hne2_ps.2.2.2.2.2.2.2.2.2.2]
  repeat' (refine ite_i (fun _ => ?_) (fun _ => ?_))
  all_goals ((refine Out.plain hwf ?_ rfl ?_; (repeat first | exact Sub.refl _ | refine Sub.push hwf ?_ _ | refine Sub.set hwf ?_ (by first | exact Nat.le_refl _ | omega | (simp only [push_n, set_n, kill_n]; omega)) _ | refine Sub.kill hwf ?_ (by first | exact Nat.le_refl _ | omega | (simp only [push_n, set_n, kill_n]; omega)))); simp_all)

def q_ea : Con := fun args H K => match args with
  | [ps_v, .c (.int .i64 s), .c (.int .i64 m), .c (.int .i64 t)] => eMa.rd H (fun ps => areMa ps = true ∧ 0 ≤ s ∧ s ≤ 9 ∧ 0 ≤ m ∧ m ≤ 9999 ∧ 0 ≤ t ∧ t ≤ 9 ∧ K (.tup [.c (.int .i64 ((eaRes ps s m t).1)), .c (.bool ((eaRes ps s m t).2))]) H) ps_v
  | _ => False
@[simp ↓] theorem q_ea_eq (ps_v : AV) (s : Int) (m : Int) (t : Int) (H : AHeap) (K : AV → AHeap → Prop) : q_ea [ps_v, .c (.int .i64 s), .c (.int .i64 m), .c (.int .i64 t)] H K = (eMa.rd H (fun ps => areMa ps = true ∧ 0 ≤ s ∧ s ≤ 9 ∧ 0 ≤ m ∧ m ≤ 9999 ∧ 0 ≤ t ∧ t ≤ 9 ∧ K (.tup [.c (.int .i64 ((eaRes ps s m t).1)), .c (.bool ((eaRes ps s m t).2))]) H) ps_v) := rfl

theorem spec_EarliestAt_s : Sound Try.prog 141 q_ea := by
  intro args H K h
  unfold q_ea at h
  split at h
  rotate_left
  all_goals first | exact False.elim h | skip
  rename_i ps_v s m t
  have h1 := Enc.rd_at h
  clear h
  obtain ⟨b_ps, i_ps, k_ps, ps, rfl, hat_ps, h⟩ := h1
  have hE := soundE_cons spec_l9Asked_s (soundE_cons spec_l9Office_s (soundE_cons spec_l9Times_s (soundE_nil (P := Try.prog))))
  refine acalls_fn spec_EarliestAt_k hE ⟨by simp, fun hwf => ?_⟩
  have hb_ps : b_ps < H.n := (hwf b_ps k_ps hat_ps.blk).1
  have hne_ps : (b_ps = H.n) = False := eq_false (by omega)
  have hne1_ps : ∀ i, (b_ps = H.n + i) = False := fun i => eq_false (by omega)
  have hne2_ps : (b_ps = H.n + 1 + 1) = False ∧ (b_ps = H.n + 1 + 1 + 1) = False ∧ (b_ps = H.n + 1 + 1 + 1 + 1) = False ∧ (b_ps = H.n + 1 + 1 + 1 + 1 + 1) = False ∧ (b_ps = H.n + 1 + 1 + 1 + 1 + 1 + 1) = False ∧ (b_ps = H.n + 1 + 1 + 1 + 1 + 1 + 1 + 1) = False ∧ (b_ps = H.n + 1 + 1 + 1 + 1 + 1 + 1 + 1 + 1) = False ∧ (b_ps = H.n + 1 + 1 + 1 + 1 + 1 + 1 + 1 + 1 + 1) = False ∧ (b_ps = H.n + 1 + 1 + 1 + 1 + 1 + 1 + 1 + 1 + 1 + 1) = False ∧ (b_ps = H.n + 1 + 1 + 1 + 1 + 1 + 1 + 1 + 1 + 1 + 1 + 1) = False ∧ (b_ps = H.n + 1 + 1 + 1 + 1 + 1 + 1 + 1 + 1 + 1 + 1 + 1 + 1) = False := ⟨eq_false (by omega), eq_false (by omega), eq_false (by omega), eq_false (by omega), eq_false (by omega), eq_false (by omega), eq_false (by omega), eq_false (by omega), eq_false (by omega), eq_false (by omega), eq_false (by omega)⟩
  have hmx_ps : ps.length ≤ 9223372036854775807 := by have h1 := (hwf b_ps k_ps hat_ps.blk).2.2; have h2 := hat_ps.len; omega
  obtain ⟨hv, h0, h1, h2, h3, h4, h5, h⟩ := h
  have t10 : t < 10 := by omega
  have tn : t.toNat < 10 := by omega
  have i1 : inR s 0 9 = true := by unfold inR; exact decide_eq_true ⟨h0, h1⟩
  have i2 : inR m 0 9999 = true := by unfold inR; exact decide_eq_true ⟨h2, h3⟩
  have i3 : inR t 0 9 = true := by unfold inR; exact decide_eq_true ⟨h4, h5⟩
  have hl : (scanT ps (startT s m)).length = 10 := by rw [scanT_len, startT_len]
  have hgt : (scanT ps (startT s m))[t.toNat]? = some (tm ps s m t) := gN_at hl h4 h5
  have hgt2 : ∀ hlx : t.toNat < (scanT ps (startT s m)).length, (scanT ps (startT s m))[t.toNat]'hlx = tm ps s m t := fun hlx => by rw [List.getElem?_eq_getElem hlx] at hgt; exact Option.some.inj hgt
  unfold eaRes at h
  by_cases c : tm ps s m t = 10000
  · rw [if_pos c] at h
    simp (config := {contextual := true, implicitDefEqProofs := false, maxSteps := 2000000}) [-Int.not_le, -Int.not_lt, argsF, spec_EarliestAt_c, hat_ps.blk, hat_ps.esz, hat_ps.len, hat_ps.els, hne_ps, hne1_ps, hne2_ps.1, hne2_ps.2.1, hne2_ps.2.2.1, hne2_ps.2.2.2.1, hne2_ps.2.2.2.2.1, hne2_ps.2.2.2.2.2.1, hne2_ps.2.2.2.2.2.2.1, hne2_ps.2.2.2.2.2.2.2.1, hne2_ps.2.2.2.2.2.2.2.2.1, hne2_ps.2.2.2.2.2.2.2.2.2.1, hne2_ps.2.2.2.2.2.2.2.2.2.2, hv, h0, h1, h2, h3, h4, t10, tn, i1, i2, i3, hl, hgt, hgt2, c, rowK]
    (refine Out.plain hwf ?_ rfl ?_; (repeat first | exact Sub.refl _ | refine Sub.push hwf ?_ _ | refine Sub.set hwf ?_ (by first | exact Nat.le_refl _ | omega | (simp only [push_n, set_n, kill_n]; omega)) _ | refine Sub.kill hwf ?_ (by first | exact Nat.le_refl _ | omega | (simp only [push_n, set_n, kill_n]; omega)))); exact h
  · rw [if_neg c] at h
    simp (config := {contextual := true, implicitDefEqProofs := false, maxSteps := 2000000}) [-Int.not_le, -Int.not_lt, argsF, spec_EarliestAt_c, hat_ps.blk, hat_ps.esz, hat_ps.len, hat_ps.els, hne_ps, hne1_ps, hne2_ps.1, hne2_ps.2.1, hne2_ps.2.2.1, hne2_ps.2.2.2.1, hne2_ps.2.2.2.2.1, hne2_ps.2.2.2.2.2.1, hne2_ps.2.2.2.2.2.2.1, hne2_ps.2.2.2.2.2.2.2.1, hne2_ps.2.2.2.2.2.2.2.2.1, hne2_ps.2.2.2.2.2.2.2.2.2.1, hne2_ps.2.2.2.2.2.2.2.2.2.2, hv, h0, h1, h2, h3, h4, t10, tn, i1, i2, i3, hl, hgt, hgt2, c, rowK]
    (refine Out.plain hwf ?_ rfl ?_; (repeat first | exact Sub.refl _ | refine Sub.push hwf ?_ _ | refine Sub.set hwf ?_ (by first | exact Nat.le_refl _ | omega | (simp only [push_n, set_n, kill_n]; omega)) _ | refine Sub.kill hwf ?_ (by first | exact Nat.le_refl _ | omega | (simp only [push_n, set_n, kill_n]; omega)))); exact h

def q_br : Con := fun args H K => match args with
  | [ps_v, .c (.int .i64 s), .c (.int .i64 m), .c (.int .i64 t)] => eMa.rd H (fun ps => areMa ps = true ∧ 0 ≤ s ∧ s ≤ 9 ∧ 0 ≤ m ∧ m ≤ 9999 ∧ 0 ≤ t ∧ t ≤ 9 ∧ K (.tup [.c (.sl (H.n) (0) ((brT ps s m t).1.length)), .c (.bool ((brT ps s m t).2))]) (H.push (rowK eI 3 (brT ps s m t).1))) ps_v
  | _ => False
@[simp ↓] theorem q_br_eq (ps_v : AV) (s : Int) (m : Int) (t : Int) (H : AHeap) (K : AV → AHeap → Prop) : q_br [ps_v, .c (.int .i64 s), .c (.int .i64 m), .c (.int .i64 t)] H K = (eMa.rd H (fun ps => areMa ps = true ∧ 0 ≤ s ∧ s ≤ 9 ∧ 0 ≤ m ∧ m ≤ 9999 ∧ 0 ≤ t ∧ t ≤ 9 ∧ K (.tup [.c (.sl (H.n) (0) ((brT ps s m t).1.length)), .c (.bool ((brT ps s m t).2))]) (H.push (rowK eI 3 (brT ps s m t).1))) ps_v) := rfl

theorem impl_bestRoute_s : Sound Try.prog 140 q_br := by
  intro args H K h
  unfold q_br at h
  split at h
  rotate_left
  all_goals first | exact False.elim h | skip
  rename_i ps_v s m t
  have h1 := Enc.rd_at h
  clear h
  obtain ⟨b_ps, i_ps, k_ps, ps, rfl, hat_ps, h⟩ := h1
  have hE := soundE_cons impl_earliest_s (soundE_nil (P := Try.prog))
  refine acalls_fn impl_bestRoute_k hE ⟨by simp, fun hwf => ?_⟩
  have hb_ps : b_ps < H.n := (hwf b_ps k_ps hat_ps.blk).1
  have hne_ps : (b_ps = H.n) = False := eq_false (by omega)
  have hne1_ps : ∀ i, (b_ps = H.n + i) = False := fun i => eq_false (by omega)
  have hne2_ps : (b_ps = H.n + 1 + 1) = False ∧ (b_ps = H.n + 1 + 1 + 1) = False ∧ (b_ps = H.n + 1 + 1 + 1 + 1) = False ∧ (b_ps = H.n + 1 + 1 + 1 + 1 + 1) = False ∧ (b_ps = H.n + 1 + 1 + 1 + 1 + 1 + 1) = False ∧ (b_ps = H.n + 1 + 1 + 1 + 1 + 1 + 1 + 1) = False ∧ (b_ps = H.n + 1 + 1 + 1 + 1 + 1 + 1 + 1 + 1) = False ∧ (b_ps = H.n + 1 + 1 + 1 + 1 + 1 + 1 + 1 + 1 + 1) = False ∧ (b_ps = H.n + 1 + 1 + 1 + 1 + 1 + 1 + 1 + 1 + 1 + 1) = False ∧ (b_ps = H.n + 1 + 1 + 1 + 1 + 1 + 1 + 1 + 1 + 1 + 1 + 1) = False ∧ (b_ps = H.n + 1 + 1 + 1 + 1 + 1 + 1 + 1 + 1 + 1 + 1 + 1 + 1) = False := ⟨eq_false (by omega), eq_false (by omega), eq_false (by omega), eq_false (by omega), eq_false (by omega), eq_false (by omega), eq_false (by omega), eq_false (by omega), eq_false (by omega), eq_false (by omega), eq_false (by omega)⟩
  have hmx_ps : ps.length ≤ 9223372036854775807 := by have h1 := (hwf b_ps k_ps hat_ps.blk).2.2; have h2 := hat_ps.len; omega
  obtain ⟨hv, h0, h1, h2, h3, h4, h5, h⟩ := h
  unfold brT at h
  have t10 : t < 10 := by omega
  have tn : t.toNat < 10 := by omega
  have hl : (scanT ps (startT s m)).length = 10 := by rw [scanT_len, startT_len]
  have hgt0 : (encL (scanT ps (startT s m)))[t.toNat]? = some (encT (tm ps s m t)) := encL_at hl h4 h5
  have hgt1 : ∀ hlx : t.toNat < (encL (scanT ps (startT s m))).length, (encL (scanT ps (startT s m)))[t.toNat]'hlx = encT (tm ps s m t) := fun hlx => by rw [List.getElem?_eq_getElem hlx] at hgt0; exact Option.some.inj hgt0
  have hll0 : (encL (scanT ps (startT s m))).length = 10 := by rw [encL_len]; exact hl
  have hge := tm_ge hv ⟨h0, h1⟩ h3 ⟨h4, h5⟩
  by_cases c : tm ps s m t = 10000
  · rw [if_pos c] at h
    have c' : encT (tm ps s m t) < 0 := by rw [c]; decide
    simp (config := {contextual := true, implicitDefEqProofs := false, maxSteps := 2000000}) [-Int.not_le, -Int.not_lt, argsF, impl_bestRoute_c, hat_ps.blk, hat_ps.esz, hat_ps.len, hat_ps.els, hne_ps, hne1_ps, hne2_ps.1, hne2_ps.2.1, hne2_ps.2.2.1, hne2_ps.2.2.2.1, hne2_ps.2.2.2.2.1, hne2_ps.2.2.2.2.2.1, hne2_ps.2.2.2.2.2.2.1, hne2_ps.2.2.2.2.2.2.2.1, hne2_ps.2.2.2.2.2.2.2.2.1, hne2_ps.2.2.2.2.2.2.2.2.2.1, hne2_ps.2.2.2.2.2.2.2.2.2.2, hv, h0, h1, h2, h3, h4, t10, tn, hgt0, hgt1, hll0, c', rowK]
    exact (.one (c := none) hwf (by (repeat first | exact Sub.refl _ | refine Sub.push hwf ?_ _ | refine Sub.set hwf ?_ (by first | exact Nat.le_refl _ | omega | (simp only [push_n, set_n, kill_n]; omega)) _ | refine Sub.kill hwf ?_ (by first | exact Nat.le_refl _ | omega | (simp only [push_n, set_n, kill_n]; omega)))) ⟨rfl, rfl⟩ (plain_map (fun _ => rfl) _) (by simp [frOk, AV.okR, AV.ok1, AC.okR, AV.ren, AV.ren1, AC.ren, AFrame.get, pl1_old, *]; first | done | rfl | omega) h)
  rw [if_neg c] at h
  have c' : encT (tm ps s m t) = tm ps s m t := by unfold encT; rw [if_neg c]
  have c2 : ¬ tm ps s m t < 0 := by omega
  simp (config := {contextual := true, implicitDefEqProofs := false, maxSteps := 2000000}) [-Int.not_le, -Int.not_lt, argsF, impl_bestRoute_c, hat_ps.blk, hat_ps.esz, hat_ps.len, hat_ps.els, hne_ps, hne1_ps, hne2_ps.1, hne2_ps.2.1, hne2_ps.2.2.1, hne2_ps.2.2.2.1, hne2_ps.2.2.2.2.1, hne2_ps.2.2.2.2.2.1, hne2_ps.2.2.2.2.2.2.1, hne2_ps.2.2.2.2.2.2.2.1, hne2_ps.2.2.2.2.2.2.2.2.1, hne2_ps.2.2.2.2.2.2.2.2.2.1, hne2_ps.2.2.2.2.2.2.2.2.2.2, hv, h0, h1, h2, h3, h4, t10, tn, hgt0, hgt1, hll0, c', c2, rowK]
  have hbr := brL_ok hv ⟨h4, h5⟩ ⟨h0, h1⟩ ⟨h2, h3⟩ c
  have hL := brL_len ps s m t
  have hvm := (areMa_at hv).1
  generalize brL ps s m t = L at h hbr hL ⊢
  have hwfB : ∀ n : Nat, (H.push (rowK eI 3 (tkL L n))).WF := fun n => wf_row hwf _ (by unfold tkL; rw [List.length_take]; omega)
  refine aloop_list2 L (fun j (f mi : Int) => [(0, .c (.sl b_ps i_ps ps.length)), (1, .c (.int .i64 (f))), (2, .c (.int .i64 (mi))), (3, .c (.int .i64 (t))), (10, .c (.int .i64 (tm ps s m t))), (11, .c (.sl (H.n) (0) (j)))]) (fun j _ _ => H.push (rowK eI 3 (tkL L j))) (fun j l f mi => BR ps t (tm ps s m t) f mi l ∧ 0 ≤ f ∧ f ≤ 9 ∧ 0 ≤ mi ∧ mi ≤ 9999 ∧ tm ps f mi t = tm ps s m t) hE _ s m ⟨hbr, h0, h1, h2, h3, rfl⟩ (.one (c := none) hwf (by (repeat first | exact Sub.refl _ | refine Sub.push hwf ?_ _ | refine Sub.set hwf ?_ (by first | exact Nat.le_refl _ | omega | (simp only [push_n, set_n, kill_n]; omega)) _ | refine Sub.kill hwf ?_ (by first | exact Nat.le_refl _ | omega | (simp only [push_n, set_n, kill_n]; omega)))) ⟨rfl, rfl⟩ (plain_map (fun _ => rfl) _) (by simp [frOk, AV.okR, AV.ok1, AC.okR, AV.ren, AV.ren1, AC.ren, AFrame.get, pl1_old, *]; first | done | rfl | omega)) (fun j f mi hlt hi => ?_) fun f mi hi => ?_
  · obtain ⟨hi, f0, f1, mi0, mi1, hte⟩ := hi
    have hft : f ≠ t := fun e => by subst e; exact List.cons_ne_nil _ _ hi.nil
    obtain ⟨i, hil, r, hLi, hh, hfi, hr⟩ := hi.inv hft
    have hLj : L[j] = (i : Int) := by injection hLi
    have hLr : L.drop (j + 1) = r := by injection hLi
    have hrow := tkL_row hlt hLj
    have htt := tkL_tk (Nat.le_of_lt hlt)
    have hjl : (tkL L j).length = j := tkL_len (Nat.le_of_lt hlt)
    have hjj : j ≤ j := Nat.le_refl _
    simp (config := {contextual := true, implicitDefEqProofs := false, maxSteps := 2000000}) [-Int.not_le, -Int.not_lt, argsF, impl_bestRoute_l1, hat_ps.blk, hat_ps.esz, hat_ps.len, hat_ps.els, hne_ps, hne1_ps, hne2_ps.1, hne2_ps.2.1, hne2_ps.2.2.1, hne2_ps.2.2.2.1, hne2_ps.2.2.2.2.1, hne2_ps.2.2.2.2.2.1, hne2_ps.2.2.2.2.2.2.1, hne2_ps.2.2.2.2.2.2.2.1, hne2_ps.2.2.2.2.2.2.2.2.1, hne2_ps.2.2.2.2.2.2.2.2.2.1, hne2_ps.2.2.2.2.2.2.2.2.2.2, hft]
    refine aloop_list ps (fun k _ => [(0, .c (.sl b_ps i_ps ps.length)), (1, .c (.int .i64 (f))), (2, .c (.int .i64 (mi))), (3, .c (.int .i64 (t))), (10, .c (.int .i64 (tm ps s m t))), (11, .c (.sl (H.n) (0) (j))), (26, .c (.sl b_ps i_ps ps.length)), (27, .c (.int .i64 ps.length)), (28, .c (.int .i64 ((k : Int))))]) (fun k _ => H.push (rowK eI 3 (tkL L j))) (fun k l _ => k ≤ i) hE _ () (Nat.zero_le _) (.since (by simp only [push_n]; omega) (hwfB j) (.refl _) (by simp [frOk, AV.okR, AV.ok1, AC.okR, AV.ren, AV.ren1, AC.ren, AFrame.get, pl1_old, *]; first | done | rfl | omega)) (fun k _ hkl hki => ?_) fun _ hki => ?_
    rotate_left
    · exfalso; omega
    have hk1 := idx_lt hkl
    have e1 := hat_ps.get hkl
    have w1 : IntKind.i64.wrap ((k : Int) + 1) = (k : Int) + 1 := wrap_id (by omega) (by omega)
    have hx := hvm _ (List.getElem_mem hkl)
    obtain ⟨m0, m1, m2, m3, m4, m5, m6, m7⟩ := isMa_b hx
    have m8 : 0 ≤ ps[k].arrive := by omega
    have t10 : t < 10 := by omega
    have tn : t.toNat < 10 := by omega
    have hlk : (scanT ps (startT ps[k].to ps[k].arrive)).length = 10 := by rw [scanT_len, startT_len]
    have hgt : (encL (scanT ps (startT ps[k].to ps[k].arrive)))[t.toNat]? = some (encT (tm ps ps[k].to ps[k].arrive t)) := encL_at hlk h4 h5
    have hgt2 : ∀ hlx : t.toNat < (encL (scanT ps (startT ps[k].to ps[k].arrive))).length, (encL (scanT ps (startT ps[k].to ps[k].arrive)))[t.toNat]'hlx = encT (tm ps ps[k].to ps[k].arrive t) := fun hlx => by rw [List.getElem?_eq_getElem hlx] at hgt; exact Option.some.inj hgt
    have hll : (encL (scanT ps (startT ps[k].to ps[k].arrive))).length = 10 := by rw [encL_len]; exact hlk
    by_cases hkk : k = i
    · subst hkk
      have hh2 := hh
      simp only [hitB, Bool.and_eq_true, decide_eq_true_eq] at hh2
      obtain ⟨d1, d2, d3⟩ := hh2
      have hev0 := d3
      have hev : encT (tm ps ps[k].to ps[k].arrive t) = tm ps s m t := by rw [hev0]; unfold encT; rw [if_neg c]
      have hs4 : (j + 1) * 8 ≤ 140737488355328 := by omega
      have hs5 : j + 1 ≤ 140737488355328 := by omega
      simp (config := {contextual := true, implicitDefEqProofs := false, maxSteps := 2000000}) [-Int.not_le, -Int.not_lt, argsF, impl_bestRoute_l0, hat_ps.blk, hat_ps.esz, hat_ps.len, hat_ps.els, hne_ps, hne1_ps, hne2_ps.1, hne2_ps.2.1, hne2_ps.2.2.1, hne2_ps.2.2.2.1, hne2_ps.2.2.2.2.1, hne2_ps.2.2.2.2.2.1, hne2_ps.2.2.2.2.2.2.1, hne2_ps.2.2.2.2.2.2.2.1, hne2_ps.2.2.2.2.2.2.2.2.1, hne2_ps.2.2.2.2.2.2.2.2.2.1, hne2_ps.2.2.2.2.2.2.2.2.2.2, e1, hkl, hk1, w1, d1, d2, hv, m2, m3, m8, m7, h4, t10, tn, hgt, hgt2, hll, hev, hjl, hs4, hs5, htt, hrow, rowK]
      exact ⟨_, _, ⟨by rw [hLr]; exact hr, m2, m3, m8, m7, d3⟩, .one (c := some (H.n + 1 + 1 + 1 + 1)) hwf (by (repeat first | exact Sub.refl _ | refine Sub.push hwf ?_ _ | refine Sub.set hwf ?_ (by first | exact Nat.le_refl _ | omega | (simp only [push_n, set_n, kill_n]; omega)) _ | refine Sub.kill hwf ?_ (by first | exact Nat.le_refl _ | omega | (simp only [push_n, set_n, kill_n]; omega)))) ⟨by omega, by simp [push_b, set_b, kill_b, rowK]; done⟩ (plain_map (fun _ => rfl) _) (by simp [frOk, AV.okR, AV.ok1, AC.okR, AV.ren, AV.ren1, AC.ren, AFrame.get, pl1_old, *]; first | done | rfl | omega)⟩
    · have hkl2 : k < i := by omega
      have hno := hfi k hkl2
      have hki2 : k + 1 ≤ i := hkl2
      by_cases d1 : ps[k].frm = f
      rotate_left
      · simp (config := {contextual := true, implicitDefEqProofs := false, maxSteps := 2000000}) [-Int.not_le, -Int.not_lt, argsF, impl_bestRoute_l0, hat_ps.blk, hat_ps.esz, hat_ps.len, hat_ps.els, hne_ps, hne1_ps, hne2_ps.1, hne2_ps.2.1, hne2_ps.2.2.1, hne2_ps.2.2.2.1, hne2_ps.2.2.2.2.1, hne2_ps.2.2.2.2.2.1, hne2_ps.2.2.2.2.2.2.1, hne2_ps.2.2.2.2.2.2.2.1, hne2_ps.2.2.2.2.2.2.2.2.1, hne2_ps.2.2.2.2.2.2.2.2.2.1, hne2_ps.2.2.2.2.2.2.2.2.2.2, e1, hkl, hk1, w1, d1, hv, m2, m3, m8, m7, h4, t10, tn, hgt, hgt2, hll, rowK]
        exact ⟨(), hki2, .since (by simp only [push_n]; omega) (hwfB j) (by have hwf := hwfB j; (repeat first | exact Sub.refl _ | refine Sub.push hwf ?_ _ | refine Sub.set hwf ?_ (by first | exact Nat.le_refl _ | omega | (simp only [push_n, set_n, kill_n]; omega)) _ | refine Sub.kill hwf ?_ (by first | exact Nat.le_refl _ | omega | (simp only [push_n, set_n, kill_n]; omega)))) (by simp [frOk, AV.okR, AV.ok1, AC.okR, AV.ren, AV.ren1, AC.ren, AFrame.get, pl1_old, *]; first | done | rfl | omega)⟩
      by_cases d2 : mi ≤ ps[k].leave
      rotate_left
      · simp (config := {contextual := true, implicitDefEqProofs := false, maxSteps := 2000000}) [-Int.not_le, -Int.not_lt, argsF, impl_bestRoute_l0, hat_ps.blk, hat_ps.esz, hat_ps.len, hat_ps.els, hne_ps, hne1_ps, hne2_ps.1, hne2_ps.2.1, hne2_ps.2.2.1, hne2_ps.2.2.2.1, hne2_ps.2.2.2.2.1, hne2_ps.2.2.2.2.2.1, hne2_ps.2.2.2.2.2.2.1, hne2_ps.2.2.2.2.2.2.2.1, hne2_ps.2.2.2.2.2.2.2.2.1, hne2_ps.2.2.2.2.2.2.2.2.2.1, hne2_ps.2.2.2.2.2.2.2.2.2.2, e1, hkl, hk1, w1, d1, d2, hv, m2, m3, m8, m7, h4, t10, tn, hgt, hgt2, hll, rowK]
        exact ⟨(), hki2, .since (by simp only [push_n]; omega) (hwfB j) (by have hwf := hwfB j; (repeat first | exact Sub.refl _ | refine Sub.push hwf ?_ _ | refine Sub.set hwf ?_ (by first | exact Nat.le_refl _ | omega | (simp only [push_n, set_n, kill_n]; omega)) _ | refine Sub.kill hwf ?_ (by first | exact Nat.le_refl _ | omega | (simp only [push_n, set_n, kill_n]; omega)))) (by simp [frOk, AV.okR, AV.ok1, AC.okR, AV.ren, AV.ren1, AC.ren, AFrame.get, pl1_old, *]; first | done | rfl | omega)⟩
      have hne1 := hitB_no hno d1 d2
      have hne2 : ¬ encT (tm ps ps[k].to ps[k].arrive t) = tm ps s m t := by unfold encT; split <;> omega
      simp (config := {contextual := true, implicitDefEqProofs := false, maxSteps := 2000000}) [-Int.not_le, -Int.not_lt, argsF, impl_bestRoute_l0, hat_ps.blk, hat_ps.esz, hat_ps.len, hat_ps.els, hne_ps, hne1_ps, hne2_ps.1, hne2_ps.2.1, hne2_ps.2.2.1, hne2_ps.2.2.2.1, hne2_ps.2.2.2.2.1, hne2_ps.2.2.2.2.2.1, hne2_ps.2.2.2.2.2.2.1, hne2_ps.2.2.2.2.2.2.2.1, hne2_ps.2.2.2.2.2.2.2.2.1, hne2_ps.2.2.2.2.2.2.2.2.2.1, hne2_ps.2.2.2.2.2.2.2.2.2.2, e1, hkl, hk1, w1, d1, d2, hv, m2, m3, m8, m7, h4, t10, tn, hgt, hgt2, hll, hne2, rowK]
      exact ⟨(), hki2, .since (by simp only [push_n]; omega) (hwfB j) (by have hwf := hwfB j; (repeat first | exact Sub.refl _ | refine Sub.push hwf ?_ _ | refine Sub.set hwf ?_ (by first | exact Nat.le_refl _ | omega | (simp only [push_n, set_n, kill_n]; omega)) _ | refine Sub.kill hwf ?_ (by first | exact Nat.le_refl _ | omega | (simp only [push_n, set_n, kill_n]; omega)))) (by simp [frOk, AV.okR, AV.ok1, AC.okR, AV.ren, AV.ren1, AC.ren, AFrame.get, pl1_old, *]; first | done | rfl | omega)⟩
  · obtain ⟨hi, f0, f1, mi0, mi1, hte⟩ := hi
    have hft : f = t := by
      cases hi with
      | done => rfl
    subst hft
    have hms : mi = tm ps s m f := by rw [← hte, tm_self hv ⟨f0, f1⟩ mi1]
    simp (config := {contextual := true, implicitDefEqProofs := false, maxSteps := 2000000}) [-Int.not_le, -Int.not_lt, argsF, impl_bestRoute_l1, tkL_all]
    exact (.one (c := some (H.n)) hwf (by (repeat first | exact Sub.refl _ | refine Sub.push hwf ?_ _ | refine Sub.set hwf ?_ (by first | exact Nat.le_refl _ | omega | (simp only [push_n, set_n, kill_n]; omega)) _ | refine Sub.kill hwf ?_ (by first | exact Nat.le_refl _ | omega | (simp only [push_n, set_n, kill_n]; omega)))) ⟨by omega, by simp [push_b, set_b, kill_b, rowK]; done⟩ (plain_map (fun _ => rfl) _) (by simp [frOk, AV.okR, AV.ok1, AC.okR, AV.ren, AV.ren1, AC.ren, AFrame.get, pl1_old, *]; first | done | rfl | omega) h)

theorem spec_BestRoute_s : Sound Try.prog 142 q_br := by
  intro args H K h
  unfold q_br at h
  split at h
  rotate_left
  all_goals first | exact False.elim h | skip
  rename_i ps_v s m t
  have h1 := Enc.rd_at h
  clear h
  obtain ⟨b_ps, i_ps, k_ps, ps, rfl, hat_ps, h⟩ := h1
  have hE := soundE_cons spec_EarliestAt_s (soundE_cons spec_l9Times_s (soundE_nil (P := Try.prog)))
  refine acalls_fn spec_BestRoute_k hE ⟨by simp, fun hwf => ?_⟩
  have hb_ps : b_ps < H.n := (hwf b_ps k_ps hat_ps.blk).1
  have hne_ps : (b_ps = H.n) = False := eq_false (by omega)
  have hne1_ps : ∀ i, (b_ps = H.n + i) = False := fun i => eq_false (by omega)
  have hne2_ps : (b_ps = H.n + 1 + 1) = False ∧ (b_ps = H.n + 1 + 1 + 1) = False ∧ (b_ps = H.n + 1 + 1 + 1 + 1) = False ∧ (b_ps = H.n + 1 + 1 + 1 + 1 + 1) = False ∧ (b_ps = H.n + 1 + 1 + 1 + 1 + 1 + 1) = False ∧ (b_ps = H.n + 1 + 1 + 1 + 1 + 1 + 1 + 1) = False ∧ (b_ps = H.n + 1 + 1 + 1 + 1 + 1 + 1 + 1 + 1) = False ∧ (b_ps = H.n + 1 + 1 + 1 + 1 + 1 + 1 + 1 + 1 + 1) = False ∧ (b_ps = H.n + 1 + 1 + 1 + 1 + 1 + 1 + 1 + 1 + 1 + 1) = False ∧ (b_ps = H.n + 1 + 1 + 1 + 1 + 1 + 1 + 1 + 1 + 1 + 1 + 1) = False ∧ (b_ps = H.n + 1 + 1 + 1 + 1 + 1 + 1 + 1 + 1 + 1 + 1 + 1 + 1) = False := ⟨eq_false (by omega), eq_false (by omega), eq_false (by omega), eq_false (by omega), eq_false (by omega), eq_false (by omega), eq_false (by omega), eq_false (by omega), eq_false (by omega), eq_false (by omega), eq_false (by omega)⟩
  have hmx_ps : ps.length ≤ 9223372036854775807 := by have h1 := (hwf b_ps k_ps hat_ps.blk).2.2; have h2 := hat_ps.len; omega
  obtain ⟨hv, h0, h1, h2, h3, h4, h5, h⟩ := h
  unfold brT at h
  by_cases c : tm ps s m t = 10000
  · rw [if_pos c] at h
    have hea : eaRes ps s m t = (0, false) := by unfold eaRes; rw [if_pos c]
    simp (config := {contextual := true, implicitDefEqProofs := false, maxSteps := 2000000}) [-Int.not_le, -Int.not_lt, argsF, spec_BestRoute_c, hat_ps.blk, hat_ps.esz, hat_ps.len, hat_ps.els, hne_ps, hne1_ps, hne2_ps.1, hne2_ps.2.1, hne2_ps.2.2.1, hne2_ps.2.2.2.1, hne2_ps.2.2.2.2.1, hne2_ps.2.2.2.2.2.1, hne2_ps.2.2.2.2.2.2.1, hne2_ps.2.2.2.2.2.2.2.1, hne2_ps.2.2.2.2.2.2.2.2.1, hne2_ps.2.2.2.2.2.2.2.2.2.1, hne2_ps.2.2.2.2.2.2.2.2.2.2, hv, h0, h1, h2, h3, h4, h5, hea]
    exact (.one (c := some (H.n)) hwf (by (repeat first | exact Sub.refl _ | refine Sub.push hwf ?_ _ | refine Sub.set hwf ?_ (by first | exact Nat.le_refl _ | omega | (simp only [push_n, set_n, kill_n]; omega)) _ | refine Sub.kill hwf ?_ (by first | exact Nat.le_refl _ | omega | (simp only [push_n, set_n, kill_n]; omega)))) ⟨by omega, by simp [push_b, set_b, kill_b, rowK]; done⟩ (plain_map (fun _ => rfl) _) (by simp [frOk, AV.okR, AV.ok1, AC.okR, AV.ren, AV.ren1, AC.ren, AFrame.get, pl1_old, *]; first | done | rfl | omega) h)
  rw [if_neg c] at h
  have hea : eaRes ps s m t = (tm ps s m t, true) := by unfold eaRes; rw [if_neg c]
  simp (config := {contextual := true, implicitDefEqProofs := false, maxSteps := 2000000}) [-Int.not_le, -Int.not_lt, argsF, spec_BestRoute_c, hat_ps.blk, hat_ps.esz, hat_ps.len, hat_ps.els, hne_ps, hne1_ps, hne2_ps.1, hne2_ps.2.1, hne2_ps.2.2.1, hne2_ps.2.2.2.1, hne2_ps.2.2.2.2.1, hne2_ps.2.2.2.2.2.1, hne2_ps.2.2.2.2.2.2.1, hne2_ps.2.2.2.2.2.2.2.1, hne2_ps.2.2.2.2.2.2.2.2.1, hne2_ps.2.2.2.2.2.2.2.2.2.1, hne2_ps.2.2.2.2.2.2.2.2.2.2, hv, h0, h1, h2, h3, h4, h5, hea]
  have hbr := brL_ok hv ⟨h4, h5⟩ ⟨h0, h1⟩ ⟨h2, h3⟩ c
  have hL := brL_len ps s m t
  have hvm := (areMa_at hv).1
  generalize brL ps s m t = L at h hbr hL ⊢
  have hwfB : ∀ n : Nat, (H.push (rowK eI 3 (tkL L n))).WF := fun n => wf_row hwf _ (by unfold tkL; rw [List.length_take]; omega)
  refine aloop_list2 L (fun j (f mi : Int) => [(0, .c (.sl b_ps i_ps ps.length)), (1, .c (.int .i64 (f))), (2, .c (.int .i64 (mi))), (3, .c (.int .i64 (t))), (10, .c (.sl (H.n) (0) (j))), (11, .c (.int .i64 (tm ps s m t)))]) (fun j _ _ => H.push (rowK eI 3 (tkL L j))) (fun j l f mi => BR ps t (tm ps s m t) f mi l ∧ 0 ≤ f ∧ f ≤ 9 ∧ 0 ≤ mi ∧ mi ≤ 9999 ∧ tm ps f mi t = tm ps s m t) hE _ s m ⟨hbr, h0, h1, h2, h3, rfl⟩ (.one (c := some (H.n)) hwf (by (repeat first | exact Sub.refl _ | refine Sub.push hwf ?_ _ | refine Sub.set hwf ?_ (by first | exact Nat.le_refl _ | omega | (simp only [push_n, set_n, kill_n]; omega)) _ | refine Sub.kill hwf ?_ (by first | exact Nat.le_refl _ | omega | (simp only [push_n, set_n, kill_n]; omega)))) ⟨by omega, by simp [push_b, set_b, kill_b, rowK]; done⟩ (plain_map (fun _ => rfl) _) (by simp [frOk, AV.okR, AV.ok1, AC.okR, AV.ren, AV.ren1, AC.ren, AFrame.get, pl1_old, *]; first | done | rfl | omega)) (fun j f mi hlt hi => ?_) fun f mi hi => ?_
  · obtain ⟨hi, f0, f1, mi0, mi1, hte⟩ := hi
    have hft : f ≠ t := fun e => by subst e; exact List.cons_ne_nil _ _ hi.nil
    obtain ⟨i, hil, r, hLi, hh, hfi, hr⟩ := hi.inv hft
    have hLj : L[j] = (i : Int) := by injection hLi
    have hLr : L.drop (j + 1) = r := by injection hLi
    have hrow := tkL_row hlt hLj
    have htt := tkL_tk (Nat.le_of_lt hlt)
    have hjl : (tkL L j).length = j := tkL_len (Nat.le_of_lt hlt)
    have hjj : j ≤ j := Nat.le_refl _
    simp (config := {contextual := true, implicitDefEqProofs := false, maxSteps := 2000000}) [-Int.not_le, -Int.not_lt, argsF, spec_BestRoute_l1, hat_ps.blk, hat_ps.esz, hat_ps.len, hat_ps.els, hne_ps, hne1_ps, hne2_ps.1, hne2_ps.2.1, hne2_ps.2.2.1, hne2_ps.2.2.2.1, hne2_ps.2.2.2.2.1, hne2_ps.2.2.2.2.2.1, hne2_ps.2.2.2.2.2.2.1, hne2_ps.2.2.2.2.2.2.2.1, hne2_ps.2.2.2.2.2.2.2.2.1, hne2_ps.2.2.2.2.2.2.2.2.2.1, hne2_ps.2.2.2.2.2.2.2.2.2.2, hft]
    refine aloop_list ps (fun k _ => [(0, .c (.sl b_ps i_ps ps.length)), (1, .c (.int .i64 (f))), (2, .c (.int .i64 (mi))), (3, .c (.int .i64 (t))), (10, .c (.sl (H.n) (0) (j))), (11, .c (.int .i64 (tm ps s m t))), (13, .c (.int .i64 ((k : Int))))]) (fun k _ => H.push (rowK eI 3 (tkL L j))) (fun k l _ => k ≤ i) hE _ () (Nat.zero_le _) (.since (by simp only [push_n]; omega) (hwfB j) (.refl _) (by simp [frOk, AV.okR, AV.ok1, AC.okR, AV.ren, AV.ren1, AC.ren, AFrame.get, pl1_old, *]; first | done | rfl | omega)) (fun k _ hkl hki => ?_) fun _ hki => ?_
    rotate_left
    · exfalso; omega
    have hk1 := idx_lt hkl
    have e1 := hat_ps.get hkl
    have w1 : IntKind.i64.wrap ((k : Int) + 1) = (k : Int) + 1 := wrap_id (by omega) (by omega)
    have hx := hvm _ (List.getElem_mem hkl)
    obtain ⟨m0, m1, m2, m3, m4, m5, m6, m7⟩ := isMa_b hx
    have m8 : 0 ≤ ps[k].arrive := by omega
    have t10 : t < 10 := by omega
    have tn : t.toNat < 10 := by omega
    have hlk : (scanT ps (startT ps[k].to ps[k].arrive)).length = 10 := by rw [scanT_len, startT_len]
    have hgt : (scanT ps (startT ps[k].to ps[k].arrive))[t.toNat]? = some (tm ps ps[k].to ps[k].arrive t) := gN_at hlk h4 h5
    have hgt2 : ∀ hlx : t.toNat < (scanT ps (startT ps[k].to ps[k].arrive)).length, (scanT ps (startT ps[k].to ps[k].arrive))[t.toNat]'hlx = tm ps ps[k].to ps[k].arrive t := fun hlx => by rw [List.getElem?_eq_getElem hlx] at hgt; exact Option.some.inj hgt
    have hll : (scanT ps (startT ps[k].to ps[k].arrive)).length = 10 := hlk
    by_cases hkk : k = i
    · subst hkk
      have hh2 := hh
      simp only [hitB, Bool.and_eq_true, decide_eq_true_eq] at hh2
      obtain ⟨d1, d2, d3⟩ := hh2
      have hev0 := d3
      have hev : tm ps ps[k].to ps[k].arrive t = tm ps s m t := hev0
      have hs4 : (j + 1) * 8 ≤ 140737488355328 := by omega
      have hs5 : j + 1 ≤ 140737488355328 := by omega
      simp (config := {contextual := true, implicitDefEqProofs := false, maxSteps := 2000000}) [-Int.not_le, -Int.not_lt, argsF, spec_BestRoute_l0, hat_ps.blk, hat_ps.esz, hat_ps.len, hat_ps.els, hne_ps, hne1_ps, hne2_ps.1, hne2_ps.2.1, hne2_ps.2.2.1, hne2_ps.2.2.2.1, hne2_ps.2.2.2.2.1, hne2_ps.2.2.2.2.2.1, hne2_ps.2.2.2.2.2.2.1, hne2_ps.2.2.2.2.2.2.2.1, hne2_ps.2.2.2.2.2.2.2.2.1, hne2_ps.2.2.2.2.2.2.2.2.2.1, hne2_ps.2.2.2.2.2.2.2.2.2.2, e1, hkl, hk1, w1, d1, d2, hv, m2, m3, m8, m7, h4, t10, tn, hgt, hgt2, hll, hev, hjl, hs4, hs5, htt, hrow, rowK]
      exact ⟨_, _, ⟨by rw [hLr]; exact hr, m2, m3, m8, m7, d3⟩, .one (c := some (H.n + 1 + 1 + 1 + 1)) hwf (by (repeat first | exact Sub.refl _ | refine Sub.push hwf ?_ _ | refine Sub.set hwf ?_ (by first | exact Nat.le_refl _ | omega | (simp only [push_n, set_n, kill_n]; omega)) _ | refine Sub.kill hwf ?_ (by first | exact Nat.le_refl _ | omega | (simp only [push_n, set_n, kill_n]; omega)))) ⟨by omega, by simp [push_b, set_b, kill_b, rowK]; done⟩ (plain_map (fun _ => rfl) _) (by simp [frOk, AV.okR, AV.ok1, AC.okR, AV.ren, AV.ren1, AC.ren, AFrame.get, pl1_old, *]; first | done | rfl | omega)⟩
    · have hkl2 : k < i := by omega
      have hno := hfi k hkl2
      have hki2 : k + 1 ≤ i := hkl2
      by_cases d1 : ps[k].frm = f
      rotate_left
      · simp (config := {contextual := true, implicitDefEqProofs := false, maxSteps := 2000000}) [-Int.not_le, -Int.not_lt, argsF, spec_BestRoute_l0, hat_ps.blk, hat_ps.esz, hat_ps.len, hat_ps.els, hne_ps, hne1_ps, hne2_ps.1, hne2_ps.2.1, hne2_ps.2.2.1, hne2_ps.2.2.2.1, hne2_ps.2.2.2.2.1, hne2_ps.2.2.2.2.2.1, hne2_ps.2.2.2.2.2.2.1, hne2_ps.2.2.2.2.2.2.2.1, hne2_ps.2.2.2.2.2.2.2.2.1, hne2_ps.2.2.2.2.2.2.2.2.2.1, hne2_ps.2.2.2.2.2.2.2.2.2.2, e1, hkl, hk1, w1, d1, hv, m2, m3, m8, m7, h4, t10, tn, hgt, hgt2, hll, rowK]
        exact ⟨(), hki2, .since (by simp only [push_n]; omega) (hwfB j) (by have hwf := hwfB j; (repeat first | exact Sub.refl _ | refine Sub.push hwf ?_ _ | refine Sub.set hwf ?_ (by first | exact Nat.le_refl _ | omega | (simp only [push_n, set_n, kill_n]; omega)) _ | refine Sub.kill hwf ?_ (by first | exact Nat.le_refl _ | omega | (simp only [push_n, set_n, kill_n]; omega)))) (by simp [frOk, AV.okR, AV.ok1, AC.okR, AV.ren, AV.ren1, AC.ren, AFrame.get, pl1_old, *]; first | done | rfl | omega)⟩
      by_cases d2 : mi ≤ ps[k].leave
      rotate_left
      · simp (config := {contextual := true, implicitDefEqProofs := false, maxSteps := 2000000}) [-Int.not_le, -Int.not_lt, argsF, spec_BestRoute_l0, hat_ps.blk, hat_ps.esz, hat_ps.len, hat_ps.els, hne_ps, hne1_ps, hne2_ps.1, hne2_ps.2.1, hne2_ps.2.2.1, hne2_ps.2.2.2.1, hne2_ps.2.2.2.2.1, hne2_ps.2.2.2.2.2.1, hne2_ps.2.2.2.2.2.2.1, hne2_ps.2.2.2.2.2.2.2.1, hne2_ps.2.2.2.2.2.2.2.2.1, hne2_ps.2.2.2.2.2.2.2.2.2.1, hne2_ps.2.2.2.2.2.2.2.2.2.2, e1, hkl, hk1, w1, d1, d2, hv, m2, m3, m8, m7, h4, t10, tn, hgt, hgt2, hll, rowK]
        exact ⟨(), hki2, .since (by simp only [push_n]; omega) (hwfB j) (by have hwf := hwfB j; (repeat first | exact Sub.refl _ | refine Sub.push hwf ?_ _ | refine Sub.set hwf ?_ (by first | exact Nat.le_refl _ | omega | (simp only [push_n, set_n, kill_n]; omega)) _ | refine Sub.kill hwf ?_ (by first | exact Nat.le_refl _ | omega | (simp only [push_n, set_n, kill_n]; omega)))) (by simp [frOk, AV.okR, AV.ok1, AC.okR, AV.ren, AV.ren1, AC.ren, AFrame.get, pl1_old, *]; first | done | rfl | omega)⟩
      have hne1 := hitB_no hno d1 d2
      have hne2 : ¬ tm ps ps[k].to ps[k].arrive t = tm ps s m t := hne1
      simp (config := {contextual := true, implicitDefEqProofs := false, maxSteps := 2000000}) [-Int.not_le, -Int.not_lt, argsF, spec_BestRoute_l0, hat_ps.blk, hat_ps.esz, hat_ps.len, hat_ps.els, hne_ps, hne1_ps, hne2_ps.1, hne2_ps.2.1, hne2_ps.2.2.1, hne2_ps.2.2.2.1, hne2_ps.2.2.2.2.1, hne2_ps.2.2.2.2.2.1, hne2_ps.2.2.2.2.2.2.1, hne2_ps.2.2.2.2.2.2.2.1, hne2_ps.2.2.2.2.2.2.2.2.1, hne2_ps.2.2.2.2.2.2.2.2.2.1, hne2_ps.2.2.2.2.2.2.2.2.2.2, e1, hkl, hk1, w1, d1, d2, hv, m2, m3, m8, m7, h4, t10, tn, hgt, hgt2, hll, hne2, rowK]
      exact ⟨(), hki2, .since (by simp only [push_n]; omega) (hwfB j) (by have hwf := hwfB j; (repeat first | exact Sub.refl _ | refine Sub.push hwf ?_ _ | refine Sub.set hwf ?_ (by first | exact Nat.le_refl _ | omega | (simp only [push_n, set_n, kill_n]; omega)) _ | refine Sub.kill hwf ?_ (by first | exact Nat.le_refl _ | omega | (simp only [push_n, set_n, kill_n]; omega)))) (by simp [frOk, AV.okR, AV.ok1, AC.okR, AV.ren, AV.ren1, AC.ren, AFrame.get, pl1_old, *]; first | done | rfl | omega)⟩
  · obtain ⟨hi, f0, f1, mi0, mi1, hte⟩ := hi
    have hft : f = t := by
      cases hi with
      | done => rfl
    subst hft
    have hms : mi = tm ps s m f := by rw [← hte, tm_self hv ⟨f0, f1⟩ mi1]
    simp (config := {contextual := true, implicitDefEqProofs := false, maxSteps := 2000000}) [-Int.not_le, -Int.not_lt, argsF, spec_BestRoute_l1, tkL_all, hms]
    exact (.one (c := some (H.n)) hwf (by (repeat first | exact Sub.refl _ | refine Sub.push hwf ?_ _ | refine Sub.set hwf ?_ (by first | exact Nat.le_refl _ | omega | (simp only [push_n, set_n, kill_n]; omega)) _ | refine Sub.kill hwf ?_ (by first | exact Nat.le_refl _ | omega | (simp only [push_n, set_n, kill_n]; omega)))) ⟨by omega, by simp [push_b, set_b, kill_b, rowK]; done⟩ (plain_map (fun _ => rfl) _) (by simp [frOk, AV.okR, AV.ok1, AC.okR, AV.ren, AV.ren1, AC.ren, AFrame.get, pl1_old, *]; first | done | rfl | omega) h)

end Go.Proofs.Ytjiffkjeijfilaa
