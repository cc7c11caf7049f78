/- The least minutes. -/
import Derived.Test.YtjiffkjeijfilaaCvQ
set_option maxRecDepth 8000
set_option linter.unusedSimpArgs false
set_option linter.unusedVariables false
namespace Go.Proofs.Ytjiffkjeijfilaa
open Go Go.RowKit

set_option maxHeartbeats 4000000

def q_mul64 : Con := fun args H K => match args with
  | [.c (.int .u64 a), .c (.int .u64 b)] => a = 1 ∧ b = 10 ∧ K (.tup [.c (.int .u64 0), .c (.int .u64 10)]) H
  | _ => False
@[simp ↓] theorem q_mul64_eq (a : Int) (b : Int) (H : AHeap) (K : AV → AHeap → Prop) : q_mul64 [.c (.int .u64 a), .c (.int .u64 b)] H K = (a = 1 ∧ b = 10 ∧ K (.tup [.c (.int .u64 0), .c (.int .u64 10)]) H) := rfl

theorem wk0 : IntKind.u64.wrap 0 = 0 := by decide
theorem wk1 : IntKind.u64.wrap 1 = 1 := by decide
theorem wk10 : IntKind.u64.wrap 10 = 10 := by decide

theorem math_bits_Mul64_s : Sound Try.prog 181 q_mul64 := by
  intro args H K h
  unfold q_mul64 at h
  split at h
  rotate_left
  all_goals first | exact False.elim h | skip
  rename_i a b
  have hE := soundE_nil (P := Try.prog)
  refine acalls_fn math_bits_Mul64_k hE ⟨by simp, fun hwf => ?_⟩
  obtain ⟨rfl, rfl, h⟩ := h
  simp (config := {contextual := true, implicitDefEqProofs := false, maxSteps := 2000000}) [-Int.not_le, -Int.not_lt, argsF, math_bits_Mul64_c, IntKind.bits, wk0, wk1, wk10]
  (refine Out.plain hwf ?_ rfl ?_; (repeat first | exact Sub.refl _ | refine Sub.push hwf ?_ _ | refine Sub.set hwf ?_ (by first | exact Nat.le_refl _ | omega | (simp only [push_n, set_n, kill_n]; omega)) _ | refine Sub.kill hwf ?_ (by first | exact Nat.le_refl _ | omega | (simp only [push_n, set_n, kill_n]; omega)))); exact h

theorem math_bits_Mul_s : Sound Try.prog 166 q_mul64 := by
  intro args H K h
  unfold q_mul64 at h
  split at h
  rotate_left
  all_goals first | exact False.elim h | skip
  rename_i a b
  have hE := soundE_cons math_bits_Mul64_s (soundE_nil (P := Try.prog))
  refine acalls_fn math_bits_Mul_k hE ⟨by simp, fun hwf => ?_⟩
  obtain ⟨rfl, rfl, h⟩ := h
  simp (config := {contextual := true, implicitDefEqProofs := false, maxSteps := 2000000}) [-Int.not_le, -Int.not_lt, argsF, math_bits_Mul_c]
  (refine Out.plain hwf ?_ rfl ?_; (repeat first | exact Sub.refl _ | refine Sub.push hwf ?_ _ | refine Sub.set hwf ?_ (by first | exact Nat.le_refl _ | omega | (simp only [push_n, set_n, kill_n]; omega)) _ | refine Sub.kill hwf ?_ (by first | exact Nat.le_refl _ | omega | (simp only [push_n, set_n, kill_n]; omega)))); exact h

def rep10 : List Int := List.replicate 10 (-1)

def q_rep10 : Con := fun args H K => match args with
  | [ps_v, .c (.int .i64 n)] => eI.rd H (fun ps => ps = [-1] ∧ n = 10 ∧ K (.c (.sl (H.n) (0) (10))) (H.push (rowK eI 3 rep10))) ps_v
  | _ => False
@[simp ↓] theorem q_rep10_eq (ps_v : AV) (n : Int) (H : AHeap) (K : AV → AHeap → Prop) : q_rep10 [ps_v, .c (.int .i64 n)] H K = (eI.rd H (fun ps => ps = [-1] ∧ n = 10 ∧ K (.c (.sl (H.n) (0) (10))) (H.push (rowK eI 3 rep10))) ps_v) := rfl

def repR : Nat → List Int
  | 0 => [-1, 0, 0, 0, 0, 0, 0, 0, 0, 0]
  | 1 => [-1, -1, 0, 0, 0, 0, 0, 0, 0, 0]
  | 2 => [-1, -1, -1, -1, 0, 0, 0, 0, 0, 0]
  | 3 => [-1, -1, -1, -1, -1, -1, -1, -1, 0, 0]
  | _ => [-1, -1, -1, -1, -1, -1, -1, -1, -1, -1]
def repN : Nat → Int
  | 0 => 1
  | 1 => 2
  | 2 => 4
  | 3 => 8
  | _ => 10

theorem push_setR {H : AHeap} {k k' : ABlk} {i : Nat} (h : i = H.n) : (H.push k).set i k' = H.push k' := by subst h; exact push_set' _ _ _

theorem slices_Repeat___int_int_s : Sound Try.prog 157 q_rep10 := by
  intro args H K h
  unfold q_rep10 at h
  split at h
  rotate_left
  all_goals first | exact False.elim h | skip
  rename_i ps_v n
  have h1 := Enc.rd_at h
  clear h
  obtain ⟨b_ps, i_ps, k_ps, ps, rfl, hat_ps, h⟩ := h1
  have hE := soundE_cons math_bits_Mul_s (soundE_nil (P := Try.prog))
  refine acalls_fn slices_Repeat___int_int__k hE ⟨by simp, fun hwf => ?_⟩
  have hb_ps : b_ps < H.n := (hwf b_ps k_ps hat_ps.blk).1
  have hne_ps : (b_ps = H.n) = False := eq_false (by omega)
  have hne1_ps : ∀ i, (b_ps = H.n + i) = False := fun i => eq_false (by omega)
  have hne2_ps : (b_ps = H.n + 1 + 1) = False ∧ (b_ps = H.n + 1 + 1 + 1) = False ∧ (b_ps = H.n + 1 + 1 + 1 + 1) = False ∧ (b_ps = H.n + 1 + 1 + 1 + 1 + 1) = False ∧ (b_ps = H.n + 1 + 1 + 1 + 1 + 1 + 1) = False ∧ (b_ps = H.n + 1 + 1 + 1 + 1 + 1 + 1 + 1) = False ∧ (b_ps = H.n + 1 + 1 + 1 + 1 + 1 + 1 + 1 + 1) = False ∧ (b_ps = H.n + 1 + 1 + 1 + 1 + 1 + 1 + 1 + 1 + 1) = False ∧ (b_ps = H.n + 1 + 1 + 1 + 1 + 1 + 1 + 1 + 1 + 1 + 1) = False ∧ (b_ps = H.n + 1 + 1 + 1 + 1 + 1 + 1 + 1 + 1 + 1 + 1 + 1) = False ∧ (b_ps = H.n + 1 + 1 + 1 + 1 + 1 + 1 + 1 + 1 + 1 + 1 + 1 + 1) = False := ⟨eq_false (by omega), eq_false (by omega), eq_false (by omega), eq_false (by omega), eq_false (by omega), eq_false (by omega), eq_false (by omega), eq_false (by omega), eq_false (by omega), eq_false (by omega), eq_false (by omega)⟩
  have hmx_ps : ps.length ≤ 9223372036854775807 := by have h1 := (hwf b_ps k_ps hat_ps.blk).2.2; have h2 := hat_ps.len; omega
  obtain ⟨rfl, rfl, h⟩ := h
  have hwfR : ∀ j : Nat, (H.push (rowK eI 3 (repR j))).WF := fun j => WF.push hwf (plain_map (fun _ => rfl) _) (by unfold repR; split <;> simp)
  have e0 := hat_ps.get (show 0 < ([-1] : List Int).length by simp)
  have htk : List.take 1 (List.drop i_ps k_ps.els) = [[AC.int .i64 (-1)]] := hat_ps.els
  have hl1 : i_ps + 1 ≤ k_ps.els.length := hat_ps.len
  have hmn : min 1 (min (k_ps.els.length - i_ps) 10) = 1 := by omega
  have wi10 : IntKind.i64.wrap 10 = 10 := by decide
  simp (config := {contextual := true, implicitDefEqProofs := false, maxSteps := 2000000}) [-Int.not_le, -Int.not_lt, argsF, slices_Repeat___int_int__c, hat_ps.blk, hat_ps.esz, hat_ps.len, hat_ps.els, hne_ps, hne1_ps, hne2_ps.1, hne2_ps.2.1, hne2_ps.2.2.1, hne2_ps.2.2.2.1, hne2_ps.2.2.2.2.1, hne2_ps.2.2.2.2.2.1, hne2_ps.2.2.2.2.2.2.1, hne2_ps.2.2.2.2.2.2.2.1, hne2_ps.2.2.2.2.2.2.2.2.1, hne2_ps.2.2.2.2.2.2.2.2.2.1, hne2_ps.2.2.2.2.2.2.2.2.2.2, e0, IntKind.bits, wk0, wk1, wk10, wi10, htk, hl1, hmn]
  refine aloop_list ([1, 2, 3, 4] : List Nat) (fun j _ => [(7, .c (.sl (H.n) (0) (10))), (8, .c (.int .i64 (repN j)))]) (fun j _ => H.push (rowK eI 3 (repR j))) (fun j l _ => True) hE _ () trivial (.since (by simp only [push_n]; omega) (hwfR 0) (.refl _) (by simp [frOk, AV.okR, AV.ok1, AC.okR, AV.ren, AV.ren1, AC.ren, AFrame.get, pl1_old, *]; first | done | rfl | omega)) (fun j _ hlt _ => ?_) fun _ _ => ?_
  · have hj4 : j < 4 := hlt
    have hjj : j = 0 ∨ j = 1 ∨ j = 2 ∨ j = 3 := by omega
    rcases hjj with rfl | rfl | rfl | rfl
    · simp (config := {contextual := true, implicitDefEqProofs := false, maxSteps := 2000000}) [-Int.not_le, -Int.not_lt, argsF, slices_Repeat___int_int__l0, repR, repN, rowK, push_setR]
      exact ⟨(), trivial, .since (by simp only [push_n]; omega) (hwfR 1) (.refl _) (by simp [frOk, AV.okR, AV.ok1, AC.okR, AV.ren, AV.ren1, AC.ren, AFrame.get, pl1_old, *]; first | done | rfl | omega)⟩
    · simp (config := {contextual := true, implicitDefEqProofs := false, maxSteps := 2000000}) [-Int.not_le, -Int.not_lt, argsF, slices_Repeat___int_int__l0, repR, repN, rowK, push_setR]
      exact ⟨(), trivial, .since (by simp only [push_n]; omega) (hwfR 2) (.refl _) (by simp [frOk, AV.okR, AV.ok1, AC.okR, AV.ren, AV.ren1, AC.ren, AFrame.get, pl1_old, *]; first | done | rfl | omega)⟩
    · simp (config := {contextual := true, implicitDefEqProofs := false, maxSteps := 2000000}) [-Int.not_le, -Int.not_lt, argsF, slices_Repeat___int_int__l0, repR, repN, rowK, push_setR]
      exact ⟨(), trivial, .since (by simp only [push_n]; omega) (hwfR 3) (.refl _) (by simp [frOk, AV.okR, AV.ok1, AC.okR, AV.ren, AV.ren1, AC.ren, AFrame.get, pl1_old, *]; first | done | rfl | omega)⟩
    · simp (config := {contextual := true, implicitDefEqProofs := false, maxSteps := 2000000}) [-Int.not_le, -Int.not_lt, argsF, slices_Repeat___int_int__l0, repR, repN, rowK, push_setR]
      exact ⟨(), trivial, .since (by simp only [push_n]; omega) (hwfR 4) (.refl _) (by simp [frOk, AV.okR, AV.ok1, AC.okR, AV.ren, AV.ren1, AC.ren, AFrame.get, pl1_old, *]; first | done | rfl | omega)⟩
  · simp (config := {contextual := true, implicitDefEqProofs := false, maxSteps := 2000000}) [-Int.not_le, -Int.not_lt, argsF, slices_Repeat___int_int__l0, repR, repN]
    rw [show rep10 = [-1, -1, -1, -1, -1, -1, -1, -1, -1, -1] from rfl] at h
    exact (.one (c := some (H.n)) hwf (by (repeat first | exact Sub.refl _ | refine Sub.push hwf ?_ _ | refine Sub.set hwf ?_ (by first | exact Nat.le_refl _ | omega | (simp only [push_n, set_n, kill_n]; omega)) _ | refine Sub.kill hwf ?_ (by first | exact Nat.le_refl _ | omega | (simp only [push_n, set_n, kill_n]; omega)))) ⟨by omega, by simp [push_b, set_b, kill_b, rowK]; done⟩ (plain_map (fun _ => rfl) _) (by simp [frOk, AV.okR, AV.ok1, AC.okR, AV.ren, AV.ren1, AC.ren, AFrame.get, pl1_old, *]; first | done | rfl | omega) h)

def encT (v : Int) : Int := if v = 10000 then -1 else v
def encL (out : List Int) : List Int := out.map encT
theorem encL_len (out : List Int) : (encL out).length = out.length := by simp [encL]
theorem gN_at {out : List Int} (hl : out.length = 10) {t : Int} (h0 : 0 ≤ t) (h1 : t ≤ 9) : out[t.toNat]? = some (gN out t) := by
  unfold gN
  rw [List.getD_eq_getElem?_getD, List.getElem?_eq_getElem (show t.toNat < out.length by omega)]; rfl
theorem encL_at {out : List Int} (hl : out.length = 10) {t : Int} (h0 : 0 ≤ t) (h1 : t ≤ 9) : (encL out)[t.toNat]? = some (encT (gN out t)) := by
  unfold encL
  rw [List.getElem?_map, gN_at hl h0 h1]; rfl
theorem encL_set (out : List Int) (i : Nat) (v : Int) (hv : v ≠ 10000) : encL (out.set i v) = (encL out).set i v := by
  unfold encL
  rw [List.map_set]
  congr 1
  unfold encT; rw [if_neg hv]
theorem rep10_start {s m : Int} (hm : m ≤ 9999) : encL (startT s m) = rep10.set s.toNat m := by
  unfold startT
  rw [encL_set _ _ _ (by omega)]
  rfl
theorem startT_b {s m : Int} (h0 : 0 ≤ m) (h1 : m ≤ 9999) : ∀ v ∈ startT s m, 0 ≤ v ∧ v ≤ 10000 := fun v hv => by
  unfold startT at hv
  rcases List.mem_or_eq_of_mem_set hv with hv | rfl
  · have := List.eq_of_mem_replicate hv; omega
  · omega
theorem gN_b {out : List Int} (hl : out.length = 10) (hb : ∀ v ∈ out, 0 ≤ v ∧ v ≤ 10000) {t : Int} (h0 : 0 ≤ t) (h1 : t ≤ 9) : 0 ≤ gN out t ∧ gN out t ≤ 10000 := hb _ (List.mem_of_getElem? (gN_at hl h0 h1))
theorem stepT_b {out : List Int} (hl : out.length = 10) (hb : ∀ v ∈ out, 0 ≤ v ∧ v ≤ 10000) {x : Ma} (hx : isMa x = true) : ∀ v ∈ stepT out x, 0 ≤ v ∧ v ≤ 10000 := fun v hv => by
  have hm := isMa_b hx
  have hg := gN_b hl hb (t := x.to) (by omega) (by omega)
  unfold stepT at hv
  split at hv
  · rcases List.mem_or_eq_of_mem_set hv with hv | rfl
    · exact hb v hv
    · split <;> omega
  · exact hb v hv
theorem set_same {out : List Int} (hl : out.length = 10) {t : Int} (h0 : 0 ≤ t) (h1 : t ≤ 9) : out.set t.toNat (gN out t) = out := by
  have h := gN_at hl h0 h1
  rw [List.getElem?_eq_some_iff] at h
  obtain ⟨h2, h3⟩ := h
  rw [← h3]; exact List.set_getElem_self h2
theorem stepT_no {out : List Int} {x : Ma} (h : ¬ gN out x.frm ≤ x.leave) : stepT out x = out := by unfold stepT; rw [if_neg h]
theorem stepT_old {out : List Int} (hl : out.length = 10) {x : Ma} (hx : isMa x = true) (h : ¬ x.arrive < gN out x.to) : stepT out x = out := by
  have hm := isMa_b hx
  unfold stepT
  split
  · exact set_same hl (by omega) (by omega)
  · rfl
theorem stepT_new {out : List Int} {x : Ma} (h : gN out x.frm ≤ x.leave) (h2 : x.arrive < gN out x.to) : stepT out x = out.set x.to.toNat x.arrive := by unfold stepT; rw [if_pos h, if_pos h2]
theorem set_low {H : AHeap} {k b k' : ABlk} {i : Nat} (h : i = H.n) : ((H.push k).push b).set i k' = (H.push k').push b := by
  subst h
  simp only [AHeap.push, AHeap.set, AHeap.mk.injEq, true_and, and_true]
  funext c
  by_cases h1 : c = H.n
  · have : ¬ c = H.n + 1 := by omega
    simp [h1]
  · simp [h1]
theorem wf_row {H : AHeap} (hwf : H.WF) (l : List Int) (h : l.length ≤ 1000000) : (H.push (rowK eI 3 l)).WF := WF.push hwf (plain_map (fun _ => rfl) _) (by simp; omega)

def q_early : Con := fun args H K => match args with
  | [ps_v, .c (.int .i64 s), .c (.int .i64 m)] => eMa.rd H (fun ps => areMa ps = true ∧ 0 ≤ s ∧ s ≤ 9 ∧ 0 ≤ m ∧ m ≤ 9999 ∧ K (.c (.sl (H.n) (0) (10))) (H.push (rowK eI 3 (encL (scanT ps (startT s m)))))) ps_v
  | _ => False
@[simp ↓] theorem q_early_eq (ps_v : AV) (s : Int) (m : Int) (H : AHeap) (K : AV → AHeap → Prop) : q_early [ps_v, .c (.int .i64 s), .c (.int .i64 m)] H K = (eMa.rd H (fun ps => areMa ps = true ∧ 0 ≤ s ∧ s ≤ 9 ∧ 0 ≤ m ∧ m ≤ 9999 ∧ K (.c (.sl (H.n) (0) (10))) (H.push (rowK eI 3 (encL (scanT ps (startT s m)))))) ps_v) := rfl

def q_times : Con := fun args H K => match args with
  | [ps_v, .c (.int .i64 s), .c (.int .i64 m)] => eMa.rd H (fun ps => areMa ps = true ∧ 0 ≤ s ∧ s ≤ 9 ∧ 0 ≤ m ∧ m ≤ 9999 ∧ K (.c (.sl (H.n) (0) (10))) (H.push (rowK eI 3 (scanT ps (startT s m))))) ps_v
  | _ => False
@[simp ↓] theorem q_times_eq (ps_v : AV) (s : Int) (m : Int) (H : AHeap) (K : AV → AHeap → Prop) : q_times [ps_v, .c (.int .i64 s), .c (.int .i64 m)] H K = (eMa.rd H (fun ps => areMa ps = true ∧ 0 ≤ s ∧ s ≤ 9 ∧ 0 ≤ m ∧ m ≤ 9999 ∧ K (.c (.sl (H.n) (0) (10))) (H.push (rowK eI 3 (scanT ps (startT s m))))) ps_v) := rfl

theorem impl_earliest_s : Sound Try.prog 131 q_early := by
  intro args H K h
  unfold q_early at h
  split at h
  rotate_left
  all_goals first | exact False.elim h | skip
  rename_i ps_v s m
  have h1 := Enc.rd_at h
  clear h
  obtain ⟨b_ps, i_ps, k_ps, ps, rfl, hat_ps, h⟩ := h1
  have hE := soundE_cons slices_Repeat___int_int_s (soundE_cons impl_inRange_s (soundE_nil (P := Try.prog)))
  refine acalls_fn impl_earliest_k hE ⟨by simp, fun hwf => ?_⟩
  have hb_ps : b_ps < H.n := (hwf b_ps k_ps hat_ps.blk).1
  have hne_ps : (b_ps = H.n) = False := eq_false (by omega)
  have hne1_ps : ∀ i, (b_ps = H.n + i) = False := fun i => eq_false (by omega)
  have hne2_ps : (b_ps = H.n + 1 + 1) = False ∧ (b_ps = H.n + 1 + 1 + 1) = False ∧ (b_ps = H.n + 1 + 1 + 1 + 1) = False ∧ (b_ps = H.n + 1 + 1 + 1 + 1 + 1) = False ∧ (b_ps = H.n + 1 + 1 + 1 + 1 + 1 + 1) = False ∧ (b_ps = H.n + 1 + 1 + 1 + 1 + 1 + 1 + 1) = False ∧ (b_ps = H.n + 1 + 1 + 1 + 1 + 1 + 1 + 1 + 1) = False ∧ (b_ps = H.n + 1 + 1 + 1 + 1 + 1 + 1 + 1 + 1 + 1) = False ∧ (b_ps = H.n + 1 + 1 + 1 + 1 + 1 + 1 + 1 + 1 + 1 + 1) = False ∧ (b_ps = H.n + 1 + 1 + 1 + 1 + 1 + 1 + 1 + 1 + 1 + 1 + 1) = False ∧ (b_ps = H.n + 1 + 1 + 1 + 1 + 1 + 1 + 1 + 1 + 1 + 1 + 1 + 1) = False := ⟨eq_false (by omega), eq_false (by omega), eq_false (by omega), eq_false (by omega), eq_false (by omega), eq_false (by omega), eq_false (by omega), eq_false (by omega), eq_false (by omega), eq_false (by omega), eq_false (by omega)⟩
  have hmx_ps : ps.length ≤ 9223372036854775807 := by have h1 := (hwf b_ps k_ps hat_ps.blk).2.2; have h2 := hat_ps.len; omega
  obtain ⟨hv, h0, h1, h2, h3, h⟩ := h
  have hvm := (areMa_at hv).1
  have hs10 : s < 10 := by omega
  have hst : (List.map eI.cells rep10).set s.toNat [AC.int .i64 m] = List.map eI.cells (encL (startT s m)) := by
    rw [rep10_start h3, List.map_set]; rfl
  have hr10 : rep10.length = 10 := rfl
  have hwfE : ∀ out : List Int, out.length = 10 → ((H.push (rowK eI 3 [-1])).push (rowK eI 3 (encL out))).WF := fun out hl => wf_row (wf_row hwf [-1] (by decide)) _ (by rw [encL_len]; omega)
  simp (config := {contextual := true, implicitDefEqProofs := false, maxSteps := 2000000}) [-Int.not_le, -Int.not_lt, argsF, impl_earliest_c, hat_ps.blk, hat_ps.esz, hat_ps.len, hat_ps.els, hne_ps, hne1_ps, hne2_ps.1, hne2_ps.2.1, hne2_ps.2.2.1, hne2_ps.2.2.2.1, hne2_ps.2.2.2.2.1, hne2_ps.2.2.2.2.2.1, hne2_ps.2.2.2.2.2.2.1, hne2_ps.2.2.2.2.2.2.2.1, hne2_ps.2.2.2.2.2.2.2.2.1, hne2_ps.2.2.2.2.2.2.2.2.2.1, hne2_ps.2.2.2.2.2.2.2.2.2.2, h0, hs10, hst, hr10, push_setR, rowK]
  refine aloop_list ps (fun j (out : List Int) => [(7, .c (.sl (H.n + 1) (0) (10))), (16, .c (.sl b_ps i_ps ps.length)), (17, .c (.int .i64 ps.length)), (18, .c (.int .i64 ((j : Int))))]) (fun j out => (H.push (rowK eI 3 [-1])).push (rowK eI 3 (encL out))) (fun j l out => scanT l out = scanT ps (startT s m) ∧ out.length = 10 ∧ ∀ v ∈ out, 0 ≤ v ∧ v ≤ 10000) hE _ (startT s m) ⟨rfl, startT_len s m, startT_b h2 h3⟩ (.since (by simp only [push_n]; omega) (hwfE _ (startT_len s m)) (.refl _) (by simp [frOk, AV.okR, AV.ok1, AC.okR, AV.ren, AV.ren1, AC.ren, AFrame.get, pl1_old, *]; first | done | rfl | omega)) (fun j out hlt hi => ?_) fun out hi => ?_
  · obtain ⟨hi, hl, hb⟩ := hi
    have hj1 := idx_lt hlt
    have e1 := hat_ps.get hlt
    have w1 : IntKind.i64.wrap ((j : Int) + 1) = (j : Int) + 1 := wrap_id (by omega) (by omega)
    have hx := hvm _ (List.getElem_mem hlt)
    have hm := isMa_b hx
    obtain ⟨m0, m1, m2, m3, m4, m5, m6, m7⟩ := hm
    have m1' : ps[j].frm < 10 := by omega
    have m3' : ps[j].to < 10 := by omega
    have gf := gN_b hl hb m0 m1
    have gt := gN_b hl hb m2 m3
    have hgf := encL_at hl m0 m1
    have hgt := encL_at hl m2 m3
    have hll : (encL out).length = 10 := by rw [encL_len]; exact hl
    have hgf2 : ∀ hlx : ps[j].frm.toNat < (encL out).length, (encL out)[ps[j].frm.toNat]'hlx = encT (gN out ps[j].frm) := fun hlx => by rw [List.getElem?_eq_getElem hlx] at hgf; exact Option.some.inj hgf
    have hgt2 : ∀ hlx : ps[j].to.toNat < (encL out).length, (encL out)[ps[j].to.toNat]'hlx = encT (gN out ps[j].to) := fun hlx => by rw [List.getElem?_eq_getElem hlx] at hgt; exact Option.some.inj hgt
    have m1n : ps[j].frm.toNat < 10 := by omega
    have m3n : ps[j].to.toNat < 10 := by omega
    have hl' : (stepT out ps[j]).length = 10 := by rw [stepT_len]; exact hl
    have hb' := stepT_b hl hb hx
    simp only [scanT] at hi
    have hin : inR (encT (gN out ps[j].frm)) 0 ps[j].leave = decide (gN out ps[j].frm ≤ ps[j].leave) := by
      unfold inR encT
      rw [decide_eq_decide]
      split <;> omega
    by_cases c1 : gN out ps[j].frm ≤ ps[j].leave
    rotate_left
    · rw [stepT_no c1] at hi
      rw [decide_eq_false c1] at hin
      simp (config := {contextual := true, implicitDefEqProofs := false, maxSteps := 2000000}) [-Int.not_le, -Int.not_lt, argsF, impl_earliest_l0, hat_ps.blk, hat_ps.esz, hat_ps.len, hat_ps.els, hne_ps, hne1_ps, hne2_ps.1, hne2_ps.2.1, hne2_ps.2.2.1, hne2_ps.2.2.2.1, hne2_ps.2.2.2.2.1, hne2_ps.2.2.2.2.2.1, hne2_ps.2.2.2.2.2.2.1, hne2_ps.2.2.2.2.2.2.2.1, hne2_ps.2.2.2.2.2.2.2.2.1, hne2_ps.2.2.2.2.2.2.2.2.2.1, hne2_ps.2.2.2.2.2.2.2.2.2.2, e1, hlt, hj1, w1, m0, m1', m2, m3', hgf, hgt, hgf2, hgt2, m1n, m3n, hll, hin, c1, rowK]
      exact ⟨out, ⟨hi, hl, hb⟩, .since (by simp only [push_n]; omega) (hwfE out hl) (by have hwf := hwfE out hl; (repeat first | exact Sub.refl _ | refine Sub.push hwf ?_ _ | refine Sub.set hwf ?_ (by first | exact Nat.le_refl _ | omega | (simp only [push_n, set_n, kill_n]; omega)) _ | refine Sub.kill hwf ?_ (by first | exact Nat.le_refl _ | omega | (simp only [push_n, set_n, kill_n]; omega)))) (by simp [frOk, AV.okR, AV.ok1, AC.okR, AV.ren, AV.ren1, AC.ren, AFrame.get, pl1_old, *]; first | done | rfl | omega)⟩
    rw [decide_eq_true c1] at hin
    by_cases c2 : ps[j].arrive < gN out ps[j].to
    rotate_left
    · rw [stepT_old hl hx c2] at hi
      have c3 : ¬ encT (gN out ps[j].to) < 0 := by unfold encT; split <;> omega
      have c4 : ¬ ps[j].arrive < encT (gN out ps[j].to) := by unfold encT; split <;> omega
      simp (config := {contextual := true, implicitDefEqProofs := false, maxSteps := 2000000}) [-Int.not_le, -Int.not_lt, argsF, impl_earliest_l0, hat_ps.blk, hat_ps.esz, hat_ps.len, hat_ps.els, hne_ps, hne1_ps, hne2_ps.1, hne2_ps.2.1, hne2_ps.2.2.1, hne2_ps.2.2.2.1, hne2_ps.2.2.2.2.1, hne2_ps.2.2.2.2.2.1, hne2_ps.2.2.2.2.2.2.1, hne2_ps.2.2.2.2.2.2.2.1, hne2_ps.2.2.2.2.2.2.2.2.1, hne2_ps.2.2.2.2.2.2.2.2.2.1, hne2_ps.2.2.2.2.2.2.2.2.2.2, e1, hlt, hj1, w1, m0, m1', m2, m3', hgf, hgt, hgf2, hgt2, m1n, m3n, hll, hin, c1, c3, c4, rowK]
      exact ⟨out, ⟨hi, hl, hb⟩, .since (by simp only [push_n]; omega) (hwfE out hl) (by have hwf := hwfE out hl; (repeat first | exact Sub.refl _ | refine Sub.push hwf ?_ _ | refine Sub.set hwf ?_ (by first | exact Nat.le_refl _ | omega | (simp only [push_n, set_n, kill_n]; omega)) _ | refine Sub.kill hwf ?_ (by first | exact Nat.le_refl _ | omega | (simp only [push_n, set_n, kill_n]; omega)))) (by simp [frOk, AV.okR, AV.ok1, AC.okR, AV.ren, AV.ren1, AC.ren, AFrame.get, pl1_old, *]; first | done | rfl | omega)⟩
    have hset : (List.map eI.cells (encL out)).set ps[j].to.toNat [AC.int .i64 ps[j].arrive] = List.map eI.cells (encL (stepT out ps[j])) := by
      rw [stepT_new c1 c2, encL_set _ _ _ (by omega), List.map_set]; rfl
    by_cases c3 : encT (gN out ps[j].to) < 0
    · simp (config := {contextual := true, implicitDefEqProofs := false, maxSteps := 2000000}) [-Int.not_le, -Int.not_lt, argsF, impl_earliest_l0, hat_ps.blk, hat_ps.esz, hat_ps.len, hat_ps.els, hne_ps, hne1_ps, hne2_ps.1, hne2_ps.2.1, hne2_ps.2.2.1, hne2_ps.2.2.2.1, hne2_ps.2.2.2.2.1, hne2_ps.2.2.2.2.2.1, hne2_ps.2.2.2.2.2.2.1, hne2_ps.2.2.2.2.2.2.2.1, hne2_ps.2.2.2.2.2.2.2.2.1, hne2_ps.2.2.2.2.2.2.2.2.2.1, hne2_ps.2.2.2.2.2.2.2.2.2.2, e1, hlt, hj1, w1, m0, m1', m2, m3', hgf, hgt, hgf2, hgt2, m1n, m3n, hll, hin, c1, c3, hset, set_low, push_setR, rowK]
      exact ⟨stepT out ps[j], ⟨hi, hl', hb'⟩, .since (by simp only [push_n]; omega) (hwfE _ hl') (by have hwf := hwfE _ hl'; (repeat first | exact Sub.refl _ | refine Sub.push hwf ?_ _ | refine Sub.set hwf ?_ (by first | exact Nat.le_refl _ | omega | (simp only [push_n, set_n, kill_n]; omega)) _ | refine Sub.kill hwf ?_ (by first | exact Nat.le_refl _ | omega | (simp only [push_n, set_n, kill_n]; omega)))) (by simp [frOk, AV.okR, AV.ok1, AC.okR, AV.ren, AV.ren1, AC.ren, AFrame.get, pl1_old, *]; first | done | rfl | omega)⟩
    · have c4 : ps[j].arrive < encT (gN out ps[j].to) := by unfold encT at c3 ⊢; split <;> rename_i q <;> simp only [q, if_true, if_false] at c3 <;> omega
      simp (config := {contextual := true, implicitDefEqProofs := false, maxSteps := 2000000}) [-Int.not_le, -Int.not_lt, argsF, impl_earliest_l0, hat_ps.blk, hat_ps.esz, hat_ps.len, hat_ps.els, hne_ps, hne1_ps, hne2_ps.1, hne2_ps.2.1, hne2_ps.2.2.1, hne2_ps.2.2.2.1, hne2_ps.2.2.2.2.1, hne2_ps.2.2.2.2.2.1, hne2_ps.2.2.2.2.2.2.1, hne2_ps.2.2.2.2.2.2.2.1, hne2_ps.2.2.2.2.2.2.2.2.1, hne2_ps.2.2.2.2.2.2.2.2.2.1, hne2_ps.2.2.2.2.2.2.2.2.2.2, e1, hlt, hj1, w1, m0, m1', m2, m3', hgf, hgt, hgf2, hgt2, m1n, m3n, hll, hin, c1, c3, c4, hset, set_low, push_setR, rowK]
      exact ⟨stepT out ps[j], ⟨hi, hl', hb'⟩, .since (by simp only [push_n]; omega) (hwfE _ hl') (by have hwf := hwfE _ hl'; (repeat first | exact Sub.refl _ | refine Sub.push hwf ?_ _ | refine Sub.set hwf ?_ (by first | exact Nat.le_refl _ | omega | (simp only [push_n, set_n, kill_n]; omega)) _ | refine Sub.kill hwf ?_ (by first | exact Nat.le_refl _ | omega | (simp only [push_n, set_n, kill_n]; omega)))) (by simp [frOk, AV.okR, AV.ok1, AC.okR, AV.ren, AV.ren1, AC.ren, AFrame.get, pl1_old, *]; first | done | rfl | omega)⟩
  · obtain ⟨hi, hl, hb⟩ := hi
    simp only [scanT] at hi
    simp (config := {contextual := true, implicitDefEqProofs := false, maxSteps := 2000000}) [-Int.not_le, -Int.not_lt, argsF, impl_earliest_l0, hat_ps.blk, hat_ps.esz, hat_ps.len, hat_ps.els, hne_ps, hne1_ps, hne2_ps.1, hne2_ps.2.1, hne2_ps.2.2.1, hne2_ps.2.2.2.1, hne2_ps.2.2.2.2.1, hne2_ps.2.2.2.2.2.1, hne2_ps.2.2.2.2.2.2.1, hne2_ps.2.2.2.2.2.2.2.1, hne2_ps.2.2.2.2.2.2.2.2.1, hne2_ps.2.2.2.2.2.2.2.2.2.1, hne2_ps.2.2.2.2.2.2.2.2.2.2]
    rw [← hi] at h
    exact (.one (c := some (H.n + 1)) hwf (by (repeat first | exact Sub.refl _ | refine Sub.push hwf ?_ _ | refine Sub.set hwf ?_ (by first | exact Nat.le_refl _ | omega | (simp only [push_n, set_n, kill_n]; omega)) _ | refine Sub.kill hwf ?_ (by first | exact Nat.le_refl _ | omega | (simp only [push_n, set_n, kill_n]; omega)))) ⟨by omega, by simp [push_b, set_b, kill_b, rowK]; done⟩ (plain_map (fun _ => rfl) _) (by simp [frOk, AV.okR, AV.ok1, AC.okR, AV.ren, AV.ren1, AC.ren, AFrame.get, pl1_old, *]; first | done | rfl | omega) h)

end Go.Proofs.Ytjiffkjeijfilaa
