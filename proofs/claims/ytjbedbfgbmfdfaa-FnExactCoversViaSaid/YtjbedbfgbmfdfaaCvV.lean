/- Covers via an office: the closure, the search. -/
import Derived.Test.YtjbedbfgbmfdfaaCvO
set_option maxRecDepth 8000
set_option linter.unusedSimpArgs false
set_option linter.unusedVariables false
namespace Go.Proofs.Ytjbedbfgbmfdfaa
open Go Go.RowKit

set_option maxHeartbeats 4000000

def cell1 (k : ABlk) : Option AC := match k.els with
  | [[x]] => some x
  | _ => none
theorem cell1_els {k : ABlk} {x : AC} (h : cell1 k = some x) : k.els = [[x]] := by
  unfold cell1 at h
  split at h
  · rename_i m e; cases h; exact e
  · cases h
def viaB (ms : List Ma) (n i : Int) : Bool := match ms[i.toNat]? with
  | some x => decide (x.to = n)
  | none => false
theorem viaB_at {ms : List Ma} {n i : Int} (h : i.toNat < ms.length) : viaB ms n i = decide ((ms[i.toNat]'h).to = n) := by unfold viaB; rw [List.getElem?_eq_getElem h]
def anyV (ms : List Ma) (n : Int) (l : List Int) : Bool := l.any (viaB ms n)
theorem ixOf_anyV {p : Int → Bool} : ∀ (l : List Int) (j : Nat), decide (0 ≤ ixOf p l j) = l.any p
  | [], j => by simp [ixOf]
  | x :: r, j => by
    simp only [ixOf, List.any_cons]
    by_cases hx : p x = true
    · simp [hx]
    · simp only [hx, if_false, Bool.false_or, reduceCtorEq]; exact ixOf_anyV r (j + 1)
/-- the two boxes that the closure holds -/
def twoB (H : AHeap) (a c : Nat) (K : List Ma → Int → Prop) : Prop := onv (H.b a) fun ka => onv (cell1 ka) fun v => eMa.rd H (fun ms => onv (H.b c) fun kc => onv (boxI kc) fun n => K ms n) (.c v)
theorem twoB_at {H : AHeap} {a c : Nat} {K : List Ma → Int → Prop} (h : twoB H a c K) : ∃ ka b i k ms kc n, H.b a = some ka ∧ ka.els = [[.sl b i ms.length]] ∧ eMa.At H b i k ms ∧ H.b c = some kc ∧ kc.els = [[.int .i64 n]] ∧ K ms n := by
  have h1 := onv_iff.1 h
  clear h
  obtain ⟨ka, hka, h⟩ := h1
  have h1 := onv_iff.1 h
  clear h
  obtain ⟨v, hv, h⟩ := h1
  obtain ⟨b, i, k, ms, e, hat, h'⟩ := Enc.rd_at h
  clear h
  have h1 := onv_iff.1 h'
  clear h'
  obtain ⟨kc, hkc, h⟩ := h1
  have h1 := onv_iff.1 h
  clear h
  obtain ⟨n, hn, h⟩ := h1
  injection e with e
  subst e
  exact ⟨ka, b, i, k, ms, kc, n, hka, cell1_els hv, hat, hkc, boxI_els hn, h⟩
theorem twoB_eq {H : AHeap} {a c : Nat} {ka kc k : ABlk} {b i : Nat} {ms : List Ma} {n : Int} (h1 : H.b a = some ka) (h2 : ka.els = [[.sl b i ms.length]]) (h3 : eMa.At H b i k ms) (h4 : H.b c = some kc) (h5 : kc.els = [[.int .i64 n]]) (K : List Ma → Int → Prop) : twoB H a c K = K ms n := by
  have e1 : cell1 ka = some (.sl b i ms.length) := by unfold cell1; rw [h2]
  have e2 : boxI kc = some n := by unfold boxI; rw [h5]
  unfold twoB
  rw [h1]
  show onv (cell1 ka) _ = _
  rw [e1]
  show eMa.rd H _ (.c (.sl b i ms.length)) = _
  rw [h3.rd, h4]
  show onv (boxI kc) _ = _
  rw [e2]; rfl
def q_cv1 : Con := fun args H K => match args with
  | [.c (.int .i64 i), .c (.ptr a 0 0), .c (.ptr c 0 0)] => twoB H a c fun ms n => 0 ≤ i ∧ i < (ms.length : Int) ∧ K (.c (.bool (viaB ms n i))) H
  | _ => False
@[simp ↓] theorem q_cv1_eq (i : Int) (a c : Nat) (H : AHeap) (K : AV → AHeap → Prop) : q_cv1 [.c (.int .i64 i), .c (.ptr a 0 0), .c (.ptr c 0 0)] H K = (twoB H a c fun ms n => 0 ≤ i ∧ i < (ms.length : Int) ∧ K (.c (.bool (viaB ms n i))) H) := rfl

theorem impl_CoversVia_1_s : Sound Try.prog 78 q_cv1 := by
  intro args H K h
  unfold q_cv1 at h
  split at h
  rotate_left
  all_goals first | exact False.elim h | skip
  rename_i i a c
  obtain ⟨ka, b_ms, i_ms, k_ms, ms, kc, n, hka, ela, hat_ms, hkc, elc, i0, i1, h⟩ := twoB_at h
  have hE := soundE_nil (P := Try.prog)
  refine acalls_fn impl_CoversVia_1_k hE ⟨by simp, fun hwf => ?_⟩
  have hb_ms : b_ms < H.n := (hwf b_ms k_ms hat_ms.blk).1
  have hne_ms : (b_ms = H.n) = False := eq_false (by omega)
  have hne1_ms : ∀ i, (b_ms = H.n + i) = False := fun i => eq_false (by omega)
  have hne2_ms : (b_ms = H.n + 1 + 1) = False ∧ (b_ms = H.n + 1 + 1 + 1) = False ∧ (b_ms = H.n + 1 + 1 + 1 + 1) = False ∧ (b_ms = H.n + 1 + 1 + 1 + 1 + 1) = False ∧ (b_ms = H.n + 1 + 1 + 1 + 1 + 1 + 1) = False ∧ (b_ms = H.n + 1 + 1 + 1 + 1 + 1 + 1 + 1) = False ∧ (b_ms = H.n + 1 + 1 + 1 + 1 + 1 + 1 + 1 + 1) = False ∧ (b_ms = H.n + 1 + 1 + 1 + 1 + 1 + 1 + 1 + 1 + 1) = False ∧ (b_ms = H.n + 1 + 1 + 1 + 1 + 1 + 1 + 1 + 1 + 1 + 1) = False ∧ (b_ms = H.n + 1 + 1 + 1 + 1 + 1 + 1 + 1 + 1 + 1 + 1 + 1) = False ∧ (b_ms = H.n + 1 + 1 + 1 + 1 + 1 + 1 + 1 + 1 + 1 + 1 + 1 + 1) = False := ⟨eq_false (by omega), eq_false (by omega), eq_false (by omega), eq_false (by omega), eq_false (by omega), eq_false (by omega), eq_false (by omega), eq_false (by omega), eq_false (by omega), eq_false (by omega), eq_false (by omega)⟩
  have hmx_ms : ms.length ≤ 9223372036854775807 := by have h1 := (hwf b_ms k_ms hat_ms.blk).2.2; have h2 := hat_ms.len; omega
  have il : i.toNat < ms.length := by omega
  have e1 := hat_ms.get il
  rw [viaB_at il] at h
  have htn : ((i.toNat : Nat) : Int) = i := by omega
  simp (config := {contextual := true, implicitDefEqProofs := false, maxSteps := 2000000}) [-Int.not_le, -Int.not_lt, argsF, impl_CoversVia_1_c, hka, ela, hkc, elc, hat_ms.blk, hat_ms.esz, hat_ms.len, hat_ms.els, hne_ms, hne1_ms, hne2_ms.1, hne2_ms.2.1, hne2_ms.2.2.1, hne2_ms.2.2.2.1, hne2_ms.2.2.2.2.1, hne2_ms.2.2.2.2.2.1, hne2_ms.2.2.2.2.2.2.1, hne2_ms.2.2.2.2.2.2.2.1, hne2_ms.2.2.2.2.2.2.2.2.1, hne2_ms.2.2.2.2.2.2.2.2.2.1, hne2_ms.2.2.2.2.2.2.2.2.2.2, i0, i1, il, e1]
  (refine Out.plain hwf ?_ rfl ?_; (repeat first | exact Sub.refl _ | refine Sub.push hwf ?_ _ | refine Sub.set hwf ?_ (by first | exact Nat.le_refl _ | omega | (simp only [push_n, set_n, kill_n]; omega)) _ | refine Sub.kill hwf ?_ (by first | exact Nat.le_refl _ | omega | (simp only [push_n, set_n, kill_n]; omega)))); exact h

def q_ixv : Con := fun args H K => match args with
  | [ps_v, .c (.fn g [a, c])] => eI.rd H (fun ps => g = 78 ∧ twoB H a c fun ms n => (∀ i ∈ ps, 0 ≤ i ∧ i < (ms.length : Int)) ∧ K (.c (.int .i64 (ixOf (viaB ms n) ps 0))) H) ps_v
  | _ => False
@[simp ↓] theorem q_ixv_eq (ps_v : AV) (g a c : Nat) (H : AHeap) (K : AV → AHeap → Prop) : q_ixv [ps_v, .c (.fn g [a, c])] H K = (eI.rd H (fun ps => g = 78 ∧ twoB H a c fun ms n => (∀ i ∈ ps, 0 ≤ i ∧ i < (ms.length : Int)) ∧ K (.c (.int .i64 (ixOf (viaB ms n) ps 0))) H) ps_v) := rfl

def q_cfv : Con := fun args H K => match args with
  | [ps_v, .c (.fn g [a, c])] => eI.rd H (fun ps => g = 78 ∧ twoB H a c fun ms n => (∀ i ∈ ps, 0 ≤ i ∧ i < (ms.length : Int)) ∧ K (.c (.bool (anyV ms n ps))) H) ps_v
  | _ => False
@[simp ↓] theorem q_cfv_eq (ps_v : AV) (g a c : Nat) (H : AHeap) (K : AV → AHeap → Prop) : q_cfv [ps_v, .c (.fn g [a, c])] H K = (eI.rd H (fun ps => g = 78 ∧ twoB H a c fun ms n => (∀ i ∈ ps, 0 ≤ i ∧ i < (ms.length : Int)) ∧ K (.c (.bool (anyV ms n ps))) H) ps_v) := rfl

theorem slices_IndexFunc___int_int_s : Sound Try.prog 127 q_ixv := by
  intro args H K h
  unfold q_ixv at h
  split at h
  rotate_left
  all_goals first | exact False.elim h | skip
  rename_i ps_v g a c
  have h1 := Enc.rd_at h
  clear h
  obtain ⟨b_ps, i_ps, k_ps, ps, rfl, hat_ps, hg, h⟩ := h1
  subst hg
  have h1 := twoB_at h
  clear h
  obtain ⟨ka, b_ms, i_ms, k_ms, ms, kc, n, hka, ela, hat_ms, hkc, elc, hin, h⟩ := h1
  have hE := soundE_cons impl_CoversVia_1_s (soundE_nil (P := Try.prog))
  refine acalls_fn slices_IndexFunc___int_int__k hE ⟨by simp, fun hwf => ?_⟩
  have hb_ps : b_ps < H.n := (hwf b_ps k_ps hat_ps.blk).1
  have hne_ps : (b_ps = H.n) = False := eq_false (by omega)
  have hne1_ps : ∀ i, (b_ps = H.n + i) = False := fun i => eq_false (by omega)
  have hne2_ps : (b_ps = H.n + 1 + 1) = False ∧ (b_ps = H.n + 1 + 1 + 1) = False ∧ (b_ps = H.n + 1 + 1 + 1 + 1) = False ∧ (b_ps = H.n + 1 + 1 + 1 + 1 + 1) = False ∧ (b_ps = H.n + 1 + 1 + 1 + 1 + 1 + 1) = False ∧ (b_ps = H.n + 1 + 1 + 1 + 1 + 1 + 1 + 1) = False ∧ (b_ps = H.n + 1 + 1 + 1 + 1 + 1 + 1 + 1 + 1) = False ∧ (b_ps = H.n + 1 + 1 + 1 + 1 + 1 + 1 + 1 + 1 + 1) = False ∧ (b_ps = H.n + 1 + 1 + 1 + 1 + 1 + 1 + 1 + 1 + 1 + 1) = False ∧ (b_ps = H.n + 1 + 1 + 1 + 1 + 1 + 1 + 1 + 1 + 1 + 1 + 1) = False ∧ (b_ps = H.n + 1 + 1 + 1 + 1 + 1 + 1 + 1 + 1 + 1 + 1 + 1 + 1) = False := ⟨eq_false (by omega), eq_false (by omega), eq_false (by omega), eq_false (by omega), eq_false (by omega), eq_false (by omega), eq_false (by omega), eq_false (by omega), eq_false (by omega), eq_false (by omega), eq_false (by omega)⟩
  have hmx_ps : ps.length ≤ 9223372036854775807 := by have h1 := (hwf b_ps k_ps hat_ps.blk).2.2; have h2 := hat_ps.len; omega
  have hb_ms : b_ms < H.n := (hwf b_ms k_ms hat_ms.blk).1
  have hne_ms : (b_ms = H.n) = False := eq_false (by omega)
  have hne1_ms : ∀ i, (b_ms = H.n + i) = False := fun i => eq_false (by omega)
  have hne2_ms : (b_ms = H.n + 1 + 1) = False ∧ (b_ms = H.n + 1 + 1 + 1) = False ∧ (b_ms = H.n + 1 + 1 + 1 + 1) = False ∧ (b_ms = H.n + 1 + 1 + 1 + 1 + 1) = False ∧ (b_ms = H.n + 1 + 1 + 1 + 1 + 1 + 1) = False ∧ (b_ms = H.n + 1 + 1 + 1 + 1 + 1 + 1 + 1) = False ∧ (b_ms = H.n + 1 + 1 + 1 + 1 + 1 + 1 + 1 + 1) = False ∧ (b_ms = H.n + 1 + 1 + 1 + 1 + 1 + 1 + 1 + 1 + 1) = False ∧ (b_ms = H.n + 1 + 1 + 1 + 1 + 1 + 1 + 1 + 1 + 1 + 1) = False ∧ (b_ms = H.n + 1 + 1 + 1 + 1 + 1 + 1 + 1 + 1 + 1 + 1 + 1) = False ∧ (b_ms = H.n + 1 + 1 + 1 + 1 + 1 + 1 + 1 + 1 + 1 + 1 + 1 + 1) = False := ⟨eq_false (by omega), eq_false (by omega), eq_false (by omega), eq_false (by omega), eq_false (by omega), eq_false (by omega), eq_false (by omega), eq_false (by omega), eq_false (by omega), eq_false (by omega), eq_false (by omega)⟩
  have hmx_ms : ms.length ≤ 9223372036854775807 := by have h1 := (hwf b_ms k_ms hat_ms.blk).2.2; have h2 := hat_ms.len; omega
  have hab : a < H.n := (hwf a ka hka).1
  have hcb : c < H.n := (hwf c kc hkc).1
  have h2 := fun K => twoB_eq hka ela hat_ms hkc elc K
  simp (config := {contextual := true, implicitDefEqProofs := false, maxSteps := 2000000}) [-Int.not_le, -Int.not_lt, argsF, slices_IndexFunc___int_int__c, hat_ps.blk, hat_ps.esz, hat_ps.len, hat_ps.els, hne_ps, hne1_ps, hne2_ps.1, hne2_ps.2.1, hne2_ps.2.2.1, hne2_ps.2.2.2.1, hne2_ps.2.2.2.2.1, hne2_ps.2.2.2.2.2.1, hne2_ps.2.2.2.2.2.2.1, hne2_ps.2.2.2.2.2.2.2.1, hne2_ps.2.2.2.2.2.2.2.2.1, hne2_ps.2.2.2.2.2.2.2.2.2.1, hne2_ps.2.2.2.2.2.2.2.2.2.2]
  refine aloop_list ps (fun j _ => [(0, .c (.sl b_ps i_ps ps.length)), (1, .c (.fn 78 [a, c])), (7, .c (.int .i64 ps.length)), (8, .c (.int .i64 ((j : Int))))]) (fun j _ => H) (fun j l _ => K (.c (.int .i64 (ixOf (viaB ms n) l j))) H) hE _ () h (.same hwf (by simp [frOk, AV.okR, AV.ok1, AC.okR, AV.ren, AV.ren1, AC.ren, AFrame.get, pl1_old, *]; first | done | rfl | omega)) (fun j _ hlt hi => ?_) fun _ hi => ?_
  · have hj1 := idx_lt hlt
    have e1 := hat_ps.get hlt
    have w1 : IntKind.i64.wrap ((j : Int) + 1) = (j : Int) + 1 := wrap_id (by omega) (by omega)
    have hb := hin _ (List.getElem_mem hlt)
    simp only [ixOf] at hi
    by_cases hv : viaB ms n ps[j] = true
    · rw [if_pos hv] at hi
      simp (config := {contextual := true, implicitDefEqProofs := false, maxSteps := 2000000}) [-Int.not_le, -Int.not_lt, argsF, slices_IndexFunc___int_int__l0, hat_ps.blk, hat_ps.esz, hat_ps.len, hat_ps.els, hne_ps, hne1_ps, hne2_ps.1, hne2_ps.2.1, hne2_ps.2.2.1, hne2_ps.2.2.2.1, hne2_ps.2.2.2.2.1, hne2_ps.2.2.2.2.2.1, hne2_ps.2.2.2.2.2.2.1, hne2_ps.2.2.2.2.2.2.2.1, hne2_ps.2.2.2.2.2.2.2.2.1, hne2_ps.2.2.2.2.2.2.2.2.2.1, hne2_ps.2.2.2.2.2.2.2.2.2.2, hj1, e1, hlt, w1, h2, hb.1, hb.2, hv]
      (refine Out.plain hwf ?_ rfl ?_; (repeat first | exact Sub.refl _ | refine Sub.push hwf ?_ _ | refine Sub.set hwf ?_ (by first | exact Nat.le_refl _ | omega | (simp only [push_n, set_n, kill_n]; omega)) _ | refine Sub.kill hwf ?_ (by first | exact Nat.le_refl _ | omega | (simp only [push_n, set_n, kill_n]; omega)))); exact hi
    · have hv' : viaB ms n ps[j] = false := by simpa using hv
      rw [if_neg hv] at hi
      simp (config := {contextual := true, implicitDefEqProofs := false, maxSteps := 2000000}) [-Int.not_le, -Int.not_lt, argsF, slices_IndexFunc___int_int__l0, hat_ps.blk, hat_ps.esz, hat_ps.len, hat_ps.els, hne_ps, hne1_ps, hne2_ps.1, hne2_ps.2.1, hne2_ps.2.2.1, hne2_ps.2.2.2.1, hne2_ps.2.2.2.2.1, hne2_ps.2.2.2.2.2.1, hne2_ps.2.2.2.2.2.2.1, hne2_ps.2.2.2.2.2.2.2.1, hne2_ps.2.2.2.2.2.2.2.2.1, hne2_ps.2.2.2.2.2.2.2.2.2.1, hne2_ps.2.2.2.2.2.2.2.2.2.2, hj1, e1, hlt, w1, h2, hb.1, hb.2, hv']
      exact ⟨(), hi, .drop hwf (by (repeat first | exact Sub.refl _ | refine Sub.push hwf ?_ _ | refine Sub.set hwf ?_ (by first | exact Nat.le_refl _ | omega | (simp only [push_n, set_n, kill_n]; omega)) _ | refine Sub.kill hwf ?_ (by first | exact Nat.le_refl _ | omega | (simp only [push_n, set_n, kill_n]; omega)))) (by simp [frOk, AV.okR, AV.ok1, AC.okR, AV.ren, AV.ren1, AC.ren, AFrame.get, pl1_old, *]; first | done | rfl | omega)⟩
  · simp only [ixOf] at hi
    simp (config := {contextual := true, implicitDefEqProofs := false, maxSteps := 2000000}) [-Int.not_le, -Int.not_lt, argsF, slices_IndexFunc___int_int__l0, hat_ps.blk, hat_ps.esz, hat_ps.len, hat_ps.els, hne_ps, hne1_ps, hne2_ps.1, hne2_ps.2.1, hne2_ps.2.2.1, hne2_ps.2.2.2.1, hne2_ps.2.2.2.2.1, hne2_ps.2.2.2.2.2.1, hne2_ps.2.2.2.2.2.2.1, hne2_ps.2.2.2.2.2.2.2.1, hne2_ps.2.2.2.2.2.2.2.2.1, hne2_ps.2.2.2.2.2.2.2.2.2.1, hne2_ps.2.2.2.2.2.2.2.2.2.2]
    (refine Out.plain hwf ?_ rfl ?_; (repeat first | exact Sub.refl _ | refine Sub.push hwf ?_ _ | refine Sub.set hwf ?_ (by first | exact Nat.le_refl _ | omega | (simp only [push_n, set_n, kill_n]; omega)) _ | refine Sub.kill hwf ?_ (by first | exact Nat.le_refl _ | omega | (simp only [push_n, set_n, kill_n]; omega)))); exact hi

theorem slices_ContainsFunc___int_int_s : Sound Try.prog 77 q_cfv := by
  intro args H K h
  unfold q_cfv at h
  split at h
  rotate_left
  all_goals first | exact False.elim h | skip
  rename_i ps_v g a c
  have h1 := Enc.rd_at h
  clear h
  obtain ⟨b_ps, i_ps, k_ps, ps, rfl, hat_ps, hg, h⟩ := h1
  subst hg
  have h1 := twoB_at h
  clear h
  obtain ⟨ka, b_ms, i_ms, k_ms, ms, kc, n, hka, ela, hat_ms, hkc, elc, hin, h⟩ := h1
  have hE := soundE_cons slices_IndexFunc___int_int_s (soundE_nil (P := Try.prog))
  refine acalls_fn slices_ContainsFunc___int_int__k hE ⟨by simp, fun hwf => ?_⟩
  have hb_ps : b_ps < H.n := (hwf b_ps k_ps hat_ps.blk).1
  have hne_ps : (b_ps = H.n) = False := eq_false (by omega)
  have hne1_ps : ∀ i, (b_ps = H.n + i) = False := fun i => eq_false (by omega)
  have hne2_ps : (b_ps = H.n + 1 + 1) = False ∧ (b_ps = H.n + 1 + 1 + 1) = False ∧ (b_ps = H.n + 1 + 1 + 1 + 1) = False ∧ (b_ps = H.n + 1 + 1 + 1 + 1 + 1) = False ∧ (b_ps = H.n + 1 + 1 + 1 + 1 + 1 + 1) = False ∧ (b_ps = H.n + 1 + 1 + 1 + 1 + 1 + 1 + 1) = False ∧ (b_ps = H.n + 1 + 1 + 1 + 1 + 1 + 1 + 1 + 1) = False ∧ (b_ps = H.n + 1 + 1 + 1 + 1 + 1 + 1 + 1 + 1 + 1) = False ∧ (b_ps = H.n + 1 + 1 + 1 + 1 + 1 + 1 + 1 + 1 + 1 + 1) = False ∧ (b_ps = H.n + 1 + 1 + 1 + 1 + 1 + 1 + 1 + 1 + 1 + 1 + 1) = False ∧ (b_ps = H.n + 1 + 1 + 1 + 1 + 1 + 1 + 1 + 1 + 1 + 1 + 1 + 1) = False := ⟨eq_false (by omega), eq_false (by omega), eq_false (by omega), eq_false (by omega), eq_false (by omega), eq_false (by omega), eq_false (by omega), eq_false (by omega), eq_false (by omega), eq_false (by omega), eq_false (by omega)⟩
  have hmx_ps : ps.length ≤ 9223372036854775807 := by have h1 := (hwf b_ps k_ps hat_ps.blk).2.2; have h2 := hat_ps.len; omega
  have hb_ms : b_ms < H.n := (hwf b_ms k_ms hat_ms.blk).1
  have hne_ms : (b_ms = H.n) = False := eq_false (by omega)
  have hne1_ms : ∀ i, (b_ms = H.n + i) = False := fun i => eq_false (by omega)
  have hne2_ms : (b_ms = H.n + 1 + 1) = False ∧ (b_ms = H.n + 1 + 1 + 1) = False ∧ (b_ms = H.n + 1 + 1 + 1 + 1) = False ∧ (b_ms = H.n + 1 + 1 + 1 + 1 + 1) = False ∧ (b_ms = H.n + 1 + 1 + 1 + 1 + 1 + 1) = False ∧ (b_ms = H.n + 1 + 1 + 1 + 1 + 1 + 1 + 1) = False ∧ (b_ms = H.n + 1 + 1 + 1 + 1 + 1 + 1 + 1 + 1) = False ∧ (b_ms = H.n + 1 + 1 + 1 + 1 + 1 + 1 + 1 + 1 + 1) = False ∧ (b_ms = H.n + 1 + 1 + 1 + 1 + 1 + 1 + 1 + 1 + 1 + 1) = False ∧ (b_ms = H.n + 1 + 1 + 1 + 1 + 1 + 1 + 1 + 1 + 1 + 1 + 1) = False ∧ (b_ms = H.n + 1 + 1 + 1 + 1 + 1 + 1 + 1 + 1 + 1 + 1 + 1 + 1) = False := ⟨eq_false (by omega), eq_false (by omega), eq_false (by omega), eq_false (by omega), eq_false (by omega), eq_false (by omega), eq_false (by omega), eq_false (by omega), eq_false (by omega), eq_false (by omega), eq_false (by omega)⟩
  have hmx_ms : ms.length ≤ 9223372036854775807 := by have h1 := (hwf b_ms k_ms hat_ms.blk).2.2; have h2 := hat_ms.len; omega
  have hab : a < H.n := (hwf a ka hka).1
  have hcb : c < H.n := (hwf c kc hkc).1
  have h2 := fun K => twoB_eq hka ela hat_ms hkc elc K
  simp (config := {contextual := true, implicitDefEqProofs := false, maxSteps := 2000000}) [-Int.not_le, -Int.not_lt, argsF, slices_ContainsFunc___int_int__c, hat_ps.blk, hat_ps.esz, hat_ps.len, hat_ps.els, hne_ps, hne1_ps, hne2_ps.1, hne2_ps.2.1, hne2_ps.2.2.1, hne2_ps.2.2.2.1, hne2_ps.2.2.2.2.1, hne2_ps.2.2.2.2.2.1, hne2_ps.2.2.2.2.2.2.1, hne2_ps.2.2.2.2.2.2.2.1, hne2_ps.2.2.2.2.2.2.2.2.1, hne2_ps.2.2.2.2.2.2.2.2.2.1, hne2_ps.2.2.2.2.2.2.2.2.2.2, h2, hin]
  unfold anyV at h
  rw [← ixOf_anyV ps 0] at h
  (refine Out.plain hwf ?_ rfl ?_; (repeat first | exact Sub.refl _ | refine Sub.push hwf ?_ _ | refine Sub.set hwf ?_ (by first | exact Nat.le_refl _ | omega | (simp only [push_n, set_n, kill_n]; omega)) _ | refine Sub.kill hwf ?_ (by first | exact Nat.le_refl _ | omega | (simp only [push_n, set_n, kill_n]; omega)))); exact h

end Go.Proofs.Ytjbedbfgbmfdfaa
