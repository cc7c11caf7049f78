/- What a postmark shows; how it reads. -/
import Derived.Test.YtnehhdcaknppnaaDoorPoR
set_option maxRecDepth 8000
set_option linter.unusedSimpArgs false
set_option linter.unusedVariables false
namespace Go.Proofs.YtnehhdcaknppnaaDoor
open Go Go.RowKit

set_option maxHeartbeats 1000000
theorem bytesOf_map : ∀ l : List UInt8, bytesOf (l.map fun b => [AC.int .u8 (b.toNat : Int)]) = some l
  | [] => rfl
  | b :: r => by
    have e : UInt8.ofNat ((b.toNat : Int)).toNat = b := by simp
    simp only [List.map_cons, bytesOf, bytesOf_map r, Option.map_some, e]
def shRes (p : Po) : List UInt8 × Bool := if isPo p = true then (shown p, true) else ([], false)
theorem shown_len {p : Po} (h : p.lost.length = p.town.length) : (shown p).length = p.town.length := by simp [shown, h]
theorem shown_get {p : Po} (h : p.lost.length = p.town.length) {j : Nat} (hj : j < p.town.length) : (shown p)[j]? = some (if p.lost[j]'(by omega) = 120 then 63 else p.town[j]) := by
  have h2 : j < p.lost.length := by omega
  simp [shown, List.getElem?_zipWith, hj, h2]
def readsGo : List UInt8 → List UInt8 → Bool
  | a :: r, b :: t => if a = b then readsGo r t else if a = 63 then readsGo r t else if b = 63 then readsGo r t else false
  | _, _ => true
def reads (a b : List UInt8) : Bool := if a.length = b.length then readsGo a b else false

def q_shown : Con := fun args H K => match args with
  | [.agg p_e] => onv (ePo.dec p_e) fun p => p.lost.length = p.town.length ∧ p.town.length ≤ 1000 ∧ K (.c (.str (shown p))) H
  | _ => False
@[simp ↓] theorem q_shown_eq (p_e : List AC) (H : AHeap) (K : AV → AHeap → Prop) : q_shown [.agg p_e] H K = (onv (ePo.dec p_e) fun p => p.lost.length = p.town.length ∧ p.town.length ≤ 1000 ∧ K (.c (.str (shown p))) H) := rfl

theorem spec_l11Shown_s : Sound Tryd.prog 61 q_shown := by
  intro args H K h
  unfold q_shown at h
  split at h
  rotate_left
  all_goals first | exact False.elim h | skip
  rename_i p_e
  have h1 := onv_iff.1 h
  clear h
  obtain ⟨p, hd_p, h⟩ := h1
  obtain rfl := ePo.cd _ _ hd_p
  clear hd_p
  have hE := soundE_nil (P := Tryd.prog)
  refine acalls_fn spec_l11Shown_k hE ⟨by simp, fun hwf => ?_⟩
  obtain ⟨hlen, hmx, h⟩ := h
  simp (config := {contextual := true, implicitDefEqProofs := false, maxSteps := 60000}) [-Int.not_le, -Int.not_lt, argsF, spec_l11Shown_c]
  have hwfB := boxP_wf hwf p
  have hsl := shown_len hlen
  refine aloop_list p.town (fun j _ => [(1, .c (.ptr H.n 0 0)), (3, .c (.str ((shown p).take j))), (4, .c (.int .i64 (j)))]) (fun j _ => H.push (boxP p)) (fun j l _ => True) hE _ () trivial (Weak.since (H := H.push (boxP p)) (by simp only [push_n]; omega) hwfB (.refl _) (by simp [frOk, AV.okR, AV.ok1, AC.okR, AV.ren, AV.ren1, AC.ren, AFrame.get, pl1_old, *]; first | done | omega)) (fun j _ hlt hi => ?_) fun _ hi => ?_
  · have hj1 := idx_lt hlt
    have w1 : IntKind.i64.wrap ((j : Int) + 1) = (j : Int) + 1 := wrap_id (by omega) (by omega)
    have hl2 : j < p.lost.length := by omega
    have hj2 := idx_lt hl2
    have hcg : p.lost[j]? = some p.lost[j] := List.getElem?_eq_getElem hl2
    have hct : p.town[j]? = some p.town[j] := List.getElem?_eq_getElem hlt
    have hsg := shown_get hlen hlt
    have hs1 : j < (shown p).length := by omega
    rw [List.getElem?_eq_getElem hs1, Option.some.injEq] at hsg
    have hst := List.take_succ_eq_append_getElem hs1
    rw [hsg] at hst
    have hd : List.drop j (List.take (j + 1) p.town) = [p.town[j]] := by
      rw [List.drop_take, Nat.add_sub_cancel_left, List.drop_eq_getElem_cons hlt]; rfl
    simp (config := {contextual := true, implicitDefEqProofs := false, maxSteps := 60000}) [-Int.not_le, -Int.not_lt, argsF, spec_l11Shown_l0, boxP, hj1, hj2, w1, hcg, hct, hlt, hl2, hd]
    refine ite_i (fun hc => ?_) (fun hc => ?_)
    · rw [if_pos hc] at hst
      refine ⟨by omega, ?_⟩
      rw [← hst]
      exact ⟨(), trivial, .since (by simp only [push_n]; omega) hwfB (.refl _) (by simp [frOk, AV.okR, AV.ok1, AC.okR, AV.ren, AV.ren1, AC.ren, AFrame.get, pl1_old, *]; first | done | omega)⟩
    · rw [if_neg hc] at hst
      refine ⟨by omega, by omega, by omega, ?_⟩
      rw [← hst]
      exact ⟨(), trivial, .since (by simp only [push_n]; omega) hwfB (.refl _) (by simp [frOk, AV.okR, AV.ok1, AC.okR, AV.ren, AV.ren1, AC.ren, AFrame.get, pl1_old, *]; first | done | omega)⟩
  · have hT : (shown p).take p.town.length = shown p := by rw [← hsl, List.take_length]
    simp (config := {contextual := true, implicitDefEqProofs := false, maxSteps := 60000}) [-Int.not_le, -Int.not_lt, argsF, spec_l11Shown_l0, boxP, hT]
    (refine Out.plain hwf ?_ rfl ?_; (repeat first | exact Sub.refl _ | refine Sub.push hwf ?_ _ | refine Sub.set hwf ?_ (by first | exact Nat.le_refl _ | omega) _ | refine Sub.kill hwf ?_ (by first | exact Nat.le_refl _ | omega))); exact h

def byK (l : List UInt8) : ABlk := ⟨5, 1, false, true, l.map fun c => [AC.int .u8 (c.toNat : Int)]⟩
theorem byK_wf {H : AHeap} (hwf : H.WF) {l : List UInt8} (h : l.length ≤ 1000) : (H.push (byK l)).WF := WF.push hwf (fun e he x hx => by
  simp only [byK, List.mem_map] at he
  obtain ⟨c, _, rfl⟩ := he
  rw [List.mem_singleton.1 hx]
  trivial) (by simp [byK]; omega)
theorem upd_keep {α : Type} {new old : List α} (h : new.length = old.length) {j : Nat} (hj : j < old.length) (hx : new[j]? = some old[j]) : upd new old (j + 1) = upd new old j := by
  have h1 := upd_set h hj hx
  have h2 := upd_get h hj
  rw [← h1]
  apply List.ext_getElem?
  intro i
  rw [List.getElem?_set]
  split
  · rename_i e; subst e
    have h3 : j < (upd new old j).length := (List.getElem?_eq_some_iff.1 h2).1
    rw [if_pos h3, h2]
  · rfl

theorem impl_shownBy_s : Sound Tryd.prog 62 q_shown := by
  intro args H K h
  unfold q_shown at h
  split at h
  rotate_left
  all_goals first | exact False.elim h | skip
  rename_i p_e
  have h1 := onv_iff.1 h
  clear h
  obtain ⟨p, hd_p, h⟩ := h1
  obtain rfl := ePo.cd _ _ hd_p
  clear hd_p
  have hE := soundE_nil (P := Tryd.prog)
  refine acalls_fn impl_shownBy_k hE ⟨by simp, fun hwf => ?_⟩
  obtain ⟨hlen, hmx, h⟩ := h
  simp (config := {contextual := true, implicitDefEqProofs := false, maxSteps := 60000}) [-Int.not_le, -Int.not_lt, argsF, impl_shownBy_c]
  have hwfB := boxP_wf hwf p
  have hsl := shown_len hlen
  refine ⟨by omega, ?_⟩
  refine aloop_list p.town (fun j _ => [(1, .c (.ptr H.n 0 0)), (3, .c (.sl (H.n + 1) (0) (p.town.length))), (9, .c (.int .i64 p.town.length)), (10, .c (.int .i64 (j)))]) (fun j _ => (H.push (boxP p)).push (byK (upd (shown p) p.town j))) (fun j l _ => True) hE _ () trivial ?_ (fun j _ hlt hi => ?_) fun _ hi => ?_
  · rw [upd_0]
    exact Weak.since (H := (H.push (boxP p)).push (byK p.town)) (by simp only [push_n]; omega) (byK_wf hwfB hmx) (.refl _) (by simp [frOk, AV.okR, AV.ok1, AC.okR, AV.ren, AV.ren1, AC.ren, AFrame.get, pl1_old, *]; first | done | omega)
  · have hj1 := idx_lt hlt
    have w1 : IntKind.i64.wrap ((j : Int) + 1) = (j : Int) + 1 := wrap_id (by omega) (by omega)
    have hl2 : j < p.lost.length := by omega
    have hj2 := idx_lt hl2
    have hcg : p.lost[j]? = some p.lost[j] := List.getElem?_eq_getElem hl2
    have hsg := shown_get hlen hlt
    have hul := upd_len hsl (j := j) (by omega)
    have hul2 := upd_len hsl (j := j + 1) (by omega)
    simp (config := {contextual := true, implicitDefEqProofs := false, maxSteps := 60000}) [-Int.not_le, -Int.not_lt, argsF, impl_shownBy_l0, boxP, byK, hj1, hj2, w1, hcg, hlt, hl2, hul]
    refine ite_i (fun hc => ?_) (fun hc => ?_)
    · rw [if_pos hc] at hsg
      have hus := upd_set hsl hlt hsg
      have e2 : ((upd (shown p) p.town j).map (fun c : UInt8 => [AC.int .u8 (c.toNat : Int)])).set j [AC.int .u8 63] = (upd (shown p) p.town (j + 1)).map (fun c : UInt8 => [AC.int .u8 (c.toNat : Int)]) := by
        rw [← hus, List.map_set]; rfl
      have hps := push_set (H := H.push (boxP p)) (byK (upd (shown p) p.town j)) (byK (upd (shown p) p.town (j + 1)))
      simp only [byK, boxP, push_n] at hps
      rw [e2, hps]
      exact ⟨(), trivial, Weak.since (H := (H.push (boxP p)).push (byK (upd (shown p) p.town (j + 1)))) (by simp only [push_n]; omega) (byK_wf hwfB (by omega)) (.refl _) (by simp [frOk, AV.okR, AV.ok1, AC.okR, AV.ren, AV.ren1, AC.ren, AFrame.get, pl1_old, *]; first | done | omega)⟩
    · rw [if_neg hc] at hsg
      have huk := upd_keep hsl hlt hsg
      rw [← huk]
      exact ⟨(), trivial, Weak.since (H := (H.push (boxP p)).push (byK (upd (shown p) p.town (j + 1)))) (by simp only [push_n]; omega) (byK_wf hwfB (by omega)) (.refl _) (by simp [frOk, AV.okR, AV.ok1, AC.okR, AV.ren, AV.ren1, AC.ren, AFrame.get, pl1_old, *]; first | done | omega)⟩
  · have hT : upd (shown p) p.town p.town.length = shown p := upd_all hsl
    have hbm := bytesOf_map (shown p)
    have hbt : List.take p.town.length ((shown p).map (fun c : UInt8 => [AC.int .u8 (c.toNat : Int)])) = (shown p).map (fun c : UInt8 => [AC.int .u8 (c.toNat : Int)]) := List.take_of_length_le (by simp [hsl])
    simp (config := {contextual := true, implicitDefEqProofs := false, maxSteps := 60000}) [-Int.not_le, -Int.not_lt, argsF, impl_shownBy_l0, boxP, byK, hT, hsl, hbt, hbm]
    (refine Out.plain hwf ?_ rfl ?_; (repeat first | exact Sub.refl _ | refine Sub.push hwf ?_ _ | refine Sub.set hwf ?_ (by first | exact Nat.le_refl _ | omega) _ | refine Sub.kill hwf ?_ (by first | exact Nat.le_refl _ | omega))); exact h

def q_reads : Con := fun args H K => match args with
  | [.c (.str a), .c (.str b)] => a.length ≤ 9223372036854775806 ∧ K (.c (.bool (reads a b))) H
  | _ => False
@[simp ↓] theorem q_reads_eq (a : List UInt8) (b : List UInt8) (H : AHeap) (K : AV → AHeap → Prop) : q_reads [.c (.str a), .c (.str b)] H K = (a.length ≤ 9223372036854775806 ∧ K (.c (.bool (reads a b))) H) := rfl

theorem impl_readsAs_s : Sound Tryd.prog 74 q_reads := by
  intro args H K h
  unfold q_reads at h
  split at h
  rotate_left
  all_goals first | exact False.elim h | skip
  rename_i a b
  have hE := soundE_nil (P := Tryd.prog)
  refine acalls_fn impl_readsAs_k hE ⟨by simp, fun hwf => ?_⟩
  obtain ⟨hmx, h⟩ := h
  unfold reads at h
  by_cases hl : a.length = b.length
  rotate_left
  · have hli : ¬ (a.length : Int) = (b.length : Int) := by omega
    simp only [hl, if_false, reduceCtorEq] at h
    simp (config := {contextual := true, implicitDefEqProofs := false, maxSteps := 60000}) [-Int.not_le, -Int.not_lt, argsF, impl_readsAs_c, hli, hl]
    (refine Out.plain hwf ?_ rfl ?_; (repeat first | exact Sub.refl _ | refine Sub.push hwf ?_ _ | refine Sub.set hwf ?_ (by first | exact Nat.le_refl _ | omega) _ | refine Sub.kill hwf ?_ (by first | exact Nat.le_refl _ | omega))); exact h
  have hli : (a.length : Int) = (b.length : Int) := by omega
  simp only [hl, if_true] at h
  simp (config := {contextual := true, implicitDefEqProofs := false, maxSteps := 60000}) [-Int.not_le, -Int.not_lt, argsF, impl_readsAs_c, hli, hl]
  refine aloop_list a (fun j _ => [(0, .c (.str (a))), (1, .c (.str (b))), (12, .c (.int .i64 b.length)), (13, .c (.int .i64 (j)))]) (fun j _ => H) (fun j l _ => readsGo l (b.drop j) = readsGo a b) hE _ () rfl (.same hwf (by simp [frOk, AV.okR, AV.ok1, AC.okR, AV.ren, AV.ren1, AC.ren, AFrame.get, pl1_old, *]; first | done | omega)) (fun j _ hlt hi => ?_) fun _ hi => ?_
  · have hj1 := idx_lt hlt
    have hlb : j < b.length := by omega
    have hj2 := idx_lt hlb
    have w1 : IntKind.i64.wrap ((j : Int) + 1) = (j : Int) + 1 := wrap_id (by omega) (by omega)
    have ha : a[j]? = some a[j] := List.getElem?_eq_getElem hlt
    have hb : b[j]? = some b[j] := List.getElem?_eq_getElem hlb
    rw [List.drop_eq_getElem_cons hlb] at hi
    simp only [readsGo] at hi
    simp (config := {contextual := true, implicitDefEqProofs := false, maxSteps := 60000}) [-Int.not_le, -Int.not_lt, argsF, impl_readsAs_l0, hj1, hj2, w1, ha, hb, hlt, hlb]
    refine ite_i (fun hc => ?_) (fun hc => ?_)
    · rw [if_pos hc] at hi; exact ⟨(), hi, .drop hwf (by (repeat first | exact Sub.refl _ | refine Sub.push hwf ?_ _ | refine Sub.set hwf ?_ (by first | exact Nat.le_refl _ | omega) _ | refine Sub.kill hwf ?_ (by first | exact Nat.le_refl _ | omega))) (by simp [frOk, AV.okR, AV.ok1, AC.okR, AV.ren, AV.ren1, AC.ren, AFrame.get, pl1_old, *]; first | done | omega)⟩
    rw [if_neg hc] at hi
    refine ite_i (fun hc => ?_) (fun hc => ?_)
    · rw [if_pos hc] at hi; exact ⟨(), hi, .drop hwf (by (repeat first | exact Sub.refl _ | refine Sub.push hwf ?_ _ | refine Sub.set hwf ?_ (by first | exact Nat.le_refl _ | omega) _ | refine Sub.kill hwf ?_ (by first | exact Nat.le_refl _ | omega))) (by simp [frOk, AV.okR, AV.ok1, AC.okR, AV.ren, AV.ren1, AC.ren, AFrame.get, pl1_old, *]; first | done | omega)⟩
    rw [if_neg hc] at hi
    refine ite_i (fun hc => ?_) (fun hc => ?_)
    · rw [if_pos hc] at hi; exact ⟨(), hi, .drop hwf (by (repeat first | exact Sub.refl _ | refine Sub.push hwf ?_ _ | refine Sub.set hwf ?_ (by first | exact Nat.le_refl _ | omega) _ | refine Sub.kill hwf ?_ (by first | exact Nat.le_refl _ | omega))) (by simp [frOk, AV.okR, AV.ok1, AC.okR, AV.ren, AV.ren1, AC.ren, AFrame.get, pl1_old, *]; first | done | omega)⟩
    rw [if_neg hc] at hi
    rw [← hi] at h
    (refine Out.plain hwf ?_ rfl ?_; (repeat first | exact Sub.refl _ | refine Sub.push hwf ?_ _ | refine Sub.set hwf ?_ (by first | exact Nat.le_refl _ | omega) _ | refine Sub.kill hwf ?_ (by first | exact Nat.le_refl _ | omega))); exact h
  · simp only [readsGo] at hi
    simp (config := {contextual := true, implicitDefEqProofs := false, maxSteps := 60000}) [-Int.not_le, -Int.not_lt, argsF, impl_readsAs_l0, hli, hl]
    rw [← hi] at h
    (refine Out.plain hwf ?_ rfl ?_; (repeat first | exact Sub.refl _ | refine Sub.push hwf ?_ _ | refine Sub.set hwf ?_ (by first | exact Nat.le_refl _ | omega) _ | refine Sub.kill hwf ?_ (by first | exact Nat.le_refl _ | omega))); exact h

theorem spec_l11Reads_s : Sound Tryd.prog 72 q_reads := by
  intro args H K h
  unfold q_reads at h
  split at h
  rotate_left
  all_goals first | exact False.elim h | skip
  rename_i a b
  have hE := soundE_nil (P := Tryd.prog)
  refine acalls_fn spec_l11Reads_k hE ⟨by simp, fun hwf => ?_⟩
  obtain ⟨hmx, h⟩ := h
  unfold reads at h
  by_cases hl : a.length = b.length
  rotate_left
  · have hli : ¬ (a.length : Int) = (b.length : Int) := by omega
    simp only [hl, if_false, reduceCtorEq] at h
    simp (config := {contextual := true, implicitDefEqProofs := false, maxSteps := 60000}) [-Int.not_le, -Int.not_lt, argsF, spec_l11Reads_c, hli, hl]
    (refine Out.plain hwf ?_ rfl ?_; (repeat first | exact Sub.refl _ | refine Sub.push hwf ?_ _ | refine Sub.set hwf ?_ (by first | exact Nat.le_refl _ | omega) _ | refine Sub.kill hwf ?_ (by first | exact Nat.le_refl _ | omega))); exact h
  have hli : (a.length : Int) = (b.length : Int) := by omega
  simp only [hl, if_true] at h
  simp (config := {contextual := true, implicitDefEqProofs := false, maxSteps := 60000}) [-Int.not_le, -Int.not_lt, argsF, spec_l11Reads_c, hli, hl]
  refine aloop_list a (fun j _ => [(0, .c (.str (a))), (1, .c (.str (b))), (5, .c (.int .i64 (j)))]) (fun j _ => H) (fun j l _ => readsGo l (b.drop j) = readsGo a b) hE _ () rfl (.same hwf (by simp [frOk, AV.okR, AV.ok1, AC.okR, AV.ren, AV.ren1, AC.ren, AFrame.get, pl1_old, *]; first | done | omega)) (fun j _ hlt hi => ?_) fun _ hi => ?_
  · have hj1 := idx_lt hlt
    have hlb : j < b.length := by omega
    have hj2 := idx_lt hlb
    have w1 : IntKind.i64.wrap ((j : Int) + 1) = (j : Int) + 1 := wrap_id (by omega) (by omega)
    have ha : a[j]? = some a[j] := List.getElem?_eq_getElem hlt
    have hb : b[j]? = some b[j] := List.getElem?_eq_getElem hlb
    rw [List.drop_eq_getElem_cons hlb] at hi
    simp only [readsGo] at hi
    simp (config := {contextual := true, implicitDefEqProofs := false, maxSteps := 60000}) [-Int.not_le, -Int.not_lt, argsF, spec_l11Reads_l0, hj1, hj2, w1, ha, hb, hlt, hlb]
    refine ite_i (fun hc => ?_) (fun hc => ?_)
    · rw [if_pos hc] at hi; exact ⟨(), hi, .drop hwf (by (repeat first | exact Sub.refl _ | refine Sub.push hwf ?_ _ | refine Sub.set hwf ?_ (by first | exact Nat.le_refl _ | omega) _ | refine Sub.kill hwf ?_ (by first | exact Nat.le_refl _ | omega))) (by simp [frOk, AV.okR, AV.ok1, AC.okR, AV.ren, AV.ren1, AC.ren, AFrame.get, pl1_old, *]; first | done | omega)⟩
    rw [if_neg hc] at hi
    refine ite_i (fun hc => ?_) (fun hc => ?_)
    · rw [if_pos hc] at hi; exact ⟨(), hi, .drop hwf (by (repeat first | exact Sub.refl _ | refine Sub.push hwf ?_ _ | refine Sub.set hwf ?_ (by first | exact Nat.le_refl _ | omega) _ | refine Sub.kill hwf ?_ (by first | exact Nat.le_refl _ | omega))) (by simp [frOk, AV.okR, AV.ok1, AC.okR, AV.ren, AV.ren1, AC.ren, AFrame.get, pl1_old, *]; first | done | omega)⟩
    rw [if_neg hc] at hi
    refine ite_i (fun hc => ?_) (fun hc => ?_)
    · rw [if_pos hc] at hi; exact ⟨(), hi, .drop hwf (by (repeat first | exact Sub.refl _ | refine Sub.push hwf ?_ _ | refine Sub.set hwf ?_ (by first | exact Nat.le_refl _ | omega) _ | refine Sub.kill hwf ?_ (by first | exact Nat.le_refl _ | omega))) (by simp [frOk, AV.okR, AV.ok1, AC.okR, AV.ren, AV.ren1, AC.ren, AFrame.get, pl1_old, *]; first | done | omega)⟩
    rw [if_neg hc] at hi
    rw [← hi] at h
    (refine Out.plain hwf ?_ rfl ?_; (repeat first | exact Sub.refl _ | refine Sub.push hwf ?_ _ | refine Sub.set hwf ?_ (by first | exact Nat.le_refl _ | omega) _ | refine Sub.kill hwf ?_ (by first | exact Nat.le_refl _ | omega))); exact h
  · simp only [readsGo] at hi
    simp (config := {contextual := true, implicitDefEqProofs := false, maxSteps := 60000}) [-Int.not_le, -Int.not_lt, argsF, spec_l11Reads_l0, hli, hl]
    rw [← hi] at h
    (refine Out.plain hwf ?_ rfl ?_; (repeat first | exact Sub.refl _ | refine Sub.push hwf ?_ _ | refine Sub.set hwf ?_ (by first | exact Nat.le_refl _ | omega) _ | refine Sub.kill hwf ?_ (by first | exact Nat.le_refl _ | omega))); exact h

def q_sh : Con := fun args H K => match args with
  | [.agg p_e] => onv (ePo.dec p_e) fun p => txP p ∧ K (.tup [.c (.str ((shRes p).1)), .c (.bool ((shRes p).2))]) H
  | _ => False
@[simp ↓] theorem q_sh_eq (p_e : List AC) (H : AHeap) (K : AV → AHeap → Prop) : q_sh [.agg p_e] H K = (onv (ePo.dec p_e) fun p => txP p ∧ K (.tup [.c (.str ((shRes p).1)), .c (.bool ((shRes p).2))]) H) := rfl

theorem impl_ShownBy_s : Sound Tryd.prog 20 q_sh := by
  intro args H K h
  unfold q_sh at h
  split at h
  rotate_left
  all_goals first | exact False.elim h | skip
  rename_i p_e
  have h1 := onv_iff.1 h
  clear h
  obtain ⟨p, hd_p, h⟩ := h1
  obtain rfl := ePo.cd _ _ hd_p
  clear hd_p
  have hE := soundE_cons impl_isPostmark_s (soundE_cons impl_shownBy_s (soundE_nil (P := Tryd.prog)))
  refine acalls_fn impl_ShownBy_k hE ⟨by simp, fun hwf => ?_⟩
  obtain ⟨hok, h⟩ := h
  unfold shRes at h
  by_cases hv : isPo p = true
  rotate_left
  · simp only [hv, if_false, reduceCtorEq] at h
    simp (config := {contextual := true, implicitDefEqProofs := false, maxSteps := 60000}) [-Int.not_le, -Int.not_lt, argsF, impl_ShownBy_c, hok, hv]
    (refine Out.plain hwf ?_ rfl ?_; (repeat first | exact Sub.refl _ | refine Sub.push hwf ?_ _ | refine Sub.set hwf ?_ (by first | exact Nat.le_refl _ | omega) _ | refine Sub.kill hwf ?_ (by first | exact Nat.le_refl _ | omega))); exact h
  simp only [hv, if_true] at h
  have hb := isPo_b hv
  have hb1 : p.lost.length = p.town.length := by omega
  have hb2 : p.town.length ≤ 1000 := by omega
  simp (config := {contextual := true, implicitDefEqProofs := false, maxSteps := 60000}) [-Int.not_le, -Int.not_lt, argsF, impl_ShownBy_c, hok, hv, hb1, hb2]
  (refine Out.plain hwf ?_ rfl ?_; (repeat first | exact Sub.refl _ | refine Sub.push hwf ?_ _ | refine Sub.set hwf ?_ (by first | exact Nat.le_refl _ | omega) _ | refine Sub.kill hwf ?_ (by first | exact Nat.le_refl _ | omega))); exact h

theorem spec_ShownBy_s : Sound Tryd.prog 19 q_sh := by
  intro args H K h
  unfold q_sh at h
  split at h
  rotate_left
  all_goals first | exact False.elim h | skip
  rename_i p_e
  have h1 := onv_iff.1 h
  clear h
  obtain ⟨p, hd_p, h⟩ := h1
  obtain rfl := ePo.cd _ _ hd_p
  clear hd_p
  have hE := soundE_cons spec_l11One_s (soundE_cons spec_l11Shown_s (soundE_nil (P := Tryd.prog)))
  refine acalls_fn spec_ShownBy_k hE ⟨by simp, fun hwf => ?_⟩
  obtain ⟨hok, h⟩ := h
  unfold shRes at h
  by_cases hv : isPo p = true
  rotate_left
  · simp only [hv, if_false, reduceCtorEq] at h
    simp (config := {contextual := true, implicitDefEqProofs := false, maxSteps := 60000}) [-Int.not_le, -Int.not_lt, argsF, spec_ShownBy_c, hok, hv]
    (refine Out.plain hwf ?_ rfl ?_; (repeat first | exact Sub.refl _ | refine Sub.push hwf ?_ _ | refine Sub.set hwf ?_ (by first | exact Nat.le_refl _ | omega) _ | refine Sub.kill hwf ?_ (by first | exact Nat.le_refl _ | omega))); exact h
  simp only [hv, if_true] at h
  have hb := isPo_b hv
  have hb1 : p.lost.length = p.town.length := by omega
  have hb2 : p.town.length ≤ 1000 := by omega
  simp (config := {contextual := true, implicitDefEqProofs := false, maxSteps := 60000}) [-Int.not_le, -Int.not_lt, argsF, spec_ShownBy_c, hok, hv, hb1, hb2]
  (refine Out.plain hwf ?_ rfl ?_; (repeat first | exact Sub.refl _ | refine Sub.push hwf ?_ _ | refine Sub.set hwf ?_ (by first | exact Nat.le_refl _ | omega) _ | refine Sub.kill hwf ?_ (by first | exact Nat.le_refl _ | omega))); exact h

end Go.Proofs.YtnehhdcaknppnaaDoor
