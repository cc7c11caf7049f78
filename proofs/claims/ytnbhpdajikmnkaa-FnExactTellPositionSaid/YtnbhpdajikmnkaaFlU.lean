/- The flaws: the only position. -/
import Derived.Test.YtnbhpdajikmnkaaFlT
set_option maxRecDepth 8000
set_option linter.unusedSimpArgs false
set_option linter.unusedVariables false
namespace Go.Proofs.Ytnbhpdajikmnkaa
open Go Go.RowKit

def hdI (l : List Int) : Int := l.headD 0
def laI (l : List Int) : Int := l.getLastD 0
theorem hdI_get {l : List Int} (h : l ≠ []) : ∀ h0 : 0 < l.length, l[0] = hdI l := fun h0 => by
  cases l with
  | nil => exact absurd rfl h
  | cons a r => rfl
theorem laI_get {l : List Int} (h : l ≠ []) : ∀ h0 : l.length - 1 < l.length, l[l.length - 1] = laI l := fun hl => by
  unfold laI
  rw [List.getLastD_eq_getLast?, List.getLast?_eq_getElem?, List.getElem?_eq_getElem hl]; rfl
def tiGo (ps : List Fl) (cs : List Int) : List Int → Int → Int → Int → Int × Int × Int × Bool
  | [], o, f, l => if o < 0 then (0, 0, 0, false) else (o, f, l, true)
  | p :: r, o, f, l => if statesL ps cs p = [] then tiGo ps cs r o f l else if 0 ≤ o then (0, 0, 0, false) else tiGo ps cs r p (hdI (statesL ps cs p)) (laI (statesL ps cs p))
def tsGo (ps : List Fl) (cs : List Int) : List Int → Int → Int → Int → Int → Int × Int × Int × Bool
  | [], o, f, l, n => if n = 1 then (o, f, l, true) else (0, 0, 0, false)
  | p :: r, o, f, l, n => if statesL ps cs p = [] then tsGo ps cs r o f l n else tsGo ps cs r p (hdI (statesL ps cs p)) (laI (statesL ps cs p)) (IntKind.i64.wrap (n + 1))
theorem tsGo_many (ps : List Fl) (cs : List Int) : ∀ (q : List Int) (o f l : Int) (n : Nat), 2 ≤ n → n + q.length ≤ 1000000 → tsGo ps cs q o f l n = (0, 0, 0, false)
  | [], o, f, l, n, h, _ => by simp only [tsGo]; rw [if_neg (by omega)]
  | p :: r, o, f, l, n, h, hb => by
    simp only [List.length_cons] at hb
    have hw : IntKind.i64.wrap ((n : Int) + 1) = ((n + 1 : Nat) : Int) := by rw [wrap_id (by omega) (by omega)]; rfl
    simp only [tsGo, hw]
    split
    · exact tsGo_many ps cs r o f l n h (by omega)
    · exact tsGo_many ps cs r _ _ _ (n + 1) (by omega) (by omega)
theorem tsGo_one (ps : List Fl) (cs : List Int) : ∀ (q : List Int) (o f l : Int), 0 ≤ o → q.length ≤ 1000 → tsGo ps cs q o f l 1 = tiGo ps cs q o f l
  | [], o, f, l, h, _ => by simp only [tsGo, tiGo, if_true]; rw [if_neg (by omega)]
  | p :: r, o, f, l, h, hb => by
    simp only [List.length_cons] at hb
    have hw : IntKind.i64.wrap ((1 : Int) + 1) = ((2 : Nat) : Int) := by rw [wrap_id (by omega) (by omega)]; rfl
    simp only [tsGo, tiGo, hw, if_pos h]
    split
    · exact tsGo_one ps cs r o f l h (by omega)
    · exact tsGo_many ps cs r _ _ _ 2 (by omega) (by omega)
theorem tsGo_zero (ps : List Fl) (cs : List Int) : ∀ (q : List Int) (o f l a b : Int), (∀ p ∈ q, 0 ≤ p) → q.length ≤ 1000 → tsGo ps cs q o f l 0 = tiGo ps cs q (-1) a b
  | [], o, f, l, a, b, _, _ => by simp [tsGo, tiGo]
  | p :: r, o, f, l, a, b, h, hb => by
    simp only [List.length_cons] at hb
    have hw : IntKind.i64.wrap ((0 : Int) + 1) = 1 := by rw [wrap_id (by omega) (by omega)]; rfl
    simp only [tsGo, tiGo, hw]
    split
    · exact tsGo_zero ps cs r _ _ _ _ _ (fun q hq => h q (by simp [hq])) (by omega)
    · rw [if_neg (by omega)]
      exact tsGo_one ps cs r _ _ _ (h p (by simp)) (by omega)
def tpRes (ps : List Fl) (cs : List Int) : Int × Int × Int × Bool := if areFl ps = true then if csOk cs = true then tiGo ps cs (rangeI 0 100) (-1) 0 0 else (0, 0, 0, false) else (0, 0, 0, false)
theorem tp_eq (ps : List Fl) (cs : List Int) : tsGo ps cs (rangeI 0 100) 0 0 0 0 = tiGo ps cs (rangeI 0 100) (-1) 0 0 := tsGo_zero ps cs _ _ _ _ _ _ (fun p hp => (mem_rangeI.1 hp).1) (by simp)

def q_tp : Con := fun args H K => match args with
  | [ps_v, cs_v] => eFl.rd H (fun ps => eI.rd H (fun cs => K (.tup [.c (.int .i64 ((tpRes ps cs).1)), .c (.int .i64 ((tpRes ps cs).2.1)), .c (.int .i64 ((tpRes ps cs).2.2.1)), .c (.bool ((tpRes ps cs).2.2.2))]) H) cs_v) ps_v
  | _ => False
@[simp ↓] theorem q_tp_eq (ps_v : AV) (cs_v : AV) (H : AHeap) (K : AV → AHeap → Prop) : q_tp [ps_v, cs_v] H K = (eFl.rd H (fun ps => eI.rd H (fun cs => K (.tup [.c (.int .i64 ((tpRes ps cs).1)), .c (.int .i64 ((tpRes ps cs).2.1)), .c (.int .i64 ((tpRes ps cs).2.2.1)), .c (.bool ((tpRes ps cs).2.2.2))]) H) cs_v) ps_v) := rfl

theorem impl_TellPosition_s : Sound Try.prog 29 q_tp := by
  intro args H K h
  unfold q_tp at h
  split at h
  rotate_left
  all_goals first | exact False.elim h | skip
  rename_i ps_v cs_v
  have h1 := Enc.rd_at h
  clear h
  obtain ⟨b_ps, i_ps, k_ps, ps, rfl, hat_ps, h⟩ := h1
  have h1 := Enc.rd_at h
  clear h
  obtain ⟨b_cs, i_cs, k_cs, cs, rfl, hat_cs, h⟩ := h1
  have hE := soundE_cons impl_areFlaws_s (soundE_cons impl_areCodes_s (soundE_cons impl_statesFor_s (soundE_nil (P := Try.prog))))
  refine acalls_fn impl_TellPosition_k hE ⟨by simp, fun hwf => ?_⟩
  have hb_ps : b_ps < H.n := (hwf b_ps k_ps hat_ps.blk).1
  have hne_ps : (b_ps = H.n) = False := eq_false (by omega)
  have hne1_ps : ∀ i, (b_ps = H.n + i) = False := fun i => eq_false (by omega)
  have hne2_ps : (b_ps = H.n + 1 + 1) = False ∧ (b_ps = H.n + 1 + 1 + 1) = False ∧ (b_ps = H.n + 1 + 1 + 1 + 1) = False ∧ (b_ps = H.n + 1 + 1 + 1 + 1 + 1) = False ∧ (b_ps = H.n + 1 + 1 + 1 + 1 + 1 + 1) = False ∧ (b_ps = H.n + 1 + 1 + 1 + 1 + 1 + 1 + 1) = False ∧ (b_ps = H.n + 1 + 1 + 1 + 1 + 1 + 1 + 1 + 1) = False ∧ (b_ps = H.n + 1 + 1 + 1 + 1 + 1 + 1 + 1 + 1 + 1) = False ∧ (b_ps = H.n + 1 + 1 + 1 + 1 + 1 + 1 + 1 + 1 + 1 + 1) = False ∧ (b_ps = H.n + 1 + 1 + 1 + 1 + 1 + 1 + 1 + 1 + 1 + 1 + 1) = False ∧ (b_ps = H.n + 1 + 1 + 1 + 1 + 1 + 1 + 1 + 1 + 1 + 1 + 1 + 1) = False := ⟨eq_false (by omega), eq_false (by omega), eq_false (by omega), eq_false (by omega), eq_false (by omega), eq_false (by omega), eq_false (by omega), eq_false (by omega), eq_false (by omega), eq_false (by omega), eq_false (by omega)⟩
  have hmx_ps : ps.length ≤ 9223372036854775807 := by have h1 := (hwf b_ps k_ps hat_ps.blk).2.2; have h2 := hat_ps.len; omega
  have hb_cs : b_cs < H.n := (hwf b_cs k_cs hat_cs.blk).1
  have hne_cs : (b_cs = H.n) = False := eq_false (by omega)
  have hne1_cs : ∀ i, (b_cs = H.n + i) = False := fun i => eq_false (by omega)
  have hne2_cs : (b_cs = H.n + 1 + 1) = False ∧ (b_cs = H.n + 1 + 1 + 1) = False ∧ (b_cs = H.n + 1 + 1 + 1 + 1) = False ∧ (b_cs = H.n + 1 + 1 + 1 + 1 + 1) = False ∧ (b_cs = H.n + 1 + 1 + 1 + 1 + 1 + 1) = False ∧ (b_cs = H.n + 1 + 1 + 1 + 1 + 1 + 1 + 1) = False ∧ (b_cs = H.n + 1 + 1 + 1 + 1 + 1 + 1 + 1 + 1) = False ∧ (b_cs = H.n + 1 + 1 + 1 + 1 + 1 + 1 + 1 + 1 + 1) = False ∧ (b_cs = H.n + 1 + 1 + 1 + 1 + 1 + 1 + 1 + 1 + 1 + 1) = False ∧ (b_cs = H.n + 1 + 1 + 1 + 1 + 1 + 1 + 1 + 1 + 1 + 1 + 1) = False ∧ (b_cs = H.n + 1 + 1 + 1 + 1 + 1 + 1 + 1 + 1 + 1 + 1 + 1 + 1) = False := ⟨eq_false (by omega), eq_false (by omega), eq_false (by omega), eq_false (by omega), eq_false (by omega), eq_false (by omega), eq_false (by omega), eq_false (by omega), eq_false (by omega), eq_false (by omega), eq_false (by omega)⟩
  have hmx_cs : cs.length ≤ 9223372036854775807 := by have h1 := (hwf b_cs k_cs hat_cs.blk).2.2; have h2 := hat_cs.len; omega
  have hv : areFl ps = true → ps.length ≤ 1048576 := fun h => Nat.le_trans (areFl_len h) (by decide)
  simp (config := {contextual := true, implicitDefEqProofs := false, maxSteps := 60000}) [-Int.not_le, -Int.not_lt, argsF, impl_TellPosition_c, hat_ps.blk, hat_ps.esz, hat_ps.len, hat_ps.els, hne_ps, hne1_ps, hne2_ps.1, hne2_ps.2.1, hne2_ps.2.2.1, hne2_ps.2.2.2.1, hne2_ps.2.2.2.2.1, hne2_ps.2.2.2.2.2.1, hne2_ps.2.2.2.2.2.2.1, hne2_ps.2.2.2.2.2.2.2.1, hne2_ps.2.2.2.2.2.2.2.2.1, hne2_ps.2.2.2.2.2.2.2.2.2.1, hne2_ps.2.2.2.2.2.2.2.2.2.2, hat_cs.blk, hat_cs.esz, hat_cs.len, hat_cs.els, hne_cs, hne1_cs, hne2_cs.1, hne2_cs.2.1, hne2_cs.2.2.1, hne2_cs.2.2.2.1, hne2_cs.2.2.2.2.1, hne2_cs.2.2.2.2.2.1, hne2_cs.2.2.2.2.2.2.1, hne2_cs.2.2.2.2.2.2.2.1, hne2_cs.2.2.2.2.2.2.2.2.1, hne2_cs.2.2.2.2.2.2.2.2.2.1, hne2_cs.2.2.2.2.2.2.2.2.2.2]
  unfold tpRes at h
  repeat' split
  all_goals simp only [*, if_true, if_false, reduceCtorEq] at h
  all_goals first | ((refine Out.plain hwf ?_ rfl ?_; (repeat first | exact Sub.refl _ | refine Sub.push hwf ?_ _ | refine Sub.set hwf ?_ (by first | exact Nat.le_refl _ | omega) _ | refine Sub.kill hwf ?_ (by first | exact Nat.le_refl _ | omega))); exact h) | skip
  have hl := hv ‹_›
  refine aloop_list3 (rangeI 0 100) (fun j o f m => [(0, .c (.sl b_ps i_ps ps.length)), (1, .c (.sl b_cs i_cs cs.length)), (8, .c (.int .i64 (o))), (9, .c (.int .i64 (f))), (10, .c (.int .i64 (m))), (21, .c (.int .i64 (j)))]) (fun j o f m => H) (fun j l o f m => K (.tup [.c (.int .i64 ((tiGo ps cs l o f m).1)), .c (.int .i64 ((tiGo ps cs l o f m).2.1)), .c (.int .i64 ((tiGo ps cs l o f m).2.2.1)), .c (.bool ((tiGo ps cs l o f m).2.2.2))]) H) hE _ (-1) 0 0 h (.same hwf (by simp [frOk, AV.okR, AV.ok1, AC.okR, AV.ren, AV.ren1, AC.ren, AFrame.get, pl1_old, *]; first | done | omega)) (fun j o f m hlt hi => ?_) fun o f m hi => ?_
  ·
    have hj : j < 100 := by simpa using hlt
    have hj2 : (j : Int) < 100 := by omega
    have w2 : IntKind.i64.wrap ((j : Int) + 1) = (j : Int) + 1 := wrap_id (by omega) (by omega)
    simp only [tiGo, rangeI_get, Int.zero_add] at hi
    have hsl := statesL_len ps cs (j : Int)
    by_cases hS : statesL ps cs (j : Int) = []
    · simp (config := {contextual := true, implicitDefEqProofs := false, maxSteps := 60000}) [-Int.not_le, -Int.not_lt, argsF, impl_TellPosition_l0, hat_ps.blk, hat_ps.esz, hat_ps.len, hat_ps.els, hne_ps, hne1_ps, hne2_ps.1, hne2_ps.2.1, hne2_ps.2.2.1, hne2_ps.2.2.2.1, hne2_ps.2.2.2.2.1, hne2_ps.2.2.2.2.2.1, hne2_ps.2.2.2.2.2.2.1, hne2_ps.2.2.2.2.2.2.2.1, hne2_ps.2.2.2.2.2.2.2.2.1, hne2_ps.2.2.2.2.2.2.2.2.2.1, hne2_ps.2.2.2.2.2.2.2.2.2.2, hat_cs.blk, hat_cs.esz, hat_cs.len, hat_cs.els, hne_cs, hne1_cs, hne2_cs.1, hne2_cs.2.1, hne2_cs.2.2.1, hne2_cs.2.2.2.1, hne2_cs.2.2.2.2.1, hne2_cs.2.2.2.2.2.1, hne2_cs.2.2.2.2.2.2.1, hne2_cs.2.2.2.2.2.2.2.1, hne2_cs.2.2.2.2.2.2.2.2.1, hne2_cs.2.2.2.2.2.2.2.2.2.1, hne2_cs.2.2.2.2.2.2.2.2.2.2, hj2, w2, hl, hS]
      simp only [hS, if_true] at hi
      exact ⟨_, _, _, hi, .drop hwf (by (repeat first | exact Sub.refl _ | refine Sub.push hwf ?_ _ | refine Sub.set hwf ?_ (by first | exact Nat.le_refl _ | omega) _ | refine Sub.kill hwf ?_ (by first | exact Nat.le_refl _ | omega))) (by simp [frOk, AV.okR, AV.ok1, AC.okR, AV.ren, AV.ren1, AC.ren, AFrame.get, pl1_old, *]; first | done | omega)⟩
    · have g0 := hdI_get hS
      have g1 := laI_get hS
      have hS0 : 0 < (statesL ps cs (j : Int)).length := List.length_pos_iff.2 hS
      have hS1 : (0 : Int) < ((statesL ps cs (j : Int)).length : Int) := by omega
      have hS2 : IntKind.i64.wrap (((statesL ps cs (j : Int)).length : Int) - 1) = ((statesL ps cs (j : Int)).length : Int) - 1 := wrap_id (by omega) (by omega)
      have hS3 : (((statesL ps cs (j : Int)).length : Int) - 1).toNat = (statesL ps cs (j : Int)).length - 1 := by omega
      have hS4 : (0 : Int) ≤ ((statesL ps cs (j : Int)).length : Int) - 1 := by omega
      have hS5 : ((statesL ps cs (j : Int)).length : Int) - 1 < ((statesL ps cs (j : Int)).length : Int) := by omega
      have hS6 : (1 : Int) ≤ ((statesL ps cs (j : Int)).length : Int) := by omega
      have hS7 : (statesL ps cs (j : Int)).length - 1 < (statesL ps cs (j : Int)).length := by omega
      simp (config := {contextual := true, implicitDefEqProofs := false, maxSteps := 60000}) [-Int.not_le, -Int.not_lt, argsF, impl_TellPosition_l0, hat_ps.blk, hat_ps.esz, hat_ps.len, hat_ps.els, hne_ps, hne1_ps, hne2_ps.1, hne2_ps.2.1, hne2_ps.2.2.1, hne2_ps.2.2.2.1, hne2_ps.2.2.2.2.1, hne2_ps.2.2.2.2.2.1, hne2_ps.2.2.2.2.2.2.1, hne2_ps.2.2.2.2.2.2.2.1, hne2_ps.2.2.2.2.2.2.2.2.1, hne2_ps.2.2.2.2.2.2.2.2.2.1, hne2_ps.2.2.2.2.2.2.2.2.2.2, hat_cs.blk, hat_cs.esz, hat_cs.len, hat_cs.els, hne_cs, hne1_cs, hne2_cs.1, hne2_cs.2.1, hne2_cs.2.2.1, hne2_cs.2.2.2.1, hne2_cs.2.2.2.2.1, hne2_cs.2.2.2.2.2.1, hne2_cs.2.2.2.2.2.2.1, hne2_cs.2.2.2.2.2.2.2.1, hne2_cs.2.2.2.2.2.2.2.2.1, hne2_cs.2.2.2.2.2.2.2.2.2.1, hne2_cs.2.2.2.2.2.2.2.2.2.2, hj2, w2, hl, hS, hS7, g0, g1, hS0, hS1, hS2, hS3, hS4, hS5, hS6]
      simp only [hS, if_false, reduceCtorEq] at hi
      repeat' split
      all_goals try simp only [*, if_true, if_false, reduceCtorEq] at hi
      all_goals first | ((refine Out.plain hwf ?_ rfl ?_; (repeat first | exact Sub.refl _ | refine Sub.push hwf ?_ _ | refine Sub.set hwf ?_ (by first | exact Nat.le_refl _ | omega) _ | refine Sub.kill hwf ?_ (by first | exact Nat.le_refl _ | omega))); exact hi) | exact ⟨_, _, _, hi, .drop hwf (by (repeat first | exact Sub.refl _ | refine Sub.push hwf ?_ _ | refine Sub.set hwf ?_ (by first | exact Nat.le_refl _ | omega) _ | refine Sub.kill hwf ?_ (by first | exact Nat.le_refl _ | omega))) (by simp [frOk, AV.okR, AV.ok1, AC.okR, AV.ren, AV.ren1, AC.ren, AFrame.get, pl1_old, *]; first | done | omega)⟩
  · simp (config := {contextual := true, implicitDefEqProofs := false, maxSteps := 60000}) [-Int.not_le, -Int.not_lt, argsF, impl_TellPosition_l0, hat_ps.blk, hat_ps.esz, hat_ps.len, hat_ps.els, hne_ps, hne1_ps, hne2_ps.1, hne2_ps.2.1, hne2_ps.2.2.1, hne2_ps.2.2.2.1, hne2_ps.2.2.2.2.1, hne2_ps.2.2.2.2.2.1, hne2_ps.2.2.2.2.2.2.1, hne2_ps.2.2.2.2.2.2.2.1, hne2_ps.2.2.2.2.2.2.2.2.1, hne2_ps.2.2.2.2.2.2.2.2.2.1, hne2_ps.2.2.2.2.2.2.2.2.2.2]
    simp only [tiGo] at hi
    repeat' split
    all_goals try simp only [*, if_true, if_false, reduceCtorEq] at hi
    all_goals ((refine Out.plain hwf ?_ rfl ?_; (repeat first | exact Sub.refl _ | refine Sub.push hwf ?_ _ | refine Sub.set hwf ?_ (by first | exact Nat.le_refl _ | omega) _ | refine Sub.kill hwf ?_ (by first | exact Nat.le_refl _ | omega))); exact hi)

theorem spec_TellPosition_s : Sound Try.prog 28 q_tp := by
  intro args H K h
  unfold q_tp at h
  split at h
  rotate_left
  all_goals first | exact False.elim h | skip
  rename_i ps_v cs_v
  have h1 := Enc.rd_at h
  clear h
  obtain ⟨b_ps, i_ps, k_ps, ps, rfl, hat_ps, h⟩ := h1
  have h1 := Enc.rd_at h
  clear h
  obtain ⟨b_cs, i_cs, k_cs, cs, rfl, hat_cs, h⟩ := h1
  have hE := soundE_cons spec_l15Good_s (soundE_cons spec_l15Shown_s (soundE_cons spec_l15States_s (soundE_nil (P := Try.prog))))
  refine acalls_fn spec_TellPosition_k hE ⟨by simp, fun hwf => ?_⟩
  have hb_ps : b_ps < H.n := (hwf b_ps k_ps hat_ps.blk).1
  have hne_ps : (b_ps = H.n) = False := eq_false (by omega)
  have hne1_ps : ∀ i, (b_ps = H.n + i) = False := fun i => eq_false (by omega)
  have hne2_ps : (b_ps = H.n + 1 + 1) = False ∧ (b_ps = H.n + 1 + 1 + 1) = False ∧ (b_ps = H.n + 1 + 1 + 1 + 1) = False ∧ (b_ps = H.n + 1 + 1 + 1 + 1 + 1) = False ∧ (b_ps = H.n + 1 + 1 + 1 + 1 + 1 + 1) = False ∧ (b_ps = H.n + 1 + 1 + 1 + 1 + 1 + 1 + 1) = False ∧ (b_ps = H.n + 1 + 1 + 1 + 1 + 1 + 1 + 1 + 1) = False ∧ (b_ps = H.n + 1 + 1 + 1 + 1 + 1 + 1 + 1 + 1 + 1) = False ∧ (b_ps = H.n + 1 + 1 + 1 + 1 + 1 + 1 + 1 + 1 + 1 + 1) = False ∧ (b_ps = H.n + 1 + 1 + 1 + 1 + 1 + 1 + 1 + 1 + 1 + 1 + 1) = False ∧ (b_ps = H.n + 1 + 1 + 1 + 1 + 1 + 1 + 1 + 1 + 1 + 1 + 1 + 1) = False := ⟨eq_false (by omega), eq_false (by omega), eq_false (by omega), eq_false (by omega), eq_false (by omega), eq_false (by omega), eq_false (by omega), eq_false (by omega), eq_false (by omega), eq_false (by omega), eq_false (by omega)⟩
  have hmx_ps : ps.length ≤ 9223372036854775807 := by have h1 := (hwf b_ps k_ps hat_ps.blk).2.2; have h2 := hat_ps.len; omega
  have hb_cs : b_cs < H.n := (hwf b_cs k_cs hat_cs.blk).1
  have hne_cs : (b_cs = H.n) = False := eq_false (by omega)
  have hne1_cs : ∀ i, (b_cs = H.n + i) = False := fun i => eq_false (by omega)
  have hne2_cs : (b_cs = H.n + 1 + 1) = False ∧ (b_cs = H.n + 1 + 1 + 1) = False ∧ (b_cs = H.n + 1 + 1 + 1 + 1) = False ∧ (b_cs = H.n + 1 + 1 + 1 + 1 + 1) = False ∧ (b_cs = H.n + 1 + 1 + 1 + 1 + 1 + 1) = False ∧ (b_cs = H.n + 1 + 1 + 1 + 1 + 1 + 1 + 1) = False ∧ (b_cs = H.n + 1 + 1 + 1 + 1 + 1 + 1 + 1 + 1) = False ∧ (b_cs = H.n + 1 + 1 + 1 + 1 + 1 + 1 + 1 + 1 + 1) = False ∧ (b_cs = H.n + 1 + 1 + 1 + 1 + 1 + 1 + 1 + 1 + 1 + 1) = False ∧ (b_cs = H.n + 1 + 1 + 1 + 1 + 1 + 1 + 1 + 1 + 1 + 1 + 1) = False ∧ (b_cs = H.n + 1 + 1 + 1 + 1 + 1 + 1 + 1 + 1 + 1 + 1 + 1 + 1) = False := ⟨eq_false (by omega), eq_false (by omega), eq_false (by omega), eq_false (by omega), eq_false (by omega), eq_false (by omega), eq_false (by omega), eq_false (by omega), eq_false (by omega), eq_false (by omega), eq_false (by omega)⟩
  have hmx_cs : cs.length ≤ 9223372036854775807 := by have h1 := (hwf b_cs k_cs hat_cs.blk).2.2; have h2 := hat_cs.len; omega
  have hv : areFl ps = true → ps.length ≤ 1048576 := fun h => Nat.le_trans (areFl_len h) (by decide)
  simp (config := {contextual := true, implicitDefEqProofs := false, maxSteps := 60000}) [-Int.not_le, -Int.not_lt, argsF, spec_TellPosition_c, hat_ps.blk, hat_ps.esz, hat_ps.len, hat_ps.els, hne_ps, hne1_ps, hne2_ps.1, hne2_ps.2.1, hne2_ps.2.2.1, hne2_ps.2.2.2.1, hne2_ps.2.2.2.2.1, hne2_ps.2.2.2.2.2.1, hne2_ps.2.2.2.2.2.2.1, hne2_ps.2.2.2.2.2.2.2.1, hne2_ps.2.2.2.2.2.2.2.2.1, hne2_ps.2.2.2.2.2.2.2.2.2.1, hne2_ps.2.2.2.2.2.2.2.2.2.2, hat_cs.blk, hat_cs.esz, hat_cs.len, hat_cs.els, hne_cs, hne1_cs, hne2_cs.1, hne2_cs.2.1, hne2_cs.2.2.1, hne2_cs.2.2.2.1, hne2_cs.2.2.2.2.1, hne2_cs.2.2.2.2.2.1, hne2_cs.2.2.2.2.2.2.1, hne2_cs.2.2.2.2.2.2.2.1, hne2_cs.2.2.2.2.2.2.2.2.1, hne2_cs.2.2.2.2.2.2.2.2.2.1, hne2_cs.2.2.2.2.2.2.2.2.2.2]
  unfold tpRes at h
  repeat' split
  all_goals simp only [*, if_true, if_false, reduceCtorEq] at h
  all_goals first | ((refine Out.plain hwf ?_ rfl ?_; (repeat first | exact Sub.refl _ | refine Sub.push hwf ?_ _ | refine Sub.set hwf ?_ (by first | exact Nat.le_refl _ | omega) _ | refine Sub.kill hwf ?_ (by first | exact Nat.le_refl _ | omega))); exact h) | skip
  have hl := hv ‹_›
  rw [← tp_eq] at h
  refine aloop_list4 (rangeI 0 100) (fun j o f m n => [(0, .c (.sl b_ps i_ps ps.length)), (1, .c (.sl b_cs i_cs cs.length)), (8, .c (.int .i64 (o))), (9, .c (.int .i64 (f))), (10, .c (.int .i64 (m))), (11, .c (.int .i64 (n))), (12, .c (.int .i64 (j)))]) (fun j o f m n => H) (fun j l o f m n => K (.tup [.c (.int .i64 ((tsGo ps cs l o f m n).1)), .c (.int .i64 ((tsGo ps cs l o f m n).2.1)), .c (.int .i64 ((tsGo ps cs l o f m n).2.2.1)), .c (.bool ((tsGo ps cs l o f m n).2.2.2))]) H) hE _ 0 0 0 0 h (.same hwf (by simp [frOk, AV.okR, AV.ok1, AC.okR, AV.ren, AV.ren1, AC.ren, AFrame.get, pl1_old, *]; first | done | omega)) (fun j o f m n hlt hi => ?_) fun o f m n hi => ?_
  ·
    have hj : j < 100 := by simpa using hlt
    have hj2 : (j : Int) < 100 := by omega
    have w2 : IntKind.i64.wrap ((j : Int) + 1) = (j : Int) + 1 := wrap_id (by omega) (by omega)
    simp only [tsGo, rangeI_get, Int.zero_add] at hi
    have hsl := statesL_len ps cs (j : Int)
    by_cases hS : statesL ps cs (j : Int) = []
    · simp (config := {contextual := true, implicitDefEqProofs := false, maxSteps := 60000}) [-Int.not_le, -Int.not_lt, argsF, spec_TellPosition_l0, hat_ps.blk, hat_ps.esz, hat_ps.len, hat_ps.els, hne_ps, hne1_ps, hne2_ps.1, hne2_ps.2.1, hne2_ps.2.2.1, hne2_ps.2.2.2.1, hne2_ps.2.2.2.2.1, hne2_ps.2.2.2.2.2.1, hne2_ps.2.2.2.2.2.2.1, hne2_ps.2.2.2.2.2.2.2.1, hne2_ps.2.2.2.2.2.2.2.2.1, hne2_ps.2.2.2.2.2.2.2.2.2.1, hne2_ps.2.2.2.2.2.2.2.2.2.2, hat_cs.blk, hat_cs.esz, hat_cs.len, hat_cs.els, hne_cs, hne1_cs, hne2_cs.1, hne2_cs.2.1, hne2_cs.2.2.1, hne2_cs.2.2.2.1, hne2_cs.2.2.2.2.1, hne2_cs.2.2.2.2.2.1, hne2_cs.2.2.2.2.2.2.1, hne2_cs.2.2.2.2.2.2.2.1, hne2_cs.2.2.2.2.2.2.2.2.1, hne2_cs.2.2.2.2.2.2.2.2.2.1, hne2_cs.2.2.2.2.2.2.2.2.2.2, hj2, w2, hl, hS]
      simp only [hS, if_true] at hi
      exact ⟨_, _, _, _, hi, .drop hwf (by (repeat first | exact Sub.refl _ | refine Sub.push hwf ?_ _ | refine Sub.set hwf ?_ (by first | exact Nat.le_refl _ | omega) _ | refine Sub.kill hwf ?_ (by first | exact Nat.le_refl _ | omega))) (by simp [frOk, AV.okR, AV.ok1, AC.okR, AV.ren, AV.ren1, AC.ren, AFrame.get, pl1_old, *]; first | done | omega)⟩
    · have g0 := hdI_get hS
      have g1 := laI_get hS
      have hS0 : 0 < (statesL ps cs (j : Int)).length := List.length_pos_iff.2 hS
      have hS1 : (0 : Int) < ((statesL ps cs (j : Int)).length : Int) := by omega
      have hS2 : IntKind.i64.wrap (((statesL ps cs (j : Int)).length : Int) - 1) = ((statesL ps cs (j : Int)).length : Int) - 1 := wrap_id (by omega) (by omega)
      have hS3 : (((statesL ps cs (j : Int)).length : Int) - 1).toNat = (statesL ps cs (j : Int)).length - 1 := by omega
      have hS4 : (0 : Int) ≤ ((statesL ps cs (j : Int)).length : Int) - 1 := by omega
      have hS5 : ((statesL ps cs (j : Int)).length : Int) - 1 < ((statesL ps cs (j : Int)).length : Int) := by omega
      have hS6 : (1 : Int) ≤ ((statesL ps cs (j : Int)).length : Int) := by omega
      have hS7 : (statesL ps cs (j : Int)).length - 1 < (statesL ps cs (j : Int)).length := by omega
      simp (config := {contextual := true, implicitDefEqProofs := false, maxSteps := 60000}) [-Int.not_le, -Int.not_lt, argsF, spec_TellPosition_l0, hat_ps.blk, hat_ps.esz, hat_ps.len, hat_ps.els, hne_ps, hne1_ps, hne2_ps.1, hne2_ps.2.1, hne2_ps.2.2.1, hne2_ps.2.2.2.1, hne2_ps.2.2.2.2.1, hne2_ps.2.2.2.2.2.1, hne2_ps.2.2.2.2.2.2.1, hne2_ps.2.2.2.2.2.2.2.1, hne2_ps.2.2.2.2.2.2.2.2.1, hne2_ps.2.2.2.2.2.2.2.2.2.1, hne2_ps.2.2.2.2.2.2.2.2.2.2, hat_cs.blk, hat_cs.esz, hat_cs.len, hat_cs.els, hne_cs, hne1_cs, hne2_cs.1, hne2_cs.2.1, hne2_cs.2.2.1, hne2_cs.2.2.2.1, hne2_cs.2.2.2.2.1, hne2_cs.2.2.2.2.2.1, hne2_cs.2.2.2.2.2.2.1, hne2_cs.2.2.2.2.2.2.2.1, hne2_cs.2.2.2.2.2.2.2.2.1, hne2_cs.2.2.2.2.2.2.2.2.2.1, hne2_cs.2.2.2.2.2.2.2.2.2.2, hj2, w2, hl, hS, hS7, g0, g1, hS0, hS1, hS2, hS3, hS4, hS5, hS6]
      simp only [hS, if_false, reduceCtorEq] at hi
      repeat' split
      all_goals try simp only [*, if_true, if_false, reduceCtorEq] at hi
      all_goals first | ((refine Out.plain hwf ?_ rfl ?_; (repeat first | exact Sub.refl _ | refine Sub.push hwf ?_ _ | refine Sub.set hwf ?_ (by first | exact Nat.le_refl _ | omega) _ | refine Sub.kill hwf ?_ (by first | exact Nat.le_refl _ | omega))); exact hi) | exact ⟨_, _, _, _, hi, .drop hwf (by (repeat first | exact Sub.refl _ | refine Sub.push hwf ?_ _ | refine Sub.set hwf ?_ (by first | exact Nat.le_refl _ | omega) _ | refine Sub.kill hwf ?_ (by first | exact Nat.le_refl _ | omega))) (by simp [frOk, AV.okR, AV.ok1, AC.okR, AV.ren, AV.ren1, AC.ren, AFrame.get, pl1_old, *]; first | done | omega)⟩
  · simp (config := {contextual := true, implicitDefEqProofs := false, maxSteps := 60000}) [-Int.not_le, -Int.not_lt, argsF, spec_TellPosition_l0, hat_ps.blk, hat_ps.esz, hat_ps.len, hat_ps.els, hne_ps, hne1_ps, hne2_ps.1, hne2_ps.2.1, hne2_ps.2.2.1, hne2_ps.2.2.2.1, hne2_ps.2.2.2.2.1, hne2_ps.2.2.2.2.2.1, hne2_ps.2.2.2.2.2.2.1, hne2_ps.2.2.2.2.2.2.2.1, hne2_ps.2.2.2.2.2.2.2.2.1, hne2_ps.2.2.2.2.2.2.2.2.2.1, hne2_ps.2.2.2.2.2.2.2.2.2.2]
    simp only [tsGo] at hi
    repeat' split
    all_goals try simp only [*, if_true, if_false, reduceCtorEq] at hi
    all_goals ((refine Out.plain hwf ?_ rfl ?_; (repeat first | exact Sub.refl _ | refine Sub.push hwf ?_ _ | refine Sub.set hwf ?_ (by first | exact Nat.le_refl _ | omega) _ | refine Sub.kill hwf ?_ (by first | exact Nat.le_refl _ | omega))); exact hi)

end Go.Proofs.Ytnbhpdajikmnkaa
