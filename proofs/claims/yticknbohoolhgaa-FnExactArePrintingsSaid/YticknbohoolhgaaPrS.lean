/- The printings: the laws' helpers. -/
import Derived.Test.YticknbohoolhgaaPrR
set_option maxRecDepth 8000
set_option linter.unusedSimpArgs false
namespace Go.Proofs.Yticknbohoolhgaa
open Go Go.RowKit

def q_toPr : Con := fun args H K => match args with
  | [.agg e] => onv (ePr.dec e) fun p => K (.agg (ePr.cells p)) H
  | _ => False
@[simp ↓] theorem q_toPr_eq (e : List AC) (H : AHeap) (K : AV → AHeap → Prop) : q_toPr [.agg e] H K = onv (ePr.dec e) fun p => K (.agg (ePr.cells p)) H := rfl
theorem toPrinting_s : Sound Try.prog 53 q_toPr := by
  intro args H K h
  unfold q_toPr at h
  split at h
  rotate_left
  all_goals first | exact False.elim h | skip
  obtain ⟨p, hp, h1⟩ := onv_iff.1 h
  have e1 := ePr.cd _ _ hp
  clear h
  subst e1
  refine acalls_fn laws_toPrinting_k soundE_nil ⟨by simp, fun hwf => ?_⟩
  have hne : ∀ i, (H.n = H.n + 1 + i) = False := fun i => eq_false (by omega)
  have hne0 : (H.n = H.n + 1) = False := eq_false (by omega)
  simp (config := {contextual := true, implicitDefEqProofs := false, maxSteps := 40000}) [-Int.not_le, -Int.not_lt, argsF, laws_toPrinting_c, hne, hne0]
  (refine Out.plain hwf ?_ rfl ?_; (repeat first | exact Sub.refl _ | refine Sub.push hwf ?_ _ | refine Sub.set hwf ?_ (by first | exact Nat.le_refl _ | omega) _ | refine Sub.kill hwf ?_ (by first | exact Nat.le_refl _ | omega))); simpa using h1

def q_szPrS : Con := fun args H K => match args with
  | [.c (.sl _ _ n), .c (.int .i64 l)] => K (.c (.int .i64 (if IntKind.i64.wrap (l - n) < 0 then -1 else IntKind.i64.wrap (l - n)))) H
  | _ => False
@[simp ↓] theorem q_szPrS_eq (b i n : Nat) (l : Int) (H : AHeap) (K : AV → AHeap → Prop) : q_szPrS [.c (.sl b i n), .c (.int .i64 l)] H K = K (.c (.int .i64 (if IntKind.i64.wrap (l - n) < 0 then -1 else IntKind.i64.wrap (l - n)))) H := rfl
theorem szPrintingS_s : Sound Try.prog 15 q_szPrS := by
  intro args H K h
  unfold q_szPrS at h
  split at h
  rotate_left
  all_goals first | exact False.elim h | skip
  refine acalls_fn laws_szPrintingS_k soundE_nil ⟨by simp, fun hwf => ?_⟩
  simp (config := {contextual := true, implicitDefEqProofs := false, maxSteps := 40000}) [-Int.not_le, -Int.not_lt, argsF, laws_szPrintingS_c]
  split <;> ((refine Out.plain hwf ?_ rfl ?_; (repeat first | exact Sub.refl _ | refine Sub.push hwf ?_ _ | refine Sub.set hwf ?_ (by first | exact Nat.le_refl _ | omega) _ | refine Sub.kill hwf ?_ (by first | exact Nat.le_refl _ | omega))); simp_all)

def q_eqPr : Con := fun args H K => match args with
  | [.agg e, .agg f] => onv (ePr.dec e) fun p => onv (ePr.dec f) fun q => K (.c (.bool (decide (p = q)))) H
  | _ => False
@[simp ↓] theorem q_eqPr_eq (e f : List AC) (H : AHeap) (K : AV → AHeap → Prop) : q_eqPr [.agg e, .agg f] H K = onv (ePr.dec e) fun p => onv (ePr.dec f) fun q => K (.c (.bool (decide (p = q)))) H := rfl
theorem eqPrinting_s : Sound Try.prog 55 q_eqPr := by
  intro args H K h
  unfold q_eqPr at h
  split at h
  rotate_left
  all_goals first | exact False.elim h | skip
  obtain ⟨p, hp, h1⟩ := onv_iff.1 h
  obtain ⟨q, hq, h2⟩ := onv_iff.1 h1
  have e1 := ePr.cd _ _ hp
  have e2 := ePr.cd _ _ hq
  clear h h1
  subst e1 e2
  refine acalls_fn laws_eqPrinting_k soundE_nil ⟨by simp, fun hwf => ?_⟩
  have hne0 : (H.n = H.n + 1) = False := eq_false (by omega)
  simp (config := {contextual := true, implicitDefEqProofs := false, maxSteps := 40000}) [-Int.not_le, -Int.not_lt, argsF, laws_eqPrinting_c, hne0]
  cases p; cases q
  repeat' split
  all_goals ((refine Out.plain hwf ?_ rfl ?_; (repeat first | exact Sub.refl _ | refine Sub.push hwf ?_ _ | refine Sub.set hwf ?_ (by first | exact Nat.le_refl _ | omega) _ | refine Sub.kill hwf ?_ (by first | exact Nat.le_refl _ | omega))); simp_all)

def pT : TypeId := 56
def kPr (ps : List Pr) : ABlk := ⟨56, 5, false, false, ps.map ePr.cells⟩
def q_toPrS : Con := fun args H K => match args with
  | [x] => ePr.rd H (fun ps => ps.length ≤ 1048576 ∧ K (.c (.sl H.n 0 ps.length)) (H.push (kPr ps))) x
  | _ => False
@[simp ↓] theorem q_toPrS_eq (x : AV) (H : AHeap) (K : AV → AHeap → Prop) : q_toPrS [x] H K = ePr.rd H (fun ps => ps.length ≤ 1048576 ∧ K (.c (.sl H.n 0 ps.length)) (H.push (kPr ps))) x := rfl
def z5 : List AC := [.int .i64 0, .int .i64 0, .int .i64 0, .int .i64 0, .int .i64 0]
def elsTo (ps : List Pr) (j : Nat) : List (List AC) := (ps.take j).map ePr.cells ++ List.replicate (ps.length - j) z5
theorem elsTo_len (ps : List Pr) (j : Nat) (h : j ≤ ps.length) : (elsTo ps j).length = ps.length := by simp [elsTo]; omega
theorem elsTo_set (ps : List Pr) (j : Nat) (h : j < ps.length) : (elsTo ps j).set j (ePr.cells ps[j]) = elsTo ps (j + 1) := by
  unfold elsTo
  rw [List.set_append_right _ _ (by simp; omega)]
  have e : j - (List.map ePr.cells (List.take j ps)).length = 0 := by simp; omega
  rw [e, show ps.length - j = (ps.length - (j + 1)) + 1 by omega, List.replicate_succ, List.set_cons_zero, List.take_succ_eq_append_getElem h, List.map_append, List.append_assoc]
  rfl
theorem toPrintingS_s : Sound Try.prog 17 q_toPrS := by
  intro args H K h
  unfold q_toPrS at h
  split at h
  rotate_left
  all_goals first | exact False.elim h | skip
  obtain ⟨b, i, k, ps, rfl, hat, hl, h⟩ := Enc.rd_at h
  have hE := soundE_cons toPrinting_s (P := Try.prog) soundE_nil
  refine acalls_fn laws_toPrintingS_k hE ⟨by simp, fun hwf => ?_⟩
  have hb : b < H.n := (hwf b k hat.blk).1
  have hne : (b = H.n) = False := eq_false (by omega)
  have hl1 : (40 : Int) * (ps.length : Int) ≤ 140737488355328 := by omega
  have hl2 : (ps.length : Int) ≤ 140737488355328 := by omega
  simp (config := {contextual := true, implicitDefEqProofs := false, maxSteps := 40000}) [-Int.not_le, -Int.not_lt, argsF, laws_toPrintingS_c, hl1, hl2]
  have h0 : List.replicate ps.length [AC.int IntKind.i64 0, AC.int IntKind.i64 0, AC.int IntKind.i64 0, AC.int IntKind.i64 0, AC.int IntKind.i64 0] = elsTo ps 0 := by simp [elsTo, z5]
  rw [h0]
  have hpl : ∀ j, ∀ e ∈ elsTo ps j, ∀ x ∈ e, x.okR some H.n := fun j => plain_ok fun e he => by
    rcases List.mem_append.1 he with he | he
    · obtain ⟨p, _, rfl⟩ := List.mem_map.1 he; rfl
    · rw [(List.mem_replicate.1 he).2]; rfl
  refine aloop_at (X := Nat) (fun j => [(0, .c (.sl b i ps.length)), (3, .c (.sl H.n 0 ps.length)), (4, .c (.int .i64 j))]) (fun j => H.push ⟨56, 5, false, false, elsTo ps j⟩) (fun j => j ≤ ps.length) (fun j => ps.length - j) hE _ 0 (Nat.zero_le _)
    (.one (c := some H.n) hwf (.push hwf (.refl _) _) ⟨Nat.le_refl _, by simp [push_b]⟩ (hpl 0) (by simp [frOk, AV.okR, AV.ok1, AC.okR, AV.ren, AV.ren1, AC.ren, AFrame.get, pl1_old _ _ hb]; omega)) fun j hj => ?_
  rcases Nat.lt_or_ge j ps.length with hlt | hge
  · have e1 := hat.get hlt
    have hj1 : (j : Int) < (ps.length : Int) := by omega
    have w1 : IntKind.i64.wrap ((j : Int) + 1) = (j : Int) + 1 := wrap_id (by omega) (by omega)
    have es := elsTo_set ps j hlt
    have el := elsTo_len ps j hj
    rw [ePr_cells] at es
    simp (config := {contextual := true, implicitDefEqProofs := false, maxSteps := 40000}) [-Int.not_le, -Int.not_lt, argsF, laws_toPrintingS_l0, hat.blk, hat.esz, e1, hj1, w1, hne, el, hlt, push_set, es]
    exact ⟨j + 1, hlt, show ps.length - (j + 1) < ps.length - j by omega, .one (c := some H.n) hwf (.push hwf (.refl _) _) ⟨Nat.le_refl _, by simp [push_b]⟩ (hpl _) (by simp [frOk, AV.okR, AV.ok1, AC.okR, AV.ren, AV.ren1, AC.ren, AFrame.get, pl1_old _ _ hb]; omega)⟩
  · have hge' : ¬ (j : Int) < (ps.length : Int) := by omega
    simp (config := {contextual := true, implicitDefEqProofs := false, maxSteps := 40000}) [-Int.not_le, -Int.not_lt, argsF, laws_toPrintingS_l0, hge']
    have e : elsTo ps j = ps.map ePr.cells := by rw [show j = ps.length by omega]; simp [elsTo]
    rw [e]
    exact .one (k := kPr ps) (c := some H.n) hwf (.push hwf (.refl _) _) ⟨Nat.le_refl _, by simp [push_b, kPr]⟩ (plain_map (fun _ => rfl) ps) (by simp [frOk, AV.okR, AV.ok1, AC.okR, AV.ren, AV.ren1, AC.ren, AFrame.get]) h

def q_eqPrS : Con := fun args H K => match args with
  | [x, y] => ePr.rd H (fun ps => ePr.rd H (fun qs => K (.c (.bool (decide (ps = qs)))) H) y) x
  | _ => False
@[simp ↓] theorem q_eqPrS_eq (x y : AV) (H : AHeap) (K : AV → AHeap → Prop) : q_eqPrS [x, y] H K = ePr.rd H (fun ps => ePr.rd H (fun qs => K (.c (.bool (decide (ps = qs)))) H) y) x := rfl
theorem eqPrintingS_s : Sound Try.prog 19 q_eqPrS := by
  intro args H K h
  unfold q_eqPrS at h
  split at h
  rotate_left
  all_goals first | exact False.elim h | skip
  obtain ⟨b, i, k, ps, rfl, hat, h⟩ := Enc.rd_at h
  obtain ⟨b', i', k', qs, rfl, hat', h⟩ := Enc.rd_at h
  have hE := soundE_cons eqPrinting_s (P := Try.prog) soundE_nil
  refine acalls_fn laws_eqPrintingS_k hE ⟨by simp, fun hwf => ?_⟩
  have hb : b < H.n := (hwf b k hat.blk).1
  have hb' : b' < H.n := (hwf b' k' hat'.blk).1
  have hmx : ps.length ≤ 9223372036854775807 := by have h1 := (hwf b k hat.blk).2.2; have h2 := hat.len; omega
  simp (config := {contextual := true, implicitDefEqProofs := false, maxSteps := 40000}) [-Int.not_le, -Int.not_lt, argsF, laws_eqPrintingS_c]
  split
  · rename_i hl
    refine aloop_at (X := Nat) (fun j => [(0, .c (.sl b i ps.length)), (1, .c (.sl b' i' qs.length)), (5, .c (.int .i64 j))]) (fun _ => H) (fun j => j ≤ ps.length ∧ ∀ m, m < j → ps[m]? = qs[m]?) (fun j => ps.length - j) hE _ 0 ⟨Nat.zero_le _, by simp⟩ (.same hwf (by simp [frOk, AV.okR, AV.ok1, AC.okR, AV.ren, AV.ren1, AFrame.get, hb, hb'])) fun j hj => ?_
    obtain ⟨hj, hok⟩ := hj
    rcases Nat.lt_or_ge j ps.length with hlt | hge
    · have hlt' : j < qs.length := by omega
      have e1 := hat.get hlt
      have e2 := hat'.get hlt'
      have hj1 : (j : Int) < (ps.length : Int) := by omega
      have hj2 : (j : Int) < (qs.length : Int) := by omega
      have w1 : IntKind.i64.wrap ((j : Int) + 1) = (j : Int) + 1 := wrap_id (by omega) (by omega)
      simp (config := {contextual := true, implicitDefEqProofs := false, maxSteps := 40000}) [-Int.not_le, -Int.not_lt, argsF, laws_eqPrintingS_l0, hat.blk, hat.esz, e1, hat'.blk, hat'.esz, e2, hj1, hj2, w1]
      split
      · rename_i he
        refine ⟨j + 1, ⟨hlt, fun m hm => ?_⟩, show ps.length - (j + 1) < ps.length - j by omega, .drop hwf (.refl _) (by simp [frOk, AV.okR, AV.ok1, AC.okR, AV.ren, AV.ren1, AFrame.get, hb, hb'])⟩
        rcases Nat.lt_or_ge m j with h1 | h1
        · exact hok m h1
        · rw [show m = j by omega, List.getElem?_eq_getElem hlt, List.getElem?_eq_getElem hlt', he]
      · rename_i he
        (refine Out.plain hwf ?_ rfl ?_; (repeat first | exact Sub.refl _ | refine Sub.push hwf ?_ _ | refine Sub.set hwf ?_ (by first | exact Nat.le_refl _ | omega) _ | refine Sub.kill hwf ?_ (by first | exact Nat.le_refl _ | omega)))
        rwa [decide_eq_false (fun e => he (by subst e; rfl))] at h
    · have hge' : ¬ (j : Int) < (ps.length : Int) := by omega
      simp (config := {contextual := true, implicitDefEqProofs := false, maxSteps := 40000}) [-Int.not_le, -Int.not_lt, argsF, laws_eqPrintingS_l0, hge']
      (refine Out.plain hwf ?_ rfl ?_; (repeat first | exact Sub.refl _ | refine Sub.push hwf ?_ _ | refine Sub.set hwf ?_ (by first | exact Nat.le_refl _ | omega) _ | refine Sub.kill hwf ?_ (by first | exact Nat.le_refl _ | omega)))
      have e : ps = qs := List.ext_getElem? fun m => by
        rcases Nat.lt_or_ge m j with h1 | h1
        · exact hok m h1
        · rw [List.getElem?_eq_none (by omega), List.getElem?_eq_none (by omega)]
      rwa [decide_eq_true e] at h
  · rename_i hl
    (refine Out.plain hwf ?_ rfl ?_; (repeat first | exact Sub.refl _ | refine Sub.push hwf ?_ _ | refine Sub.set hwf ?_ (by first | exact Nat.le_refl _ | omega) _ | refine Sub.kill hwf ?_ (by first | exact Nat.le_refl _ | omega)))
    rwa [decide_eq_false (fun e => hl (by rw [e]))] at h

def q_true1 : Con := fun args H K => match args with
  | [x] => ePr.rd H (fun _ => K (.c (.bool true)) H) x
  | _ => False
theorem law_ArePrintings : Sound Try.prog 3 q_true1 := by
  intro args H K h
  unfold q_true1 at h
  split at h
  rotate_left
  all_goals first | exact False.elim h | skip
  obtain ⟨b, i, k, ps, rfl, hat, h⟩ := Enc.rd_at h
  have hE := soundE_cons szPrintingS_s (soundE_cons toPrintingS_s (soundE_cons ArePrintings_s (soundE_cons ArePrintings_i (soundE_cons eqPrintingS_s (P := Try.prog) soundE_nil))))
  refine acalls_fn laws_FnExactArePrintings_k hE ⟨by simp, fun hwf => ?_⟩
  have hb : b < H.n := (hwf b k hat.blk).1
  have hne : ∀ i, (b = H.n + i) = False := fun i => eq_false (by omega)
  have hne0 : (b = H.n) = False := eq_false (by omega)
  have hmx : ps.length ≤ 9223372036854775807 := by have h1 := (hwf b k hat.blk).2.2; have h2 := hat.len; omega
  have hw : IntKind.i64.wrap (1048576 - (ps.length : Int)) = 1048576 - (ps.length : Int) := wrap_id (by omega) (by omega)
  have hls : ps.length ≤ 1048576 ∨ 1048576 < ps.length := by omega
  rcases hls with hl | hl
  · have h0 : ¬ (1048576 - (ps.length : Int)) < 0 := by omega
    simp (config := {contextual := true, implicitDefEqProofs := false, maxSteps := 40000}) [-Int.not_le, -Int.not_lt, argsF, laws_FnExactArePrintings_c, hw, h0, hat.blk, hat.esz, hat.len, hat.els, hne, hne0, hl, kPr]
    (refine Out.plain hwf ?_ rfl ?_; (repeat first | exact Sub.refl _ | refine Sub.push hwf ?_ _ | refine Sub.set hwf ?_ (by first | exact Nat.le_refl _ | omega) _ | refine Sub.kill hwf ?_ (by first | exact Nat.le_refl _ | omega))); exact h
  · have h0 : (1048576 - (ps.length : Int)) < 0 := by omega
    simp (config := {contextual := true, implicitDefEqProofs := false, maxSteps := 40000}) [-Int.not_le, -Int.not_lt, argsF, laws_FnExactArePrintings_c, hw, h0]
    (refine Out.plain hwf ?_ rfl ?_; (repeat first | exact Sub.refl _ | refine Sub.push hwf ?_ _ | refine Sub.set hwf ?_ (by first | exact Nat.le_refl _ | omega) _ | refine Sub.kill hwf ?_ (by first | exact Nat.le_refl _ | omega))); exact h
end Go.Proofs.Yticknbohoolhgaa
