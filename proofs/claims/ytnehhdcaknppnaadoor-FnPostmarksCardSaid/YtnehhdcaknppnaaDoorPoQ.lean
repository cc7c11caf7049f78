/- The postmarks: what is valid. -/
import Derived.Test.YtnehhdcaknppnaaDoorPoL
set_option maxRecDepth 8000
set_option linter.unusedSimpArgs false
set_option linter.unusedVariables false
namespace Go.Proofs.YtnehhdcaknppnaaDoor
open Go Go.RowKit

structure Po where
  id : Int
  town : List UInt8
  kind : Int
  first : Int
  last : Int
  lost : List UInt8
  deriving DecidableEq, Inhabited

def ePo : Enc Po where
  n := 6
  cells p := [.int .i64 p.id, .str p.town, .int .i64 p.kind, .int .i64 p.first, .int .i64 p.last, .str p.lost]
  dec e := match e with
    | [.int .i64 x0, .str x1, .int .i64 x2, .int .i64 x3, .int .i64 x4, .str x5] => some ⟨x0, x1, x2, x3, x4, x5⟩
    | _ => none
  dc _ := rfl
  cd e p h := by
    split at h
    · cases h; rfl
    · cases h
  len _ := rfl

@[simp] theorem ePo_n : ePo.n = 6 := (rfl)
@[simp] theorem ePo_cells (p : Po) : ePo.cells p = [.int .i64 p.id, .str p.town, .int .i64 p.kind, .int .i64 p.first, .int .i64 p.last, .str p.lost] := (rfl)
@[simp] theorem ePo_dec (x0 : Int) (x1 : List UInt8) (x2 : Int) (x3 : Int) (x4 : Int) (x5 : List UInt8) : ePo.dec [.int .i64 x0, .str x1, .int .i64 x2, .int .i64 x3, .int .i64 x4, .str x5] = some ⟨x0, x1, x2, x3, x4, x5⟩ := (rfl)
@[simp] theorem ePo_eta (p : Po) : (⟨p.id, p.town, p.kind, p.first, p.last, p.lost⟩ : Po) = p := (rfl)

def q_inRange : Con := fun args H K => match args with
  | [.c (.int .i64 n), .c (.int .i64 lo), .c (.int .i64 hi)] => K (.c (.bool (inR n lo hi))) H
  | _ => False
@[simp ↓] theorem q_inRange_eq (n : Int) (lo : Int) (hi : Int) (H : AHeap) (K : AV → AHeap → Prop) : q_inRange [.c (.int .i64 n), .c (.int .i64 lo), .c (.int .i64 hi)] H K = (K (.c (.bool (inR n lo hi))) H) := rfl

theorem impl_inRange_s : Sound Tryd.prog 76 q_inRange := by
  intro args H K h
  unfold q_inRange at h
  split at h
  rotate_left
  all_goals first | exact False.elim h | skip
  rename_i n lo hi
  have hE := soundE_nil (P := Tryd.prog)
  refine acalls_fn impl_inRange_k hE ⟨by simp, fun hwf => ?_⟩
  simp (config := {contextual := true, implicitDefEqProofs := false, maxSteps := 60000}) [-Int.not_le, -Int.not_lt, argsF, impl_inRange_c]
  split <;> ((refine Out.plain hwf ?_ rfl ?_; (repeat first | exact Sub.refl _ | refine Sub.push hwf ?_ _ | refine Sub.set hwf ?_ (by first | exact Nat.le_refl _ | omega) _ | refine Sub.kill hwf ?_ (by first | exact Nat.le_refl _ | omega))); simp_all [inR])

theorem spec_l1In_s : Sound Tryd.prog 75 q_inRange := by
  intro args H K h
  unfold q_inRange at h
  split at h
  rotate_left
  all_goals first | exact False.elim h | skip
  rename_i n lo hi
  have hE := soundE_nil (P := Tryd.prog)
  refine acalls_fn spec_l1In_k hE ⟨by simp, fun hwf => ?_⟩
  simp (config := {contextual := true, implicitDefEqProofs := false, maxSteps := 60000}) [-Int.not_le, -Int.not_lt, argsF, spec_l1In_c]
  split <;> ((refine Out.plain hwf ?_ rfl ?_; (repeat first | exact Sub.refl _ | refine Sub.push hwf ?_ _ | refine Sub.set hwf ?_ (by first | exact Nat.le_refl _ | omega) _ | refine Sub.kill hwf ?_ (by first | exact Nat.le_refl _ | omega))); simp_all [inR])

def q_isDay : Con := fun args H K => match args with
  | [.c (.int .i64 n)] => K (.c (.bool (inR n 0 4000))) H
  | _ => False
@[simp ↓] theorem q_isDay_eq (n : Int) (H : AHeap) (K : AV → AHeap → Prop) : q_isDay [.c (.int .i64 n)] H K = (K (.c (.bool (inR n 0 4000))) H) := rfl

theorem impl_isDay_s : Sound Tryd.prog 80 q_isDay := by
  intro args H K h
  unfold q_isDay at h
  split at h
  rotate_left
  all_goals first | exact False.elim h | skip
  rename_i n
  have hE := soundE_cons impl_inRange_s (soundE_nil (P := Tryd.prog))
  refine acalls_fn impl_isDay_k hE ⟨by simp, fun hwf => ?_⟩
  simp (config := {contextual := true, implicitDefEqProofs := false, maxSteps := 60000}) [-Int.not_le, -Int.not_lt, argsF, impl_isDay_c]
  (refine Out.plain hwf ?_ rfl ?_; (repeat first | exact Sub.refl _ | refine Sub.push hwf ?_ _ | refine Sub.set hwf ?_ (by first | exact Nat.le_refl _ | omega) _ | refine Sub.kill hwf ?_ (by first | exact Nat.le_refl _ | omega))); exact h

theorem spec_l2Day_s : Sound Tryd.prog 79 q_isDay := by
  intro args H K h
  unfold q_isDay at h
  split at h
  rotate_left
  all_goals first | exact False.elim h | skip
  rename_i n
  have hE := soundE_cons spec_l1In_s (soundE_nil (P := Tryd.prog))
  refine acalls_fn spec_l2Day_k hE ⟨by simp, fun hwf => ?_⟩
  simp (config := {contextual := true, implicitDefEqProofs := false, maxSteps := 60000}) [-Int.not_le, -Int.not_lt, argsF, spec_l2Day_c]
  (refine Out.plain hwf ?_ rfl ?_; (repeat first | exact Sub.refl _ | refine Sub.push hwf ?_ _ | refine Sub.set hwf ?_ (by first | exact Nat.le_refl _ | omega) _ | refine Sub.kill hwf ?_ (by first | exact Nat.le_refl _ | omega))); exact h

def wordGo (n : Nat) : List UInt8 → Bool
  | [] => inR n 1 10
  | c :: r => if (c.toNat : Int) < 97 then false else if 122 < (c.toNat : Int) then false else wordGo n r
def isWord (s : List UInt8) : Bool := wordGo s.length s

def q_word : Con := fun args H K => match args with
  | [.c (.str s)] => s.length ≤ 9223372036854775807 ∧ K (.c (.bool (isWord s))) H
  | _ => False
@[simp ↓] theorem q_word_eq (s : List UInt8) (H : AHeap) (K : AV → AHeap → Prop) : q_word [.c (.str s)] H K = (s.length ≤ 9223372036854775807 ∧ K (.c (.bool (isWord s))) H) := rfl

theorem impl_isWord_s : Sound Tryd.prog 67 q_word := by
  intro args H K h
  unfold q_word at h
  split at h
  rotate_left
  all_goals first | exact False.elim h | skip
  rename_i s
  have hE := soundE_cons impl_inRange_s (soundE_nil (P := Tryd.prog))
  refine acalls_fn impl_isWord_k hE ⟨by simp, fun hwf => ?_⟩
  obtain ⟨hms, h⟩ := h
  unfold isWord at h
  simp (config := {contextual := true, implicitDefEqProofs := false, maxSteps := 60000}) [-Int.not_le, -Int.not_lt, argsF, impl_isWord_c]
  refine aloop_list s (fun j _ => [(0, .c (.str (s))), (5, .c (.int .i64 ((s.length : Int)))), (6, .c (.int .i64 (j)))]) (fun j _ => H) (fun j l _ => K (.c (.bool (wordGo s.length l))) H) hE _ (()) (h) (.same hwf (by simp [frOk, AV.okR, AV.ok1, AC.okR, AV.ren, AV.ren1, AC.ren, AFrame.get, pl1_old, *]; first | done | omega)) (fun j _ hlt hi => ?_) fun _ hi => ?_
  ·
    have hj1 := idx_lt hlt
    have w1 : IntKind.i64.wrap ((j : Int) + 1) = (j : Int) + 1 := wrap_id (by omega) (by omega)
    have hcg : s[j]? = some s[j] := List.getElem?_eq_getElem hlt
    simp (config := {contextual := true, implicitDefEqProofs := false, maxSteps := 60000}) [-Int.not_le, -Int.not_lt, argsF, impl_isWord_l0, hj1, w1, hcg, hlt]
    simp only [wordGo] at hi
    repeat' split
    all_goals try simp only [*, if_true, if_false, reduceCtorEq, and_self, and_true, true_and, and_false, false_and, not_true_eq_false, not_false_eq_true] at hi
    all_goals first | ((refine Out.plain hwf ?_ rfl ?_; (repeat first | exact Sub.refl _ | refine Sub.push hwf ?_ _ | refine Sub.set hwf ?_ (by first | exact Nat.le_refl _ | omega) _ | refine Sub.kill hwf ?_ (by first | exact Nat.le_refl _ | omega))); exact hi) | exact ⟨(), hi, .drop hwf (by (repeat first | exact Sub.refl _ | refine Sub.push hwf ?_ _ | refine Sub.set hwf ?_ (by first | exact Nat.le_refl _ | omega) _ | refine Sub.kill hwf ?_ (by first | exact Nat.le_refl _ | omega))) (by simp [frOk, AV.okR, AV.ok1, AC.okR, AV.ren, AV.ren1, AC.ren, AFrame.get, pl1_old, *]; first | done | omega)⟩
  ·
    simp (config := {contextual := true, implicitDefEqProofs := false, maxSteps := 60000}) [-Int.not_le, -Int.not_lt, argsF, impl_isWord_l0]
    simp only [wordGo] at hi
    (refine Out.plain hwf ?_ rfl ?_; (repeat first | exact Sub.refl _ | refine Sub.push hwf ?_ _ | refine Sub.set hwf ?_ (by first | exact Nat.le_refl _ | omega) _ | refine Sub.kill hwf ?_ (by first | exact Nat.le_refl _ | omega))); exact hi

theorem spec_l2Word_s : Sound Tryd.prog 66 q_word := by
  intro args H K h
  unfold q_word at h
  split at h
  rotate_left
  all_goals first | exact False.elim h | skip
  rename_i s
  have hE := soundE_cons spec_l1In_s (soundE_nil (P := Tryd.prog))
  refine acalls_fn spec_l2Word_k hE ⟨by simp, fun hwf => ?_⟩
  obtain ⟨hms, h⟩ := h
  unfold isWord at h
  simp (config := {contextual := true, implicitDefEqProofs := false, maxSteps := 60000}) [-Int.not_le, -Int.not_lt, argsF, spec_l2Word_c]
  refine aloop_list s (fun j _ => [(0, .c (.str (s))), (3, .c (.int .i64 (j)))]) (fun j _ => H) (fun j l _ => K (.c (.bool (wordGo s.length l))) H) hE _ (()) (h) (.same hwf (by simp [frOk, AV.okR, AV.ok1, AC.okR, AV.ren, AV.ren1, AC.ren, AFrame.get, pl1_old, *]; first | done | omega)) (fun j _ hlt hi => ?_) fun _ hi => ?_
  ·
    have hj1 := idx_lt hlt
    have w1 : IntKind.i64.wrap ((j : Int) + 1) = (j : Int) + 1 := wrap_id (by omega) (by omega)
    have hcg : s[j]? = some s[j] := List.getElem?_eq_getElem hlt
    simp (config := {contextual := true, implicitDefEqProofs := false, maxSteps := 60000}) [-Int.not_le, -Int.not_lt, argsF, spec_l2Word_l0, hj1, w1, hcg, hlt]
    simp only [wordGo] at hi
    repeat' split
    all_goals try simp only [*, if_true, if_false, reduceCtorEq, and_self, and_true, true_and, and_false, false_and, not_true_eq_false, not_false_eq_true] at hi
    all_goals first | ((refine Out.plain hwf ?_ rfl ?_; (repeat first | exact Sub.refl _ | refine Sub.push hwf ?_ _ | refine Sub.set hwf ?_ (by first | exact Nat.le_refl _ | omega) _ | refine Sub.kill hwf ?_ (by first | exact Nat.le_refl _ | omega))); exact hi) | exact ⟨(), hi, .drop hwf (by (repeat first | exact Sub.refl _ | refine Sub.push hwf ?_ _ | refine Sub.set hwf ?_ (by first | exact Nat.le_refl _ | omega) _ | refine Sub.kill hwf ?_ (by first | exact Nat.le_refl _ | omega))) (by simp [frOk, AV.okR, AV.ok1, AC.okR, AV.ren, AV.ren1, AC.ren, AFrame.get, pl1_old, *]; first | done | omega)⟩
  ·
    simp (config := {contextual := true, implicitDefEqProofs := false, maxSteps := 60000}) [-Int.not_le, -Int.not_lt, argsF, spec_l2Word_l0]
    simp only [wordGo] at hi
    (refine Out.plain hwf ?_ rfl ?_; (repeat first | exact Sub.refl _ | refine Sub.push hwf ?_ _ | refine Sub.set hwf ?_ (by first | exact Nat.le_refl _ | omega) _ | refine Sub.kill hwf ?_ (by first | exact Nat.le_refl _ | omega))); exact hi

set_option maxHeartbeats 1000000
/-- texts no longer than a text can be -/
def txP (p : Po) : Prop := p.town.length ≤ 9223372036854775807 ∧ p.lost.length ≤ 9223372036854775807
instance (p : Po) : Decidable (txP p) := inferInstanceAs (Decidable (_ ∧ _))
def isPo (p : Po) : Bool := inR p.id 1 999 && (isWord p.town && (inR p.kind 1 5 && (inR p.last 0 4000 && (inR p.first 0 p.last && (decide (p.lost.length = p.town.length) && (p.lost.all xd && p.lost.contains 46))))))
theorem isPo_eq (p : Po) : isPo p = (inR p.id 1 999 && (isWord p.town && (inR p.kind 1 5 && (inR p.first 0 4000 && (inR p.last 0 4000 && (decide (p.first ≤ p.last) && (decide ((p.lost.length : Int) = (p.town.length : Int)) && (decide (Lib.trimS p.lost [46, 120] = []) && decide (0 ≤ Lib.indexByte p.lost 46))))))))) := by
  rw [Bool.eq_iff_iff]
  simp only [isPo, Bool.and_eq_true, decide_eq_true_eq, inR, trim_nil, (has_byte 46 p.lost).1]
  constructor
  · rintro ⟨h1, h2, h3, h4, h5, h6, h7, h8⟩
    exact ⟨h1, h2, h3, by omega, h4, h5.2, by omega, h7, h8⟩
  · rintro ⟨h1, h2, h3, h4, h5, h6, h7, h8, h9⟩
    exact ⟨h1, h2, h3, h5, by omega, by omega, h8, h9⟩
theorem wordGo_len {n : Nat} : ∀ {l : List UInt8}, wordGo n l = true → inR n 1 10 = true
  | [], h => h
  | c :: r, h => by
    simp only [wordGo] at h
    split at h
    · cases h
    · split at h
      · cases h
      · exact wordGo_len h
theorem isPo_b {p : Po} (h : isPo p = true) : 1 ≤ p.id ∧ p.id ≤ 999 ∧ 1 ≤ p.town.length ∧ p.town.length ≤ 10 ∧ 1 ≤ p.kind ∧ p.kind ≤ 5 ∧ 0 ≤ p.first ∧ p.first ≤ p.last ∧ p.last ≤ 4000 ∧ p.lost.length = p.town.length := by
  simp only [isPo, Bool.and_eq_true, decide_eq_true_eq, inR] at h
  obtain ⟨h1, h2, h3, h4, h5, h6, h7, h8⟩ := h
  have := wordGo_len (l := p.town) (n := p.town.length) h2
  simp only [inR, decide_eq_true_eq] at this
  omega
def seenGo : List UInt8 → Bool → Bool
  | [], s => s
  | c :: r, s => if c = 46 then seenGo r true else if c = 120 then seenGo r s else false
theorem seenGo_eq : ∀ (l : List UInt8) (s : Bool), seenGo l s = (l.all xd && (s || l.contains 46))
  | [], s => by simp [seenGo]
  | c :: r, s => by
    simp only [seenGo, List.all_cons, List.contains_cons]
    by_cases h : c = 46
    · subst h; rw [if_pos rfl, seenGo_eq r]; simp [xd]
    · rw [if_neg h]
      have e : ((46 : UInt8) == c) = false := by simpa using Ne.symm h
      by_cases h2 : c = 120
      · subst h2; rw [if_pos rfl, seenGo_eq r]; simp [xd]
      · rw [if_neg h2]; simp [xd, h, h2]
/-- what a postmark shows -/
def shown (p : Po) : List UInt8 := List.zipWith (fun t l => if l = 120 then 63 else t) p.town p.lost

def q_isPo : Con := fun args H K => match args with
  | [.agg p_e] => onv (ePo.dec p_e) fun p => txP p ∧ K (.c (.bool (isPo p))) H
  | _ => False
@[simp ↓] theorem q_isPo_eq (p_e : List AC) (H : AHeap) (K : AV → AHeap → Prop) : q_isPo [.agg p_e] H K = (onv (ePo.dec p_e) fun p => txP p ∧ K (.c (.bool (isPo p))) H) := rfl

theorem impl_isPostmark_s : Sound Tryd.prog 60 q_isPo := by
  intro args H K h
  unfold q_isPo at h
  split at h
  rotate_left
  all_goals first | exact False.elim h | skip
  rename_i p_e
  have h1 := onv_iff.1 h
  clear h
  obtain ⟨p, hd_p, h⟩ := h1
  obtain rfl := ePo.cd _ _ hd_p
  clear hd_p
  have hE := soundE_cons impl_inRange_s (soundE_cons impl_isWord_s (soundE_cons impl_isDay_s (soundE_cons strings_Trim_s (soundE_cons strings_Contains_s (soundE_nil (P := Tryd.prog))))))
  refine acalls_fn impl_isPostmark_k hE ⟨by simp, fun hwf => ?_⟩
  obtain ⟨⟨hok1, hok2⟩, h⟩ := h
  simp (config := {contextual := true, implicitDefEqProofs := false, maxSteps := 2000000}) [-Int.not_le, -Int.not_lt, argsF, impl_isPostmark_c, hok1, hok2]
  rw [isPo_eq] at h
  repeat' split
  all_goals ((refine Out.plain hwf ?_ rfl ?_; (repeat first | exact Sub.refl _ | refine Sub.push hwf ?_ _ | refine Sub.set hwf ?_ (by first | exact Nat.le_refl _ | omega) _ | refine Sub.kill hwf ?_ (by first | exact Nat.le_refl _ | omega))); simp_all)

@[simp] theorem u46 (c : UInt8) : ((c.toNat : Int) = 46) = (c = 46) := propext ⟨fun h => UInt8.toNat_inj.1 (by have : (46 : UInt8).toNat = 46 := rfl; omega), fun h => by subst h; rfl⟩
@[simp] theorem u46' (c : UInt8) : (c.toNat = 46) = (c = 46) := propext ⟨fun h => UInt8.toNat_inj.1 (by have : (46 : UInt8).toNat = 46 := rfl; omega), fun h => by subst h; rfl⟩
@[simp] theorem u120 (c : UInt8) : ((c.toNat : Int) = 120) = (c = 120) := propext ⟨fun h => UInt8.toNat_inj.1 (by have : (120 : UInt8).toNat = 120 := rfl; omega), fun h => by subst h; rfl⟩
@[simp] theorem u120' (c : UInt8) : (c.toNat = 120) = (c = 120) := propext ⟨fun h => UInt8.toNat_inj.1 (by have : (120 : UInt8).toNat = 120 := rfl; omega), fun h => by subst h; rfl⟩
@[simp] theorem u63 (c : UInt8) : ((c.toNat : Int) = 63) = (c = 63) := propext ⟨fun h => UInt8.toNat_inj.1 (by have : (63 : UInt8).toNat = 63 := rfl; omega), fun h => by subst h; rfl⟩
@[simp] theorem u63' (c : UInt8) : (c.toNat = 63) = (c = 63) := propext ⟨fun h => UInt8.toNat_inj.1 (by have : (63 : UInt8).toNat = 63 := rfl; omega), fun h => by subst h; rfl⟩
@[simp] theorem uNN (c d : UInt8) : ((c.toNat : Int) = (d.toNat : Int)) = (c = d) := propext ⟨fun h => UInt8.toNat_inj.1 (by omega), fun h => by rw [h]⟩
@[simp] theorem uNN' (c d : UInt8) : (c.toNat = d.toNat) = (c = d) := propext ⟨fun h => UInt8.toNat_inj.1 h, fun h => by rw [h]⟩
def boxP (p : Po) : ABlk := ⟨26, 6, false, false, [[.int .i64 p.id, .str p.town, .int .i64 p.kind, .int .i64 p.first, .int .i64 p.last, .str p.lost]]⟩
theorem boxP_wf {H : AHeap} (hwf : H.WF) (p : Po) : (H.push (boxP p)).WF := WF.push hwf (by simp [boxP, AC.okR]) (by simp [boxP])

theorem spec_l11One_s : Sound Tryd.prog 59 q_isPo := by
  intro args H K h
  unfold q_isPo at h
  split at h
  rotate_left
  all_goals first | exact False.elim h | skip
  rename_i p_e
  have h1 := onv_iff.1 h
  clear h
  obtain ⟨p, hd_p, h⟩ := h1
  obtain rfl := ePo.cd _ _ hd_p
  clear hd_p
  have hE := soundE_cons spec_l1In_s (soundE_cons spec_l2Word_s (soundE_cons spec_l2Day_s (soundE_nil (P := Tryd.prog))))
  refine acalls_fn spec_l11One_k hE ⟨by simp, fun hwf => ?_⟩
  obtain ⟨⟨hok1, hok2⟩, h⟩ := h
  have hwfB := boxP_wf hwf p
  by_cases hl : p.lost.length = p.town.length
  rotate_left
  · have hli : ¬ (p.lost.length : Int) = (p.town.length : Int) := by omega
    have e : isPo p = false := by simp [isPo, hl]
    rw [e] at h
    simp (config := {contextual := true, implicitDefEqProofs := false, maxSteps := 2000000}) [-Int.not_le, -Int.not_lt, argsF, spec_l11One_c, hok1, hok2, hli, hl]
    repeat' split
    all_goals ((refine Out.plain hwf ?_ rfl ?_; (repeat first | exact Sub.refl _ | refine Sub.push hwf ?_ _ | refine Sub.set hwf ?_ (by first | exact Nat.le_refl _ | omega) _ | refine Sub.kill hwf ?_ (by first | exact Nat.le_refl _ | omega))); exact h)
  have hli : (p.lost.length : Int) = (p.town.length : Int) := by omega
  simp (config := {contextual := true, implicitDefEqProofs := false, maxSteps := 2000000}) [-Int.not_le, -Int.not_lt, argsF, spec_l11One_c, hok1, hok2, hli, hl]
  repeat' (refine ite_i (fun _ => ?_) (fun _ => ?_))
  all_goals first | ((refine Out.plain hwf ?_ rfl ?_; (repeat first | exact Sub.refl _ | refine Sub.push hwf ?_ _ | refine Sub.set hwf ?_ (by first | exact Nat.le_refl _ | omega) _ | refine Sub.kill hwf ?_ (by first | exact Nat.le_refl _ | omega))); simp_all [isPo]; done) | skip
  have e : isPo p = seenGo p.lost false := by rw [seenGo_eq]; simp_all [isPo]
  rw [e] at h
  clear e
  refine aloop_list p.lost (fun j (b : Bool) => [(1, .c (.ptr H.n 0 0)), (3, .c (.bool (b))), (4, .c (.int .i64 (j)))]) (fun j b => H.push (boxP p)) (fun j l (b : Bool) => seenGo l b = seenGo p.lost false) hE _ false rfl (Weak.since (H := H.push (boxP p)) (by simp only [push_n]; omega) hwfB (.refl _) (by simp [frOk, AV.okR, AV.ok1, AC.okR, AV.ren, AV.ren1, AC.ren, AFrame.get, pl1_old, *]; first | done | omega)) (fun j b hlt hi => ?_) fun b hi => ?_
  · have hj1 := idx_lt hlt
    have w1 : IntKind.i64.wrap ((j : Int) + 1) = (j : Int) + 1 := wrap_id (by omega) (by omega)
    have hcg : p.lost[j]? = some p.lost[j] := List.getElem?_eq_getElem hlt
    simp (config := {contextual := true, implicitDefEqProofs := false, maxSteps := 2000000}) [-Int.not_le, -Int.not_lt, argsF, spec_l11One_l0, boxP, hj1, w1, hcg, hlt]
    simp only [seenGo] at hi
    refine ite_i (fun h1 => ?_) (fun h1 => ?_)
    · rw [if_pos h1] at hi
      exact ⟨true, hi, .since (by simp only [push_n]; omega) hwfB (.refl _) (by simp [frOk, AV.okR, AV.ok1, AC.okR, AV.ren, AV.ren1, AC.ren, AFrame.get, pl1_old, *]; first | done | omega)⟩
    rw [if_neg h1] at hi
    refine ite_i (fun h2 => ?_) (fun h2 => ?_)
    · rw [if_pos h2] at hi
      refine ite_i (fun h3 => ?_) (fun h3 => ?_)
      · subst h3; exact ⟨true, hi, .since (by simp only [push_n]; omega) hwfB (.refl _) (by simp [frOk, AV.okR, AV.ok1, AC.okR, AV.ren, AV.ren1, AC.ren, AFrame.get, pl1_old, *]; first | done | omega)⟩
      · have h4 : b = false := by simpa using h3
        subst h4; exact ⟨false, hi, .since (by simp only [push_n]; omega) hwfB (.refl _) (by simp [frOk, AV.okR, AV.ok1, AC.okR, AV.ren, AV.ren1, AC.ren, AFrame.get, pl1_old, *]; first | done | omega)⟩
    · rw [if_neg h2] at hi
      rw [← hi] at h
      (refine Out.plain hwf ?_ rfl ?_; (repeat first | exact Sub.refl _ | refine Sub.push hwf ?_ _ | refine Sub.set hwf ?_ (by first | exact Nat.le_refl _ | omega) _ | refine Sub.kill hwf ?_ (by first | exact Nat.le_refl _ | omega))); exact h
  · simp only [seenGo] at hi
    simp (config := {contextual := true, implicitDefEqProofs := false, maxSteps := 2000000}) [-Int.not_le, -Int.not_lt, argsF, spec_l11One_l0, boxP]
    subst hi
    (refine Out.plain hwf ?_ rfl ?_; (repeat first | exact Sub.refl _ | refine Sub.push hwf ?_ _ | refine Sub.set hwf ?_ (by first | exact Nat.le_refl _ | omega) _ | refine Sub.kill hwf ?_ (by first | exact Nat.le_refl _ | omega))); exact h

end Go.Proofs.YtnehhdcaknppnaaDoor
