/- The postmarks: readings. -/
import Derived.Test.YtnehhdcaknppnaaDoorPoT
set_option maxRecDepth 8000
set_option linter.unusedSimpArgs false
set_option linter.unusedVariables false
namespace Go.Proofs.YtnehhdcaknppnaaDoor
open Go Go.RowKit

set_option maxHeartbeats 2000000
/-- some number stands where internal/bytealg.MaxLen lies -/
def maxlI : World → Prop := fun w => ∃ m, w.cell? ⟨Tryd.lays155_ren.g 1, 0, none⟩ = some (.int .i64 m)
/-- a reading: a '?' stands for a letter -/
def okR (c : UInt8) : Bool := decide (c = 63) || (decide (97 ≤ c.toNat) && decide (c.toNat ≤ 122))
def isRd (s : List UInt8) : Bool := isWord (s.map (sub1 63 97))
theorem wordGo_all (n : Nat) : ∀ l : List UInt8, wordGo n l = ((l.all fun c => decide (97 ≤ c.toNat) && decide (c.toNat ≤ 122)) && inR n 1 10)
  | [] => by simp [wordGo]
  | c :: r => by
    simp only [wordGo, List.all_cons, wordGo_all n r]
    by_cases h1 : (c.toNat : Int) < 97
    · have h3 : ¬ 97 ≤ c.toNat := by omega
      simp [h1, h3]
    · by_cases h2 : 122 < (c.toNat : Int)
      · have h3 : ¬ c.toNat ≤ 122 := by omega
        simp [h1, h2, h3]
      · have h3 : 97 ≤ c.toNat := by omega
        have h4 : c.toNat ≤ 122 := by omega
        simp [h1, h2, h3, h4]
theorem sub1_ok (c : UInt8) : (decide (97 ≤ (sub1 63 97 c).toNat) && decide ((sub1 63 97 c).toNat ≤ 122)) = okR c := by
  unfold sub1 okR
  by_cases h : c = 63
  · rw [if_pos h, h]; rfl
  · rw [if_neg h, decide_eq_false h, Bool.false_or]
theorem isRd_eq (s : List UInt8) : isRd s = (((s.take 11).all okR) && inR s.length 1 10) := by
  have e : isRd s = (s.all okR && inR s.length 1 10) := by
    unfold isRd isWord
    rw [wordGo_all, List.length_map, List.all_map]
    congr 2
    funext c
    exact sub1_ok c
  rw [e]
  rcases Nat.lt_or_ge 10 s.length with h | h
  · have : inR s.length 1 10 = false := by simp only [inR, decide_eq_false_iff_not]; omega
    rw [this, Bool.and_false, Bool.and_false]
  · rw [List.take_of_length_le (by omega)]
theorem isRd_len {s : List UInt8} (h : isRd s = true) : s.length ≤ 10 := by
  rw [isRd_eq, Bool.and_eq_true] at h
  have := h.2
  simp only [inR, decide_eq_true_eq] at this
  omega
theorem readsGo_comm : ∀ a b : List UInt8, readsGo a b = readsGo b a
  | [], [] => rfl
  | [], _ :: _ => rfl
  | _ :: _, [] => rfl
  | x :: a, y :: b => by
    simp only [readsGo, readsGo_comm a b]
    by_cases h : x = y
    · rw [if_pos h, if_pos h.symm]
    · rw [if_neg h, if_neg (Ne.symm h)]
      by_cases h2 : x = 63
      · by_cases h3 : y = 63
        · rw [if_pos h2, if_pos h3]
        · rw [if_pos h2, if_neg h3, if_pos h2]
      · by_cases h3 : y = 63
        · rw [if_neg h2, if_pos h3, if_pos h3]
        · rw [if_neg h2, if_neg h3, if_neg h3, if_neg h2]
theorem reads_comm (a b : List UInt8) : reads a b = reads b a := by
  unfold reads
  by_cases h : a.length = b.length
  · rw [if_pos h, if_pos h.symm, readsGo_comm]
  · rw [if_neg h, if_neg (Ne.symm h)]

def q_repl : Con := fun args H K => match args with
  | [.c (.str s), .c (.str t), .c (.str u)] => (∀ w, H.I w → maxlI w) ∧ t = [63] ∧ u = [97] ∧ s.length ≤ 1048576 ∧ K (.c (.str (s.map (sub1 63 97)))) H
  | _ => False
@[simp ↓] theorem q_repl_eq (s : List UInt8) (t : List UInt8) (u : List UInt8) (H : AHeap) (K : AV → AHeap → Prop) : q_repl [.c (.str s), .c (.str t), .c (.str u)] H K = ((∀ w, H.I w → maxlI w) ∧ t = [63] ∧ u = [97] ∧ s.length ≤ 1048576 ∧ K (.c (.str (s.map (sub1 63 97)))) H) := rfl

theorem strings_ReplaceAll_s : Sound Tryd.prog 101 q_repl := by
  intro args H K h
  unfold q_repl at h
  split at h
  rotate_left
  all_goals first | exact False.elim h | skip
  rename_i s t u
  obtain ⟨hI, rfl, rfl, hs, h⟩ := h
  refine ⟨fun args w => enters_of Tryd.func101 (by kernel_rfl) rfl args w, fun φ B w vs hH hr => ?_⟩
  obtain ⟨us, rfl⟩ : ∃ u : Value × Value × Value, vs = [u.1, u.2.1, u.2.2] := by
    match vs, hr with
    | [u, v, x], _ => exact ⟨(u, v, x), rfl⟩
    | [], hr => exact hr.elim
    | [_], hr => exact hr.2.elim
    | [_, _], hr => exact hr.2.2.elim
    | _ :: _ :: _ :: _ :: _, hr => exact hr.2.2.2.elim
  obtain ⟨a, b, c⟩ := us
  have ha : a = .string ⟨s.toArray⟩ := hr.1
  have hb : b = .string ⟨#[63]⟩ := hr.2.1
  have hc : c = .string ⟨#[97]⟩ := hr.2.2.1
  subst ha hb hc
  obtain ⟨m, hm⟩ := hI w (hH.inv w (Below.refl _ _))
  have hsz : (⟨s.toArray⟩ : ByteArray).size = s.length := rfl
  have hcnt : Lib.countB (⟨s.toArray⟩ : ByteArray) ⟨#[63]⟩ ≤ s.length := by
    have h1 : Lib.countB (⟨s.toArray⟩ : ByteArray) ⟨#[63]⟩ = s.count 63 := Lib.count_one 63 s
    rw [h1]
    exact List.count_le_length
  refine (Tryd.strings_ReplaceAll ⟨s.toArray⟩ ⟨#[63]⟩ ⟨#[97]⟩ m w (by rw [hsz]; omega) hm (by decide) (by rw [hsz]; have : (⟨#[97]⟩ : ByteArray).size = 1 := rfl; rw [this]; omega)).mono ?_
  rintro e w' ⟨rfl, hb⟩
  have e1 : Lib.replaceAll s [63] [97] = s.map (sub1 63 97) := replAll 63 97 s (by decide)
  exact ⟨.c (.str (s.map (sub1 63 97))), _, φ, H, rfl, by rw [← e1]; rfl, hH.keep hb, .of_below hH.size hH.tlt hb, Nat.le_refl _, fun _ _ => rfl, h⟩

def q_isRd : Con := fun args H K => match args with
  | [.c (.str s)] => (∀ w, H.I w → maxlI w) ∧ s.length ≤ 1048576 ∧ K (.c (.bool (isRd s))) H
  | _ => False
@[simp ↓] theorem q_isRd_eq (s : List UInt8) (H : AHeap) (K : AV → AHeap → Prop) : q_isRd [.c (.str s)] H K = ((∀ w, H.I w → maxlI w) ∧ s.length ≤ 1048576 ∧ K (.c (.bool (isRd s))) H) := rfl

theorem impl_isReading_s : Sound Tryd.prog 84 q_isRd := by
  intro args H K h
  unfold q_isRd at h
  split at h
  rotate_left
  all_goals first | exact False.elim h | skip
  rename_i s
  have hE := soundE_cons strings_ReplaceAll_s (soundE_cons impl_isWord_s (soundE_nil (P := Tryd.prog)))
  refine acalls_fn impl_isReading_k hE ⟨by simp, fun hwf => ?_⟩
  obtain ⟨hI, hs, h⟩ := h
  have hs2 : s.length ≤ 9223372036854775807 := by omega
  simp (config := {contextual := true, implicitDefEqProofs := false, maxSteps := 60000}) [-Int.not_le, -Int.not_lt, argsF, impl_isReading_c, hI, hs, hs2]
  unfold isRd at h
  (refine Out.plain hwf ?_ rfl ?_; (repeat first | exact Sub.refl _ | refine Sub.push hwf ?_ _ | refine Sub.set hwf ?_ (by first | exact Nat.le_refl _ | omega) _ | refine Sub.kill hwf ?_ (by first | exact Nat.le_refl _ | omega))); exact h

theorem spec_l11Reading_s : Sound Tryd.prog 83 q_isRd := by
  intro args H K h
  unfold q_isRd at h
  split at h
  rotate_left
  all_goals first | exact False.elim h | skip
  rename_i s
  have hE := soundE_cons spec_l1In_s (soundE_nil (P := Tryd.prog))
  refine acalls_fn spec_l11Reading_k hE ⟨by simp, fun hwf => ?_⟩
  obtain ⟨hI, hs, h⟩ := h
  simp (config := {contextual := true, implicitDefEqProofs := false, maxSteps := 60000}) [-Int.not_le, -Int.not_lt, argsF, spec_l11Reading_c]
  rw [isRd_eq] at h
  refine aloop_list (s.take 11) (fun j _ => [(0, .c (.str (s))), (3, .c (.int .i64 (j)))]) (fun j _ => H) (fun j l _ => (l.all okR && inR s.length 1 10) = ((s.take 11).all okR && inR s.length 1 10)) hE _ () rfl (.same hwf (by simp [frOk, AV.okR, AV.ok1, AC.okR, AV.ren, AV.ren1, AC.ren, AFrame.get, pl1_old, *]; first | done | omega)) (fun j _ hlt hi => ?_) fun _ hi => ?_
  · rw [List.length_take] at hlt
    have hlt2 : j < s.length := by omega
    have hj1 := idx_lt hlt2
    have hj2 : (j : Int) ≤ 10 := by omega
    have w1 : IntKind.i64.wrap ((j : Int) + 1) = (j : Int) + 1 := wrap_id (by omega) (by omega)
    have hcg : s[j]? = some s[j] := List.getElem?_eq_getElem hlt2
    rw [List.all_cons, List.getElem_take] at hi
    simp (config := {contextual := true, implicitDefEqProofs := false, maxSteps := 2000000}) [-Int.not_le, -Int.not_lt, argsF, spec_l11Reading_l0, hj1, hj2, w1, hcg, hlt2]
    refine ite_i (fun g => ?_) (fun g => ?_)
    · have e : okR s[j] = true := by simp [okR, g]
      rw [e, Bool.true_and] at hi
      exact ⟨(), hi, .drop hwf (by (repeat first | exact Sub.refl _ | refine Sub.push hwf ?_ _ | refine Sub.set hwf ?_ (by first | exact Nat.le_refl _ | omega) _ | refine Sub.kill hwf ?_ (by first | exact Nat.le_refl _ | omega))) (by simp [frOk, AV.okR, AV.ok1, AC.okR, AV.ren, AV.ren1, AC.ren, AFrame.get, pl1_old, *]; first | done | omega)⟩
    refine ite_i (fun g2 => ?_) (fun g2 => ?_)
    · have e : okR s[j] = false := by simp only [okR, decide_eq_false g, Bool.false_or, Bool.and_eq_false_iff, decide_eq_false_iff_not]; omega
      rw [e, Bool.false_and, Bool.false_and] at hi
      rw [← hi] at h
      (refine Out.plain hwf ?_ rfl ?_; (repeat first | exact Sub.refl _ | refine Sub.push hwf ?_ _ | refine Sub.set hwf ?_ (by first | exact Nat.le_refl _ | omega) _ | refine Sub.kill hwf ?_ (by first | exact Nat.le_refl _ | omega))); exact h
    refine ite_i (fun g3 => ?_) (fun g3 => ?_)
    · have e : okR s[j] = false := by simp only [okR, decide_eq_false g, Bool.false_or, Bool.and_eq_false_iff, decide_eq_false_iff_not]; omega
      rw [e, Bool.false_and, Bool.false_and] at hi
      rw [← hi] at h
      (refine Out.plain hwf ?_ rfl ?_; (repeat first | exact Sub.refl _ | refine Sub.push hwf ?_ _ | refine Sub.set hwf ?_ (by first | exact Nat.le_refl _ | omega) _ | refine Sub.kill hwf ?_ (by first | exact Nat.le_refl _ | omega))); exact h
    · have e : okR s[j] = true := by simp only [okR, decide_eq_false g, Bool.false_or, Bool.and_eq_true, decide_eq_true_eq]; omega
      rw [e, Bool.true_and] at hi
      exact ⟨(), hi, .drop hwf (by (repeat first | exact Sub.refl _ | refine Sub.push hwf ?_ _ | refine Sub.set hwf ?_ (by first | exact Nat.le_refl _ | omega) _ | refine Sub.kill hwf ?_ (by first | exact Nat.le_refl _ | omega))) (by simp [frOk, AV.okR, AV.ok1, AC.okR, AV.ren, AV.ren1, AC.ren, AFrame.get, pl1_old, *]; first | done | omega)⟩
  · rw [List.length_take]
    simp only [List.all_nil, Bool.true_and] at hi
    rw [← hi] at h
    have g0 : ((min 11 s.length : Nat) : Int) = 11 ∧ 11 ≤ s.length ∨ min 11 s.length = s.length ∧ s.length < 11 := by omega
    rcases g0 with ⟨g1, g2⟩ | ⟨g1, g2⟩
    · have g3 : ¬ (11 : Int) ≤ 10 := by omega
      rw [g1]
      simp (config := {contextual := true, implicitDefEqProofs := false, maxSteps := 2000000}) [-Int.not_le, -Int.not_lt, argsF, spec_l11Reading_l0]
      (refine Out.plain hwf ?_ rfl ?_; (repeat first | exact Sub.refl _ | refine Sub.push hwf ?_ _ | refine Sub.set hwf ?_ (by first | exact Nat.le_refl _ | omega) _ | refine Sub.kill hwf ?_ (by first | exact Nat.le_refl _ | omega))); exact h
    · rw [g1]
      simp (config := {contextual := true, implicitDefEqProofs := false, maxSteps := 2000000}) [-Int.not_le, -Int.not_lt, argsF, spec_l11Reading_l0]
      (refine Out.plain hwf ?_ rfl ?_; (repeat first | exact Sub.refl _ | refine Sub.push hwf ?_ _ | refine Sub.set hwf ?_ (by first | exact Nat.le_refl _ | omega) _ | refine Sub.kill hwf ?_ (by first | exact Nat.le_refl _ | omega))); exact h

end Go.Proofs.YtnehhdcaknppnaaDoor
