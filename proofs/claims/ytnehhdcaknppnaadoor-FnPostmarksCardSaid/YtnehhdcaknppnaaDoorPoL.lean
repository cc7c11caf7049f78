/- Texts, by the kit's shelf. -/
import Derived.Test.YtnehhdcaknppnaaDoorBas
import Derived.Test.YtnehhdcaknppnaaDoorPoC
import Derived.Test.YtnehhdcaknppnaaDoorShelf
import Derived.Lib.SlTrimSet
import Derived.Lib.Bytealg
import Derived.Lib.Replace
import Derived.Shelf.Strings.SlTrimAscii
set_option maxRecDepth 8000
set_option linter.unusedSimpArgs false
set_option linter.unusedVariables false
namespace Go.Proofs.YtnehhdcaknppnaaDoor
open Go Go.RowKit

def xd (c : UInt8) : Bool := decide (c = 46) || decide (c = 120)
theorem xd_contains (c : UInt8) : List.contains [46, 120] c = xd c := by
  simp only [List.contains_cons, List.contains_nil, Bool.or_false, xd]
  rw [Bool.beq_eq_decide_eq, Bool.beq_eq_decide_eq]
theorem dw_nil {p : UInt8 → Bool} : ∀ {l : List UInt8}, l.dropWhile p = [] ↔ ∀ x ∈ l, p x = true
  | [] => by simp
  | y :: r => by
    rw [List.dropWhile_cons]
    cases h : p y with
    | true => simp only [if_true]; rw [dw_nil]; simp [h]
    | false => simp [h]
theorem dw_head {p : UInt8 → Bool} : ∀ {l : List UInt8} {x : UInt8} {r : List UInt8}, l.dropWhile p = x :: r → p x = false
  | [], _, _, h => by cases h
  | y :: t, x, r, h => by
    rw [List.dropWhile_cons] at h
    cases hy : p y with
    | true => rw [hy, if_pos rfl] at h; exact dw_head h
    | false => rw [hy] at h; simp at h; rw [← h.1]; exact hy
theorem trim_nil (s : List UInt8) : (Lib.trimS s [46, 120] = []) ↔ s.all xd = true := by
  have e : (fun c : UInt8 => List.contains [46, 120] c) = xd := funext xd_contains
  unfold Lib.trimS Lib.trimLeftS Lib.trimRightS
  rw [e]
  constructor
  · intro h
    rw [dw_nil] at h
    rw [List.all_eq_true]
    have h0 : s.reverse.dropWhile xd = [] := by
      cases hd : s.reverse.dropWhile xd with
      | nil => rfl
      | cons x r =>
        have h1 := h x (by rw [hd]; simp)
        rw [dw_head hd] at h1; cases h1
    rw [dw_nil] at h0
    intro x hx
    exact h0 x (by simpa using hx)
  · intro h
    rw [List.all_eq_true] at h
    have h0 : s.reverse.dropWhile xd = [] := dw_nil.2 fun x hx => h x (by simpa using hx)
    rw [h0]; rfl
theorem idx_cons (b c : UInt8) (l : List UInt8) : Lib.indexByte (b :: l) c = if b == c then 0 else if Lib.indexByte l c == -1 then -1 else Lib.indexByte l c + 1 := rfl
theorem has_byte (c : UInt8) : ∀ s : List UInt8, (0 ≤ Lib.indexByte s c ↔ s.contains c = true) ∧ -1 ≤ Lib.indexByte s c
  | [] => by simp [Lib.indexByte]
  | b :: l => by
    obtain ⟨h1, h2⟩ := has_byte c l
    rw [idx_cons, List.contains_cons]
    by_cases hb : b = c
    · subst hb; simp
    · have e1 : (b == c) = false := by simp [hb]
      have e2 : (c == b) = false := by simp [Ne.symm hb]
      rw [e1, e2, Bool.false_or, ← h1]
      simp only [if_false, Bool.false_eq_true]
      by_cases h3 : Lib.indexByte l c = -1
      · simp [h3]
      · have e3 : (Lib.indexByte l c == -1) = false := by simp [h3]
        rw [e3]
        simp only [if_false, Bool.false_eq_true]
        omega

def sub1 (c d x : UInt8) : UInt8 := if x = c then d else x
theorem index_cons (b c : UInt8) (l : List UInt8) : Lib.index (b :: l) [c] = if b = c then 0 else if Lib.index l [c] = -1 then -1 else Lib.index l [c] + 1 := by
  have h : Lib.index (b :: l) [c] = if [c].isPrefixOf (b :: l) then 0 else if Lib.index l [c] == -1 then -1 else Lib.index l [c] + 1 := rfl
  rw [h]
  by_cases hb : b = c
  · subst hb; simp
  · have : [c].isPrefixOf (b :: l) = false := by simp [List.isPrefixOf, Ne.symm hb]
    rw [this, if_neg hb]
    simp
theorem replK_cons (c d : UInt8) (k : Nat) (b : UInt8) (l : List UInt8) (hb : ¬ b = c) : Lib.replaceK [c] [d] k (b :: l) = b :: Lib.replaceK [c] [d] k l := by
  cases k with
  | zero => rfl
  | succ k =>
    have hge := Lib.index_ge l [c]
    simp only [Lib.replaceK, index_cons, if_neg hb]
    by_cases h : Lib.index l [c] = -1
    · simp [h]
    · have h1 : ¬ (Lib.index l [c] + 1 == -1) = true := by simp; omega
      have h2 : ¬ (Lib.index l [c] == -1) = true := by simpa using h
      have e : (Lib.index l [c] + 1).toNat = (Lib.index l [c]).toNat + 1 := by omega
      rw [if_neg h, if_neg h1, if_neg h2, e]
      have e2 : (Lib.index l [c]).toNat + 1 + [c].length = ((Lib.index l [c]).toNat + [c].length) + 1 := by simp
      rw [e2, List.drop_succ_cons, List.take_succ_cons]
      rfl
theorem replK (c d : UInt8) : ∀ (s : List UInt8) (k : Nat), s.count c ≤ k → Lib.replaceK [c] [d] k s = s.map (sub1 c d)
  | [], k, _ => by
    cases k with
    | zero => rfl
    | succ k => simp [Lib.replaceK, Lib.index]
  | b :: l, k, h => by
    by_cases hb : b = c
    · subst hb
      rw [List.count_cons_self] at h
      obtain ⟨k, rfl⟩ : ∃ m, k = m + 1 := ⟨k - 1, by omega⟩
      have := replK b d l k (by omega)
      simp [Lib.replaceK, index_cons, this, sub1]
    · rw [replK_cons c d k b l hb, replK c d l k (by rw [List.count_cons_of_ne hb] at h; exact h)]
      simp [sub1, hb]
theorem replAll (c d : UInt8) (s : List UInt8) (h : c ≠ d) : Lib.replaceAll s [c] [d] = s.map (sub1 c d) := by
  unfold Lib.replaceAll Lib.replace
  rw [if_neg (by simp [h])]
  refine replK c d s _ ?_
  unfold Lib.replaceNum
  rw [if_pos (.inl (by decide)), Lib.count_one]
  exact Nat.le_refl _

def q_trim : Con := fun args H K => match args with
  | [.c (.str s), .c (.str t)] => t = [46, 120] ∧ s.length ≤ 9223372036854775807 ∧ K (.c (.str (Lib.trimS s [46, 120]))) H
  | _ => False
@[simp ↓] theorem q_trim_eq (s : List UInt8) (t : List UInt8) (H : AHeap) (K : AV → AHeap → Prop) : q_trim [.c (.str s), .c (.str t)] H K = (t = [46, 120] ∧ s.length ≤ 9223372036854775807 ∧ K (.c (.str (Lib.trimS s [46, 120]))) H) := rfl

def q_contains : Con := fun args H K => match args with
  | [.c (.str s), .c (.str t)] => t = [46] ∧ K (.c (.bool (decide (0 ≤ Lib.indexByte s 46)))) H
  | _ => False
@[simp ↓] theorem q_contains_eq (s : List UInt8) (t : List UInt8) (H : AHeap) (K : AV → AHeap → Prop) : q_contains [.c (.str s), .c (.str t)] H K = (t = [46] ∧ K (.c (.bool (decide (0 ≤ Lib.indexByte s 46)))) H) := rfl

theorem strings_Trim_s : Sound Tryd.prog 96 q_trim := by
  intro args H K h
  unfold q_trim at h
  split at h
  rotate_left
  all_goals first | exact False.elim h | skip

  rename_i s t
  obtain ⟨rfl, hs, h⟩ := h
  refine ⟨fun args w => enters_of Tryd.func96 (by kernel_rfl) rfl args w, fun φ B w vs hH hr => ?_⟩
  obtain ⟨us, rfl⟩ : ∃ u : Value × Value, vs = [u.1, u.2] := by
    match vs, hr with
    | [u, v], _ => exact ⟨(u, v), rfl⟩
    | [], hr => exact hr.elim
    | [_], hr => exact hr.2.elim
    | _ :: _ :: _ :: _, hr => exact hr.2.2.elim
  obtain ⟨u, v⟩ := us
  have hu : u = .string ⟨s.toArray⟩ := hr.1
  have hv : v = .string ⟨#[46, 120]⟩ := hr.2.1
  subst hu hv

  have main : Calls Tryd.prog 96 #[.string ⟨s.toArray⟩, .string ⟨#[46, 120]⟩] w _ := Any.strings_Trim_laid Tryd.lays160 (by kernel_rfl) ⟨s.toArray⟩ ⟨#[46, 120]⟩ w hs (by decide) (ascii_of_all (by decide))
  refine main.mono ?_
  rintro e w' ⟨rfl, hb⟩
  exact ⟨.c (.str (Lib.trimS s [46, 120])), _, φ, H, rfl, rfl, hH.keep hb, .of_below hH.size hH.tlt hb, Nat.le_refl _, fun _ _ => rfl, h⟩

theorem strings_Contains_s : Sound Tryd.prog 97 q_contains := by
  intro args H K h
  unfold q_contains at h
  split at h
  rotate_left
  all_goals first | exact False.elim h | skip

  rename_i s t
  obtain ⟨rfl, h⟩ := h
  refine ⟨fun args w => enters_of Tryd.func97 (by kernel_rfl) rfl args w, fun φ B w vs hH hr => ?_⟩
  obtain ⟨us, rfl⟩ : ∃ u : Value × Value, vs = [u.1, u.2] := by
    match vs, hr with
    | [u, v], _ => exact ⟨(u, v), rfl⟩
    | [], hr => exact hr.elim
    | [_], hr => exact hr.2.elim
    | _ :: _ :: _ :: _, hr => exact hr.2.2.elim
  obtain ⟨u, v⟩ := us
  have hu : u = .string ⟨s.toArray⟩ := hr.1
  have hv : v = .string ⟨#[46]⟩ := hr.2.1
  subst hu hv

  refine (Tryd.strings_Contains_one ⟨s.toArray⟩ 46 w).mono ?_
  rintro e w' ⟨rfl, rfl⟩
  exact ⟨.c (.bool (decide (0 ≤ Lib.indexByte s 46))), _, φ, H, rfl, rfl, hH, .refl _ _, Nat.le_refl _, fun _ _ => rfl, h⟩

end Go.Proofs.YtnehhdcaknppnaaDoor
