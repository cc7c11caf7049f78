/- Numbers as texts. -/
import Derived.Test.YtegmlgikdniohaaDoorBas
import Derived.Test.YtegmlgikdniohaaDoorPrC
import Derived.Test.YtegmlgikdniohaaDoorShelf
import Derived.Sort.Grow
set_option maxRecDepth 8000
set_option linter.unusedSimpArgs false
set_option linter.unusedVariables false
namespace Go.Proofs.YtegmlgikdniohaaDoor
open Go Go.RowKit

/-- the table that strconv reads stands -/
def tabI : World → Prop := fun w => Lib.TabIs Tryd.prog w "internal/strconv.uint64pow10" .u64 Lib.pow10Tab
def numT (n : Int) : List UInt8 := Lib.decDigits n.toNat
theorem numT_small {n : Int} (h0 : 0 ≤ n) (h : n < 10) : numT n = [UInt8.ofNat (48 + n.toNat)] := by
  unfold numT
  rw [Lib.decDigits, dif_pos (by omega)]
theorem numT_big {n : Int} (h : 10 ≤ n) : numT n = numT (n / 10) ++ [UInt8.ofNat (48 + (n % 10).toNat)] := by
  unfold numT
  rw [Lib.decDigits, dif_neg (by omega)]
  have e1 : n.toNat / 10 = (n / 10).toNat := by omega
  have e2 : n.toNat % 10 = (n % 10).toNat := by omega
  rw [e1, e2]
theorem numT_len : ∀ (m : Nat) (n : Int), 0 ≤ n → n < 10 ^ (m + 1) → (numT n).length ≤ m + 1
  | 0, n, h0, h => by rw [numT_small h0 (by simpa using h)]; simp
  | m + 1, n, h0, h => by
    rcases Int.lt_or_le n 10 with h1 | h1
    · rw [numT_small h0 h1]; simp
    · have hp : (10 : Int) ^ (m + 1 + 1) = 10 ^ (m + 1) * 10 := by rw [Int.pow_succ]
      rw [hp] at h
      have := numT_len m (n / 10) (by omega) (by omega)
      rw [numT_big h1]; simp; omega
theorem numT_len19 {n : Int} (h0 : 0 ≤ n) (h : n ≤ 9223372036854775807) : (numT n).length ≤ 19 := numT_len 18 n h0 (by
  have : (10 : Int) ^ (18 + 1) = 10000000000000000000 := by decide
  omega)
theorem itoa_numT {n : Int} (h0 : 0 ≤ n) : Lib.itoa n = numT n := by
  unfold Lib.itoa numT
  rw [if_neg (by omega)]

def q_itoa : Con := fun args H K => match args with
  | [.c (.int .i64 n)] => (∀ w, H.I w → tabI w) ∧ 0 ≤ n ∧ n ≤ 9223372036854775807 ∧ K (.c (.str (numT n))) H
  | _ => False
@[simp ↓] theorem q_itoa_eq (n : Int) (H : AHeap) (K : AV → AHeap → Prop) : q_itoa [.c (.int .i64 n)] H K = ((∀ w, H.I w → tabI w) ∧ 0 ≤ n ∧ n ≤ 9223372036854775807 ∧ K (.c (.str (numT n))) H) := rfl

theorem strconv_Itoa_s : Sound Tryd.prog 48 q_itoa := by
  intro args H K h
  unfold q_itoa at h
  split at h
  rotate_left
  all_goals first | exact False.elim h | skip
  rename_i n
  obtain ⟨hI, h0, h1, h⟩ := h
  refine ⟨fun args w => enters_of Tryd.func48 (by kernel_rfl) rfl args w, fun φ B w vs hH hr => ?_⟩
  obtain ⟨v, rfl⟩ : ∃ v, vs = [v] := by
    match vs, hr with
    | [v], _ => exact ⟨v, rfl⟩
    | [], hr => exact hr.elim
    | _ :: _ :: _, hr => exact hr.2.elim
  have hv : v = .int .i64 n := hr.1
  subst hv
  refine (Tryd.strconv_Itoa n (by omega) h1 w (hI w (hH.inv w (Below.refl _ _)))).mono ?_
  rintro e w' ⟨rfl, k, os, rfl⟩
  have hb : Below w.heap.size w (Sort.grow (w.drewN k) os) := ⟨rfl, rfl, rfl, by simp [Sort.grow, World.drewN], fun i hi => by simp [Sort.grow, World.drewN, Array.getElem?_append, hi]⟩
  exact ⟨.c (.str (numT n)), _, φ, H, rfl, by rw [itoa_numT h0]; rfl, hH.keep hb, .of_below hH.size hH.tlt hb, Nat.le_refl _, fun _ _ => rfl, h⟩

def q_num : Con := fun args H K => match args with
  | [.c (.int .i64 n)] => 0 ≤ n ∧ n ≤ 9223372036854775807 ∧ K (.c (.str (numT n))) H
  | _ => False
@[simp ↓] theorem q_num_eq (n : Int) (H : AHeap) (K : AV → AHeap → Prop) : q_num [.c (.int .i64 n)] H K = (0 ≤ n ∧ n ≤ 9223372036854775807 ∧ K (.c (.str (numT n))) H) := rfl

def q_numB : Con := fun args H K => match args with
  | [.c (.int .i64 n)] => 0 ≤ n ∧ n ≤ 9223372036854775807 ∧ n < (0 : Int) ∧ K (.c (.str (numT n))) H
  | _ => False
@[simp ↓] theorem q_numB_eq (n : Int) (H : AHeap) (K : AV → AHeap → Prop) : q_numB [.c (.int .i64 n)] H K = (0 ≤ n ∧ n ≤ 9223372036854775807 ∧ n < (0 : Int) ∧ K (.c (.str (numT n))) H) := rfl

theorem digit_at {n : Int} (h0 : 0 ≤ n) (h : n < 10) : (([48, 49, 50, 51, 52, 53, 54, 55, 56, 57] : List UInt8).take (n + 1).toNat).drop n.toNat = [UInt8.ofNat (48 + n.toNat)] := by
  have hc : n = 0 ∨ n = 1 ∨ n = 2 ∨ n = 3 ∨ n = 4 ∨ n = 5 ∨ n = 6 ∨ n = 7 ∨ n = 8 ∨ n = 9 := by omega
  rcases hc with rfl | rfl | rfl | rfl | rfl | rfl | rfl | rfl | rfl | rfl <;> rfl
def q_numM (m : Nat) : Con := fun args H K => match args with
  | [.c (.int .i64 (n))] => 0 ≤ n ∧ n ≤ 9223372036854775807 ∧ n < (m : Int) ∧ K (.c (.str (numT n))) H
  | _ => False
@[simp ↓] theorem q_numM_eq (m : Nat) (n : Int) (H : AHeap) (K : AV → AHeap → Prop) : q_numM m [.c (.int .i64 (n))] H K = (0 ≤ n ∧ n ≤ 9223372036854775807 ∧ n < (m : Int) ∧ K (.c (.str (numT n))) H) := rfl
theorem l1Num_m : ∀ m, Sound Tryd.prog 50 (q_numM m) := by
  intro m
  induction m with
  | zero =>
    intro args H K h
    unfold q_numM at h
    split at h
    · exact absurd h.2.2.1 (by have := h.1; omega)
    · exact h.elim
  | succ m ih =>
    intro args H K h
    unfold q_numM at h
    split at h
    rotate_left
    all_goals first | exact False.elim h | skip
    rename_i n
    obtain ⟨h0, h1, h2, h⟩ := h
    have hE := soundE_cons ih (soundE_nil (P := Tryd.prog))
    refine acalls_fn spec_l1Num_k hE ⟨by simp, fun hwf => ?_⟩
    have hn0 : ¬ n < 0 := by omega
    rcases Int.lt_or_le n 10 with hs | hs
    · have w1 : IntKind.i64.wrap (n + 1) = n + 1 := wrap_id (by omega) (by omega)
      have hd := digit_at h0 hs
      have g1 : n ≤ n + 1 := by omega
      have g2 : n + 1 ≤ 10 := by omega
      simp (config := {contextual := true, implicitDefEqProofs := false, maxSteps := 60000}) [-Int.not_le, -Int.not_lt, argsF, spec_l1Num_c, hn0, hs, w1, hd, h0, g1, g2]
      rw [numT_small h0 hs] at h
      (refine Out.plain hwf ?_ rfl ?_; (repeat first | exact Sub.refl _ | refine Sub.push hwf ?_ _ | refine Sub.set hwf ?_ (by first | exact Nat.le_refl _ | omega | (simp only [push_n, set_n, kill_n]; omega)) _ | refine Sub.kill hwf ?_ (by first | exact Nat.le_refl _ | omega | (simp only [push_n, set_n, kill_n]; omega)))); simpa using h
    · have hs' : ¬ n < 10 := by omega
      have e1 : n.tdiv 10 = n / 10 := Int.tdiv_eq_ediv_of_nonneg h0
      have e2 : n.tmod 10 = n % 10 := Int.tmod_eq_emod_of_nonneg h0
      have w0 : IntKind.i64.wrap (n / 10) = n / 10 := wrap_id (by omega) (by omega)
      have w1 : IntKind.i64.wrap (n % 10 + 1) = n % 10 + 1 := wrap_id (by omega) (by omega)
      have hd := digit_at (n := n % 10) (by omega) (by omega)
      have g0 : 0 ≤ n % 10 := by omega
      have g1 : n % 10 ≤ n % 10 + 1 := by omega
      have g2 : n % 10 + 1 ≤ 10 := by omega
      have g3 : 0 ≤ n / 10 := by omega
      have g4 : n / 10 ≤ 9223372036854775807 := by omega
      have g5 : n / 10 < (m : Int) := by omega
      have g6 : (numT (n / 10)).length + 1 ≤ 9223372036854775807 := by have := numT_len19 g3 g4; omega
      simp (config := {contextual := true, implicitDefEqProofs := false, maxSteps := 60000}) [-Int.not_le, -Int.not_lt, argsF, spec_l1Num_c, hn0, hs', e1, e2, w0, w1, hd, g0, g1, g2, g3, g4, g5, g6]
      rw [numT_big hs] at h
      (refine Out.plain hwf ?_ rfl ?_; (repeat first | exact Sub.refl _ | refine Sub.push hwf ?_ _ | refine Sub.set hwf ?_ (by first | exact Nat.le_refl _ | omega | (simp only [push_n, set_n, kill_n]; omega)) _ | refine Sub.kill hwf ?_ (by first | exact Nat.le_refl _ | omega | (simp only [push_n, set_n, kill_n]; omega)))); simpa using h
theorem spec_l1Num_s : Sound Tryd.prog 50 q_num := by
  intro args H K h
  unfold q_num at h
  split at h
  · rename_i n
    exact l1Num_m (n.toNat + 1) _ H K ⟨h.1, h.2.1, by omega, h.2.2⟩
  · exact h.elim

end Go.Proofs.YtegmlgikdniohaaDoor
