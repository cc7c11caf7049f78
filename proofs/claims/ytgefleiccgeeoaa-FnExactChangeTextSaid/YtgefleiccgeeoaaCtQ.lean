/- The text of a change. -/
import Derived.Test.YtgefleiccgeeoaaBas
import Derived.Test.YtgefleiccgeeoaaCtC
import Derived.Test.YtgefleiccgeeoaaShelf
set_option maxRecDepth 8000
set_option linter.unusedSimpArgs false
set_option linter.unusedVariables false
namespace Go.Proofs.Ytgefleiccgeeoaa
open Go Go.RowKit

def q_inRange : Con := fun args H K => match args with
  | [.c (.int .i64 n), .c (.int .i64 lo), .c (.int .i64 hi)] => K (.c (.bool (inR n lo hi))) H
  | _ => False
@[simp ↓] theorem q_inRange_eq (n : Int) (lo : Int) (hi : Int) (H : AHeap) (K : AV → AHeap → Prop) : q_inRange [.c (.int .i64 n), .c (.int .i64 lo), .c (.int .i64 hi)] H K = (K (.c (.bool (inR n lo hi))) H) := rfl

theorem impl_inRange_s : Sound Try.prog 8 q_inRange := by
  intro args H K h
  unfold q_inRange at h
  split at h
  rotate_left
  all_goals first | exact False.elim h | skip
  rename_i n lo hi
  have hE := soundE_nil (P := Try.prog)
  refine acalls_fn impl_inRange_k hE ⟨by simp, fun hwf => ?_⟩
  simp (config := {contextual := true, implicitDefEqProofs := false, maxSteps := 60000}) [-Int.not_le, -Int.not_lt, argsF, impl_inRange_c]
  split <;> ((refine Out.plain hwf ?_ rfl ?_; (repeat first | exact Sub.refl _ | refine Sub.push hwf ?_ _ | refine Sub.set hwf ?_ (by first | exact Nat.le_refl _ | omega) _ | refine Sub.kill hwf ?_ (by first | exact Nat.le_refl _ | omega))); simp_all [inR])

theorem spec_l1In_s : Sound Try.prog 6 q_inRange := by
  intro args H K h
  unfold q_inRange at h
  split at h
  rotate_left
  all_goals first | exact False.elim h | skip
  rename_i n lo hi
  have hE := soundE_nil (P := Try.prog)
  refine acalls_fn spec_l1In_k hE ⟨by simp, fun hwf => ?_⟩
  simp (config := {contextual := true, implicitDefEqProofs := false, maxSteps := 60000}) [-Int.not_le, -Int.not_lt, argsF, spec_l1In_c]
  split <;> ((refine Out.plain hwf ?_ rfl ?_; (repeat first | exact Sub.refl _ | refine Sub.push hwf ?_ _ | refine Sub.set hwf ?_ (by first | exact Nat.le_refl _ | omega) _ | refine Sub.kill hwf ?_ (by first | exact Nat.le_refl _ | omega))); simp_all [inR])

set_option maxHeartbeats 2000000
/-- texts with one between -/
def joinT : List (List UInt8) → List UInt8 := fun l => Lib.join l [43]

def q_join : Con := fun args H K => match args with
  | [ps_v, .c (.str s)] => eT.rd H (fun ps => s = [43] ∧ ps.length ≤ 1000 ∧ (Lib.join ps [43]).length ≤ 100000 ∧ K (.c (.str (Lib.join ps [43]))) H) ps_v
  | _ => False
@[simp ↓] theorem q_join_eq (ps_v : AV) (s : List UInt8) (H : AHeap) (K : AV → AHeap → Prop) : q_join [ps_v, .c (.str s)] H K = (eT.rd H (fun ps => s = [43] ∧ ps.length ≤ 1000 ∧ (Lib.join ps [43]).length ≤ 100000 ∧ K (.c (.str (Lib.join ps [43]))) H) ps_v) := rfl

theorem strings_Join_s : Sound Try.prog 9 q_join := by
  intro args H K h
  unfold q_join at h
  split at h
  rotate_left
  all_goals first | exact False.elim h | skip
  rename_i ps_v s
  have h1 := Enc.rd_at h
  clear h
  obtain ⟨b, i, k, ps, rfl, hat, rfl, hl, hj, h⟩ := h1
  refine ⟨fun args w => enters_of Try.func9 (by kernel_rfl) rfl args w, fun φ B w vs hH hr => ?_⟩
  obtain ⟨us, rfl⟩ : ∃ u : Value × Value, vs = [u.1, u.2] := by
    match vs, hr with
    | [u, v], _ => exact ⟨(u, v), rfl⟩
    | [], hr => exact hr.elim
    | [_], hr => exact hr.2.elim
    | _ :: _ :: _ :: _, hr => exact hr.2.2.elim
  obtain ⟨u, v⟩ := us
  obtain ⟨hb, a, cap, hu, hcap, hcap2, ha⟩ := hr.1
  have hv : v = .string ⟨#[43]⟩ := hr.2.1
  simp only at hu
  subst hu hv
  by_cases h0 : ps.length = 0
  · have e := List.eq_nil_of_length_eq_zero h0
    subst e
    refine (Try.strings_Join_none a cap ⟨#[43]⟩ w).mono ?_
    rintro e w' ⟨rfl, rfl⟩
    exact ⟨.c (.str (Lib.join [] [43])), _, φ, H, rfl, rfl, hH, .refl _ _, Nat.le_refl _, fun _ _ => rfl, h⟩
  · obtain rfl := ha (by omega)
    have hc := hH.cells b k hat.blk
    have hcell : ∀ (j : Nat) (x : ByteArray), (ps.map fun l => (⟨l.toArray⟩ : ByteArray))[j]? = some x → w.cell? ⟨(φ b).blk, (φ b).off + i * (φ b).esz + 0 + j, none⟩ = some (.string x) := fun j x hx => by
      rw [List.getElem?_map, Option.map_eq_some_iff] at hx
      obtain ⟨l, hl2, rfl⟩ := hx
      obtain ⟨hjl, rfl⟩ := List.getElem?_eq_some_iff.1 hl2
      have e1 := hat.get hjl
      obtain ⟨v, g1, g2⟩ := hc.cell (i + j) _ e1 0 (.str ps[j]) rfl
      have hesz : (φ b).esz = 1 := hc.esz.trans hat.esz
      have g3 : v = .string ⟨ps[j].toArray⟩ := g2
      subst g3
      rw [← g1]
      simp only [Place.adr, hesz, Nat.mul_one, Nat.add_zero, Nat.add_assoc]
    have hlt : (φ b).blk < w.heap.size := World.block_lt_of_cell? w ⟨(φ b).blk, _, none⟩ (hcell 0 _ (by rw [List.getElem?_map, List.getElem?_eq_getElem (show 0 < ps.length by omega)]; rfl))
    have hmm : (ps.map fun l => (⟨l.toArray⟩ : ByteArray)).map (·.data.toList) = ps := by
      rw [List.map_map]
      conv => rhs; rw [← List.map_id ps]
      exact List.map_congr_left fun l _ => rfl
    have hll : (ps.map fun l => (⟨l.toArray⟩ : ByteArray)).length = ps.length := List.length_map _
    have main := Try.strings_Join (φ b).blk ((φ b).off + i * (φ b).esz + 0) cap (ps.map fun l => (⟨l.toArray⟩ : ByteArray)) ⟨#[43]⟩ w hcell hlt (by rw [hll]; omega) (by rw [hll]; omega) (by rw [hmm]; show (Lib.join ps [43]).length ≤ _; omega)
    rw [hll, hmm] at main
    refine main.mono ?_
    rintro e w' ⟨rfl, hb⟩
    exact ⟨.c (.str (Lib.join ps [43])), _, φ, H, rfl, rfl, hH.keep hb, .of_below hH.size hH.tlt hb, Nat.le_refl _, fun _ _ => rfl, h⟩

end Go.Proofs.Ytgefleiccgeeoaa
