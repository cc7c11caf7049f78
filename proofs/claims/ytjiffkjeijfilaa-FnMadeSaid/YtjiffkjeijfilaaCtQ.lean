/- The text of a change. -/
import Derived.Test.YtjiffkjeijfilaaCoE
import Derived.Test.YtjiffkjeijfilaaShelf
import Derived.Test.YtjiffkjeijfilaaCoZ
set_option maxRecDepth 8000
set_option linter.unusedSimpArgs false
set_option linter.unusedVariables false
namespace Go.Proofs.Ytjiffkjeijfilaa
open Go Go.RowKit

set_option maxHeartbeats 2000000
/-- texts with one between -/
def joinT : List (List UInt8) → List UInt8 := fun l => Lib.join l [43]

def q_join : Con := fun args H K => match args with
  | [ps_v, .c (.str s)] => eT.rd H (fun ps => s = [43] ∧ ps.length ≤ 1000 ∧ (Lib.join ps [43]).length ≤ 100000 ∧ K (.c (.str (Lib.join ps [43]))) H) ps_v
  | _ => False
@[simp ↓] theorem q_join_eq (ps_v : AV) (s : List UInt8) (H : AHeap) (K : AV → AHeap → Prop) : q_join [ps_v, .c (.str s)] H K = (eT.rd H (fun ps => s = [43] ∧ ps.length ≤ 1000 ∧ (Lib.join ps [43]).length ≤ 100000 ∧ K (.c (.str (Lib.join ps [43]))) H) ps_v) := rfl

theorem strings_Join_s : Sound Try.prog 119 q_join := by
  intro args H K h
  unfold q_join at h
  split at h
  rotate_left
  all_goals first | exact False.elim h | skip
  rename_i ps_v s
  have h1 := Enc.rd_at h
  clear h
  obtain ⟨b, i, k, ps, rfl, hat, rfl, hl, hj, h⟩ := h1
  refine ⟨fun args w => enters_of Try.func119 (by kernel_rfl) rfl args w, fun φ B w vs hH hr => ?_⟩
  obtain ⟨us, rfl⟩ : ∃ u : Value × Value, vs = [u.1, u.2] := by
    match vs, hr with
    | [u, v], _ => exact ⟨(u, v), rfl⟩
    | [], hr => exact hr.elim
    | [_], hr => exact hr.2.elim
    | _ :: _ :: _ :: _, hr => exact hr.2.2.elim
  obtain ⟨u, v⟩ := us
  obtain ⟨hb, a, cap, hu, hcap, hcap2, ha⟩ := hr.1
  have hv : v = .string ⟨#[43]⟩ := hr.2.1
  simp only at hu
  subst hu hv
  by_cases h0 : ps.length = 0
  · have e := List.eq_nil_of_length_eq_zero h0
    subst e
    refine (Try.strings_Join_none a cap ⟨#[43]⟩ w).mono ?_
    rintro e w' ⟨rfl, rfl⟩
    exact ⟨.c (.str (Lib.join [] [43])), _, φ, H, rfl, rfl, hH, .refl _ _, Nat.le_refl _, fun _ _ => rfl, h⟩
  · obtain rfl := ha (by omega)
    have hc := hH.cells b k hat.blk
    have hcell : ∀ (j : Nat) (x : ByteArray), (ps.map fun l => (⟨l.toArray⟩ : ByteArray))[j]? = some x → w.cell? ⟨(φ b).blk, (φ b).off + i * (φ b).esz + 0 + j, none⟩ = some (.string x) := fun j x hx => by
      rw [List.getElem?_map, Option.map_eq_some_iff] at hx
      obtain ⟨l, hl2, rfl⟩ := hx
      obtain ⟨hjl, rfl⟩ := List.getElem?_eq_some_iff.1 hl2
      have e1 := hat.get hjl
      obtain ⟨v, g1, g2⟩ := hc.cell (i + j) _ e1 0 (.str ps[j]) rfl
      have hesz : (φ b).esz = 1 := hc.esz.trans hat.esz
      have g3 : v = .string ⟨ps[j].toArray⟩ := g2
      subst g3
      rw [← g1]
      simp only [Place.adr, hesz, Nat.mul_one, Nat.add_zero, Nat.add_assoc]
    have hlt : (φ b).blk < w.heap.size := World.block_lt_of_cell? w ⟨(φ b).blk, _, none⟩ (hcell 0 _ (by rw [List.getElem?_map, List.getElem?_eq_getElem (show 0 < ps.length by omega)]; rfl))
    have hmm : (ps.map fun l => (⟨l.toArray⟩ : ByteArray)).map (·.data.toList) = ps := by
      rw [List.map_map]
      conv => rhs; rw [← List.map_id ps]
      exact List.map_congr_left fun l _ => rfl
    have hll : (ps.map fun l => (⟨l.toArray⟩ : ByteArray)).length = ps.length := List.length_map _
    have main := Try.strings_Join (φ b).blk ((φ b).off + i * (φ b).esz + 0) cap (ps.map fun l => (⟨l.toArray⟩ : ByteArray)) ⟨#[43]⟩ w hcell hlt (by rw [hll]; omega) (by rw [hll]; omega) (by rw [hmm]; show (Lib.join ps [43]).length ≤ _; omega)
    rw [hll, hmm] at main
    refine main.mono ?_
    rintro e w' ⟨rfl, hb⟩
    exact ⟨.c (.str (Lib.join ps [43])), _, φ, H, rfl, rfl, hH.keep hb, .of_below hH.size hH.tlt hb, Nat.le_refl _, fun _ _ => rfl, h⟩

set_option maxHeartbeats 4000000
def bitB (n j : Nat) : Bool := n / 2 ^ j % 2 == 1
def wordL : List (List UInt8) := [[100, 97, 121], [122, 111, 110, 101], [103, 114, 97, 109, 115], [112, 97, 105, 100]]
def wordsTo (n : Nat) : Nat → List (List UInt8)
  | 0 => []
  | j + 1 => if bitB n j = true then wordsTo n j ++ [wordL.getD j []] else wordsTo n j
def ctText (n : Nat) : List UInt8 := if wordsTo n 4 = [] then [110, 111, 110, 101] else Lib.join (wordsTo n 4) [43]
def ctRes (n : Int) : List UInt8 × Bool := if inR n 0 15 = true then (ctText n.toNat, true) else ([], false)
theorem ctshr_bit : ∀ (n : Fin 16) (j : Fin 4), decide (IntKind.i64.wrap (BitVec.ofInt IntKind.i64.bits (((n.val : Nat) : Int).fdiv (2 ^ min j.val IntKind.i64.bits)) &&& BitVec.ofInt IntKind.i64.bits 1).toNat = 1) = bitB n.val j.val := by decide +kernel
theorem ctshr_0 : ∀ n : Fin 16, (IntKind.i64.wrap ((n.val % 2 ^ IntKind.i64.bits &&& 1 % 2 ^ IntKind.i64.bits : Nat) : Int) = 1) ↔ bitB n.val 0 = true := by decide +kernel
theorem ctshr_s : ∀ (n : Fin 16) (j : Fin 4), (IntKind.i64.wrap (((((n.val : Nat) : Int).fdiv (2 ^ min j.val IntKind.i64.bits) % 2 ^ IntKind.i64.bits).toNat &&& 1 % 2 ^ IntKind.i64.bits : Nat) : Int) = 1) ↔ bitB n.val j.val = true := by decide +kernel
theorem has_1 : ∀ n : Fin 16, chB ((n.val : Nat) : Int) 1 = bitB n.val 0 := by decide +kernel
theorem has_2 : ∀ n : Fin 16, chB ((n.val : Nat) : Int) 2 = bitB n.val 1 := by decide +kernel
theorem has_4 : ∀ n : Fin 16, chB ((n.val : Nat) : Int) 4 = bitB n.val 2 := by decide +kernel
theorem has_8 : ∀ n : Fin 16, chB ((n.val : Nat) : Int) 8 = bitB n.val 3 := by decide +kernel
theorem words_len : ∀ (n : Fin 16) (j : Fin 5), (wordsTo n.val j.val).length ≤ 4 ∧ (Lib.join (wordsTo n.val j.val) [43]).length ≤ 30 := by decide +kernel
theorem str_step : ∀ (n : Fin 16) (j : Fin 4), Lib.join (wordsTo n.val (j.val + 1)) [43] = if bitB n.val j.val = true then (if Lib.join (wordsTo n.val j.val) [43] = [] then Lib.join (wordsTo n.val j.val) [43] ++ wordL.getD j.val [] else (Lib.join (wordsTo n.val j.val) [43] ++ [43]) ++ wordL.getD j.val []) else Lib.join (wordsTo n.val j.val) [43] := by decide +kernel
theorem str_none : ∀ (n : Fin 16), ctText n.val = if Lib.join (wordsTo n.val 4) [43] = [] then [110, 111, 110, 101] else Lib.join (wordsTo n.val 4) [43] := by decide +kernel

def q_ct : Con := fun args H K => match args with
  | [.c (.int .i64 n)] => K (.tup [.c (.str ((ctRes n).1)), .c (.bool ((ctRes n).2))]) H
  | _ => False
@[simp ↓] theorem q_ct_eq (n : Int) (H : AHeap) (K : AV → AHeap → Prop) : q_ct [.c (.int .i64 n)] H K = (K (.tup [.c (.str ((ctRes n).1)), .c (.bool ((ctRes n).2))]) H) := rfl

theorem impl_ChangeText_s : Sound Try.prog 65 q_ct := by
  intro args H K h
  unfold q_ct at h
  split at h
  rotate_left
  all_goals first | exact False.elim h | skip
  rename_i n
  have hE := soundE_cons impl_inRange_s (soundE_cons strings_Join_s (soundE_nil (P := Try.prog)))
  refine acalls_fn impl_ChangeText_k hE ⟨by simp, fun hwf => ?_⟩
  by_cases hr : inR n 0 15 = true
  rotate_left
  · have e : ctRes n = ([], false) := by unfold ctRes; rw [if_neg hr]
    rw [e] at h
    simp (config := {contextual := true, implicitDefEqProofs := false, maxSteps := 2000000}) [-Int.not_le, -Int.not_lt, argsF, impl_ChangeText_c, hr]
    (refine Out.plain hwf ?_ rfl ?_; (repeat first | exact Sub.refl _ | refine Sub.push hwf ?_ _ | refine Sub.set hwf ?_ (by first | exact Nat.le_refl _ | omega | (simp only [push_n, set_n, kill_n]; omega)) _ | refine Sub.kill hwf ?_ (by first | exact Nat.le_refl _ | omega | (simp only [push_n, set_n, kill_n]; omega)))); exact h
  have e : ctRes n = (ctText n.toNat, true) := by unfold ctRes; rw [if_pos hr]
  rw [e] at h
  clear e
  have hr2 : 0 ≤ n ∧ n ≤ 15 := by simpa [inR] using hr
  obtain ⟨m, rfl⟩ : ∃ m : Nat, n = (m : Int) := ⟨n.toNat, by omega⟩
  rw [Int.toNat_natCast] at h
  have hm : m < 16 := by omega
  have hm15 : (m : Int) ≤ 15 := by omega
  simp (config := {contextual := true, implicitDefEqProofs := false, maxSteps := 2000000}) [-Int.not_le, -Int.not_lt, argsF, impl_ChangeText_c, hr]

  show ALoop _ _ _ _ _ (H.push (rowK eT 9 wordL)) _
  obtain ⟨HB, hHB⟩ : ∃ HB, HB = H.push (rowK eT 9 wordL) := ⟨_, rfl⟩
  have hwB : HB.WF := by rw [hHB]; exact WF.push hwf (plain_map (fun _ => rfl) _) (by show (4 : Nat) ≤ _; omega)
  have hBn : HB.n = H.n + 1 := by rw [hHB, push_n]
  have hBb : HB.b H.n = some (rowK eT 9 wordL) := by rw [hHB, push_b, if_pos rfl]
  have hsB : Sub H HB := by rw [hHB]; exact Sub.push hwf (.refl _) _
  rw [← hHB]
  clear hHB
  have hBl : H.n < HB.n := by omega
  have q0 : (H.n = HB.n) = False := eq_false (by omega)
  have q1 : (H.n = HB.n + 1) = False := eq_false (by omega)
  have q2 : (H.n = HB.n + 1 + 1) = False := eq_false (by omega)
  have hBle : H.n ≤ HB.n := by omega
  clear hBn
  refine aloop_heap (X := Nat) (fun j => [(0, .c (.int .i64 ((m : Int)))), (4, .c (.sl (HB.n) (0) ((wordsTo m j).length))), (10, .c (.sl (H.n) (0) (4))), (11, .c (.int .i64 (4))), (12, .c (.int .i64 ((j : Int))))]) (fun j => HB.push (rowK eT 9 (wordsTo m j))) (fun j => j ≤ 4) (fun j => 4 - j) hE _ 0 (by omega) (fun hw0 => .le (n0 := HB.n) hBle (by
    show Weak HB.n _ _ [(0, .c (.int .i64 ((m : Int)))), (4, .c (.sl (HB.n) (0) (0))), (10, .c (.sl (H.n) (0) (4))), (11, .c (.int .i64 (4))), (12, .c (.int .i64 (0)))] (HB.push (rowK eT 9 []))
    exact .one (c := none) hwB (.refl _) ⟨rfl, rfl⟩ (plain_map (fun _ => rfl) _) (by simp [frOk, AV.okR, AV.ok1, AC.okR, AV.ren, AV.ren1, AC.ren, AFrame.get, pl1_old, *]; first | done | rfl | omega))) (fun j hj hwx => ?_)
  have hwl := fun (q : Nat) (hq : q < 5) => words_len ⟨m, hm⟩ ⟨q, hq⟩
  rcases (show j = 0 ∨ j = 1 ∨ j = 2 ∨ j = 3 ∨ j = 4 by omega) with rfl | rfl | rfl | rfl | rfl
  · have hb := ctshr_0 ⟨m, hm⟩
    have hlj := hwl 0 (by omega)
    simp only at hlj
    have hb1' : ((wordsTo m 0).length + 1) * 16 ≤ 140737488355328 := by omega
    have hb2' : (wordsTo m 0).length + 1 ≤ 140737488355328 := by omega
    have hwt : wordsTo m (0 + 1) = if bitB m 0 = true then wordsTo m 0 ++ [wordL.getD 0 []] else wordsTo m 0 := rfl
    simp (config := {contextual := true, implicitDefEqProofs := false, maxSteps := 2000000}) [-Int.not_le, -Int.not_lt, argsF, impl_ChangeText_l0, wordL, hBb, q0, q1, q2, hb1', hb2', wrap_id]
    refine ite_i (fun g => ?_) (fun g => ?_)
    · have g2 := hb.1 g
      rw [g2, if_pos rfl] at hwt
      exact ⟨fun hw => ⟨0 + 1, by omega, by omega, by
        rw [hwt]
        exact .le (n0 := HB.n) hBle (.one (c := some (HB.n + 1 + 1)) (H := HB) hwB (Sub.push hwB (Sub.kill hwB (Sub.push hwB (Sub.push hwB (.refl _) _) _) (Nat.le_refl _)) _) ⟨by omega, by simp [push_b, kill_b, rowK, wordL]; done⟩ (plain_map (fun _ => rfl) _) (by simp [frOk, AV.okR, AV.ok1, AC.okR, AV.ren, AV.ren1, AC.ren, AFrame.get, pl1_old, *]; first | done | rfl | omega))⟩⟩
    · have g2 : bitB m 0 = false := by simpa using fun h2 => g (hb.2 h2)
      rw [g2, if_neg (by simp)] at hwt
      exact ⟨fun hw => ⟨0 + 1, by omega, by omega, by
        rw [hwt]
        exact .since (by simp only [push_n]; omega) hwx (.refl _) (by simp [frOk, AV.okR, AV.ok1, AC.okR, AV.ren, AV.ren1, AC.ren, AFrame.get, pl1_old, *]; first | done | rfl | omega)⟩⟩
  · have hb := ctshr_s ⟨m, hm⟩ ⟨1, by omega⟩
    have hlj := hwl 1 (by omega)
    simp only at hlj
    have hb1' : ((wordsTo m 1).length + 1) * 16 ≤ 140737488355328 := by omega
    have hb2' : (wordsTo m 1).length + 1 ≤ 140737488355328 := by omega
    have hwt : wordsTo m (1 + 1) = if bitB m 1 = true then wordsTo m 1 ++ [wordL.getD 1 []] else wordsTo m 1 := rfl
    simp (config := {contextual := true, implicitDefEqProofs := false, maxSteps := 2000000}) [-Int.not_le, -Int.not_lt, argsF, impl_ChangeText_l0, wordL, hBb, q0, q1, q2, hb1', hb2', wrap_id]
    refine ite_i (fun g => ?_) (fun g => ?_)
    · have g2 := hb.1 g
      rw [g2, if_pos rfl] at hwt
      exact ⟨fun hw => ⟨1 + 1, by omega, by omega, by
        rw [hwt]
        exact .le (n0 := HB.n) hBle (.one (c := some (HB.n + 1 + 1)) (H := HB) hwB (Sub.push hwB (Sub.kill hwB (Sub.push hwB (Sub.push hwB (.refl _) _) _) (Nat.le_refl _)) _) ⟨by omega, by simp [push_b, kill_b, rowK, wordL]; done⟩ (plain_map (fun _ => rfl) _) (by simp [frOk, AV.okR, AV.ok1, AC.okR, AV.ren, AV.ren1, AC.ren, AFrame.get, pl1_old, *]; first | done | rfl | omega))⟩⟩
    · have g2 : bitB m 1 = false := by simpa using fun h2 => g (hb.2 h2)
      rw [g2, if_neg (by simp)] at hwt
      exact ⟨fun hw => ⟨1 + 1, by omega, by omega, by
        rw [hwt]
        exact .since (by simp only [push_n]; omega) hwx (.refl _) (by simp [frOk, AV.okR, AV.ok1, AC.okR, AV.ren, AV.ren1, AC.ren, AFrame.get, pl1_old, *]; first | done | rfl | omega)⟩⟩
  · have hb := ctshr_s ⟨m, hm⟩ ⟨2, by omega⟩
    have hlj := hwl 2 (by omega)
    simp only at hlj
    have hb1' : ((wordsTo m 2).length + 1) * 16 ≤ 140737488355328 := by omega
    have hb2' : (wordsTo m 2).length + 1 ≤ 140737488355328 := by omega
    have hwt : wordsTo m (2 + 1) = if bitB m 2 = true then wordsTo m 2 ++ [wordL.getD 2 []] else wordsTo m 2 := rfl
    simp (config := {contextual := true, implicitDefEqProofs := false, maxSteps := 2000000}) [-Int.not_le, -Int.not_lt, argsF, impl_ChangeText_l0, wordL, hBb, q0, q1, q2, hb1', hb2', wrap_id]
    refine ite_i (fun g => ?_) (fun g => ?_)
    · have g2 := hb.1 g
      rw [g2, if_pos rfl] at hwt
      exact ⟨fun hw => ⟨2 + 1, by omega, by omega, by
        rw [hwt]
        exact .le (n0 := HB.n) hBle (.one (c := some (HB.n + 1 + 1)) (H := HB) hwB (Sub.push hwB (Sub.kill hwB (Sub.push hwB (Sub.push hwB (.refl _) _) _) (Nat.le_refl _)) _) ⟨by omega, by simp [push_b, kill_b, rowK, wordL]; done⟩ (plain_map (fun _ => rfl) _) (by simp [frOk, AV.okR, AV.ok1, AC.okR, AV.ren, AV.ren1, AC.ren, AFrame.get, pl1_old, *]; first | done | rfl | omega))⟩⟩
    · have g2 : bitB m 2 = false := by simpa using fun h2 => g (hb.2 h2)
      rw [g2, if_neg (by simp)] at hwt
      exact ⟨fun hw => ⟨2 + 1, by omega, by omega, by
        rw [hwt]
        exact .since (by simp only [push_n]; omega) hwx (.refl _) (by simp [frOk, AV.okR, AV.ok1, AC.okR, AV.ren, AV.ren1, AC.ren, AFrame.get, pl1_old, *]; first | done | rfl | omega)⟩⟩
  · have hb := ctshr_s ⟨m, hm⟩ ⟨3, by omega⟩
    have hlj := hwl 3 (by omega)
    simp only at hlj
    have hb1' : ((wordsTo m 3).length + 1) * 16 ≤ 140737488355328 := by omega
    have hb2' : (wordsTo m 3).length + 1 ≤ 140737488355328 := by omega
    have hwt : wordsTo m (3 + 1) = if bitB m 3 = true then wordsTo m 3 ++ [wordL.getD 3 []] else wordsTo m 3 := rfl
    simp (config := {contextual := true, implicitDefEqProofs := false, maxSteps := 2000000}) [-Int.not_le, -Int.not_lt, argsF, impl_ChangeText_l0, wordL, hBb, q0, q1, q2, hb1', hb2', wrap_id]
    refine ite_i (fun g => ?_) (fun g => ?_)
    · have g2 := hb.1 g
      rw [g2, if_pos rfl] at hwt
      exact ⟨fun hw => ⟨3 + 1, by omega, by omega, by
        rw [hwt]
        exact .le (n0 := HB.n) hBle (.one (c := some (HB.n + 1 + 1)) (H := HB) hwB (Sub.push hwB (Sub.kill hwB (Sub.push hwB (Sub.push hwB (.refl _) _) _) (Nat.le_refl _)) _) ⟨by omega, by simp [push_b, kill_b, rowK, wordL]; done⟩ (plain_map (fun _ => rfl) _) (by simp [frOk, AV.okR, AV.ok1, AC.okR, AV.ren, AV.ren1, AC.ren, AFrame.get, pl1_old, *]; first | done | rfl | omega))⟩⟩
    · have g2 : bitB m 3 = false := by simpa using fun h2 => g (hb.2 h2)
      rw [g2, if_neg (by simp)] at hwt
      exact ⟨fun hw => ⟨3 + 1, by omega, by omega, by
        rw [hwt]
        exact .since (by simp only [push_n]; omega) hwx (.refl _) (by simp [frOk, AV.okR, AV.ok1, AC.okR, AV.ren, AV.ren1, AC.ren, AFrame.get, pl1_old, *]; first | done | rfl | omega)⟩⟩
  · have hl4 := hwl 4 (by omega)
    simp only at hl4
    have hl1 : (wordsTo m 4).length ≤ 1000 := by omega
    have hl2 : (Lib.join (wordsTo m 4) [43]).length ≤ 100000 := by omega
    unfold ctText at h
    by_cases hz : wordsTo m 4 = []
    · rw [if_pos hz] at h
      simp (config := {contextual := true, implicitDefEqProofs := false, maxSteps := 2000000}) [-Int.not_le, -Int.not_lt, argsF, impl_ChangeText_l0, wordL, hz]
      exact .old hwf (Sub.push hwf hsB _) (by simp [frOk, AV.okR, AV.ok1, AC.okR, AV.ren, AV.ren1, AC.ren, AFrame.get, pl1_old, *]; first | done | rfl | omega) h
    · rw [if_neg hz] at h
      simp (config := {contextual := true, implicitDefEqProofs := false, maxSteps := 2000000}) [-Int.not_le, -Int.not_lt, argsF, impl_ChangeText_l0, wordL, hz, hl1, hl2]
      exact .old hwf (Sub.push hwf hsB _) (by simp [frOk, AV.okR, AV.ok1, AC.okR, AV.ren, AV.ren1, AC.ren, AFrame.get, pl1_old, *]; first | done | rfl | omega) h

theorem spec_ChangeText_s : Sound Try.prog 66 q_ct := by
  intro args H K h
  unfold q_ct at h
  split at h
  rotate_left
  all_goals first | exact False.elim h | skip
  rename_i n
  have hE := soundE_cons spec_l1In_s (soundE_cons spec_l12Has_s (soundE_nil (P := Try.prog)))
  refine acalls_fn spec_ChangeText_k hE ⟨by simp, fun hwf => ?_⟩
  by_cases hr : inR n 0 15 = true
  rotate_left
  · have e : ctRes n = ([], false) := by unfold ctRes; rw [if_neg hr]
    rw [e] at h
    simp (config := {contextual := true, implicitDefEqProofs := false, maxSteps := 2000000}) [-Int.not_le, -Int.not_lt, argsF, spec_ChangeText_c, hr]
    (refine Out.plain hwf ?_ rfl ?_; (repeat first | exact Sub.refl _ | refine Sub.push hwf ?_ _ | refine Sub.set hwf ?_ (by first | exact Nat.le_refl _ | omega | (simp only [push_n, set_n, kill_n]; omega)) _ | refine Sub.kill hwf ?_ (by first | exact Nat.le_refl _ | omega | (simp only [push_n, set_n, kill_n]; omega)))); exact h
  have e : ctRes n = (ctText n.toNat, true) := by unfold ctRes; rw [if_pos hr]
  rw [e] at h
  clear e
  have hr2 : 0 ≤ n ∧ n ≤ 15 := by simpa [inR] using hr
  obtain ⟨m, rfl⟩ : ∃ m : Nat, n = (m : Int) := ⟨n.toNat, by omega⟩
  rw [Int.toNat_natCast] at h
  have hm : m < 16 := by omega
  have hm15 : (m : Int) ≤ 15 := by omega
  simp (config := {contextual := true, implicitDefEqProofs := false, maxSteps := 2000000}) [-Int.not_le, -Int.not_lt, argsF, spec_ChangeText_c, hr]

  refine aloop_heap (X := Nat) (fun j => [(0, .c (.int .i64 ((m : Int)))), (4, .c (.str (Lib.join (wordsTo m j) [43]))), (5, .c (.int .i64 ((j : Int))))]) (fun _ => H) (fun j => j ≤ 4) (fun j => 4 - j) hE _ 0 (by omega) (fun hw0 => by
    show Weak H.n _ _ [(0, .c (.int .i64 ((m : Int)))), (4, .c (.str ([]))), (5, .c (.int .i64 (0)))] H
    exact .same hwf (by simp [frOk, AV.okR, AV.ok1, AC.okR, AV.ren, AV.ren1, AC.ren, AFrame.get, pl1_old, *]; first | done | rfl | omega)) (fun j hj hwx => ?_)
  have hwl := fun (q : Nat) (hq : q < 5) => (words_len ⟨m, hm⟩ ⟨q, hq⟩).2
  rcases (show j = 0 ∨ j = 1 ∨ j = 2 ∨ j = 3 ∨ j = 4 by omega) with rfl | rfl | rfl | rfl | rfl
  · have hb := has_1 ⟨m, hm⟩
    have hlj := hwl 0 (by omega)
    have hst := str_step ⟨m, hm⟩ ⟨0, by omega⟩
    simp only [wordL, List.getD_cons_zero, List.getD_cons_succ] at hb hlj hst
    generalize hS : Lib.join (wordsTo m 0) [43] = S at *
    cases hbt : bitB m 0 with
    | false =>
      rw [hbt] at hb
      rw [hbt, if_neg (by simp)] at hst
      simp (config := {contextual := true, implicitDefEqProofs := false, maxSteps := 2000000}) [-Int.not_le, -Int.not_lt, argsF, spec_ChangeText_l0, hS, hb, hm15, wrap_id]
      exact ⟨fun hw => ⟨0 + 1, by omega, by omega, by
        rw [hst]
        exact .since (Nat.le_refl _) hwf (by (repeat first | exact Sub.refl _ | refine Sub.push hwf ?_ _ | refine Sub.set hwf ?_ (by first | exact Nat.le_refl _ | omega | (simp only [push_n, set_n, kill_n]; omega)) _ | refine Sub.kill hwf ?_ (by first | exact Nat.le_refl _ | omega | (simp only [push_n, set_n, kill_n]; omega)))) (by simp [frOk, AV.okR, AV.ok1, AC.okR, AV.ren, AV.ren1, AC.ren, AFrame.get, pl1_old, *]; first | done | rfl | omega)⟩⟩
    | true =>
      rw [hbt] at hb
      rw [hbt, if_pos rfl] at hst
      by_cases hz : S = []
      · rw [if_pos hz] at hst
        simp (config := {contextual := true, implicitDefEqProofs := false, maxSteps := 2000000}) [-Int.not_le, -Int.not_lt, argsF, spec_ChangeText_l0, hS, hb, hm15, hz, wrap_id]
        rw [hz] at hst
        exact ⟨fun hw => ⟨0 + 1, by omega, by omega, by
          rw [hst]
          exact .since (Nat.le_refl _) hwf (by (repeat first | exact Sub.refl _ | refine Sub.push hwf ?_ _ | refine Sub.set hwf ?_ (by first | exact Nat.le_refl _ | omega | (simp only [push_n, set_n, kill_n]; omega)) _ | refine Sub.kill hwf ?_ (by first | exact Nat.le_refl _ | omega | (simp only [push_n, set_n, kill_n]; omega)))) (by simp [frOk, AV.okR, AV.ok1, AC.okR, AV.ren, AV.ren1, AC.ren, AFrame.get, pl1_old, *]; first | done | rfl | omega)⟩⟩
      · rw [if_neg hz] at hst
        have hl1 : S.length ≤ 9223372036854775806 := by omega
        have hl2 : S.length + 1 ≤ 9223372036854775800 := by omega
        simp (config := {contextual := true, implicitDefEqProofs := false, maxSteps := 2000000}) [-Int.not_le, -Int.not_lt, argsF, spec_ChangeText_l0, hS, hb, hm15, hz, hl1, wrap_id]
        repeat (refine ⟨by omega, ?_⟩)
        exact ⟨fun hw => ⟨0 + 1, by omega, by omega, by
          rw [hst]
          exact .since (Nat.le_refl _) hwf (by (repeat first | exact Sub.refl _ | refine Sub.push hwf ?_ _ | refine Sub.set hwf ?_ (by first | exact Nat.le_refl _ | omega | (simp only [push_n, set_n, kill_n]; omega)) _ | refine Sub.kill hwf ?_ (by first | exact Nat.le_refl _ | omega | (simp only [push_n, set_n, kill_n]; omega)))) (by simp [frOk, AV.okR, AV.ok1, AC.okR, AV.ren, AV.ren1, AC.ren, AFrame.get, pl1_old, *]; first | done | rfl | omega)⟩⟩
  · have hb := has_2 ⟨m, hm⟩
    have hlj := hwl 1 (by omega)
    have hst := str_step ⟨m, hm⟩ ⟨1, by omega⟩
    simp only [wordL, List.getD_cons_zero, List.getD_cons_succ] at hb hlj hst
    generalize hS : Lib.join (wordsTo m 1) [43] = S at *
    cases hbt : bitB m 1 with
    | false =>
      rw [hbt] at hb
      rw [hbt, if_neg (by simp)] at hst
      simp (config := {contextual := true, implicitDefEqProofs := false, maxSteps := 2000000}) [-Int.not_le, -Int.not_lt, argsF, spec_ChangeText_l0, hS, hb, hm15, wrap_id]
      exact ⟨fun hw => ⟨1 + 1, by omega, by omega, by
        rw [hst]
        exact .since (Nat.le_refl _) hwf (by (repeat first | exact Sub.refl _ | refine Sub.push hwf ?_ _ | refine Sub.set hwf ?_ (by first | exact Nat.le_refl _ | omega | (simp only [push_n, set_n, kill_n]; omega)) _ | refine Sub.kill hwf ?_ (by first | exact Nat.le_refl _ | omega | (simp only [push_n, set_n, kill_n]; omega)))) (by simp [frOk, AV.okR, AV.ok1, AC.okR, AV.ren, AV.ren1, AC.ren, AFrame.get, pl1_old, *]; first | done | rfl | omega)⟩⟩
    | true =>
      rw [hbt] at hb
      rw [hbt, if_pos rfl] at hst
      by_cases hz : S = []
      · rw [if_pos hz] at hst
        simp (config := {contextual := true, implicitDefEqProofs := false, maxSteps := 2000000}) [-Int.not_le, -Int.not_lt, argsF, spec_ChangeText_l0, hS, hb, hm15, hz, wrap_id]
        rw [hz] at hst
        exact ⟨fun hw => ⟨1 + 1, by omega, by omega, by
          rw [hst]
          exact .since (Nat.le_refl _) hwf (by (repeat first | exact Sub.refl _ | refine Sub.push hwf ?_ _ | refine Sub.set hwf ?_ (by first | exact Nat.le_refl _ | omega | (simp only [push_n, set_n, kill_n]; omega)) _ | refine Sub.kill hwf ?_ (by first | exact Nat.le_refl _ | omega | (simp only [push_n, set_n, kill_n]; omega)))) (by simp [frOk, AV.okR, AV.ok1, AC.okR, AV.ren, AV.ren1, AC.ren, AFrame.get, pl1_old, *]; first | done | rfl | omega)⟩⟩
      · rw [if_neg hz] at hst
        have hl1 : S.length ≤ 9223372036854775806 := by omega
        have hl2 : S.length + 1 ≤ 9223372036854775800 := by omega
        simp (config := {contextual := true, implicitDefEqProofs := false, maxSteps := 2000000}) [-Int.not_le, -Int.not_lt, argsF, spec_ChangeText_l0, hS, hb, hm15, hz, hl1, wrap_id]
        repeat (refine ⟨by omega, ?_⟩)
        exact ⟨fun hw => ⟨1 + 1, by omega, by omega, by
          rw [hst]
          exact .since (Nat.le_refl _) hwf (by (repeat first | exact Sub.refl _ | refine Sub.push hwf ?_ _ | refine Sub.set hwf ?_ (by first | exact Nat.le_refl _ | omega | (simp only [push_n, set_n, kill_n]; omega)) _ | refine Sub.kill hwf ?_ (by first | exact Nat.le_refl _ | omega | (simp only [push_n, set_n, kill_n]; omega)))) (by simp [frOk, AV.okR, AV.ok1, AC.okR, AV.ren, AV.ren1, AC.ren, AFrame.get, pl1_old, *]; first | done | rfl | omega)⟩⟩
  · have hb := has_4 ⟨m, hm⟩
    have hlj := hwl 2 (by omega)
    have hst := str_step ⟨m, hm⟩ ⟨2, by omega⟩
    simp only [wordL, List.getD_cons_zero, List.getD_cons_succ] at hb hlj hst
    generalize hS : Lib.join (wordsTo m 2) [43] = S at *
    cases hbt : bitB m 2 with
    | false =>
      rw [hbt] at hb
      rw [hbt, if_neg (by simp)] at hst
      simp (config := {contextual := true, implicitDefEqProofs := false, maxSteps := 2000000}) [-Int.not_le, -Int.not_lt, argsF, spec_ChangeText_l0, hS, hb, hm15, wrap_id]
      exact ⟨fun hw => ⟨2 + 1, by omega, by omega, by
        rw [hst]
        exact .since (Nat.le_refl _) hwf (by (repeat first | exact Sub.refl _ | refine Sub.push hwf ?_ _ | refine Sub.set hwf ?_ (by first | exact Nat.le_refl _ | omega | (simp only [push_n, set_n, kill_n]; omega)) _ | refine Sub.kill hwf ?_ (by first | exact Nat.le_refl _ | omega | (simp only [push_n, set_n, kill_n]; omega)))) (by simp [frOk, AV.okR, AV.ok1, AC.okR, AV.ren, AV.ren1, AC.ren, AFrame.get, pl1_old, *]; first | done | rfl | omega)⟩⟩
    | true =>
      rw [hbt] at hb
      rw [hbt, if_pos rfl] at hst
      by_cases hz : S = []
      · rw [if_pos hz] at hst
        simp (config := {contextual := true, implicitDefEqProofs := false, maxSteps := 2000000}) [-Int.not_le, -Int.not_lt, argsF, spec_ChangeText_l0, hS, hb, hm15, hz, wrap_id]
        rw [hz] at hst
        exact ⟨fun hw => ⟨2 + 1, by omega, by omega, by
          rw [hst]
          exact .since (Nat.le_refl _) hwf (by (repeat first | exact Sub.refl _ | refine Sub.push hwf ?_ _ | refine Sub.set hwf ?_ (by first | exact Nat.le_refl _ | omega | (simp only [push_n, set_n, kill_n]; omega)) _ | refine Sub.kill hwf ?_ (by first | exact Nat.le_refl _ | omega | (simp only [push_n, set_n, kill_n]; omega)))) (by simp [frOk, AV.okR, AV.ok1, AC.okR, AV.ren, AV.ren1, AC.ren, AFrame.get, pl1_old, *]; first | done | rfl | omega)⟩⟩
      · rw [if_neg hz] at hst
        have hl1 : S.length ≤ 9223372036854775806 := by omega
        have hl2 : S.length + 1 ≤ 9223372036854775800 := by omega
        simp (config := {contextual := true, implicitDefEqProofs := false, maxSteps := 2000000}) [-Int.not_le, -Int.not_lt, argsF, spec_ChangeText_l0, hS, hb, hm15, hz, hl1, wrap_id]
        repeat (refine ⟨by omega, ?_⟩)
        exact ⟨fun hw => ⟨2 + 1, by omega, by omega, by
          rw [hst]
          exact .since (Nat.le_refl _) hwf (by (repeat first | exact Sub.refl _ | refine Sub.push hwf ?_ _ | refine Sub.set hwf ?_ (by first | exact Nat.le_refl _ | omega | (simp only [push_n, set_n, kill_n]; omega)) _ | refine Sub.kill hwf ?_ (by first | exact Nat.le_refl _ | omega | (simp only [push_n, set_n, kill_n]; omega)))) (by simp [frOk, AV.okR, AV.ok1, AC.okR, AV.ren, AV.ren1, AC.ren, AFrame.get, pl1_old, *]; first | done | rfl | omega)⟩⟩
  · have hb := has_8 ⟨m, hm⟩
    have hlj := hwl 3 (by omega)
    have hst := str_step ⟨m, hm⟩ ⟨3, by omega⟩
    simp only [wordL, List.getD_cons_zero, List.getD_cons_succ] at hb hlj hst
    generalize hS : Lib.join (wordsTo m 3) [43] = S at *
    cases hbt : bitB m 3 with
    | false =>
      rw [hbt] at hb
      rw [hbt, if_neg (by simp)] at hst
      simp (config := {contextual := true, implicitDefEqProofs := false, maxSteps := 2000000}) [-Int.not_le, -Int.not_lt, argsF, spec_ChangeText_l0, hS, hb, hm15, wrap_id]
      exact ⟨fun hw => ⟨3 + 1, by omega, by omega, by
        rw [hst]
        exact .since (Nat.le_refl _) hwf (by (repeat first | exact Sub.refl _ | refine Sub.push hwf ?_ _ | refine Sub.set hwf ?_ (by first | exact Nat.le_refl _ | omega | (simp only [push_n, set_n, kill_n]; omega)) _ | refine Sub.kill hwf ?_ (by first | exact Nat.le_refl _ | omega | (simp only [push_n, set_n, kill_n]; omega)))) (by simp [frOk, AV.okR, AV.ok1, AC.okR, AV.ren, AV.ren1, AC.ren, AFrame.get, pl1_old, *]; first | done | rfl | omega)⟩⟩
    | true =>
      rw [hbt] at hb
      rw [hbt, if_pos rfl] at hst
      by_cases hz : S = []
      · rw [if_pos hz] at hst
        simp (config := {contextual := true, implicitDefEqProofs := false, maxSteps := 2000000}) [-Int.not_le, -Int.not_lt, argsF, spec_ChangeText_l0, hS, hb, hm15, hz, wrap_id]
        rw [hz] at hst
        exact ⟨fun hw => ⟨3 + 1, by omega, by omega, by
          rw [hst]
          exact .since (Nat.le_refl _) hwf (by (repeat first | exact Sub.refl _ | refine Sub.push hwf ?_ _ | refine Sub.set hwf ?_ (by first | exact Nat.le_refl _ | omega | (simp only [push_n, set_n, kill_n]; omega)) _ | refine Sub.kill hwf ?_ (by first | exact Nat.le_refl _ | omega | (simp only [push_n, set_n, kill_n]; omega)))) (by simp [frOk, AV.okR, AV.ok1, AC.okR, AV.ren, AV.ren1, AC.ren, AFrame.get, pl1_old, *]; first | done | rfl | omega)⟩⟩
      · rw [if_neg hz] at hst
        have hl1 : S.length ≤ 9223372036854775806 := by omega
        have hl2 : S.length + 1 ≤ 9223372036854775800 := by omega
        simp (config := {contextual := true, implicitDefEqProofs := false, maxSteps := 2000000}) [-Int.not_le, -Int.not_lt, argsF, spec_ChangeText_l0, hS, hb, hm15, hz, hl1, wrap_id]
        repeat (refine ⟨by omega, ?_⟩)
        exact ⟨fun hw => ⟨3 + 1, by omega, by omega, by
          rw [hst]
          exact .since (Nat.le_refl _) hwf (by (repeat first | exact Sub.refl _ | refine Sub.push hwf ?_ _ | refine Sub.set hwf ?_ (by first | exact Nat.le_refl _ | omega | (simp only [push_n, set_n, kill_n]; omega)) _ | refine Sub.kill hwf ?_ (by first | exact Nat.le_refl _ | omega | (simp only [push_n, set_n, kill_n]; omega)))) (by simp [frOk, AV.okR, AV.ok1, AC.okR, AV.ren, AV.ren1, AC.ren, AFrame.get, pl1_old, *]; first | done | rfl | omega)⟩⟩
  · have hn := str_none ⟨m, hm⟩
    simp only at hn
    rw [hn] at h
    by_cases hz : Lib.join (wordsTo m 4) [43] = []
    · rw [if_pos hz] at h
      simp (config := {contextual := true, implicitDefEqProofs := false, maxSteps := 2000000}) [-Int.not_le, -Int.not_lt, argsF, spec_ChangeText_l0, hz]
      (refine Out.plain hwf ?_ rfl ?_; (repeat first | exact Sub.refl _ | refine Sub.push hwf ?_ _ | refine Sub.set hwf ?_ (by first | exact Nat.le_refl _ | omega | (simp only [push_n, set_n, kill_n]; omega)) _ | refine Sub.kill hwf ?_ (by first | exact Nat.le_refl _ | omega | (simp only [push_n, set_n, kill_n]; omega)))); exact h
    · rw [if_neg hz] at h
      simp (config := {contextual := true, implicitDefEqProofs := false, maxSteps := 2000000}) [-Int.not_le, -Int.not_lt, argsF, spec_ChangeText_l0, hz]
      (refine Out.plain hwf ?_ rfl ?_; (repeat first | exact Sub.refl _ | refine Sub.push hwf ?_ _ | refine Sub.set hwf ?_ (by first | exact Nat.le_refl _ | omega | (simp only [push_n, set_n, kill_n]; omega)) _ | refine Sub.kill hwf ?_ (by first | exact Nat.le_refl _ | omega | (simp only [push_n, set_n, kill_n]; omega)))); exact h

end Go.Proofs.Ytjiffkjeijfilaa
