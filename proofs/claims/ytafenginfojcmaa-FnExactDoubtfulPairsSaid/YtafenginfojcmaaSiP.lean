/- A number put to its place. -/
import Derived.Test.YtafenginfojcmaaSiQ
set_option maxRecDepth 8000
set_option linter.unusedSimpArgs false
set_option linter.unusedVariables false
namespace Go.Proofs.Ytafenginfojcmaa
open Go Go.RowKit

set_option maxHeartbeats 4000000

def ltI (n : Int) (x : Int) : Bool := decide (x < n)
def hasP (l : List Int) (n : Int) : Bool := decide ((l.dropWhile (ltI n)).head? = some n)
def putI (l : List Int) (n : Int) : List Int := if hasP l n = true then l else l.takeWhile (ltI n) ++ n :: l.dropWhile (ltI n)
theorem drop_tw (n : Int) : ∀ l : List Int, l.drop (l.takeWhile (ltI n)).length = l.dropWhile (ltI n)
  | [] => rfl
  | x :: r => by
    simp only [List.takeWhile_cons, List.dropWhile_cons]
    split
    · simpa using drop_tw n r
    · rfl
theorem take_tw (n : Int) : ∀ l : List Int, l.take (l.takeWhile (ltI n)).length = l.takeWhile (ltI n)
  | [] => rfl
  | x :: r => by
    simp only [List.takeWhile_cons]
    split
    · simpa using take_tw n r
    · rfl
theorem len_tw (n : Int) (l : List Int) : (l.takeWhile (ltI n)).length ≤ l.length := by
  have := congrArg List.length (take_tw n l)
  simp only [List.length_take] at this
  omega

theorem putI_at {ps : List Int} {n : Int} {j : Nat} (hj : (ps.takeWhile (ltI n)).length = j) (hh : hasP ps n = false) : putI ps n = ps.take j ++ n :: ps.drop j := by
  subst hj
  rw [putI, hh, take_tw, drop_tw]
  rfl
theorem hasP_at {ps : List Int} {n : Int} {j : Nat} (hj : (ps.takeWhile (ltI n)).length = j) : hasP ps n = decide ((ps.drop j).head? = some n) := by
  subst hj
  rw [hasP, drop_tw]
theorem at_take {ps : List Int} {H : AHeap} {b i : Nat} {k : ABlk} (h : eI.At H b i k ps) {j : Nat} (hj : j ≤ ps.length) : List.take j (List.drop i k.els) = (ps.take j).map eI.cells := by
  have h1 := congrArg (List.take j) h.els
  rwa [List.take_take, Nat.min_eq_left hj, ← List.map_take] at h1
theorem at_drop {ps : List Int} {H : AHeap} {b i : Nat} {k : ABlk} (h : eI.At H b i k ps) (j : Nat) : List.take (ps.length - j) (List.drop (i + j) k.els) = (ps.drop j).map eI.cells := by
  have h1 := congrArg (List.drop j) h.els
  rwa [List.drop_take, List.drop_drop, ← List.map_drop] at h1
theorem putI_row {ps : List Int} {n : Int} {j : Nat} (T : TypeId) (hj : (ps.takeWhile (ltI n)).length = j) (hl : j ≤ ps.length) (hh : hasP ps n = false) :
    (⟨T, 1, false, false, List.take (j + 1) ((ps.take j).map eI.cells ++ [[AC.int IntKind.i64 n]]) ++ (ps.drop j).map eI.cells⟩ : ABlk) = rowK eI T (putI ps n) ∧ j + 1 + (ps.length - j) = (putI ps n).length := by
  rw [putI_at hj hh]
  refine ⟨?_, by simp; omega⟩
  rw [List.take_of_length_le (by simp; omega)]
  simp [rowK]

def q_put : Con := fun args H K => match args with
  | [ps_v, .c (.int .i64 n)] => eI.rd H (fun ps => ps.length ≤ 1000000 ∧ (if hasP ps n = true then K ps_v H else K (.c (.sl (H.n) (0) ((putI ps n).length))) (H.push (rowK eI 3 (putI ps n))))) ps_v
  | _ => False
@[simp ↓] theorem q_put_eq (ps_v : AV) (n : Int) (H : AHeap) (K : AV → AHeap → Prop) : q_put [ps_v, .c (.int .i64 n)] H K = (eI.rd H (fun ps => ps.length ≤ 1000000 ∧ (if hasP ps n = true then K ps_v H else K (.c (.sl (H.n) (0) ((putI ps n).length))) (H.push (rowK eI 3 (putI ps n))))) ps_v) := rfl

theorem spec_l1Put_s : Sound Try.prog 62 q_put := by
  intro args H K h
  unfold q_put at h
  split at h
  rotate_left
  all_goals first | exact False.elim h | skip
  rename_i ps_v n
  have h1 := Enc.rd_at h
  clear h
  obtain ⟨b_ps, i_ps, k_ps, ps, rfl, hat_ps, h⟩ := h1
  have hE := soundE_nil (P := Try.prog)
  refine acalls_fn spec_l1Put_k hE ⟨by simp, fun hwf => ?_⟩
  have hb_ps : b_ps < H.n := (hwf b_ps k_ps hat_ps.blk).1
  have hne_ps : (b_ps = H.n) = False := eq_false (by omega)
  have hne1_ps : ∀ i, (b_ps = H.n + i) = False := fun i => eq_false (by omega)
  have hne2_ps : (b_ps = H.n + 1 + 1) = False ∧ (b_ps = H.n + 1 + 1 + 1) = False ∧ (b_ps = H.n + 1 + 1 + 1 + 1) = False ∧ (b_ps = H.n + 1 + 1 + 1 + 1 + 1) = False ∧ (b_ps = H.n + 1 + 1 + 1 + 1 + 1 + 1) = False ∧ (b_ps = H.n + 1 + 1 + 1 + 1 + 1 + 1 + 1) = False ∧ (b_ps = H.n + 1 + 1 + 1 + 1 + 1 + 1 + 1 + 1) = False ∧ (b_ps = H.n + 1 + 1 + 1 + 1 + 1 + 1 + 1 + 1 + 1) = False ∧ (b_ps = H.n + 1 + 1 + 1 + 1 + 1 + 1 + 1 + 1 + 1 + 1) = False ∧ (b_ps = H.n + 1 + 1 + 1 + 1 + 1 + 1 + 1 + 1 + 1 + 1 + 1) = False ∧ (b_ps = H.n + 1 + 1 + 1 + 1 + 1 + 1 + 1 + 1 + 1 + 1 + 1 + 1) = False := ⟨eq_false (by omega), eq_false (by omega), eq_false (by omega), eq_false (by omega), eq_false (by omega), eq_false (by omega), eq_false (by omega), eq_false (by omega), eq_false (by omega), eq_false (by omega), eq_false (by omega)⟩
  have hmx_ps : ps.length ≤ 9223372036854775807 := by have h1 := (hwf b_ps k_ps hat_ps.blk).2.2; have h2 := hat_ps.len; omega
  obtain ⟨hl, h⟩ := h
  simp (config := {contextual := true, implicitDefEqProofs := false, maxSteps := 2000000}) [-Int.not_le, -Int.not_lt, argsF, spec_l1Put_c, hat_ps.blk, hat_ps.esz, hat_ps.len, hat_ps.els, hne_ps, hne1_ps, hne2_ps.1, hne2_ps.2.1, hne2_ps.2.2.1, hne2_ps.2.2.2.1, hne2_ps.2.2.2.2.1, hne2_ps.2.2.2.2.2.1, hne2_ps.2.2.2.2.2.2.1, hne2_ps.2.2.2.2.2.2.2.1, hne2_ps.2.2.2.2.2.2.2.2.1, hne2_ps.2.2.2.2.2.2.2.2.2.1, hne2_ps.2.2.2.2.2.2.2.2.2.2]
  refine aloop_list ps (fun j _ => [(0, .c (.sl b_ps i_ps ps.length)), (1, .c (.int .i64 (n))), (5, .c (.int .i64 (j)))]) (fun j _ => H) (fun j l _ => (ps.takeWhile (ltI n)).length = j + (l.takeWhile (ltI n)).length) hE _ (()) (by simp) (.same hwf (by simp [frOk, AV.okR, AV.ok1, AC.okR, AV.ren, AV.ren1, AC.ren, AFrame.get, pl1_old, *]; first | done | rfl | omega)) (fun j _ hlt hi => ?_) fun _ hi => ?_
  ·
    have e1 := hat_ps.get hlt
    have hj1 := idx_lt hlt
    have w1 : IntKind.i64.wrap ((j : Int) + 1) = (j : Int) + 1 := wrap_id (by omega) (by omega)
    simp (config := {contextual := true, implicitDefEqProofs := false, maxSteps := 2000000}) [-Int.not_le, -Int.not_lt, argsF, spec_l1Put_l0, hat_ps.blk, hat_ps.esz, hat_ps.len, hat_ps.els, hne_ps, hne1_ps, hne2_ps.1, hne2_ps.2.1, hne2_ps.2.2.1, hne2_ps.2.2.2.1, hne2_ps.2.2.2.2.1, hne2_ps.2.2.2.2.2.1, hne2_ps.2.2.2.2.2.2.1, hne2_ps.2.2.2.2.2.2.2.1, hne2_ps.2.2.2.2.2.2.2.2.1, hne2_ps.2.2.2.2.2.2.2.2.2.1, hne2_ps.2.2.2.2.2.2.2.2.2.2, e1, hj1, w1]
    have hlen := hat_ps.len
    simp only [List.takeWhile_cons] at hi
    refine ite_i (fun hc => ?_) (fun hc => ite_i (fun hc2 => ?_) (fun hc2 => ?_))
    · have hc' : ltI n ps[j] = true := by simp [ltI, hc]
      rw [hc', if_pos rfl, List.length_cons] at hi
      exact ⟨(), by omega, .drop hwf (by (repeat first | exact Sub.refl _ | refine Sub.push hwf ?_ _ | refine Sub.set hwf ?_ (by first | exact Nat.le_refl _ | omega | (simp only [push_n, set_n, kill_n]; omega)) _ | refine Sub.kill hwf ?_ (by first | exact Nat.le_refl _ | omega | (simp only [push_n, set_n, kill_n]; omega)))) (by simp [frOk, AV.okR, AV.ok1, AC.okR, AV.ren, AV.ren1, AC.ren, AFrame.get, pl1_old, *]; first | done | rfl | omega)⟩
    · have hc' : ltI n ps[j] = false := by simp [ltI, hc]
      rw [hc', if_neg (by simp), List.length_nil, Nat.add_zero] at hi
      have hh : hasP ps n = true := by rw [hasP_at hi, List.drop_eq_getElem_cons hlt]; simp [hc2, List.getElem?_eq_getElem hlt]
      rw [if_pos hh] at h
      exact .old hwf (.refl _) (by simp [frOk, AV.okR, AV.ok1, AC.okR, AV.ren, AV.ren1, AC.ren, AFrame.get, pl1_old, *]; first | done | rfl | omega) h
    · have hc' : ltI n ps[j] = false := by simp [ltI, hc]
      rw [hc', if_neg (by simp), List.length_nil, Nat.add_zero] at hi
      have hh : hasP ps n = false := by rw [hasP_at hi, List.drop_eq_getElem_cons hlt]; simp [hc2, List.getElem?_eq_getElem hlt]
      rw [if_neg (by simp [hh])] at h
      have m1 : min j (k_ps.els.length - i_ps) = j := by omega
      have m2 : min (ps.length - j) (k_ps.els.length - (i_ps + j)) = ps.length - j := by omega
      obtain ⟨r1, r2⟩ := putI_row 3 hi (by omega) hh
      rw [m1, m2, at_take hat_ps (by omega), at_drop hat_ps, r1, r2]
      refine ⟨by omega, by omega, by omega, by omega, by omega, by omega, by omega, by omega, by omega, by omega, ?_⟩
      clear r1 r2
      exact (.one (c := some (H.n + 1 + 1 + 1 + 1)) hwf (by (repeat first | exact Sub.refl _ | refine Sub.push hwf ?_ _ | refine Sub.set hwf ?_ (by first | exact Nat.le_refl _ | omega | (simp only [push_n, set_n, kill_n]; omega)) _ | refine Sub.kill hwf ?_ (by first | exact Nat.le_refl _ | omega | (simp only [push_n, set_n, kill_n]; omega)))) ⟨by omega, by simp [push_b, set_b, kill_b, rowK]; done⟩ (plain_map (fun _ => rfl) _) (by simp [frOk, AV.okR, AV.ok1, AC.okR, AV.ren, AV.ren1, AC.ren, AFrame.get, pl1_old, *]; first | done | rfl | omega) h)
  ·
    simp (config := {contextual := true, implicitDefEqProofs := false, maxSteps := 2000000}) [-Int.not_le, -Int.not_lt, argsF, spec_l1Put_l0, hat_ps.blk, hat_ps.esz, hat_ps.len, hat_ps.els, hne_ps, hne1_ps, hne2_ps.1, hne2_ps.2.1, hne2_ps.2.2.1, hne2_ps.2.2.2.1, hne2_ps.2.2.2.2.1, hne2_ps.2.2.2.2.2.1, hne2_ps.2.2.2.2.2.2.1, hne2_ps.2.2.2.2.2.2.2.1, hne2_ps.2.2.2.2.2.2.2.2.1, hne2_ps.2.2.2.2.2.2.2.2.2.1, hne2_ps.2.2.2.2.2.2.2.2.2.2]
    have hi' : (ps.takeWhile (ltI n)).length = ps.length := by simpa using hi
    have hh : hasP ps n = false := by rw [hasP_at hi']; simp
    rw [if_neg (by simp [hh])] at h
    have r := putI_at hi' hh
    simp only [List.take_length, List.drop_length] at r
    have r2 : ps.length + 1 = (putI ps n).length := by rw [r]; simp
    have r1 : (⟨3, 1, false, false, List.map eI.cells ps ++ [[AC.int IntKind.i64 n]]⟩ : ABlk) = rowK eI 3 (putI ps n) := by rw [r]; simp [rowK]
    refine ⟨by omega, by omega, by omega, by omega, by omega, by omega, ?_⟩
    rw [r1, r2]
    clear r r1 r2 hi hi'
    exact (.one (c := some (H.n + 1 + 1 + 1 + 1)) hwf (by (repeat first | exact Sub.refl _ | refine Sub.push hwf ?_ _ | refine Sub.set hwf ?_ (by first | exact Nat.le_refl _ | omega | (simp only [push_n, set_n, kill_n]; omega)) _ | refine Sub.kill hwf ?_ (by first | exact Nat.le_refl _ | omega | (simp only [push_n, set_n, kill_n]; omega)))) ⟨by omega, by simp [push_b, set_b, kill_b, rowK]; done⟩ (plain_map (fun _ => rfl) _) (by simp [frOk, AV.okR, AV.ok1, AC.okR, AV.ren, AV.ren1, AC.ren, AFrame.get, pl1_old, *]; first | done | rfl | omega) h)

end Go.Proofs.Ytafenginfojcmaa
