/- The latest leave. -/
import Derived.Test.YtjiffkjeijfilaaCvR
set_option maxRecDepth 8000
set_option linter.unusedSimpArgs false
set_option linter.unusedVariables false
namespace Go.Proofs.Ytjiffkjeijfilaa
open Go Go.RowKit

set_option maxHeartbeats 4000000

/-- a mail by which one comes to t at u at the latest -/
def hitL (ms : List Ma) (f t u : Int) (x : Ma) : Bool := decide (x.frm = f) && decide (tm ms x.to x.arrive t ≤ u)
def llGo (ms : List Ma) (f t u : Int) : List Ma → Int → Int
  | [], b => b
  | x :: r, b => llGo ms f t u r (if hitL ms f t u x = true then (if b < x.leave then x.leave else b) else b)
def llV (ms : List Ma) (f t u : Int) : Int := llGo ms f t u ms (-1)
def llRes (ms : List Ma) (f t u : Int) : Int × Bool := (if llV ms f t u < 0 then 0 else llV ms f t u, decide (0 ≤ llV ms f t u))
theorem llGo_none {ms : List Ma} {f t u : Int} : ∀ {l : List Ma} (b : Int), (∀ x ∈ l, hitL ms f t u x = false) → llGo ms f t u l b = b
  | [], _, _ => rfl
  | x :: r, b, h => by rw [llGo, h x (by simp), if_neg (by simp)]; exact llGo_none b fun y hy => h y (by simp [hy])
theorem llGo_app {ms : List Ma} {f t u : Int} : ∀ (l m : List Ma) (b : Int), llGo ms f t u (l ++ m) b = llGo ms f t u m (llGo ms f t u l b)
  | [], _, _ => rfl
  | x :: r, m, b => by rw [List.cons_append, llGo, llGo_app r m]; rfl
theorem llGo_le {ms : List Ma} {f t u v : Int} : ∀ (l : List Ma) (b : Int), b ≤ v → (∀ x ∈ l, x.leave ≤ v) → llGo ms f t u l b ≤ v
  | [], _, h, _ => h
  | x :: r, b, h, hl => by
    rw [llGo]
    refine llGo_le r _ ?_ fun y hy => hl y (by simp [hy])
    have := hl x (by simp)
    split
    · split <;> omega
    · exact h
theorem llV_last {ms : List Ma} {f t u : Int} (hv : areMa ms = true) {i : Nat} (hi : i < ms.length) (hh : hitL ms f t u ms[i] = true) (hn : ∀ (j : Nat) (hj : j < ms.length), i < j → hitL ms f t u ms[j] = false) : llV ms f t u = ms[i].leave := by
  have hp := List.pairwise_iff_getElem.1 (areMa_at hv).2
  have hb := isMa_b ((areMa_at hv).1 _ (List.getElem_mem hi))
  have e : ms = ms.take i ++ ms[i] :: ms.drop (i + 1) := by rw [← List.drop_eq_getElem_cons hi, List.take_append_drop]
  unfold llV
  have h1 : llGo ms f t u (ms.take i ++ ms[i] :: ms.drop (i + 1)) (-1) = ms[i].leave := by
    rw [llGo_app, llGo, hh, if_pos rfl]
    have h2 : llGo ms f t u (ms.take i) (-1) ≤ ms[i].leave := llGo_le _ _ (by omega) fun x hx => by
      obtain ⟨j, hj, rfl⟩ := List.getElem_of_mem hx
      rw [List.length_take] at hj
      rw [List.getElem_take]
      exact hp j i (by omega) hi (by omega)
    rw [llGo_none _ fun x hx => ?_]
    · split <;> omega
    · obtain ⟨j, hj, rfl⟩ := List.getElem_of_mem hx
      rw [List.length_drop] at hj
      rw [List.getElem_drop]
      exact hn _ (by omega) (by omega)
  rwa [← e] at h1
theorem llV_none {ms : List Ma} {f t u : Int} (h : ∀ x ∈ ms, hitL ms f t u x = false) : llV ms f t u = -1 := llGo_none _ h

def q_ll : Con := fun args H K => match args with
  | [ms_v, .c (.int .i64 f), .c (.int .i64 t), .c (.int .i64 u)] => eMa.rd H (fun ms => areMa ms = true ∧ (0 ≤ f ∧ f ≤ 9) ∧ (0 ≤ t ∧ t ≤ 9) ∧ (0 ≤ u ∧ u ≤ 9999) ∧ f ≠ t ∧ K (.tup [.c (.int .i64 ((llRes ms f t u).1)), .c (.bool ((llRes ms f t u).2))]) H) ms_v
  | _ => False
@[simp ↓] theorem q_ll_eq (ms_v : AV) (f : Int) (t : Int) (u : Int) (H : AHeap) (K : AV → AHeap → Prop) : q_ll [ms_v, .c (.int .i64 f), .c (.int .i64 t), .c (.int .i64 u)] H K = (eMa.rd H (fun ms => areMa ms = true ∧ (0 ≤ f ∧ f ≤ 9) ∧ (0 ≤ t ∧ t ≤ 9) ∧ (0 ≤ u ∧ u ≤ 9999) ∧ f ≠ t ∧ K (.tup [.c (.int .i64 ((llRes ms f t u).1)), .c (.bool ((llRes ms f t u).2))]) H) ms_v) := rfl

theorem impl_latestLeave_s : Sound Try.prog 86 q_ll := by
  intro args H K h
  unfold q_ll at h
  split at h
  rotate_left
  all_goals first | exact False.elim h | skip
  rename_i ms_v f t u
  have h1 := Enc.rd_at h
  clear h
  obtain ⟨b_ms, i_ms, k_ms, ms, rfl, hat_ms, h⟩ := h1
  have hE := soundE_cons impl_earliest_s (soundE_cons impl_inRange_s (soundE_nil (P := Try.prog)))
  refine acalls_fn impl_latestLeave_k hE ⟨by simp, fun hwf => ?_⟩
  have hb_ms : b_ms < H.n := (hwf b_ms k_ms hat_ms.blk).1
  have hne_ms : (b_ms = H.n) = False := eq_false (by omega)
  have hne1_ms : ∀ i, (b_ms = H.n + i) = False := fun i => eq_false (by omega)
  have hne2_ms : (b_ms = H.n + 1 + 1) = False ∧ (b_ms = H.n + 1 + 1 + 1) = False ∧ (b_ms = H.n + 1 + 1 + 1 + 1) = False ∧ (b_ms = H.n + 1 + 1 + 1 + 1 + 1) = False ∧ (b_ms = H.n + 1 + 1 + 1 + 1 + 1 + 1) = False ∧ (b_ms = H.n + 1 + 1 + 1 + 1 + 1 + 1 + 1) = False ∧ (b_ms = H.n + 1 + 1 + 1 + 1 + 1 + 1 + 1 + 1) = False ∧ (b_ms = H.n + 1 + 1 + 1 + 1 + 1 + 1 + 1 + 1 + 1) = False ∧ (b_ms = H.n + 1 + 1 + 1 + 1 + 1 + 1 + 1 + 1 + 1 + 1) = False ∧ (b_ms = H.n + 1 + 1 + 1 + 1 + 1 + 1 + 1 + 1 + 1 + 1 + 1) = False ∧ (b_ms = H.n + 1 + 1 + 1 + 1 + 1 + 1 + 1 + 1 + 1 + 1 + 1 + 1) = False := ⟨eq_false (by omega), eq_false (by omega), eq_false (by omega), eq_false (by omega), eq_false (by omega), eq_false (by omega), eq_false (by omega), eq_false (by omega), eq_false (by omega), eq_false (by omega), eq_false (by omega)⟩
  have hmx_ms : ms.length ≤ 9223372036854775807 := by have h1 := (hwf b_ms k_ms hat_ms.blk).2.2; have h2 := hat_ms.len; omega
  obtain ⟨hv, hf, ht, hu, hft, h⟩ := h
  have hml := areMa_len hv
  simp (config := {contextual := true, implicitDefEqProofs := false, maxSteps := 2000000}) [-Int.not_le, -Int.not_lt, argsF, impl_latestLeave_c, hat_ms.blk, hat_ms.esz, hat_ms.len, hat_ms.els, hne_ms, hne1_ms, hne2_ms.1, hne2_ms.2.1, hne2_ms.2.2.1, hne2_ms.2.2.2.1, hne2_ms.2.2.2.2.1, hne2_ms.2.2.2.2.2.1, hne2_ms.2.2.2.2.2.2.1, hne2_ms.2.2.2.2.2.2.2.1, hne2_ms.2.2.2.2.2.2.2.2.1, hne2_ms.2.2.2.2.2.2.2.2.2.1, hne2_ms.2.2.2.2.2.2.2.2.2.2]
  refine aloop_list ms (fun j (b : Int) => [(0, .c (.sl b_ms i_ms ms.length)), (1, .c (.int .i64 (f))), (2, .c (.int .i64 (t))), (3, .c (.int .i64 (u))), (10, .c (.int .i64 (b))), (13, .c (.sl b_ms i_ms ms.length)), (14, .c (.int .i64 ms.length)), (15, .c (.int .i64 ((j : Int))))]) (fun _ _ => H) (fun j l b => llGo ms f t u l b = llV ms f t u ∧ -1 ≤ b ∧ b ≤ 9999) hE _ (-1) ⟨rfl, by omega, by omega⟩ (.same hwf (by simp [frOk, AV.okR, AV.ok1, AC.okR, AV.ren, AV.ren1, AC.ren, AFrame.get, pl1_old, *]; first | done | rfl | omega)) (fun j b hlt hi => ?_) fun b hi => ?_
  · obtain ⟨hi, hb0, hb1⟩ := hi
    have hj1 := idx_lt hlt
    have w1 : IntKind.i64.wrap ((j : Int) + 1) = (j : Int) + 1 := wrap_id (by omega) (by omega)
    have er := hat_ms.get hlt
    rw [eMa_cells] at er
    have hx := (areMa_at hv).1 _ (List.getElem_mem hlt)
    rw [llGo] at hi
    generalize ms[j] = x at *
    have hxb := isMa_b hx
    have hx1 : 0 ≤ x.to ∧ x.to ≤ 9 := by omega
    have hx2 : 0 ≤ x.arrive ∧ x.arrive ≤ 9999 := by omega
    by_cases hxf : x.frm = f
    · have htl := tm_le hv hx1 hx2.2 ht
      have htg := tm_ge hv hx1 hx2.2 ht
      have hl : (scanT ms (startT x.to x.arrive)).length = 10 := by rw [scanT_len, startT_len]
      have hgt : (encL (scanT ms (startT x.to x.arrive)))[t.toNat]? = some (encT (tm ms x.to x.arrive t)) := encL_at hl ht.1 ht.2
      have hgt2 : ∀ hlx : t.toNat < (encL (scanT ms (startT x.to x.arrive))).length, (encL (scanT ms (startT x.to x.arrive)))[t.toNat]'hlx = encT (tm ms x.to x.arrive t) := fun hlx => by rw [List.getElem?_eq_getElem hlx] at hgt; exact Option.some.inj hgt
      have t10 : t < 10 := by omega
      by_cases htu : tm ms x.to x.arrive t ≤ u
      · have hr : inR (encT (tm ms x.to x.arrive t)) 0 u = true := by unfold encT inR; rw [if_neg (by omega)]; exact decide_eq_true ⟨by omega, htu⟩
        have hh : hitL ms f t u x = true := by unfold hitL; rw [decide_eq_true hxf, decide_eq_true htu]; rfl
        rw [hh, if_pos rfl] at hi
        simp (config := {contextual := true, implicitDefEqProofs := false, maxSteps := 2000000}) [-Int.not_le, -Int.not_lt, argsF, impl_latestLeave_l0, hat_ms.blk, hat_ms.esz, hat_ms.len, hat_ms.els, hne_ms, hne1_ms, hne2_ms.1, hne2_ms.2.1, hne2_ms.2.2.1, hne2_ms.2.2.2.1, hne2_ms.2.2.2.2.1, hne2_ms.2.2.2.2.2.1, hne2_ms.2.2.2.2.2.2.1, hne2_ms.2.2.2.2.2.2.2.1, hne2_ms.2.2.2.2.2.2.2.2.1, hne2_ms.2.2.2.2.2.2.2.2.2.1, hne2_ms.2.2.2.2.2.2.2.2.2.2, hj1, w1, hlt, er, hxf, hv, hx1, hx2, ht, t10, hl, hgt, hgt2, hr, rowK]
        refine ⟨_, ⟨hi, ?_⟩, .drop hwf (by (repeat first | exact Sub.refl _ | refine Sub.push hwf ?_ _ | refine Sub.set hwf ?_ (by first | exact Nat.le_refl _ | omega | (simp only [push_n, set_n, kill_n]; omega)) _ | refine Sub.kill hwf ?_ (by first | exact Nat.le_refl _ | omega | (simp only [push_n, set_n, kill_n]; omega)))) (by simp [frOk, AV.okR, AV.ok1, AC.okR, AV.ren, AV.ren1, AC.ren, AFrame.get, pl1_old, *]; first | done | rfl | omega)⟩
        split <;> omega
      · have hr : inR (encT (tm ms x.to x.arrive t)) 0 u = false := by
          unfold encT inR
          split
          · exact decide_eq_false (by omega)
          · exact decide_eq_false (by omega)
        have hh : hitL ms f t u x = false := by unfold hitL; rw [decide_eq_false htu, Bool.and_false]
        rw [hh, if_neg (by simp)] at hi
        simp (config := {contextual := true, implicitDefEqProofs := false, maxSteps := 2000000}) [-Int.not_le, -Int.not_lt, argsF, impl_latestLeave_l0, hat_ms.blk, hat_ms.esz, hat_ms.len, hat_ms.els, hne_ms, hne1_ms, hne2_ms.1, hne2_ms.2.1, hne2_ms.2.2.1, hne2_ms.2.2.2.1, hne2_ms.2.2.2.2.1, hne2_ms.2.2.2.2.2.1, hne2_ms.2.2.2.2.2.2.1, hne2_ms.2.2.2.2.2.2.2.1, hne2_ms.2.2.2.2.2.2.2.2.1, hne2_ms.2.2.2.2.2.2.2.2.2.1, hne2_ms.2.2.2.2.2.2.2.2.2.2, hj1, w1, hlt, er, hxf, hv, hx1, hx2, ht, t10, hl, hgt, hgt2, hr, rowK]
        exact ⟨_, ⟨hi, hb0, hb1⟩, .drop hwf (by (repeat first | exact Sub.refl _ | refine Sub.push hwf ?_ _ | refine Sub.set hwf ?_ (by first | exact Nat.le_refl _ | omega | (simp only [push_n, set_n, kill_n]; omega)) _ | refine Sub.kill hwf ?_ (by first | exact Nat.le_refl _ | omega | (simp only [push_n, set_n, kill_n]; omega)))) (by simp [frOk, AV.okR, AV.ok1, AC.okR, AV.ren, AV.ren1, AC.ren, AFrame.get, pl1_old, *]; first | done | rfl | omega)⟩
    · have hh : hitL ms f t u x = false := by unfold hitL; rw [decide_eq_false hxf, Bool.false_and]
      rw [hh, if_neg (by simp)] at hi
      simp (config := {contextual := true, implicitDefEqProofs := false, maxSteps := 2000000}) [-Int.not_le, -Int.not_lt, argsF, impl_latestLeave_l0, hat_ms.blk, hat_ms.esz, hat_ms.len, hat_ms.els, hne_ms, hne1_ms, hne2_ms.1, hne2_ms.2.1, hne2_ms.2.2.1, hne2_ms.2.2.2.1, hne2_ms.2.2.2.2.1, hne2_ms.2.2.2.2.2.1, hne2_ms.2.2.2.2.2.2.1, hne2_ms.2.2.2.2.2.2.2.1, hne2_ms.2.2.2.2.2.2.2.2.1, hne2_ms.2.2.2.2.2.2.2.2.2.1, hne2_ms.2.2.2.2.2.2.2.2.2.2, hj1, w1, hlt, er, hxf]
      exact ⟨_, ⟨hi, hb0, hb1⟩, .drop hwf (by (repeat first | exact Sub.refl _ | refine Sub.push hwf ?_ _ | refine Sub.set hwf ?_ (by first | exact Nat.le_refl _ | omega | (simp only [push_n, set_n, kill_n]; omega)) _ | refine Sub.kill hwf ?_ (by first | exact Nat.le_refl _ | omega | (simp only [push_n, set_n, kill_n]; omega)))) (by simp [frOk, AV.okR, AV.ok1, AC.okR, AV.ren, AV.ren1, AC.ren, AFrame.get, pl1_old, *]; first | done | rfl | omega)⟩
  · obtain ⟨hi, hb0, hb1⟩ := hi
    rw [llGo] at hi
    unfold llRes at h
    rw [← hi] at h
    simp (config := {contextual := true, implicitDefEqProofs := false, maxSteps := 2000000}) [-Int.not_le, -Int.not_lt, argsF, impl_latestLeave_l0, hat_ms.blk, hat_ms.esz, hat_ms.len, hat_ms.els, hne_ms, hne1_ms, hne2_ms.1, hne2_ms.2.1, hne2_ms.2.2.1, hne2_ms.2.2.2.1, hne2_ms.2.2.2.2.1, hne2_ms.2.2.2.2.2.1, hne2_ms.2.2.2.2.2.2.1, hne2_ms.2.2.2.2.2.2.2.1, hne2_ms.2.2.2.2.2.2.2.2.1, hne2_ms.2.2.2.2.2.2.2.2.2.1, hne2_ms.2.2.2.2.2.2.2.2.2.2]
    (refine Out.plain hwf ?_ rfl ?_; (repeat first | exact Sub.refl _ | refine Sub.push hwf ?_ _ | refine Sub.set hwf ?_ (by first | exact Nat.le_refl _ | omega | (simp only [push_n, set_n, kill_n]; omega)) _ | refine Sub.kill hwf ?_ (by first | exact Nat.le_refl _ | omega | (simp only [push_n, set_n, kill_n]; omega)))); exact h

theorem spec_LatestLeave_s : Sound Try.prog 87 q_ll := by
  intro args H K h
  unfold q_ll at h
  split at h
  rotate_left
  all_goals first | exact False.elim h | skip
  rename_i ms_v f t u
  have h1 := Enc.rd_at h
  clear h
  obtain ⟨b_ms, i_ms, k_ms, ms, rfl, hat_ms, h⟩ := h1
  have hE := soundE_cons spec_l9Asked_s (soundE_cons spec_l9Office_s (soundE_cons spec_l9Times_s (soundE_nil (P := Try.prog))))
  refine acalls_fn spec_LatestLeave_k hE ⟨by simp, fun hwf => ?_⟩
  have hb_ms : b_ms < H.n := (hwf b_ms k_ms hat_ms.blk).1
  have hne_ms : (b_ms = H.n) = False := eq_false (by omega)
  have hne1_ms : ∀ i, (b_ms = H.n + i) = False := fun i => eq_false (by omega)
  have hne2_ms : (b_ms = H.n + 1 + 1) = False ∧ (b_ms = H.n + 1 + 1 + 1) = False ∧ (b_ms = H.n + 1 + 1 + 1 + 1) = False ∧ (b_ms = H.n + 1 + 1 + 1 + 1 + 1) = False ∧ (b_ms = H.n + 1 + 1 + 1 + 1 + 1 + 1) = False ∧ (b_ms = H.n + 1 + 1 + 1 + 1 + 1 + 1 + 1) = False ∧ (b_ms = H.n + 1 + 1 + 1 + 1 + 1 + 1 + 1 + 1) = False ∧ (b_ms = H.n + 1 + 1 + 1 + 1 + 1 + 1 + 1 + 1 + 1) = False ∧ (b_ms = H.n + 1 + 1 + 1 + 1 + 1 + 1 + 1 + 1 + 1 + 1) = False ∧ (b_ms = H.n + 1 + 1 + 1 + 1 + 1 + 1 + 1 + 1 + 1 + 1 + 1) = False ∧ (b_ms = H.n + 1 + 1 + 1 + 1 + 1 + 1 + 1 + 1 + 1 + 1 + 1 + 1) = False := ⟨eq_false (by omega), eq_false (by omega), eq_false (by omega), eq_false (by omega), eq_false (by omega), eq_false (by omega), eq_false (by omega), eq_false (by omega), eq_false (by omega), eq_false (by omega), eq_false (by omega)⟩
  have hmx_ms : ms.length ≤ 9223372036854775807 := by have h1 := (hwf b_ms k_ms hat_ms.blk).2.2; have h2 := hat_ms.len; omega
  obtain ⟨hv, hf, ht, hu, hft, h⟩ := h
  have hml := areMa_len hv
  have i1 : inR f 0 9 = true := by unfold inR; exact decide_eq_true hf
  have i2 : inR u 0 9999 = true := by unfold inR; exact decide_eq_true hu
  have i3 : inR t 0 9 = true := by unfold inR; exact decide_eq_true ht
  have w0 : IntKind.i64.wrap ((ms.length : Int) - 1) = (ms.length : Int) - 1 := wrap_id (by omega) (by omega)
  simp (config := {contextual := true, implicitDefEqProofs := false, maxSteps := 2000000}) [-Int.not_le, -Int.not_lt, argsF, spec_LatestLeave_c, hat_ms.blk, hat_ms.esz, hat_ms.len, hat_ms.els, hne_ms, hne1_ms, hne2_ms.1, hne2_ms.2.1, hne2_ms.2.2.1, hne2_ms.2.2.2.1, hne2_ms.2.2.2.2.1, hne2_ms.2.2.2.2.2.1, hne2_ms.2.2.2.2.2.2.1, hne2_ms.2.2.2.2.2.2.2.1, hne2_ms.2.2.2.2.2.2.2.2.1, hne2_ms.2.2.2.2.2.2.2.2.2.1, hne2_ms.2.2.2.2.2.2.2.2.2.2, hv, i1, i2, i3, hft, w0]
  refine aloop_heap (X := Nat) (fun k => [(0, .c (.sl b_ms i_ms ms.length)), (1, .c (.int .i64 (f))), (2, .c (.int .i64 (t))), (3, .c (.int .i64 (u))), (10, .c (.int .i64 ((k : Int) - 1)))]) (fun _ => H) (fun k => k ≤ ms.length ∧ ∀ (j : Nat) (hj : j < ms.length), k ≤ j → hitL ms f t u ms[j] = false) (fun k => k) hE _ ms.length ⟨Nat.le_refl _, fun j hj hk => by omega⟩ (fun hw0 => .same hwf (by simp [frOk, AV.okR, AV.ok1, AC.okR, AV.ren, AV.ren1, AC.ren, AFrame.get, pl1_old, *]; first | done | rfl | omega)) (fun k hk hwx => ?_)
  obtain ⟨hk, hno⟩ := hk
  rcases Nat.eq_zero_or_pos k with rfl | hk0
  · have hV := llV_none (ms := ms) (f := f) (t := t) (u := u) fun x hx => by
      obtain ⟨j, hj, rfl⟩ := List.getElem_of_mem hx
      exact hno j hj (Nat.zero_le _)
    unfold llRes at h
    rw [hV] at h
    have g0 : ¬ (1 : Int) ≤ ((0 : Nat) : Int) := by omega
    simp (config := {contextual := true, implicitDefEqProofs := false, maxSteps := 2000000}) [-Int.not_le, -Int.not_lt, argsF, spec_LatestLeave_l0, hat_ms.blk, hat_ms.esz, hat_ms.len, hat_ms.els, hne_ms, hne1_ms, hne2_ms.1, hne2_ms.2.1, hne2_ms.2.2.1, hne2_ms.2.2.2.1, hne2_ms.2.2.2.2.1, hne2_ms.2.2.2.2.2.1, hne2_ms.2.2.2.2.2.2.1, hne2_ms.2.2.2.2.2.2.2.1, hne2_ms.2.2.2.2.2.2.2.2.1, hne2_ms.2.2.2.2.2.2.2.2.2.1, hne2_ms.2.2.2.2.2.2.2.2.2.2, g0]
    (refine Out.plain hwf ?_ rfl ?_; (repeat first | exact Sub.refl _ | refine Sub.push hwf ?_ _ | refine Sub.set hwf ?_ (by first | exact Nat.le_refl _ | omega | (simp only [push_n, set_n, kill_n]; omega)) _ | refine Sub.kill hwf ?_ (by first | exact Nat.le_refl _ | omega | (simp only [push_n, set_n, kill_n]; omega)))); exact h
  · obtain ⟨i, rfl⟩ : ∃ i, k = i + 1 := ⟨k - 1, by omega⟩
    have hlt : i < ms.length := by omega
    have hj1 := idx_lt hlt
    have er := hat_ms.get hlt
    rw [eMa_cells] at er
    have hx := (areMa_at hv).1 _ (List.getElem_mem hlt)
    have w1 : IntKind.i64.wrap ((i : Int) - 1) = (i : Int) - 1 := wrap_id (by omega) (by omega)
    have w2 : ((i + 1 : Nat) : Int) - 1 = (i : Int) := by omega
    have hxb := isMa_b hx
    have hx1 : 0 ≤ ms[i].to ∧ ms[i].to ≤ 9 := by omega
    have hx2 : 0 ≤ ms[i].arrive ∧ ms[i].arrive ≤ 9999 := by omega
    have hnext : ∀ (hn : hitL ms f t u ms[i] = false), ∀ (j : Nat) (hj : j < ms.length), i ≤ j → hitL ms f t u ms[j] = false := fun hn j hj hij => by
      rcases Nat.eq_or_lt_of_le hij with rfl | h2
      · exact hn
      · exact hno j hj h2
    have hlast := fun hh => llV_last (f := f) (t := t) (u := u) hv hlt hh fun j hj hij => hno j hj hij
    rw [w2]
    have hi0 : (0 : Int) ≤ (i : Int) := by omega
    clear hno
    by_cases hxf : ms[i].frm = f
    rotate_left
    · have hh : hitL ms f t u ms[i] = false := by unfold hitL; rw [decide_eq_false hxf, Bool.false_and]
      have hnx := hnext hh
      clear hnext hlast
      simp (config := {contextual := true, implicitDefEqProofs := false, maxSteps := 2000000}) [-Int.not_le, -Int.not_lt, argsF, spec_LatestLeave_l0, hat_ms.blk, hat_ms.esz, hat_ms.len, hat_ms.els, hne_ms, hne1_ms, hne2_ms.1, hne2_ms.2.1, hne2_ms.2.2.1, hne2_ms.2.2.2.1, hne2_ms.2.2.2.2.1, hne2_ms.2.2.2.2.2.1, hne2_ms.2.2.2.2.2.2.1, hne2_ms.2.2.2.2.2.2.2.1, hne2_ms.2.2.2.2.2.2.2.2.1, hne2_ms.2.2.2.2.2.2.2.2.2.1, hne2_ms.2.2.2.2.2.2.2.2.2.2, hj1, w1, hlt, er, hxf, hi0]
      exact ⟨fun hw => ⟨i, ⟨by omega, hnx⟩, by omega, .drop hwf (by (repeat first | exact Sub.refl _ | refine Sub.push hwf ?_ _ | refine Sub.set hwf ?_ (by first | exact Nat.le_refl _ | omega | (simp only [push_n, set_n, kill_n]; omega)) _ | refine Sub.kill hwf ?_ (by first | exact Nat.le_refl _ | omega | (simp only [push_n, set_n, kill_n]; omega)))) (by simp [frOk, AV.okR, AV.ok1, AC.okR, AV.ren, AV.ren1, AC.ren, AFrame.get, pl1_old, *]; first | done | rfl | omega)⟩⟩
    have htg := tm_ge hv hx1 hx2.2 ht
    by_cases ha : ms[i].arrive ≤ u
    rotate_left
    · have hh : hitL ms f t u ms[i] = false := by unfold hitL; rw [decide_eq_false (show ¬ tm ms ms[i].to ms[i].arrive t ≤ u by omega), Bool.and_false]
      have hnx := hnext hh
      clear hnext hlast
      simp (config := {contextual := true, implicitDefEqProofs := false, maxSteps := 2000000}) [-Int.not_le, -Int.not_lt, argsF, spec_LatestLeave_l0, hat_ms.blk, hat_ms.esz, hat_ms.len, hat_ms.els, hne_ms, hne1_ms, hne2_ms.1, hne2_ms.2.1, hne2_ms.2.2.1, hne2_ms.2.2.2.1, hne2_ms.2.2.2.2.1, hne2_ms.2.2.2.2.2.1, hne2_ms.2.2.2.2.2.2.1, hne2_ms.2.2.2.2.2.2.2.1, hne2_ms.2.2.2.2.2.2.2.2.1, hne2_ms.2.2.2.2.2.2.2.2.2.1, hne2_ms.2.2.2.2.2.2.2.2.2.2, hj1, w1, hlt, er, hxf, ha, hi0]
      exact ⟨fun hw => ⟨i, ⟨by omega, hnx⟩, by omega, .drop hwf (by (repeat first | exact Sub.refl _ | refine Sub.push hwf ?_ _ | refine Sub.set hwf ?_ (by first | exact Nat.le_refl _ | omega | (simp only [push_n, set_n, kill_n]; omega)) _ | refine Sub.kill hwf ?_ (by first | exact Nat.le_refl _ | omega | (simp only [push_n, set_n, kill_n]; omega)))) (by simp [frOk, AV.okR, AV.ok1, AC.okR, AV.ren, AV.ren1, AC.ren, AFrame.get, pl1_old, *]; first | done | rfl | omega)⟩⟩
    have hl : (scanT ms (startT ms[i].to ms[i].arrive)).length = 10 := by rw [scanT_len, startT_len]
    have hgt : (scanT ms (startT ms[i].to ms[i].arrive))[t.toNat]? = some (tm ms ms[i].to ms[i].arrive t) := gN_at hl ht.1 ht.2
    have hgt2 : ∀ hlx : t.toNat < (scanT ms (startT ms[i].to ms[i].arrive)).length, (scanT ms (startT ms[i].to ms[i].arrive))[t.toNat]'hlx = tm ms ms[i].to ms[i].arrive t := fun hlx => by rw [List.getElem?_eq_getElem hlx] at hgt; exact Option.some.inj hgt
    have t10 : t < 10 := by omega
    by_cases htu : tm ms ms[i].to ms[i].arrive t ≤ u
    · have hh : hitL ms f t u ms[i] = true := by unfold hitL; rw [decide_eq_true hxf, decide_eq_true htu]; rfl
      have hV := hlast hh
      clear hnext hlast
      have e : llRes ms f t u = (ms[i].leave, true) := by
        unfold llRes
        rw [hV, if_neg (by omega), decide_eq_true (by omega)]
      rw [e] at h
      simp (config := {contextual := true, implicitDefEqProofs := false, maxSteps := 2000000}) [-Int.not_le, -Int.not_lt, argsF, spec_LatestLeave_l0, hat_ms.blk, hat_ms.esz, hat_ms.len, hat_ms.els, hne_ms, hne1_ms, hne2_ms.1, hne2_ms.2.1, hne2_ms.2.2.1, hne2_ms.2.2.2.1, hne2_ms.2.2.2.2.1, hne2_ms.2.2.2.2.2.1, hne2_ms.2.2.2.2.2.2.1, hne2_ms.2.2.2.2.2.2.2.1, hne2_ms.2.2.2.2.2.2.2.2.1, hne2_ms.2.2.2.2.2.2.2.2.2.1, hne2_ms.2.2.2.2.2.2.2.2.2.2, hj1, w1, hlt, er, hxf, ha, hi0, hv, hx1, hx2, ht, t10, hl, hgt, hgt2, htu, rowK]
      (refine Out.plain hwf ?_ rfl ?_; (repeat first | exact Sub.refl _ | refine Sub.push hwf ?_ _ | refine Sub.set hwf ?_ (by first | exact Nat.le_refl _ | omega | (simp only [push_n, set_n, kill_n]; omega)) _ | refine Sub.kill hwf ?_ (by first | exact Nat.le_refl _ | omega | (simp only [push_n, set_n, kill_n]; omega)))); exact h
    · have hh : hitL ms f t u ms[i] = false := by unfold hitL; rw [decide_eq_false htu, Bool.and_false]
      have hnx := hnext hh
      clear hnext hlast
      simp (config := {contextual := true, implicitDefEqProofs := false, maxSteps := 2000000}) [-Int.not_le, -Int.not_lt, argsF, spec_LatestLeave_l0, hat_ms.blk, hat_ms.esz, hat_ms.len, hat_ms.els, hne_ms, hne1_ms, hne2_ms.1, hne2_ms.2.1, hne2_ms.2.2.1, hne2_ms.2.2.2.1, hne2_ms.2.2.2.2.1, hne2_ms.2.2.2.2.2.1, hne2_ms.2.2.2.2.2.2.1, hne2_ms.2.2.2.2.2.2.2.1, hne2_ms.2.2.2.2.2.2.2.2.1, hne2_ms.2.2.2.2.2.2.2.2.2.1, hne2_ms.2.2.2.2.2.2.2.2.2.2, hj1, w1, hlt, er, hxf, ha, hi0, hv, hx1, hx2, ht, t10, hl, hgt, hgt2, htu, rowK]
      exact ⟨fun hw => ⟨i, ⟨by omega, hnx⟩, by omega, .drop hwf (by (repeat first | exact Sub.refl _ | refine Sub.push hwf ?_ _ | refine Sub.set hwf ?_ (by first | exact Nat.le_refl _ | omega | (simp only [push_n, set_n, kill_n]; omega)) _ | refine Sub.kill hwf ?_ (by first | exact Nat.le_refl _ | omega | (simp only [push_n, set_n, kill_n]; omega)))) (by simp [frOk, AV.okR, AV.ok1, AC.okR, AV.ren, AV.ren1, AC.ren, AFrame.get, pl1_old, *]; first | done | rfl | omega)⟩⟩

def smRes (ms : List Ma) (x : Cv) : Int × Bool := if areMa ms = true then if isCv x = true then if (llRes ms x.frm x.to x.arrive).2 = true then (if (llRes ms x.frm x.to x.arrive).1 < x.leave then (0, false) else ((llRes ms x.frm x.to x.arrive).1 - x.leave, true)) else (0, false) else (0, false) else (0, false)
theorem llGo_b {ms : List Ma} {f t u : Int} : ∀ (l : List Ma) (b : Int), -1 ≤ b → (∀ x ∈ l, isMa x = true) → -1 ≤ llGo ms f t u l b
  | [], _, h, _ => h
  | x :: r, b, h, hl => by
    rw [llGo]
    refine llGo_b r _ ?_ fun y hy => hl y (by simp [hy])
    have := isMa_b (hl x (by simp))
    split
    · split <;> omega
    · exact h
theorem llV_b {ms : List Ma} (hv : areMa ms = true) (f t u : Int) : -1 ≤ llV ms f t u ∧ llV ms f t u ≤ 9999 :=
  ⟨llGo_b _ _ (by omega) (areMa_at hv).1, llGo_le _ _ (by omega) fun x hx => by have := isMa_b ((areMa_at hv).1 x hx); omega⟩

def q_sm : Con := fun args H K => match args with
  | [ms_v, .agg x_e] => eMa.rd H (fun ms => onv (eCv.dec x_e) fun x => K (.tup [.c (.int .i64 ((smRes ms x).1)), .c (.bool ((smRes ms x).2))]) H) ms_v
  | _ => False
@[simp ↓] theorem q_sm_eq (ms_v : AV) (x_e : List AC) (H : AHeap) (K : AV → AHeap → Prop) : q_sm [ms_v, .agg x_e] H K = (eMa.rd H (fun ms => onv (eCv.dec x_e) fun x => K (.tup [.c (.int .i64 ((smRes ms x).1)), .c (.bool ((smRes ms x).2))]) H) ms_v) := rfl

theorem impl_SpareMinutes_s : Sound Try.prog 18 q_sm := by
  intro args H K h
  unfold q_sm at h
  split at h
  rotate_left
  all_goals first | exact False.elim h | skip
  rename_i ms_v x_e
  have h1 := Enc.rd_at h
  clear h
  obtain ⟨b_ms, i_ms, k_ms, ms, rfl, hat_ms, h⟩ := h1
  have h1 := onv_iff.1 h
  clear h
  obtain ⟨x, hd_x, h⟩ := h1
  obtain rfl := eCv.cd _ _ hd_x
  clear hd_x
  have hE := soundE_cons impl_isTimetable_s (soundE_cons impl_isCover_s (soundE_cons impl_latestLeave_s (soundE_nil (P := Try.prog))))
  refine acalls_fn impl_SpareMinutes_k hE ⟨by simp, fun hwf => ?_⟩
  have hb_ms : b_ms < H.n := (hwf b_ms k_ms hat_ms.blk).1
  have hne_ms : (b_ms = H.n) = False := eq_false (by omega)
  have hne1_ms : ∀ i, (b_ms = H.n + i) = False := fun i => eq_false (by omega)
  have hne2_ms : (b_ms = H.n + 1 + 1) = False ∧ (b_ms = H.n + 1 + 1 + 1) = False ∧ (b_ms = H.n + 1 + 1 + 1 + 1) = False ∧ (b_ms = H.n + 1 + 1 + 1 + 1 + 1) = False ∧ (b_ms = H.n + 1 + 1 + 1 + 1 + 1 + 1) = False ∧ (b_ms = H.n + 1 + 1 + 1 + 1 + 1 + 1 + 1) = False ∧ (b_ms = H.n + 1 + 1 + 1 + 1 + 1 + 1 + 1 + 1) = False ∧ (b_ms = H.n + 1 + 1 + 1 + 1 + 1 + 1 + 1 + 1 + 1) = False ∧ (b_ms = H.n + 1 + 1 + 1 + 1 + 1 + 1 + 1 + 1 + 1 + 1) = False ∧ (b_ms = H.n + 1 + 1 + 1 + 1 + 1 + 1 + 1 + 1 + 1 + 1 + 1) = False ∧ (b_ms = H.n + 1 + 1 + 1 + 1 + 1 + 1 + 1 + 1 + 1 + 1 + 1 + 1) = False := ⟨eq_false (by omega), eq_false (by omega), eq_false (by omega), eq_false (by omega), eq_false (by omega), eq_false (by omega), eq_false (by omega), eq_false (by omega), eq_false (by omega), eq_false (by omega), eq_false (by omega)⟩
  have hmx_ms : ms.length ≤ 9223372036854775807 := by have h1 := (hwf b_ms k_ms hat_ms.blk).2.2; have h2 := hat_ms.len; omega
  unfold smRes at h
  by_cases hm : areMa ms = true
  rotate_left
  · rw [if_neg hm] at h
    simp (config := {contextual := true, implicitDefEqProofs := false, maxSteps := 2000000}) [-Int.not_le, -Int.not_lt, argsF, impl_SpareMinutes_c, hat_ms.blk, hat_ms.esz, hat_ms.len, hat_ms.els, hne_ms, hne1_ms, hne2_ms.1, hne2_ms.2.1, hne2_ms.2.2.1, hne2_ms.2.2.2.1, hne2_ms.2.2.2.2.1, hne2_ms.2.2.2.2.2.1, hne2_ms.2.2.2.2.2.2.1, hne2_ms.2.2.2.2.2.2.2.1, hne2_ms.2.2.2.2.2.2.2.2.1, hne2_ms.2.2.2.2.2.2.2.2.2.1, hne2_ms.2.2.2.2.2.2.2.2.2.2, hm]
    (refine Out.plain hwf ?_ rfl ?_; (repeat first | exact Sub.refl _ | refine Sub.push hwf ?_ _ | refine Sub.set hwf ?_ (by first | exact Nat.le_refl _ | omega | (simp only [push_n, set_n, kill_n]; omega)) _ | refine Sub.kill hwf ?_ (by first | exact Nat.le_refl _ | omega | (simp only [push_n, set_n, kill_n]; omega)))); exact h
  by_cases hc : isCv x = true
  rotate_left
  · rw [if_pos hm, if_neg hc] at h
    simp (config := {contextual := true, implicitDefEqProofs := false, maxSteps := 2000000}) [-Int.not_le, -Int.not_lt, argsF, impl_SpareMinutes_c, hat_ms.blk, hat_ms.esz, hat_ms.len, hat_ms.els, hne_ms, hne1_ms, hne2_ms.1, hne2_ms.2.1, hne2_ms.2.2.1, hne2_ms.2.2.2.1, hne2_ms.2.2.2.2.1, hne2_ms.2.2.2.2.2.1, hne2_ms.2.2.2.2.2.2.1, hne2_ms.2.2.2.2.2.2.2.1, hne2_ms.2.2.2.2.2.2.2.2.1, hne2_ms.2.2.2.2.2.2.2.2.2.1, hne2_ms.2.2.2.2.2.2.2.2.2.2, hm, hc]
    (refine Out.plain hwf ?_ rfl ?_; (repeat first | exact Sub.refl _ | refine Sub.push hwf ?_ _ | refine Sub.set hwf ?_ (by first | exact Nat.le_refl _ | omega | (simp only [push_n, set_n, kill_n]; omega)) _ | refine Sub.kill hwf ?_ (by first | exact Nat.le_refl _ | omega | (simp only [push_n, set_n, kill_n]; omega)))); exact h
  rw [if_pos hm, if_pos hc] at h
  have hb := isCv_b hc
  obtain ⟨_, _, _, _, _, _, _, _, b9, b10, f0, f1, t0, t1, hft, l0, l1, a1⟩ := hb
  have g1 : 0 ≤ x.frm ∧ x.frm ≤ 9 := ⟨f0, f1⟩
  have g2 : 0 ≤ x.to ∧ x.to ≤ 9 := ⟨t0, t1⟩
  have g3 : 0 ≤ x.arrive ∧ x.arrive ≤ 9999 := by omega
  have hlb := llV_b hm x.frm x.to x.arrive
  have hl1 : -9999 ≤ (llRes ms x.frm x.to x.arrive).1 - x.leave ∧ (llRes ms x.frm x.to x.arrive).1 - x.leave ≤ 9999 := by
    unfold llRes
    simp only
    split <;> omega
  have wl : IntKind.i64.wrap ((llRes ms x.frm x.to x.arrive).1 - x.leave) = (llRes ms x.frm x.to x.arrive).1 - x.leave := wrap_id (by omega) (by omega)
  clear hlb hl1
  by_cases hk : (llRes ms x.frm x.to x.arrive).2 = true
  rotate_left
  · have hk' : (llRes ms x.frm x.to x.arrive).2 = false := by simpa using hk
    rw [if_neg hk] at h
    simp (config := {contextual := true, implicitDefEqProofs := false, maxSteps := 2000000}) [-Int.not_le, -Int.not_lt, argsF, impl_SpareMinutes_c, hat_ms.blk, hat_ms.esz, hat_ms.len, hat_ms.els, hne_ms, hne1_ms, hne2_ms.1, hne2_ms.2.1, hne2_ms.2.2.1, hne2_ms.2.2.2.1, hne2_ms.2.2.2.2.1, hne2_ms.2.2.2.2.2.1, hne2_ms.2.2.2.2.2.2.1, hne2_ms.2.2.2.2.2.2.2.1, hne2_ms.2.2.2.2.2.2.2.2.1, hne2_ms.2.2.2.2.2.2.2.2.2.1, hne2_ms.2.2.2.2.2.2.2.2.2.2, hm, hc, g1, g2, g3, hft, hk']
    (refine Out.plain hwf ?_ rfl ?_; (repeat first | exact Sub.refl _ | refine Sub.push hwf ?_ _ | refine Sub.set hwf ?_ (by first | exact Nat.le_refl _ | omega | (simp only [push_n, set_n, kill_n]; omega)) _ | refine Sub.kill hwf ?_ (by first | exact Nat.le_refl _ | omega | (simp only [push_n, set_n, kill_n]; omega)))); exact h
  rw [if_pos hk] at h
  by_cases hl : (llRes ms x.frm x.to x.arrive).1 < x.leave
  · rw [if_pos hl] at h
    simp (config := {contextual := true, implicitDefEqProofs := false, maxSteps := 2000000}) [-Int.not_le, -Int.not_lt, argsF, impl_SpareMinutes_c, hat_ms.blk, hat_ms.esz, hat_ms.len, hat_ms.els, hne_ms, hne1_ms, hne2_ms.1, hne2_ms.2.1, hne2_ms.2.2.1, hne2_ms.2.2.2.1, hne2_ms.2.2.2.2.1, hne2_ms.2.2.2.2.2.1, hne2_ms.2.2.2.2.2.2.1, hne2_ms.2.2.2.2.2.2.2.1, hne2_ms.2.2.2.2.2.2.2.2.1, hne2_ms.2.2.2.2.2.2.2.2.2.1, hne2_ms.2.2.2.2.2.2.2.2.2.2, hm, hc, g1, g2, g3, hft, hk, hl]
    (refine Out.plain hwf ?_ rfl ?_; (repeat first | exact Sub.refl _ | refine Sub.push hwf ?_ _ | refine Sub.set hwf ?_ (by first | exact Nat.le_refl _ | omega | (simp only [push_n, set_n, kill_n]; omega)) _ | refine Sub.kill hwf ?_ (by first | exact Nat.le_refl _ | omega | (simp only [push_n, set_n, kill_n]; omega)))); exact h
  · rw [if_neg hl] at h
    simp (config := {contextual := true, implicitDefEqProofs := false, maxSteps := 2000000}) [-Int.not_le, -Int.not_lt, argsF, impl_SpareMinutes_c, hat_ms.blk, hat_ms.esz, hat_ms.len, hat_ms.els, hne_ms, hne1_ms, hne2_ms.1, hne2_ms.2.1, hne2_ms.2.2.1, hne2_ms.2.2.2.1, hne2_ms.2.2.2.2.1, hne2_ms.2.2.2.2.2.1, hne2_ms.2.2.2.2.2.2.1, hne2_ms.2.2.2.2.2.2.2.1, hne2_ms.2.2.2.2.2.2.2.2.1, hne2_ms.2.2.2.2.2.2.2.2.2.1, hne2_ms.2.2.2.2.2.2.2.2.2.2, hm, hc, g1, g2, g3, hft, hk, hl, wl]
    (refine Out.plain hwf ?_ rfl ?_; (repeat first | exact Sub.refl _ | refine Sub.push hwf ?_ _ | refine Sub.set hwf ?_ (by first | exact Nat.le_refl _ | omega | (simp only [push_n, set_n, kill_n]; omega)) _ | refine Sub.kill hwf ?_ (by first | exact Nat.le_refl _ | omega | (simp only [push_n, set_n, kill_n]; omega)))); exact h

theorem spec_SpareMinutes_s : Sound Try.prog 19 q_sm := by
  intro args H K h
  unfold q_sm at h
  split at h
  rotate_left
  all_goals first | exact False.elim h | skip
  rename_i ms_v x_e
  have h1 := Enc.rd_at h
  clear h
  obtain ⟨b_ms, i_ms, k_ms, ms, rfl, hat_ms, h⟩ := h1
  have h1 := onv_iff.1 h
  clear h
  obtain ⟨x, hd_x, h⟩ := h1
  obtain rfl := eCv.cd _ _ hd_x
  clear hd_x
  have hE := soundE_cons spec_l9Good_s (soundE_cons spec_l10One_s (soundE_cons spec_LatestLeave_s (soundE_nil (P := Try.prog))))
  refine acalls_fn spec_SpareMinutes_k hE ⟨by simp, fun hwf => ?_⟩
  have hb_ms : b_ms < H.n := (hwf b_ms k_ms hat_ms.blk).1
  have hne_ms : (b_ms = H.n) = False := eq_false (by omega)
  have hne1_ms : ∀ i, (b_ms = H.n + i) = False := fun i => eq_false (by omega)
  have hne2_ms : (b_ms = H.n + 1 + 1) = False ∧ (b_ms = H.n + 1 + 1 + 1) = False ∧ (b_ms = H.n + 1 + 1 + 1 + 1) = False ∧ (b_ms = H.n + 1 + 1 + 1 + 1 + 1) = False ∧ (b_ms = H.n + 1 + 1 + 1 + 1 + 1 + 1) = False ∧ (b_ms = H.n + 1 + 1 + 1 + 1 + 1 + 1 + 1) = False ∧ (b_ms = H.n + 1 + 1 + 1 + 1 + 1 + 1 + 1 + 1) = False ∧ (b_ms = H.n + 1 + 1 + 1 + 1 + 1 + 1 + 1 + 1 + 1) = False ∧ (b_ms = H.n + 1 + 1 + 1 + 1 + 1 + 1 + 1 + 1 + 1 + 1) = False ∧ (b_ms = H.n + 1 + 1 + 1 + 1 + 1 + 1 + 1 + 1 + 1 + 1 + 1) = False ∧ (b_ms = H.n + 1 + 1 + 1 + 1 + 1 + 1 + 1 + 1 + 1 + 1 + 1 + 1) = False := ⟨eq_false (by omega), eq_false (by omega), eq_false (by omega), eq_false (by omega), eq_false (by omega), eq_false (by omega), eq_false (by omega), eq_false (by omega), eq_false (by omega), eq_false (by omega), eq_false (by omega)⟩
  have hmx_ms : ms.length ≤ 9223372036854775807 := by have h1 := (hwf b_ms k_ms hat_ms.blk).2.2; have h2 := hat_ms.len; omega
  unfold smRes at h
  by_cases hm : areMa ms = true
  rotate_left
  · rw [if_neg hm] at h
    simp (config := {contextual := true, implicitDefEqProofs := false, maxSteps := 2000000}) [-Int.not_le, -Int.not_lt, argsF, spec_SpareMinutes_c, hat_ms.blk, hat_ms.esz, hat_ms.len, hat_ms.els, hne_ms, hne1_ms, hne2_ms.1, hne2_ms.2.1, hne2_ms.2.2.1, hne2_ms.2.2.2.1, hne2_ms.2.2.2.2.1, hne2_ms.2.2.2.2.2.1, hne2_ms.2.2.2.2.2.2.1, hne2_ms.2.2.2.2.2.2.2.1, hne2_ms.2.2.2.2.2.2.2.2.1, hne2_ms.2.2.2.2.2.2.2.2.2.1, hne2_ms.2.2.2.2.2.2.2.2.2.2, hm]
    (refine Out.plain hwf ?_ rfl ?_; (repeat first | exact Sub.refl _ | refine Sub.push hwf ?_ _ | refine Sub.set hwf ?_ (by first | exact Nat.le_refl _ | omega | (simp only [push_n, set_n, kill_n]; omega)) _ | refine Sub.kill hwf ?_ (by first | exact Nat.le_refl _ | omega | (simp only [push_n, set_n, kill_n]; omega)))); exact h
  by_cases hc : isCv x = true
  rotate_left
  · rw [if_pos hm, if_neg hc] at h
    simp (config := {contextual := true, implicitDefEqProofs := false, maxSteps := 2000000}) [-Int.not_le, -Int.not_lt, argsF, spec_SpareMinutes_c, hat_ms.blk, hat_ms.esz, hat_ms.len, hat_ms.els, hne_ms, hne1_ms, hne2_ms.1, hne2_ms.2.1, hne2_ms.2.2.1, hne2_ms.2.2.2.1, hne2_ms.2.2.2.2.1, hne2_ms.2.2.2.2.2.1, hne2_ms.2.2.2.2.2.2.1, hne2_ms.2.2.2.2.2.2.2.1, hne2_ms.2.2.2.2.2.2.2.2.1, hne2_ms.2.2.2.2.2.2.2.2.2.1, hne2_ms.2.2.2.2.2.2.2.2.2.2, hm, hc]
    (refine Out.plain hwf ?_ rfl ?_; (repeat first | exact Sub.refl _ | refine Sub.push hwf ?_ _ | refine Sub.set hwf ?_ (by first | exact Nat.le_refl _ | omega | (simp only [push_n, set_n, kill_n]; omega)) _ | refine Sub.kill hwf ?_ (by first | exact Nat.le_refl _ | omega | (simp only [push_n, set_n, kill_n]; omega)))); exact h
  rw [if_pos hm, if_pos hc] at h
  have hb := isCv_b hc
  obtain ⟨_, _, _, _, _, _, _, _, b9, b10, f0, f1, t0, t1, hft, l0, l1, a1⟩ := hb
  have g1 : 0 ≤ x.frm ∧ x.frm ≤ 9 := ⟨f0, f1⟩
  have g2 : 0 ≤ x.to ∧ x.to ≤ 9 := ⟨t0, t1⟩
  have g3 : 0 ≤ x.arrive ∧ x.arrive ≤ 9999 := by omega
  have hlb := llV_b hm x.frm x.to x.arrive
  have hl1 : -9999 ≤ (llRes ms x.frm x.to x.arrive).1 - x.leave ∧ (llRes ms x.frm x.to x.arrive).1 - x.leave ≤ 9999 := by
    unfold llRes
    simp only
    split <;> omega
  have wl : IntKind.i64.wrap ((llRes ms x.frm x.to x.arrive).1 - x.leave) = (llRes ms x.frm x.to x.arrive).1 - x.leave := wrap_id (by omega) (by omega)
  clear hlb hl1
  by_cases hk : (llRes ms x.frm x.to x.arrive).2 = true
  rotate_left
  · have hk' : (llRes ms x.frm x.to x.arrive).2 = false := by simpa using hk
    rw [if_neg hk] at h
    simp (config := {contextual := true, implicitDefEqProofs := false, maxSteps := 2000000}) [-Int.not_le, -Int.not_lt, argsF, spec_SpareMinutes_c, hat_ms.blk, hat_ms.esz, hat_ms.len, hat_ms.els, hne_ms, hne1_ms, hne2_ms.1, hne2_ms.2.1, hne2_ms.2.2.1, hne2_ms.2.2.2.1, hne2_ms.2.2.2.2.1, hne2_ms.2.2.2.2.2.1, hne2_ms.2.2.2.2.2.2.1, hne2_ms.2.2.2.2.2.2.2.1, hne2_ms.2.2.2.2.2.2.2.2.1, hne2_ms.2.2.2.2.2.2.2.2.2.1, hne2_ms.2.2.2.2.2.2.2.2.2.2, hm, hc, g1, g2, g3, hft, hk']
    (refine Out.plain hwf ?_ rfl ?_; (repeat first | exact Sub.refl _ | refine Sub.push hwf ?_ _ | refine Sub.set hwf ?_ (by first | exact Nat.le_refl _ | omega | (simp only [push_n, set_n, kill_n]; omega)) _ | refine Sub.kill hwf ?_ (by first | exact Nat.le_refl _ | omega | (simp only [push_n, set_n, kill_n]; omega)))); exact h
  rw [if_pos hk] at h
  by_cases hl : (llRes ms x.frm x.to x.arrive).1 < x.leave
  · rw [if_pos hl] at h
    simp (config := {contextual := true, implicitDefEqProofs := false, maxSteps := 2000000}) [-Int.not_le, -Int.not_lt, argsF, spec_SpareMinutes_c, hat_ms.blk, hat_ms.esz, hat_ms.len, hat_ms.els, hne_ms, hne1_ms, hne2_ms.1, hne2_ms.2.1, hne2_ms.2.2.1, hne2_ms.2.2.2.1, hne2_ms.2.2.2.2.1, hne2_ms.2.2.2.2.2.1, hne2_ms.2.2.2.2.2.2.1, hne2_ms.2.2.2.2.2.2.2.1, hne2_ms.2.2.2.2.2.2.2.2.1, hne2_ms.2.2.2.2.2.2.2.2.2.1, hne2_ms.2.2.2.2.2.2.2.2.2.2, hm, hc, g1, g2, g3, hft, hk, hl]
    (refine Out.plain hwf ?_ rfl ?_; (repeat first | exact Sub.refl _ | refine Sub.push hwf ?_ _ | refine Sub.set hwf ?_ (by first | exact Nat.le_refl _ | omega | (simp only [push_n, set_n, kill_n]; omega)) _ | refine Sub.kill hwf ?_ (by first | exact Nat.le_refl _ | omega | (simp only [push_n, set_n, kill_n]; omega)))); exact h
  · rw [if_neg hl] at h
    simp (config := {contextual := true, implicitDefEqProofs := false, maxSteps := 2000000}) [-Int.not_le, -Int.not_lt, argsF, spec_SpareMinutes_c, hat_ms.blk, hat_ms.esz, hat_ms.len, hat_ms.els, hne_ms, hne1_ms, hne2_ms.1, hne2_ms.2.1, hne2_ms.2.2.1, hne2_ms.2.2.2.1, hne2_ms.2.2.2.2.1, hne2_ms.2.2.2.2.2.1, hne2_ms.2.2.2.2.2.2.1, hne2_ms.2.2.2.2.2.2.2.1, hne2_ms.2.2.2.2.2.2.2.2.1, hne2_ms.2.2.2.2.2.2.2.2.2.1, hne2_ms.2.2.2.2.2.2.2.2.2.2, hm, hc, g1, g2, g3, hft, hk, hl, wl]
    (refine Out.plain hwf ?_ rfl ?_; (repeat first | exact Sub.refl _ | refine Sub.push hwf ?_ _ | refine Sub.set hwf ?_ (by first | exact Nat.le_refl _ | omega | (simp only [push_n, set_n, kill_n]; omega)) _ | refine Sub.kill hwf ?_ (by first | exact Nat.le_refl _ | omega | (simp only [push_n, set_n, kill_n]; omega)))); exact h

def ftRes (n : Int) : List UInt8 × Bool := if inR n 0 5 = true then (([[116, 114, 117, 101], [122, 111, 110, 101], [115, 104, 111, 114, 116], [111, 118, 101, 114], [114, 111, 117, 116, 101], [101, 97, 114, 108, 121]] : List (List UInt8)).getD n.toNat [], true) else ([], false)

def q_ftx : Con := fun args H K => match args with
  | [.c (.int .i64 n)] => K (.tup [.c (.str ((ftRes n).1)), .c (.bool ((ftRes n).2))]) H
  | _ => False
@[simp ↓] theorem q_ftx_eq (n : Int) (H : AHeap) (K : AV → AHeap → Prop) : q_ftx [.c (.int .i64 n)] H K = (K (.tup [.c (.str ((ftRes n).1)), .c (.bool ((ftRes n).2))]) H) := rfl

theorem impl_FaultText_s : Sound Try.prog 24 q_ftx := by
  intro args H K h
  unfold q_ftx at h
  split at h
  rotate_left
  all_goals first | exact False.elim h | skip
  rename_i n
  have hE := soundE_cons impl_inRange_s (soundE_nil (P := Try.prog))
  refine acalls_fn impl_FaultText_k hE ⟨by simp, fun hwf => ?_⟩
  unfold ftRes at h
  by_cases hr : inR n 0 5 = true
  rotate_left
  · rw [if_neg hr] at h
    simp (config := {contextual := true, implicitDefEqProofs := false, maxSteps := 2000000}) [-Int.not_le, -Int.not_lt, argsF, impl_FaultText_c, hr]
    (refine Out.plain hwf ?_ rfl ?_; (repeat first | exact Sub.refl _ | refine Sub.push hwf ?_ _ | refine Sub.set hwf ?_ (by first | exact Nat.le_refl _ | omega | (simp only [push_n, set_n, kill_n]; omega)) _ | refine Sub.kill hwf ?_ (by first | exact Nat.le_refl _ | omega | (simp only [push_n, set_n, kill_n]; omega)))); exact h
  rw [if_pos hr] at h
  have hr2 : 0 ≤ n ∧ n ≤ 5 := by simpa [inR] using hr
  rcases (show n = 0 ∨ n = 1 ∨ n = 2 ∨ n = 3 ∨ n = 4 ∨ n = 5 by omega) with rfl | rfl | rfl | rfl | rfl | rfl
  all_goals
    simp (config := {contextual := true, implicitDefEqProofs := false, maxSteps := 2000000}) [-Int.not_le, -Int.not_lt, argsF, impl_FaultText_c, hr]
    (refine Out.plain hwf ?_ rfl ?_; (repeat first | exact Sub.refl _ | refine Sub.push hwf ?_ _ | refine Sub.set hwf ?_ (by first | exact Nat.le_refl _ | omega | (simp only [push_n, set_n, kill_n]; omega)) _ | refine Sub.kill hwf ?_ (by first | exact Nat.le_refl _ | omega | (simp only [push_n, set_n, kill_n]; omega)))); exact h

theorem spec_FaultText_s : Sound Try.prog 25 q_ftx := by
  intro args H K h
  unfold q_ftx at h
  split at h
  rotate_left
  all_goals first | exact False.elim h | skip
  rename_i n
  have hE := soundE_cons spec_l1In_s (soundE_nil (P := Try.prog))
  refine acalls_fn spec_FaultText_k hE ⟨by simp, fun hwf => ?_⟩
  unfold ftRes at h
  by_cases hr : inR n 0 5 = true
  rotate_left
  · rw [if_neg hr] at h
    simp (config := {contextual := true, implicitDefEqProofs := false, maxSteps := 2000000}) [-Int.not_le, -Int.not_lt, argsF, spec_FaultText_c, hr]
    (refine Out.plain hwf ?_ rfl ?_; (repeat first | exact Sub.refl _ | refine Sub.push hwf ?_ _ | refine Sub.set hwf ?_ (by first | exact Nat.le_refl _ | omega | (simp only [push_n, set_n, kill_n]; omega)) _ | refine Sub.kill hwf ?_ (by first | exact Nat.le_refl _ | omega | (simp only [push_n, set_n, kill_n]; omega)))); exact h
  rw [if_pos hr] at h
  have hr2 : 0 ≤ n ∧ n ≤ 5 := by simpa [inR] using hr
  rcases (show n = 0 ∨ n = 1 ∨ n = 2 ∨ n = 3 ∨ n = 4 ∨ n = 5 by omega) with rfl | rfl | rfl | rfl | rfl | rfl
  all_goals
    simp (config := {contextual := true, implicitDefEqProofs := false, maxSteps := 2000000}) [-Int.not_le, -Int.not_lt, argsF, spec_FaultText_c, hr]
    (refine Out.plain hwf ?_ rfl ?_; (repeat first | exact Sub.refl _ | refine Sub.push hwf ?_ _ | refine Sub.set hwf ?_ (by first | exact Nat.le_refl _ | omega | (simp only [push_n, set_n, kill_n]; omega)) _ | refine Sub.kill hwf ?_ (by first | exact Nat.le_refl _ | omega | (simp only [push_n, set_n, kill_n]; omega)))); exact h

end Go.Proofs.Ytjiffkjeijfilaa
