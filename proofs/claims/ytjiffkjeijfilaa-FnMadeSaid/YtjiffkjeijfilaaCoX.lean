/- The cover that a change makes: impl's weights. -/
import Derived.Test.YtjiffkjeijfilaaCoM
set_option maxRecDepth 8000
set_option linter.unusedSimpArgs false
set_option linter.unusedVariables false
namespace Go.Proofs.Ytjiffkjeijfilaa
open Go Go.RowKit

set_option maxHeartbeats 4000000
theorem fs_cons {f : Int → Option Cv} (a : Int) (l : List Int) : (a :: l).findSome? f = (f a).or (l.findSome? f) := by
  simp only [List.findSome?_cons]; cases f a <;> rfl
theorem pairM_some (y : Cv) (o : Option Cv) : pairM ((some y).or o) = (y, true) := rfl
/-- a box with a cover in it -/
def boxC (x : Cv) : ABlk := ⟨27, 9, false, false, [eCv.cells x]⟩
def exB (ps : List Ra) (x : Cv) (ch : Int) : Cv × Bool := pairM ((wsI ps x ch x.zone).findSome? (hitM ps x (chB ch 8) x.day x.zone))
theorem raWz_cons (z : Int) (r : Ra) (l : List Ra) : raWz z (r :: l) = (if r.zone = z ∧ r.grams < 2000 then [r.grams + 1] else []) ++ raWz z l := rfl
theorem and_c1 {ch : Int} (h0 : 0 ≤ ch) (h1 : ch ≤ 15) : (IntKind.i64.wrap (((ch % 2 ^ IntKind.i64.bits).toNat &&& 1 % 2 ^ IntKind.i64.bits : Nat) : Int) = 0) = (chB ch 1 = false) := by
  have hc : ch = 0 ∨ ch = 1 ∨ ch = 2 ∨ ch = 3 ∨ ch = 4 ∨ ch = 5 ∨ ch = 6 ∨ ch = 7 ∨ ch = 8 ∨ ch = 9 ∨ ch = 10 ∨ ch = 11 ∨ ch = 12 ∨ ch = 13 ∨ ch = 14 ∨ ch = 15 := by omega
  rcases hc with rfl | rfl | rfl | rfl | rfl | rfl | rfl | rfl | rfl | rfl | rfl | rfl | rfl | rfl | rfl | rfl <;> decide
theorem and_c2 {ch : Int} (h0 : 0 ≤ ch) (h1 : ch ≤ 15) : (IntKind.i64.wrap (((ch % 2 ^ IntKind.i64.bits).toNat &&& 2 % 2 ^ IntKind.i64.bits : Nat) : Int) = 0) = (chB ch 2 = false) := by
  have hc : ch = 0 ∨ ch = 1 ∨ ch = 2 ∨ ch = 3 ∨ ch = 4 ∨ ch = 5 ∨ ch = 6 ∨ ch = 7 ∨ ch = 8 ∨ ch = 9 ∨ ch = 10 ∨ ch = 11 ∨ ch = 12 ∨ ch = 13 ∨ ch = 14 ∨ ch = 15 := by omega
  rcases hc with rfl | rfl | rfl | rfl | rfl | rfl | rfl | rfl | rfl | rfl | rfl | rfl | rfl | rfl | rfl | rfl <;> decide
theorem and_c4 {ch : Int} (h0 : 0 ≤ ch) (h1 : ch ≤ 15) : (IntKind.i64.wrap (((ch % 2 ^ IntKind.i64.bits).toNat &&& 4 % 2 ^ IntKind.i64.bits : Nat) : Int) = 0) = (chB ch 4 = false) := by
  have hc : ch = 0 ∨ ch = 1 ∨ ch = 2 ∨ ch = 3 ∨ ch = 4 ∨ ch = 5 ∨ ch = 6 ∨ ch = 7 ∨ ch = 8 ∨ ch = 9 ∨ ch = 10 ∨ ch = 11 ∨ ch = 12 ∨ ch = 13 ∨ ch = 14 ∨ ch = 15 := by omega
  rcases hc with rfl | rfl | rfl | rfl | rfl | rfl | rfl | rfl | rfl | rfl | rfl | rfl | rfl | rfl | rfl | rfl <;> decide
theorem and_c8 {ch : Int} (h0 : 0 ≤ ch) (h1 : ch ≤ 15) : (IntKind.i64.wrap (((ch % 2 ^ IntKind.i64.bits).toNat &&& 8 % 2 ^ IntKind.i64.bits : Nat) : Int) = 0) = (chB ch 8 = false) := by
  have hc : ch = 0 ∨ ch = 1 ∨ ch = 2 ∨ ch = 3 ∨ ch = 4 ∨ ch = 5 ∨ ch = 6 ∨ ch = 7 ∨ ch = 8 ∨ ch = 9 ∨ ch = 10 ∨ ch = 11 ∨ ch = 12 ∨ ch = 13 ∨ ch = 14 ∨ ch = 15 := by omega
  rcases hc with rfl | rfl | rfl | rfl | rfl | rfl | rfl | rfl | rfl | rfl | rfl | rfl | rfl | rfl | rfl | rfl <;> decide

def q_has : Con := fun args H K => match args with
  | [.c (.int .i64 ch), .c (.int .i64 one)] => one ≠ 0 ∧ K (.c (.bool (chB ch one))) H
  | _ => False
@[simp ↓] theorem q_has_eq (ch : Int) (one : Int) (H : AHeap) (K : AV → AHeap → Prop) : q_has [.c (.int .i64 ch), .c (.int .i64 one)] H K = (one ≠ 0 ∧ K (.c (.bool (chB ch one))) H) := rfl

def q_exB : Con := fun args H K => match args with
  | [ps_v, .agg x_e, .c (.int .i64 ch)] => eRa.rd H (fun ps => onv (eCv.dec x_e) fun x => areRa ps = true ∧ 0 ≤ ch ∧ ch ≤ 15 ∧ K (.tup [.agg (eCv.cells (exB ps x ch).1), .c (.bool ((exB ps x ch).2))]) H) ps_v
  | _ => False
@[simp ↓] theorem q_exB_eq (ps_v : AV) (x_e : List AC) (ch : Int) (H : AHeap) (K : AV → AHeap → Prop) : q_exB [ps_v, .agg x_e, .c (.int .i64 ch)] H K = (eRa.rd H (fun ps => onv (eCv.dec x_e) fun x => areRa ps = true ∧ 0 ≤ ch ∧ ch ≤ 15 ∧ K (.tup [.agg (eCv.cells (exB ps x ch).1), .c (.bool ((exB ps x ch).2))]) H) ps_v) := rfl

theorem Weak.le {n0 n1 : Nat} {F F' : AFrame} {H H' : AHeap} (hn : n1 ≤ n0) (h : Weak n0 F' H' F H) : Weak n1 F' H' F H := by
  obtain ⟨ρ, h1, h2, h3⟩ := h.ex
  exact ⟨ρ, fun b hb => h1 b (Nat.lt_of_lt_of_le hb hn), Nat.le_trans hn h2, h3⟩
theorem push_setE {H : AHeap} {k k' : ABlk} {i : Nat} (h : i = H.n) : (H.push k).set i k' = H.push k' := by subst h; exact push_set' _ _ _
theorem boxC_wf {H : AHeap} (hwf : H.WF) (x : Cv) : (H.push (boxC x)).WF := WF.push hwf (by simp [boxC, AC.okR]) (by simp [boxC])
theorem row_wf {H : AHeap} (hwf : H.WF) (l : List Int) (h : l.length ≤ 1000000) : (H.push (rowK eI 3 l)).WF := WF.push hwf (plain_map (fun _ => rfl) _) (by simp; omega)
theorem exB_of {ps : List Ra} {x : Cv} {ch : Int} {W : List Int} (h : wsI ps x ch x.zone = W) : pairM (W.findSome? (hitM ps x (chB ch 8) x.day x.zone)) = exB ps x ch := by rw [exB, h]

theorem impl_explainBy_s : Sound Try.prog 147 q_exB := by
  intro args H K h
  unfold q_exB at h
  split at h
  rotate_left
  all_goals first | exact False.elim h | skip
  rename_i ps_v x_e ch
  have h1 := Enc.rd_at h
  clear h
  obtain ⟨b_ps, i_ps, k_ps, ps, rfl, hat_ps, h⟩ := h1
  have h1 := onv_iff.1 h
  clear h
  obtain ⟨x, hd_x, h⟩ := h1
  obtain rfl := eCv.cd _ _ hd_x
  clear hd_x
  have hE := soundE_cons impl_rateFor_s (soundE_cons slices_Sort___int_int_s (soundE_nil (P := Try.prog)))
  refine acalls_fn impl_explainBy_k hE ⟨by simp, fun hwf => ?_⟩
  have hb_ps : b_ps < H.n := (hwf b_ps k_ps hat_ps.blk).1
  have hne_ps : (b_ps = H.n) = False := eq_false (by omega)
  have hne1_ps : ∀ i, (b_ps = H.n + i) = False := fun i => eq_false (by omega)
  have hne2_ps : (b_ps = H.n + 1 + 1) = False ∧ (b_ps = H.n + 1 + 1 + 1) = False ∧ (b_ps = H.n + 1 + 1 + 1 + 1) = False ∧ (b_ps = H.n + 1 + 1 + 1 + 1 + 1) = False ∧ (b_ps = H.n + 1 + 1 + 1 + 1 + 1 + 1) = False ∧ (b_ps = H.n + 1 + 1 + 1 + 1 + 1 + 1 + 1) = False ∧ (b_ps = H.n + 1 + 1 + 1 + 1 + 1 + 1 + 1 + 1) = False ∧ (b_ps = H.n + 1 + 1 + 1 + 1 + 1 + 1 + 1 + 1 + 1) = False ∧ (b_ps = H.n + 1 + 1 + 1 + 1 + 1 + 1 + 1 + 1 + 1 + 1) = False ∧ (b_ps = H.n + 1 + 1 + 1 + 1 + 1 + 1 + 1 + 1 + 1 + 1 + 1) = False ∧ (b_ps = H.n + 1 + 1 + 1 + 1 + 1 + 1 + 1 + 1 + 1 + 1 + 1 + 1) = False := ⟨eq_false (by omega), eq_false (by omega), eq_false (by omega), eq_false (by omega), eq_false (by omega), eq_false (by omega), eq_false (by omega), eq_false (by omega), eq_false (by omega), eq_false (by omega), eq_false (by omega)⟩
  have hmx_ps : ps.length ≤ 9223372036854775807 := by have h1 := (hwf b_ps k_ps hat_ps.blk).2.2; have h2 := hat_ps.len; omega
  obtain ⟨hv, h0, h1, h⟩ := h
  have hpl := areRa_len hv
  have ha4 := and_c4 h0 h1
  have ha8 := and_c8 h0 h1
  have hwf2 : (((H.push (boxC x)).push (boxC zeroC))).WF := boxC_wf (boxC_wf hwf x) zeroC
  have hwf3 : ((((H.push (boxC x)).push (boxC zeroC)).push (rowK eI 3 [x.grams]))).WF := row_wf hwf2 [x.grams] (by simp)
  by_cases hb : chB ch 4 = true
  rotate_left
  · have hb' : chB ch 4 = false := by simpa using hb
    have hwfL := hwf3
    simp (config := {contextual := true, implicitDefEqProofs := false, maxSteps := 2000000}) [-Int.not_le, -Int.not_lt, argsF, impl_explainBy_c, hat_ps.blk, hat_ps.esz, hat_ps.len, hat_ps.els, hne_ps, hne1_ps, hne2_ps.1, hne2_ps.2.1, hne2_ps.2.2.1, hne2_ps.2.2.2.1, hne2_ps.2.2.2.2.1, hne2_ps.2.2.2.2.2.1, hne2_ps.2.2.2.2.2.2.1, hne2_ps.2.2.2.2.2.2.2.1, hne2_ps.2.2.2.2.2.2.2.2.1, hne2_ps.2.2.2.2.2.2.2.2.2.1, hne2_ps.2.2.2.2.2.2.2.2.2.2, ha4, hb']
    have hWl : ([x.grams]).length ≤ 1000000 := by simp
    refine aloop_list [x.grams] (fun j _ => [(0, .c (.sl b_ps i_ps ps.length)), (2, .c (.int .i64 (ch))), (4, .c (.ptr H.n 0 0)), (6, .c (.ptr (H.n + 1) 0 0)), (47, .c (.sl (H.n + 1 + 1) (0) (([x.grams]).length))), (48, .c (.int .i64 ((([x.grams]).length : Int)))), (49, .c (.int .i64 (j)))]) (fun j _ => (((H.push (boxC x)).push (boxC zeroC))).push (rowK eI 3 ([x.grams]))) (fun j l _ => pairM (l.findSome? (hitM ps x (chB ch 8) x.day x.zone)) = exB ps x ch) hE _ () (exB_of (by unfold wsI; rw [hb']; rfl)) (.since (by simp only [push_n]; omega) hwfL (.refl _) (by simp [frOk, AV.okR, AV.ok1, AC.okR, AV.ren, AV.ren1, AC.ren, AFrame.get, pl1_old, *]; first | done | rfl | omega)) (fun j _ hlt hi => ?_) fun _ hi => ?_
    · generalize hgen : [x.grams] = W at hlt hi hwfL hWl ⊢
      have hj1 := idx_lt hlt
      have w1 : IntKind.i64.wrap ((j : Int) + 1) = (j : Int) + 1 := wrap_id (by omega) (by omega)
      rw [fs_cons] at hi
      have hpos := forGo_pos x.day x.zone W[j] (areRa_at hv)
      have hhit : hitM ps x (chB ch 8) x.day x.zone W[j] = if 0 < (forGo x.day x.zone W[j] ps).1 ∧ (chB ch 8 = true ∨ (forGo x.day x.zone W[j] ps).1 = x.paid) then some (setCv x x.day x.zone W[j] (forGo x.day x.zone W[j] ps).1) else none := rfl
      rw [hhit] at hi
      generalize hfg : forGo x.day x.zone W[j] ps = fg at hi hpos hhit
      obtain ⟨c, ok⟩ := fg
      simp only at hi hpos
      cases ok with
      | false =>
        have hc0 : ¬ 0 < c := fun h0 => by have := hpos.2 h0; cases this
        rw [if_neg (fun h0 => hc0 h0.1)] at hi
        simp (config := {contextual := true, implicitDefEqProofs := false, maxSteps := 2000000}) [-Int.not_le, -Int.not_lt, argsF, impl_explainBy_l1, hat_ps.blk, hat_ps.esz, hat_ps.len, hat_ps.els, hne_ps, hne1_ps, hne2_ps.1, hne2_ps.2.1, hne2_ps.2.2.1, hne2_ps.2.2.2.1, hne2_ps.2.2.2.2.1, hne2_ps.2.2.2.2.2.1, hne2_ps.2.2.2.2.2.2.1, hne2_ps.2.2.2.2.2.2.2.1, hne2_ps.2.2.2.2.2.2.2.2.1, hne2_ps.2.2.2.2.2.2.2.2.2.1, hne2_ps.2.2.2.2.2.2.2.2.2.2, hj1, w1, hlt, hfg, boxC]
        exact ⟨(), hi, .since (by simp only [push_n]; omega) hwfL (.refl _) (by simp [frOk, AV.okR, AV.ok1, AC.okR, AV.ren, AV.ren1, AC.ren, AFrame.get, pl1_old, *]; first | done | rfl | omega)⟩
      | true =>
        have hc0 : 0 < c := hpos.1 rfl
        by_cases hp : c = x.paid
        · rw [if_pos ⟨hc0, .inr hp⟩] at hi
          have hi2 : exB ps x ch = (setCv x x.day x.zone W[j] c, true) := hi.symm
          rw [hi2] at h
          simp (config := {contextual := true, implicitDefEqProofs := false, maxSteps := 2000000}) [-Int.not_le, -Int.not_lt, argsF, impl_explainBy_l1, hat_ps.blk, hat_ps.esz, hat_ps.len, hat_ps.els, hne_ps, hne1_ps, hne2_ps.1, hne2_ps.2.1, hne2_ps.2.2.1, hne2_ps.2.2.2.1, hne2_ps.2.2.2.2.1, hne2_ps.2.2.2.2.2.1, hne2_ps.2.2.2.2.2.2.1, hne2_ps.2.2.2.2.2.2.2.1, hne2_ps.2.2.2.2.2.2.2.2.1, hne2_ps.2.2.2.2.2.2.2.2.2.1, hne2_ps.2.2.2.2.2.2.2.2.2.2, hj1, w1, hlt, hfg, hp, boxC]
          (refine Out.plain hwf ?_ rfl ?_; (repeat first | exact Sub.refl _ | refine Sub.push hwf ?_ _ | refine Sub.set hwf ?_ (by first | exact Nat.le_refl _ | omega | (simp only [push_n, set_n, kill_n]; omega)) _ | refine Sub.kill hwf ?_ (by first | exact Nat.le_refl _ | omega | (simp only [push_n, set_n, kill_n]; omega)))); simpa [setCv, hp] using h
        · by_cases h8 : chB ch 8 = true
          · rw [if_pos ⟨hc0, .inl h8⟩] at hi
            have hi2 : exB ps x ch = (setCv x x.day x.zone W[j] c, true) := hi.symm
            rw [hi2] at h
            simp (config := {contextual := true, implicitDefEqProofs := false, maxSteps := 2000000}) [-Int.not_le, -Int.not_lt, argsF, impl_explainBy_l1, hat_ps.blk, hat_ps.esz, hat_ps.len, hat_ps.els, hne_ps, hne1_ps, hne2_ps.1, hne2_ps.2.1, hne2_ps.2.2.1, hne2_ps.2.2.2.1, hne2_ps.2.2.2.2.1, hne2_ps.2.2.2.2.2.1, hne2_ps.2.2.2.2.2.2.1, hne2_ps.2.2.2.2.2.2.2.1, hne2_ps.2.2.2.2.2.2.2.2.1, hne2_ps.2.2.2.2.2.2.2.2.2.1, hne2_ps.2.2.2.2.2.2.2.2.2.2, hj1, w1, hlt, hfg, hp, ha8, h8, boxC]
            (refine Out.plain hwf ?_ rfl ?_; (repeat first | exact Sub.refl _ | refine Sub.push hwf ?_ _ | refine Sub.set hwf ?_ (by first | exact Nat.le_refl _ | omega | (simp only [push_n, set_n, kill_n]; omega)) _ | refine Sub.kill hwf ?_ (by first | exact Nat.le_refl _ | omega | (simp only [push_n, set_n, kill_n]; omega)))); simpa [setCv] using h
          · have h8' : chB ch 8 = false := by simpa using h8
            rw [if_neg (fun h0 => h0.2.elim h8 hp)] at hi
            simp (config := {contextual := true, implicitDefEqProofs := false, maxSteps := 2000000}) [-Int.not_le, -Int.not_lt, argsF, impl_explainBy_l1, hat_ps.blk, hat_ps.esz, hat_ps.len, hat_ps.els, hne_ps, hne1_ps, hne2_ps.1, hne2_ps.2.1, hne2_ps.2.2.1, hne2_ps.2.2.2.1, hne2_ps.2.2.2.2.1, hne2_ps.2.2.2.2.2.1, hne2_ps.2.2.2.2.2.2.1, hne2_ps.2.2.2.2.2.2.2.1, hne2_ps.2.2.2.2.2.2.2.2.1, hne2_ps.2.2.2.2.2.2.2.2.2.1, hne2_ps.2.2.2.2.2.2.2.2.2.2, hj1, w1, hlt, hfg, hp, ha8, h8', boxC]
            rw [h8'] at hi
            exact ⟨(), hi, .since (by simp only [push_n]; omega) hwfL (.refl _) (by simp [frOk, AV.okR, AV.ok1, AC.okR, AV.ren, AV.ren1, AC.ren, AFrame.get, pl1_old, *]; first | done | rfl | omega)⟩
    · rw [List.findSome?_nil] at hi
      rw [← hi] at h
      simp (config := {contextual := true, implicitDefEqProofs := false, maxSteps := 2000000}) [-Int.not_le, -Int.not_lt, argsF, impl_explainBy_l1, hat_ps.blk, hat_ps.esz, hat_ps.len, hat_ps.els, hne_ps, hne1_ps, hne2_ps.1, hne2_ps.2.1, hne2_ps.2.2.1, hne2_ps.2.2.2.1, hne2_ps.2.2.2.2.1, hne2_ps.2.2.2.2.2.1, hne2_ps.2.2.2.2.2.2.1, hne2_ps.2.2.2.2.2.2.2.1, hne2_ps.2.2.2.2.2.2.2.2.1, hne2_ps.2.2.2.2.2.2.2.2.2.1, hne2_ps.2.2.2.2.2.2.2.2.2.2, boxC]
      (refine Out.plain hwf ?_ rfl ?_; (repeat first | exact Sub.refl _ | refine Sub.push hwf ?_ _ | refine Sub.set hwf ?_ (by first | exact Nat.le_refl _ | omega | (simp only [push_n, set_n, kill_n]; omega)) _ | refine Sub.kill hwf ?_ (by first | exact Nat.le_refl _ | omega | (simp only [push_n, set_n, kill_n]; omega)))); simpa [pairM, zeroC] using h
  · have hb' : ¬ chB ch 4 = false := by simp [hb]
    simp (config := {contextual := true, implicitDefEqProofs := false, maxSteps := 2000000}) [-Int.not_le, -Int.not_lt, argsF, impl_explainBy_c, hat_ps.blk, hat_ps.esz, hat_ps.len, hat_ps.els, hne_ps, hne1_ps, hne2_ps.1, hne2_ps.2.1, hne2_ps.2.2.1, hne2_ps.2.2.2.1, hne2_ps.2.2.2.2.1, hne2_ps.2.2.2.2.2.1, hne2_ps.2.2.2.2.2.2.1, hne2_ps.2.2.2.2.2.2.2.1, hne2_ps.2.2.2.2.2.2.2.2.1, hne2_ps.2.2.2.2.2.2.2.2.2.1, hne2_ps.2.2.2.2.2.2.2.2.2.2, ha4, hb']
    have hzl := raWz_len x.zone ps
    refine aloop_list ps (fun j (out : List Int) => [(0, .c (.sl b_ps i_ps ps.length)), (2, .c (.int .i64 (ch))), (4, .c (.ptr H.n 0 0)), (6, .c (.ptr (H.n + 1) 0 0)), (8, .c (.sl (H.n + 1 + 1 + 1) (0) (out.length))), (22, .c (.sl b_ps i_ps ps.length)), (23, .c (.int .i64 ps.length)), (24, .c (.int .i64 (j)))]) (fun j (out : List Int) => ((((H.push (boxC x)).push (boxC zeroC)).push (rowK eI 3 [x.grams]))).push (rowK eI 3 out)) (fun j l out => out ++ raWz x.zone l = 1 :: raWz x.zone ps) hE _ [1] rfl (.since (by simp only [push_n]; omega) (row_wf hwf3 [1] (by simp)) (.refl _) (by simp [frOk, AV.okR, AV.ok1, AC.okR, AV.ren, AV.ren1, AC.ren, AFrame.get, pl1_old, *]; first | done | rfl | omega)) (fun j out hlt hi => ?_) fun out hi => ?_
    · have hj1 := idx_lt hlt
      have w1 : IntKind.i64.wrap ((j : Int) + 1) = (j : Int) + 1 := wrap_id (by omega) (by omega)
      have e1 := hat_ps.get hlt
      have hr := isRa_b (areRa_at hv _ (List.getElem_mem hlt))
      have w2 : IntKind.i64.wrap (ps[j].grams + 1) = ps[j].grams + 1 := wrap_id (by omega) (by omega)
      rw [raWz_cons] at hi
      have hll := congrArg List.length hi
      simp only [List.length_append, List.length_cons] at hll
      have hs1 : (out.length + 1) * 8 ≤ 140737488355328 := by omega
      have hs2 : out.length + 1 ≤ 140737488355328 := by omega
      have hs3 : out.length ≤ 140737488355327 := by omega
      have bf_p0 : b_ps < H.n + 1 + 1 + 1 + 1 := by omega
      have bf_q0 : ∀ c, pl1 ((((H.push (boxC x)).push (boxC zeroC)).push (rowK eI 3 [x.grams]))) c (b_ps) = some (b_ps) := fun c => pl1_old _ c (by simp only [push_n, set_n, kill_n]; omega)
      have bf_p1 : H.n < H.n + 1 + 1 + 1 + 1 := by omega
      have bf_q1 : ∀ c, pl1 ((((H.push (boxC x)).push (boxC zeroC)).push (rowK eI 3 [x.grams]))) c (H.n) = some (H.n) := fun c => pl1_old _ c (by simp only [push_n, set_n, kill_n]; omega)
      have bf_p2 : H.n + 1 < H.n + 1 + 1 + 1 + 1 := by omega
      have bf_q2 : ∀ c, pl1 ((((H.push (boxC x)).push (boxC zeroC)).push (rowK eI 3 [x.grams]))) c (H.n + 1) = some (H.n + 1) := fun c => pl1_old _ c (by simp only [push_n, set_n, kill_n]; omega)
      have bf_p3 : H.n + 1 + 1 < H.n + 1 + 1 + 1 + 1 := by omega
      have bf_q3 : ∀ c, pl1 ((((H.push (boxC x)).push (boxC zeroC)).push (rowK eI 3 [x.grams]))) c (H.n + 1 + 1) = some (H.n + 1 + 1) := fun c => pl1_old _ c (by simp only [push_n, set_n, kill_n]; omega)
      have bf_z : ∀ c, pl1 ((((H.push (boxC x)).push (boxC zeroC)).push (rowK eI 3 [x.grams]))) c (H.n + 1 + 1 + 1) = c := fun c => pl1_new ((((H.push (boxC x)).push (boxC zeroC)).push (rowK eI 3 [x.grams]))) c
      have bf_y : H.n + 1 + 1 + 1 < H.n + 1 + 1 + 1 + 1 := by omega
      by_cases hz : ps[j].zone = x.zone
      · by_cases hg : ps[j].grams < 2000
        · rw [if_pos ⟨hz, hg⟩] at hi
          simp (config := {contextual := true, implicitDefEqProofs := false, maxSteps := 2000000}) [-Int.not_le, -Int.not_lt, argsF, impl_explainBy_l0, hat_ps.blk, hat_ps.esz, hat_ps.len, hat_ps.els, hne_ps, hne1_ps, hne2_ps.1, hne2_ps.2.1, hne2_ps.2.2.1, hne2_ps.2.2.2.1, hne2_ps.2.2.2.2.1, hne2_ps.2.2.2.2.2.1, hne2_ps.2.2.2.2.2.2.1, hne2_ps.2.2.2.2.2.2.2.1, hne2_ps.2.2.2.2.2.2.2.2.1, hne2_ps.2.2.2.2.2.2.2.2.2.1, hne2_ps.2.2.2.2.2.2.2.2.2.2, e1, hj1, w1, w2, hlt, hz, hg, boxC, hs1, hs2, hs3]
          have hwf := hwf3
          exact ⟨out ++ [ps[j].grams + 1], by rw [List.append_assoc]; exact hi, .le (by simp only [push_n]; omega) (.one (H := (((H.push (boxC x)).push (boxC zeroC)).push (rowK eI 3 [x.grams]))) (c := some (H.n + 1 + 1 + 1 + 1 + 1 + 1)) hwf (by (repeat first | exact Sub.refl _ | refine Sub.push hwf ?_ _ | refine Sub.set hwf ?_ (by first | exact Nat.le_refl _ | omega | (simp only [push_n, set_n, kill_n]; omega)) _ | refine Sub.kill hwf ?_ (by first | exact Nat.le_refl _ | omega | (simp only [push_n, set_n, kill_n]; omega)))) ⟨by simp only [push_n]; omega, by simp [push_b, set_b, kill_b, rowK]; done⟩ (plain_map (fun _ => rfl) _) (by simp [frOk, AV.okR, AV.ok1, AC.okR, AV.ren, AV.ren1, AC.ren, AFrame.get, pl1_old, *]; first | done | rfl | omega))⟩
        · rw [if_neg (fun hx => hg hx.2), List.nil_append] at hi
          simp (config := {contextual := true, implicitDefEqProofs := false, maxSteps := 2000000}) [-Int.not_le, -Int.not_lt, argsF, impl_explainBy_l0, hat_ps.blk, hat_ps.esz, hat_ps.len, hat_ps.els, hne_ps, hne1_ps, hne2_ps.1, hne2_ps.2.1, hne2_ps.2.2.1, hne2_ps.2.2.2.1, hne2_ps.2.2.2.2.1, hne2_ps.2.2.2.2.2.1, hne2_ps.2.2.2.2.2.2.1, hne2_ps.2.2.2.2.2.2.2.1, hne2_ps.2.2.2.2.2.2.2.2.1, hne2_ps.2.2.2.2.2.2.2.2.2.1, hne2_ps.2.2.2.2.2.2.2.2.2.2, e1, hj1, w1, w2, hlt, hz, hg, boxC]
          have hwf := hwf3
          exact ⟨out, hi, .le (by simp only [push_n]; omega) (.one (H := (((H.push (boxC x)).push (boxC zeroC)).push (rowK eI 3 [x.grams]))) (c := some (H.n + 1 + 1 + 1)) hwf (by (repeat first | exact Sub.refl _ | refine Sub.push hwf ?_ _ | refine Sub.set hwf ?_ (by first | exact Nat.le_refl _ | omega | (simp only [push_n, set_n, kill_n]; omega)) _ | refine Sub.kill hwf ?_ (by first | exact Nat.le_refl _ | omega | (simp only [push_n, set_n, kill_n]; omega)))) ⟨by simp only [push_n]; omega, by simp [push_b, set_b, kill_b, rowK]; done⟩ (plain_map (fun _ => rfl) _) (by simp [frOk, AV.okR, AV.ok1, AC.okR, AV.ren, AV.ren1, AC.ren, AFrame.get, pl1_old, *]; first | done | rfl | omega))⟩
      · rw [if_neg (fun hx => hz hx.1), List.nil_append] at hi
        simp (config := {contextual := true, implicitDefEqProofs := false, maxSteps := 2000000}) [-Int.not_le, -Int.not_lt, argsF, impl_explainBy_l0, hat_ps.blk, hat_ps.esz, hat_ps.len, hat_ps.els, hne_ps, hne1_ps, hne2_ps.1, hne2_ps.2.1, hne2_ps.2.2.1, hne2_ps.2.2.2.1, hne2_ps.2.2.2.2.1, hne2_ps.2.2.2.2.2.1, hne2_ps.2.2.2.2.2.2.1, hne2_ps.2.2.2.2.2.2.2.1, hne2_ps.2.2.2.2.2.2.2.2.1, hne2_ps.2.2.2.2.2.2.2.2.2.1, hne2_ps.2.2.2.2.2.2.2.2.2.2, e1, hj1, w1, w2, hlt, hz, boxC]
        have hwf := hwf3
        exact ⟨out, hi, .le (by simp only [push_n]; omega) (.one (H := (((H.push (boxC x)).push (boxC zeroC)).push (rowK eI 3 [x.grams]))) (c := some (H.n + 1 + 1 + 1)) hwf (by (repeat first | exact Sub.refl _ | refine Sub.push hwf ?_ _ | refine Sub.set hwf ?_ (by first | exact Nat.le_refl _ | omega | (simp only [push_n, set_n, kill_n]; omega)) _ | refine Sub.kill hwf ?_ (by first | exact Nat.le_refl _ | omega | (simp only [push_n, set_n, kill_n]; omega)))) ⟨by simp only [push_n]; omega, by simp [push_b, set_b, kill_b, rowK]; done⟩ (plain_map (fun _ => rfl) _) (by simp [frOk, AV.okR, AV.ok1, AC.okR, AV.ren, AV.ren1, AC.ren, AFrame.get, pl1_old, *]; first | done | rfl | omega))⟩
    · have hi2 : out = 1 :: raWz x.zone ps := by simpa [raWz] using hi
      clear hi
      have hol : out.length ≤ 1000000 := by rw [hi2]; simp only [List.length_cons]; omega
      have hol0 : 0 < out.length := by rw [hi2]; simp
      have hsl : (sortI (1 :: raWz x.zone ps)).length = out.length := by rw [sortI_len, hi2]
      have hwfL := row_wf hwf3 (sortI (1 :: raWz x.zone ps)) (by rw [hsl]; exact hol)
      simp (config := {contextual := true, implicitDefEqProofs := false, maxSteps := 2000000}) [-Int.not_le, -Int.not_lt, argsF, impl_explainBy_l0, hat_ps.blk, hat_ps.esz, hat_ps.len, hat_ps.els, hne_ps, hne1_ps, hne2_ps.1, hne2_ps.2.1, hne2_ps.2.2.1, hne2_ps.2.2.2.1, hne2_ps.2.2.2.2.1, hne2_ps.2.2.2.2.2.1, hne2_ps.2.2.2.2.2.2.1, hne2_ps.2.2.2.2.2.2.2.1, hne2_ps.2.2.2.2.2.2.2.2.1, hne2_ps.2.2.2.2.2.2.2.2.2.1, hne2_ps.2.2.2.2.2.2.2.2.2.2, boxC, hol, hol0, push_setE, rowK]
      rw [hi2]
      have hWl : ((sortI (1 :: raWz x.zone ps))).length ≤ 1000000 := by omega
      refine aloop_list (sortI (1 :: raWz x.zone ps)) (fun j _ => [(0, .c (.sl b_ps i_ps ps.length)), (2, .c (.int .i64 (ch))), (4, .c (.ptr H.n 0 0)), (6, .c (.ptr (H.n + 1) 0 0)), (47, .c (.sl (H.n + 1 + 1 + 1) (0) (((sortI (1 :: raWz x.zone ps))).length))), (48, .c (.int .i64 ((((sortI (1 :: raWz x.zone ps))).length : Int)))), (49, .c (.int .i64 (j)))]) (fun j _ => ((((H.push (boxC x)).push (boxC zeroC)).push (rowK eI 3 [x.grams]))).push (rowK eI 3 ((sortI (1 :: raWz x.zone ps))))) (fun j l _ => pairM (l.findSome? (hitM ps x (chB ch 8) x.day x.zone)) = exB ps x ch) hE _ () (exB_of (by unfold wsI; rw [hb]; rfl)) (.since (by simp only [push_n]; omega) hwfL (.refl _) (by simp [frOk, AV.okR, AV.ok1, AC.okR, AV.ren, AV.ren1, AC.ren, AFrame.get, pl1_old, *]; first | done | rfl | omega)) (fun j _ hlt hi => ?_) fun _ hi => ?_
      · generalize hgen : (sortI (1 :: raWz x.zone ps)) = W at hlt hi hwfL hWl ⊢
        have hj1 := idx_lt hlt
        have w1 : IntKind.i64.wrap ((j : Int) + 1) = (j : Int) + 1 := wrap_id (by omega) (by omega)
        rw [fs_cons] at hi
        have hpos := forGo_pos x.day x.zone W[j] (areRa_at hv)
        have hhit : hitM ps x (chB ch 8) x.day x.zone W[j] = if 0 < (forGo x.day x.zone W[j] ps).1 ∧ (chB ch 8 = true ∨ (forGo x.day x.zone W[j] ps).1 = x.paid) then some (setCv x x.day x.zone W[j] (forGo x.day x.zone W[j] ps).1) else none := rfl
        rw [hhit] at hi
        generalize hfg : forGo x.day x.zone W[j] ps = fg at hi hpos hhit
        obtain ⟨c, ok⟩ := fg
        simp only at hi hpos
        cases ok with
        | false =>
          have hc0 : ¬ 0 < c := fun h0 => by have := hpos.2 h0; cases this
          rw [if_neg (fun h0 => hc0 h0.1)] at hi
          simp (config := {contextual := true, implicitDefEqProofs := false, maxSteps := 2000000}) [-Int.not_le, -Int.not_lt, argsF, impl_explainBy_l1, hat_ps.blk, hat_ps.esz, hat_ps.len, hat_ps.els, hne_ps, hne1_ps, hne2_ps.1, hne2_ps.2.1, hne2_ps.2.2.1, hne2_ps.2.2.2.1, hne2_ps.2.2.2.2.1, hne2_ps.2.2.2.2.2.1, hne2_ps.2.2.2.2.2.2.1, hne2_ps.2.2.2.2.2.2.2.1, hne2_ps.2.2.2.2.2.2.2.2.1, hne2_ps.2.2.2.2.2.2.2.2.2.1, hne2_ps.2.2.2.2.2.2.2.2.2.2, hj1, w1, hlt, hfg, boxC]
          exact ⟨(), hi, .since (by simp only [push_n]; omega) hwfL (.refl _) (by simp [frOk, AV.okR, AV.ok1, AC.okR, AV.ren, AV.ren1, AC.ren, AFrame.get, pl1_old, *]; first | done | rfl | omega)⟩
        | true =>
          have hc0 : 0 < c := hpos.1 rfl
          by_cases hp : c = x.paid
          · rw [if_pos ⟨hc0, .inr hp⟩] at hi
            have hi2 : exB ps x ch = (setCv x x.day x.zone W[j] c, true) := hi.symm
            rw [hi2] at h
            simp (config := {contextual := true, implicitDefEqProofs := false, maxSteps := 2000000}) [-Int.not_le, -Int.not_lt, argsF, impl_explainBy_l1, hat_ps.blk, hat_ps.esz, hat_ps.len, hat_ps.els, hne_ps, hne1_ps, hne2_ps.1, hne2_ps.2.1, hne2_ps.2.2.1, hne2_ps.2.2.2.1, hne2_ps.2.2.2.2.1, hne2_ps.2.2.2.2.2.1, hne2_ps.2.2.2.2.2.2.1, hne2_ps.2.2.2.2.2.2.2.1, hne2_ps.2.2.2.2.2.2.2.2.1, hne2_ps.2.2.2.2.2.2.2.2.2.1, hne2_ps.2.2.2.2.2.2.2.2.2.2, hj1, w1, hlt, hfg, hp, boxC]
            (refine Out.plain hwf ?_ rfl ?_; (repeat first | exact Sub.refl _ | refine Sub.push hwf ?_ _ | refine Sub.set hwf ?_ (by first | exact Nat.le_refl _ | omega | (simp only [push_n, set_n, kill_n]; omega)) _ | refine Sub.kill hwf ?_ (by first | exact Nat.le_refl _ | omega | (simp only [push_n, set_n, kill_n]; omega)))); simpa [setCv, hp] using h
          · by_cases h8 : chB ch 8 = true
            · rw [if_pos ⟨hc0, .inl h8⟩] at hi
              have hi2 : exB ps x ch = (setCv x x.day x.zone W[j] c, true) := hi.symm
              rw [hi2] at h
              simp (config := {contextual := true, implicitDefEqProofs := false, maxSteps := 2000000}) [-Int.not_le, -Int.not_lt, argsF, impl_explainBy_l1, hat_ps.blk, hat_ps.esz, hat_ps.len, hat_ps.els, hne_ps, hne1_ps, hne2_ps.1, hne2_ps.2.1, hne2_ps.2.2.1, hne2_ps.2.2.2.1, hne2_ps.2.2.2.2.1, hne2_ps.2.2.2.2.2.1, hne2_ps.2.2.2.2.2.2.1, hne2_ps.2.2.2.2.2.2.2.1, hne2_ps.2.2.2.2.2.2.2.2.1, hne2_ps.2.2.2.2.2.2.2.2.2.1, hne2_ps.2.2.2.2.2.2.2.2.2.2, hj1, w1, hlt, hfg, hp, ha8, h8, boxC]
              (refine Out.plain hwf ?_ rfl ?_; (repeat first | exact Sub.refl _ | refine Sub.push hwf ?_ _ | refine Sub.set hwf ?_ (by first | exact Nat.le_refl _ | omega | (simp only [push_n, set_n, kill_n]; omega)) _ | refine Sub.kill hwf ?_ (by first | exact Nat.le_refl _ | omega | (simp only [push_n, set_n, kill_n]; omega)))); simpa [setCv] using h
            · have h8' : chB ch 8 = false := by simpa using h8
              rw [if_neg (fun h0 => h0.2.elim h8 hp)] at hi
              simp (config := {contextual := true, implicitDefEqProofs := false, maxSteps := 2000000}) [-Int.not_le, -Int.not_lt, argsF, impl_explainBy_l1, hat_ps.blk, hat_ps.esz, hat_ps.len, hat_ps.els, hne_ps, hne1_ps, hne2_ps.1, hne2_ps.2.1, hne2_ps.2.2.1, hne2_ps.2.2.2.1, hne2_ps.2.2.2.2.1, hne2_ps.2.2.2.2.2.1, hne2_ps.2.2.2.2.2.2.1, hne2_ps.2.2.2.2.2.2.2.1, hne2_ps.2.2.2.2.2.2.2.2.1, hne2_ps.2.2.2.2.2.2.2.2.2.1, hne2_ps.2.2.2.2.2.2.2.2.2.2, hj1, w1, hlt, hfg, hp, ha8, h8', boxC]
              rw [h8'] at hi
              exact ⟨(), hi, .since (by simp only [push_n]; omega) hwfL (.refl _) (by simp [frOk, AV.okR, AV.ok1, AC.okR, AV.ren, AV.ren1, AC.ren, AFrame.get, pl1_old, *]; first | done | rfl | omega)⟩
      · rw [List.findSome?_nil] at hi
        rw [← hi] at h
        simp (config := {contextual := true, implicitDefEqProofs := false, maxSteps := 2000000}) [-Int.not_le, -Int.not_lt, argsF, impl_explainBy_l1, hat_ps.blk, hat_ps.esz, hat_ps.len, hat_ps.els, hne_ps, hne1_ps, hne2_ps.1, hne2_ps.2.1, hne2_ps.2.2.1, hne2_ps.2.2.2.1, hne2_ps.2.2.2.2.1, hne2_ps.2.2.2.2.2.1, hne2_ps.2.2.2.2.2.2.1, hne2_ps.2.2.2.2.2.2.2.1, hne2_ps.2.2.2.2.2.2.2.2.1, hne2_ps.2.2.2.2.2.2.2.2.2.1, hne2_ps.2.2.2.2.2.2.2.2.2.2, boxC]
        (refine Out.plain hwf ?_ rfl ?_; (repeat first | exact Sub.refl _ | refine Sub.push hwf ?_ _ | refine Sub.set hwf ?_ (by first | exact Nat.le_refl _ | omega | (simp only [push_n, set_n, kill_n]; omega)) _ | refine Sub.kill hwf ?_ (by first | exact Nat.le_refl _ | omega | (simp only [push_n, set_n, kill_n]; omega)))); simpa [pairM, zeroC] using h

end Go.Proofs.Ytjiffkjeijfilaa
