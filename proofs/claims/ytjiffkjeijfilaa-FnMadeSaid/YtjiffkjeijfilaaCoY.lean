/- The cover that a change makes: impl. -/
import Derived.Test.YtjiffkjeijfilaaCoX
set_option maxRecDepth 8000
set_option linter.unusedSimpArgs false
set_option linter.unusedVariables false
namespace Go.Proofs.Ytjiffkjeijfilaa
open Go Go.RowKit

set_option maxHeartbeats 4000000
def dz (x : Cv) (s : Int × Int) : Cv := { x with day := s.1, zone := s.2 }
def gDI (ps : List Ra) (x : Cv) (ch : Int) (Z l : List Int) : Option Cv := l.findSome? fun d => Z.findSome? fun z => (wsI ps x ch z).findSome? (hitM ps x (chB ch 8) d z)
def gZI (ps : List Ra) (x : Cv) (ch d : Int) (l : List Int) : Option Cv := l.findSome? fun z => (wsI ps x ch z).findSome? (hitM ps x (chB ch 8) d z)
theorem gDI_cons (ps : List Ra) (x : Cv) (ch : Int) (Z : List Int) (d : Int) (l : List Int) : gDI ps x ch Z (d :: l) = (gZI ps x ch d Z).or (gDI ps x ch Z l) := fs_cons d l
theorem gZI_cons (ps : List Ra) (x : Cv) (ch d z : Int) (l : List Int) : gZI ps x ch d (z :: l) = ((wsI ps x ch z).findSome? (hitM ps x (chB ch 8) d z)).or (gZI ps x ch d l) := fs_cons z l
theorem exB_dz (ps : List Ra) (x : Cv) (ch d z : Int) : exB ps ⟨x.id, d, z, x.grams, x.paid, x.frm, x.to, x.leave, x.arrive⟩ ch = pairM ((wsI ps x ch z).findSome? (hitM ps x (chB ch 8) d z)) := rfl
theorem raDays_cons (r : Ra) (l : List Ra) : raDays (r :: l) = (r.frm :: (if r.til < 4000 then [r.til + 1] else [])) ++ raDays l := rfl
structure MK (G H : AHeap) (bd bz : Nat) (x : Cv) (D Z : List Int) : Prop where
  wf : G.WF
  sub : Sub H G
  bx : G.b H.n = some (boxC x)
  ba : G.b (H.n + 1) = some (boxC zeroC)
  rd : G.b bd = some (rowK eI 3 D)
  rz : G.b bz = some (rowK eI 3 Z)
  d0 : H.n + 1 < bd
  z0 : H.n + 1 < bz
theorem aloop_gen {P : Program} {N n0 : Nat} {body : ACode} {F : AFrame} {H : AHeap} {Q : Exit → AFrame → AHeap → Prop} (R : AHeap → Prop) (h : R H) (f : ∀ G, R G → ALoop P N n0 body F G Q) : ALoop P N n0 body F H Q := f H h
theorem setC_wf {G : AHeap} {b : Nat} {x : Cv} (hwf : G.WF) (h : G.b b = some (boxC x)) (y : Cv) : (G.set b (boxC y)).WF := WF.set hwf h (by simp [boxC, AC.okR]) (by simp [boxC])

def q_mk : Con := fun args H K => match args with
  | [ps_v, .agg x_e, .c (.int .i64 ch)] => eRa.rd H (fun ps => onv (eCv.dec x_e) fun x => areRa ps = true ∧ 0 ≤ ch ∧ ch ≤ 15 ∧ K (.tup [.agg (eCv.cells (pairM (mkM ps x ch)).1), .c (.bool ((pairM (mkM ps x ch)).2))]) H) ps_v
  | _ => False
@[simp ↓] theorem q_mk_eq (ps_v : AV) (x_e : List AC) (ch : Int) (H : AHeap) (K : AV → AHeap → Prop) : q_mk [ps_v, .agg x_e, .c (.int .i64 ch)] H K = (eRa.rd H (fun ps => onv (eCv.dec x_e) fun x => areRa ps = true ∧ 0 ≤ ch ∧ ch ≤ 15 ∧ K (.tup [.agg (eCv.cells (pairM (mkM ps x ch)).1), .c (.bool ((pairM (mkM ps x ch)).2))]) H) ps_v) := rfl

theorem impl_makeCover_s : Sound Try.prog 96 q_mk := by
  intro args H K h
  unfold q_mk at h
  split at h
  rotate_left
  all_goals first | exact False.elim h | skip
  rename_i ps_v x_e ch
  have h1 := Enc.rd_at h
  clear h
  obtain ⟨b_ps, i_ps, k_ps, ps, rfl, hat_ps, h⟩ := h1
  have h1 := onv_iff.1 h
  clear h
  obtain ⟨x, hd_x, h⟩ := h1
  obtain rfl := eCv.cd _ _ hd_x
  clear hd_x
  have hE := soundE_cons impl_isDay_s (soundE_cons slices_Sort___int_int_s (soundE_cons impl_explainBy_s (soundE_nil (P := Try.prog))))
  refine acalls_fn impl_makeCover_k hE ⟨by simp, fun hwf => ?_⟩
  have hb_ps : b_ps < H.n := (hwf b_ps k_ps hat_ps.blk).1
  have hne_ps : (b_ps = H.n) = False := eq_false (by omega)
  have hne1_ps : ∀ i, (b_ps = H.n + i) = False := fun i => eq_false (by omega)
  have hne2_ps : (b_ps = H.n + 1 + 1) = False ∧ (b_ps = H.n + 1 + 1 + 1) = False ∧ (b_ps = H.n + 1 + 1 + 1 + 1) = False ∧ (b_ps = H.n + 1 + 1 + 1 + 1 + 1) = False ∧ (b_ps = H.n + 1 + 1 + 1 + 1 + 1 + 1) = False ∧ (b_ps = H.n + 1 + 1 + 1 + 1 + 1 + 1 + 1) = False ∧ (b_ps = H.n + 1 + 1 + 1 + 1 + 1 + 1 + 1 + 1) = False ∧ (b_ps = H.n + 1 + 1 + 1 + 1 + 1 + 1 + 1 + 1 + 1) = False ∧ (b_ps = H.n + 1 + 1 + 1 + 1 + 1 + 1 + 1 + 1 + 1 + 1) = False ∧ (b_ps = H.n + 1 + 1 + 1 + 1 + 1 + 1 + 1 + 1 + 1 + 1 + 1) = False ∧ (b_ps = H.n + 1 + 1 + 1 + 1 + 1 + 1 + 1 + 1 + 1 + 1 + 1 + 1) = False := ⟨eq_false (by omega), eq_false (by omega), eq_false (by omega), eq_false (by omega), eq_false (by omega), eq_false (by omega), eq_false (by omega), eq_false (by omega), eq_false (by omega), eq_false (by omega), eq_false (by omega)⟩
  have hmx_ps : ps.length ≤ 9223372036854775807 := by have h1 := (hwf b_ps k_ps hat_ps.blk).2.2; have h2 := hat_ps.len; omega
  obtain ⟨hv, h0, h1, h⟩ := h
  have hpl := areRa_len hv
  have ha1 := and_c1 h0 h1
  have ha2 := and_c2 h0 h1
  have hwf4 : (((((H.push (boxC x)).push (boxC zeroC)).push (rowK eI 3 [x.day])).push (rowK eI 3 [x.zone]))).WF := row_wf (row_wf (boxC_wf (boxC_wf hwf x) zeroC) [x.day] (by simp)) [x.zone] (by simp)
  have hrl := raDays_len ps
  by_cases hb1 : chB ch 1 = true
  rotate_left
  · have hb1' : chB ch 1 = false := by simpa using hb1
    by_cases hb2 : chB ch 2 = true
    · have hb2' : ¬ chB ch 2 = false := by simp [hb2]
      simp (config := {contextual := true, implicitDefEqProofs := false, maxSteps := 2000000}) [-Int.not_le, -Int.not_lt, argsF, impl_makeCover_c, hat_ps.blk, hat_ps.esz, hat_ps.len, hat_ps.els, hne_ps, hne1_ps, hne2_ps.1, hne2_ps.2.1, hne2_ps.2.2.1, hne2_ps.2.2.2.1, hne2_ps.2.2.2.2.1, hne2_ps.2.2.2.2.2.1, hne2_ps.2.2.2.2.2.2.1, hne2_ps.2.2.2.2.2.2.2.1, hne2_ps.2.2.2.2.2.2.2.2.1, hne2_ps.2.2.2.2.2.2.2.2.2.1, hne2_ps.2.2.2.2.2.2.2.2.2.2, ha1, hb1', ha2, hb2']
      refine aloop_gen (fun G => MK G H (H.n + 1 + 1) (H.n + 1 + 1 + 1 + 1) x ([x.day]) (([0, 1, 2, 3, 4, 5, 6, 7, 8, 9] : List Int))) ⟨row_wf (row_wf (row_wf (boxC_wf (boxC_wf hwf x) zeroC) [x.day] (by simp)) [x.zone] (by simp)) ([0, 1, 2, 3, 4, 5, 6, 7, 8, 9] : List Int) (by simp), (by (repeat first | exact Sub.refl _ | refine Sub.push hwf ?_ _ | refine Sub.set hwf ?_ (by first | exact Nat.le_refl _ | omega | (simp only [push_n, set_n, kill_n]; omega)) _ | refine Sub.kill hwf ?_ (by first | exact Nat.le_refl _ | omega | (simp only [push_n, set_n, kill_n]; omega)))), by simp [push_b, boxC, rowK]; done, by simp [push_b, boxC, rowK, zeroC]; done, by simp [push_b, boxC, rowK, reK]; done, by simp [push_b, boxC, rowK]; done, by omega, by omega⟩ fun G hG => ?_
      have hres : pairM (gDI ps x ch (([0, 1, 2, 3, 4, 5, 6, 7, 8, 9] : List Int)) ([x.day])) = pairM (mkM ps x ch) := congrArg pairM (by rw [← mk_same hv]; unfold daysI zonesM; simp only [hb1, hb2, if_true, if_false, reduceCtorEq]; rfl)
      have hdl : ([x.day]).length ≤ 1000000 := by simp
      have hzl : (([0, 1, 2, 3, 4, 5, 6, 7, 8, 9] : List Int)).length ≤ 1000000 := by simp
      have hzq : (([0, 1, 2, 3, 4, 5, 6, 7, 8, 9] : List Int)).length = 10 := rfl
      have hdq : ([x.day]).length = 1 := rfl
      generalize hgD : [x.day] = D at hG hres hdl hdq ⊢
      generalize hgZ : ([0, 1, 2, 3, 4, 5, 6, 7, 8, 9] : List Int) = Z at hG hres hzl hzq ⊢
      generalize hgR : pairM (mkM ps x ch) = R at h hres
      clear hgD hgZ
      have hGw := hG.wf
      have hnG : H.n + 1 < G.n := (hGw _ _ hG.ba).1
      have hbd := (hGw _ _ hG.rd).1
      have hbz := (hGw _ _ hG.rz).1
      have hd0 := hG.d0
      have hz0 := hG.z0
      have gps : G.b b_ps = some k_ps := hG.sub.1.2 _ _ hat_ps.blk
      have hba := hG.ba
      have hrd := hG.rd
      have hrz := hG.rz
      have hbx := hG.bx
      have e0 : (H.n + 1 = H.n) = False := eq_false (by omega)
      have e1 : (H.n + 1 + 1 = H.n) = False := eq_false (by omega)
      have e2 : (H.n + 1 + 1 + 1 + 1 = H.n) = False := eq_false (by omega)
      have e3 : (H.n = G.n) = False := eq_false (by omega)
      have e4 : (H.n + 1 = G.n) = False := eq_false (by omega)
      have e5 : (b_ps = G.n) = False := eq_false (by omega)
      have e6 : (H.n + 1 + 1 = G.n) = False := eq_false (by omega)
      have e7 : (H.n + 1 + 1 + 1 + 1 = G.n) = False := eq_false (by omega)
      have e8 : (G.n = H.n) = False := eq_false (by omega)
      have l0 : H.n < G.n := by omega
      have l1 : b_ps < G.n := by omega
      refine aloop_list D (fun j (s : Int × Int) => [(0, .c (.sl b_ps i_ps ps.length)), (2, .c (.int .i64 (ch))), (4, .c (.ptr H.n 0 0)), (6, .c (.ptr (H.n + 1) 0 0)), (9, .c (.sl (H.n + 1 + 1 + 1 + 1) (0) (Z.length))), (56, .c (.sl (H.n + 1 + 1) (0) (D.length))), (57, .c (.int .i64 D.length)), (58, .c (.int .i64 (j)))]) (fun j s => G.set H.n (boxC (dz x s))) (fun j l s => pairM (gDI ps x ch Z l) = R) hE _ (x.day, x.zone) hres (by
        have hs : G.set H.n (boxC (dz x (x.day, x.zone))) = G := set_self hbx
        simp only [hs]
        exact .since (by omega) hGw (.refl _) (by simp [frOk, AV.okR, AV.ok1, AC.okR, AV.ren, AV.ren1, AC.ren, AFrame.get, pl1_old, *]; first | done | rfl | omega)) (fun j s hlt hi => ?_) fun s hi => ?_
      · have hwS := setC_wf hGw hbx (dz x s)
        have hj1 := idx_lt hlt
        have w1 : IntKind.i64.wrap ((j : Int) + 1) = (j : Int) + 1 := wrap_id (by omega) (by omega)
        rw [gDI_cons] at hi
        simp (config := {contextual := true, implicitDefEqProofs := false, maxSteps := 2000000}) [-Int.not_le, -Int.not_lt, argsF, impl_makeCover_l2, hj1, w1, hlt, hrd, hrz, hbx, boxC, e0, e1, e2]
        refine aloop_list Z (fun k (t : Int × Int) => [(0, .c (.sl b_ps i_ps ps.length)), (2, .c (.int .i64 (ch))), (4, .c (.ptr H.n 0 0)), (6, .c (.ptr (H.n + 1) 0 0)), (9, .c (.sl (H.n + 1 + 1 + 1 + 1) (0) (Z.length))), (13, .c (.int .i64 (D[j]))), (56, .c (.sl (H.n + 1 + 1) (0) (D.length))), (57, .c (.int .i64 D.length)), (58, .c (.int .i64 (j))), (62, .c (.sl (H.n + 1 + 1 + 1 + 1) (0) (Z.length))), (63, .c (.int .i64 Z.length)), (64, .c (.int .i64 (k)))]) (fun k t => G.set H.n (boxC (dz x t))) (fun k m t => pairM ((gZI ps x ch D[j] m).or (gDI ps x ch Z (D.drop (j + 1)))) = R) hE _ s hi (.since (by simp only [set_n]; omega) hwS (.refl _) (by simp [frOk, AV.okR, AV.ok1, AC.okR, AV.ren, AV.ren1, AC.ren, AFrame.get, pl1_old, *]; first | done | rfl | omega)) (fun k t hkt hm => ?_) fun t hm => ?_
        · have hwT := setC_wf hGw hbx (dz x (D[j], Z[k]))
          have hk1 := idx_lt hkt
          have w2 : IntKind.i64.wrap ((k : Int) + 1) = (k : Int) + 1 := wrap_id (by omega) (by omega)
          have hex := exB_dz ps x ch D[j] Z[k]
          rw [gZI_cons] at hm
          cases ho : (wsI ps x ch Z[k]).findSome? (hitM ps x (chB ch 8) D[j] Z[k]) with
          | none =>
            rw [ho] at hex hm
            simp only [pairM] at hex
            simp (config := {contextual := true, implicitDefEqProofs := false, maxSteps := 2000000}) [-Int.not_le, -Int.not_lt, argsF, impl_makeCover_l1, hk1, w2, hkt, hrd, hrz, hbx, hba, gps, hat_ps.blk, hat_ps.esz, hat_ps.len, hat_ps.els, hne_ps, hne1_ps, hne2_ps.1, hne2_ps.2.1, hne2_ps.2.2.1, hne2_ps.2.2.2.1, hne2_ps.2.2.2.2.1, hne2_ps.2.2.2.2.2.1, hne2_ps.2.2.2.2.2.2.1, hne2_ps.2.2.2.2.2.2.2.1, hne2_ps.2.2.2.2.2.2.2.2.1, hne2_ps.2.2.2.2.2.2.2.2.2.1, hne2_ps.2.2.2.2.2.2.2.2.2.2, hv, h0, h1, hex, boxC, e0, e1, e2, e3, e4, e5, e6, e7, e8, dz]
            exact ⟨(D[j], Z[k]), hm, .since (by simp only [set_n]; omega) hwT (by have hwf := hwT; (repeat first | exact Sub.refl _ | refine Sub.push hwf ?_ _ | refine Sub.set hwf ?_ (by first | exact Nat.le_refl _ | omega | (simp only [push_n, set_n, kill_n]; omega)) _ | refine Sub.kill hwf ?_ (by first | exact Nat.le_refl _ | omega | (simp only [push_n, set_n, kill_n]; omega)))) (by simp [frOk, AV.okR, AV.ok1, AC.okR, AV.ren, AV.ren1, AC.ren, AFrame.get, pl1_old, *]; first | done | rfl | omega)⟩
          | some y =>
            rw [ho] at hex hm
            simp only [pairM] at hex
            have hR : R = (y, true) := hm.symm
            subst hR
            simp (config := {contextual := true, implicitDefEqProofs := false, maxSteps := 2000000}) [-Int.not_le, -Int.not_lt, argsF, impl_makeCover_l1, hk1, w2, hkt, hrd, hrz, hbx, hba, gps, hat_ps.blk, hat_ps.esz, hat_ps.len, hat_ps.els, hne_ps, hne1_ps, hne2_ps.1, hne2_ps.2.1, hne2_ps.2.2.1, hne2_ps.2.2.2.1, hne2_ps.2.2.2.2.1, hne2_ps.2.2.2.2.2.1, hne2_ps.2.2.2.2.2.2.1, hne2_ps.2.2.2.2.2.2.2.1, hne2_ps.2.2.2.2.2.2.2.2.1, hne2_ps.2.2.2.2.2.2.2.2.2.1, hne2_ps.2.2.2.2.2.2.2.2.2.2, hv, h0, h1, hex, boxC, e0, e1, e2, e3, e4, e5, e6, e7, e8, dz]
            refine Out.plain (hwf) ?_ rfl ?_
            · (repeat first | exact Sub.refl _ | refine Sub.push hwf ?_ _ | refine Sub.set hwf ?_ (by first | exact Nat.le_refl _ | omega | (simp only [push_n, set_n, kill_n]; omega)) _ | refine Sub.kill hwf ?_ (by first | exact Nat.le_refl _ | omega | (simp only [push_n, set_n, kill_n]; omega)))
              exact hG.sub
            · exact h
        · have hwT := setC_wf hGw hbx (dz x t)
          simp (config := {contextual := true, implicitDefEqProofs := false, maxSteps := 2000000}) [-Int.not_le, -Int.not_lt, argsF, impl_makeCover_l1, w1, boxC]
          exact ⟨t, hm, .since (by simp only [set_n]; omega) hwT (.refl _) (by simp [frOk, AV.okR, AV.ok1, AC.okR, AV.ren, AV.ren1, AC.ren, AFrame.get, pl1_old, *]; first | done | rfl | omega)⟩
      · have hR : R = (zeroC, false) := hi.symm
        subst hR
        simp (config := {contextual := true, implicitDefEqProofs := false, maxSteps := 2000000}) [-Int.not_le, -Int.not_lt, argsF, impl_makeCover_l2, hba, hbx, boxC, e0, e1, e2]
        refine Out.plain (hwf) ?_ rfl ?_
        · (repeat first | exact Sub.refl _ | refine Sub.push hwf ?_ _ | refine Sub.set hwf ?_ (by first | exact Nat.le_refl _ | omega | (simp only [push_n, set_n, kill_n]; omega)) _ | refine Sub.kill hwf ?_ (by first | exact Nat.le_refl _ | omega | (simp only [push_n, set_n, kill_n]; omega)))
          exact hG.sub
        · exact h
    · have hb2' : chB ch 2 = false := by simpa using hb2
      simp (config := {contextual := true, implicitDefEqProofs := false, maxSteps := 2000000}) [-Int.not_le, -Int.not_lt, argsF, impl_makeCover_c, hat_ps.blk, hat_ps.esz, hat_ps.len, hat_ps.els, hne_ps, hne1_ps, hne2_ps.1, hne2_ps.2.1, hne2_ps.2.2.1, hne2_ps.2.2.2.1, hne2_ps.2.2.2.2.1, hne2_ps.2.2.2.2.2.1, hne2_ps.2.2.2.2.2.2.1, hne2_ps.2.2.2.2.2.2.2.1, hne2_ps.2.2.2.2.2.2.2.2.1, hne2_ps.2.2.2.2.2.2.2.2.2.1, hne2_ps.2.2.2.2.2.2.2.2.2.2, ha1, hb1', ha2, hb2']
      refine aloop_gen (fun G => MK G H (H.n + 1 + 1) (H.n + 1 + 1 + 1) x ([x.day]) ([x.zone])) ⟨hwf4, (by (repeat first | exact Sub.refl _ | refine Sub.push hwf ?_ _ | refine Sub.set hwf ?_ (by first | exact Nat.le_refl _ | omega | (simp only [push_n, set_n, kill_n]; omega)) _ | refine Sub.kill hwf ?_ (by first | exact Nat.le_refl _ | omega | (simp only [push_n, set_n, kill_n]; omega)))), by simp [push_b, boxC, rowK]; done, by simp [push_b, boxC, rowK, zeroC]; done, by simp [push_b, boxC, rowK, reK]; done, by simp [push_b, boxC, rowK]; done, by omega, by omega⟩ fun G hG => ?_
      have hres : pairM (gDI ps x ch ([x.zone]) ([x.day])) = pairM (mkM ps x ch) := congrArg pairM (by rw [← mk_same hv]; unfold daysI zonesM; simp only [hb1, hb2, if_true, if_false, reduceCtorEq]; rfl)
      have hdl : ([x.day]).length ≤ 1000000 := by simp
      have hzl : ([x.zone]).length ≤ 1000000 := by simp
      have hzq : ([x.zone]).length = 1 := rfl
      have hdq : ([x.day]).length = 1 := rfl
      generalize hgD : [x.day] = D at hG hres hdl hdq ⊢
      generalize hgZ : [x.zone] = Z at hG hres hzl hzq ⊢
      generalize hgR : pairM (mkM ps x ch) = R at h hres
      clear hgD hgZ
      have hGw := hG.wf
      have hnG : H.n + 1 < G.n := (hGw _ _ hG.ba).1
      have hbd := (hGw _ _ hG.rd).1
      have hbz := (hGw _ _ hG.rz).1
      have hd0 := hG.d0
      have hz0 := hG.z0
      have gps : G.b b_ps = some k_ps := hG.sub.1.2 _ _ hat_ps.blk
      have hba := hG.ba
      have hrd := hG.rd
      have hrz := hG.rz
      have hbx := hG.bx
      have e0 : (H.n + 1 = H.n) = False := eq_false (by omega)
      have e1 : (H.n + 1 + 1 = H.n) = False := eq_false (by omega)
      have e2 : (H.n + 1 + 1 + 1 = H.n) = False := eq_false (by omega)
      have e3 : (H.n = G.n) = False := eq_false (by omega)
      have e4 : (H.n + 1 = G.n) = False := eq_false (by omega)
      have e5 : (b_ps = G.n) = False := eq_false (by omega)
      have e6 : (H.n + 1 + 1 = G.n) = False := eq_false (by omega)
      have e7 : (H.n + 1 + 1 + 1 = G.n) = False := eq_false (by omega)
      have e8 : (G.n = H.n) = False := eq_false (by omega)
      have l0 : H.n < G.n := by omega
      have l1 : b_ps < G.n := by omega
      refine aloop_list D (fun j (s : Int × Int) => [(0, .c (.sl b_ps i_ps ps.length)), (2, .c (.int .i64 (ch))), (4, .c (.ptr H.n 0 0)), (6, .c (.ptr (H.n + 1) 0 0)), (9, .c (.sl (H.n + 1 + 1 + 1) (0) (Z.length))), (56, .c (.sl (H.n + 1 + 1) (0) (D.length))), (57, .c (.int .i64 D.length)), (58, .c (.int .i64 (j)))]) (fun j s => G.set H.n (boxC (dz x s))) (fun j l s => pairM (gDI ps x ch Z l) = R) hE _ (x.day, x.zone) hres (by
        have hs : G.set H.n (boxC (dz x (x.day, x.zone))) = G := set_self hbx
        simp only [hs]
        exact .since (by omega) hGw (.refl _) (by simp [frOk, AV.okR, AV.ok1, AC.okR, AV.ren, AV.ren1, AC.ren, AFrame.get, pl1_old, *]; first | done | rfl | omega)) (fun j s hlt hi => ?_) fun s hi => ?_
      · have hwS := setC_wf hGw hbx (dz x s)
        have hj1 := idx_lt hlt
        have w1 : IntKind.i64.wrap ((j : Int) + 1) = (j : Int) + 1 := wrap_id (by omega) (by omega)
        rw [gDI_cons] at hi
        simp (config := {contextual := true, implicitDefEqProofs := false, maxSteps := 2000000}) [-Int.not_le, -Int.not_lt, argsF, impl_makeCover_l2, hj1, w1, hlt, hrd, hrz, hbx, boxC, e0, e1, e2]
        refine aloop_list Z (fun k (t : Int × Int) => [(0, .c (.sl b_ps i_ps ps.length)), (2, .c (.int .i64 (ch))), (4, .c (.ptr H.n 0 0)), (6, .c (.ptr (H.n + 1) 0 0)), (9, .c (.sl (H.n + 1 + 1 + 1) (0) (Z.length))), (13, .c (.int .i64 (D[j]))), (56, .c (.sl (H.n + 1 + 1) (0) (D.length))), (57, .c (.int .i64 D.length)), (58, .c (.int .i64 (j))), (62, .c (.sl (H.n + 1 + 1 + 1) (0) (Z.length))), (63, .c (.int .i64 Z.length)), (64, .c (.int .i64 (k)))]) (fun k t => G.set H.n (boxC (dz x t))) (fun k m t => pairM ((gZI ps x ch D[j] m).or (gDI ps x ch Z (D.drop (j + 1)))) = R) hE _ s hi (.since (by simp only [set_n]; omega) hwS (.refl _) (by simp [frOk, AV.okR, AV.ok1, AC.okR, AV.ren, AV.ren1, AC.ren, AFrame.get, pl1_old, *]; first | done | rfl | omega)) (fun k t hkt hm => ?_) fun t hm => ?_
        · have hwT := setC_wf hGw hbx (dz x (D[j], Z[k]))
          have hk1 := idx_lt hkt
          have w2 : IntKind.i64.wrap ((k : Int) + 1) = (k : Int) + 1 := wrap_id (by omega) (by omega)
          have hex := exB_dz ps x ch D[j] Z[k]
          rw [gZI_cons] at hm
          cases ho : (wsI ps x ch Z[k]).findSome? (hitM ps x (chB ch 8) D[j] Z[k]) with
          | none =>
            rw [ho] at hex hm
            simp only [pairM] at hex
            simp (config := {contextual := true, implicitDefEqProofs := false, maxSteps := 2000000}) [-Int.not_le, -Int.not_lt, argsF, impl_makeCover_l1, hk1, w2, hkt, hrd, hrz, hbx, hba, gps, hat_ps.blk, hat_ps.esz, hat_ps.len, hat_ps.els, hne_ps, hne1_ps, hne2_ps.1, hne2_ps.2.1, hne2_ps.2.2.1, hne2_ps.2.2.2.1, hne2_ps.2.2.2.2.1, hne2_ps.2.2.2.2.2.1, hne2_ps.2.2.2.2.2.2.1, hne2_ps.2.2.2.2.2.2.2.1, hne2_ps.2.2.2.2.2.2.2.2.1, hne2_ps.2.2.2.2.2.2.2.2.2.1, hne2_ps.2.2.2.2.2.2.2.2.2.2, hv, h0, h1, hex, boxC, e0, e1, e2, e3, e4, e5, e6, e7, e8, dz]
            exact ⟨(D[j], Z[k]), hm, .since (by simp only [set_n]; omega) hwT (by have hwf := hwT; (repeat first | exact Sub.refl _ | refine Sub.push hwf ?_ _ | refine Sub.set hwf ?_ (by first | exact Nat.le_refl _ | omega | (simp only [push_n, set_n, kill_n]; omega)) _ | refine Sub.kill hwf ?_ (by first | exact Nat.le_refl _ | omega | (simp only [push_n, set_n, kill_n]; omega)))) (by simp [frOk, AV.okR, AV.ok1, AC.okR, AV.ren, AV.ren1, AC.ren, AFrame.get, pl1_old, *]; first | done | rfl | omega)⟩
          | some y =>
            rw [ho] at hex hm
            simp only [pairM] at hex
            have hR : R = (y, true) := hm.symm
            subst hR
            simp (config := {contextual := true, implicitDefEqProofs := false, maxSteps := 2000000}) [-Int.not_le, -Int.not_lt, argsF, impl_makeCover_l1, hk1, w2, hkt, hrd, hrz, hbx, hba, gps, hat_ps.blk, hat_ps.esz, hat_ps.len, hat_ps.els, hne_ps, hne1_ps, hne2_ps.1, hne2_ps.2.1, hne2_ps.2.2.1, hne2_ps.2.2.2.1, hne2_ps.2.2.2.2.1, hne2_ps.2.2.2.2.2.1, hne2_ps.2.2.2.2.2.2.1, hne2_ps.2.2.2.2.2.2.2.1, hne2_ps.2.2.2.2.2.2.2.2.1, hne2_ps.2.2.2.2.2.2.2.2.2.1, hne2_ps.2.2.2.2.2.2.2.2.2.2, hv, h0, h1, hex, boxC, e0, e1, e2, e3, e4, e5, e6, e7, e8, dz]
            refine Out.plain (hwf) ?_ rfl ?_
            · (repeat first | exact Sub.refl _ | refine Sub.push hwf ?_ _ | refine Sub.set hwf ?_ (by first | exact Nat.le_refl _ | omega | (simp only [push_n, set_n, kill_n]; omega)) _ | refine Sub.kill hwf ?_ (by first | exact Nat.le_refl _ | omega | (simp only [push_n, set_n, kill_n]; omega)))
              exact hG.sub
            · exact h
        · have hwT := setC_wf hGw hbx (dz x t)
          simp (config := {contextual := true, implicitDefEqProofs := false, maxSteps := 2000000}) [-Int.not_le, -Int.not_lt, argsF, impl_makeCover_l1, w1, boxC]
          exact ⟨t, hm, .since (by simp only [set_n]; omega) hwT (.refl _) (by simp [frOk, AV.okR, AV.ok1, AC.okR, AV.ren, AV.ren1, AC.ren, AFrame.get, pl1_old, *]; first | done | rfl | omega)⟩
      · have hR : R = (zeroC, false) := hi.symm
        subst hR
        simp (config := {contextual := true, implicitDefEqProofs := false, maxSteps := 2000000}) [-Int.not_le, -Int.not_lt, argsF, impl_makeCover_l2, hba, hbx, boxC, e0, e1, e2]
        refine Out.plain (hwf) ?_ rfl ?_
        · (repeat first | exact Sub.refl _ | refine Sub.push hwf ?_ _ | refine Sub.set hwf ?_ (by first | exact Nat.le_refl _ | omega | (simp only [push_n, set_n, kill_n]; omega)) _ | refine Sub.kill hwf ?_ (by first | exact Nat.le_refl _ | omega | (simp only [push_n, set_n, kill_n]; omega)))
          exact hG.sub
        · exact h
  · have hb1' : ¬ chB ch 1 = false := by simp [hb1]
    simp (config := {contextual := true, implicitDefEqProofs := false, maxSteps := 2000000}) [-Int.not_le, -Int.not_lt, argsF, impl_makeCover_c, hat_ps.blk, hat_ps.esz, hat_ps.len, hat_ps.els, hne_ps, hne1_ps, hne2_ps.1, hne2_ps.2.1, hne2_ps.2.2.1, hne2_ps.2.2.2.1, hne2_ps.2.2.2.2.1, hne2_ps.2.2.2.2.2.1, hne2_ps.2.2.2.2.2.2.1, hne2_ps.2.2.2.2.2.2.2.1, hne2_ps.2.2.2.2.2.2.2.2.1, hne2_ps.2.2.2.2.2.2.2.2.2.1, hne2_ps.2.2.2.2.2.2.2.2.2.2, ha1, hb1']
    refine aloop_list ps (fun j (out : List Int) => [(0, .c (.sl b_ps i_ps ps.length)), (2, .c (.int .i64 (ch))), (4, .c (.ptr H.n 0 0)), (6, .c (.ptr (H.n + 1) 0 0)), (8, .c (.sl (H.n + 1 + 1 + 1 + 1) (0) (out.length))), (9, .c (.sl (H.n + 1 + 1 + 1) (0) (1))), (28, .c (.sl b_ps i_ps ps.length)), (29, .c (.int .i64 ps.length)), (30, .c (.int .i64 (j)))]) (fun j (out : List Int) => (((((H.push (boxC x)).push (boxC zeroC)).push (rowK eI 3 [x.day])).push (rowK eI 3 [x.zone]))).push (rowK eI 3 out)) (fun j l out => out ++ raDays l = 0 :: raDays ps) hE _ [0] rfl (.since (by simp only [push_n]; omega) (row_wf hwf4 [0] (by simp)) (.refl _) (by simp [frOk, AV.okR, AV.ok1, AC.okR, AV.ren, AV.ren1, AC.ren, AFrame.get, pl1_old, *]; first | done | rfl | omega)) (fun j out hlt hi => ?_) fun out hi => ?_
    · have hj1 := idx_lt hlt
      have w1 : IntKind.i64.wrap ((j : Int) + 1) = (j : Int) + 1 := wrap_id (by omega) (by omega)
      have e1 := hat_ps.get hlt
      have hr := isRa_b (areRa_at hv _ (List.getElem_mem hlt))
      have w2 : IntKind.i64.wrap (ps[j].til + 1) = ps[j].til + 1 := wrap_id (by omega) (by omega)
      rw [raDays_cons] at hi
      have hll := congrArg List.length hi
      simp only [List.length_append, List.length_cons] at hll
      have hs1 : (out.length + 1) * 8 ≤ 140737488355328 := by omega
      have hs2 : out.length + 1 ≤ 140737488355328 := by omega
      have hs3 : out.length ≤ 140737488355327 := by omega
      have hs4 : (out.length + 1 + 1) * 8 ≤ 140737488355328 := by omega
      have hs5 : out.length + 1 + 1 ≤ 140737488355328 := by omega
      have hs6 : out.length + 1 ≤ 140737488355327 := by omega
      have bf_p0 : b_ps < H.n + 1 + 1 + 1 + 1 + 1 := by omega
      have bf_q0 : ∀ c, pl1 (((((H.push (boxC x)).push (boxC zeroC)).push (rowK eI 3 [x.day])).push (rowK eI 3 [x.zone]))) c (b_ps) = some (b_ps) := fun c => pl1_old _ c (by simp only [push_n, set_n, kill_n]; omega)
      have bf_p1 : H.n < H.n + 1 + 1 + 1 + 1 + 1 := by omega
      have bf_q1 : ∀ c, pl1 (((((H.push (boxC x)).push (boxC zeroC)).push (rowK eI 3 [x.day])).push (rowK eI 3 [x.zone]))) c (H.n) = some (H.n) := fun c => pl1_old _ c (by simp only [push_n, set_n, kill_n]; omega)
      have bf_p2 : H.n + 1 < H.n + 1 + 1 + 1 + 1 + 1 := by omega
      have bf_q2 : ∀ c, pl1 (((((H.push (boxC x)).push (boxC zeroC)).push (rowK eI 3 [x.day])).push (rowK eI 3 [x.zone]))) c (H.n + 1) = some (H.n + 1) := fun c => pl1_old _ c (by simp only [push_n, set_n, kill_n]; omega)
      have bf_p3 : H.n + 1 + 1 < H.n + 1 + 1 + 1 + 1 + 1 := by omega
      have bf_q3 : ∀ c, pl1 (((((H.push (boxC x)).push (boxC zeroC)).push (rowK eI 3 [x.day])).push (rowK eI 3 [x.zone]))) c (H.n + 1 + 1) = some (H.n + 1 + 1) := fun c => pl1_old _ c (by simp only [push_n, set_n, kill_n]; omega)
      have bf_p4 : H.n + 1 + 1 + 1 < H.n + 1 + 1 + 1 + 1 + 1 := by omega
      have bf_q4 : ∀ c, pl1 (((((H.push (boxC x)).push (boxC zeroC)).push (rowK eI 3 [x.day])).push (rowK eI 3 [x.zone]))) c (H.n + 1 + 1 + 1) = some (H.n + 1 + 1 + 1) := fun c => pl1_old _ c (by simp only [push_n, set_n, kill_n]; omega)
      have bf_z : ∀ c, pl1 (((((H.push (boxC x)).push (boxC zeroC)).push (rowK eI 3 [x.day])).push (rowK eI 3 [x.zone]))) c (H.n + 1 + 1 + 1 + 1) = c := fun c => pl1_new (((((H.push (boxC x)).push (boxC zeroC)).push (rowK eI 3 [x.day])).push (rowK eI 3 [x.zone]))) c
      have bf_y : H.n + 1 + 1 + 1 + 1 < H.n + 1 + 1 + 1 + 1 + 1 := by omega
      by_cases hg : ps[j].til < 4000
      · have hin : inR (ps[j].til + 1) 0 4000 = true := decide_eq_true (by omega)
        rw [if_pos hg] at hi
        simp (config := {contextual := true, implicitDefEqProofs := false, maxSteps := 2000000}) [-Int.not_le, -Int.not_lt, argsF, impl_makeCover_l0, hat_ps.blk, hat_ps.esz, hat_ps.len, hat_ps.els, hne_ps, hne1_ps, hne2_ps.1, hne2_ps.2.1, hne2_ps.2.2.1, hne2_ps.2.2.2.1, hne2_ps.2.2.2.2.1, hne2_ps.2.2.2.2.2.1, hne2_ps.2.2.2.2.2.2.1, hne2_ps.2.2.2.2.2.2.2.1, hne2_ps.2.2.2.2.2.2.2.2.1, hne2_ps.2.2.2.2.2.2.2.2.2.1, hne2_ps.2.2.2.2.2.2.2.2.2.2, e1, hj1, w1, w2, hlt, hin, boxC, hs1, hs2, hs3, hs4, hs5, hs6]
        have hwf := hwf4
        exact ⟨out ++ [ps[j].frm] ++ [ps[j].til + 1], by rw [← hi]; simp, .le (by simp only [push_n]; omega) (.one (H := ((((H.push (boxC x)).push (boxC zeroC)).push (rowK eI 3 [x.day])).push (rowK eI 3 [x.zone]))) (c := some (H.n + 1 + 1 + 1 + 1 + 1 + 1 + 1 + 1 + 1)) hwf (by (repeat first | exact Sub.refl _ | refine Sub.push hwf ?_ _ | refine Sub.set hwf ?_ (by first | exact Nat.le_refl _ | omega | (simp only [push_n, set_n, kill_n]; omega)) _ | refine Sub.kill hwf ?_ (by first | exact Nat.le_refl _ | omega | (simp only [push_n, set_n, kill_n]; omega)))) ⟨by simp only [push_n]; omega, by simp [push_b, set_b, kill_b, rowK]; done⟩ (plain_map (fun _ => rfl) _) (by simp [frOk, AV.okR, AV.ok1, AC.okR, AV.ren, AV.ren1, AC.ren, AFrame.get, pl1_old, *]; first | done | rfl | omega))⟩
      · have hin : inR (ps[j].til + 1) 0 4000 = false := decide_eq_false (by omega)
        rw [if_neg hg] at hi
        simp (config := {contextual := true, implicitDefEqProofs := false, maxSteps := 2000000}) [-Int.not_le, -Int.not_lt, argsF, impl_makeCover_l0, hat_ps.blk, hat_ps.esz, hat_ps.len, hat_ps.els, hne_ps, hne1_ps, hne2_ps.1, hne2_ps.2.1, hne2_ps.2.2.1, hne2_ps.2.2.2.1, hne2_ps.2.2.2.2.1, hne2_ps.2.2.2.2.2.1, hne2_ps.2.2.2.2.2.2.1, hne2_ps.2.2.2.2.2.2.2.1, hne2_ps.2.2.2.2.2.2.2.2.1, hne2_ps.2.2.2.2.2.2.2.2.2.1, hne2_ps.2.2.2.2.2.2.2.2.2.2, e1, hj1, w1, w2, hlt, hin, boxC, hs1, hs2, hs3]
        have hwf := hwf4
        exact ⟨out ++ [ps[j].frm], by rw [← hi]; simp, .le (by simp only [push_n]; omega) (.one (H := ((((H.push (boxC x)).push (boxC zeroC)).push (rowK eI 3 [x.day])).push (rowK eI 3 [x.zone]))) (c := some (H.n + 1 + 1 + 1 + 1 + 1 + 1 + 1)) hwf (by (repeat first | exact Sub.refl _ | refine Sub.push hwf ?_ _ | refine Sub.set hwf ?_ (by first | exact Nat.le_refl _ | omega | (simp only [push_n, set_n, kill_n]; omega)) _ | refine Sub.kill hwf ?_ (by first | exact Nat.le_refl _ | omega | (simp only [push_n, set_n, kill_n]; omega)))) ⟨by simp only [push_n]; omega, by simp [push_b, set_b, kill_b, rowK]; done⟩ (plain_map (fun _ => rfl) _) (by simp [frOk, AV.okR, AV.ok1, AC.okR, AV.ren, AV.ren1, AC.ren, AFrame.get, pl1_old, *]; first | done | rfl | omega))⟩
    · have hi2 : out = 0 :: raDays ps := by simpa [raDays] using hi
      clear hi
      have hol : out.length ≤ 1000000 := by rw [hi2]; simp only [List.length_cons]; omega
      have hol0 : 0 < out.length := by rw [hi2]; simp
      have hsl : (sortI (0 :: raDays ps)).length = out.length := by rw [sortI_len, hi2]
      by_cases hb2 : chB ch 2 = true
      · have hb2' : ¬ chB ch 2 = false := by simp [hb2]
        simp (config := {contextual := true, implicitDefEqProofs := false, maxSteps := 2000000}) [-Int.not_le, -Int.not_lt, argsF, impl_makeCover_l0, hat_ps.blk, hat_ps.esz, hat_ps.len, hat_ps.els, hne_ps, hne1_ps, hne2_ps.1, hne2_ps.2.1, hne2_ps.2.2.1, hne2_ps.2.2.2.1, hne2_ps.2.2.2.2.1, hne2_ps.2.2.2.2.2.1, hne2_ps.2.2.2.2.2.2.1, hne2_ps.2.2.2.2.2.2.2.1, hne2_ps.2.2.2.2.2.2.2.2.1, hne2_ps.2.2.2.2.2.2.2.2.2.1, hne2_ps.2.2.2.2.2.2.2.2.2.2, boxC, hol, hol0, push_setE, rowK, ha2, hb2']
        rw [← hsl, hi2]
        refine aloop_gen (fun G => MK G H (H.n + 1 + 1 + 1 + 1) (H.n + 1 + 1 + 1 + 1 + 1) x ((sortI (0 :: raDays ps))) (([0, 1, 2, 3, 4, 5, 6, 7, 8, 9] : List Int))) ⟨row_wf (row_wf (row_wf (row_wf (boxC_wf (boxC_wf hwf x) zeroC) [x.day] (by simp)) [x.zone] (by simp)) (sortI (0 :: raDays ps)) (by rw [hsl]; exact hol)) ([0, 1, 2, 3, 4, 5, 6, 7, 8, 9] : List Int) (by simp), (by (repeat first | exact Sub.refl _ | refine Sub.push hwf ?_ _ | refine Sub.set hwf ?_ (by first | exact Nat.le_refl _ | omega | (simp only [push_n, set_n, kill_n]; omega)) _ | refine Sub.kill hwf ?_ (by first | exact Nat.le_refl _ | omega | (simp only [push_n, set_n, kill_n]; omega)))), by simp [push_b, boxC, rowK]; done, by simp [push_b, boxC, rowK, zeroC]; done, by simp [push_b, boxC, rowK, reK]; done, by simp [push_b, boxC, rowK]; done, by omega, by omega⟩ fun G hG => ?_
        have hres : pairM (gDI ps x ch (([0, 1, 2, 3, 4, 5, 6, 7, 8, 9] : List Int)) ((sortI (0 :: raDays ps)))) = pairM (mkM ps x ch) := congrArg pairM (by rw [← mk_same hv]; unfold daysI zonesM; simp only [hb1, hb2, if_true, if_false, reduceCtorEq]; rfl)
        have hdl : ((sortI (0 :: raDays ps))).length ≤ 1000000 := by rw [hsl]; exact hol
        have hzl : (([0, 1, 2, 3, 4, 5, 6, 7, 8, 9] : List Int)).length ≤ 1000000 := by simp
        have hzq : (([0, 1, 2, 3, 4, 5, 6, 7, 8, 9] : List Int)).length = 10 := rfl

        generalize hgD : (sortI (0 :: raDays ps)) = D at hG hres hdl  ⊢
        generalize hgZ : ([0, 1, 2, 3, 4, 5, 6, 7, 8, 9] : List Int) = Z at hG hres hzl hzq ⊢
        generalize hgR : pairM (mkM ps x ch) = R at h hres
        clear hgD hgZ
        have hGw := hG.wf
        have hnG : H.n + 1 < G.n := (hGw _ _ hG.ba).1
        have hbd := (hGw _ _ hG.rd).1
        have hbz := (hGw _ _ hG.rz).1
        have hd0 := hG.d0
        have hz0 := hG.z0
        have gps : G.b b_ps = some k_ps := hG.sub.1.2 _ _ hat_ps.blk
        have hba := hG.ba
        have hrd := hG.rd
        have hrz := hG.rz
        have hbx := hG.bx
        have e0 : (H.n + 1 = H.n) = False := eq_false (by omega)
        have e1 : (H.n + 1 + 1 + 1 + 1 = H.n) = False := eq_false (by omega)
        have e2 : (H.n + 1 + 1 + 1 + 1 + 1 = H.n) = False := eq_false (by omega)
        have e3 : (H.n = G.n) = False := eq_false (by omega)
        have e4 : (H.n + 1 = G.n) = False := eq_false (by omega)
        have e5 : (b_ps = G.n) = False := eq_false (by omega)
        have e6 : (H.n + 1 + 1 + 1 + 1 = G.n) = False := eq_false (by omega)
        have e7 : (H.n + 1 + 1 + 1 + 1 + 1 = G.n) = False := eq_false (by omega)
        have e8 : (G.n = H.n) = False := eq_false (by omega)
        have l0 : H.n < G.n := by omega
        have l1 : b_ps < G.n := by omega
        refine aloop_list D (fun j (s : Int × Int) => [(0, .c (.sl b_ps i_ps ps.length)), (2, .c (.int .i64 (ch))), (4, .c (.ptr H.n 0 0)), (6, .c (.ptr (H.n + 1) 0 0)), (9, .c (.sl (H.n + 1 + 1 + 1 + 1 + 1) (0) (Z.length))), (56, .c (.sl (H.n + 1 + 1 + 1 + 1) (0) (D.length))), (57, .c (.int .i64 D.length)), (58, .c (.int .i64 (j)))]) (fun j s => G.set H.n (boxC (dz x s))) (fun j l s => pairM (gDI ps x ch Z l) = R) hE _ (x.day, x.zone) hres (by
          have hs : G.set H.n (boxC (dz x (x.day, x.zone))) = G := set_self hbx
          simp only [hs]
          exact .since (by omega) hGw (.refl _) (by simp [frOk, AV.okR, AV.ok1, AC.okR, AV.ren, AV.ren1, AC.ren, AFrame.get, pl1_old, *]; first | done | rfl | omega)) (fun j s hlt hi => ?_) fun s hi => ?_
        · have hwS := setC_wf hGw hbx (dz x s)
          have hj1 := idx_lt hlt
          have w1 : IntKind.i64.wrap ((j : Int) + 1) = (j : Int) + 1 := wrap_id (by omega) (by omega)
          rw [gDI_cons] at hi
          simp (config := {contextual := true, implicitDefEqProofs := false, maxSteps := 2000000}) [-Int.not_le, -Int.not_lt, argsF, impl_makeCover_l2, hj1, w1, hlt, hrd, hrz, hbx, boxC, e0, e1, e2]
          refine aloop_list Z (fun k (t : Int × Int) => [(0, .c (.sl b_ps i_ps ps.length)), (2, .c (.int .i64 (ch))), (4, .c (.ptr H.n 0 0)), (6, .c (.ptr (H.n + 1) 0 0)), (9, .c (.sl (H.n + 1 + 1 + 1 + 1 + 1) (0) (Z.length))), (13, .c (.int .i64 (D[j]))), (56, .c (.sl (H.n + 1 + 1 + 1 + 1) (0) (D.length))), (57, .c (.int .i64 D.length)), (58, .c (.int .i64 (j))), (62, .c (.sl (H.n + 1 + 1 + 1 + 1 + 1) (0) (Z.length))), (63, .c (.int .i64 Z.length)), (64, .c (.int .i64 (k)))]) (fun k t => G.set H.n (boxC (dz x t))) (fun k m t => pairM ((gZI ps x ch D[j] m).or (gDI ps x ch Z (D.drop (j + 1)))) = R) hE _ s hi (.since (by simp only [set_n]; omega) hwS (.refl _) (by simp [frOk, AV.okR, AV.ok1, AC.okR, AV.ren, AV.ren1, AC.ren, AFrame.get, pl1_old, *]; first | done | rfl | omega)) (fun k t hkt hm => ?_) fun t hm => ?_
          · have hwT := setC_wf hGw hbx (dz x (D[j], Z[k]))
            have hk1 := idx_lt hkt
            have w2 : IntKind.i64.wrap ((k : Int) + 1) = (k : Int) + 1 := wrap_id (by omega) (by omega)
            have hex := exB_dz ps x ch D[j] Z[k]
            rw [gZI_cons] at hm
            cases ho : (wsI ps x ch Z[k]).findSome? (hitM ps x (chB ch 8) D[j] Z[k]) with
            | none =>
              rw [ho] at hex hm
              simp only [pairM] at hex
              simp (config := {contextual := true, implicitDefEqProofs := false, maxSteps := 2000000}) [-Int.not_le, -Int.not_lt, argsF, impl_makeCover_l1, hk1, w2, hkt, hrd, hrz, hbx, hba, gps, hat_ps.blk, hat_ps.esz, hat_ps.len, hat_ps.els, hne_ps, hne1_ps, hne2_ps.1, hne2_ps.2.1, hne2_ps.2.2.1, hne2_ps.2.2.2.1, hne2_ps.2.2.2.2.1, hne2_ps.2.2.2.2.2.1, hne2_ps.2.2.2.2.2.2.1, hne2_ps.2.2.2.2.2.2.2.1, hne2_ps.2.2.2.2.2.2.2.2.1, hne2_ps.2.2.2.2.2.2.2.2.2.1, hne2_ps.2.2.2.2.2.2.2.2.2.2, hv, h0, h1, hex, boxC, e0, e1, e2, e3, e4, e5, e6, e7, e8, dz]
              exact ⟨(D[j], Z[k]), hm, .since (by simp only [set_n]; omega) hwT (by have hwf := hwT; (repeat first | exact Sub.refl _ | refine Sub.push hwf ?_ _ | refine Sub.set hwf ?_ (by first | exact Nat.le_refl _ | omega | (simp only [push_n, set_n, kill_n]; omega)) _ | refine Sub.kill hwf ?_ (by first | exact Nat.le_refl _ | omega | (simp only [push_n, set_n, kill_n]; omega)))) (by simp [frOk, AV.okR, AV.ok1, AC.okR, AV.ren, AV.ren1, AC.ren, AFrame.get, pl1_old, *]; first | done | rfl | omega)⟩
            | some y =>
              rw [ho] at hex hm
              simp only [pairM] at hex
              have hR : R = (y, true) := hm.symm
              subst hR
              simp (config := {contextual := true, implicitDefEqProofs := false, maxSteps := 2000000}) [-Int.not_le, -Int.not_lt, argsF, impl_makeCover_l1, hk1, w2, hkt, hrd, hrz, hbx, hba, gps, hat_ps.blk, hat_ps.esz, hat_ps.len, hat_ps.els, hne_ps, hne1_ps, hne2_ps.1, hne2_ps.2.1, hne2_ps.2.2.1, hne2_ps.2.2.2.1, hne2_ps.2.2.2.2.1, hne2_ps.2.2.2.2.2.1, hne2_ps.2.2.2.2.2.2.1, hne2_ps.2.2.2.2.2.2.2.1, hne2_ps.2.2.2.2.2.2.2.2.1, hne2_ps.2.2.2.2.2.2.2.2.2.1, hne2_ps.2.2.2.2.2.2.2.2.2.2, hv, h0, h1, hex, boxC, e0, e1, e2, e3, e4, e5, e6, e7, e8, dz]
              refine Out.plain (hwf) ?_ rfl ?_
              · (repeat first | exact Sub.refl _ | refine Sub.push hwf ?_ _ | refine Sub.set hwf ?_ (by first | exact Nat.le_refl _ | omega | (simp only [push_n, set_n, kill_n]; omega)) _ | refine Sub.kill hwf ?_ (by first | exact Nat.le_refl _ | omega | (simp only [push_n, set_n, kill_n]; omega)))
                exact hG.sub
              · exact h
          · have hwT := setC_wf hGw hbx (dz x t)
            simp (config := {contextual := true, implicitDefEqProofs := false, maxSteps := 2000000}) [-Int.not_le, -Int.not_lt, argsF, impl_makeCover_l1, w1, boxC]
            exact ⟨t, hm, .since (by simp only [set_n]; omega) hwT (.refl _) (by simp [frOk, AV.okR, AV.ok1, AC.okR, AV.ren, AV.ren1, AC.ren, AFrame.get, pl1_old, *]; first | done | rfl | omega)⟩
        · have hR : R = (zeroC, false) := hi.symm
          subst hR
          simp (config := {contextual := true, implicitDefEqProofs := false, maxSteps := 2000000}) [-Int.not_le, -Int.not_lt, argsF, impl_makeCover_l2, hba, hbx, boxC, e0, e1, e2]
          refine Out.plain (hwf) ?_ rfl ?_
          · (repeat first | exact Sub.refl _ | refine Sub.push hwf ?_ _ | refine Sub.set hwf ?_ (by first | exact Nat.le_refl _ | omega | (simp only [push_n, set_n, kill_n]; omega)) _ | refine Sub.kill hwf ?_ (by first | exact Nat.le_refl _ | omega | (simp only [push_n, set_n, kill_n]; omega)))
            exact hG.sub
          · exact h
      · have hb2' : chB ch 2 = false := by simpa using hb2
        simp (config := {contextual := true, implicitDefEqProofs := false, maxSteps := 2000000}) [-Int.not_le, -Int.not_lt, argsF, impl_makeCover_l0, hat_ps.blk, hat_ps.esz, hat_ps.len, hat_ps.els, hne_ps, hne1_ps, hne2_ps.1, hne2_ps.2.1, hne2_ps.2.2.1, hne2_ps.2.2.2.1, hne2_ps.2.2.2.2.1, hne2_ps.2.2.2.2.2.1, hne2_ps.2.2.2.2.2.2.1, hne2_ps.2.2.2.2.2.2.2.1, hne2_ps.2.2.2.2.2.2.2.2.1, hne2_ps.2.2.2.2.2.2.2.2.2.1, hne2_ps.2.2.2.2.2.2.2.2.2.2, boxC, hol, hol0, push_setE, rowK, ha2, hb2']
        rw [← hsl, hi2]
        refine aloop_gen (fun G => MK G H (H.n + 1 + 1 + 1 + 1) (H.n + 1 + 1 + 1) x ((sortI (0 :: raDays ps))) ([x.zone])) ⟨row_wf (row_wf (row_wf (boxC_wf (boxC_wf hwf x) zeroC) [x.day] (by simp)) [x.zone] (by simp)) (sortI (0 :: raDays ps)) (by rw [hsl]; exact hol), (by (repeat first | exact Sub.refl _ | refine Sub.push hwf ?_ _ | refine Sub.set hwf ?_ (by first | exact Nat.le_refl _ | omega | (simp only [push_n, set_n, kill_n]; omega)) _ | refine Sub.kill hwf ?_ (by first | exact Nat.le_refl _ | omega | (simp only [push_n, set_n, kill_n]; omega)))), by simp [push_b, boxC, rowK]; done, by simp [push_b, boxC, rowK, zeroC]; done, by simp [push_b, boxC, rowK, reK]; done, by simp [push_b, boxC, rowK]; done, by omega, by omega⟩ fun G hG => ?_
        have hres : pairM (gDI ps x ch ([x.zone]) ((sortI (0 :: raDays ps)))) = pairM (mkM ps x ch) := congrArg pairM (by rw [← mk_same hv]; unfold daysI zonesM; simp only [hb1, hb2, if_true, if_false, reduceCtorEq]; rfl)
        have hdl : ((sortI (0 :: raDays ps))).length ≤ 1000000 := by rw [hsl]; exact hol
        have hzl : ([x.zone]).length ≤ 1000000 := by simp
        have hzq : ([x.zone]).length = 1 := rfl

        generalize hgD : (sortI (0 :: raDays ps)) = D at hG hres hdl  ⊢
        generalize hgZ : [x.zone] = Z at hG hres hzl hzq ⊢
        generalize hgR : pairM (mkM ps x ch) = R at h hres
        clear hgD hgZ
        have hGw := hG.wf
        have hnG : H.n + 1 < G.n := (hGw _ _ hG.ba).1
        have hbd := (hGw _ _ hG.rd).1
        have hbz := (hGw _ _ hG.rz).1
        have hd0 := hG.d0
        have hz0 := hG.z0
        have gps : G.b b_ps = some k_ps := hG.sub.1.2 _ _ hat_ps.blk
        have hba := hG.ba
        have hrd := hG.rd
        have hrz := hG.rz
        have hbx := hG.bx
        have e0 : (H.n + 1 = H.n) = False := eq_false (by omega)
        have e1 : (H.n + 1 + 1 + 1 + 1 = H.n) = False := eq_false (by omega)
        have e2 : (H.n + 1 + 1 + 1 = H.n) = False := eq_false (by omega)
        have e3 : (H.n = G.n) = False := eq_false (by omega)
        have e4 : (H.n + 1 = G.n) = False := eq_false (by omega)
        have e5 : (b_ps = G.n) = False := eq_false (by omega)
        have e6 : (H.n + 1 + 1 + 1 + 1 = G.n) = False := eq_false (by omega)
        have e7 : (H.n + 1 + 1 + 1 = G.n) = False := eq_false (by omega)
        have e8 : (G.n = H.n) = False := eq_false (by omega)
        have l0 : H.n < G.n := by omega
        have l1 : b_ps < G.n := by omega
        refine aloop_list D (fun j (s : Int × Int) => [(0, .c (.sl b_ps i_ps ps.length)), (2, .c (.int .i64 (ch))), (4, .c (.ptr H.n 0 0)), (6, .c (.ptr (H.n + 1) 0 0)), (9, .c (.sl (H.n + 1 + 1 + 1) (0) (Z.length))), (56, .c (.sl (H.n + 1 + 1 + 1 + 1) (0) (D.length))), (57, .c (.int .i64 D.length)), (58, .c (.int .i64 (j)))]) (fun j s => G.set H.n (boxC (dz x s))) (fun j l s => pairM (gDI ps x ch Z l) = R) hE _ (x.day, x.zone) hres (by
          have hs : G.set H.n (boxC (dz x (x.day, x.zone))) = G := set_self hbx
          simp only [hs]
          exact .since (by omega) hGw (.refl _) (by simp [frOk, AV.okR, AV.ok1, AC.okR, AV.ren, AV.ren1, AC.ren, AFrame.get, pl1_old, *]; first | done | rfl | omega)) (fun j s hlt hi => ?_) fun s hi => ?_
        · have hwS := setC_wf hGw hbx (dz x s)
          have hj1 := idx_lt hlt
          have w1 : IntKind.i64.wrap ((j : Int) + 1) = (j : Int) + 1 := wrap_id (by omega) (by omega)
          rw [gDI_cons] at hi
          simp (config := {contextual := true, implicitDefEqProofs := false, maxSteps := 2000000}) [-Int.not_le, -Int.not_lt, argsF, impl_makeCover_l2, hj1, w1, hlt, hrd, hrz, hbx, boxC, e0, e1, e2]
          refine aloop_list Z (fun k (t : Int × Int) => [(0, .c (.sl b_ps i_ps ps.length)), (2, .c (.int .i64 (ch))), (4, .c (.ptr H.n 0 0)), (6, .c (.ptr (H.n + 1) 0 0)), (9, .c (.sl (H.n + 1 + 1 + 1) (0) (Z.length))), (13, .c (.int .i64 (D[j]))), (56, .c (.sl (H.n + 1 + 1 + 1 + 1) (0) (D.length))), (57, .c (.int .i64 D.length)), (58, .c (.int .i64 (j))), (62, .c (.sl (H.n + 1 + 1 + 1) (0) (Z.length))), (63, .c (.int .i64 Z.length)), (64, .c (.int .i64 (k)))]) (fun k t => G.set H.n (boxC (dz x t))) (fun k m t => pairM ((gZI ps x ch D[j] m).or (gDI ps x ch Z (D.drop (j + 1)))) = R) hE _ s hi (.since (by simp only [set_n]; omega) hwS (.refl _) (by simp [frOk, AV.okR, AV.ok1, AC.okR, AV.ren, AV.ren1, AC.ren, AFrame.get, pl1_old, *]; first | done | rfl | omega)) (fun k t hkt hm => ?_) fun t hm => ?_
          · have hwT := setC_wf hGw hbx (dz x (D[j], Z[k]))
            have hk1 := idx_lt hkt
            have w2 : IntKind.i64.wrap ((k : Int) + 1) = (k : Int) + 1 := wrap_id (by omega) (by omega)
            have hex := exB_dz ps x ch D[j] Z[k]
            rw [gZI_cons] at hm
            cases ho : (wsI ps x ch Z[k]).findSome? (hitM ps x (chB ch 8) D[j] Z[k]) with
            | none =>
              rw [ho] at hex hm
              simp only [pairM] at hex
              simp (config := {contextual := true, implicitDefEqProofs := false, maxSteps := 2000000}) [-Int.not_le, -Int.not_lt, argsF, impl_makeCover_l1, hk1, w2, hkt, hrd, hrz, hbx, hba, gps, hat_ps.blk, hat_ps.esz, hat_ps.len, hat_ps.els, hne_ps, hne1_ps, hne2_ps.1, hne2_ps.2.1, hne2_ps.2.2.1, hne2_ps.2.2.2.1, hne2_ps.2.2.2.2.1, hne2_ps.2.2.2.2.2.1, hne2_ps.2.2.2.2.2.2.1, hne2_ps.2.2.2.2.2.2.2.1, hne2_ps.2.2.2.2.2.2.2.2.1, hne2_ps.2.2.2.2.2.2.2.2.2.1, hne2_ps.2.2.2.2.2.2.2.2.2.2, hv, h0, h1, hex, boxC, e0, e1, e2, e3, e4, e5, e6, e7, e8, dz]
              exact ⟨(D[j], Z[k]), hm, .since (by simp only [set_n]; omega) hwT (by have hwf := hwT; (repeat first | exact Sub.refl _ | refine Sub.push hwf ?_ _ | refine Sub.set hwf ?_ (by first | exact Nat.le_refl _ | omega | (simp only [push_n, set_n, kill_n]; omega)) _ | refine Sub.kill hwf ?_ (by first | exact Nat.le_refl _ | omega | (simp only [push_n, set_n, kill_n]; omega)))) (by simp [frOk, AV.okR, AV.ok1, AC.okR, AV.ren, AV.ren1, AC.ren, AFrame.get, pl1_old, *]; first | done | rfl | omega)⟩
            | some y =>
              rw [ho] at hex hm
              simp only [pairM] at hex
              have hR : R = (y, true) := hm.symm
              subst hR
              simp (config := {contextual := true, implicitDefEqProofs := false, maxSteps := 2000000}) [-Int.not_le, -Int.not_lt, argsF, impl_makeCover_l1, hk1, w2, hkt, hrd, hrz, hbx, hba, gps, hat_ps.blk, hat_ps.esz, hat_ps.len, hat_ps.els, hne_ps, hne1_ps, hne2_ps.1, hne2_ps.2.1, hne2_ps.2.2.1, hne2_ps.2.2.2.1, hne2_ps.2.2.2.2.1, hne2_ps.2.2.2.2.2.1, hne2_ps.2.2.2.2.2.2.1, hne2_ps.2.2.2.2.2.2.2.1, hne2_ps.2.2.2.2.2.2.2.2.1, hne2_ps.2.2.2.2.2.2.2.2.2.1, hne2_ps.2.2.2.2.2.2.2.2.2.2, hv, h0, h1, hex, boxC, e0, e1, e2, e3, e4, e5, e6, e7, e8, dz]
              refine Out.plain (hwf) ?_ rfl ?_
              · (repeat first | exact Sub.refl _ | refine Sub.push hwf ?_ _ | refine Sub.set hwf ?_ (by first | exact Nat.le_refl _ | omega | (simp only [push_n, set_n, kill_n]; omega)) _ | refine Sub.kill hwf ?_ (by first | exact Nat.le_refl _ | omega | (simp only [push_n, set_n, kill_n]; omega)))
                exact hG.sub
              · exact h
          · have hwT := setC_wf hGw hbx (dz x t)
            simp (config := {contextual := true, implicitDefEqProofs := false, maxSteps := 2000000}) [-Int.not_le, -Int.not_lt, argsF, impl_makeCover_l1, w1, boxC]
            exact ⟨t, hm, .since (by simp only [set_n]; omega) hwT (.refl _) (by simp [frOk, AV.okR, AV.ok1, AC.okR, AV.ren, AV.ren1, AC.ren, AFrame.get, pl1_old, *]; first | done | rfl | omega)⟩
        · have hR : R = (zeroC, false) := hi.symm
          subst hR
          simp (config := {contextual := true, implicitDefEqProofs := false, maxSteps := 2000000}) [-Int.not_le, -Int.not_lt, argsF, impl_makeCover_l2, hba, hbx, boxC, e0, e1, e2]
          refine Out.plain (hwf) ?_ rfl ?_
          · (repeat first | exact Sub.refl _ | refine Sub.push hwf ?_ _ | refine Sub.set hwf ?_ (by first | exact Nat.le_refl _ | omega | (simp only [push_n, set_n, kill_n]; omega)) _ | refine Sub.kill hwf ?_ (by first | exact Nat.le_refl _ | omega | (simp only [push_n, set_n, kill_n]; omega)))
            exact hG.sub
          · exact h

end Go.Proofs.Ytjiffkjeijfilaa
