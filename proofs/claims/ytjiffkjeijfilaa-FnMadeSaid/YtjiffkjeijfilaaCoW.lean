/- The cover that a change makes: the reference; MakeCover. -/
import Derived.Test.YtjiffkjeijfilaaCoY
import Derived.Test.YtjiffkjeijfilaaCoZ
set_option maxRecDepth 8000
set_option linter.unusedSimpArgs false
set_option linter.unusedVariables false
namespace Go.Proofs.Ytjiffkjeijfilaa
open Go Go.RowKit

set_option maxHeartbeats 4000000
theorem putAll_len : ∀ (l o : List Int), (putAll l o).length ≤ o.length + l.length
  | [], o => by simp [putAll]
  | x :: r, o => by
    have h1 := putAll_len r (putI o x)
    have h2 := putI_len o x
    rw [putAll, List.length_cons]
    omega
def gDS (ps : List Ra) (x : Cv) (fr : Bool) (Z W l : List Int) : Option Cv := l.findSome? fun d => Z.findSome? fun z => W.findSome? (hitM ps x fr d z)
def gZS (ps : List Ra) (x : Cv) (fr : Bool) (W : List Int) (d : Int) (l : List Int) : Option Cv := l.findSome? fun z => W.findSome? (hitM ps x fr d z)
theorem gDS_cons (ps : List Ra) (x : Cv) (fr : Bool) (Z W : List Int) (d : Int) (l : List Int) : gDS ps x fr Z W (d :: l) = (gZS ps x fr W d Z).or (gDS ps x fr Z W l) := fs_cons d l
theorem gZS_cons (ps : List Ra) (x : Cv) (fr : Bool) (W : List Int) (d z : Int) (l : List Int) : gZS ps x fr W d (z :: l) = (W.findSome? (hitM ps x fr d z)).or (gZS ps x fr W d l) := fs_cons z l
structure MS (G H : AHeap) (x : Cv) (D Z W : List Int) : Prop where
  wf : G.WF
  sub : Sub H G
  bx : G.b H.n = some (boxC x)
  ba : G.b (H.n + 1) = some (boxC zeroC)
  rd : G.b (H.n + 1 + 1) = some (rowK eI 3 D)
  rz : G.b (H.n + 1 + 1 + 1) = some (rowK eI 3 Z)
  rw : G.b (H.n + 1 + 1 + 1 + 1) = some (rowK eI 3 W)

theorem spec_l12Make_s : Sound Try.prog 98 q_mk := by
  intro args H K h
  unfold q_mk at h
  split at h
  rotate_left
  all_goals first | exact False.elim h | skip
  rename_i ps_v x_e ch
  have h1 := Enc.rd_at h
  clear h
  obtain ⟨b_ps, i_ps, k_ps, ps, rfl, hat_ps, h⟩ := h1
  have h1 := onv_iff.1 h
  clear h
  obtain ⟨x, hd_x, h⟩ := h1
  obtain rfl := eCv.cd _ _ hd_x
  clear hd_x
  have hE := soundE_cons spec_l12Has_s (soundE_cons spec_l12Days_s (soundE_cons spec_l12Zones_s (soundE_cons spec_l12Weights_s (soundE_cons spec_l8For_s (soundE_cons spec_l12Explained_s (soundE_nil (P := Try.prog)))))))
  refine acalls_fn spec_l12Make_k hE ⟨by simp, fun hwf => ?_⟩
  have hb_ps : b_ps < H.n := (hwf b_ps k_ps hat_ps.blk).1
  have hne_ps : (b_ps = H.n) = False := eq_false (by omega)
  have hne1_ps : ∀ i, (b_ps = H.n + i) = False := fun i => eq_false (by omega)
  have hne2_ps : (b_ps = H.n + 1 + 1) = False ∧ (b_ps = H.n + 1 + 1 + 1) = False ∧ (b_ps = H.n + 1 + 1 + 1 + 1) = False ∧ (b_ps = H.n + 1 + 1 + 1 + 1 + 1) = False ∧ (b_ps = H.n + 1 + 1 + 1 + 1 + 1 + 1) = False ∧ (b_ps = H.n + 1 + 1 + 1 + 1 + 1 + 1 + 1) = False ∧ (b_ps = H.n + 1 + 1 + 1 + 1 + 1 + 1 + 1 + 1) = False ∧ (b_ps = H.n + 1 + 1 + 1 + 1 + 1 + 1 + 1 + 1 + 1) = False ∧ (b_ps = H.n + 1 + 1 + 1 + 1 + 1 + 1 + 1 + 1 + 1 + 1) = False ∧ (b_ps = H.n + 1 + 1 + 1 + 1 + 1 + 1 + 1 + 1 + 1 + 1 + 1) = False ∧ (b_ps = H.n + 1 + 1 + 1 + 1 + 1 + 1 + 1 + 1 + 1 + 1 + 1 + 1) = False := ⟨eq_false (by omega), eq_false (by omega), eq_false (by omega), eq_false (by omega), eq_false (by omega), eq_false (by omega), eq_false (by omega), eq_false (by omega), eq_false (by omega), eq_false (by omega), eq_false (by omega)⟩
  have hmx_ps : ps.length ≤ 9223372036854775807 := by have h1 := (hwf b_ps k_ps hat_ps.blk).2.2; have h2 := hat_ps.len; omega
  obtain ⟨hv, h0, h1, h⟩ := h
  have hpl := areRa_len hv
  have hdl : (dDays ps x.day (chB ch 1)).length ≤ 1000000 := by
    have := raDays_len ps
    have h2 := putAll_len (raDays ps) [0]
    simp only [List.length_cons, List.length_nil] at h2
    unfold dDays; split <;> simp <;> omega
  have hzl : (dZones x.zone (chB ch 2)).length ≤ 1000000 := by unfold dZones; split <;> simp
  have hwl : (dWs ps x.grams (chB ch 4)).length ≤ 1000000 := by
    have := raW_len ps
    have h2 := putAll_len (raW ps) [1]
    simp only [List.length_cons, List.length_nil] at h2
    unfold dWs; split <;> simp <;> omega
  have hres : pairM (gDS ps x (chB ch 8) (dZones x.zone (chB ch 2)) (dWs ps x.grams (chB ch 4)) (dDays ps x.day (chB ch 1))) = pairM (mkM ps x ch) := rfl
  have hwz : (((H.push (boxC x)).push (boxC zeroC)).push (rowK eI 3 (dDays ps x.day (chB ch 1)))).WF := row_wf (boxC_wf (boxC_wf hwf x) zeroC) _ hdl
  have hww : ((((H.push (boxC x)).push (boxC zeroC)).push (rowK eI 3 (dDays ps x.day (chB ch 1)))).push (rowK eI 3 (dZones x.zone (chB ch 2)))).WF := row_wf hwz _ hzl
  have hwv := row_wf hww (dWs ps x.grams (chB ch 4)) hwl
  simp (config := {contextual := true, implicitDefEqProofs := false, maxSteps := 2000000}) [-Int.not_le, -Int.not_lt, argsF, spec_l12Make_c, hat_ps.blk, hat_ps.esz, hat_ps.len, hat_ps.els, hne_ps, hne1_ps, hne2_ps.1, hne2_ps.2.1, hne2_ps.2.2.1, hne2_ps.2.2.2.1, hne2_ps.2.2.2.2.1, hne2_ps.2.2.2.2.2.1, hne2_ps.2.2.2.2.2.2.1, hne2_ps.2.2.2.2.2.2.2.1, hne2_ps.2.2.2.2.2.2.2.2.1, hne2_ps.2.2.2.2.2.2.2.2.2.1, hne2_ps.2.2.2.2.2.2.2.2.2.2, hv, h0, h1]
  generalize dDays ps x.day (chB ch 1) = D at hdl hres hwz hww hwv ⊢
  generalize dZones x.zone (chB ch 2) = Z at hzl hres hww hwv ⊢
  generalize dWs ps x.grams (chB ch 4) = W at hwl hres hwv ⊢
  refine aloop_gen (fun G => MS G H x D Z W) ⟨hwv, (by (repeat first | exact Sub.refl _ | refine Sub.push hwf ?_ _ | refine Sub.set hwf ?_ (by first | exact Nat.le_refl _ | omega | (simp only [push_n, set_n, kill_n]; omega)) _ | refine Sub.kill hwf ?_ (by first | exact Nat.le_refl _ | omega | (simp only [push_n, set_n, kill_n]; omega)))), by simp [push_b, boxC, rowK]; done, by simp [push_b, boxC, rowK, zeroC]; done, by simp [push_b, boxC, rowK]; done, by simp [push_b, boxC, rowK]; done, by simp [push_b, boxC, rowK]; done⟩ fun G hG => ?_
  generalize pairM (mkM ps x ch) = R at h hres
  have hGw := hG.wf
  have hnG : H.n + 1 + 1 + 1 + 1 < G.n := (hGw _ _ hG.rw).1
  have gps : G.b b_ps = some k_ps := hG.sub.1.2 _ _ hat_ps.blk
  have hba := hG.ba
  have hrd := hG.rd
  have hrz := hG.rz
  have hrw := hG.rw
  have hbx := hG.bx
  have e0 : (H.n = G.n) = False := eq_false (by omega)
  have e1 : (H.n + 1 = G.n) = False := eq_false (by omega)
  have e2 : (H.n + 1 + 1 = G.n) = False := eq_false (by omega)
  have e3 : (H.n + 1 + 1 + 1 = G.n) = False := eq_false (by omega)
  have e4 : (H.n + 1 + 1 + 1 + 1 = G.n) = False := eq_false (by omega)
  have e5 : (b_ps = G.n) = False := eq_false (by omega)
  have e6 : (G.n = H.n) = False := eq_false (by omega)
  have e7 : (G.n = H.n + 1) = False := eq_false (by omega)
  have e8 : (G.n = H.n + 1 + 1) = False := eq_false (by omega)
  have e9 : (G.n = b_ps) = False := eq_false (by omega)
  have p0 : H.n < G.n := by omega
  have p1 : H.n + 1 < G.n := by omega
  have p2 : H.n + 1 + 1 < G.n := by omega
  have p3 : H.n + 1 + 1 + 1 < G.n := by omega
  have p4 : b_ps < G.n := by omega
  refine aloop_list D (fun j (_ : Unit) => [(0, .c (.sl b_ps i_ps ps.length)), (2, .c (.int .i64 (ch))), (4, .c (.ptr H.n 0 0)), (6, .c (.ptr (H.n + 1) 0 0)), (8, .c (.sl (H.n + 1 + 1) (0) (D.length))), (9, .c (.sl (H.n + 1 + 1 + 1) (0) (Z.length))), (10, .c (.sl (H.n + 1 + 1 + 1 + 1) (0) (W.length))), (11, .c (.int .i64 ((j : Int))))]) (fun j _ => G) (fun j l _ => pairM (gDS ps x (chB ch 8) Z W l) = R) hE _ () hres (.since (by omega) hGw (.refl _) (by simp [frOk, AV.okR, AV.ok1, AC.okR, AV.ren, AV.ren1, AC.ren, AFrame.get, pl1_old, *]; first | done | rfl | omega)) (fun j _ hlt hi => ?_) fun _ hi => ?_
  rotate_left
  · have hR : R = (zeroC, false) := hi.symm
    subst hR
    simp (config := {contextual := true, implicitDefEqProofs := false, maxSteps := 2000000}) [-Int.not_le, -Int.not_lt, argsF, spec_l12Make_l2, hrd, hrz, hrw, hbx, hba, gps, boxC, e0, e1, e2, e3, e4, e5, e6, e7, e8, e9]
    refine Out.plain (hwf) ?_ rfl ?_
    · (repeat first | exact Sub.refl _ | refine Sub.push hwf ?_ _ | refine Sub.set hwf ?_ (by first | exact Nat.le_refl _ | omega | (simp only [push_n, set_n, kill_n]; omega)) _ | refine Sub.kill hwf ?_ (by first | exact Nat.le_refl _ | omega | (simp only [push_n, set_n, kill_n]; omega)))
      exact hG.sub
    · exact h
  have hj1 := idx_lt hlt
  have w1 : IntKind.i64.wrap ((j : Int) + 1) = (j : Int) + 1 := wrap_id (by omega) (by omega)
  rw [gDS_cons] at hi
  simp (config := {contextual := true, implicitDefEqProofs := false, maxSteps := 2000000}) [-Int.not_le, -Int.not_lt, argsF, spec_l12Make_l2, hj1, w1, hlt, hrd, hrz, hrw, hbx, hba, gps, boxC, e0, e1, e2, e3, e4, e5, e6, e7, e8, e9]
  refine aloop_list Z (fun k (_ : Unit) => [(0, .c (.sl b_ps i_ps ps.length)), (2, .c (.int .i64 (ch))), (4, .c (.ptr H.n 0 0)), (6, .c (.ptr (H.n + 1) 0 0)), (8, .c (.sl (H.n + 1 + 1) (0) (D.length))), (9, .c (.sl (H.n + 1 + 1 + 1) (0) (Z.length))), (10, .c (.sl (H.n + 1 + 1 + 1 + 1) (0) (W.length))), (11, .c (.int .i64 ((j : Int)))), (12, .c (.int .i64 ((k : Int))))]) (fun k _ => G) (fun k m _ => pairM ((gZS ps x (chB ch 8) W D[j] m).or (gDS ps x (chB ch 8) Z W (D.drop (j + 1)))) = R) hE _ () hi (.since (by omega) hGw (.refl _) (by simp [frOk, AV.okR, AV.ok1, AC.okR, AV.ren, AV.ren1, AC.ren, AFrame.get, pl1_old, *]; first | done | rfl | omega)) (fun k _ hkt hm => ?_) fun _ hm => ?_
  rotate_left
  · simp (config := {contextual := true, implicitDefEqProofs := false, maxSteps := 2000000}) [-Int.not_le, -Int.not_lt, argsF, spec_l12Make_l1, w1, hrd, hrz, hrw, hbx, hba, gps, boxC, e0, e1, e2, e3, e4, e5, e6, e7, e8, e9]
    exact ⟨(), hm, .since (by omega) hGw (.refl _) (by simp [frOk, AV.okR, AV.ok1, AC.okR, AV.ren, AV.ren1, AC.ren, AFrame.get, pl1_old, *]; first | done | rfl | omega)⟩
  have hk1 := idx_lt hkt
  have w2 : IntKind.i64.wrap ((k : Int) + 1) = (k : Int) + 1 := wrap_id (by omega) (by omega)
  rw [gZS_cons] at hm
  simp (config := {contextual := true, implicitDefEqProofs := false, maxSteps := 2000000}) [-Int.not_le, -Int.not_lt, argsF, spec_l12Make_l1, hk1, w2, hkt, hrd, hrz, hrw, hbx, hba, gps, boxC, e0, e1, e2, e3, e4, e5, e6, e7, e8, e9]
  refine aloop_list W (fun n (_ : Unit) => [(0, .c (.sl b_ps i_ps ps.length)), (2, .c (.int .i64 (ch))), (4, .c (.ptr H.n 0 0)), (6, .c (.ptr (H.n + 1) 0 0)), (8, .c (.sl (H.n + 1 + 1) (0) (D.length))), (9, .c (.sl (H.n + 1 + 1 + 1) (0) (Z.length))), (10, .c (.sl (H.n + 1 + 1 + 1 + 1) (0) (W.length))), (11, .c (.int .i64 ((j : Int)))), (12, .c (.int .i64 ((k : Int)))), (13, .c (.int .i64 ((n : Int))))]) (fun n _ => G) (fun n q _ => pairM (((q.findSome? (hitM ps x (chB ch 8) D[j] Z[k])).or (gZS ps x (chB ch 8) W D[j] (Z.drop (k + 1)))).or (gDS ps x (chB ch 8) Z W (D.drop (j + 1)))) = R) hE _ () hm (.since (by omega) hGw (.refl _) (by simp [frOk, AV.okR, AV.ok1, AC.okR, AV.ren, AV.ren1, AC.ren, AFrame.get, pl1_old, *]; first | done | rfl | omega)) (fun n _ hnt hq => ?_) fun _ hq => ?_
  rotate_left
  · simp (config := {contextual := true, implicitDefEqProofs := false, maxSteps := 2000000}) [-Int.not_le, -Int.not_lt, argsF, spec_l12Make_l0, w2, hrd, hrz, hrw, hbx, hba, gps, boxC, e0, e1, e2, e3, e4, e5, e6, e7, e8, e9]
    exact ⟨(), hq, .since (by omega) hGw (.refl _) (by simp [frOk, AV.okR, AV.ok1, AC.okR, AV.ren, AV.ren1, AC.ren, AFrame.get, pl1_old, *]; first | done | rfl | omega)⟩
  have hn1 := idx_lt hnt
  have w3 : IntKind.i64.wrap ((n : Int) + 1) = (n : Int) + 1 := wrap_id (by omega) (by omega)
  rw [fs_cons] at hq
  have hhit : hitM ps x (chB ch 8) D[j] Z[k] W[n] = if 0 < (forGo D[j] Z[k] W[n] ps).1 ∧ (chB ch 8 = true ∨ (forGo D[j] Z[k] W[n] ps).1 = x.paid) then some (setCv x D[j] Z[k] W[n] (forGo D[j] Z[k] W[n] ps).1) else none := rfl
  rw [hhit] at hq
  clear hhit
  generalize hfg : forGo D[j] Z[k] W[n] ps = fg at hq
  have hb : ∀ o, chB ch 8 = o → (chB ch 8 = o) = True := fun o e => eq_true e
  cases h8 : chB ch 8 with
  | true =>
    by_cases hc : 0 < fg.1
    · rw [if_pos ⟨hc, .inl h8⟩] at hq
      have hR : R = (setCv x D[j] Z[k] W[n] fg.1, true) := hq.symm
      subst hR
      simp (config := {contextual := true, implicitDefEqProofs := false, maxSteps := 2000000}) [-Int.not_le, -Int.not_lt, argsF, spec_l12Make_l0, hn1, w3, hnt, hkt, hk1, hlt, hj1, hrd, hrz, hrw, hbx, hba, gps, boxC, e0, e1, e2, e3, e4, e5, e6, e7, e8, e9, hat_ps.blk, hat_ps.esz, hat_ps.len, hat_ps.els, hne_ps, hne1_ps, hne2_ps.1, hne2_ps.2.1, hne2_ps.2.2.1, hne2_ps.2.2.2.1, hne2_ps.2.2.2.2.1, hne2_ps.2.2.2.2.2.1, hne2_ps.2.2.2.2.2.2.1, hne2_ps.2.2.2.2.2.2.2.1, hne2_ps.2.2.2.2.2.2.2.2.1, hne2_ps.2.2.2.2.2.2.2.2.2.1, hne2_ps.2.2.2.2.2.2.2.2.2.2, h0, h1, h8, hfg, hc]
      refine Out.plain (hwf) ?_ rfl ?_
      · (repeat first | exact Sub.refl _ | refine Sub.push hwf ?_ _ | refine Sub.set hwf ?_ (by first | exact Nat.le_refl _ | omega | (simp only [push_n, set_n, kill_n]; omega)) _ | refine Sub.kill hwf ?_ (by first | exact Nat.le_refl _ | omega | (simp only [push_n, set_n, kill_n]; omega)))
        exact hG.sub
      · exact h
    · rw [if_neg (fun h0 => hc h0.1)] at hq
      simp (config := {contextual := true, implicitDefEqProofs := false, maxSteps := 2000000}) [-Int.not_le, -Int.not_lt, argsF, spec_l12Make_l0, hn1, w3, hnt, hkt, hk1, hlt, hj1, hrd, hrz, hrw, hbx, hba, gps, boxC, e0, e1, e2, e3, e4, e5, e6, e7, e8, e9, hat_ps.blk, hat_ps.esz, hat_ps.len, hat_ps.els, hne_ps, hne1_ps, hne2_ps.1, hne2_ps.2.1, hne2_ps.2.2.1, hne2_ps.2.2.2.1, hne2_ps.2.2.2.2.1, hne2_ps.2.2.2.2.2.1, hne2_ps.2.2.2.2.2.2.1, hne2_ps.2.2.2.2.2.2.2.1, hne2_ps.2.2.2.2.2.2.2.2.1, hne2_ps.2.2.2.2.2.2.2.2.2.1, hne2_ps.2.2.2.2.2.2.2.2.2.2, h0, h1, h8, hfg, hc]
      rw [h8] at hq
      exact ⟨(), hq, .since (by omega) hGw (by have hwf := hGw; (repeat first | exact Sub.refl _ | refine Sub.push hwf ?_ _ | refine Sub.set hwf ?_ (by first | exact Nat.le_refl _ | omega | (simp only [push_n, set_n, kill_n]; omega)) _ | refine Sub.kill hwf ?_ (by first | exact Nat.le_refl _ | omega | (simp only [push_n, set_n, kill_n]; omega)))) (by simp [frOk, AV.okR, AV.ok1, AC.okR, AV.ren, AV.ren1, AC.ren, AFrame.get, pl1_old, *]; first | done | rfl | omega)⟩
  | false =>
    by_cases hc : 0 < x.paid
    · by_cases he : fg.1 = x.paid
      · rw [if_pos ⟨by omega, .inr he⟩] at hq
        have hR : R = (setCv x D[j] Z[k] W[n] fg.1, true) := hq.symm
        subst hR
        simp (config := {contextual := true, implicitDefEqProofs := false, maxSteps := 2000000}) [-Int.not_le, -Int.not_lt, argsF, spec_l12Make_l0, hn1, w3, hnt, hkt, hk1, hlt, hj1, hrd, hrz, hrw, hbx, hba, gps, boxC, e0, e1, e2, e3, e4, e5, e6, e7, e8, e9, hat_ps.blk, hat_ps.esz, hat_ps.len, hat_ps.els, hne_ps, hne1_ps, hne2_ps.1, hne2_ps.2.1, hne2_ps.2.2.1, hne2_ps.2.2.2.1, hne2_ps.2.2.2.2.1, hne2_ps.2.2.2.2.2.1, hne2_ps.2.2.2.2.2.2.1, hne2_ps.2.2.2.2.2.2.2.1, hne2_ps.2.2.2.2.2.2.2.2.1, hne2_ps.2.2.2.2.2.2.2.2.2.1, hne2_ps.2.2.2.2.2.2.2.2.2.2, h0, h1, h8, hfg, hc, he]
        refine Out.plain (hwf) ?_ rfl ?_
        · (repeat first | exact Sub.refl _ | refine Sub.push hwf ?_ _ | refine Sub.set hwf ?_ (by first | exact Nat.le_refl _ | omega | (simp only [push_n, set_n, kill_n]; omega)) _ | refine Sub.kill hwf ?_ (by first | exact Nat.le_refl _ | omega | (simp only [push_n, set_n, kill_n]; omega)))
          exact hG.sub
        · rw [he] at h; exact h
      · rw [if_neg (fun h0 => h0.2.elim (fun e => by rw [h8] at e; cases e) he)] at hq
        simp (config := {contextual := true, implicitDefEqProofs := false, maxSteps := 2000000}) [-Int.not_le, -Int.not_lt, argsF, spec_l12Make_l0, hn1, w3, hnt, hkt, hk1, hlt, hj1, hrd, hrz, hrw, hbx, hba, gps, boxC, e0, e1, e2, e3, e4, e5, e6, e7, e8, e9, hat_ps.blk, hat_ps.esz, hat_ps.len, hat_ps.els, hne_ps, hne1_ps, hne2_ps.1, hne2_ps.2.1, hne2_ps.2.2.1, hne2_ps.2.2.2.1, hne2_ps.2.2.2.2.1, hne2_ps.2.2.2.2.2.1, hne2_ps.2.2.2.2.2.2.1, hne2_ps.2.2.2.2.2.2.2.1, hne2_ps.2.2.2.2.2.2.2.2.1, hne2_ps.2.2.2.2.2.2.2.2.2.1, hne2_ps.2.2.2.2.2.2.2.2.2.2, h0, h1, h8, hfg, hc, he]
        rw [h8] at hq
        exact ⟨(), hq, .since (by omega) hGw (by have hwf := hGw; (repeat first | exact Sub.refl _ | refine Sub.push hwf ?_ _ | refine Sub.set hwf ?_ (by first | exact Nat.le_refl _ | omega | (simp only [push_n, set_n, kill_n]; omega)) _ | refine Sub.kill hwf ?_ (by first | exact Nat.le_refl _ | omega | (simp only [push_n, set_n, kill_n]; omega)))) (by simp [frOk, AV.okR, AV.ok1, AC.okR, AV.ren, AV.ren1, AC.ren, AFrame.get, pl1_old, *]; first | done | rfl | omega)⟩
    · have hno : ¬ (0 < fg.1 ∧ (chB ch 8 = true ∨ fg.1 = x.paid)) := fun h0 => h0.2.elim (fun e => by rw [h8] at e; cases e) (fun e => hc (by rw [← e]; exact h0.1))
      rw [if_neg hno] at hq
      simp (config := {contextual := true, implicitDefEqProofs := false, maxSteps := 2000000}) [-Int.not_le, -Int.not_lt, argsF, spec_l12Make_l0, hn1, w3, hnt, hkt, hk1, hlt, hj1, hrd, hrz, hrw, hbx, hba, gps, boxC, e0, e1, e2, e3, e4, e5, e6, e7, e8, e9, hat_ps.blk, hat_ps.esz, hat_ps.len, hat_ps.els, hne_ps, hne1_ps, hne2_ps.1, hne2_ps.2.1, hne2_ps.2.2.1, hne2_ps.2.2.2.1, hne2_ps.2.2.2.2.1, hne2_ps.2.2.2.2.2.1, hne2_ps.2.2.2.2.2.2.1, hne2_ps.2.2.2.2.2.2.2.1, hne2_ps.2.2.2.2.2.2.2.2.1, hne2_ps.2.2.2.2.2.2.2.2.2.1, hne2_ps.2.2.2.2.2.2.2.2.2.2, h0, h1, h8, hfg, hc]
      rw [h8] at hq
      exact ⟨(), hq, .since (by omega) hGw (by have hwf := hGw; (repeat first | exact Sub.refl _ | refine Sub.push hwf ?_ _ | refine Sub.set hwf ?_ (by first | exact Nat.le_refl _ | omega | (simp only [push_n, set_n, kill_n]; omega)) _ | refine Sub.kill hwf ?_ (by first | exact Nat.le_refl _ | omega | (simp only [push_n, set_n, kill_n]; omega)))) (by simp [frOk, AV.okR, AV.ok1, AC.okR, AV.ren, AV.ren1, AC.ren, AFrame.get, pl1_old, *]; first | done | rfl | omega)⟩

def mcRes (ps : List Ra) (x : Cv) (ch : Int) : Cv × Bool := if areRa ps = true then if isCv x = true then if inR ch 0 15 = true then pairM (mkM ps x ch) else (zeroC, false) else (zeroC, false) else (zeroC, false)

def q_MakeCover : Con := fun args H K => match args with
  | [ps_v, .agg x_e, .c (.int .i64 ch)] => eRa.rd H (fun ps => onv (eCv.dec x_e) fun x => K (.tup [.agg (eCv.cells (mcRes ps x ch).1), .c (.bool ((mcRes ps x ch).2))]) H) ps_v
  | _ => False
@[simp ↓] theorem q_MakeCover_eq (ps_v : AV) (x_e : List AC) (ch : Int) (H : AHeap) (K : AV → AHeap → Prop) : q_MakeCover [ps_v, .agg x_e, .c (.int .i64 ch)] H K = (eRa.rd H (fun ps => onv (eCv.dec x_e) fun x => K (.tup [.agg (eCv.cells (mcRes ps x ch).1), .c (.bool ((mcRes ps x ch).2))]) H) ps_v) := rfl

theorem impl_MakeCover_s : Sound Try.prog 33 q_MakeCover := by
  intro args H K h
  unfold q_MakeCover at h
  split at h
  rotate_left
  all_goals first | exact False.elim h | skip
  rename_i ps_v x_e ch
  have h1 := Enc.rd_at h
  clear h
  obtain ⟨b_ps, i_ps, k_ps, ps, rfl, hat_ps, h⟩ := h1
  have h1 := onv_iff.1 h
  clear h
  obtain ⟨x, hd_x, h⟩ := h1
  obtain rfl := eCv.cd _ _ hd_x
  clear hd_x
  have hE := soundE_cons impl_areRates_s (soundE_cons impl_isCover_s (soundE_cons impl_inRange_s (soundE_cons impl_makeCover_s (soundE_nil (P := Try.prog)))))
  refine acalls_fn impl_MakeCover_k hE ⟨by simp, fun hwf => ?_⟩
  have hb_ps : b_ps < H.n := (hwf b_ps k_ps hat_ps.blk).1
  have hne_ps : (b_ps = H.n) = False := eq_false (by omega)
  have hne1_ps : ∀ i, (b_ps = H.n + i) = False := fun i => eq_false (by omega)
  have hne2_ps : (b_ps = H.n + 1 + 1) = False ∧ (b_ps = H.n + 1 + 1 + 1) = False ∧ (b_ps = H.n + 1 + 1 + 1 + 1) = False ∧ (b_ps = H.n + 1 + 1 + 1 + 1 + 1) = False ∧ (b_ps = H.n + 1 + 1 + 1 + 1 + 1 + 1) = False ∧ (b_ps = H.n + 1 + 1 + 1 + 1 + 1 + 1 + 1) = False ∧ (b_ps = H.n + 1 + 1 + 1 + 1 + 1 + 1 + 1 + 1) = False ∧ (b_ps = H.n + 1 + 1 + 1 + 1 + 1 + 1 + 1 + 1 + 1) = False ∧ (b_ps = H.n + 1 + 1 + 1 + 1 + 1 + 1 + 1 + 1 + 1 + 1) = False ∧ (b_ps = H.n + 1 + 1 + 1 + 1 + 1 + 1 + 1 + 1 + 1 + 1 + 1) = False ∧ (b_ps = H.n + 1 + 1 + 1 + 1 + 1 + 1 + 1 + 1 + 1 + 1 + 1 + 1) = False := ⟨eq_false (by omega), eq_false (by omega), eq_false (by omega), eq_false (by omega), eq_false (by omega), eq_false (by omega), eq_false (by omega), eq_false (by omega), eq_false (by omega), eq_false (by omega), eq_false (by omega)⟩
  have hmx_ps : ps.length ≤ 9223372036854775807 := by have h1 := (hwf b_ps k_ps hat_ps.blk).2.2; have h2 := hat_ps.len; omega
  unfold mcRes at h
  by_cases hv : areRa ps = true
  rotate_left
  · rw [if_neg hv] at h
    simp (config := {contextual := true, implicitDefEqProofs := false, maxSteps := 2000000}) [-Int.not_le, -Int.not_lt, argsF, impl_MakeCover_c, hat_ps.blk, hat_ps.esz, hat_ps.len, hat_ps.els, hne_ps, hne1_ps, hne2_ps.1, hne2_ps.2.1, hne2_ps.2.2.1, hne2_ps.2.2.2.1, hne2_ps.2.2.2.2.1, hne2_ps.2.2.2.2.2.1, hne2_ps.2.2.2.2.2.2.1, hne2_ps.2.2.2.2.2.2.2.1, hne2_ps.2.2.2.2.2.2.2.2.1, hne2_ps.2.2.2.2.2.2.2.2.2.1, hne2_ps.2.2.2.2.2.2.2.2.2.2, hv]
    (refine Out.plain hwf ?_ rfl ?_; (repeat first | exact Sub.refl _ | refine Sub.push hwf ?_ _ | refine Sub.set hwf ?_ (by first | exact Nat.le_refl _ | omega | (simp only [push_n, set_n, kill_n]; omega)) _ | refine Sub.kill hwf ?_ (by first | exact Nat.le_refl _ | omega | (simp only [push_n, set_n, kill_n]; omega)))); exact h
  by_cases hc : isCv x = true
  rotate_left
  · rw [if_pos hv, if_neg hc] at h
    simp (config := {contextual := true, implicitDefEqProofs := false, maxSteps := 2000000}) [-Int.not_le, -Int.not_lt, argsF, impl_MakeCover_c, hat_ps.blk, hat_ps.esz, hat_ps.len, hat_ps.els, hne_ps, hne1_ps, hne2_ps.1, hne2_ps.2.1, hne2_ps.2.2.1, hne2_ps.2.2.2.1, hne2_ps.2.2.2.2.1, hne2_ps.2.2.2.2.2.1, hne2_ps.2.2.2.2.2.2.1, hne2_ps.2.2.2.2.2.2.2.1, hne2_ps.2.2.2.2.2.2.2.2.1, hne2_ps.2.2.2.2.2.2.2.2.2.1, hne2_ps.2.2.2.2.2.2.2.2.2.2, hv, hc]
    (refine Out.plain hwf ?_ rfl ?_; (repeat first | exact Sub.refl _ | refine Sub.push hwf ?_ _ | refine Sub.set hwf ?_ (by first | exact Nat.le_refl _ | omega | (simp only [push_n, set_n, kill_n]; omega)) _ | refine Sub.kill hwf ?_ (by first | exact Nat.le_refl _ | omega | (simp only [push_n, set_n, kill_n]; omega)))); exact h
  by_cases hr : inR ch 0 15 = true
  rotate_left
  · rw [if_pos hv, if_pos hc, if_neg hr] at h
    simp (config := {contextual := true, implicitDefEqProofs := false, maxSteps := 2000000}) [-Int.not_le, -Int.not_lt, argsF, impl_MakeCover_c, hat_ps.blk, hat_ps.esz, hat_ps.len, hat_ps.els, hne_ps, hne1_ps, hne2_ps.1, hne2_ps.2.1, hne2_ps.2.2.1, hne2_ps.2.2.2.1, hne2_ps.2.2.2.2.1, hne2_ps.2.2.2.2.2.1, hne2_ps.2.2.2.2.2.2.1, hne2_ps.2.2.2.2.2.2.2.1, hne2_ps.2.2.2.2.2.2.2.2.1, hne2_ps.2.2.2.2.2.2.2.2.2.1, hne2_ps.2.2.2.2.2.2.2.2.2.2, hv, hc, hr]
    (refine Out.plain hwf ?_ rfl ?_; (repeat first | exact Sub.refl _ | refine Sub.push hwf ?_ _ | refine Sub.set hwf ?_ (by first | exact Nat.le_refl _ | omega | (simp only [push_n, set_n, kill_n]; omega)) _ | refine Sub.kill hwf ?_ (by first | exact Nat.le_refl _ | omega | (simp only [push_n, set_n, kill_n]; omega)))); exact h
  rw [if_pos hv, if_pos hc, if_pos hr] at h
  have hb : 0 ≤ ch ∧ ch ≤ 15 := of_decide_eq_true hr
  simp (config := {contextual := true, implicitDefEqProofs := false, maxSteps := 2000000}) [-Int.not_le, -Int.not_lt, argsF, impl_MakeCover_c, hat_ps.blk, hat_ps.esz, hat_ps.len, hat_ps.els, hne_ps, hne1_ps, hne2_ps.1, hne2_ps.2.1, hne2_ps.2.2.1, hne2_ps.2.2.2.1, hne2_ps.2.2.2.2.1, hne2_ps.2.2.2.2.2.1, hne2_ps.2.2.2.2.2.2.1, hne2_ps.2.2.2.2.2.2.2.1, hne2_ps.2.2.2.2.2.2.2.2.1, hne2_ps.2.2.2.2.2.2.2.2.2.1, hne2_ps.2.2.2.2.2.2.2.2.2.2, hv, hc, hr, hb.1, hb.2]
  (refine Out.plain hwf ?_ rfl ?_; (repeat first | exact Sub.refl _ | refine Sub.push hwf ?_ _ | refine Sub.set hwf ?_ (by first | exact Nat.le_refl _ | omega | (simp only [push_n, set_n, kill_n]; omega)) _ | refine Sub.kill hwf ?_ (by first | exact Nat.le_refl _ | omega | (simp only [push_n, set_n, kill_n]; omega)))); exact h

theorem spec_MakeCover_s : Sound Try.prog 58 q_MakeCover := by
  intro args H K h
  unfold q_MakeCover at h
  split at h
  rotate_left
  all_goals first | exact False.elim h | skip
  rename_i ps_v x_e ch
  have h1 := Enc.rd_at h
  clear h
  obtain ⟨b_ps, i_ps, k_ps, ps, rfl, hat_ps, h⟩ := h1
  have h1 := onv_iff.1 h
  clear h
  obtain ⟨x, hd_x, h⟩ := h1
  obtain rfl := eCv.cd _ _ hd_x
  clear hd_x
  have hE := soundE_cons spec_l8Good_s (soundE_cons spec_l10One_s (soundE_cons spec_l1In_s (soundE_cons spec_l12Make_s (soundE_nil (P := Try.prog)))))
  refine acalls_fn spec_MakeCover_k hE ⟨by simp, fun hwf => ?_⟩
  have hb_ps : b_ps < H.n := (hwf b_ps k_ps hat_ps.blk).1
  have hne_ps : (b_ps = H.n) = False := eq_false (by omega)
  have hne1_ps : ∀ i, (b_ps = H.n + i) = False := fun i => eq_false (by omega)
  have hne2_ps : (b_ps = H.n + 1 + 1) = False ∧ (b_ps = H.n + 1 + 1 + 1) = False ∧ (b_ps = H.n + 1 + 1 + 1 + 1) = False ∧ (b_ps = H.n + 1 + 1 + 1 + 1 + 1) = False ∧ (b_ps = H.n + 1 + 1 + 1 + 1 + 1 + 1) = False ∧ (b_ps = H.n + 1 + 1 + 1 + 1 + 1 + 1 + 1) = False ∧ (b_ps = H.n + 1 + 1 + 1 + 1 + 1 + 1 + 1 + 1) = False ∧ (b_ps = H.n + 1 + 1 + 1 + 1 + 1 + 1 + 1 + 1 + 1) = False ∧ (b_ps = H.n + 1 + 1 + 1 + 1 + 1 + 1 + 1 + 1 + 1 + 1) = False ∧ (b_ps = H.n + 1 + 1 + 1 + 1 + 1 + 1 + 1 + 1 + 1 + 1 + 1) = False ∧ (b_ps = H.n + 1 + 1 + 1 + 1 + 1 + 1 + 1 + 1 + 1 + 1 + 1 + 1) = False := ⟨eq_false (by omega), eq_false (by omega), eq_false (by omega), eq_false (by omega), eq_false (by omega), eq_false (by omega), eq_false (by omega), eq_false (by omega), eq_false (by omega), eq_false (by omega), eq_false (by omega)⟩
  have hmx_ps : ps.length ≤ 9223372036854775807 := by have h1 := (hwf b_ps k_ps hat_ps.blk).2.2; have h2 := hat_ps.len; omega
  unfold mcRes at h
  by_cases hv : areRa ps = true
  rotate_left
  · rw [if_neg hv] at h
    simp (config := {contextual := true, implicitDefEqProofs := false, maxSteps := 2000000}) [-Int.not_le, -Int.not_lt, argsF, spec_MakeCover_c, hat_ps.blk, hat_ps.esz, hat_ps.len, hat_ps.els, hne_ps, hne1_ps, hne2_ps.1, hne2_ps.2.1, hne2_ps.2.2.1, hne2_ps.2.2.2.1, hne2_ps.2.2.2.2.1, hne2_ps.2.2.2.2.2.1, hne2_ps.2.2.2.2.2.2.1, hne2_ps.2.2.2.2.2.2.2.1, hne2_ps.2.2.2.2.2.2.2.2.1, hne2_ps.2.2.2.2.2.2.2.2.2.1, hne2_ps.2.2.2.2.2.2.2.2.2.2, hv]
    (refine Out.plain hwf ?_ rfl ?_; (repeat first | exact Sub.refl _ | refine Sub.push hwf ?_ _ | refine Sub.set hwf ?_ (by first | exact Nat.le_refl _ | omega | (simp only [push_n, set_n, kill_n]; omega)) _ | refine Sub.kill hwf ?_ (by first | exact Nat.le_refl _ | omega | (simp only [push_n, set_n, kill_n]; omega)))); exact h
  by_cases hc : isCv x = true
  rotate_left
  · rw [if_pos hv, if_neg hc] at h
    simp (config := {contextual := true, implicitDefEqProofs := false, maxSteps := 2000000}) [-Int.not_le, -Int.not_lt, argsF, spec_MakeCover_c, hat_ps.blk, hat_ps.esz, hat_ps.len, hat_ps.els, hne_ps, hne1_ps, hne2_ps.1, hne2_ps.2.1, hne2_ps.2.2.1, hne2_ps.2.2.2.1, hne2_ps.2.2.2.2.1, hne2_ps.2.2.2.2.2.1, hne2_ps.2.2.2.2.2.2.1, hne2_ps.2.2.2.2.2.2.2.1, hne2_ps.2.2.2.2.2.2.2.2.1, hne2_ps.2.2.2.2.2.2.2.2.2.1, hne2_ps.2.2.2.2.2.2.2.2.2.2, hv, hc]
    (refine Out.plain hwf ?_ rfl ?_; (repeat first | exact Sub.refl _ | refine Sub.push hwf ?_ _ | refine Sub.set hwf ?_ (by first | exact Nat.le_refl _ | omega | (simp only [push_n, set_n, kill_n]; omega)) _ | refine Sub.kill hwf ?_ (by first | exact Nat.le_refl _ | omega | (simp only [push_n, set_n, kill_n]; omega)))); exact h
  by_cases hr : inR ch 0 15 = true
  rotate_left
  · rw [if_pos hv, if_pos hc, if_neg hr] at h
    simp (config := {contextual := true, implicitDefEqProofs := false, maxSteps := 2000000}) [-Int.not_le, -Int.not_lt, argsF, spec_MakeCover_c, hat_ps.blk, hat_ps.esz, hat_ps.len, hat_ps.els, hne_ps, hne1_ps, hne2_ps.1, hne2_ps.2.1, hne2_ps.2.2.1, hne2_ps.2.2.2.1, hne2_ps.2.2.2.2.1, hne2_ps.2.2.2.2.2.1, hne2_ps.2.2.2.2.2.2.1, hne2_ps.2.2.2.2.2.2.2.1, hne2_ps.2.2.2.2.2.2.2.2.1, hne2_ps.2.2.2.2.2.2.2.2.2.1, hne2_ps.2.2.2.2.2.2.2.2.2.2, hv, hc, hr]
    (refine Out.plain hwf ?_ rfl ?_; (repeat first | exact Sub.refl _ | refine Sub.push hwf ?_ _ | refine Sub.set hwf ?_ (by first | exact Nat.le_refl _ | omega | (simp only [push_n, set_n, kill_n]; omega)) _ | refine Sub.kill hwf ?_ (by first | exact Nat.le_refl _ | omega | (simp only [push_n, set_n, kill_n]; omega)))); exact h
  rw [if_pos hv, if_pos hc, if_pos hr] at h
  have hb : 0 ≤ ch ∧ ch ≤ 15 := of_decide_eq_true hr
  simp (config := {contextual := true, implicitDefEqProofs := false, maxSteps := 2000000}) [-Int.not_le, -Int.not_lt, argsF, spec_MakeCover_c, hat_ps.blk, hat_ps.esz, hat_ps.len, hat_ps.els, hne_ps, hne1_ps, hne2_ps.1, hne2_ps.2.1, hne2_ps.2.2.1, hne2_ps.2.2.2.1, hne2_ps.2.2.2.2.1, hne2_ps.2.2.2.2.2.1, hne2_ps.2.2.2.2.2.2.1, hne2_ps.2.2.2.2.2.2.2.1, hne2_ps.2.2.2.2.2.2.2.2.1, hne2_ps.2.2.2.2.2.2.2.2.2.1, hne2_ps.2.2.2.2.2.2.2.2.2.2, hv, hc, hr, hb.1, hb.2]
  (refine Out.plain hwf ?_ rfl ?_; (repeat first | exact Sub.refl _ | refine Sub.push hwf ?_ _ | refine Sub.set hwf ?_ (by first | exact Nat.le_refl _ | omega | (simp only [push_n, set_n, kill_n]; omega)) _ | refine Sub.kill hwf ?_ (by first | exact Nat.le_refl _ | omega | (simp only [push_n, set_n, kill_n]; omega)))); exact h

end Go.Proofs.Ytjiffkjeijfilaa
