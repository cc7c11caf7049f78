/- The groups of the sightings, by the program. -/
import Derived.Test.YtafenginfojcmaaSiG
import Derived.Test.YtafenginfojcmaaSiSo
import Derived.Test.YtafenginfojcmaaBfs
set_option maxRecDepth 8000
set_option linter.unusedSimpArgs false
set_option linter.unusedVariables false
namespace Go.Proofs.Ytafenginfojcmaa
open Go Go.RowKit

set_option maxHeartbeats 4000000
theorem Weak.le {n0 n1 : Nat} {F F' : AFrame} {H H' : AHeap} (hn : n1 ≤ n0) (h : Weak n0 F' H' F H) : Weak n1 F' H' F H := by
  obtain ⟨ρ, h1, h2, h3⟩ := h.ex
  exact ⟨ρ, fun b hb => h1 b (Nat.lt_of_lt_of_le hb hn), Nat.le_trans hn h2, h3⟩
def seenK (seen : List Bool) : ABlk := ⟨4, 1, false, false, seen.map fun v => [.bool v]⟩
def gsK (cs : List Nat) (gs : List (List Nat)) : ABlk := ⟨32, 1, false, false, List.zipWith (fun c g => [AC.sl c 0 g.length]) cs gs⟩
structure GX where
  H : AHeap
  bs : Nat
  seen : List Bool
  bg : Nat
  cs : List Nat
  gs : List (List Nat)
structure GX.Ok (x : GX) (H0 : AHeap) : Prop where
  sub : Sub H0 x.H
  sn : x.H.b x.bs = some (seenK x.seen)
  sg : H0.n ≤ x.bs
  gn : x.H.b x.bg = some (gsK x.cs x.gs)
  gg : H0.n ≤ x.bg
  ne : x.bg ≠ x.bs
  len : x.cs.length = x.gs.length
  row : ∀ (j c : Nat) (g : List Nat), x.cs[j]? = some c → x.gs[j]? = some g → x.H.b c = some (rowK eI 3 (nats g))
  cn : ∀ c ∈ x.cs, H0.n ≤ c ∧ c ≠ x.bs ∧ c ≠ x.bg
@[simp] theorem seenK_els (seen : List Bool) : (seenK seen).els = seen.map fun v => [AC.bool v] := rfl
@[simp] theorem seenK_esz (seen : List Bool) : (seenK seen).esz = 1 := rfl
@[simp] theorem seenK_ro (seen : List Bool) : (seenK seen).ro = false := rfl
@[simp] theorem seenK_fz (seen : List Bool) : (seenK seen).fz = false := rfl
@[simp] theorem gsK_els (cs : List Nat) (gs : List (List Nat)) : (gsK cs gs).els = List.zipWith (fun c g => [AC.sl c 0 g.length]) cs gs := rfl
@[simp] theorem gsK_esz (cs : List Nat) (gs : List (List Nat)) : (gsK cs gs).esz = 1 := rfl
@[simp] theorem gsK_ro (cs : List Nat) (gs : List (List Nat)) : (gsK cs gs).ro = false := rfl
theorem seenK_set (s : List Bool) (k : Nat) : (⟨(seenK s).ty, 1, false, false, (s.map fun v => [AC.bool v]).set k [AC.bool true]⟩ : ABlk) = seenK (s.set k true) := by simp [seenK, List.map_set]
theorem rowK_one (k : Nat) : (⟨3, 1, false, false, [[AC.int .i64 (k : Int)]]⟩ : ABlk) = rowK eI 3 (nats [k]) := rfl
theorem GX.Ok.chg {x : GX} {H0 : AHeap} (h : x.Ok H0) (H' : AHeap) (s' : List Bool) (hs : Sub H0 H') (h1 : H'.b x.bs = some (seenK s')) (h2 : ∀ b, b = x.bg ∨ b ∈ x.cs → H'.b b = x.H.b b) : (⟨H', x.bs, s', x.bg, x.cs, x.gs⟩ : GX).Ok H0 :=
  ⟨hs, h1, h.sg, (h2 _ (.inl rfl)).trans h.gn, h.gg, h.ne, h.len, fun j c g hc hg => (h2 c (.inr (List.mem_of_getElem? hc))).trans (h.row j c g hc hg), h.cn⟩
theorem GX.Ok.old {x : GX} {H0 : AHeap} (h : x.Ok H0) (hwx : x.H.WF) : x.bs < x.H.n ∧ x.bg < x.H.n ∧ ∀ c ∈ x.cs, c < x.H.n := ⟨(hwx _ _ h.sn).1, (hwx _ _ h.gn).1, fun c hc => by
  obtain ⟨j, hj⟩ := List.getElem?_of_mem hc
  have hjl := (List.getElem?_eq_some_iff.1 hj).1
  have h2 := h.len
  exact (hwx _ _ (h.row j c x.gs[j] hj (List.getElem?_eq_getElem (by omega)))).1⟩
structure GY where
  H : AHeap
  seen : List Bool
  b : Nat
  L : List Nat
structure GY.Ok (y : GY) (x : GX) (H0 : AHeap) : Prop where
  ok : (⟨y.H, x.bs, y.seen, x.bg, x.cs, x.gs⟩ : GX).Ok H0
  row : y.H.b y.b = some (rowK eI 3 (nats y.L))
  ge : H0.n ≤ y.b
  n1 : y.b ≠ x.bs
  n2 : y.b ≠ x.bg
  n3 : y.b ∉ x.cs
theorem GY.first {x : GX} {H0 : AHeap} (hwf : H0.WF) (h : x.Ok H0) (hwx : x.H.WF) (s' : List Bool) (L : List Nat) : (⟨(x.H.set x.bs (seenK s')).push (rowK eI 3 (nats L)), s', x.H.n, L⟩ : GY).Ok x H0 := by
  obtain ⟨o1, o2, o3⟩ := h.old hwx
  refine ⟨h.chg _ _ (Sub.push hwf (Sub.set hwf h.sub h.sg _) _) ?_ fun b hb => ?_, ?_, h.sub.1.1, by simp only; omega, by simp only; omega, fun hc => absurd (o3 _ hc) (Nat.lt_irrefl _)⟩
  · rw [push_b, set_n, if_neg (by omega), set_b, if_pos rfl]
  · show ((x.H.set x.bs (seenK s')).push (rowK eI 3 (nats L))).b b = x.H.b b
    have hb1 : b < x.H.n := hb.elim (fun e => e ▸ o2) (o3 b)
    have hb2 : b ≠ x.bs := hb.elim (fun e => e ▸ h.ne) fun hb => (h.cn b hb).2.1
    rw [push_b, set_n, if_neg (by omega), set_b, if_neg hb2]
  · simp [push_b]
@[simp] theorem gsK_ty (cs : List Nat) (gs : List (List Nat)) : (gsK cs gs).ty = 32 := rfl
@[simp] theorem gsK_fz (cs : List Nat) (gs : List (List Nat)) : (gsK cs gs).fz = false := rfl
theorem gsK_add {cs : List Nat} {gs : List (List Nat)} {b m : Nat} {C : List Nat} (hl : cs.length = gs.length) (hm : m = C.length) : (⟨32, 1, false, false, List.take gs.length (List.zipWith (fun c g => [AC.sl c 0 g.length]) cs gs) ++ [[AC.sl b 0 m]]⟩ : ABlk) = gsK (cs ++ [b]) (gs ++ [C]) := by
  subst hm
  rw [List.take_of_length_le (by simp [hl])]
  simp [gsK, List.zipWith_append hl]
theorem sort_nats {e : Nat → Nat → Bool} {n k : Nat} {L : List Nat} (hd : L.Nodup) (hm : ∀ x, x ∈ L ↔ Rch e n k x) : sortI (nats L) = nats (comp e n k) ∧ L.length = (comp e n k).length := by
  have hp : (sortI (nats L)).Perm (nats L) := List.mergeSort_perm _ _
  have hs : (sortI (nats L)).Pairwise (fun x y => decide (x ≤ y) = true) := List.pairwise_mergeSort (fun a b c h1 h2 => by simp only [decide_eq_true_eq] at *; omega) (fun a b => by simp only [Bool.or_eq_true, decide_eq_true_eq]; omega) _
  have h0 : ∀ x ∈ sortI (nats L), 0 ≤ x := fun x hx => by
    have := hp.mem_iff.1 hx
    simp only [nats, List.mem_map] at this
    obtain ⟨a, _, rfl⟩ := this
    omega
  have hS : sortI (nats L) = nats ((sortI (nats L)).map Int.toNat) := by
    show _ = ((sortI (nats L)).map Int.toNat).map fun (k : Nat) => (k : Int)
    rw [List.map_map]
    conv => lhs; rw [← List.map_id (sortI (nats L))]
    exact List.map_congr_left fun x hx => by have := h0 x hx; simp; omega
  have hpm : ((sortI (nats L)).map Int.toNat).Perm L := by
    have := hp.map Int.toNat
    have e1 : (nats L).map Int.toNat = L := by
      rw [nats, List.map_map]
      conv => rhs; rw [← List.map_id L]
      exact List.map_congr_left fun x _ => by simp
    rwa [e1] at this
  have hup : ((sortI (nats L)).map Int.toNat).Pairwise (· < ·) := by
    have hle : ((sortI (nats L)).map Int.toNat).Pairwise (· ≤ ·) := by
      rw [List.pairwise_map]
      refine hs.imp fun {a b} h => ?_
      simp only [decide_eq_true_eq] at h
      omega
    have hnd : ((sortI (nats L)).map Int.toNat).Pairwise (· ≠ ·) := hpm.nodup_iff.2 hd
    exact (hle.and hnd).imp fun {a b} h => by have := h.1; have := h.2; omega
  have hM := up_ext hup (comp_up (e := e) (n := n) (i := k)) fun x => (hpm.mem_iff.trans (hm x)).trans mem_comp.symm
  rw [hM] at hS hpm
  exact ⟨hS, hpm.length_eq.symm⟩
theorem rowK_add (L : List Nat) (i : Nat) : (⟨3, 1, false, false, List.take L.length (List.map eI.cells (nats L)) ++ [[AC.int .i64 (i : Int)]]⟩ : ABlk) = rowK eI 3 (nats (L ++ [i])) := by
  rw [List.take_of_length_le (by simp)]
  simp [rowK, nats]
theorem GY.hit {x : GX} {z : GY} {H0 : AHeap} (hwf : H0.WF) (hz : z.Ok x H0) (hwz : z.H.WF) (s' : List Bool) (L' : List Nat) (K : ABlk) : (⟨(((z.H.set x.bs (seenK s')).push K).kill z.b).push (rowK eI 3 (nats L')), s', z.H.n + 1, L'⟩ : GY).Ok x H0 := by
  obtain ⟨o1, o2, o3⟩ := hz.ok.old hwz
  simp only at o1 o2 o3
  have hne := hz.ok.ne
  have hn0 := hz.ok.sub.1.1
  simp only at hne hn0
  have hold : ∀ b, b < z.H.n → b ≠ z.b → ((((z.H.set x.bs (seenK s')).push K).kill z.b).push (rowK eI 3 (nats L'))).b b = if b = x.bs then some (seenK s') else z.H.b b := fun b h1 h2 => by
    rw [push_b, if_neg (by simp only [kill_n, push_n, set_n]; omega), kill_b, if_neg h2, push_b, if_neg (by simp only [set_n]; omega), set_b]
  refine ⟨hz.ok.chg _ _ (Sub.push hwf (Sub.kill hwf (Sub.push hwf (Sub.set hwf hz.ok.sub hz.ok.sg _) _) hz.ge) _) ?_ fun b hb => ?_, by simp [push_b], by simp only; omega, by simp only; omega, by simp only; omega, fun hc => by have := o3 _ hc; simp only at this; omega⟩
  · exact (hold _ o1 (Ne.symm hz.n1)).trans (if_pos rfl)
  · have hb1 : b < z.H.n := hb.elim (fun e => by rw [e]; exact o2) (o3 b)
    have hb2 : b ≠ x.bs := hb.elim (fun e => by rw [e]; exact hne) fun hb => (hz.ok.cn b hb).2.1
    have hb3 : b ≠ z.b := hb.elim (fun e => by rw [e]; exact Ne.symm hz.n2) fun hb e => hz.n3 (e ▸ hb)
    exact (hold b hb1 hb3).trans (if_neg hb2)
theorem GX.last {x : GX} {y : GY} {H0 : AHeap} (hwf : H0.WF) (hy : y.Ok x H0) (hwy : y.H.WF) (C : List Nat) (K : ABlk) : (⟨(((y.H.set y.b (rowK eI 3 (nats C))).push K).kill x.bg).push (gsK (x.cs ++ [y.b]) (x.gs ++ [C])), x.bs, y.seen, y.H.n + 1, x.cs ++ [y.b], x.gs ++ [C]⟩ : GX).Ok H0 := by
  obtain ⟨o1, o2, o3⟩ := hy.ok.old hwy
  simp only at o1 o2 o3
  have hby : y.b < y.H.n := (hwy _ _ hy.row).1
  have hl := hy.ok.len
  have hne := hy.ok.ne
  have hn0 := hy.ok.sub.1.1
  simp only at hl hne hn0
  have hold : ∀ b, b < y.H.n → b ≠ x.bg → b ≠ y.b → ((((y.H.set y.b (rowK eI 3 (nats C))).push K).kill x.bg).push (gsK (x.cs ++ [y.b]) (x.gs ++ [C]))).b b = y.H.b b := fun b h1 h2 h3 => by
    rw [push_b, if_neg (by simp only [kill_n, push_n, set_n]; omega), kill_b, if_neg h2, push_b, if_neg (by simp only [set_n]; omega), set_b, if_neg h3]
  refine ⟨Sub.push hwf (Sub.kill hwf (Sub.push hwf (Sub.set hwf hy.ok.sub hy.ge _) _) hy.ok.gg) _, ?_, hy.ok.sg, ?_, by simp only; omega, by simp only; omega, by simp [hl], fun j c g hc hg => ?_, fun c hc => ?_⟩
  · exact (hold _ o1 (Ne.symm hne) (Ne.symm hy.n1)).trans hy.ok.sn
  · simp [push_b]
  · simp only at hc hg ⊢
    rcases Nat.lt_or_ge j x.cs.length with hj | hj
    · rw [List.getElem?_append_left hj] at hc
      rw [List.getElem?_append_left (by omega)] at hg
      have hcm := List.mem_of_getElem? hc
      exact (hold c (o3 c hcm) (hy.ok.cn c hcm).2.2 fun e => hy.n3 (e ▸ hcm)).trans (hy.ok.row j c g hc hg)
    · have hj2 : j = x.cs.length := by have := (List.getElem?_eq_some_iff.1 hc).1; simp at this; omega
      subst hj2
      rw [List.getElem?_append_right (Nat.le_refl _)] at hc
      rw [List.getElem?_append_right (by omega)] at hg
      simp [hl] at hc hg
      subst hc hg
      rw [push_b, if_neg (by simp only [kill_n, push_n, set_n]; omega), kill_b, if_neg hy.n2, push_b, if_neg (by simp only [set_n]; omega), set_b, if_pos rfl]
  · rcases List.mem_append.1 hc with hc | hc
    · have := hy.ok.cn c hc
      have := o3 c hc
      exact ⟨by omega, by simp only at *; omega, by simp only; omega⟩
    · rw [List.mem_singleton.1 hc]
      exact ⟨hy.ge, hy.n1, by simp only; omega⟩
theorem GX.Ok.at {x : GX} {H0 : AHeap} (h : x.Ok H0) : eII.At x.H x.bg 0 (gsK x.cs x.gs) (x.gs.map nats) := by
  refine ⟨h.gn, rfl, by simp [h.len], ?_⟩
  rw [gsK_els, List.drop_zero, List.take_of_length_le (by simp [h.len])]
  have : ∀ (cs : List Nat) (gs : List (List Nat)), cs.length = gs.length → (∀ (j c : Nat) (g : List Nat), cs[j]? = some c → gs[j]? = some g → x.H.b c = some (rowK eI 3 (nats g))) → eII.decL x.H (List.zipWith (fun c g => [AC.sl c 0 g.length]) cs gs) = some (gs.map nats) := by
    intro cs
    induction cs with
    | nil => intro gs hl _; cases gs with
      | nil => rfl
      | cons g gs => simp at hl
    | cons c cs ih =>
      intro gs hl hr
      cases gs with
      | nil => simp at hl
      | cons g gs =>
        have h0 := hr 0 c g rfl rfl
        have h1 := ih gs (by simpa using hl) fun j c g hc hg => hr (j + 1) c g (by simpa using hc) (by simpa using hg)
        have h2 : eII.dec x.H [AC.sl c 0 g.length] = some (nats g) := by
          have e : List.take g.length (List.map eI.cells (nats g)) = List.map eI.cells (nats g) := List.take_of_length_le (by simp)
          simp [eII, rdI, h0, e]
        simp only [List.zipWith_cons_cons, EncH.decL, h1, h2, List.map_cons]
  exact this _ _ h.len h.row

def q_groups : Con := fun args H K => match args with
  | [ps_v, .c (.int .i64 limit)] => eSi.rd H (fun ps => ps.length ≤ 10 ∧ (∀ p ∈ ps, p.traits.length ≤ 1048576) ∧ (∀ x k, x < ps.length → k < ps.length → edge ps limit x k = true → edge ps limit k x = true) ∧ Stop (∀ H' b k, H'.WF → Sub H H' → eII.At H' b 0 k ((groupsTo (edge ps limit) ps.length ps.length).map nats) → K (.c (.sl (b) (0) ((groupsTo (edge ps limit) ps.length ps.length).length))) H') ()) ps_v
  | _ => False
@[simp ↓] theorem q_groups_eq (ps_v : AV) (limit : Int) (H : AHeap) (K : AV → AHeap → Prop) : q_groups [ps_v, .c (.int .i64 limit)] H K = (eSi.rd H (fun ps => ps.length ≤ 10 ∧ (∀ p ∈ ps, p.traits.length ≤ 1048576) ∧ (∀ x k, x < ps.length → k < ps.length → edge ps limit x k = true → edge ps limit k x = true) ∧ Stop (∀ H' b k, H'.WF → Sub H H' → eII.At H' b 0 k ((groupsTo (edge ps limit) ps.length ps.length).map nats) → K (.c (.sl (b) (0) ((groupsTo (edge ps limit) ps.length ps.length).length))) H') ()) ps_v) := rfl

theorem impl_sightingGroups_s : Sound Try.prog 42 q_groups := by
  intro args H K h
  unfold q_groups at h
  split at h
  rotate_left
  all_goals first | exact False.elim h | skip
  rename_i ps_v limit
  have h1 := EncH.rd_at h
  clear h
  obtain ⟨b_ps, i_ps, k_ps, ps, rfl, hat_ps, h⟩ := h1
  have hE := soundE_cons impl_evidence_s (soundE_cons slices_Sort___int_int_s (soundE_nil (P := Try.prog)))
  refine acalls_fn impl_sightingGroups_k hE ⟨by simp, fun hwf => ?_⟩
  have hsr : SubE H H := SubE.refl H
  have hsp : ∀ H' k, H.n ≤ H'.n → SubE H H' → SubE H (H'.push k) := fun H' k hn hs => SubE.push hwf hn hs k
  have hst : ∀ H', SubE H H' → SubE H H'.toRo := fun H' hs => hs.toRo
  have hss : ∀ H' i k, H.n ≤ i → SubE H H' → SubE H (H'.set i k) := fun H' i k hn hs => SubE.set hwf hn hs k
  have hsk : ∀ H' i, H.n ≤ i → SubE H H' → SubE H (H'.kill i) := fun H' i hn hs => SubE.kill hwf hn hs
  have hon_ps := hat_ps.on
  have hb_ps : b_ps < H.n := (hwf b_ps k_ps hat_ps.blk).1
  have hne_ps : (b_ps = H.n) = False := eq_false (by omega)
  have hne1_ps : ∀ i, (b_ps = H.n + i) = False := fun i => eq_false (by omega)
  have hne2_ps : (b_ps = H.n + 1 + 1) = False ∧ (b_ps = H.n + 1 + 1 + 1) = False ∧ (b_ps = H.n + 1 + 1 + 1 + 1) = False ∧ (b_ps = H.n + 1 + 1 + 1 + 1 + 1) = False ∧ (b_ps = H.n + 1 + 1 + 1 + 1 + 1 + 1) = False ∧ (b_ps = H.n + 1 + 1 + 1 + 1 + 1 + 1 + 1) = False ∧ (b_ps = H.n + 1 + 1 + 1 + 1 + 1 + 1 + 1 + 1) = False ∧ (b_ps = H.n + 1 + 1 + 1 + 1 + 1 + 1 + 1 + 1 + 1) = False ∧ (b_ps = H.n + 1 + 1 + 1 + 1 + 1 + 1 + 1 + 1 + 1 + 1) = False ∧ (b_ps = H.n + 1 + 1 + 1 + 1 + 1 + 1 + 1 + 1 + 1 + 1 + 1) = False ∧ (b_ps = H.n + 1 + 1 + 1 + 1 + 1 + 1 + 1 + 1 + 1 + 1 + 1 + 1) = False := ⟨eq_false (by omega), eq_false (by omega), eq_false (by omega), eq_false (by omega), eq_false (by omega), eq_false (by omega), eq_false (by omega), eq_false (by omega), eq_false (by omega), eq_false (by omega), eq_false (by omega)⟩
  have hmx_ps : ps.length ≤ 9223372036854775807 := by have h1 := (hwf b_ps k_ps hat_ps.blk).2.2; have h2 := hat_ps.len; omega
  obtain ⟨hl, hl2, hsym, h⟩ := h
  have hl3 : (ps.length : Int) ≤ 140737488355328 := by omega
  simp (config := {contextual := true, implicitDefEqProofs := false, maxSteps := 2000000}) [-Int.not_le, -Int.not_lt, argsF, impl_sightingGroups_c, hat_ps.blk, hat_ps.esz, hat_ps.len, hon_ps, hne_ps, hne1_ps, hne2_ps.1, hne2_ps.2.1, hne2_ps.2.2.1, hne2_ps.2.2.2.1, hne2_ps.2.2.2.2.1, hne2_ps.2.2.2.2.2.1, hne2_ps.2.2.2.2.2.2.1, hne2_ps.2.2.2.2.2.2.2.1, hne2_ps.2.2.2.2.2.2.2.2.1, hne2_ps.2.2.2.2.2.2.2.2.2.1, hne2_ps.2.2.2.2.2.2.2.2.2.2, hsr, hsp, hst, hss, hsk, hl3]
  refine aloop_heap (X := GX × Nat) (fun x => [(0, .c (.sl b_ps i_ps ps.length)), (1, .c (.int .i64 (limit))), (5, .c (.sl (x.1.bs) (0) (ps.length))), (6, .c (.sl (x.1.bg) (0) (x.1.gs.length))), (15, .c (.int .i64 ps.length)), (16, .c (.int .i64 ((x.2 : Int))))]) (fun x => x.1.H)
    (fun x => x.1.Ok H ∧ x.2 ≤ ps.length ∧ SeenTo (edge ps limit) ps.length x.2 x.1.seen ∧ x.1.gs = groupsTo (edge ps limit) ps.length x.2) (fun x => ps.length - x.2) hE _
    (⟨(H.push (seenK (List.replicate ps.length false))).push (gsK [] []), H.n, List.replicate ps.length false, H.n + 1, [], []⟩, 0) ?_ (fun hw0 => ?_) (fun x hx hwx => ?_)
  · exact ⟨⟨Sub.push hwf (Sub.push hwf (.refl _) _) _, by simp [push_b], Nat.le_refl _, by simp [push_b], Nat.le_succ _, by simp, rfl, fun j c g hc => by simp at hc, fun c hc => by simp at hc⟩, Nat.zero_le _, SeenTo.zero _ _, rfl⟩
  · have e0 : (seenK (List.replicate ps.length false)) = ⟨4, 1, false, false, List.replicate ps.length [AC.bool false]⟩ := by simp [seenK]
    rw [← e0] at hw0 ⊢
    have hb2 : b_ps < H.n + 1 := by omega
    have hb3 : b_ps < H.n + 1 + 1 := by omega
    clear e0
    have p1 : pl1 (H.push (seenK (List.replicate ps.length false))) none b_ps = some b_ps := pl1_old _ _ hb2
    have p2 : pl1 (H.push (seenK (List.replicate ps.length false))) none H.n = some H.n := pl1_old _ _ (Nat.lt_succ_self _)
    have p3 : pl1 (H.push (seenK (List.replicate ps.length false))) none (H.n + 1) = none := by simp [pl1]
    exact Weak.le (by simp only [push_n]; omega) (.one (c := none) hw0 (.refl _) ⟨rfl, rfl⟩ (by simp) (by simp [frOk, AV.okR, AV.ok1, AC.okR, AV.ren, AV.ren1, AC.ren, AFrame.get, p1, p2, p3, hb2, hb3]; try omega))
  · obtain ⟨x, k⟩ := x
    have hok : x.Ok H := hx.1
    have hkl : k ≤ ps.length := hx.2.1
    have hse : SeenTo (edge ps limit) ps.length k x.seen := hx.2.2.1
    have hgs : x.gs = groupsTo (edge ps limit) ps.length k := hx.2.2.2
    have hnx : H.n ≤ x.H.n := hok.sub.1.1
    have hbs : x.bs < x.H.n := (hwx _ _ hok.sn).1
    have hbg : x.bg < x.H.n := (hwx _ _ hok.gn).1
    rcases Nat.lt_or_ge k ps.length with hk | hk
    rotate_left
    · obtain rfl : k = ps.length := by omega
      simp (config := {contextual := true, implicitDefEqProofs := false, maxSteps := 2000000}) [-Int.not_le, -Int.not_lt, argsF, impl_sightingGroups_l2]
      rw [← hgs] at h
      exact Out.whole hok.sub.1.1 (by simp [frOk, AV.okR, AV.ok1, AC.okR, AV.ren, AV.ren1, AC.ren, AFrame.get, pl1_old, *]; first | done | rfl | omega) fun hw => Stop.go h x.H x.bg _ hw hok.sub hok.at
    have hki : ((k : Int) < (ps.length : Int)) = True := eq_true (by omega)
    have w1 : IntKind.i64.wrap ((k : Int) + 1) = (k : Int) + 1 := wrap_id (by omega) (by omega)
    have hks : k < x.seen.length := by rw [hse.1]; exact hk
    cases hsk : x.seen[k] with
    | true =>
      simp (config := {contextual := true, implicitDefEqProofs := false, maxSteps := 2000000}) [-Int.not_le, -Int.not_lt, argsF, impl_sightingGroups_l2, hok.sn, hki, hk, hks, hsk, hse.1, w1]
      obtain ⟨g1, g2⟩ := hse.skip hk (by rw [List.getElem?_eq_getElem hks, hsk])
      exact ⟨fun hw => ⟨(x, k + 1), ⟨hok, hk, g2, by rw [groupsTo_no g1]; exact hgs⟩, by simp only; omega, .since hok.sub.1.1 hw (.refl _) (by simp [frOk, AV.okR, AV.ok1, AC.okR, AV.ren, AV.ren1, AC.ren, AFrame.get, pl1_old, *]; first | done | rfl | omega)⟩⟩
    | false =>
      simp (config := {contextual := true, implicitDefEqProofs := false, maxSteps := 2000000}) [-Int.not_le, -Int.not_lt, argsF, impl_sightingGroups_l2, hok.sn, hki, hk, hks, hsk, hse.1, w1]
      rw [seenK_set, rowK_one]
      have hw1 : x.H.WF := hwx
      refine aloop_heap (X := GY × Nat) (fun y => [(0, .c (.sl b_ps i_ps ps.length)), (1, .c (.int .i64 (limit))), (5, .c (.sl (x.bs) (0) (ps.length))), (6, .c (.sl (x.bg) (0) (x.gs.length))), (8, .c (.sl (y.1.b) (0) (y.1.L.length))), (9, .c (.int .i64 ((y.2 : Int)))), (15, .c (.int .i64 ps.length)), (16, .c (.int .i64 ((k : Int))))]) (fun y => y.1.H)
        (fun y => y.1.Ok x H ∧ Bfs (edge ps limit) ps.length k y.1.seen y.1.L y.2 0) (fun y => ps.length - y.2) hE _
        (⟨(x.H.set x.bs (seenK (x.seen.set k true))).push (rowK eI 3 (nats [k])), x.seen.set k true, x.H.n, [k]⟩, 0) ⟨GY.first hwf hok hw1 _ _, hse.start hk (by rw [List.getElem?_eq_getElem hks, hsk])⟩ (fun hw0 => ?_) (fun y hy hwy => ?_)
      · have hb2 : b_ps ≤ x.H.n := by omega
        have hb3 : x.bs ≤ x.H.n := by omega
        have hb4 : x.bg ≤ x.H.n := by omega
        exact .since (by simp only [push_n, set_n]; omega) hw0 (.refl _) (by simp [frOk, AV.okR, AV.ok1, AC.okR, AV.ren, AV.ren1, AC.ren, AFrame.get, pl1_old, *]; first | done | rfl | omega)
      · obtain ⟨y, g⟩ := y
        have hyo : y.Ok x H := hy.1
        have hbf : Bfs (edge ps limit) ps.length k y.seen y.L g 0 := hy.2
        have hwy' : y.H.WF := hwy
        have hny : H.n ≤ y.H.n := hyo.ok.sub.1.1
        obtain ⟨o1, o2, o3⟩ := hyo.ok.old hwy'
        simp only at o1 o2 o3
        have hby : y.b < y.H.n := (hwy' _ _ hyo.row).1
        have hLn := hbf.len
        rcases Nat.lt_or_ge g y.L.length with hg | hg
        · have hgi : ((g : Int) < (y.L.length : Int)) = True := eq_true (by omega)
          have w2 : IntKind.i64.wrap ((g : Int) + 1) = (g : Int) + 1 := wrap_id (by omega) (by omega)
          simp (config := {contextual := true, implicitDefEqProofs := false, maxSteps := 2000000}) [-Int.not_le, -Int.not_lt, argsF, impl_sightingGroups_l1, hgi]
          refine aloop_heap (X := GY × Nat) (fun z => [(0, .c (.sl b_ps i_ps ps.length)), (1, .c (.int .i64 (limit))), (5, .c (.sl (x.bs) (0) (ps.length))), (6, .c (.sl (x.bg) (0) (x.gs.length))), (8, .c (.sl (z.1.b) (0) (z.1.L.length))), (9, .c (.int .i64 ((g : Int)))), (15, .c (.int .i64 ps.length)), (16, .c (.int .i64 ((k : Int)))), (35, .c (.int .i64 ps.length)), (36, .c (.int .i64 ((z.2 : Int))))]) (fun z => z.1.H)
            (fun z => z.1.Ok x H ∧ Bfs (edge ps limit) ps.length k z.1.seen z.1.L g z.2 ∧ z.2 ≤ ps.length ∧ g < z.1.L.length) (fun z => ps.length - z.2) hE _ (y, 0) ⟨hyo, hbf, Nat.zero_le _, hg⟩ (fun hw0 => .since hny hw0 (.refl _) (by simp [frOk, AV.okR, AV.ok1, AC.okR, AV.ren, AV.ren1, AC.ren, AFrame.get, pl1_old, *]; first | done | rfl | omega)) (fun z hz hwz => ?_)
          obtain ⟨z, i⟩ := z
          have hzo : z.Ok x H := hz.1
          have hzb : Bfs (edge ps limit) ps.length k z.seen z.L g i := hz.2.1
          have hil : i ≤ ps.length := hz.2.2.1
          have hgl2 : g < z.L.length := hz.2.2.2
          have hwz' : z.H.WF := hwz
          have hnz : H.n ≤ z.H.n := hzo.ok.sub.1.1
          obtain ⟨o1z, o2z, o3z⟩ := hzo.ok.old hwz'
          simp only at o1z o2z o3z
          have hbz : z.b < z.H.n := (hwz' _ _ hzo.row).1
          have hsn : z.H.b x.bs = some (seenK z.seen) := hzo.ok.sn
          rcases Nat.lt_or_ge i ps.length with hi | hi
          · have hii : ((i : Int) < (ps.length : Int)) = True := eq_true (by omega)
            have his : i < z.seen.length := by rw [hzb.sl]; exact hi
            have hsl := hzb.sl
            have w3 : IntKind.i64.wrap ((i : Int) + 1) = (i : Int) + 1 := wrap_id (by omega) (by omega)
            have q1 : (x.bs = z.H.n) = False := eq_false (by omega)
            have q2 : (x.bs = z.b) = False := eq_false (fun e => hzo.n1 e.symm)
            have q3 : (z.b = x.bs) = False := eq_false hzo.n1
            have q4 : (z.b = z.H.n) = False := eq_false (by omega)
            cases hsi : z.seen[i] with
            | true =>
              simp (config := {contextual := true, implicitDefEqProofs := false, maxSteps := 2000000}) [-Int.not_le, -Int.not_lt, argsF, impl_sightingGroups_l0, hii, hsn, hi, his, hsi, hsl, w3]
              exact ⟨fun hw => ⟨(z, i + 1), ⟨hzo, hzb.miss hsym hi (List.getElem?_eq_getElem hgl2) (.inl (by rw [List.getElem?_eq_getElem his, hsi])), hi, hgl2⟩, by simp only; omega, .since hnz hw (.refl _) (by simp [frOk, AV.okR, AV.ok1, AC.okR, AV.ren, AV.ren1, AC.ren, AFrame.get, pl1_old, *]; first | done | rfl | omega)⟩⟩
            | false =>
              have hLg : z.L[g] < ps.length := (hzb.rch _ (List.getElem_mem hgl2)).lt
              have hat_ps : eSi.At z.H b_ps i_ps k_ps ps := hat_ps.sub hzo.ok.sub
              have hwf0 := hwf
              have hwf := hwz'
              obtain ⟨ex_u, e_u, hd_u⟩ := hat_ps.get hLg
              obtain ⟨b_u, i_u, k_u, rfl, hat_u, htx_u⟩ := eSi_at hd_u
              have hb_u : b_u < z.H.n := (hwf b_u k_u hat_u.blk).1
              have hne_u : (b_u = z.H.n) = False := eq_false (by omega)
              have hne1_u : ∀ i, (b_u = z.H.n + i) = False := fun i => eq_false (by omega)
              have hne2_u : (b_u = z.H.n + 1 + 1) = False ∧ (b_u = z.H.n + 1 + 1 + 1) = False ∧ (b_u = z.H.n + 1 + 1 + 1 + 1) = False ∧ (b_u = z.H.n + 1 + 1 + 1 + 1 + 1) = False ∧ (b_u = z.H.n + 1 + 1 + 1 + 1 + 1 + 1) = False ∧ (b_u = z.H.n + 1 + 1 + 1 + 1 + 1 + 1 + 1) = False ∧ (b_u = z.H.n + 1 + 1 + 1 + 1 + 1 + 1 + 1 + 1) = False ∧ (b_u = z.H.n + 1 + 1 + 1 + 1 + 1 + 1 + 1 + 1 + 1) = False ∧ (b_u = z.H.n + 1 + 1 + 1 + 1 + 1 + 1 + 1 + 1 + 1 + 1) = False ∧ (b_u = z.H.n + 1 + 1 + 1 + 1 + 1 + 1 + 1 + 1 + 1 + 1 + 1) = False ∧ (b_u = z.H.n + 1 + 1 + 1 + 1 + 1 + 1 + 1 + 1 + 1 + 1 + 1 + 1) = False := ⟨eq_false (by omega), eq_false (by omega), eq_false (by omega), eq_false (by omega), eq_false (by omega), eq_false (by omega), eq_false (by omega), eq_false (by omega), eq_false (by omega), eq_false (by omega), eq_false (by omega)⟩
              obtain ⟨ex_v, e_v, hd_v⟩ := hat_ps.get hi
              obtain ⟨b_v, i_v, k_v, rfl, hat_v, htx_v⟩ := eSi_at hd_v
              have hb_v : b_v < z.H.n := (hwf b_v k_v hat_v.blk).1
              have hne_v : (b_v = z.H.n) = False := eq_false (by omega)
              have hne1_v : ∀ i, (b_v = z.H.n + i) = False := fun i => eq_false (by omega)
              have hne2_v : (b_v = z.H.n + 1 + 1) = False ∧ (b_v = z.H.n + 1 + 1 + 1) = False ∧ (b_v = z.H.n + 1 + 1 + 1 + 1) = False ∧ (b_v = z.H.n + 1 + 1 + 1 + 1 + 1) = False ∧ (b_v = z.H.n + 1 + 1 + 1 + 1 + 1 + 1) = False ∧ (b_v = z.H.n + 1 + 1 + 1 + 1 + 1 + 1 + 1) = False ∧ (b_v = z.H.n + 1 + 1 + 1 + 1 + 1 + 1 + 1 + 1) = False ∧ (b_v = z.H.n + 1 + 1 + 1 + 1 + 1 + 1 + 1 + 1 + 1) = False ∧ (b_v = z.H.n + 1 + 1 + 1 + 1 + 1 + 1 + 1 + 1 + 1 + 1) = False ∧ (b_v = z.H.n + 1 + 1 + 1 + 1 + 1 + 1 + 1 + 1 + 1 + 1 + 1) = False ∧ (b_v = z.H.n + 1 + 1 + 1 + 1 + 1 + 1 + 1 + 1 + 1 + 1 + 1 + 1) = False := ⟨eq_false (by omega), eq_false (by omega), eq_false (by omega), eq_false (by omega), eq_false (by omega), eq_false (by omega), eq_false (by omega), eq_false (by omega), eq_false (by omega), eq_false (by omega), eq_false (by omega)⟩
              have hla := hl2 _ (List.getElem_mem hLg)
              have hlb := hl2 _ (List.getElem_mem hi)
              have hzr := hzo.row
              have er : (nats z.L)[g]'(by rw [nats_len]; exact hgl2) = (z.L[g] : Int) := by simp [nats]
              have hLi : ((z.L[g] : Int) < (ps.length : Int)) = True := eq_true (by omega)
              have hgi2 : ((g : Int) < (z.L.length : Int)) = True := eq_true (by omega)
              have hed : edge ps limit z.L[g] i = decide (limit ≤ evid ps[z.L[g]] ps[i]) := by simp [edge, List.getD_eq_getElem?_getD, hLg, hi]
              by_cases he : limit ≤ evid ps[z.L[g]] ps[i]
              · have he' : edge ps limit z.L[g] i = true := by rw [hed]; exact decide_eq_true he
                simp (config := {contextual := true, implicitDefEqProofs := false, maxSteps := 2000000}) [-Int.not_le, -Int.not_lt, argsF, impl_sightingGroups_l0, hii, hsn, hi, his, hsi, hsl, w3, hzr, hgi2, hgl2, er, hLi, hLg, hat_ps.blk, hat_ps.esz, hat_ps.len, hon_ps, hne_ps, hne1_ps, hne2_ps.1, hne2_ps.2.1, hne2_ps.2.2.1, hne2_ps.2.2.2.1, hne2_ps.2.2.2.2.1, hne2_ps.2.2.2.2.2.1, hne2_ps.2.2.2.2.2.2.1, hne2_ps.2.2.2.2.2.2.2.1, hne2_ps.2.2.2.2.2.2.2.2.1, hne2_ps.2.2.2.2.2.2.2.2.2.1, hne2_ps.2.2.2.2.2.2.2.2.2.2, e_u, htx_u, hat_u.blk, hat_u.esz, hat_u.len, hat_u.els, hne_u, hne1_u, hne2_u.1, hne2_u.2.1, hne2_u.2.2.1, hne2_u.2.2.2.1, hne2_u.2.2.2.2.1, hne2_u.2.2.2.2.2.1, hne2_u.2.2.2.2.2.2.1, hne2_u.2.2.2.2.2.2.2.1, hne2_u.2.2.2.2.2.2.2.2.1, hne2_u.2.2.2.2.2.2.2.2.2.1, hne2_u.2.2.2.2.2.2.2.2.2.2, e_v, htx_v, hat_v.blk, hat_v.esz, hat_v.len, hat_v.els, hne_v, hne1_v, hne2_v.1, hne2_v.2.1, hne2_v.2.2.1, hne2_v.2.2.2.1, hne2_v.2.2.2.2.1, hne2_v.2.2.2.2.2.1, hne2_v.2.2.2.2.2.2.1, hne2_v.2.2.2.2.2.2.2.1, hne2_v.2.2.2.2.2.2.2.2.1, hne2_v.2.2.2.2.2.2.2.2.2.1, hne2_v.2.2.2.2.2.2.2.2.2.2, hla, hlb, he, q1, q2, q3, q4]
                rw [seenK_set, rowK_add]
                have hzL := hzb.len
                refine ⟨by omega, by omega, ⟨fun hw => ⟨(⟨_, z.seen.set i true, z.H.n + 1, z.L ++ [i]⟩, i + 1), ⟨GY.hit hwf0 hzo hwz' _ _ _, hzb.hit hi (List.getElem?_eq_getElem hgl2) (by rw [List.getElem?_eq_getElem his, hsi]) he', hi, by simp only [List.length_append]; omega⟩, by simp only; omega, .since (by simp only [push_n, kill_n, set_n]; omega) hw (.refl _) (by simp [frOk, AV.okR, AV.ok1, AC.okR, AV.ren, AV.ren1, AC.ren, AFrame.get, pl1_old, *]; first | done | rfl | omega)⟩⟩⟩
              · have he' : edge ps limit z.L[g] i = false := by rw [hed]; exact decide_eq_false he
                simp (config := {contextual := true, implicitDefEqProofs := false, maxSteps := 2000000}) [-Int.not_le, -Int.not_lt, argsF, impl_sightingGroups_l0, hii, hsn, hi, his, hsi, hsl, w3, hzr, hgi2, hgl2, er, hLi, hLg, hat_ps.blk, hat_ps.esz, hat_ps.len, hon_ps, hne_ps, hne1_ps, hne2_ps.1, hne2_ps.2.1, hne2_ps.2.2.1, hne2_ps.2.2.2.1, hne2_ps.2.2.2.2.1, hne2_ps.2.2.2.2.2.1, hne2_ps.2.2.2.2.2.2.1, hne2_ps.2.2.2.2.2.2.2.1, hne2_ps.2.2.2.2.2.2.2.2.1, hne2_ps.2.2.2.2.2.2.2.2.2.1, hne2_ps.2.2.2.2.2.2.2.2.2.2, e_u, htx_u, hat_u.blk, hat_u.esz, hat_u.len, hat_u.els, hne_u, hne1_u, hne2_u.1, hne2_u.2.1, hne2_u.2.2.1, hne2_u.2.2.2.1, hne2_u.2.2.2.2.1, hne2_u.2.2.2.2.2.1, hne2_u.2.2.2.2.2.2.1, hne2_u.2.2.2.2.2.2.2.1, hne2_u.2.2.2.2.2.2.2.2.1, hne2_u.2.2.2.2.2.2.2.2.2.1, hne2_u.2.2.2.2.2.2.2.2.2.2, e_v, htx_v, hat_v.blk, hat_v.esz, hat_v.len, hat_v.els, hne_v, hne1_v, hne2_v.1, hne2_v.2.1, hne2_v.2.2.1, hne2_v.2.2.2.1, hne2_v.2.2.2.2.1, hne2_v.2.2.2.2.2.1, hne2_v.2.2.2.2.2.2.1, hne2_v.2.2.2.2.2.2.2.1, hne2_v.2.2.2.2.2.2.2.2.1, hne2_v.2.2.2.2.2.2.2.2.2.1, hne2_v.2.2.2.2.2.2.2.2.2.2, hla, hlb, he, q1, q2, q3, q4]
                exact ⟨fun hw => ⟨(z, i + 1), ⟨hzo, hzb.miss hsym hi (List.getElem?_eq_getElem hgl2) (.inr he'), hi, hgl2⟩, by simp only; omega, .since hnz hw (.refl _) (by simp [frOk, AV.okR, AV.ok1, AC.okR, AV.ren, AV.ren1, AC.ren, AFrame.get, pl1_old, *]; first | done | rfl | omega)⟩⟩
          · obtain rfl : i = ps.length := by omega
            simp (config := {contextual := true, implicitDefEqProofs := false, maxSteps := 2000000}) [-Int.not_le, -Int.not_lt, argsF, impl_sightingGroups_l0, w2]
            exact ⟨fun hw => ⟨(z, g + 1), ⟨hzo, hzb.next⟩, by have := hzb.len; simp only; omega, .since hnz hw (.refl _) (by simp [frOk, AV.okR, AV.ok1, AC.okR, AV.ren, AV.ren1, AC.ren, AFrame.get, pl1_old, *]; first | done | rfl | omega)⟩⟩
        · have hgi : ((g : Int) < (y.L.length : Int)) = False := eq_false (by omega)
          have hpos : 0 < y.L.length := List.length_pos_of_mem hbf.mem
          have hL6 : y.L.length ≤ 1000000 := by omega
          have hgn : y.H.b x.bg = some (gsK x.cs x.gs) := hyo.ok.gn
          have hgl : x.cs.length = x.gs.length := hyo.ok.len
          have hgk : x.gs.length ≤ k := by rw [hgs]; exact groupsTo_len _ _ _
          have r1 : (x.bg = y.H.n) = False := eq_false (by omega)
          have r2 : (x.bg = y.H.n + 1) = False := eq_false (by omega)
          have r3 : (x.bg = y.b) = False := eq_false (fun e => hyo.n2 e.symm)
          have r4 : (y.b = x.bg) = False := eq_false hyo.n2
          have r5 : (y.b = y.H.n) = False := eq_false (by omega)
          simp (config := {contextual := true, implicitDefEqProofs := false, maxSteps := 2000000}) [-Int.not_le, -Int.not_lt, argsF, impl_sightingGroups_l1, hgi, hyo.row, hpos, hL6, hgn, w1, r1, r2, r3, r4, r5, hgl]
          obtain ⟨f1, f2⟩ := hbf.fin hg
          obtain ⟨f3, f4⟩ := sort_nats hbf.nd f1
          rw [f3, gsK_add hgl f4]
          refine ⟨by omega, by omega, ⟨fun hw => ⟨(⟨_, x.bs, y.seen, y.H.n + 1, x.cs ++ [y.b], x.gs ++ [comp (edge ps limit) ps.length k]⟩, k + 1), ⟨GX.last hwf hyo hwy' _ _, hk, f2, by rw [groupsTo_yes hbf.lead, ← hgs]⟩, by simp only; omega, .since (by simp only [push_n, kill_n, set_n]; omega) hw (.refl _) (by simp [frOk, AV.okR, AV.ok1, AC.okR, AV.ren, AV.ren1, AC.ren, AFrame.get, pl1_old, *]; first | done | rfl | omega)⟩⟩⟩

end Go.Proofs.Ytafenginfojcmaa
