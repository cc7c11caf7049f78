/- The group of a sighting, by the reference. -/
import Derived.Test.YtafenginfojcmaaSiX
import Derived.Test.YtafenginfojcmaaSiP
import Derived.Test.YtafenginfojcmaaComp
import Derived.Test.YtafenginfojcmaaTkSi
set_option maxRecDepth 8000
set_option linter.unusedSimpArgs false
set_option linter.unusedVariables false
namespace Go.Proofs.Ytafenginfojcmaa
open Go Go.RowKit

set_option maxHeartbeats 4000000
/-- two sightings have evidence enough -/
def edge (ps : List Si) (limit : Int) (x k : Nat) : Bool := decide (limit ≤ evid (ps.getD x default) (ps.getD k default))
def nats (L : List Nat) : List Int := L.map fun (k : Nat) => (k : Int)
@[simp] theorem nats_len (L : List Nat) : (nats L).length = L.length := by simp [nats]
theorem nats_mem {L : List Nat} {k : Nat} : (k : Int) ∈ nats L ↔ k ∈ L := by
  simp only [nats, List.mem_map]
  exact ⟨fun ⟨a, h, e⟩ => by rw [← Int.ofNat_inj.1 e]; exact h, fun h => ⟨k, h, rfl⟩⟩
theorem nats_tw (L : List Nat) (k : Nat) : (nats L).takeWhile (ltI k) = nats (L.takeWhile fun x => decide (x < k)) := by
  induction L with
  | nil => rfl
  | cons x r ih =>
    simp only [nats, List.map_cons, List.takeWhile_cons] at ih ⊢
    by_cases h : x < k
    · simp [ltI, h, ih, nats]
    · simp [ltI, h, nats]
theorem nats_dw (L : List Nat) (k : Nat) : (nats L).dropWhile (ltI k) = nats (L.dropWhile fun x => decide (x < k)) := by
  induction L with
  | nil => rfl
  | cons x r ih =>
    simp only [nats, List.map_cons, List.dropWhile_cons] at ih ⊢
    by_cases h : x < k
    · simp [ltI, h, ih, nats]
    · simp [ltI, h, nats]
theorem nats_put {L : List Nat} {k : Nat} (h : k ∉ L) : hasP (nats L) k = false ∧ putI (nats L) k = nats (putN L k) := by
  have h1 : hasP (nats L) k = false := by
    rw [hasP, nats_dw]
    refine decide_eq_false fun hc => h ?_
    have := List.mem_of_mem_head? hc
    exact (List.dropWhile_sublist _).mem (nats_mem.1 this)
  refine ⟨h1, ?_⟩
  rw [putI, h1, nats_dw, nats_tw]
  simp [nats, putN]
structure CvX where
  H : AHeap
  b : Nat
  o : Nat
  kb : ABlk
  L : List Nat
  more : Bool
structure CvX.Ok (x : CvX) (H0 : AHeap) (e : Nat → Nat → Bool) (n i : Nat) : Prop where
  sub : Sub H0 x.H
  row : eI.At x.H x.b x.o x.kb (nats x.L)
  up : x.L.Pairwise (· < ·)
  mem : i ∈ x.L
  rch : ∀ k ∈ x.L, Rch e n i k
def CvX.Mid (x x0 : CvX) (H0 : AHeap) (e : Nat → Nat → Bool) (n i k : Nat) : Prop := x.Ok H0 e n i ∧ k ≤ n ∧ (x.more = false → x.L = x0.L ∧ ∀ y ∈ x.L, ∀ k', k' < k → e y k' = true → k' ∈ x.L) ∧ (x.more = true → x0.L.length < x.L.length)
def CvX.Inn (x x0 : CvX) (H0 : AHeap) (e : Nat → Nat → Bool) (n i k j : Nat) : Prop := x.Mid x0 H0 e n i k ∧ k < n ∧ j ≤ x.L.length ∧ (k ∈ x.L ∨ ∀ j' (h : j' < x.L.length), j' < j → e x.L[j'] k = false)
def CvX.put (x : CvX) (T : TypeId) (k : Nat) : CvX := ⟨x.H.push (rowK eI T (nats (putN x.L k))), x.H.n, 0, rowK eI T (nats (putN x.L k)), putN x.L k, true⟩
@[simp] theorem CvX.put_b (x : CvX) (T : TypeId) (k : Nat) : (x.put T k).b = x.H.n := rfl
@[simp] theorem CvX.put_o (x : CvX) (T : TypeId) (k : Nat) : (x.put T k).o = 0 := rfl
@[simp] theorem CvX.put_L (x : CvX) (T : TypeId) (k : Nat) : (x.put T k).L = putN x.L k := rfl
@[simp] theorem CvX.put_more (x : CvX) (T : TypeId) (k : Nat) : (x.put T k).more = true := rfl
theorem CvX.Ok.len {x : CvX} {H0 : AHeap} {e : Nat → Nat → Bool} {n i : Nat} (h : x.Ok H0 e n i) : x.L.length ≤ n := by
  have := up_len (lo := 0) (n := n) h.up fun y hy => ⟨Nat.zero_le _, (h.rch y hy).lt⟩
  omega
theorem nats_at {H : AHeap} (T : TypeId) (L : List Nat) : eI.At (H.push (rowK eI T (nats L))) H.n 0 (rowK eI T (nats L)) (nats L) :=
  ⟨by simp [AHeap.push], rfl, by simp [nats], by simp [rowK, nats]⟩
section
variable {x x0 : CvX} {H0 : AHeap} {e : Nat → Nat → Bool} {n i k j : Nat}
theorem CvX.hit (h : x.Inn x0 H0 e n i k j) (hwf : H0.WF) (hj : j < x.L.length) (hk : k ∉ x.L) (he : e x.L[j] k = true) (T : TypeId) : (x.put T k).Inn x0 H0 e n i k (j + 1) := by
  obtain ⟨⟨hok, h1, h2, h3⟩, h4, h5, h6⟩ := h
  have hlen : x0.L.length ≤ x.L.length := by
    cases hm : x.more
    · rw [(h2 hm).1]; exact Nat.le_refl _
    · exact Nat.le_of_lt (h3 hm)
  have hpl := putN_len x.L k
  refine ⟨⟨⟨Sub.push hwf hok.sub _, nats_at T _, putN_up hok.up hk, putN_mem.2 (.inl hok.mem), fun y hy => ?_⟩, h1, fun hm => (by cases hm), fun _ => ?_⟩, h4, ?_, .inl (putN_mem.2 (.inr rfl))⟩
  · rcases putN_mem.1 hy with hy | rfl
    · exact hok.rch y hy
    · exact (hok.rch _ (List.getElem_mem hj)).step h4 he
  · simp only [CvX.put, hpl]; omega
  · simp only [CvX.put, hpl]; omega
theorem CvX.miss (h : x.Inn x0 H0 e n i k j) (hj : j < x.L.length) (he : e x.L[j] k = false) : x.Inn x0 H0 e n i k (j + 1) := by
  obtain ⟨hm, h4, h5, h6⟩ := h
  refine ⟨hm, h4, hj, h6.imp_right fun h6 j' hj' hlt => ?_⟩
  rcases Nat.lt_or_ge j' j with h | h
  · exact h6 j' hj' h
  · obtain rfl : j' = j := by omega
    exact he
theorem CvX.next (h : x.Inn x0 H0 e n i k j) (hc : x.L.length ≤ j ∨ k ∈ x.L) : x.Mid x0 H0 e n i (k + 1) := by
  obtain ⟨⟨hok, h1, h2, h3⟩, h4, h5, h6⟩ := h
  refine ⟨hok, h4, fun hm => ⟨(h2 hm).1, fun y hy k' hk' he => ?_⟩, h3⟩
  rcases Nat.lt_or_ge k' k with h | h
  · exact (h2 hm).2 y hy k' h he
  · obtain rfl : k' = k := by omega
    rcases h6 with h6 | h6
    · exact h6
    · rcases hc with hc | hc
      · obtain ⟨q, hq, rfl⟩ := List.getElem_of_mem hy
        rw [h6 q hq (by omega)] at he
        cases he
      · exact hc
theorem CvX.fin (h : x.Mid x0 H0 e n i n) (h0 : x0.more = true) : (x.Ok H0 e n i ∧ (x.more = false → ∀ y ∈ x.L, ∀ k, k < n → e y k = true → k ∈ x.L)) ∧ 2 * (n - x.L.length) + (if x.more = true then 1 else 0) < 2 * (n - x0.L.length) + (if x0.more = true then 1 else 0) := by
  obtain ⟨hok, h1, h2, h3⟩ := h
  refine ⟨⟨hok, fun hm => (h2 hm).2⟩, ?_⟩
  have := hok.len
  rw [if_pos h0]
  cases hm : x.more
  · rw [(h2 hm).1]; simp
  · have := h3 hm; simp only [if_true]; omega
end

def q_cover : Con := fun args H K => match args with
  | [ps_v, .c (.int .i64 limit), .c (.int .i64 i)] => eSi.rd H (fun ps => 0 ≤ i ∧ i.toNat < ps.length ∧ ps.length ≤ 10 ∧ (∀ p ∈ ps, p.traits.length ≤ 1048576) ∧ Stop (∀ H' b o k, H'.WF → Sub H H' → eI.At H' b o k (nats (comp (edge ps limit) ps.length i.toNat)) → K (.c (.sl (b) (o) ((comp (edge ps limit) ps.length i.toNat).length))) H') ()) ps_v
  | _ => False
@[simp ↓] theorem q_cover_eq (ps_v : AV) (limit : Int) (i : Int) (H : AHeap) (K : AV → AHeap → Prop) : q_cover [ps_v, .c (.int .i64 limit), .c (.int .i64 i)] H K = (eSi.rd H (fun ps => 0 ≤ i ∧ i.toNat < ps.length ∧ ps.length ≤ 10 ∧ (∀ p ∈ ps, p.traits.length ≤ 1048576) ∧ Stop (∀ H' b o k, H'.WF → Sub H H' → eI.At H' b o k (nats (comp (edge ps limit) ps.length i.toNat)) → K (.c (.sl (b) (o) ((comp (edge ps limit) ps.length i.toNat).length))) H') ()) ps_v) := rfl

theorem spec_l13Cover_s : Sound Try.prog 38 q_cover := by
  intro args H K h
  unfold q_cover at h
  split at h
  rotate_left
  all_goals first | exact False.elim h | skip
  rename_i ps_v limit i
  have h1 := EncH.rd_at h
  clear h
  obtain ⟨b_ps, i_ps, k_ps, ps, rfl, hat_ps, h⟩ := h1
  have hE := soundE_cons spec_l1Has_s (soundE_cons spec_l13Evidence_s (soundE_cons spec_l1Put_s (soundE_nil (P := Try.prog))))
  refine acalls_fn spec_l13Cover_k hE ⟨by simp, fun hwf => ?_⟩
  have hsr : SubE H H := SubE.refl H
  have hsp : ∀ H' k, H.n ≤ H'.n → SubE H H' → SubE H (H'.push k) := fun H' k hn hs => SubE.push hwf hn hs k
  have hst : ∀ H', SubE H H' → SubE H H'.toRo := fun H' hs => hs.toRo
  have hss : ∀ H' i k, H.n ≤ i → SubE H H' → SubE H (H'.set i k) := fun H' i k hn hs => SubE.set hwf hn hs k
  have hsk : ∀ H' i, H.n ≤ i → SubE H H' → SubE H (H'.kill i) := fun H' i hn hs => SubE.kill hwf hn hs
  have hon_ps := hat_ps.on
  have hb_ps : b_ps < H.n := (hwf b_ps k_ps hat_ps.blk).1
  have hne_ps : (b_ps = H.n) = False := eq_false (by omega)
  have hne1_ps : ∀ i, (b_ps = H.n + i) = False := fun i => eq_false (by omega)
  have hne2_ps : (b_ps = H.n + 1 + 1) = False ∧ (b_ps = H.n + 1 + 1 + 1) = False ∧ (b_ps = H.n + 1 + 1 + 1 + 1) = False ∧ (b_ps = H.n + 1 + 1 + 1 + 1 + 1) = False ∧ (b_ps = H.n + 1 + 1 + 1 + 1 + 1 + 1) = False ∧ (b_ps = H.n + 1 + 1 + 1 + 1 + 1 + 1 + 1) = False ∧ (b_ps = H.n + 1 + 1 + 1 + 1 + 1 + 1 + 1 + 1) = False ∧ (b_ps = H.n + 1 + 1 + 1 + 1 + 1 + 1 + 1 + 1 + 1) = False ∧ (b_ps = H.n + 1 + 1 + 1 + 1 + 1 + 1 + 1 + 1 + 1 + 1) = False ∧ (b_ps = H.n + 1 + 1 + 1 + 1 + 1 + 1 + 1 + 1 + 1 + 1 + 1) = False ∧ (b_ps = H.n + 1 + 1 + 1 + 1 + 1 + 1 + 1 + 1 + 1 + 1 + 1 + 1) = False := ⟨eq_false (by omega), eq_false (by omega), eq_false (by omega), eq_false (by omega), eq_false (by omega), eq_false (by omega), eq_false (by omega), eq_false (by omega), eq_false (by omega), eq_false (by omega), eq_false (by omega)⟩
  have hmx_ps : ps.length ≤ 9223372036854775807 := by have h1 := (hwf b_ps k_ps hat_ps.blk).2.2; have h2 := hat_ps.len; omega
  obtain ⟨hi0, hin, hl, hl2, h⟩ := h
  simp (config := {contextual := true, implicitDefEqProofs := false, maxSteps := 2000000}) [-Int.not_le, -Int.not_lt, argsF, spec_l13Cover_c, hat_ps.blk, hat_ps.esz, hat_ps.len, hon_ps, hne_ps, hne1_ps, hne2_ps.1, hne2_ps.2.1, hne2_ps.2.2.1, hne2_ps.2.2.2.1, hne2_ps.2.2.2.2.1, hne2_ps.2.2.2.2.2.1, hne2_ps.2.2.2.2.2.2.1, hne2_ps.2.2.2.2.2.2.2.1, hne2_ps.2.2.2.2.2.2.2.2.1, hne2_ps.2.2.2.2.2.2.2.2.2.1, hne2_ps.2.2.2.2.2.2.2.2.2.2, hsr, hsp, hst, hss, hsk]
  have hrow0 : H.push ⟨3, 1, false, false, [[.int .i64 i]]⟩ = H.push (rowK eI 3 (nats [i.toNat])) := by simp [rowK, nats, Int.max_eq_left hi0]
  refine aloop_heap (X := CvX) (fun x => [(0, .c (.sl b_ps i_ps ps.length)), (1, .c (.int .i64 (limit))), (7, .c (.sl (x.b) (x.o) (x.L.length))), (8, .c (.bool (x.more)))]) (fun x => x.H) (fun x => x.Ok H (edge ps limit) ps.length i.toNat ∧ (x.more = false → ∀ y ∈ x.L, ∀ k, k < ps.length → edge ps limit y k = true → k ∈ x.L))
    (fun x => 2 * (ps.length - x.L.length) + (if x.more = true then 1 else 0)) hE _ ⟨H.push (rowK eI 3 (nats [i.toNat])), H.n, 0, rowK eI 3 (nats [i.toNat]), [i.toNat], true⟩ ?_ (fun hw0 => ?_) (fun x hx hwx => ?_)
  · exact ⟨⟨Sub.push hwf (.refl _) _, nats_at _ _, by simp, by simp, fun k hk => by rw [List.mem_singleton.1 hk]; exact .refl hin⟩, fun hm => by cases hm⟩
  · rw [hrow0] at hw0 ⊢
    exact .since (by simp only [push_n]; omega) hw0 (.refl _) (by simp [frOk, AV.okR, AV.ok1, AC.okR, AV.ren, AV.ren1, AC.ren, AFrame.get, pl1_old, *]; first | done | rfl | omega)
  · obtain ⟨hok, hcl⟩ := hx
    have hs := hok.sub
    have hbx : x.b < x.H.n := (hwx _ _ hok.row.blk).1
    have hnx : H.n ≤ x.H.n := hs.1.1
    cases hm : x.more
    · have hL := comp_eq hok.up hok.mem hok.rch (hcl hm)
      simp (config := {contextual := true, implicitDefEqProofs := false, maxSteps := 2000000}) [-Int.not_le, -Int.not_lt, argsF, spec_l13Cover_l2, hm]
      rw [← hL] at h
      exact Out.whole hs.1.1 (by simp [frOk, AV.okR, AV.ok1, AC.okR, AV.ren, AV.ren1, AC.ren, AFrame.get, pl1_old, *]; first | done | rfl | omega) fun hw => Stop.go h x.H x.b x.o x.kb hw hs hok.row
    · simp (config := {contextual := true, implicitDefEqProofs := false, maxSteps := 2000000}) [-Int.not_le, -Int.not_lt, argsF, spec_l13Cover_l2, hm]
      refine aloop_heap (X := CvX × Nat) (fun y => [(0, .c (.sl b_ps i_ps ps.length)), (1, .c (.int .i64 (limit))), (7, .c (.sl (y.1.b) (y.1.o) (y.1.L.length))), (8, .c (.bool (y.1.more))), (9, .c (.int .i64 ((y.2 : Int))))]) (fun y => y.1.H) (fun y => y.1.Mid x H (edge ps limit) ps.length i.toNat y.2) (fun y => ps.length - y.2) hE _ (⟨x.H, x.b, x.o, x.kb, x.L, false⟩, 0) ?_ (fun hw0 => ?_) (fun y hy hwy => ?_)
      · exact ⟨⟨hok.sub, hok.row, hok.up, hok.mem, hok.rch⟩, Nat.zero_le _, fun _ => ⟨rfl, fun y _ k hk => absurd hk (Nat.not_lt_zero k)⟩, fun h => (by cases h)⟩
      · exact .since hs.1.1 hw0 (.refl _) (by simp [frOk, AV.okR, AV.ok1, AC.okR, AV.ren, AV.ren1, AC.ren, AFrame.get, pl1_old, *]; first | done | rfl | omega)
      · obtain ⟨y, k⟩ := y
        have hy1 : y.Ok H (edge ps limit) ps.length i.toNat := hy.1
        have hys := hy1.sub
        have hby : y.b < y.H.n := (hwy _ _ hy1.row.blk).1
        have hny : H.n ≤ y.H.n := hys.1.1
        have hkl : k ≤ ps.length := hy.2.1
        have hpy := hat_ps.sub hys
        rcases Nat.lt_or_ge k ps.length with hk | hk
        · have hki : ((k : Int) < (ps.length : Int)) = True := eq_true (by omega)
          simp (config := {contextual := true, implicitDefEqProofs := false, maxSteps := 2000000}) [-Int.not_le, -Int.not_lt, argsF, spec_l13Cover_l1, hki, hpy.blk, hpy.esz, hpy.len]
          refine aloop_heap (X := CvX × Nat) (fun z => [(0, .c (.sl b_ps i_ps ps.length)), (1, .c (.int .i64 (limit))), (7, .c (.sl (z.1.b) (z.1.o) (z.1.L.length))), (8, .c (.bool (z.1.more))), (9, .c (.int .i64 ((k : Int)))), (10, .c (.int .i64 ((z.2 : Int))))]) (fun z => z.1.H) (fun z => z.1.Inn x H (edge ps limit) ps.length i.toNat k z.2) (fun z => if k ∈ z.1.L then 0 else z.1.L.length + 1 - z.2) hE _ (y, 0) ⟨hy, hk, Nat.zero_le _, .inr fun j' _ hlt => absurd hlt (Nat.not_lt_zero _)⟩ (fun hw0 => ?_) (fun z hz hwz => ?_)
          · exact .since hys.1.1 hw0 (.refl _) (by simp [frOk, AV.okR, AV.ok1, AC.okR, AV.ren, AV.ren1, AC.ren, AFrame.get, pl1_old, *]; first | done | rfl | omega)
          · obtain ⟨z, j⟩ := z
            have hz1 : z.Ok H (edge ps limit) ps.length i.toNat := hz.1.1
            have hzs := hz1.sub
            have hbz : z.b < z.H.n := (hwz _ _ hz1.row.blk).1
            have hnz : H.n ≤ z.H.n := hzs.1.1
            have hjl : j ≤ z.L.length := hz.2.2.1
            have hzl := hz1.len
            have hrl := hz1.row.len
            have hre := hz1.row.els
            rw [nats_len] at hrl hre
            have w1 : IntKind.i64.wrap ((j : Int) + 1) = (j : Int) + 1 := wrap_id (by omega) (by omega)
            have w2 : IntKind.i64.wrap ((k : Int) + 1) = (k : Int) + 1 := wrap_id (by omega) (by omega)
            rcases Nat.lt_or_ge j z.L.length with hj | hj
            rotate_left
            · have hji : ((j : Int) < (z.L.length : Int)) = False := eq_false (by omega)
              simp (config := {contextual := true, implicitDefEqProofs := false, maxSteps := 2000000}) [-Int.not_le, -Int.not_lt, argsF, spec_l13Cover_l0, hji, w2]
              exact ⟨fun hw => ⟨(z, k + 1), CvX.next hz (.inl hj), by simp only; omega, .since hzs.1.1 hw (.refl _) (by simp [frOk, AV.okR, AV.ok1, AC.okR, AV.ren, AV.ren1, AC.ren, AFrame.get, pl1_old, *]; first | done | rfl | omega)⟩⟩
            have hji : ((j : Int) < (z.L.length : Int)) = True := eq_true (by omega)
            by_cases hkz : k ∈ z.L
            · have hkc : ((k : Int) ∈ nats z.L) = True := eq_true (nats_mem.2 hkz)
              simp (config := {contextual := true, implicitDefEqProofs := false, maxSteps := 2000000}) [-Int.not_le, -Int.not_lt, argsF, spec_l13Cover_l0, hji, w2, hz1.row.blk, hz1.row.esz, hrl, hre, hkc]
              exact ⟨fun hw => ⟨(z, k + 1), CvX.next hz (.inr hkz), by simp only; omega, .since hzs.1.1 hw (.refl _) (by simp [frOk, AV.okR, AV.ok1, AC.okR, AV.ren, AV.ren1, AC.ren, AFrame.get, pl1_old, *]; first | done | rfl | omega)⟩⟩
            · have hkc : ((k : Int) ∈ nats z.L) = False := eq_false fun h => hkz (nats_mem.1 h)
              have hLj : z.L[j] < ps.length := (hz1.rch _ (List.getElem_mem hj)).lt
              obtain ⟨hp1, hp2⟩ := nats_put hkz
              have hat_ps := hat_ps.sub hzs
              have hwf0 := hwf
              have hwf := hwz
              obtain ⟨ex_u, e_u, hd_u⟩ := hat_ps.get hLj
              obtain ⟨b_u, i_u, k_u, rfl, hat_u, htx_u⟩ := eSi_at hd_u
              have hb_u : b_u < z.H.n := (hwf b_u k_u hat_u.blk).1
              have hne_u : (b_u = z.H.n) = False := eq_false (by omega)
              have hne1_u : ∀ i, (b_u = z.H.n + i) = False := fun i => eq_false (by omega)
              have hne2_u : (b_u = z.H.n + 1 + 1) = False ∧ (b_u = z.H.n + 1 + 1 + 1) = False ∧ (b_u = z.H.n + 1 + 1 + 1 + 1) = False ∧ (b_u = z.H.n + 1 + 1 + 1 + 1 + 1) = False ∧ (b_u = z.H.n + 1 + 1 + 1 + 1 + 1 + 1) = False ∧ (b_u = z.H.n + 1 + 1 + 1 + 1 + 1 + 1 + 1) = False ∧ (b_u = z.H.n + 1 + 1 + 1 + 1 + 1 + 1 + 1 + 1) = False ∧ (b_u = z.H.n + 1 + 1 + 1 + 1 + 1 + 1 + 1 + 1 + 1) = False ∧ (b_u = z.H.n + 1 + 1 + 1 + 1 + 1 + 1 + 1 + 1 + 1 + 1) = False ∧ (b_u = z.H.n + 1 + 1 + 1 + 1 + 1 + 1 + 1 + 1 + 1 + 1 + 1) = False ∧ (b_u = z.H.n + 1 + 1 + 1 + 1 + 1 + 1 + 1 + 1 + 1 + 1 + 1 + 1) = False := ⟨eq_false (by omega), eq_false (by omega), eq_false (by omega), eq_false (by omega), eq_false (by omega), eq_false (by omega), eq_false (by omega), eq_false (by omega), eq_false (by omega), eq_false (by omega), eq_false (by omega)⟩
              obtain ⟨ex_v, e_v, hd_v⟩ := hat_ps.get hk
              obtain ⟨b_v, i_v, k_v, rfl, hat_v, htx_v⟩ := eSi_at hd_v
              have hb_v : b_v < z.H.n := (hwf b_v k_v hat_v.blk).1
              have hne_v : (b_v = z.H.n) = False := eq_false (by omega)
              have hne1_v : ∀ i, (b_v = z.H.n + i) = False := fun i => eq_false (by omega)
              have hne2_v : (b_v = z.H.n + 1 + 1) = False ∧ (b_v = z.H.n + 1 + 1 + 1) = False ∧ (b_v = z.H.n + 1 + 1 + 1 + 1) = False ∧ (b_v = z.H.n + 1 + 1 + 1 + 1 + 1) = False ∧ (b_v = z.H.n + 1 + 1 + 1 + 1 + 1 + 1) = False ∧ (b_v = z.H.n + 1 + 1 + 1 + 1 + 1 + 1 + 1) = False ∧ (b_v = z.H.n + 1 + 1 + 1 + 1 + 1 + 1 + 1 + 1) = False ∧ (b_v = z.H.n + 1 + 1 + 1 + 1 + 1 + 1 + 1 + 1 + 1) = False ∧ (b_v = z.H.n + 1 + 1 + 1 + 1 + 1 + 1 + 1 + 1 + 1 + 1) = False ∧ (b_v = z.H.n + 1 + 1 + 1 + 1 + 1 + 1 + 1 + 1 + 1 + 1 + 1) = False ∧ (b_v = z.H.n + 1 + 1 + 1 + 1 + 1 + 1 + 1 + 1 + 1 + 1 + 1 + 1) = False := ⟨eq_false (by omega), eq_false (by omega), eq_false (by omega), eq_false (by omega), eq_false (by omega), eq_false (by omega), eq_false (by omega), eq_false (by omega), eq_false (by omega), eq_false (by omega), eq_false (by omega)⟩
              have hla := hl2 _ (List.getElem_mem hLj)
              have hlb := hl2 _ (List.getElem_mem hk)
              have er := hz1.row.get (j := j) (by rw [nats_len]; exact hj)
              have en : (nats z.L)[j]'(by rw [nats_len]; exact hj) = (z.L[j] : Int) := by simp [nats]
              rw [en] at er
              have hLi : ((z.L[j] : Int) < (ps.length : Int)) = True := eq_true (by omega)
              have hed : edge ps limit z.L[j] k = decide (limit ≤ evid ps[z.L[j]] ps[k]) := by simp [edge, List.getD_eq_getElem?_getD, hLj, hk]
              by_cases he : limit ≤ evid ps[z.L[j]] ps[k]
              · have he' : edge ps limit z.L[j] k = true := by rw [hed]; exact decide_eq_true he
                simp (config := {contextual := true, implicitDefEqProofs := false, maxSteps := 2000000}) [-Int.not_le, -Int.not_lt, argsF, spec_l13Cover_l0, hji, hj, w1, hz1.row.blk, hz1.row.esz, hrl, hre, hkc, hat_ps.blk, hat_ps.esz, hat_ps.len, hon_ps, hne_ps, hne1_ps, hne2_ps.1, hne2_ps.2.1, hne2_ps.2.2.1, hne2_ps.2.2.2.1, hne2_ps.2.2.2.2.1, hne2_ps.2.2.2.2.2.1, hne2_ps.2.2.2.2.2.2.1, hne2_ps.2.2.2.2.2.2.2.1, hne2_ps.2.2.2.2.2.2.2.2.1, hne2_ps.2.2.2.2.2.2.2.2.2.1, hne2_ps.2.2.2.2.2.2.2.2.2.2, hki, hk, hLi, hLj, er, e_u, htx_u, hat_u.blk, hat_u.esz, hat_u.len, hat_u.els, hne_u, hne1_u, hne2_u.1, hne2_u.2.1, hne2_u.2.2.1, hne2_u.2.2.2.1, hne2_u.2.2.2.2.1, hne2_u.2.2.2.2.2.1, hne2_u.2.2.2.2.2.2.1, hne2_u.2.2.2.2.2.2.2.1, hne2_u.2.2.2.2.2.2.2.2.1, hne2_u.2.2.2.2.2.2.2.2.2.1, hne2_u.2.2.2.2.2.2.2.2.2.2, e_v, htx_v, hat_v.blk, hat_v.esz, hat_v.len, hat_v.els, hne_v, hne1_v, hne2_v.1, hne2_v.2.1, hne2_v.2.2.1, hne2_v.2.2.2.1, hne2_v.2.2.2.2.1, hne2_v.2.2.2.2.2.1, hne2_v.2.2.2.2.2.2.1, hne2_v.2.2.2.2.2.2.2.1, hne2_v.2.2.2.2.2.2.2.2.1, hne2_v.2.2.2.2.2.2.2.2.2.1, hne2_v.2.2.2.2.2.2.2.2.2.2, hla, hlb, he, hp1, hp2]
                have hpn : (z.put 3 k).H.n = z.H.n + 1 := rfl
                refine ⟨by omega, ⟨fun hw => ⟨(z.put 3 k, j + 1), CvX.hit hz hwf0 hj hkz he' _, ?_, .since (by simp only [push_n]; omega) hw (.refl _) (by simp [frOk, AV.okR, AV.ok1, AC.okR, AV.ren, AV.ren1, AC.ren, AFrame.get, pl1_old, *]; first | done | rfl | omega)⟩⟩⟩
                show (if k ∈ putN z.L k then 0 else _) < (if k ∈ z.L then 0 else _)
                rw [if_pos (putN_mem.2 (.inr rfl)), if_neg hkz]
                show 0 < z.L.length + 1 - j
                omega
              · have he' : edge ps limit z.L[j] k = false := by rw [hed]; exact decide_eq_false he
                simp (config := {contextual := true, implicitDefEqProofs := false, maxSteps := 2000000}) [-Int.not_le, -Int.not_lt, argsF, spec_l13Cover_l0, hji, hj, w1, hz1.row.blk, hz1.row.esz, hrl, hre, hkc, hat_ps.blk, hat_ps.esz, hat_ps.len, hon_ps, hne_ps, hne1_ps, hne2_ps.1, hne2_ps.2.1, hne2_ps.2.2.1, hne2_ps.2.2.2.1, hne2_ps.2.2.2.2.1, hne2_ps.2.2.2.2.2.1, hne2_ps.2.2.2.2.2.2.1, hne2_ps.2.2.2.2.2.2.2.1, hne2_ps.2.2.2.2.2.2.2.2.1, hne2_ps.2.2.2.2.2.2.2.2.2.1, hne2_ps.2.2.2.2.2.2.2.2.2.2, hki, hk, hLi, hLj, er, e_u, htx_u, hat_u.blk, hat_u.esz, hat_u.len, hat_u.els, hne_u, hne1_u, hne2_u.1, hne2_u.2.1, hne2_u.2.2.1, hne2_u.2.2.2.1, hne2_u.2.2.2.2.1, hne2_u.2.2.2.2.2.1, hne2_u.2.2.2.2.2.2.1, hne2_u.2.2.2.2.2.2.2.1, hne2_u.2.2.2.2.2.2.2.2.1, hne2_u.2.2.2.2.2.2.2.2.2.1, hne2_u.2.2.2.2.2.2.2.2.2.2, e_v, htx_v, hat_v.blk, hat_v.esz, hat_v.len, hat_v.els, hne_v, hne1_v, hne2_v.1, hne2_v.2.1, hne2_v.2.2.1, hne2_v.2.2.2.1, hne2_v.2.2.2.2.1, hne2_v.2.2.2.2.2.1, hne2_v.2.2.2.2.2.2.1, hne2_v.2.2.2.2.2.2.2.1, hne2_v.2.2.2.2.2.2.2.2.1, hne2_v.2.2.2.2.2.2.2.2.2.1, hne2_v.2.2.2.2.2.2.2.2.2.2, hla, hlb, he]
                exact ⟨fun hw => ⟨(z, j + 1), CvX.miss hz hj he', by simp only [hkz, if_false]; omega, .since hzs.1.1 hw (.refl _) (by simp [frOk, AV.okR, AV.ok1, AC.okR, AV.ren, AV.ren1, AC.ren, AFrame.get, pl1_old, *]; first | done | rfl | omega)⟩⟩
        · have hke : k = ps.length := by omega
          subst hke
          simp (config := {contextual := true, implicitDefEqProofs := false, maxSteps := 2000000}) [-Int.not_le, -Int.not_lt, argsF, spec_l13Cover_l1]
          obtain ⟨f1, f2⟩ := CvX.fin hy hm
          exact ⟨fun hw => ⟨y, f1, f2, .since hys.1.1 hw (.refl _) (by simp [frOk, AV.okR, AV.ok1, AC.okR, AV.ren, AV.ren1, AC.ren, AFrame.get, pl1_old, *]; first | done | rfl | omega)⟩⟩

end Go.Proofs.Ytafenginfojcmaa
