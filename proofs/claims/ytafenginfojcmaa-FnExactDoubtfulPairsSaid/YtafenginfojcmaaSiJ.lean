/- The group of a sighting, by the program. -/
import Derived.Test.YtafenginfojcmaaSiH
set_option maxRecDepth 8000
set_option linter.unusedSimpArgs false
set_option linter.unusedVariables false
namespace Go.Proofs.Ytafenginfojcmaa
open Go Go.RowKit

set_option maxHeartbeats 4000000
theorem eII_at {H : AHeap} {e : List AC} {l : List Int} (h : eII.dec H e = some l) : ∃ b i k, e = [.sl b i l.length] ∧ eI.At H b i k l := by
  simp only [eII] at h
  split at h
  · obtain ⟨b, i, k, rfl, h2⟩ := rdI_at h
    exact ⟨b, i, k, rfl, h2⟩
  · cases h
theorem groups_find {e : Nat → Nat → Bool} {n m : Nat} (hm : m < n) : ∃ g ∈ groupsTo e n n, m ∈ g := by
  have hx : ∃ j, j ≤ m ∧ Rch e n j m := ⟨m, Nat.le_refl _, .refl hm⟩
  have : ∀ j, Rch e n j m → ∃ i, i ≤ j ∧ Rch e n i m ∧ leads e n i := by
    intro j
    induction j using Nat.strongRecOn with
    | _ j ih =>
      intro hj
      by_cases hl : leads e n j
      · exact ⟨j, Nat.le_refl _, hj, hl⟩
      · simp only [leads, Classical.not_forall, Classical.not_not] at hl
        obtain ⟨i, hi, hr⟩ := hl
        obtain ⟨i', h1, h2, h3⟩ := ih i hi (hr.trans hj)
        exact ⟨i', by omega, h2, h3⟩
  obtain ⟨j, _, hj⟩ := hx
  obtain ⟨i, _, hr, hl⟩ := this j hj
  refine ⟨comp e n i, ?_, mem_comp.2 hr⟩
  unfold groupsTo
  exact List.mem_map.2 ⟨i, List.mem_filter.2 ⟨List.mem_range.2 hr.start, leadB_t.2 hl⟩, rfl⟩
theorem groups_same {e : Nat → Nat → Bool} {n m : Nat} (hs : ∀ x k, x < n → k < n → e x k = true → e k x = true) {g : List Nat} (hg : g ∈ groupsTo e n n) (hm : m ∈ g) : g = comp e n m := by
  unfold groupsTo at hg
  obtain ⟨i, _, rfl⟩ := List.mem_map.1 hg
  exact comp_same hs (mem_comp.1 hm)

def q_gw : Con := fun args H K => match args with
  | [ps_v, .c (.int .i64 limit), .c (.int .i64 id)] => eSi.rd H (fun ps => 0 ≤ ixOf (fun s : Si => decide (s.id = id)) ps 0 ∧ ps.length ≤ 10 ∧ (∀ p ∈ ps, p.traits.length ≤ 1048576) ∧ (∀ x k, x < ps.length → k < ps.length → edge ps limit x k = true → edge ps limit k x = true) ∧ Stop (∀ H' b o k, H'.WF → Sub H H' → eI.At H' b o k (nats (comp (edge ps limit) ps.length (ixOf (fun s : Si => decide (s.id = id)) ps 0).toNat)) → K (.c (.sl (b) (o) ((comp (edge ps limit) ps.length (ixOf (fun s : Si => decide (s.id = id)) ps 0).toNat).length))) H') ()) ps_v
  | _ => False
@[simp ↓] theorem q_gw_eq (ps_v : AV) (limit : Int) (id : Int) (H : AHeap) (K : AV → AHeap → Prop) : q_gw [ps_v, .c (.int .i64 limit), .c (.int .i64 id)] H K = (eSi.rd H (fun ps => 0 ≤ ixOf (fun s : Si => decide (s.id = id)) ps 0 ∧ ps.length ≤ 10 ∧ (∀ p ∈ ps, p.traits.length ≤ 1048576) ∧ (∀ x k, x < ps.length → k < ps.length → edge ps limit x k = true → edge ps limit k x = true) ∧ Stop (∀ H' b o k, H'.WF → Sub H H' → eI.At H' b o k (nats (comp (edge ps limit) ps.length (ixOf (fun s : Si => decide (s.id = id)) ps 0).toNat)) → K (.c (.sl (b) (o) ((comp (edge ps limit) ps.length (ixOf (fun s : Si => decide (s.id = id)) ps 0).toNat).length))) H') ()) ps_v) := rfl

theorem impl_groupWith_s : Sound Try.prog 34 q_gw := by
  intro args H K h
  unfold q_gw at h
  split at h
  rotate_left
  all_goals first | exact False.elim h | skip
  rename_i ps_v limit id
  have h1 := EncH.rd_at h
  clear h
  obtain ⟨b_ps, i_ps, k_ps, ps, rfl, hat_ps, h⟩ := h1
  have hE := soundE_cons impl_sightingAt_s (soundE_cons impl_sightingGroups_s (soundE_cons slices_Contains___int_int_s (soundE_nil (P := Try.prog))))
  refine acalls_fn impl_groupWith_k hE ⟨by simp, fun hwf => ?_⟩
  have hsr : SubE H H := SubE.refl H
  have hsp : ∀ H' k, H.n ≤ H'.n → SubE H H' → SubE H (H'.push k) := fun H' k hn hs => SubE.push hwf hn hs k
  have hst : ∀ H', SubE H H' → SubE H H'.toRo := fun H' hs => hs.toRo
  have hss : ∀ H' i k, H.n ≤ i → SubE H H' → SubE H (H'.set i k) := fun H' i k hn hs => SubE.set hwf hn hs k
  have hsk : ∀ H' i, H.n ≤ i → SubE H H' → SubE H (H'.kill i) := fun H' i hn hs => SubE.kill hwf hn hs
  have hon_ps := hat_ps.on
  have hb_ps : b_ps < H.n := (hwf b_ps k_ps hat_ps.blk).1
  have hne_ps : (b_ps = H.n) = False := eq_false (by omega)
  have hne1_ps : ∀ i, (b_ps = H.n + i) = False := fun i => eq_false (by omega)
  have hne2_ps : (b_ps = H.n + 1 + 1) = False ∧ (b_ps = H.n + 1 + 1 + 1) = False ∧ (b_ps = H.n + 1 + 1 + 1 + 1) = False ∧ (b_ps = H.n + 1 + 1 + 1 + 1 + 1) = False ∧ (b_ps = H.n + 1 + 1 + 1 + 1 + 1 + 1) = False ∧ (b_ps = H.n + 1 + 1 + 1 + 1 + 1 + 1 + 1) = False ∧ (b_ps = H.n + 1 + 1 + 1 + 1 + 1 + 1 + 1 + 1) = False ∧ (b_ps = H.n + 1 + 1 + 1 + 1 + 1 + 1 + 1 + 1 + 1) = False ∧ (b_ps = H.n + 1 + 1 + 1 + 1 + 1 + 1 + 1 + 1 + 1 + 1) = False ∧ (b_ps = H.n + 1 + 1 + 1 + 1 + 1 + 1 + 1 + 1 + 1 + 1 + 1) = False ∧ (b_ps = H.n + 1 + 1 + 1 + 1 + 1 + 1 + 1 + 1 + 1 + 1 + 1 + 1) = False := ⟨eq_false (by omega), eq_false (by omega), eq_false (by omega), eq_false (by omega), eq_false (by omega), eq_false (by omega), eq_false (by omega), eq_false (by omega), eq_false (by omega), eq_false (by omega), eq_false (by omega)⟩
  have hmx_ps : ps.length ≤ 9223372036854775807 := by have h1 := (hwf b_ps k_ps hat_ps.blk).2.2; have h2 := hat_ps.len; omega
  obtain ⟨hi0, hl, hl2, hsym, h⟩ := h
  rcases ixOf_find (fun s : Si => decide (s.id = id)) ps with ⟨e1, _⟩ | ⟨m, hm, e1, _⟩
  · rw [e1] at hi0; omega
  rw [e1] at h
  simp only [Int.toNat_natCast] at h
  simp (config := {contextual := true, implicitDefEqProofs := false, maxSteps := 2000000}) [-Int.not_le, -Int.not_lt, argsF, impl_groupWith_c, hat_ps.blk, hat_ps.esz, hat_ps.len, hon_ps, hne_ps, hne1_ps, hne2_ps.1, hne2_ps.2.1, hne2_ps.2.2.1, hne2_ps.2.2.2.1, hne2_ps.2.2.2.2.1, hne2_ps.2.2.2.2.2.1, hne2_ps.2.2.2.2.2.2.1, hne2_ps.2.2.2.2.2.2.2.1, hne2_ps.2.2.2.2.2.2.2.2.1, hne2_ps.2.2.2.2.2.2.2.2.2.1, hne2_ps.2.2.2.2.2.2.2.2.2.2, hsr, hsp, hst, hss, hsk, e1, hl, hl2, hsym]
  refine Stop.mk fun H1 b1 k1 hw1 hs1 hat1 => ?_
  have hn1 : H.n ≤ H1.n := hs1.1.1
  have hb1 : b1 < H1.n := (hw1 _ _ hat1.blk).1
  have hgl := groupsTo_len (edge ps limit) ps.length ps.length
  generalize hgs : groupsTo (edge ps limit) ps.length ps.length = gs at hat1 hgl
  simp (config := {contextual := true, implicitDefEqProofs := false, maxSteps := 2000000}) [-Int.not_le, -Int.not_lt, argsF, hat1.blk, hat1.esz, hgs, e1]
  refine aloop_list gs (fun j _ => [(7, .c (.int .i64 ((m : Int)))), (15, .c (.sl (b1) (0) (gs.length))), (16, .c (.int .i64 gs.length)), (17, .c (.int .i64 (j)))]) (fun j _ => H1) (fun j l _ => ∃ g ∈ l, m ∈ g) hE _ () (by rw [← hgs]; exact groups_find hm) (.since hn1 hw1 (.refl _) (by simp [frOk, AV.okR, AV.ok1, AC.okR, AV.ren, AV.ren1, AC.ren, AFrame.get, pl1_old, *]; first | done | rfl | omega)) (fun j _ hlt hi => ?_) fun _ hi => ?_
  · have hj1 := idx_lt hlt
    have w1 : IntKind.i64.wrap ((j : Int) + 1) = (j : Int) + 1 := wrap_id (by omega) (by omega)
    obtain ⟨ex, ee, hd⟩ := hat1.get (j := j) (by simpa using hlt)
    rw [Nat.zero_add] at ee
    rw [List.getElem_map] at hd
    obtain ⟨c, o, kc, rfl, hatc⟩ := eII_at hd
    have hcl := hatc.len
    have hce := hatc.els
    rw [nats_len] at ee hcl hce
    have hcb : c < H1.n := (hw1 _ _ hatc.blk).1
    by_cases hmg : m ∈ gs[j]
    · have hmc : ((m : Int) ∈ nats gs[j]) = True := eq_true (nats_mem.2 hmg)
      simp (config := {contextual := true, implicitDefEqProofs := false, maxSteps := 2000000}) [-Int.not_le, -Int.not_lt, argsF, impl_groupWith_l0, hj1, hlt, hat1.blk, hat1.esz, ee, hatc.blk, hatc.esz, hcl, hce, hmc]
      have hgc := groups_same hsym (by rw [hgs]; exact List.getElem_mem hlt) hmg
      rw [← hgc] at h
      exact Out.whole hn1 (by simp [frOk, AV.okR, AV.ok1, AC.okR, AV.ren, AV.ren1, AC.ren, AFrame.get, pl1_old, *]; first | done | rfl | omega) fun hw => Stop.go h H1 c o kc hw hs1 hatc
    · have hmc : ((m : Int) ∈ nats gs[j]) = False := eq_false fun h => hmg (nats_mem.1 h)
      simp (config := {contextual := true, implicitDefEqProofs := false, maxSteps := 2000000}) [-Int.not_le, -Int.not_lt, argsF, impl_groupWith_l0, hj1, hlt, hat1.blk, hat1.esz, ee, hatc.blk, hatc.esz, hcl, hce, hmc, w1]
      obtain ⟨g, hg, hm2⟩ := hi
      rcases List.mem_cons.1 hg with rfl | hg
      · exact absurd hm2 hmg
      · exact ⟨(), ⟨g, hg, hm2⟩, .since hn1 hw1 (.refl _) (by simp [frOk, AV.okR, AV.ok1, AC.okR, AV.ren, AV.ren1, AC.ren, AFrame.get, pl1_old, *]; first | done | rfl | omega)⟩
  · obtain ⟨g, hg, _⟩ := hi
    cases hg

end Go.Proofs.Ytafenginfojcmaa
