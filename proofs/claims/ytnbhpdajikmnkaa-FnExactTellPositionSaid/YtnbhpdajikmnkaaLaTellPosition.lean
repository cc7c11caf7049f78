/- It is proved that the law FnExactTellPosition returns true and leaves its arguments as they were, for all arguments that read as data. No condition. -/
import Derived.Test.YtnbhpdajikmnkaaLawP
import Derived.Test.YtnbhpdajikmnkaaFlU
set_option maxRecDepth 8000
set_option maxHeartbeats 1000000
set_option linter.unusedSimpArgs false
set_option linter.unusedVariables false
namespace Go.Proofs.Ytnbhpdajikmnkaa
open Go Go.ChangeShapes Go.WideShapes Go.ChangeAt Go.RowKit Go.Deep Go

def q_tTellPosition : Con := fun args H K => match args with
  | [ps_v, cs_v] => eFl.rd H (fun ps => eI.rd H (fun cs => K (.c (.bool (true))) H) cs_v) ps_v
  | _ => False
@[simp ↓] theorem q_tTellPosition_eq (ps_v : AV) (cs_v : AV) (H : AHeap) (K : AV → AHeap → Prop) : q_tTellPosition [ps_v, cs_v] H K = (eFl.rd H (fun ps => eI.rd H (fun cs => K (.c (.bool (true))) H) cs_v) ps_v) := rfl

theorem laws_FnExactTellPosition_s : Sound Try.prog 8 q_tTellPosition := by
  intro args H K h
  unfold q_tTellPosition at h
  split at h
  rotate_left
  all_goals first | exact False.elim h | skip
  rename_i ps_v cs_v
  have h1 := Enc.rd_at h
  clear h
  obtain ⟨b_ps, i_ps, k_ps, ps, rfl, hat_ps, h⟩ := h1
  have h1 := Enc.rd_at h
  clear h
  obtain ⟨b_cs, i_cs, k_cs, cs, rfl, hat_cs, h⟩ := h1
  have hE := soundE_cons laws_szFlawS_s (soundE_cons laws_toFlawS_s (soundE_cons laws_eqFlawS_s (soundE_cons laws_eqIntS_s (soundE_cons laws_toIntS_s (soundE_cons impl_TellPosition_s (soundE_cons spec_TellPosition_s (soundE_nil (P := Try.prog))))))))
  refine acalls_fn laws_FnExactTellPosition_k hE ⟨by simp, fun hwf => ?_⟩
  have hb_ps : b_ps < H.n := (hwf b_ps k_ps hat_ps.blk).1
  have hne_ps : (b_ps = H.n) = False := eq_false (by omega)
  have hne1_ps : ∀ i, (b_ps = H.n + i) = False := fun i => eq_false (by omega)
  have hne2_ps : (b_ps = H.n + 1 + 1) = False ∧ (b_ps = H.n + 1 + 1 + 1) = False ∧ (b_ps = H.n + 1 + 1 + 1 + 1) = False ∧ (b_ps = H.n + 1 + 1 + 1 + 1 + 1) = False ∧ (b_ps = H.n + 1 + 1 + 1 + 1 + 1 + 1) = False ∧ (b_ps = H.n + 1 + 1 + 1 + 1 + 1 + 1 + 1) = False ∧ (b_ps = H.n + 1 + 1 + 1 + 1 + 1 + 1 + 1 + 1) = False ∧ (b_ps = H.n + 1 + 1 + 1 + 1 + 1 + 1 + 1 + 1 + 1) = False ∧ (b_ps = H.n + 1 + 1 + 1 + 1 + 1 + 1 + 1 + 1 + 1 + 1) = False ∧ (b_ps = H.n + 1 + 1 + 1 + 1 + 1 + 1 + 1 + 1 + 1 + 1 + 1) = False ∧ (b_ps = H.n + 1 + 1 + 1 + 1 + 1 + 1 + 1 + 1 + 1 + 1 + 1 + 1) = False := ⟨eq_false (by omega), eq_false (by omega), eq_false (by omega), eq_false (by omega), eq_false (by omega), eq_false (by omega), eq_false (by omega), eq_false (by omega), eq_false (by omega), eq_false (by omega), eq_false (by omega)⟩
  have hmx_ps : ps.length ≤ 9223372036854775807 := by have h1 := (hwf b_ps k_ps hat_ps.blk).2.2; have h2 := hat_ps.len; omega
  have hb_cs : b_cs < H.n := (hwf b_cs k_cs hat_cs.blk).1
  have hne_cs : (b_cs = H.n) = False := eq_false (by omega)
  have hne1_cs : ∀ i, (b_cs = H.n + i) = False := fun i => eq_false (by omega)
  have hne2_cs : (b_cs = H.n + 1 + 1) = False ∧ (b_cs = H.n + 1 + 1 + 1) = False ∧ (b_cs = H.n + 1 + 1 + 1 + 1) = False ∧ (b_cs = H.n + 1 + 1 + 1 + 1 + 1) = False ∧ (b_cs = H.n + 1 + 1 + 1 + 1 + 1 + 1) = False ∧ (b_cs = H.n + 1 + 1 + 1 + 1 + 1 + 1 + 1) = False ∧ (b_cs = H.n + 1 + 1 + 1 + 1 + 1 + 1 + 1 + 1) = False ∧ (b_cs = H.n + 1 + 1 + 1 + 1 + 1 + 1 + 1 + 1 + 1) = False ∧ (b_cs = H.n + 1 + 1 + 1 + 1 + 1 + 1 + 1 + 1 + 1 + 1) = False ∧ (b_cs = H.n + 1 + 1 + 1 + 1 + 1 + 1 + 1 + 1 + 1 + 1 + 1) = False ∧ (b_cs = H.n + 1 + 1 + 1 + 1 + 1 + 1 + 1 + 1 + 1 + 1 + 1 + 1) = False := ⟨eq_false (by omega), eq_false (by omega), eq_false (by omega), eq_false (by omega), eq_false (by omega), eq_false (by omega), eq_false (by omega), eq_false (by omega), eq_false (by omega), eq_false (by omega), eq_false (by omega)⟩
  have hmx_cs : cs.length ≤ 9223372036854775807 := by have h1 := (hwf b_cs k_cs hat_cs.blk).2.2; have h2 := hat_cs.len; omega
  have hc1 : (1048576 < (cs.length : Int)) ∨ cs.length ≤ 1048576 := by omega
  rcases hc1 with hc | hc
  · simp (config := {contextual := true, implicitDefEqProofs := false, maxSteps := 60000}) [-Int.not_le, -Int.not_lt, argsF, laws_FnExactTellPosition_c, hc]
    (refine Out.plain hwf ?_ rfl ?_; (repeat first | exact Sub.refl _ | refine Sub.push hwf ?_ _ | refine Sub.set hwf ?_ (by first | exact Nat.le_refl _ | omega) _ | refine Sub.kill hwf ?_ (by first | exact Nat.le_refl _ | omega))); exact h
  have hc' : ¬ (1048576 < (cs.length : Int)) := by omega

  have hw : IntKind.i64.wrap (1048576 - (ps.length : Int)) = 1048576 - (ps.length : Int) := wrap_id (by omega) (by omega)
  have hls : ps.length ≤ 1048576 ∨ 1048576 < ps.length := by omega
  rcases hls with hl | hl
  · have h0 : ¬ (1048576 - (ps.length : Int)) < 0 := by omega
    have hk1 : (0 : Int) ≤ 1 + 4 * (ps.length : Int) := by omega
    have hk2 : 1 + 4 * (ps.length : Int) ≤ 1099511627776 := by omega
    have hk3 : ¬ (1 + 4 * (ps.length : Int) + (cs.length : Int) < 0) := by omega
    simp (config := {contextual := true, implicitDefEqProofs := false, maxSteps := 400000}) [-Int.not_le, -Int.not_lt, argsF, laws_FnExactTellPosition_c, hw, h0, hat_ps.blk, hat_ps.esz, hat_ps.len, hat_ps.els, hne_ps, hne1_ps, hne2_ps.1, hne2_ps.2.1, hne2_ps.2.2.1, hne2_ps.2.2.2.1, hne2_ps.2.2.2.2.1, hne2_ps.2.2.2.2.2.1, hne2_ps.2.2.2.2.2.2.1, hne2_ps.2.2.2.2.2.2.2.1, hne2_ps.2.2.2.2.2.2.2.2.1, hne2_ps.2.2.2.2.2.2.2.2.2.1, hne2_ps.2.2.2.2.2.2.2.2.2.2, hat_cs.blk, hat_cs.esz, hat_cs.len, hat_cs.els, hne_cs, hne1_cs, hne2_cs.1, hne2_cs.2.1, hne2_cs.2.2.1, hne2_cs.2.2.2.1, hne2_cs.2.2.2.2.1, hne2_cs.2.2.2.2.2.1, hne2_cs.2.2.2.2.2.2.1, hne2_cs.2.2.2.2.2.2.2.1, hne2_cs.2.2.2.2.2.2.2.2.1, hne2_cs.2.2.2.2.2.2.2.2.2.1, hne2_cs.2.2.2.2.2.2.2.2.2.2, hc, hc', hk1, hk2, hk3, hl ]
    (refine Out.plain hwf ?_ rfl ?_; (repeat first | exact Sub.refl _ | refine Sub.push hwf ?_ _ | refine Sub.set hwf ?_ (by first | exact Nat.le_refl _ | omega) _ | refine Sub.kill hwf ?_ (by first | exact Nat.le_refl _ | omega))); exact h
  · have h0 : (1048576 - (ps.length : Int)) < 0 := by omega
    simp (config := {contextual := true, implicitDefEqProofs := false, maxSteps := 60000}) [-Int.not_le, -Int.not_lt, argsF, laws_FnExactTellPosition_c, hw, h0]
    (refine Out.plain hwf ?_ rfl ?_; (repeat first | exact Sub.refl _ | refine Sub.push hwf ?_ _ | refine Sub.set hwf ?_ (by first | exact Nat.le_refl _ | omega) _ | refine Sub.kill hwf ?_ (by first | exact Nat.le_refl _ | omega))); exact h

theorem walk_FnExactTellPosition {W : World} {v0 : Value} {l0 : List Fl} {pl0 : Place} (h0 : ArgS eFl 49 W v0 l0 pl0) {v1 : Value} {l1 : List Int} {pl1 : Place} (h1 : ArgS eI 3 W v1 l1 pl1) :
    Calls Try.prog 8 #[v0, v1] W fun e W' => e = .returned (.bool true) ∧ Below W.heap.size W W' := by
  obtain ⟨a0, rfl, hl0, ha0⟩ := h0.val
  have hH0 := (hrep0 (fun _ => ⟨0, 0, 0, 0⟩) W (I := fun _ => True) fun _ _ => trivial).addRo (p := pl0) (k := ⟨49, eFl.n, true, false, l0.map eFl.cells⟩) rfl (h0.cells _ _) h0.lt (by simpa using h0.mx)
  obtain ⟨a1, rfl, hl1, ha1⟩ := h1.val
  have hH1 := hH0.addRo (p := pl1) (k := ⟨3, eI.n, true, false, l1.map eI.cells⟩) rfl (h1.cells _ _) h1.lt (by simpa using h1.mx)
  refine calls_true laws_FnExactTellPosition_s (args := [.c (.sl 0 0 l0.length), .c (.sl 1 0 l1.length)]) hH1 ⟨⟨by simp [AHeap.push, H0], a0, pl0.cap, rfl, hl0, by simp [updP, H0, AHeap.push], by simpa [updP, H0, AHeap.push] using ha0⟩, ⟨by simp [AHeap.push, H0], a1, pl1.cap, rfl, hl1, by simp [updP, H0, AHeap.push], by simpa [updP, H0, AHeap.push] using ha1⟩, trivial⟩ ?_
  unfold q_tTellPosition
  simp [AHeap.push, H0]

set_option maxRecDepth 100000 in
theorem lifted_FnExactTellPosition (os : Os) (started : os.Started) (H : Type) (enc : TypeId × Value → H) :
    ReturnsInHanded {} Try.checked os 8 .any (Rows.fnExactTellPositionSpec.pre6 enc Try.prog Try.f8 Rows.fnExactTellPositionRow.domain false) (Rows.fnExactTellPositionSpec.post enc Try.prog Try.f8 false true false false) := by
  refine returnsInHanded_of_change (C := Try.checked) own started (by kernel_rfl) Try.func8
    (ChangeSpec.witness6 (enc := enc) (C := Try.checked) false ⟨#[], #[.slice none 0 0, .slice none 0 0], []⟩ 8 (by kernel_rfl) (by kernel_rfl) (by kernel_rfl) (by kernel_rfl)) ?_
  intro W base args ds gs before hval0 hW hcnd _
  have hval : ∀ (j : Nat) t v, Try.f8.params[j]? = some t → args[j]? = some v → Value.okWide Try.prog W .any base t v := hval0
  have hW' := hW
  obtain ⟨p, q, hA0, hV, rfl, hfz, hnd⟩ := hW
  have hA : DataW.TrodAll enc Try.prog W 0 (fun _ => true) true Try.f8.params.toList args.toList ds p := hA0
  rw [Try.params8] at hA hval
  obtain ⟨v0, vs0, d0, ds0, p0, q0, hargs0, rfl, rfl, h0, r0⟩ := trodAll_cons hA
  obtain ⟨v1, vs1, d1, ds1, p1, q1, hargs1, rfl, rfl, h1, r1⟩ := trodAll_cons r0
  obtain ⟨hnil, rfl, rfl⟩ := trodAll_nil r1
  obtain rfl : args = #[v0, v1] := by cases args; simp_all
  obtain ⟨rfl, rfl⟩ := trodVars_none hV
  have k0 := h0
  have lt0 : ∀ x ∈ p0, x.block < W.heap.size := by obtain ⟨m, hm⟩ := k0; exact DataW.trod_lt m _ _ _ hm
  have k1 := h1
  have lt1 : ∀ x ∈ p1, x.block < W.heap.size := by obtain ⟨m, hm⟩ := k1; exact DataW.trod_lt m _ _ _ hm
  obtain ⟨l0, pl0, ha0⟩ := open_FlawS (hval 0 22 v0 rfl rfl) h0
  obtain ⟨l1, pl1, ha1⟩ := open_IntS (hval 1 32 v1 rfl rfl) h1
  clear hA0 hval0
  refine (walk_FnExactTellPosition ha0 ha1).mono fun e W' ⟨he, bel⟩ => ?_
  subst he
  exact ⟨_, rfl, _, _, _, [], _, [], hW', trodAll_mk1 (shut_bool Try.underlying4 _), (trodAll_cons_mk (Below.trod laidOut (by kernel_rfl) (of_decide_eq_true (by kernel_rfl)) k0 bel lt0) (trodAll_cons_mk (Below.trod laidOut (by kernel_rfl) (of_decide_eq_true (by kernel_rfl)) k1 bel lt1) trodAll_mk0)), rfl, bel.frame _, fun h => by cases h⟩
theorem over_FnExactTellPosition : Rows.fnExactTellPositionRow.holds Try.pinned (OpenSpec.ofChange Rows.fnExactTellPositionSpec) :=
  OpenClaim.holds_of_wide 8 Try.f8 rfl rfl rfl rfl rfl rfl rfl ⟨rfl, rfl, rfl, rfl, rfl⟩ rfl rfl rfl rfl rfl (by kernel_rfl) Try.func8 (by kernel_rfl)
    (of_decide_eq_true (by kernel_rfl)) (by unfold Func.isWrapper; first | (rw [if_pos (by decide +kernel)]; kernel_rfl) | (rw [if_neg (by decide +kernel)]; exact ⟨rfl, rfl⟩))
    (fun os started H enc _ => lifted_FnExactTellPosition os started H enc)
theorem proved_TellPosition : Rows.FnExactTellPositionSaid := over_FnExactTellPosition

end Go.Proofs.Ytnbhpdajikmnkaa
