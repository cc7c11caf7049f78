/- It is proved that the law FnExactPositionsFor returns true and leaves its arguments as they were, for all arguments that read as data. No condition. -/
import Derived.Test.YtnbhpdajikmnkaaLawP
import Derived.Test.YtnbhpdajikmnkaaFlT
set_option maxRecDepth 8000
set_option maxHeartbeats 1000000
set_option linter.unusedSimpArgs false
set_option linter.unusedVariables false
namespace Go.Proofs.Ytnbhpdajikmnkaa
open Go Go.ChangeShapes Go.WideShapes Go.ChangeAt Go.RowKit Go.Deep Go

def q_tPositionsFor : Con := fun args H K => match args with
  | [ps_v, cs_v, .c (.int .i64 st)] => eFl.rd H (fun ps => eI.rd H (fun cs => K (.c (.bool (true))) H) cs_v) ps_v
  | _ => False
@[simp ↓] theorem q_tPositionsFor_eq (ps_v : AV) (cs_v : AV) (st : Int) (H : AHeap) (K : AV → AHeap → Prop) : q_tPositionsFor [ps_v, cs_v, .c (.int .i64 st)] H K = (eFl.rd H (fun ps => eI.rd H (fun cs => K (.c (.bool (true))) H) cs_v) ps_v) := rfl

theorem laws_FnExactPositionsFor_s : Sound Try.prog 7 q_tPositionsFor := by
  intro args H K h
  unfold q_tPositionsFor at h
  split at h
  rotate_left
  all_goals first | exact False.elim h | skip
  rename_i ps_v cs_v st
  have h1 := Enc.rd_at h
  clear h
  obtain ⟨b_ps, i_ps, k_ps, ps, rfl, hat_ps, h⟩ := h1
  have h1 := Enc.rd_at h
  clear h
  obtain ⟨b_cs, i_cs, k_cs, cs, rfl, hat_cs, h⟩ := h1
  have hE := soundE_cons laws_szFlawS_s (soundE_cons laws_toFlawS_s (soundE_cons laws_eqFlawS_s (soundE_cons laws_markFlawS_s (soundE_cons laws_eqIntS_s (soundE_cons laws_markIntS_s (soundE_cons laws_heldIntS_s (soundE_cons laws_toIntS_s (soundE_cons impl_PositionsFor_s (soundE_cons spec_PositionsFor_s (soundE_nil (P := Try.prog)))))))))))
  refine acalls_fn laws_FnExactPositionsFor_k hE ⟨by simp, fun hwf => ?_⟩
  have hb_ps : b_ps < H.n := (hwf b_ps k_ps hat_ps.blk).1
  have hne_ps : (b_ps = H.n) = False := eq_false (by omega)
  have hne1_ps : ∀ i, (b_ps = H.n + i) = False := fun i => eq_false (by omega)
  have hne2_ps : (b_ps = H.n + 1 + 1) = False ∧ (b_ps = H.n + 1 + 1 + 1) = False ∧ (b_ps = H.n + 1 + 1 + 1 + 1) = False ∧ (b_ps = H.n + 1 + 1 + 1 + 1 + 1) = False ∧ (b_ps = H.n + 1 + 1 + 1 + 1 + 1 + 1) = False ∧ (b_ps = H.n + 1 + 1 + 1 + 1 + 1 + 1 + 1) = False ∧ (b_ps = H.n + 1 + 1 + 1 + 1 + 1 + 1 + 1 + 1) = False ∧ (b_ps = H.n + 1 + 1 + 1 + 1 + 1 + 1 + 1 + 1 + 1) = False ∧ (b_ps = H.n + 1 + 1 + 1 + 1 + 1 + 1 + 1 + 1 + 1 + 1) = False ∧ (b_ps = H.n + 1 + 1 + 1 + 1 + 1 + 1 + 1 + 1 + 1 + 1 + 1) = False ∧ (b_ps = H.n + 1 + 1 + 1 + 1 + 1 + 1 + 1 + 1 + 1 + 1 + 1 + 1) = False := ⟨eq_false (by omega), eq_false (by omega), eq_false (by omega), eq_false (by omega), eq_false (by omega), eq_false (by omega), eq_false (by omega), eq_false (by omega), eq_false (by omega), eq_false (by omega), eq_false (by omega)⟩
  have hmx_ps : ps.length ≤ 9223372036854775807 := by have h1 := (hwf b_ps k_ps hat_ps.blk).2.2; have h2 := hat_ps.len; omega
  have hb_cs : b_cs < H.n := (hwf b_cs k_cs hat_cs.blk).1
  have hne_cs : (b_cs = H.n) = False := eq_false (by omega)
  have hne1_cs : ∀ i, (b_cs = H.n + i) = False := fun i => eq_false (by omega)
  have hne2_cs : (b_cs = H.n + 1 + 1) = False ∧ (b_cs = H.n + 1 + 1 + 1) = False ∧ (b_cs = H.n + 1 + 1 + 1 + 1) = False ∧ (b_cs = H.n + 1 + 1 + 1 + 1 + 1) = False ∧ (b_cs = H.n + 1 + 1 + 1 + 1 + 1 + 1) = False ∧ (b_cs = H.n + 1 + 1 + 1 + 1 + 1 + 1 + 1) = False ∧ (b_cs = H.n + 1 + 1 + 1 + 1 + 1 + 1 + 1 + 1) = False ∧ (b_cs = H.n + 1 + 1 + 1 + 1 + 1 + 1 + 1 + 1 + 1) = False ∧ (b_cs = H.n + 1 + 1 + 1 + 1 + 1 + 1 + 1 + 1 + 1 + 1) = False ∧ (b_cs = H.n + 1 + 1 + 1 + 1 + 1 + 1 + 1 + 1 + 1 + 1 + 1) = False ∧ (b_cs = H.n + 1 + 1 + 1 + 1 + 1 + 1 + 1 + 1 + 1 + 1 + 1 + 1) = False := ⟨eq_false (by omega), eq_false (by omega), eq_false (by omega), eq_false (by omega), eq_false (by omega), eq_false (by omega), eq_false (by omega), eq_false (by omega), eq_false (by omega), eq_false (by omega), eq_false (by omega)⟩
  have hmx_cs : cs.length ≤ 9223372036854775807 := by have h1 := (hwf b_cs k_cs hat_cs.blk).2.2; have h2 := hat_cs.len; omega
  have hc1 : (1048576 < (cs.length : Int)) ∨ cs.length ≤ 1048576 := by omega
  rcases hc1 with hc | hc
  · simp (config := {contextual := true, implicitDefEqProofs := false, maxSteps := 60000}) [-Int.not_le, -Int.not_lt, argsF, laws_FnExactPositionsFor_c, hc]
    (refine Out.plain hwf ?_ rfl ?_; (repeat first | exact Sub.refl _ | refine Sub.push hwf ?_ _ | refine Sub.set hwf ?_ (by first | exact Nat.le_refl _ | omega) _ | refine Sub.kill hwf ?_ (by first | exact Nat.le_refl _ | omega))); exact h
  have hc' : ¬ (1048576 < (cs.length : Int)) := by omega

  have hw : IntKind.i64.wrap (1048576 - (ps.length : Int)) = 1048576 - (ps.length : Int) := wrap_id (by omega) (by omega)
  have hls : ps.length ≤ 1048576 ∨ 1048576 < ps.length := by omega
  rcases hls with hl | hl
  · have h0 : ¬ (1048576 - (ps.length : Int)) < 0 := by omega
    have hr : (poRes ps cs st).1.length ≤ 1048576 := by have := poRes_len ps cs st; omega
    have hk1 : (0 : Int) ≤ 1 + 4 * (ps.length : Int) := by omega
    have hk2 : 1 + 4 * (ps.length : Int) ≤ 1099511627776 := by omega
    have hk3 : ¬ (1 + 4 * (ps.length : Int) + (cs.length : Int) < 0) := by omega
    simp (config := {contextual := true, implicitDefEqProofs := false, maxSteps := 400000}) [-Int.not_le, -Int.not_lt, argsF, laws_FnExactPositionsFor_c, hw, h0, hat_ps.blk, hat_ps.esz, hat_ps.len, hat_ps.els, hne_ps, hne1_ps, hne2_ps.1, hne2_ps.2.1, hne2_ps.2.2.1, hne2_ps.2.2.2.1, hne2_ps.2.2.2.2.1, hne2_ps.2.2.2.2.2.1, hne2_ps.2.2.2.2.2.2.1, hne2_ps.2.2.2.2.2.2.2.1, hne2_ps.2.2.2.2.2.2.2.2.1, hne2_ps.2.2.2.2.2.2.2.2.2.1, hne2_ps.2.2.2.2.2.2.2.2.2.2, hat_cs.blk, hat_cs.esz, hat_cs.len, hat_cs.els, hne_cs, hne1_cs, hne2_cs.1, hne2_cs.2.1, hne2_cs.2.2.1, hne2_cs.2.2.2.1, hne2_cs.2.2.2.2.1, hne2_cs.2.2.2.2.2.1, hne2_cs.2.2.2.2.2.2.1, hne2_cs.2.2.2.2.2.2.2.1, hne2_cs.2.2.2.2.2.2.2.2.1, hne2_cs.2.2.2.2.2.2.2.2.2.1, hne2_cs.2.2.2.2.2.2.2.2.2.2, hc, hc', hk1, hk2, hk3, hl , hr]
    (refine Out.plain hwf ?_ rfl ?_; (repeat first | exact Sub.refl _ | refine Sub.push hwf ?_ _ | refine Sub.set hwf ?_ (by first | exact Nat.le_refl _ | omega) _ | refine Sub.kill hwf ?_ (by first | exact Nat.le_refl _ | omega))); exact h
  · have h0 : (1048576 - (ps.length : Int)) < 0 := by omega
    simp (config := {contextual := true, implicitDefEqProofs := false, maxSteps := 60000}) [-Int.not_le, -Int.not_lt, argsF, laws_FnExactPositionsFor_c, hw, h0]
    (refine Out.plain hwf ?_ rfl ?_; (repeat first | exact Sub.refl _ | refine Sub.push hwf ?_ _ | refine Sub.set hwf ?_ (by first | exact Nat.le_refl _ | omega) _ | refine Sub.kill hwf ?_ (by first | exact Nat.le_refl _ | omega))); exact h

theorem walk_FnExactPositionsFor {W : World} {v0 : Value} {l0 : List Fl} {pl0 : Place} (h0 : ArgS eFl 49 W v0 l0 pl0) {v1 : Value} {l1 : List Int} {pl1 : Place} (h1 : ArgS eI 3 W v1 l1 pl1) (n2 : Int) :
    Calls Try.prog 7 #[v0, v1, .int .i64 n2] W fun e W' => e = .returned (.bool true) ∧ Below W.heap.size W W' := by
  obtain ⟨a0, rfl, hl0, ha0⟩ := h0.val
  have hH0 := (hrep0 (fun _ => ⟨0, 0, 0, 0⟩) W (I := fun _ => True) fun _ _ => trivial).addRo (p := pl0) (k := ⟨49, eFl.n, true, false, l0.map eFl.cells⟩) rfl (h0.cells _ _) h0.lt (by simpa using h0.mx)
  obtain ⟨a1, rfl, hl1, ha1⟩ := h1.val
  have hH1 := hH0.addRo (p := pl1) (k := ⟨3, eI.n, true, false, l1.map eI.cells⟩) rfl (h1.cells _ _) h1.lt (by simpa using h1.mx)
  refine calls_true laws_FnExactPositionsFor_s (args := [.c (.sl 0 0 l0.length), .c (.sl 1 0 l1.length), .c (.int .i64 n2)]) hH1 ⟨⟨by simp [AHeap.push, H0], a0, pl0.cap, rfl, hl0, by simp [updP, H0, AHeap.push], by simpa [updP, H0, AHeap.push] using ha0⟩, ⟨by simp [AHeap.push, H0], a1, pl1.cap, rfl, hl1, by simp [updP, H0, AHeap.push], by simpa [updP, H0, AHeap.push] using ha1⟩, rfl, trivial⟩ ?_
  unfold q_tPositionsFor
  simp [AHeap.push, H0]

set_option maxRecDepth 100000 in
theorem lifted_FnExactPositionsFor (os : Os) (started : os.Started) (H : Type) (enc : TypeId × Value → H) :
    ReturnsInHanded {} Try.checked os 7 .any (Rows.fnExactPositionsForSpec.pre6 enc Try.prog Try.f7 Rows.fnExactPositionsForRow.domain false) (Rows.fnExactPositionsForSpec.post enc Try.prog Try.f7 false true false false) := by
  refine returnsInHanded_of_change (C := Try.checked) own started (by kernel_rfl) Try.func7
    (ChangeSpec.witness6 (enc := enc) (C := Try.checked) false ⟨#[], #[.slice none 0 0, .slice none 0 0, .int .i64 0], []⟩ 8 (by kernel_rfl) (by kernel_rfl) (by kernel_rfl) (by kernel_rfl)) ?_
  intro W base args ds gs before hval0 hW hcnd _
  have hval : ∀ (j : Nat) t v, Try.f7.params[j]? = some t → args[j]? = some v → Value.okWide Try.prog W .any base t v := hval0
  have hW' := hW
  obtain ⟨p, q, hA0, hV, rfl, hfz, hnd⟩ := hW
  have hA : DataW.TrodAll enc Try.prog W 0 (fun _ => true) true Try.f7.params.toList args.toList ds p := hA0
  rw [Try.params7] at hA hval
  obtain ⟨v0, vs0, d0, ds0, p0, q0, hargs0, rfl, rfl, h0, r0⟩ := trodAll_cons hA
  obtain ⟨v1, vs1, d1, ds1, p1, q1, hargs1, rfl, rfl, h1, r1⟩ := trodAll_cons r0
  obtain ⟨v2, vs2, d2, ds2, p2, q2, hargs2, rfl, rfl, h2, r2⟩ := trodAll_cons r1
  obtain ⟨hnil, rfl, rfl⟩ := trodAll_nil r2
  obtain rfl : args = #[v0, v1, v2] := by cases args; simp_all
  obtain ⟨rfl, rfl⟩ := trodVars_none hV
  have k0 := h0
  have lt0 : ∀ x ∈ p0, x.block < W.heap.size := by obtain ⟨m, hm⟩ := k0; exact DataW.trod_lt m _ _ _ hm
  have k1 := h1
  have lt1 : ∀ x ∈ p1, x.block < W.heap.size := by obtain ⟨m, hm⟩ := k1; exact DataW.trod_lt m _ _ _ hm
  have k2 := h2
  have lt2 : ∀ x ∈ p2, x.block < W.heap.size := by obtain ⟨m, hm⟩ := k2; exact DataW.trod_lt m _ _ _ hm
  obtain ⟨l0, pl0, ha0⟩ := open_FlawS (hval 0 22 v0 rfl rfl) h0
  obtain ⟨l1, pl1, ha1⟩ := open_IntS (hval 1 32 v1 rfl rfl) h1
  obtain ⟨n2, hv2, _⟩ := open_int Try.underlying3 (hval 2 3 v2 rfl rfl) h2
  subst hv2
  clear hA0 hval0
  refine (walk_FnExactPositionsFor ha0 ha1 n2).mono fun e W' ⟨he, bel⟩ => ?_
  subst he
  exact ⟨_, rfl, _, _, _, [], _, [], hW', trodAll_mk1 (shut_bool Try.underlying4 _), (trodAll_cons_mk (Below.trod laidOut (by kernel_rfl) (of_decide_eq_true (by kernel_rfl)) k0 bel lt0) (trodAll_cons_mk (Below.trod laidOut (by kernel_rfl) (of_decide_eq_true (by kernel_rfl)) k1 bel lt1) (trodAll_cons_mk (Below.trod laidOut (by kernel_rfl) (of_decide_eq_true (by kernel_rfl)) k2 bel lt2) trodAll_mk0))), rfl, bel.frame _, fun h => by cases h⟩
theorem over_FnExactPositionsFor : Rows.fnExactPositionsForRow.holds Try.pinned (OpenSpec.ofChange Rows.fnExactPositionsForSpec) :=
  OpenClaim.holds_of_wide 7 Try.f7 rfl rfl rfl rfl rfl rfl rfl ⟨rfl, rfl, rfl, rfl, rfl⟩ rfl rfl rfl rfl rfl (by kernel_rfl) Try.func7 (by kernel_rfl)
    (of_decide_eq_true (by kernel_rfl)) (by unfold Func.isWrapper; first | (rw [if_pos (by decide +kernel)]; kernel_rfl) | (rw [if_neg (by decide +kernel)]; exact ⟨rfl, rfl⟩))
    (fun os started H enc _ => lifted_FnExactPositionsFor os started H enc)
theorem proved_PositionsFor : Rows.FnExactPositionsForSaid := over_FnExactPositionsFor

end Go.Proofs.Ytnbhpdajikmnkaa
