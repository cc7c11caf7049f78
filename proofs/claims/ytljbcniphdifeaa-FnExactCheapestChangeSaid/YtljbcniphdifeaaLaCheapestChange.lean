/- It is proved that the law FnExactCheapestChange returns true and leaves its arguments as they were, for all arguments that read as data. No condition. -/
import Derived.Test.YtljbcniphdifeaaLawA4
set_option maxRecDepth 8000
set_option maxHeartbeats 1000000
set_option linter.unusedSimpArgs false
set_option linter.unusedVariables false
namespace Go.Proofs.Ytljbcniphdifeaa
open Go Go.ChangeShapes Go.WideShapes Go.ChangeAt Go.RowKit Go.Deep Go

def q_tCheapestChange : Con := fun args H K => match args with
  | [ps_v, .agg x_e, .agg c_e] => eRa.rd H (fun ps => onv (eCv.dec x_e) fun x => onv (eC4.dec c_e) fun c => K (.c (.bool (true))) H) ps_v
  | _ => False
@[simp ↓] theorem q_tCheapestChange_eq (ps_v : AV) (x_e : List AC) (c_e : List AC) (H : AHeap) (K : AV → AHeap → Prop) : q_tCheapestChange [ps_v, .agg x_e, .agg c_e] H K = (eRa.rd H (fun ps => onv (eCv.dec x_e) fun x => onv (eC4.dec c_e) fun c => K (.c (.bool (true))) H) ps_v) := rfl

theorem laws_FnExactCheapestChange_s : Sound Try.prog 6 q_tCheapestChange := by
  intro args H K h
  unfold q_tCheapestChange at h
  split at h
  rotate_left
  all_goals first | exact False.elim h | skip
  rename_i ps_v x_e c_e
  have h1 := Enc.rd_at h
  clear h
  obtain ⟨b_ps, i_ps, k_ps, ps, rfl, hat_ps, h⟩ := h1
  have h1 := onv_iff.1 h
  clear h
  obtain ⟨x, hd_x, h⟩ := h1
  obtain rfl := eCv.cd _ _ hd_x
  clear hd_x
  have h1 := onv_iff.1 h
  clear h
  obtain ⟨c, hd_c, h⟩ := h1
  obtain rfl := eC4.cd _ _ hd_c
  clear hd_c
  have hE := soundE_cons laws_szRateS_s (soundE_cons laws_toRateS_s (soundE_cons laws_eqRateS_s (soundE_cons laws_toCover_s (soundE_cons laws_toIntA4_s (soundE_cons impl_CheapestChange_s (soundE_cons spec_CheapestChange_s (soundE_nil (P := Try.prog))))))))
  refine acalls_fn laws_FnExactCheapestChange_k hE ⟨by simp, fun hwf => ?_⟩
  have hb_ps : b_ps < H.n := (hwf b_ps k_ps hat_ps.blk).1
  have hne_ps : (b_ps = H.n) = False := eq_false (by omega)
  have hne1_ps : ∀ i, (b_ps = H.n + i) = False := fun i => eq_false (by omega)
  have hne2_ps : (b_ps = H.n + 1 + 1) = False ∧ (b_ps = H.n + 1 + 1 + 1) = False ∧ (b_ps = H.n + 1 + 1 + 1 + 1) = False ∧ (b_ps = H.n + 1 + 1 + 1 + 1 + 1) = False ∧ (b_ps = H.n + 1 + 1 + 1 + 1 + 1 + 1) = False ∧ (b_ps = H.n + 1 + 1 + 1 + 1 + 1 + 1 + 1) = False ∧ (b_ps = H.n + 1 + 1 + 1 + 1 + 1 + 1 + 1 + 1) = False ∧ (b_ps = H.n + 1 + 1 + 1 + 1 + 1 + 1 + 1 + 1 + 1) = False ∧ (b_ps = H.n + 1 + 1 + 1 + 1 + 1 + 1 + 1 + 1 + 1 + 1) = False ∧ (b_ps = H.n + 1 + 1 + 1 + 1 + 1 + 1 + 1 + 1 + 1 + 1 + 1) = False ∧ (b_ps = H.n + 1 + 1 + 1 + 1 + 1 + 1 + 1 + 1 + 1 + 1 + 1 + 1) = False := ⟨eq_false (by omega), eq_false (by omega), eq_false (by omega), eq_false (by omega), eq_false (by omega), eq_false (by omega), eq_false (by omega), eq_false (by omega), eq_false (by omega), eq_false (by omega), eq_false (by omega)⟩
  have hmx_ps : ps.length ≤ 9223372036854775807 := by have h1 := (hwf b_ps k_ps hat_ps.blk).2.2; have h2 := hat_ps.len; omega
  have hw : IntKind.i64.wrap (1048576 - (ps.length : Int)) = 1048576 - (ps.length : Int) := wrap_id (by omega) (by omega)
  have hls : ps.length ≤ 1048576 ∨ 1048576 < ps.length := by omega
  rcases hls with hl | hl
  · have h0 : ¬ (1048576 - (ps.length : Int)) < 0 := by omega
    simp (config := {contextual := true, implicitDefEqProofs := false, maxSteps := 2000000}) [-Int.not_le, -Int.not_lt, argsF, laws_FnExactCheapestChange_c, hw, h0, hat_ps.blk, hat_ps.esz, hat_ps.len, hat_ps.els, hne_ps, hne1_ps, hne2_ps.1, hne2_ps.2.1, hne2_ps.2.2.1, hne2_ps.2.2.2.1, hne2_ps.2.2.2.2.1, hne2_ps.2.2.2.2.2.1, hne2_ps.2.2.2.2.2.2.1, hne2_ps.2.2.2.2.2.2.2.1, hne2_ps.2.2.2.2.2.2.2.2.1, hne2_ps.2.2.2.2.2.2.2.2.2.1, hne2_ps.2.2.2.2.2.2.2.2.2.2, hl ]
    (refine Out.plain hwf ?_ rfl ?_; (repeat first | exact Sub.refl _ | refine Sub.push hwf ?_ _ | refine Sub.set hwf ?_ (by first | exact Nat.le_refl _ | omega | (simp only [push_n, set_n, kill_n]; omega)) _ | refine Sub.kill hwf ?_ (by first | exact Nat.le_refl _ | omega | (simp only [push_n, set_n, kill_n]; omega)))); exact h
  · have h0 : (1048576 - (ps.length : Int)) < 0 := by omega
    simp (config := {contextual := true, implicitDefEqProofs := false, maxSteps := 60000}) [-Int.not_le, -Int.not_lt, argsF, laws_FnExactCheapestChange_c, hw, h0]
    (refine Out.plain hwf ?_ rfl ?_; (repeat first | exact Sub.refl _ | refine Sub.push hwf ?_ _ | refine Sub.set hwf ?_ (by first | exact Nat.le_refl _ | omega | (simp only [push_n, set_n, kill_n]; omega)) _ | refine Sub.kill hwf ?_ (by first | exact Nat.le_refl _ | omega | (simp only [push_n, set_n, kill_n]; omega)))); exact h

theorem walk_FnExactCheapestChange {W : World} {v0 : Value} {l0 : List Ra} {pl0 : Place} (h0 : ArgS eRa 57 W v0 l0 pl0) (x1 : Cv) (x2 : C4) :
    Calls Try.prog 6 #[v0, .agg #[.int .i64 x1.id, .int .i64 x1.day, .int .i64 x1.zone, .int .i64 x1.grams, .int .i64 x1.paid, .int .i64 x1.frm, .int .i64 x1.to, .int .i64 x1.leave, .int .i64 x1.arrive], .agg #[.int .i64 x2.a, .int .i64 x2.b, .int .i64 x2.c, .int .i64 x2.d]] W fun e W' => e = .returned (.bool true) ∧ Below W.heap.size W W' := by
  obtain ⟨a0, rfl, hl0, ha0⟩ := h0.val
  have hH0 := (hrep0 (fun _ => ⟨0, 0, 0, 0⟩) W (I := fun _ => True) fun _ _ => trivial).addRo (p := pl0) (k := ⟨57, eRa.n, true, false, l0.map eRa.cells⟩) rfl (h0.cells _ _) h0.lt (by simpa using h0.mx)
  refine calls_true laws_FnExactCheapestChange_s (args := [.c (.sl 0 0 l0.length), .agg (eCv.cells x1), .agg (eC4.cells x2)]) hH0 ⟨⟨by simp [AHeap.push, H0], a0, pl0.cap, rfl, hl0, by simp [updP, H0, AHeap.push], by simpa [updP, H0, AHeap.push] using ha0⟩, ⟨_, rfl, rfl, rfl, rfl, rfl, rfl, rfl, rfl, rfl, rfl, trivial⟩, ⟨_, rfl, rfl, rfl, rfl, rfl, trivial⟩, trivial⟩ ?_
  unfold q_tCheapestChange
  simp [AHeap.push, H0]

set_option maxRecDepth 100000 in
theorem lifted_FnExactCheapestChange (os : Os) (started : os.Started) (H : Type) (enc : TypeId × Value → H) :
    ReturnsInHanded {} Try.checked os 6 .any (Rows.fnExactCheapestChangeSpec.pre6 enc Try.prog Try.f6 Rows.fnExactCheapestChangeRow.domain false) (Rows.fnExactCheapestChangeSpec.post enc Try.prog Try.f6 false true false false) := by
  refine returnsInHanded_of_change (C := Try.checked) own started (by kernel_rfl) Try.func6
    (ChangeSpec.witness6 (enc := enc) (C := Try.checked) false ⟨#[], #[.slice none 0 0, .agg #[.int .i64 0, .int .i64 0, .int .i64 0, .int .i64 0, .int .i64 0, .int .i64 0, .int .i64 0, .int .i64 0, .int .i64 0], .agg #[.int .i64 0, .int .i64 0, .int .i64 0, .int .i64 0]], []⟩ 8 (by kernel_rfl) (by kernel_rfl) (by kernel_rfl) (by kernel_rfl)) ?_
  intro W base args ds gs before hval0 hW hcnd _
  have hval : ∀ (j : Nat) t v, Try.f6.params[j]? = some t → args[j]? = some v → Value.okWide Try.prog W .any base t v := hval0
  have hW' := hW
  obtain ⟨p, q, hA0, hV, rfl, hfz, hnd⟩ := hW
  have hA : DataW.TrodAll enc Try.prog W 0 (fun _ => true) true Try.f6.params.toList args.toList ds p := hA0
  rw [Try.params6] at hA hval
  obtain ⟨v0, vs0, d0, ds0, p0, q0, hargs0, rfl, rfl, h0, r0⟩ := trodAll_cons hA
  obtain ⟨v1, vs1, d1, ds1, p1, q1, hargs1, rfl, rfl, h1, r1⟩ := trodAll_cons r0
  obtain ⟨v2, vs2, d2, ds2, p2, q2, hargs2, rfl, rfl, h2, r2⟩ := trodAll_cons r1
  obtain ⟨hnil, rfl, rfl⟩ := trodAll_nil r2
  obtain rfl : args = #[v0, v1, v2] := by cases args; simp_all
  obtain ⟨rfl, rfl⟩ := trodVars_none hV
  have k0 := h0
  have lt0 : ∀ x ∈ p0, x.block < W.heap.size := by obtain ⟨m, hm⟩ := k0; exact DataW.trod_lt m _ _ _ hm
  have k1 := h1
  have lt1 : ∀ x ∈ p1, x.block < W.heap.size := by obtain ⟨m, hm⟩ := k1; exact DataW.trod_lt m _ _ _ hm
  have k2 := h2
  have lt2 : ∀ x ∈ p2, x.block < W.heap.size := by obtain ⟨m, hm⟩ := k2; exact DataW.trod_lt m _ _ _ hm
  obtain ⟨l0, pl0, ha0⟩ := open_RateS (hval 0 22 v0 rfl rfl) h0
  obtain ⟨x1, hv1⟩ := open_Cover (hval 1 24 v1 rfl rfl) h1
  subst hv1
  obtain ⟨x2, hv2⟩ := open_Arr4 (hval 2 44 v2 rfl rfl) h2
  subst hv2
  clear hA0 hval0
  refine (walk_FnExactCheapestChange ha0 x1 x2).mono fun e W' ⟨he, bel⟩ => ?_
  subst he
  exact ⟨_, rfl, _, _, _, [], _, [], hW', trodAll_mk1 (shut_bool Try.underlying4 _), (trodAll_cons_mk (Below.trod laidOut (by kernel_rfl) (of_decide_eq_true (by kernel_rfl)) k0 bel lt0) (trodAll_cons_mk (Below.trod laidOut (by kernel_rfl) (of_decide_eq_true (by kernel_rfl)) k1 bel lt1) (trodAll_cons_mk (Below.trod laidOut (by kernel_rfl) (of_decide_eq_true (by kernel_rfl)) k2 bel lt2) trodAll_mk0))), rfl, bel.frame _, fun h => by cases h⟩
theorem over_FnExactCheapestChange : Rows.fnExactCheapestChangeRow.holds Try.pinned (OpenSpec.ofChange Rows.fnExactCheapestChangeSpec) :=
  OpenClaim.holds_of_wide 6 Try.f6 rfl rfl rfl rfl rfl rfl rfl ⟨rfl, rfl, rfl, rfl, rfl⟩ rfl rfl rfl rfl rfl (by kernel_rfl) Try.func6 (by kernel_rfl)
    (of_decide_eq_true (by kernel_rfl)) (by unfold Func.isWrapper; first | (rw [if_pos (by decide +kernel)]; kernel_rfl) | (rw [if_neg (by decide +kernel)]; exact ⟨rfl, rfl⟩))
    (fun os started H enc _ => lifted_FnExactCheapestChange os started H enc)
theorem proved_CheapestChange : Rows.FnExactCheapestChangeSaid := over_FnExactCheapestChange

end Go.Proofs.Ytljbcniphdifeaa
