/- It is proved that the law FnExactCoversVia returns true and leaves its arguments as they were, for all arguments that read as data. No condition. -/
import Derived.Test.YtjbedbfgbmfdfaaLawM
import Derived.Test.YtjbedbfgbmfdfaaCvW
set_option maxRecDepth 8000
set_option maxHeartbeats 1000000
set_option linter.unusedSimpArgs false
set_option linter.unusedVariables false
namespace Go.Proofs.Ytjbedbfgbmfdfaa
open Go Go.ChangeShapes Go.WideShapes Go.ChangeAt Go.RowKit Go.Deep Go

def q_tCoversVia : Con := fun args H K => match args with
  | [ms_v, cs_v, .c (.int .i64 n)] => eMa.rd H (fun ms => eCv.rd H (fun cs => K (.c (.bool (true))) H) cs_v) ms_v
  | _ => False
@[simp ↓] theorem q_tCoversVia_eq (ms_v : AV) (cs_v : AV) (n : Int) (H : AHeap) (K : AV → AHeap → Prop) : q_tCoversVia [ms_v, cs_v, .c (.int .i64 n)] H K = (eMa.rd H (fun ms => eCv.rd H (fun cs => K (.c (.bool (true))) H) cs_v) ms_v) := rfl

theorem laws_FnExactCoversVia_s : Sound Try.prog 3 q_tCoversVia := by
  intro args H K h
  unfold q_tCoversVia at h
  split at h
  rotate_left
  all_goals first | exact False.elim h | skip
  rename_i ms_v cs_v n
  have h1 := Enc.rd_at h
  clear h
  obtain ⟨b_ms, i_ms, k_ms, ms, rfl, hat_ms, h⟩ := h1
  have h1 := Enc.rd_at h
  clear h
  obtain ⟨b_cs, i_cs, k_cs, cs, rfl, hat_cs, h⟩ := h1
  have hE := soundE_cons laws_szMailS_s (soundE_cons laws_toMailS_s (soundE_cons laws_eqMailS_s (soundE_cons laws_markMailS_s (soundE_cons laws_szCoverS_s (soundE_cons laws_toCoverS_s (soundE_cons laws_eqCoverS_s (soundE_cons laws_markCoverS_s (soundE_cons laws_eqIntS_s (soundE_cons laws_markIntS_s (soundE_cons laws_heldIntS_s (soundE_cons impl_CoversVia_s (soundE_cons spec_CoversVia_s (soundE_nil (P := Try.prog))))))))))))))
  refine acalls_fn laws_FnExactCoversVia_k hE ⟨by simp, fun hwf => ?_⟩
  have hb_ms : b_ms < H.n := (hwf b_ms k_ms hat_ms.blk).1
  have hne_ms : (b_ms = H.n) = False := eq_false (by omega)
  have hne1_ms : ∀ i, (b_ms = H.n + i) = False := fun i => eq_false (by omega)
  have hne2_ms : (b_ms = H.n + 1 + 1) = False ∧ (b_ms = H.n + 1 + 1 + 1) = False ∧ (b_ms = H.n + 1 + 1 + 1 + 1) = False ∧ (b_ms = H.n + 1 + 1 + 1 + 1 + 1) = False ∧ (b_ms = H.n + 1 + 1 + 1 + 1 + 1 + 1) = False ∧ (b_ms = H.n + 1 + 1 + 1 + 1 + 1 + 1 + 1) = False ∧ (b_ms = H.n + 1 + 1 + 1 + 1 + 1 + 1 + 1 + 1) = False ∧ (b_ms = H.n + 1 + 1 + 1 + 1 + 1 + 1 + 1 + 1 + 1) = False ∧ (b_ms = H.n + 1 + 1 + 1 + 1 + 1 + 1 + 1 + 1 + 1 + 1) = False ∧ (b_ms = H.n + 1 + 1 + 1 + 1 + 1 + 1 + 1 + 1 + 1 + 1 + 1) = False ∧ (b_ms = H.n + 1 + 1 + 1 + 1 + 1 + 1 + 1 + 1 + 1 + 1 + 1 + 1) = False := ⟨eq_false (by omega), eq_false (by omega), eq_false (by omega), eq_false (by omega), eq_false (by omega), eq_false (by omega), eq_false (by omega), eq_false (by omega), eq_false (by omega), eq_false (by omega), eq_false (by omega)⟩
  have hmx_ms : ms.length ≤ 9223372036854775807 := by have h1 := (hwf b_ms k_ms hat_ms.blk).2.2; have h2 := hat_ms.len; omega
  have hb_cs : b_cs < H.n := (hwf b_cs k_cs hat_cs.blk).1
  have hne_cs : (b_cs = H.n) = False := eq_false (by omega)
  have hne1_cs : ∀ i, (b_cs = H.n + i) = False := fun i => eq_false (by omega)
  have hne2_cs : (b_cs = H.n + 1 + 1) = False ∧ (b_cs = H.n + 1 + 1 + 1) = False ∧ (b_cs = H.n + 1 + 1 + 1 + 1) = False ∧ (b_cs = H.n + 1 + 1 + 1 + 1 + 1) = False ∧ (b_cs = H.n + 1 + 1 + 1 + 1 + 1 + 1) = False ∧ (b_cs = H.n + 1 + 1 + 1 + 1 + 1 + 1 + 1) = False ∧ (b_cs = H.n + 1 + 1 + 1 + 1 + 1 + 1 + 1 + 1) = False ∧ (b_cs = H.n + 1 + 1 + 1 + 1 + 1 + 1 + 1 + 1 + 1) = False ∧ (b_cs = H.n + 1 + 1 + 1 + 1 + 1 + 1 + 1 + 1 + 1 + 1) = False ∧ (b_cs = H.n + 1 + 1 + 1 + 1 + 1 + 1 + 1 + 1 + 1 + 1 + 1) = False ∧ (b_cs = H.n + 1 + 1 + 1 + 1 + 1 + 1 + 1 + 1 + 1 + 1 + 1 + 1) = False := ⟨eq_false (by omega), eq_false (by omega), eq_false (by omega), eq_false (by omega), eq_false (by omega), eq_false (by omega), eq_false (by omega), eq_false (by omega), eq_false (by omega), eq_false (by omega), eq_false (by omega)⟩
  have hmx_cs : cs.length ≤ 9223372036854775807 := by have h1 := (hwf b_cs k_cs hat_cs.blk).2.2; have h2 := hat_cs.len; omega
  have hw0 : IntKind.i64.wrap (1048576 - (ms.length : Int)) = 1048576 - (ms.length : Int) := wrap_id (by omega) (by omega)
  have hls0 : 0 ≤ 1048576 - (ms.length : Int) ∨ 1048576 - (ms.length : Int) < 0 := by omega
  rcases hls0 with hl0 | hl0
  rotate_left
  · simp (config := {contextual := true, implicitDefEqProofs := false, maxSteps := 60000}) [-Int.not_le, -Int.not_lt, argsF, laws_FnExactCoversVia_c, hw0, hl0]
    (refine Out.plain hwf ?_ rfl ?_; (repeat first | exact Sub.refl _ | refine Sub.push hwf ?_ _ | refine Sub.set hwf ?_ (by first | exact Nat.le_refl _ | omega | (simp only [push_n, set_n, kill_n]; omega)) _ | refine Sub.kill hwf ?_ (by first | exact Nat.le_refl _ | omega | (simp only [push_n, set_n, kill_n]; omega)))); exact h
  have hg0 : ¬ 1048576 - (ms.length : Int) < 0 := by omega
  have hb0 : ms.length ≤ 1048576 := by omega
  have hw1 : IntKind.i64.wrap (1048576 - (ms.length : Int) - (cs.length : Int)) = 1048576 - (ms.length : Int) - (cs.length : Int) := wrap_id (by omega) (by omega)
  have hls1 : 0 ≤ 1048576 - (ms.length : Int) - (cs.length : Int) ∨ 1048576 - (ms.length : Int) - (cs.length : Int) < 0 := by omega
  rcases hls1 with hl1 | hl1
  rotate_left
  · simp (config := {contextual := true, implicitDefEqProofs := false, maxSteps := 60000}) [-Int.not_le, -Int.not_lt, argsF, laws_FnExactCoversVia_c, hw0, hw1, hl1, hg0]
    (refine Out.plain hwf ?_ rfl ?_; (repeat first | exact Sub.refl _ | refine Sub.push hwf ?_ _ | refine Sub.set hwf ?_ (by first | exact Nat.le_refl _ | omega | (simp only [push_n, set_n, kill_n]; omega)) _ | refine Sub.kill hwf ?_ (by first | exact Nat.le_refl _ | omega | (simp only [push_n, set_n, kill_n]; omega)))); exact h
  have hg1 : ¬ 1048576 - (ms.length : Int) - (cs.length : Int) < 0 := by omega
  have hb1 : cs.length ≤ 1048576 := by omega
  have hr := vRes_len ms cs n
  have ma0 : 0 ≤ 1 + 4 * (ms.length : Int) := by omega
  have mb0 : 1 + 4 * (ms.length : Int) ≤ 1099511627776 := by omega
  have mc0 : ¬ 1 + 4 * (ms.length : Int) < 0 := by omega
  have ma1 : 0 ≤ 1 + 4 * (ms.length : Int) + 9 * (cs.length : Int) := by omega
  have mb1 : 1 + 4 * (ms.length : Int) + 9 * (cs.length : Int) ≤ 1099511627776 := by omega
  have mc1 : ¬ 1 + 4 * (ms.length : Int) + 9 * (cs.length : Int) < 0 := by omega
  simp (config := {contextual := true, implicitDefEqProofs := false, maxSteps := 2000000}) [-Int.not_le, -Int.not_lt, argsF, laws_FnExactCoversVia_c, hw0, hg0, hb0, hw1, hg1, hb1, hat_ms.blk, hat_ms.esz, hat_ms.len, hat_ms.els, hne_ms, hne1_ms, hne2_ms.1, hne2_ms.2.1, hne2_ms.2.2.1, hne2_ms.2.2.2.1, hne2_ms.2.2.2.2.1, hne2_ms.2.2.2.2.2.1, hne2_ms.2.2.2.2.2.2.1, hne2_ms.2.2.2.2.2.2.2.1, hne2_ms.2.2.2.2.2.2.2.2.1, hne2_ms.2.2.2.2.2.2.2.2.2.1, hne2_ms.2.2.2.2.2.2.2.2.2.2, hat_cs.blk, hat_cs.esz, hat_cs.len, hat_cs.els, hne_cs, hne1_cs, hne2_cs.1, hne2_cs.2.1, hne2_cs.2.2.1, hne2_cs.2.2.2.1, hne2_cs.2.2.2.2.1, hne2_cs.2.2.2.2.2.1, hne2_cs.2.2.2.2.2.2.1, hne2_cs.2.2.2.2.2.2.2.1, hne2_cs.2.2.2.2.2.2.2.2.1, hne2_cs.2.2.2.2.2.2.2.2.2.1, hne2_cs.2.2.2.2.2.2.2.2.2.2, hr, ma0, mb0, mc0, ma1, mb1, mc1]
  (refine Out.plain hwf ?_ rfl ?_; (repeat first | exact Sub.refl _ | refine Sub.push hwf ?_ _ | refine Sub.set hwf ?_ (by first | exact Nat.le_refl _ | omega | (simp only [push_n, set_n, kill_n]; omega)) _ | refine Sub.kill hwf ?_ (by first | exact Nat.le_refl _ | omega | (simp only [push_n, set_n, kill_n]; omega)))); exact h

theorem walk_FnExactCoversVia {W : World} {v0 : Value} {l0 : List Ma} {pl0 : Place} (h0 : ArgS eMa 91 W v0 l0 pl0) {v1 : Value} {l1 : List Cv} {pl1 : Place} (h1 : ArgS eCv 93 W v1 l1 pl1) (n2 : Int) :
    Calls Try.prog 3 #[v0, v1, .int .i64 n2] W fun e W' => e = .returned (.bool true) ∧ Below W.heap.size W W' := by
  obtain ⟨a0, rfl, hl0, ha0⟩ := h0.val
  have hH0 := (hrep0 (fun _ => ⟨0, 0, 0, 0⟩) W (I := fun _ => True) fun _ _ => trivial).addRo (p := pl0) (k := ⟨91, eMa.n, true, false, l0.map eMa.cells⟩) rfl (h0.cells _ _) h0.lt (by simpa using h0.mx)
  obtain ⟨a1, rfl, hl1, ha1⟩ := h1.val
  have hH1 := hH0.addRo (p := pl1) (k := ⟨93, eCv.n, true, false, l1.map eCv.cells⟩) rfl (h1.cells _ _) h1.lt (by simpa using h1.mx)
  refine calls_true laws_FnExactCoversVia_s (args := [.c (.sl 0 0 l0.length), .c (.sl 1 0 l1.length), .c (.int .i64 n2)]) hH1 ⟨⟨by simp [AHeap.push, H0], a0, pl0.cap, rfl, hl0, by simp [updP, H0, AHeap.push], by simpa [updP, H0, AHeap.push] using ha0⟩, ⟨by simp [AHeap.push, H0], a1, pl1.cap, rfl, hl1, by simp [updP, H0, AHeap.push], by simpa [updP, H0, AHeap.push] using ha1⟩, rfl, trivial⟩ ?_
  unfold q_tCoversVia
  simp [AHeap.push, H0]

set_option maxRecDepth 100000 in
theorem lifted_FnExactCoversVia (os : Os) (started : os.Started) (H : Type) (enc : TypeId × Value → H) :
    ReturnsInHanded {} Try.checked os 3 .any (Rows.fnExactCoversViaSpec.pre6 enc Try.prog Try.f3 Rows.fnExactCoversViaRow.domain false) (Rows.fnExactCoversViaSpec.post enc Try.prog Try.f3 false true false false) := by
  refine returnsInHanded_of_change (C := Try.checked) own started (by kernel_rfl) Try.func3
    (ChangeSpec.witness6 (enc := enc) (C := Try.checked) false ⟨#[], #[.slice none 0 0, .slice none 0 0, .int .i64 0], []⟩ 8 (by kernel_rfl) (by kernel_rfl) (by kernel_rfl) (by kernel_rfl)) ?_
  intro W base args ds gs before hval0 hW hcnd _
  have hval : ∀ (j : Nat) t v, Try.f3.params[j]? = some t → args[j]? = some v → Value.okWide Try.prog W .any base t v := hval0
  have hW' := hW
  obtain ⟨p, q, hA0, hV, rfl, hfz, hnd⟩ := hW
  have hA : DataW.TrodAll enc Try.prog W 0 (fun _ => true) true Try.f3.params.toList args.toList ds p := hA0
  rw [Try.params3] at hA hval
  obtain ⟨v0, vs0, d0, ds0, p0, q0, hargs0, rfl, rfl, h0, r0⟩ := trodAll_cons hA
  obtain ⟨v1, vs1, d1, ds1, p1, q1, hargs1, rfl, rfl, h1, r1⟩ := trodAll_cons r0
  obtain ⟨v2, vs2, d2, ds2, p2, q2, hargs2, rfl, rfl, h2, r2⟩ := trodAll_cons r1
  obtain ⟨hnil, rfl, rfl⟩ := trodAll_nil r2
  obtain rfl : args = #[v0, v1, v2] := by cases args; simp_all
  obtain ⟨rfl, rfl⟩ := trodVars_none hV
  have k0 := h0
  have lt0 : ∀ x ∈ p0, x.block < W.heap.size := by obtain ⟨m, hm⟩ := k0; exact DataW.trod_lt m _ _ _ hm
  have k1 := h1
  have lt1 : ∀ x ∈ p1, x.block < W.heap.size := by obtain ⟨m, hm⟩ := k1; exact DataW.trod_lt m _ _ _ hm
  have k2 := h2
  have lt2 : ∀ x ∈ p2, x.block < W.heap.size := by obtain ⟨m, hm⟩ := k2; exact DataW.trod_lt m _ _ _ hm
  obtain ⟨l0, pl0, ha0⟩ := open_MailS (hval 0 22 v0 rfl rfl) h0
  obtain ⟨l1, pl1, ha1⟩ := open_CoverS (hval 1 23 v1 rfl rfl) h1
  obtain ⟨n2, hv2, _⟩ := open_int Try.underlying3 (hval 2 3 v2 rfl rfl) h2
  subst hv2
  clear hA0 hval0
  refine (walk_FnExactCoversVia ha0 ha1 n2).mono fun e W' ⟨he, bel⟩ => ?_
  subst he
  exact ⟨_, rfl, _, _, _, [], _, [], hW', trodAll_mk1 (shut_bool Try.underlying4 _), (trodAll_cons_mk (Below.trod laidOut (by kernel_rfl) (of_decide_eq_true (by kernel_rfl)) k0 bel lt0) (trodAll_cons_mk (Below.trod laidOut (by kernel_rfl) (of_decide_eq_true (by kernel_rfl)) k1 bel lt1) (trodAll_cons_mk (Below.trod laidOut (by kernel_rfl) (of_decide_eq_true (by kernel_rfl)) k2 bel lt2) trodAll_mk0))), rfl, bel.frame _, fun h => by cases h⟩
theorem over_FnExactCoversVia : Rows.fnExactCoversViaRow.holds Try.pinned (OpenSpec.ofChange Rows.fnExactCoversViaSpec) :=
  OpenClaim.holds_of_wide 3 Try.f3 rfl rfl rfl rfl rfl rfl rfl ⟨rfl, rfl, rfl, rfl, rfl⟩ rfl rfl rfl rfl rfl (by kernel_rfl) Try.func3 (by kernel_rfl)
    (of_decide_eq_true (by kernel_rfl)) (by unfold Func.isWrapper; first | (rw [if_pos (by decide +kernel)]; kernel_rfl) | (rw [if_neg (by decide +kernel)]; exact ⟨rfl, rfl⟩))
    (fun os started H enc _ => lifted_FnExactCoversVia os started H enc)
theorem proved_CoversVia : Rows.FnExactCoversViaSaid := over_FnExactCoversVia

end Go.Proofs.Ytjbedbfgbmfdfaa
