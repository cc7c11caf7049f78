/- It is proved that the law FnCovers returns true and leaves its argument as it was, for all arguments that read as data. No condition. -/
import Derived.Test.YtjiffkjeijfilaaCvKq
import Derived.Test.YtjiffkjeijfilaaLawB
set_option maxRecDepth 8000
set_option maxHeartbeats 1000000
set_option linter.unusedSimpArgs false
set_option linter.unusedVariables false
namespace Go.Proofs.Ytjiffkjeijfilaa
open Go Go.ChangeShapes Go.WideShapes Go.ChangeAt Go.RowKit Go.Deep Go

theorem walk_FnCovers {W : World} {v0 : Value} {l0 : List UInt8} {pl0 : Place} (h0 : ArgS eU 5 W v0 l0 pl0) :
    Calls Try.prog 3 #[v0] W fun e W' => e = .returned (.bool true) ∧ Below W.heap.size W W' := by
  obtain ⟨a0, rfl, hl0, ha0⟩ := h0.val
  have hH0 := (hrep0 (fun _ => ⟨0, 0, 0, 0⟩) W (I := fun _ => True) fun _ _ => trivial).addRo (p := pl0) (k := ⟨5, eU.n, true, false, l0.map eU.cells⟩) rfl (h0.cells _ _) h0.lt (by simpa using h0.mx)
  refine calls_true laws_FnCovers_s (args := [.c (.sl 0 0 l0.length)]) hH0 ⟨⟨by simp [AHeap.push, H0], a0, pl0.cap, rfl, hl0, by simp [updP, H0, AHeap.push], by simpa [updP, H0, AHeap.push] using ha0⟩, trivial⟩ ?_
  unfold q_tFnCovers
  simp [AHeap.push, H0]

set_option maxRecDepth 100000 in
theorem lifted_FnCovers (os : Os) (started : os.Started) (H : Type) (enc : TypeId × Value → H) :
    ReturnsInHanded {} Try.checked os 3 .any (Rows.fnCoversSpec.pre6 enc Try.prog Try.f3 Rows.fnCoversRow.domain false) (Rows.fnCoversSpec.post enc Try.prog Try.f3 false true false false) := by
  refine returnsInHanded_of_change (C := Try.checked) own started (by kernel_rfl) Try.func3
    (ChangeSpec.witness6 (enc := enc) (C := Try.checked) false ⟨#[], #[.slice none 0 0], []⟩ 8 (by kernel_rfl) (by kernel_rfl) (by kernel_rfl) (by kernel_rfl)) ?_
  intro W base args ds gs before hval0 hW hcnd _
  have hval : ∀ (j : Nat) t v, Try.f3.params[j]? = some t → args[j]? = some v → Value.okWide Try.prog W .any base t v := hval0
  have hW' := hW
  obtain ⟨p, q, hA0, hV, rfl, hfz, hnd⟩ := hW
  have hA : DataW.TrodAll enc Try.prog W 0 (fun _ => true) true Try.f3.params.toList args.toList ds p := hA0
  rw [Try.params3] at hA hval
  obtain ⟨v0, vs0, d0, ds0, p0, q0, hargs0, rfl, rfl, h0, r0⟩ := trodAll_cons hA
  obtain ⟨hnil, rfl, rfl⟩ := trodAll_nil r0
  obtain rfl : args = #[v0] := by cases args; simp_all
  obtain ⟨rfl, rfl⟩ := trodVars_none hV
  have k0 := h0
  have lt0 : ∀ x ∈ p0, x.block < W.heap.size := by obtain ⟨m, hm⟩ := k0; exact DataW.trod_lt m _ _ _ hm
  obtain ⟨l0, pl0, ha0⟩ := open_ByteS (hval 0 22 v0 rfl rfl) h0
  clear hA0 hval0
  refine (walk_FnCovers ha0).mono fun e W' ⟨he, bel⟩ => ?_
  subst he
  exact ⟨_, rfl, _, _, _, [], _, [], hW', trodAll_mk1 (shut_bool Try.underlying4 _), (trodAll_cons_mk (Below.trod laidOut (by kernel_rfl) (of_decide_eq_true (by kernel_rfl)) k0 bel lt0) trodAll_mk0), rfl, bel.frame _, fun h => by cases h⟩
theorem over_FnCovers : Rows.fnCoversRow.holds Try.pinned (OpenSpec.ofChange Rows.fnCoversSpec) :=
  OpenClaim.holds_of_wide 3 Try.f3 rfl rfl rfl rfl rfl rfl rfl ⟨rfl, rfl, rfl, rfl, rfl⟩ rfl rfl rfl rfl rfl (by kernel_rfl) Try.func3 (by kernel_rfl)
    (of_decide_eq_true (by kernel_rfl)) (by unfold Func.isWrapper; first | (rw [if_pos (by decide +kernel)]; kernel_rfl) | (rw [if_neg (by decide +kernel)]; exact ⟨rfl, rfl⟩))
    (fun os started H enc _ => lifted_FnCovers os started H enc)
theorem proved_FnCovers : Rows.FnCoversSaid := over_FnCovers

end Go.Proofs.Ytjiffkjeijfilaa
