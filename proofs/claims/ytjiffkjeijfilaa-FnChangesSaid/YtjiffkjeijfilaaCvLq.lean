/- The law on changes: its walk, part by part. -/
import Derived.Test.YtjiffkjeijfilaaCvLh
set_option maxRecDepth 8000
set_option linter.unusedSimpArgs false
set_option linter.unusedVariables false
namespace Go.Proofs.Ytjiffkjeijfilaa
open Go Go.RowKit

set_option maxHeartbeats 4000000

def q_tFnChanges : Con := fun args H K => match args with
  | [code_v] => eU.rd H (fun code => K (.c (.bool (true))) H) code_v
  | _ => False
@[simp ↓] theorem q_tFnChanges_eq (code_v : AV) (H : AHeap) (K : AV → AHeap → Prop) : q_tFnChanges [code_v] H K = (eU.rd H (fun code => K (.c (.bool (true))) H) code_v) := rfl

theorem laws_FnChanges_p12 {H0 H : AHeap} {K : AV → AHeap → Prop} (hwf0 : H0.WF) (hs0 : Sub H0 H) (hwf : H.WF) (h : K (.c (.bool true)) H0) {ba : Nat} {A : List Int} {nd : Int} (hnd : ∀ a ∈ A, IntKind.i64.wrap (((a % 2 ^ IntKind.i64.bits).toNat &&& (nd % 2 ^ IntKind.i64.bits).toNat : Nat) : Int) = nd) (hr_ba : H.b ba = some (rowK eI 3 A)) (hx_ba : H0.n ≤ ba) {F : AFrame} (hF : F.keep [11, 29] = [(11, .c (.sl (ba) (0) (A.length))), (29, .c (.int .i64 (nd)))]) : avc Try.prog [(8, q_rBig), (26, q_DIe), (27, q_Least), (28, q_Least), (29, q_Possible), (30, q_Possible), (16, q_rInts), (31, q_IsEx), (32, q_IsEx), (33, q_MakeCover), (34, q_Cheap), (35, q_rHas), (36, q_Needed), (37, q_Needed)] 247 H0.n laws_FnChanges_t12 F H (endK Try.prog H0.n [.tmp 2] K) := by
  refine (show avc _ _ _ _ _ _ _ _ = _ from avc_cut _ _).mpr ?_
  rw [hF]
  have hE := soundE_cons laws_vBig_s (soundE_cons spec_DrawLeastChange_s (soundE_cons impl_LeastChange_s (soundE_cons spec_LeastChange_s (soundE_cons impl_PossibleChanges_s (soundE_cons spec_PossibleChanges_s (soundE_cons laws_vInts_s (soundE_cons impl_IsExplained_s (soundE_cons spec_IsExplained_s (soundE_cons impl_MakeCover_s (soundE_cons impl_CheapestChange_s (soundE_cons laws_vHas_s (soundE_cons impl_NeededChanges_s (soundE_cons spec_NeededChanges_s (soundE_nil (P := Try.prog)))))))))))))))
  have hn0 : H0.n ≤ H.n := hs0.1.1
  have hb_ba : ba < H.n := (hwf ba _ hr_ba).1
  have hne_ba : (ba = H.n) = False := eq_false (by omega)
  have hne1_ba : ∀ i, (ba = H.n + i) = False := fun i => eq_false (by omega)
  have hne2_ba : (ba = H.n + 1 + 1) = False ∧ (ba = H.n + 1 + 1 + 1) = False ∧ (ba = H.n + 1 + 1 + 1 + 1) = False ∧ (ba = H.n + 1 + 1 + 1 + 1 + 1) = False ∧ (ba = H.n + 1 + 1 + 1 + 1 + 1 + 1) = False ∧ (ba = H.n + 1 + 1 + 1 + 1 + 1 + 1 + 1) = False ∧ (ba = H.n + 1 + 1 + 1 + 1 + 1 + 1 + 1 + 1) = False ∧ (ba = H.n + 1 + 1 + 1 + 1 + 1 + 1 + 1 + 1 + 1) = False ∧ (ba = H.n + 1 + 1 + 1 + 1 + 1 + 1 + 1 + 1 + 1 + 1) = False ∧ (ba = H.n + 1 + 1 + 1 + 1 + 1 + 1 + 1 + 1 + 1 + 1 + 1) = False ∧ (ba = H.n + 1 + 1 + 1 + 1 + 1 + 1 + 1 + 1 + 1 + 1 + 1 + 1) = False := ⟨eq_false (by omega), eq_false (by omega), eq_false (by omega), eq_false (by omega), eq_false (by omega), eq_false (by omega), eq_false (by omega), eq_false (by omega), eq_false (by omega), eq_false (by omega), eq_false (by omega)⟩
  have hl0_ba : ba < H.n := by omega
  have hl1_ba : ba < H.n + 1 := by omega
  have hl2_ba : ba < H.n + 1 + 1 := by omega
  have hl3_ba : ba < H.n + 1 + 1 + 1 := by omega
  have hl4_ba : ba < H.n + 1 + 1 + 1 + 1 := by omega
  have hl5_ba : ba < H.n + 1 + 1 + 1 + 1 + 1 := by omega
  have hl6_ba : ba < H.n + 1 + 1 + 1 + 1 + 1 + 1 := by omega
  have hl7_ba : ba < H.n + 1 + 1 + 1 + 1 + 1 + 1 + 1 := by omega
  have hmR : A.length ≤ 9223372036854775807 := by have h1 := (hwf _ _ hr_ba).2.2; simpa using h1
  simp (config := {contextual := true, implicitDefEqProofs := false, maxSteps := 2000000}) [-Int.not_le, -Int.not_lt, argsF, laws_FnChanges_t12]
  refine aloop_list A (fun j (_ : Unit) => [(11, .c (.sl (ba) (0) (A.length))), (29, .c (.int .i64 (nd))), (33, .c (.int .i64 ((j : Int))))]) (fun _ _ => H) (fun j l _ => True) hE _ () trivial (.since hn0 hwf (.refl _) (by simp [frOk, AV.okR, AV.ok1, AC.okR, AV.ren, AV.ren1, AC.ren, AFrame.get, pl1_old, hl0_ba, hl1_ba, hl2_ba, hl3_ba, hl4_ba, hl5_ba, hl6_ba, hl7_ba]; first | done | omega)) (fun j _ hlt _ => ?_) fun _ _ => ?_
  · have hj1 := idx_lt hlt
    have w1 : IntKind.i64.wrap ((j : Int) + 1) = (j : Int) + 1 := wrap_id (by omega) (by omega)
    have hcg : A[j]? = some A[j] := List.getElem?_eq_getElem hlt
    have hh := hnd _ (List.getElem_mem hlt)
    clear hnd
    simp (config := {contextual := true, implicitDefEqProofs := false, maxSteps := 2000000}) [-Int.not_le, -Int.not_lt, argsF, laws_FnChanges_l2, rowK, Enc.decL_map, hr_ba, hne_ba, hne1_ba, hne2_ba.1, hne2_ba.2.1, hne2_ba.2.2.1, hne2_ba.2.2.2.1, hne2_ba.2.2.2.2.1, hne2_ba.2.2.2.2.2.1, hne2_ba.2.2.2.2.2.2.1, hne2_ba.2.2.2.2.2.2.2.1, hne2_ba.2.2.2.2.2.2.2.2.1, hne2_ba.2.2.2.2.2.2.2.2.2.1, hne2_ba.2.2.2.2.2.2.2.2.2.2, hj1, w1, hlt, hcg, hh]
    exact ⟨(), trivial, .since hn0 hwf (.refl _) (by simp [frOk, AV.okR, AV.ok1, AC.okR, AV.ren, AV.ren1, AC.ren, AFrame.get, pl1_old, hl0_ba, hl1_ba, hl2_ba, hl3_ba, hl4_ba, hl5_ba, hl6_ba, hl7_ba]; first | done | omega)⟩
  · clear hnd
    simp (config := {contextual := true, implicitDefEqProofs := false, maxSteps := 2000000}) [-Int.not_le, -Int.not_lt, argsF, laws_FnChanges_l2, laws_FnChanges_t13, rowK, Enc.decL_map, hr_ba, hne_ba, hne1_ba, hne2_ba.1, hne2_ba.2.1, hne2_ba.2.2.1, hne2_ba.2.2.2.1, hne2_ba.2.2.2.2.1, hne2_ba.2.2.2.2.2.1, hne2_ba.2.2.2.2.2.2.1, hne2_ba.2.2.2.2.2.2.2.1, hne2_ba.2.2.2.2.2.2.2.2.1, hne2_ba.2.2.2.2.2.2.2.2.2.1, hne2_ba.2.2.2.2.2.2.2.2.2.2]
    (refine Out.plain hwf0 ?_ rfl ?_; (repeat first | exact Sub.refl _ | refine Sub.push hwf0 ?_ _ | refine Sub.set hwf0 ?_ (by first | exact Nat.le_refl _ | omega | (simp only [push_n, set_n, kill_n]; omega)) _ | refine Sub.kill hwf0 ?_ (by first | exact Nat.le_refl _ | omega | (simp only [push_n, set_n, kill_n]; omega))); exact hs0)
    exact h

theorem laws_FnChanges_p10 {H0 H : AHeap} {K : AV → AHeap → Prop} (hwf0 : H0.WF) (hs0 : Sub H0 H) (hwf : H.WF) (h : K (.c (.bool true)) H0) {bl : Nat} {b4 : Nat} {ba : Nat} {ps : List Ra} {x : Cv} {ok : Bool} (hok : (lcRes ps x).2.2 = ok) (hpl : ps.length ≤ 40) (hr_bl : H.b bl = some (rowK eRa 122 ps)) (hx_bl : H0.n ≤ bl) (hr_b4 : H.b b4 = some (rowK eCv 27 [x])) (hx_b4 : H0.n ≤ b4) (hr_ba : H.b ba = some (rowK eI 3 (pcRes ps x).1)) (hx_ba : H0.n ≤ ba) {F : AFrame} (hF : F.keep [3, 4, 7, 11] = [(3, .c (.sl (bl) (0) (ps.length))), (4, .c (.ptr b4 0 0)), (7, .c (.bool (ok))), (11, .c (.sl (ba) (0) ((pcRes ps x).1.length)))]) : avc Try.prog [(8, q_rBig), (26, q_DIe), (27, q_Least), (28, q_Least), (29, q_Possible), (30, q_Possible), (16, q_rInts), (31, q_IsEx), (32, q_IsEx), (33, q_MakeCover), (34, q_Cheap), (35, q_rHas), (36, q_Needed), (37, q_Needed)] 247 H0.n laws_FnChanges_t10 F H (endK Try.prog H0.n [.tmp 2] K) := by
  refine (show avc _ _ _ _ _ _ _ _ = _ from avc_cut _ _).mpr ?_
  rw [hF]
  have hE := soundE_cons laws_vBig_s (soundE_cons spec_DrawLeastChange_s (soundE_cons impl_LeastChange_s (soundE_cons spec_LeastChange_s (soundE_cons impl_PossibleChanges_s (soundE_cons spec_PossibleChanges_s (soundE_cons laws_vInts_s (soundE_cons impl_IsExplained_s (soundE_cons spec_IsExplained_s (soundE_cons impl_MakeCover_s (soundE_cons impl_CheapestChange_s (soundE_cons laws_vHas_s (soundE_cons impl_NeededChanges_s (soundE_cons spec_NeededChanges_s (soundE_nil (P := Try.prog)))))))))))))))
  have hn0 : H0.n ≤ H.n := hs0.1.1
  have hb_bl : bl < H.n := (hwf bl _ hr_bl).1
  have hne_bl : (bl = H.n) = False := eq_false (by omega)
  have hne1_bl : ∀ i, (bl = H.n + i) = False := fun i => eq_false (by omega)
  have hne2_bl : (bl = H.n + 1 + 1) = False ∧ (bl = H.n + 1 + 1 + 1) = False ∧ (bl = H.n + 1 + 1 + 1 + 1) = False ∧ (bl = H.n + 1 + 1 + 1 + 1 + 1) = False ∧ (bl = H.n + 1 + 1 + 1 + 1 + 1 + 1) = False ∧ (bl = H.n + 1 + 1 + 1 + 1 + 1 + 1 + 1) = False ∧ (bl = H.n + 1 + 1 + 1 + 1 + 1 + 1 + 1 + 1) = False ∧ (bl = H.n + 1 + 1 + 1 + 1 + 1 + 1 + 1 + 1 + 1) = False ∧ (bl = H.n + 1 + 1 + 1 + 1 + 1 + 1 + 1 + 1 + 1 + 1) = False ∧ (bl = H.n + 1 + 1 + 1 + 1 + 1 + 1 + 1 + 1 + 1 + 1 + 1) = False ∧ (bl = H.n + 1 + 1 + 1 + 1 + 1 + 1 + 1 + 1 + 1 + 1 + 1 + 1) = False := ⟨eq_false (by omega), eq_false (by omega), eq_false (by omega), eq_false (by omega), eq_false (by omega), eq_false (by omega), eq_false (by omega), eq_false (by omega), eq_false (by omega), eq_false (by omega), eq_false (by omega)⟩
  have hl0_bl : bl < H.n := by omega
  have hl1_bl : bl < H.n + 1 := by omega
  have hl2_bl : bl < H.n + 1 + 1 := by omega
  have hl3_bl : bl < H.n + 1 + 1 + 1 := by omega
  have hl4_bl : bl < H.n + 1 + 1 + 1 + 1 := by omega
  have hl5_bl : bl < H.n + 1 + 1 + 1 + 1 + 1 := by omega
  have hl6_bl : bl < H.n + 1 + 1 + 1 + 1 + 1 + 1 := by omega
  have hl7_bl : bl < H.n + 1 + 1 + 1 + 1 + 1 + 1 + 1 := by omega
  have hb_b4 : b4 < H.n := (hwf b4 _ hr_b4).1
  have hne_b4 : (b4 = H.n) = False := eq_false (by omega)
  have hne1_b4 : ∀ i, (b4 = H.n + i) = False := fun i => eq_false (by omega)
  have hne2_b4 : (b4 = H.n + 1 + 1) = False ∧ (b4 = H.n + 1 + 1 + 1) = False ∧ (b4 = H.n + 1 + 1 + 1 + 1) = False ∧ (b4 = H.n + 1 + 1 + 1 + 1 + 1) = False ∧ (b4 = H.n + 1 + 1 + 1 + 1 + 1 + 1) = False ∧ (b4 = H.n + 1 + 1 + 1 + 1 + 1 + 1 + 1) = False ∧ (b4 = H.n + 1 + 1 + 1 + 1 + 1 + 1 + 1 + 1) = False ∧ (b4 = H.n + 1 + 1 + 1 + 1 + 1 + 1 + 1 + 1 + 1) = False ∧ (b4 = H.n + 1 + 1 + 1 + 1 + 1 + 1 + 1 + 1 + 1 + 1) = False ∧ (b4 = H.n + 1 + 1 + 1 + 1 + 1 + 1 + 1 + 1 + 1 + 1 + 1) = False ∧ (b4 = H.n + 1 + 1 + 1 + 1 + 1 + 1 + 1 + 1 + 1 + 1 + 1 + 1) = False := ⟨eq_false (by omega), eq_false (by omega), eq_false (by omega), eq_false (by omega), eq_false (by omega), eq_false (by omega), eq_false (by omega), eq_false (by omega), eq_false (by omega), eq_false (by omega), eq_false (by omega)⟩
  have hl0_b4 : b4 < H.n := by omega
  have hl1_b4 : b4 < H.n + 1 := by omega
  have hl2_b4 : b4 < H.n + 1 + 1 := by omega
  have hl3_b4 : b4 < H.n + 1 + 1 + 1 := by omega
  have hl4_b4 : b4 < H.n + 1 + 1 + 1 + 1 := by omega
  have hl5_b4 : b4 < H.n + 1 + 1 + 1 + 1 + 1 := by omega
  have hl6_b4 : b4 < H.n + 1 + 1 + 1 + 1 + 1 + 1 := by omega
  have hl7_b4 : b4 < H.n + 1 + 1 + 1 + 1 + 1 + 1 + 1 := by omega
  have hb_ba : ba < H.n := (hwf ba _ hr_ba).1
  have hne_ba : (ba = H.n) = False := eq_false (by omega)
  have hne1_ba : ∀ i, (ba = H.n + i) = False := fun i => eq_false (by omega)
  have hne2_ba : (ba = H.n + 1 + 1) = False ∧ (ba = H.n + 1 + 1 + 1) = False ∧ (ba = H.n + 1 + 1 + 1 + 1) = False ∧ (ba = H.n + 1 + 1 + 1 + 1 + 1) = False ∧ (ba = H.n + 1 + 1 + 1 + 1 + 1 + 1) = False ∧ (ba = H.n + 1 + 1 + 1 + 1 + 1 + 1 + 1) = False ∧ (ba = H.n + 1 + 1 + 1 + 1 + 1 + 1 + 1 + 1) = False ∧ (ba = H.n + 1 + 1 + 1 + 1 + 1 + 1 + 1 + 1 + 1) = False ∧ (ba = H.n + 1 + 1 + 1 + 1 + 1 + 1 + 1 + 1 + 1 + 1) = False ∧ (ba = H.n + 1 + 1 + 1 + 1 + 1 + 1 + 1 + 1 + 1 + 1 + 1) = False ∧ (ba = H.n + 1 + 1 + 1 + 1 + 1 + 1 + 1 + 1 + 1 + 1 + 1 + 1) = False := ⟨eq_false (by omega), eq_false (by omega), eq_false (by omega), eq_false (by omega), eq_false (by omega), eq_false (by omega), eq_false (by omega), eq_false (by omega), eq_false (by omega), eq_false (by omega), eq_false (by omega)⟩
  have hl0_ba : ba < H.n := by omega
  have hl1_ba : ba < H.n + 1 := by omega
  have hl2_ba : ba < H.n + 1 + 1 := by omega
  have hl3_ba : ba < H.n + 1 + 1 + 1 := by omega
  have hl4_ba : ba < H.n + 1 + 1 + 1 + 1 := by omega
  have hl5_ba : ba < H.n + 1 + 1 + 1 + 1 + 1 := by omega
  have hl6_ba : ba < H.n + 1 + 1 + 1 + 1 + 1 + 1 := by omega
  have hl7_ba : ba < H.n + 1 + 1 + 1 + 1 + 1 + 1 + 1 := by omega
  cases ok with
  | true =>
    have C := ch_ok hok
    have c1 := C.nd2
    simp (config := {contextual := true, implicitDefEqProofs := false, maxSteps := 2000000}) [-Int.not_le, -Int.not_lt, argsF, laws_FnChanges_t10, laws_FnChanges_t11, rowK, Enc.decL_map, hr_bl, hne_bl, hne1_bl, hne2_bl.1, hne2_bl.2.1, hne2_bl.2.2.1, hne2_bl.2.2.2.1, hne2_bl.2.2.2.2.1, hne2_bl.2.2.2.2.2.1, hne2_bl.2.2.2.2.2.2.1, hne2_bl.2.2.2.2.2.2.2.1, hne2_bl.2.2.2.2.2.2.2.2.1, hne2_bl.2.2.2.2.2.2.2.2.2.1, hne2_bl.2.2.2.2.2.2.2.2.2.2, hr_b4, hne_b4, hne1_b4, hne2_b4.1, hne2_b4.2.1, hne2_b4.2.2.1, hne2_b4.2.2.2.1, hne2_b4.2.2.2.2.1, hne2_b4.2.2.2.2.2.1, hne2_b4.2.2.2.2.2.2.1, hne2_b4.2.2.2.2.2.2.2.1, hne2_b4.2.2.2.2.2.2.2.2.1, hne2_b4.2.2.2.2.2.2.2.2.2.1, hne2_b4.2.2.2.2.2.2.2.2.2.2, hr_ba, hne_ba, hne1_ba, hne2_ba.1, hne2_ba.2.1, hne2_ba.2.2.1, hne2_ba.2.2.2.1, hne2_ba.2.2.2.2.1, hne2_ba.2.2.2.2.2.1, hne2_ba.2.2.2.2.2.2.1, hne2_ba.2.2.2.2.2.2.2.1, hne2_ba.2.2.2.2.2.2.2.2.1, hne2_ba.2.2.2.2.2.2.2.2.2.1, hne2_ba.2.2.2.2.2.2.2.2.2.2, c1, ite_self]
    exact laws_FnChanges_p12 hwf0 hs0 hwf h C.nd hr_ba hx_ba rfl
  | false =>
    have C := ch_no hok
    have c1 := C.2.2.2
    simp (config := {contextual := true, implicitDefEqProofs := false, maxSteps := 2000000}) [-Int.not_le, -Int.not_lt, argsF, laws_FnChanges_t10, laws_FnChanges_t11, rowK, Enc.decL_map, hr_bl, hne_bl, hne1_bl, hne2_bl.1, hne2_bl.2.1, hne2_bl.2.2.1, hne2_bl.2.2.2.1, hne2_bl.2.2.2.2.1, hne2_bl.2.2.2.2.2.1, hne2_bl.2.2.2.2.2.2.1, hne2_bl.2.2.2.2.2.2.2.1, hne2_bl.2.2.2.2.2.2.2.2.1, hne2_bl.2.2.2.2.2.2.2.2.2.1, hne2_bl.2.2.2.2.2.2.2.2.2.2, hr_b4, hne_b4, hne1_b4, hne2_b4.1, hne2_b4.2.1, hne2_b4.2.2.1, hne2_b4.2.2.2.1, hne2_b4.2.2.2.2.1, hne2_b4.2.2.2.2.2.1, hne2_b4.2.2.2.2.2.2.1, hne2_b4.2.2.2.2.2.2.2.1, hne2_b4.2.2.2.2.2.2.2.2.1, hne2_b4.2.2.2.2.2.2.2.2.2.1, hne2_b4.2.2.2.2.2.2.2.2.2.2, hr_ba, hne_ba, hne1_ba, hne2_ba.1, hne2_ba.2.1, hne2_ba.2.2.1, hne2_ba.2.2.2.1, hne2_ba.2.2.2.2.1, hne2_ba.2.2.2.2.2.1, hne2_ba.2.2.2.2.2.2.1, hne2_ba.2.2.2.2.2.2.2.1, hne2_ba.2.2.2.2.2.2.2.2.1, hne2_ba.2.2.2.2.2.2.2.2.2.1, hne2_ba.2.2.2.2.2.2.2.2.2.2, c1, ite_self]
    exact laws_FnChanges_p12 hwf0 hs0 hwf h (by rw [C.1]; intro a ha; cases ha) hr_ba hx_ba rfl

def nvG (a : Int) : Nat → Int
  | 0 => 0
  | 1 => (a.tdiv 1).tmod 2
  | 2 => (a.tdiv 1).tmod 2 + (a.tdiv 2).tmod 2
  | 3 => (a.tdiv 1).tmod 2 + (a.tdiv 2).tmod 2 + (a.tdiv 4).tmod 2
  | _ => (a.tdiv 1).tmod 2 + (a.tdiv 2).tmod 2 + (a.tdiv 4).tmod 2 + (a.tdiv 8).tmod 2
def pwG : Nat → Int
  | 0 => 1
  | 1 => 2
  | 2 => 4
  | 3 => 8
  | _ => 16
theorem nv_dec : ∀ a ∈ rangeI 0 16, ∀ k ∈ [0, 1, 2, 3], IntKind.i64.wrap (nvG a k + (IntKind.i64.wrap (a.tdiv (pwG k))).tmod 2) = nvG a (k + 1) ∧ IntKind.i64.wrap (2 * pwG k) = pwG (k + 1) := by decide
theorem nv_4 {a : Int} (h : 0 ≤ a ∧ a ≤ 15) : nvG a 4 = ones a := (ones_b h).2.2.1.symm
theorem nv_s {a : Int} (h : 0 ≤ a ∧ a ≤ 15) {k : Nat} (hk : k < 4) : IntKind.i64.wrap (nvG a k + (IntKind.i64.wrap (a.tdiv (pwG k))).tmod 2) = nvG a (k + 1) ∧ IntKind.i64.wrap (2 * pwG k) = pwG (k + 1) :=
  nv_dec a (mem_rangeI.2 (by omega)) k (by simp only [List.mem_cons, List.not_mem_nil, or_false]; omega)
theorem pw_b {k : Nat} (hk : k < 4) : 0 < pwG k ∧ pwG k ≤ 8 := by
  rcases (show k = 0 ∨ k = 1 ∨ k = 2 ∨ k = 3 by omega) with rfl | rfl | rfl | rfl <;> decide

theorem laws_FnChanges_loop1 {H0 H : AHeap} (hwf0 : H0.WF) (hs0 : Sub H0 H) (hwf : H.WF) {ps : List Ra} {x : Cv} {bl : Nat} {b4 : Nat} {ba : Nat} {A : List Int} {sm : Int} (hmin : ∀ a ∈ A, (0 ≤ a ∧ a ≤ 15) ∧ sm ≤ ones a) (hr_bl : H.b bl = some (rowK eRa 122 ps)) (hx_bl : H0.n ≤ bl) (hr_b4 : H.b b4 = some (rowK eCv 27 [x])) (hx_b4 : H0.n ≤ b4) (hr_ba : H.b ba = some (rowK eI 3 A)) (hx_ba : H0.n ≤ ba) {Q : Exit → AFrame → AHeap → Prop} (hfin : Q (.exit 0) [(3, .c (.sl (bl) (0) (ps.length))), (4, .c (.ptr b4 0 0)), (7, .c (.bool (true))), (11, .c (.sl (ba) (0) (A.length))), (24, .c (.int .i64 (sm))), (26, .c (.int .i64 ((A.length : Int)))), (189, .c (.bool (false)))] H) : ALoop Try.prog 247 H0.n laws_FnChanges_l1 [(3, .c (.sl (bl) (0) (ps.length))), (4, .c (.ptr b4 0 0)), (7, .c (.bool (true))), (11, .c (.sl (ba) (0) (A.length))), (24, .c (.int .i64 (sm))), (26, .c (.int .i64 ((0 : Int))))] H Q := by
  have hE := soundE_cons laws_vBig_s (soundE_cons spec_DrawLeastChange_s (soundE_cons impl_LeastChange_s (soundE_cons spec_LeastChange_s (soundE_cons impl_PossibleChanges_s (soundE_cons spec_PossibleChanges_s (soundE_cons laws_vInts_s (soundE_cons impl_IsExplained_s (soundE_cons spec_IsExplained_s (soundE_cons impl_MakeCover_s (soundE_cons impl_CheapestChange_s (soundE_cons laws_vHas_s (soundE_cons impl_NeededChanges_s (soundE_cons spec_NeededChanges_s (soundE_nil (P := Try.prog)))))))))))))))
  have hn0 : H0.n ≤ H.n := hs0.1.1
  have hb_bl : bl < H.n := (hwf bl _ hr_bl).1
  have hne_bl : (bl = H.n) = False := eq_false (by omega)
  have hne1_bl : ∀ i, (bl = H.n + i) = False := fun i => eq_false (by omega)
  have hne2_bl : (bl = H.n + 1 + 1) = False ∧ (bl = H.n + 1 + 1 + 1) = False ∧ (bl = H.n + 1 + 1 + 1 + 1) = False ∧ (bl = H.n + 1 + 1 + 1 + 1 + 1) = False ∧ (bl = H.n + 1 + 1 + 1 + 1 + 1 + 1) = False ∧ (bl = H.n + 1 + 1 + 1 + 1 + 1 + 1 + 1) = False ∧ (bl = H.n + 1 + 1 + 1 + 1 + 1 + 1 + 1 + 1) = False ∧ (bl = H.n + 1 + 1 + 1 + 1 + 1 + 1 + 1 + 1 + 1) = False ∧ (bl = H.n + 1 + 1 + 1 + 1 + 1 + 1 + 1 + 1 + 1 + 1) = False ∧ (bl = H.n + 1 + 1 + 1 + 1 + 1 + 1 + 1 + 1 + 1 + 1 + 1) = False ∧ (bl = H.n + 1 + 1 + 1 + 1 + 1 + 1 + 1 + 1 + 1 + 1 + 1 + 1) = False := ⟨eq_false (by omega), eq_false (by omega), eq_false (by omega), eq_false (by omega), eq_false (by omega), eq_false (by omega), eq_false (by omega), eq_false (by omega), eq_false (by omega), eq_false (by omega), eq_false (by omega)⟩
  have hl0_bl : bl < H.n := by omega
  have hl1_bl : bl < H.n + 1 := by omega
  have hl2_bl : bl < H.n + 1 + 1 := by omega
  have hl3_bl : bl < H.n + 1 + 1 + 1 := by omega
  have hl4_bl : bl < H.n + 1 + 1 + 1 + 1 := by omega
  have hl5_bl : bl < H.n + 1 + 1 + 1 + 1 + 1 := by omega
  have hl6_bl : bl < H.n + 1 + 1 + 1 + 1 + 1 + 1 := by omega
  have hl7_bl : bl < H.n + 1 + 1 + 1 + 1 + 1 + 1 + 1 := by omega
  have hb_b4 : b4 < H.n := (hwf b4 _ hr_b4).1
  have hne_b4 : (b4 = H.n) = False := eq_false (by omega)
  have hne1_b4 : ∀ i, (b4 = H.n + i) = False := fun i => eq_false (by omega)
  have hne2_b4 : (b4 = H.n + 1 + 1) = False ∧ (b4 = H.n + 1 + 1 + 1) = False ∧ (b4 = H.n + 1 + 1 + 1 + 1) = False ∧ (b4 = H.n + 1 + 1 + 1 + 1 + 1) = False ∧ (b4 = H.n + 1 + 1 + 1 + 1 + 1 + 1) = False ∧ (b4 = H.n + 1 + 1 + 1 + 1 + 1 + 1 + 1) = False ∧ (b4 = H.n + 1 + 1 + 1 + 1 + 1 + 1 + 1 + 1) = False ∧ (b4 = H.n + 1 + 1 + 1 + 1 + 1 + 1 + 1 + 1 + 1) = False ∧ (b4 = H.n + 1 + 1 + 1 + 1 + 1 + 1 + 1 + 1 + 1 + 1) = False ∧ (b4 = H.n + 1 + 1 + 1 + 1 + 1 + 1 + 1 + 1 + 1 + 1 + 1) = False ∧ (b4 = H.n + 1 + 1 + 1 + 1 + 1 + 1 + 1 + 1 + 1 + 1 + 1 + 1) = False := ⟨eq_false (by omega), eq_false (by omega), eq_false (by omega), eq_false (by omega), eq_false (by omega), eq_false (by omega), eq_false (by omega), eq_false (by omega), eq_false (by omega), eq_false (by omega), eq_false (by omega)⟩
  have hl0_b4 : b4 < H.n := by omega
  have hl1_b4 : b4 < H.n + 1 := by omega
  have hl2_b4 : b4 < H.n + 1 + 1 := by omega
  have hl3_b4 : b4 < H.n + 1 + 1 + 1 := by omega
  have hl4_b4 : b4 < H.n + 1 + 1 + 1 + 1 := by omega
  have hl5_b4 : b4 < H.n + 1 + 1 + 1 + 1 + 1 := by omega
  have hl6_b4 : b4 < H.n + 1 + 1 + 1 + 1 + 1 + 1 := by omega
  have hl7_b4 : b4 < H.n + 1 + 1 + 1 + 1 + 1 + 1 + 1 := by omega
  have hb_ba : ba < H.n := (hwf ba _ hr_ba).1
  have hne_ba : (ba = H.n) = False := eq_false (by omega)
  have hne1_ba : ∀ i, (ba = H.n + i) = False := fun i => eq_false (by omega)
  have hne2_ba : (ba = H.n + 1 + 1) = False ∧ (ba = H.n + 1 + 1 + 1) = False ∧ (ba = H.n + 1 + 1 + 1 + 1) = False ∧ (ba = H.n + 1 + 1 + 1 + 1 + 1) = False ∧ (ba = H.n + 1 + 1 + 1 + 1 + 1 + 1) = False ∧ (ba = H.n + 1 + 1 + 1 + 1 + 1 + 1 + 1) = False ∧ (ba = H.n + 1 + 1 + 1 + 1 + 1 + 1 + 1 + 1) = False ∧ (ba = H.n + 1 + 1 + 1 + 1 + 1 + 1 + 1 + 1 + 1) = False ∧ (ba = H.n + 1 + 1 + 1 + 1 + 1 + 1 + 1 + 1 + 1 + 1) = False ∧ (ba = H.n + 1 + 1 + 1 + 1 + 1 + 1 + 1 + 1 + 1 + 1 + 1) = False ∧ (ba = H.n + 1 + 1 + 1 + 1 + 1 + 1 + 1 + 1 + 1 + 1 + 1 + 1) = False := ⟨eq_false (by omega), eq_false (by omega), eq_false (by omega), eq_false (by omega), eq_false (by omega), eq_false (by omega), eq_false (by omega), eq_false (by omega), eq_false (by omega), eq_false (by omega), eq_false (by omega)⟩
  have hl0_ba : ba < H.n := by omega
  have hl1_ba : ba < H.n + 1 := by omega
  have hl2_ba : ba < H.n + 1 + 1 := by omega
  have hl3_ba : ba < H.n + 1 + 1 + 1 := by omega
  have hl4_ba : ba < H.n + 1 + 1 + 1 + 1 := by omega
  have hl5_ba : ba < H.n + 1 + 1 + 1 + 1 + 1 := by omega
  have hl6_ba : ba < H.n + 1 + 1 + 1 + 1 + 1 + 1 := by omega
  have hl7_ba : ba < H.n + 1 + 1 + 1 + 1 + 1 + 1 + 1 := by omega
  have hmR : A.length ≤ 9223372036854775807 := by have h1 := (hwf _ _ hr_ba).2.2; simpa using h1
  refine aloop_list A (fun j (_ : Unit) => [(3, .c (.sl (bl) (0) (ps.length))), (4, .c (.ptr b4 0 0)), (7, .c (.bool (true))), (11, .c (.sl (ba) (0) (A.length))), (24, .c (.int .i64 (sm))), (26, .c (.int .i64 ((j : Int))))]) (fun _ _ => H) (fun j l _ => True) hE _ () trivial (.since hn0 hwf (.refl _) (by simp [frOk, AV.okR, AV.ok1, AC.okR, AV.ren, AV.ren1, AC.ren, AFrame.get, pl1_old, hl0_bl, hl1_bl, hl2_bl, hl3_bl, hl4_bl, hl5_bl, hl6_bl, hl7_bl, hl0_b4, hl1_b4, hl2_b4, hl3_b4, hl4_b4, hl5_b4, hl6_b4, hl7_b4, hl0_ba, hl1_ba, hl2_ba, hl3_ba, hl4_ba, hl5_ba, hl6_ba, hl7_ba]; first | done | omega)) (fun j _ hlt _ => ?_) fun _ _ => ?_
  · have hj1 := idx_lt hlt
    have w1 : IntKind.i64.wrap ((j : Int) + 1) = (j : Int) + 1 := wrap_id (by omega) (by omega)
    have hcg : A[j]? = some A[j] := List.getElem?_eq_getElem hlt
    have hh := hmin _ (List.getElem_mem hlt)
    clear hmin
    simp (config := {contextual := true, implicitDefEqProofs := false, maxSteps := 2000000}) [-Int.not_le, -Int.not_lt, argsF, laws_FnChanges_l1, rowK, Enc.decL_map, hr_bl, hne_bl, hne1_bl, hne2_bl.1, hne2_bl.2.1, hne2_bl.2.2.1, hne2_bl.2.2.2.1, hne2_bl.2.2.2.2.1, hne2_bl.2.2.2.2.2.1, hne2_bl.2.2.2.2.2.2.1, hne2_bl.2.2.2.2.2.2.2.1, hne2_bl.2.2.2.2.2.2.2.2.1, hne2_bl.2.2.2.2.2.2.2.2.2.1, hne2_bl.2.2.2.2.2.2.2.2.2.2, hr_b4, hne_b4, hne1_b4, hne2_b4.1, hne2_b4.2.1, hne2_b4.2.2.1, hne2_b4.2.2.2.1, hne2_b4.2.2.2.2.1, hne2_b4.2.2.2.2.2.1, hne2_b4.2.2.2.2.2.2.1, hne2_b4.2.2.2.2.2.2.2.1, hne2_b4.2.2.2.2.2.2.2.2.1, hne2_b4.2.2.2.2.2.2.2.2.2.1, hne2_b4.2.2.2.2.2.2.2.2.2.2, hr_ba, hne_ba, hne1_ba, hne2_ba.1, hne2_ba.2.1, hne2_ba.2.2.1, hne2_ba.2.2.2.1, hne2_ba.2.2.2.2.1, hne2_ba.2.2.2.2.2.1, hne2_ba.2.2.2.2.2.2.1, hne2_ba.2.2.2.2.2.2.2.1, hne2_ba.2.2.2.2.2.2.2.2.1, hne2_ba.2.2.2.2.2.2.2.2.2.1, hne2_ba.2.2.2.2.2.2.2.2.2.2, hj1, hlt]
    refine aloop_heap (X := Nat) (fun k => [(3, .c (.sl (bl) (0) (ps.length))), (4, .c (.ptr b4 0 0)), (7, .c (.bool (true))), (11, .c (.sl (ba) (0) (A.length))), (24, .c (.int .i64 (sm))), (26, .c (.int .i64 ((j : Int)))), (27, .c (.int .i64 (nvG A[j] k))), (28, .c (.int .i64 (pwG k)))]) (fun _ => H) (fun k => k ≤ 4) (fun k => 4 - k) hE _ 0 (by omega) (fun hw0 => .since hn0 hw0 (.refl _) (by simp [frOk, AV.okR, AV.ok1, AC.okR, AV.ren, AV.ren1, AC.ren, AFrame.get, pl1_old, hl0_bl, hl1_bl, hl2_bl, hl3_bl, hl4_bl, hl5_bl, hl6_bl, hl7_bl, hl0_b4, hl1_b4, hl2_b4, hl3_b4, hl4_b4, hl5_b4, hl6_b4, hl7_b4, hl0_ba, hl1_ba, hl2_ba, hl3_ba, hl4_ba, hl5_ba, hl6_ba, hl7_ba, nvG, pwG]; first | done | omega)) (fun k hk hwx => ?_)
    rcases Nat.lt_or_ge k 4 with hk4 | hk4
    · have hn := nv_s hh.1 hk4
      have hp := pw_b hk4
      have hp1 : pwG k ≤ 8 := hp.2
      have hp0 : ¬ pwG k = 0 := by omega
      generalize hnv : nvG A[j] k = v at *
      generalize hpv : pwG k = pv at *
      simp (config := {contextual := true, implicitDefEqProofs := false, maxSteps := 2000000}) [-Int.not_le, -Int.not_lt, argsF, laws_FnChanges_l0, rowK, Enc.decL_map, hr_bl, hne_bl, hne1_bl, hne2_bl.1, hne2_bl.2.1, hne2_bl.2.2.1, hne2_bl.2.2.2.1, hne2_bl.2.2.2.2.1, hne2_bl.2.2.2.2.2.1, hne2_bl.2.2.2.2.2.2.1, hne2_bl.2.2.2.2.2.2.2.1, hne2_bl.2.2.2.2.2.2.2.2.1, hne2_bl.2.2.2.2.2.2.2.2.2.1, hne2_bl.2.2.2.2.2.2.2.2.2.2, hr_b4, hne_b4, hne1_b4, hne2_b4.1, hne2_b4.2.1, hne2_b4.2.2.1, hne2_b4.2.2.2.1, hne2_b4.2.2.2.2.1, hne2_b4.2.2.2.2.2.1, hne2_b4.2.2.2.2.2.2.1, hne2_b4.2.2.2.2.2.2.2.1, hne2_b4.2.2.2.2.2.2.2.2.1, hne2_b4.2.2.2.2.2.2.2.2.2.1, hne2_b4.2.2.2.2.2.2.2.2.2.2, hr_ba, hne_ba, hne1_ba, hne2_ba.1, hne2_ba.2.1, hne2_ba.2.2.1, hne2_ba.2.2.2.1, hne2_ba.2.2.2.2.1, hne2_ba.2.2.2.2.2.1, hne2_ba.2.2.2.2.2.2.1, hne2_ba.2.2.2.2.2.2.2.1, hne2_ba.2.2.2.2.2.2.2.2.1, hne2_ba.2.2.2.2.2.2.2.2.2.1, hne2_ba.2.2.2.2.2.2.2.2.2.2, hj1, hlt, hcg, hp1, hp0, hn.1, hn.2]
      exact ⟨fun hw => ⟨k + 1, by omega, by omega, .since hn0 hw (.refl _) (by simp [frOk, AV.okR, AV.ok1, AC.okR, AV.ren, AV.ren1, AC.ren, AFrame.get, pl1_old, hl0_bl, hl1_bl, hl2_bl, hl3_bl, hl4_bl, hl5_bl, hl6_bl, hl7_bl, hl0_b4, hl1_b4, hl2_b4, hl3_b4, hl4_b4, hl5_b4, hl6_b4, hl7_b4, hl0_ba, hl1_ba, hl2_ba, hl3_ba, hl4_ba, hl5_ba, hl6_ba, hl7_ba]; first | done | omega)⟩⟩
    · obtain rfl : k = 4 := by omega
      have hge : ¬ ones A[j] < sm := by omega
      rw [nv_4 hh.1]
      simp (config := {contextual := true, implicitDefEqProofs := false, maxSteps := 2000000}) [-Int.not_le, -Int.not_lt, argsF, laws_FnChanges_l0, laws_FnChanges_r1, laws_FnChanges_r2, rowK, Enc.decL_map, hr_bl, hne_bl, hne1_bl, hne2_bl.1, hne2_bl.2.1, hne2_bl.2.2.1, hne2_bl.2.2.2.1, hne2_bl.2.2.2.2.1, hne2_bl.2.2.2.2.2.1, hne2_bl.2.2.2.2.2.2.1, hne2_bl.2.2.2.2.2.2.2.1, hne2_bl.2.2.2.2.2.2.2.2.1, hne2_bl.2.2.2.2.2.2.2.2.2.1, hne2_bl.2.2.2.2.2.2.2.2.2.2, hr_b4, hne_b4, hne1_b4, hne2_b4.1, hne2_b4.2.1, hne2_b4.2.2.1, hne2_b4.2.2.2.1, hne2_b4.2.2.2.2.1, hne2_b4.2.2.2.2.2.1, hne2_b4.2.2.2.2.2.2.1, hne2_b4.2.2.2.2.2.2.2.1, hne2_b4.2.2.2.2.2.2.2.2.1, hne2_b4.2.2.2.2.2.2.2.2.2.1, hne2_b4.2.2.2.2.2.2.2.2.2.2, hr_ba, hne_ba, hne1_ba, hne2_ba.1, hne2_ba.2.1, hne2_ba.2.2.1, hne2_ba.2.2.2.1, hne2_ba.2.2.2.2.1, hne2_ba.2.2.2.2.2.1, hne2_ba.2.2.2.2.2.2.1, hne2_ba.2.2.2.2.2.2.2.1, hne2_ba.2.2.2.2.2.2.2.2.1, hne2_ba.2.2.2.2.2.2.2.2.2.1, hne2_ba.2.2.2.2.2.2.2.2.2.2, pwG, hge, w1]
      exact ⟨(), trivial, .since hn0 hwf (.refl _) (by simp [frOk, AV.okR, AV.ok1, AC.okR, AV.ren, AV.ren1, AC.ren, AFrame.get, pl1_old, hl0_bl, hl1_bl, hl2_bl, hl3_bl, hl4_bl, hl5_bl, hl6_bl, hl7_bl, hl0_b4, hl1_b4, hl2_b4, hl3_b4, hl4_b4, hl5_b4, hl6_b4, hl7_b4, hl0_ba, hl1_ba, hl2_ba, hl3_ba, hl4_ba, hl5_ba, hl6_ba, hl7_ba]; first | done | omega)⟩
  · clear hmin
    simp (config := {contextual := true, implicitDefEqProofs := false, maxSteps := 2000000}) [-Int.not_le, -Int.not_lt, argsF, laws_FnChanges_l1, rowK, Enc.decL_map, hr_bl, hne_bl, hne1_bl, hne2_bl.1, hne2_bl.2.1, hne2_bl.2.2.1, hne2_bl.2.2.2.1, hne2_bl.2.2.2.2.1, hne2_bl.2.2.2.2.2.1, hne2_bl.2.2.2.2.2.2.1, hne2_bl.2.2.2.2.2.2.2.1, hne2_bl.2.2.2.2.2.2.2.2.1, hne2_bl.2.2.2.2.2.2.2.2.2.1, hne2_bl.2.2.2.2.2.2.2.2.2.2, hr_b4, hne_b4, hne1_b4, hne2_b4.1, hne2_b4.2.1, hne2_b4.2.2.1, hne2_b4.2.2.2.1, hne2_b4.2.2.2.2.1, hne2_b4.2.2.2.2.2.1, hne2_b4.2.2.2.2.2.2.1, hne2_b4.2.2.2.2.2.2.2.1, hne2_b4.2.2.2.2.2.2.2.2.1, hne2_b4.2.2.2.2.2.2.2.2.2.1, hne2_b4.2.2.2.2.2.2.2.2.2.2, hr_ba, hne_ba, hne1_ba, hne2_ba.1, hne2_ba.2.1, hne2_ba.2.2.1, hne2_ba.2.2.2.1, hne2_ba.2.2.2.2.1, hne2_ba.2.2.2.2.2.1, hne2_ba.2.2.2.2.2.2.1, hne2_ba.2.2.2.2.2.2.2.1, hne2_ba.2.2.2.2.2.2.2.2.1, hne2_ba.2.2.2.2.2.2.2.2.2.1, hne2_ba.2.2.2.2.2.2.2.2.2.2]
    exact hfin

theorem laws_FnChanges_p9 {H0 H : AHeap} {K : AV → AHeap → Prop} (hwf0 : H0.WF) (hs0 : Sub H0 H) (hwf : H.WF) (h : K (.c (.bool true)) H0) {bl : Nat} {b4 : Nat} {b6 : Nat} {ba : Nat} {ps : List Ra} {x : Cv} {ok : Bool} (hok : (lcRes ps x).2.2 = ok) (hpl : ps.length ≤ 40) (hr_bl : H.b bl = some (rowK eRa 122 ps)) (hx_bl : H0.n ≤ bl) (hr_b4 : H.b b4 = some (rowK eCv 27 [x])) (hx_b4 : H0.n ≤ b4) (hr_b6 : H.b b6 = some (rowK eCv 27 [(lcRes ps x).2.1])) (hx_b6 : H0.n ≤ b6) (hr_ba : H.b ba = some (rowK eI 3 (pcRes ps x).1)) (hx_ba : H0.n ≤ ba) {F : AFrame} (hF : F.keep [3, 4, 5, 6, 7, 11] = [(3, .c (.sl (bl) (0) (ps.length))), (4, .c (.ptr b4 0 0)), (5, .c (.int .i64 ((lcRes ps x).1))), (6, .c (.ptr b6 0 0)), (7, .c (.bool (ok))), (11, .c (.sl (ba) (0) ((pcRes ps x).1.length)))]) : avc Try.prog [(8, q_rBig), (26, q_DIe), (27, q_Least), (28, q_Least), (29, q_Possible), (30, q_Possible), (16, q_rInts), (31, q_IsEx), (32, q_IsEx), (33, q_MakeCover), (34, q_Cheap), (35, q_rHas), (36, q_Needed), (37, q_Needed)] 247 H0.n laws_FnChanges_t9 F H (endK Try.prog H0.n [.tmp 2] K) := by
  refine (show avc _ _ _ _ _ _ _ _ = _ from avc_cut _ _).mpr ?_
  rw [hF]
  have hE := soundE_cons laws_vBig_s (soundE_cons spec_DrawLeastChange_s (soundE_cons impl_LeastChange_s (soundE_cons spec_LeastChange_s (soundE_cons impl_PossibleChanges_s (soundE_cons spec_PossibleChanges_s (soundE_cons laws_vInts_s (soundE_cons impl_IsExplained_s (soundE_cons spec_IsExplained_s (soundE_cons impl_MakeCover_s (soundE_cons impl_CheapestChange_s (soundE_cons laws_vHas_s (soundE_cons impl_NeededChanges_s (soundE_cons spec_NeededChanges_s (soundE_nil (P := Try.prog)))))))))))))))
  have hn0 : H0.n ≤ H.n := hs0.1.1
  have hb_bl : bl < H.n := (hwf bl _ hr_bl).1
  have hne_bl : (bl = H.n) = False := eq_false (by omega)
  have hne1_bl : ∀ i, (bl = H.n + i) = False := fun i => eq_false (by omega)
  have hne2_bl : (bl = H.n + 1 + 1) = False ∧ (bl = H.n + 1 + 1 + 1) = False ∧ (bl = H.n + 1 + 1 + 1 + 1) = False ∧ (bl = H.n + 1 + 1 + 1 + 1 + 1) = False ∧ (bl = H.n + 1 + 1 + 1 + 1 + 1 + 1) = False ∧ (bl = H.n + 1 + 1 + 1 + 1 + 1 + 1 + 1) = False ∧ (bl = H.n + 1 + 1 + 1 + 1 + 1 + 1 + 1 + 1) = False ∧ (bl = H.n + 1 + 1 + 1 + 1 + 1 + 1 + 1 + 1 + 1) = False ∧ (bl = H.n + 1 + 1 + 1 + 1 + 1 + 1 + 1 + 1 + 1 + 1) = False ∧ (bl = H.n + 1 + 1 + 1 + 1 + 1 + 1 + 1 + 1 + 1 + 1 + 1) = False ∧ (bl = H.n + 1 + 1 + 1 + 1 + 1 + 1 + 1 + 1 + 1 + 1 + 1 + 1) = False := ⟨eq_false (by omega), eq_false (by omega), eq_false (by omega), eq_false (by omega), eq_false (by omega), eq_false (by omega), eq_false (by omega), eq_false (by omega), eq_false (by omega), eq_false (by omega), eq_false (by omega)⟩
  have hl0_bl : bl < H.n := by omega
  have hl1_bl : bl < H.n + 1 := by omega
  have hl2_bl : bl < H.n + 1 + 1 := by omega
  have hl3_bl : bl < H.n + 1 + 1 + 1 := by omega
  have hl4_bl : bl < H.n + 1 + 1 + 1 + 1 := by omega
  have hl5_bl : bl < H.n + 1 + 1 + 1 + 1 + 1 := by omega
  have hl6_bl : bl < H.n + 1 + 1 + 1 + 1 + 1 + 1 := by omega
  have hl7_bl : bl < H.n + 1 + 1 + 1 + 1 + 1 + 1 + 1 := by omega
  have hb_b4 : b4 < H.n := (hwf b4 _ hr_b4).1
  have hne_b4 : (b4 = H.n) = False := eq_false (by omega)
  have hne1_b4 : ∀ i, (b4 = H.n + i) = False := fun i => eq_false (by omega)
  have hne2_b4 : (b4 = H.n + 1 + 1) = False ∧ (b4 = H.n + 1 + 1 + 1) = False ∧ (b4 = H.n + 1 + 1 + 1 + 1) = False ∧ (b4 = H.n + 1 + 1 + 1 + 1 + 1) = False ∧ (b4 = H.n + 1 + 1 + 1 + 1 + 1 + 1) = False ∧ (b4 = H.n + 1 + 1 + 1 + 1 + 1 + 1 + 1) = False ∧ (b4 = H.n + 1 + 1 + 1 + 1 + 1 + 1 + 1 + 1) = False ∧ (b4 = H.n + 1 + 1 + 1 + 1 + 1 + 1 + 1 + 1 + 1) = False ∧ (b4 = H.n + 1 + 1 + 1 + 1 + 1 + 1 + 1 + 1 + 1 + 1) = False ∧ (b4 = H.n + 1 + 1 + 1 + 1 + 1 + 1 + 1 + 1 + 1 + 1 + 1) = False ∧ (b4 = H.n + 1 + 1 + 1 + 1 + 1 + 1 + 1 + 1 + 1 + 1 + 1 + 1) = False := ⟨eq_false (by omega), eq_false (by omega), eq_false (by omega), eq_false (by omega), eq_false (by omega), eq_false (by omega), eq_false (by omega), eq_false (by omega), eq_false (by omega), eq_false (by omega), eq_false (by omega)⟩
  have hl0_b4 : b4 < H.n := by omega
  have hl1_b4 : b4 < H.n + 1 := by omega
  have hl2_b4 : b4 < H.n + 1 + 1 := by omega
  have hl3_b4 : b4 < H.n + 1 + 1 + 1 := by omega
  have hl4_b4 : b4 < H.n + 1 + 1 + 1 + 1 := by omega
  have hl5_b4 : b4 < H.n + 1 + 1 + 1 + 1 + 1 := by omega
  have hl6_b4 : b4 < H.n + 1 + 1 + 1 + 1 + 1 + 1 := by omega
  have hl7_b4 : b4 < H.n + 1 + 1 + 1 + 1 + 1 + 1 + 1 := by omega
  have hb_b6 : b6 < H.n := (hwf b6 _ hr_b6).1
  have hne_b6 : (b6 = H.n) = False := eq_false (by omega)
  have hne1_b6 : ∀ i, (b6 = H.n + i) = False := fun i => eq_false (by omega)
  have hne2_b6 : (b6 = H.n + 1 + 1) = False ∧ (b6 = H.n + 1 + 1 + 1) = False ∧ (b6 = H.n + 1 + 1 + 1 + 1) = False ∧ (b6 = H.n + 1 + 1 + 1 + 1 + 1) = False ∧ (b6 = H.n + 1 + 1 + 1 + 1 + 1 + 1) = False ∧ (b6 = H.n + 1 + 1 + 1 + 1 + 1 + 1 + 1) = False ∧ (b6 = H.n + 1 + 1 + 1 + 1 + 1 + 1 + 1 + 1) = False ∧ (b6 = H.n + 1 + 1 + 1 + 1 + 1 + 1 + 1 + 1 + 1) = False ∧ (b6 = H.n + 1 + 1 + 1 + 1 + 1 + 1 + 1 + 1 + 1 + 1) = False ∧ (b6 = H.n + 1 + 1 + 1 + 1 + 1 + 1 + 1 + 1 + 1 + 1 + 1) = False ∧ (b6 = H.n + 1 + 1 + 1 + 1 + 1 + 1 + 1 + 1 + 1 + 1 + 1 + 1) = False := ⟨eq_false (by omega), eq_false (by omega), eq_false (by omega), eq_false (by omega), eq_false (by omega), eq_false (by omega), eq_false (by omega), eq_false (by omega), eq_false (by omega), eq_false (by omega), eq_false (by omega)⟩
  have hl0_b6 : b6 < H.n := by omega
  have hl1_b6 : b6 < H.n + 1 := by omega
  have hl2_b6 : b6 < H.n + 1 + 1 := by omega
  have hl3_b6 : b6 < H.n + 1 + 1 + 1 := by omega
  have hl4_b6 : b6 < H.n + 1 + 1 + 1 + 1 := by omega
  have hl5_b6 : b6 < H.n + 1 + 1 + 1 + 1 + 1 := by omega
  have hl6_b6 : b6 < H.n + 1 + 1 + 1 + 1 + 1 + 1 := by omega
  have hl7_b6 : b6 < H.n + 1 + 1 + 1 + 1 + 1 + 1 + 1 := by omega
  have hb_ba : ba < H.n := (hwf ba _ hr_ba).1
  have hne_ba : (ba = H.n) = False := eq_false (by omega)
  have hne1_ba : ∀ i, (ba = H.n + i) = False := fun i => eq_false (by omega)
  have hne2_ba : (ba = H.n + 1 + 1) = False ∧ (ba = H.n + 1 + 1 + 1) = False ∧ (ba = H.n + 1 + 1 + 1 + 1) = False ∧ (ba = H.n + 1 + 1 + 1 + 1 + 1) = False ∧ (ba = H.n + 1 + 1 + 1 + 1 + 1 + 1) = False ∧ (ba = H.n + 1 + 1 + 1 + 1 + 1 + 1 + 1) = False ∧ (ba = H.n + 1 + 1 + 1 + 1 + 1 + 1 + 1 + 1) = False ∧ (ba = H.n + 1 + 1 + 1 + 1 + 1 + 1 + 1 + 1 + 1) = False ∧ (ba = H.n + 1 + 1 + 1 + 1 + 1 + 1 + 1 + 1 + 1 + 1) = False ∧ (ba = H.n + 1 + 1 + 1 + 1 + 1 + 1 + 1 + 1 + 1 + 1 + 1) = False ∧ (ba = H.n + 1 + 1 + 1 + 1 + 1 + 1 + 1 + 1 + 1 + 1 + 1 + 1) = False := ⟨eq_false (by omega), eq_false (by omega), eq_false (by omega), eq_false (by omega), eq_false (by omega), eq_false (by omega), eq_false (by omega), eq_false (by omega), eq_false (by omega), eq_false (by omega), eq_false (by omega)⟩
  have hl0_ba : ba < H.n := by omega
  have hl1_ba : ba < H.n + 1 := by omega
  have hl2_ba : ba < H.n + 1 + 1 := by omega
  have hl3_ba : ba < H.n + 1 + 1 + 1 := by omega
  have hl4_ba : ba < H.n + 1 + 1 + 1 + 1 := by omega
  have hl5_ba : ba < H.n + 1 + 1 + 1 + 1 + 1 := by omega
  have hl6_ba : ba < H.n + 1 + 1 + 1 + 1 + 1 + 1 := by omega
  have hl7_ba : ba < H.n + 1 + 1 + 1 + 1 + 1 + 1 + 1 := by omega
  cases ok with
  | false =>
    simp (config := {contextual := true, implicitDefEqProofs := false, maxSteps := 2000000}) [-Int.not_le, -Int.not_lt, argsF, laws_FnChanges_t9, rowK, Enc.decL_map, hr_bl, hne_bl, hne1_bl, hne2_bl.1, hne2_bl.2.1, hne2_bl.2.2.1, hne2_bl.2.2.2.1, hne2_bl.2.2.2.2.1, hne2_bl.2.2.2.2.2.1, hne2_bl.2.2.2.2.2.2.1, hne2_bl.2.2.2.2.2.2.2.1, hne2_bl.2.2.2.2.2.2.2.2.1, hne2_bl.2.2.2.2.2.2.2.2.2.1, hne2_bl.2.2.2.2.2.2.2.2.2.2, hr_b4, hne_b4, hne1_b4, hne2_b4.1, hne2_b4.2.1, hne2_b4.2.2.1, hne2_b4.2.2.2.1, hne2_b4.2.2.2.2.1, hne2_b4.2.2.2.2.2.1, hne2_b4.2.2.2.2.2.2.1, hne2_b4.2.2.2.2.2.2.2.1, hne2_b4.2.2.2.2.2.2.2.2.1, hne2_b4.2.2.2.2.2.2.2.2.2.1, hne2_b4.2.2.2.2.2.2.2.2.2.2, hr_b6, hne_b6, hne1_b6, hne2_b6.1, hne2_b6.2.1, hne2_b6.2.2.1, hne2_b6.2.2.2.1, hne2_b6.2.2.2.2.1, hne2_b6.2.2.2.2.2.1, hne2_b6.2.2.2.2.2.2.1, hne2_b6.2.2.2.2.2.2.2.1, hne2_b6.2.2.2.2.2.2.2.2.1, hne2_b6.2.2.2.2.2.2.2.2.2.1, hne2_b6.2.2.2.2.2.2.2.2.2.2, hr_ba, hne_ba, hne1_ba, hne2_ba.1, hne2_ba.2.1, hne2_ba.2.2.1, hne2_ba.2.2.2.1, hne2_ba.2.2.2.2.1, hne2_ba.2.2.2.2.2.1, hne2_ba.2.2.2.2.2.2.1, hne2_ba.2.2.2.2.2.2.2.1, hne2_ba.2.2.2.2.2.2.2.2.1, hne2_ba.2.2.2.2.2.2.2.2.2.1, hne2_ba.2.2.2.2.2.2.2.2.2.2]
    exact laws_FnChanges_p10 hwf0 hs0 hwf h hok hpl hr_bl hx_bl hr_b4 hx_b4 hr_ba hx_ba rfl
  | true =>
    have C := ch_ok hok
    have m1 : (mcRes ps x (lcRes ps x).1).1 = (lcRes ps x).2.1 := by rw [C.mc]
    have m2 : (mcRes ps x (lcRes ps x).1).2 = true := by rw [C.mc]
    have e1 : (exRes ps (lcRes ps x).2.1).1 = true := by rw [C.ey]
    have e2 : (exRes ps (lcRes ps x).2.1).2 = true := by rw [C.ey]
    have k1 : (ccRes ps x ⟨1, 1, 1, 1⟩).1 = (lcRes ps x).1 := by rw [C.cc]
    have k2 : (ccRes ps x ⟨1, 1, 1, 1⟩).2.1 = ones (lcRes ps x).1 := by rw [C.cc]
    have k3 : (ccRes ps x ⟨1, 1, 1, 1⟩).2.2 = true := by rw [C.cc]
    have hm := C.mem
    have hle : ¬ 4 < ones (lcRes ps x).1 := by have := C.le4; omega
    have hmin := C.min
    clear C
    simp (config := {contextual := true, implicitDefEqProofs := false, maxSteps := 2000000}) [-Int.not_le, -Int.not_lt, argsF, laws_FnChanges_t9, rowK, Enc.decL_map, hr_bl, hne_bl, hne1_bl, hne2_bl.1, hne2_bl.2.1, hne2_bl.2.2.1, hne2_bl.2.2.2.1, hne2_bl.2.2.2.2.1, hne2_bl.2.2.2.2.2.1, hne2_bl.2.2.2.2.2.2.1, hne2_bl.2.2.2.2.2.2.2.1, hne2_bl.2.2.2.2.2.2.2.2.1, hne2_bl.2.2.2.2.2.2.2.2.2.1, hne2_bl.2.2.2.2.2.2.2.2.2.2, hr_b4, hne_b4, hne1_b4, hne2_b4.1, hne2_b4.2.1, hne2_b4.2.2.1, hne2_b4.2.2.2.1, hne2_b4.2.2.2.2.1, hne2_b4.2.2.2.2.2.1, hne2_b4.2.2.2.2.2.2.1, hne2_b4.2.2.2.2.2.2.2.1, hne2_b4.2.2.2.2.2.2.2.2.1, hne2_b4.2.2.2.2.2.2.2.2.2.1, hne2_b4.2.2.2.2.2.2.2.2.2.2, hr_b6, hne_b6, hne1_b6, hne2_b6.1, hne2_b6.2.1, hne2_b6.2.2.1, hne2_b6.2.2.2.1, hne2_b6.2.2.2.2.1, hne2_b6.2.2.2.2.2.1, hne2_b6.2.2.2.2.2.2.1, hne2_b6.2.2.2.2.2.2.2.1, hne2_b6.2.2.2.2.2.2.2.2.1, hne2_b6.2.2.2.2.2.2.2.2.2.1, hne2_b6.2.2.2.2.2.2.2.2.2.2, hr_ba, hne_ba, hne1_ba, hne2_ba.1, hne2_ba.2.1, hne2_ba.2.2.1, hne2_ba.2.2.2.1, hne2_ba.2.2.2.2.1, hne2_ba.2.2.2.2.2.1, hne2_ba.2.2.2.2.2.2.1, hne2_ba.2.2.2.2.2.2.2.1, hne2_ba.2.2.2.2.2.2.2.2.1, hne2_ba.2.2.2.2.2.2.2.2.2.1, hne2_ba.2.2.2.2.2.2.2.2.2.2, m1, m2, e1, e2, k1, k2, k3, hm, hle]
    refine laws_FnChanges_loop1 hwf0 (by (repeat first | exact Sub.refl _ | refine Sub.push hwf0 ?_ _ | refine Sub.set hwf0 ?_ (by first | exact Nat.le_refl _ | omega | (simp only [push_n, set_n, kill_n]; omega)) _ | refine Sub.kill hwf0 ?_ (by first | exact Nat.le_refl _ | omega | (simp only [push_n, set_n, kill_n]; omega))); exact hs0) (by repeat first | exact hwf | refine WF.push ?_ (by first | exact plain_map (fun _ => rfl) _ | simp [AC.okR]) (by first | (simp; done) | (simp; omega))) hmin (ps := ps) (x := x) (bl := bl) (b4 := b4) (ba := ba) (by simp [push_b, rowK, Enc.decL_map, hr_bl, hne_bl, hne1_bl, hne2_bl.1, hne2_bl.2.1, hne2_bl.2.2.1, hne2_bl.2.2.2.1, hne2_bl.2.2.2.2.1, hne2_bl.2.2.2.2.2.1, hne2_bl.2.2.2.2.2.2.1, hne2_bl.2.2.2.2.2.2.2.1, hne2_bl.2.2.2.2.2.2.2.2.1, hne2_bl.2.2.2.2.2.2.2.2.2.1, hne2_bl.2.2.2.2.2.2.2.2.2.2, hr_b4, hne_b4, hne1_b4, hne2_b4.1, hne2_b4.2.1, hne2_b4.2.2.1, hne2_b4.2.2.2.1, hne2_b4.2.2.2.2.1, hne2_b4.2.2.2.2.2.1, hne2_b4.2.2.2.2.2.2.1, hne2_b4.2.2.2.2.2.2.2.1, hne2_b4.2.2.2.2.2.2.2.2.1, hne2_b4.2.2.2.2.2.2.2.2.2.1, hne2_b4.2.2.2.2.2.2.2.2.2.2, hr_b6, hne_b6, hne1_b6, hne2_b6.1, hne2_b6.2.1, hne2_b6.2.2.1, hne2_b6.2.2.2.1, hne2_b6.2.2.2.2.1, hne2_b6.2.2.2.2.2.1, hne2_b6.2.2.2.2.2.2.1, hne2_b6.2.2.2.2.2.2.2.1, hne2_b6.2.2.2.2.2.2.2.2.1, hne2_b6.2.2.2.2.2.2.2.2.2.1, hne2_b6.2.2.2.2.2.2.2.2.2.2, hr_ba, hne_ba, hne1_ba, hne2_ba.1, hne2_ba.2.1, hne2_ba.2.2.1, hne2_ba.2.2.2.1, hne2_ba.2.2.2.2.1, hne2_ba.2.2.2.2.2.1, hne2_ba.2.2.2.2.2.2.1, hne2_ba.2.2.2.2.2.2.2.1, hne2_ba.2.2.2.2.2.2.2.2.1, hne2_ba.2.2.2.2.2.2.2.2.2.1, hne2_ba.2.2.2.2.2.2.2.2.2.2]; done) (by omega) (by simp [push_b, rowK, Enc.decL_map, hr_bl, hne_bl, hne1_bl, hne2_bl.1, hne2_bl.2.1, hne2_bl.2.2.1, hne2_bl.2.2.2.1, hne2_bl.2.2.2.2.1, hne2_bl.2.2.2.2.2.1, hne2_bl.2.2.2.2.2.2.1, hne2_bl.2.2.2.2.2.2.2.1, hne2_bl.2.2.2.2.2.2.2.2.1, hne2_bl.2.2.2.2.2.2.2.2.2.1, hne2_bl.2.2.2.2.2.2.2.2.2.2, hr_b4, hne_b4, hne1_b4, hne2_b4.1, hne2_b4.2.1, hne2_b4.2.2.1, hne2_b4.2.2.2.1, hne2_b4.2.2.2.2.1, hne2_b4.2.2.2.2.2.1, hne2_b4.2.2.2.2.2.2.1, hne2_b4.2.2.2.2.2.2.2.1, hne2_b4.2.2.2.2.2.2.2.2.1, hne2_b4.2.2.2.2.2.2.2.2.2.1, hne2_b4.2.2.2.2.2.2.2.2.2.2, hr_b6, hne_b6, hne1_b6, hne2_b6.1, hne2_b6.2.1, hne2_b6.2.2.1, hne2_b6.2.2.2.1, hne2_b6.2.2.2.2.1, hne2_b6.2.2.2.2.2.1, hne2_b6.2.2.2.2.2.2.1, hne2_b6.2.2.2.2.2.2.2.1, hne2_b6.2.2.2.2.2.2.2.2.1, hne2_b6.2.2.2.2.2.2.2.2.2.1, hne2_b6.2.2.2.2.2.2.2.2.2.2, hr_ba, hne_ba, hne1_ba, hne2_ba.1, hne2_ba.2.1, hne2_ba.2.2.1, hne2_ba.2.2.2.1, hne2_ba.2.2.2.2.1, hne2_ba.2.2.2.2.2.1, hne2_ba.2.2.2.2.2.2.1, hne2_ba.2.2.2.2.2.2.2.1, hne2_ba.2.2.2.2.2.2.2.2.1, hne2_ba.2.2.2.2.2.2.2.2.2.1, hne2_ba.2.2.2.2.2.2.2.2.2.2]; done) (by omega) (by simp [push_b, rowK, Enc.decL_map, hr_bl, hne_bl, hne1_bl, hne2_bl.1, hne2_bl.2.1, hne2_bl.2.2.1, hne2_bl.2.2.2.1, hne2_bl.2.2.2.2.1, hne2_bl.2.2.2.2.2.1, hne2_bl.2.2.2.2.2.2.1, hne2_bl.2.2.2.2.2.2.2.1, hne2_bl.2.2.2.2.2.2.2.2.1, hne2_bl.2.2.2.2.2.2.2.2.2.1, hne2_bl.2.2.2.2.2.2.2.2.2.2, hr_b4, hne_b4, hne1_b4, hne2_b4.1, hne2_b4.2.1, hne2_b4.2.2.1, hne2_b4.2.2.2.1, hne2_b4.2.2.2.2.1, hne2_b4.2.2.2.2.2.1, hne2_b4.2.2.2.2.2.2.1, hne2_b4.2.2.2.2.2.2.2.1, hne2_b4.2.2.2.2.2.2.2.2.1, hne2_b4.2.2.2.2.2.2.2.2.2.1, hne2_b4.2.2.2.2.2.2.2.2.2.2, hr_b6, hne_b6, hne1_b6, hne2_b6.1, hne2_b6.2.1, hne2_b6.2.2.1, hne2_b6.2.2.2.1, hne2_b6.2.2.2.2.1, hne2_b6.2.2.2.2.2.1, hne2_b6.2.2.2.2.2.2.1, hne2_b6.2.2.2.2.2.2.2.1, hne2_b6.2.2.2.2.2.2.2.2.1, hne2_b6.2.2.2.2.2.2.2.2.2.1, hne2_b6.2.2.2.2.2.2.2.2.2.2, hr_ba, hne_ba, hne1_ba, hne2_ba.1, hne2_ba.2.1, hne2_ba.2.2.1, hne2_ba.2.2.2.1, hne2_ba.2.2.2.2.1, hne2_ba.2.2.2.2.2.1, hne2_ba.2.2.2.2.2.2.1, hne2_ba.2.2.2.2.2.2.2.1, hne2_ba.2.2.2.2.2.2.2.2.1, hne2_ba.2.2.2.2.2.2.2.2.2.1, hne2_ba.2.2.2.2.2.2.2.2.2.2]; done) (by omega) ?_
    clear hmin
    simp (config := {contextual := true, implicitDefEqProofs := false, maxSteps := 2000000}) [-Int.not_le, -Int.not_lt, argsF, rowK, Enc.decL_map, hr_bl, hne_bl, hne1_bl, hne2_bl.1, hne2_bl.2.1, hne2_bl.2.2.1, hne2_bl.2.2.2.1, hne2_bl.2.2.2.2.1, hne2_bl.2.2.2.2.2.1, hne2_bl.2.2.2.2.2.2.1, hne2_bl.2.2.2.2.2.2.2.1, hne2_bl.2.2.2.2.2.2.2.2.1, hne2_bl.2.2.2.2.2.2.2.2.2.1, hne2_bl.2.2.2.2.2.2.2.2.2.2, hr_b4, hne_b4, hne1_b4, hne2_b4.1, hne2_b4.2.1, hne2_b4.2.2.1, hne2_b4.2.2.2.1, hne2_b4.2.2.2.2.1, hne2_b4.2.2.2.2.2.1, hne2_b4.2.2.2.2.2.2.1, hne2_b4.2.2.2.2.2.2.2.1, hne2_b4.2.2.2.2.2.2.2.2.1, hne2_b4.2.2.2.2.2.2.2.2.2.1, hne2_b4.2.2.2.2.2.2.2.2.2.2, hr_b6, hne_b6, hne1_b6, hne2_b6.1, hne2_b6.2.1, hne2_b6.2.2.1, hne2_b6.2.2.2.1, hne2_b6.2.2.2.2.1, hne2_b6.2.2.2.2.2.1, hne2_b6.2.2.2.2.2.2.1, hne2_b6.2.2.2.2.2.2.2.1, hne2_b6.2.2.2.2.2.2.2.2.1, hne2_b6.2.2.2.2.2.2.2.2.2.1, hne2_b6.2.2.2.2.2.2.2.2.2.2, hr_ba, hne_ba, hne1_ba, hne2_ba.1, hne2_ba.2.1, hne2_ba.2.2.1, hne2_ba.2.2.2.1, hne2_ba.2.2.2.2.1, hne2_ba.2.2.2.2.2.1, hne2_ba.2.2.2.2.2.2.1, hne2_ba.2.2.2.2.2.2.2.1, hne2_ba.2.2.2.2.2.2.2.2.1, hne2_ba.2.2.2.2.2.2.2.2.2.1, hne2_ba.2.2.2.2.2.2.2.2.2.2]
    exact laws_FnChanges_p10 hwf0 (by (repeat first | exact Sub.refl _ | refine Sub.push hwf0 ?_ _ | refine Sub.set hwf0 ?_ (by first | exact Nat.le_refl _ | omega | (simp only [push_n, set_n, kill_n]; omega)) _ | refine Sub.kill hwf0 ?_ (by first | exact Nat.le_refl _ | omega | (simp only [push_n, set_n, kill_n]; omega))); exact hs0) (by repeat first | exact hwf | refine WF.push ?_ (by first | exact plain_map (fun _ => rfl) _ | simp [AC.okR]) (by first | (simp; done) | (simp; omega))) h hok hpl (bl := bl) (b4 := b4) (ba := ba) (by simp [push_b, rowK, Enc.decL_map, hr_bl, hne_bl, hne1_bl, hne2_bl.1, hne2_bl.2.1, hne2_bl.2.2.1, hne2_bl.2.2.2.1, hne2_bl.2.2.2.2.1, hne2_bl.2.2.2.2.2.1, hne2_bl.2.2.2.2.2.2.1, hne2_bl.2.2.2.2.2.2.2.1, hne2_bl.2.2.2.2.2.2.2.2.1, hne2_bl.2.2.2.2.2.2.2.2.2.1, hne2_bl.2.2.2.2.2.2.2.2.2.2, hr_b4, hne_b4, hne1_b4, hne2_b4.1, hne2_b4.2.1, hne2_b4.2.2.1, hne2_b4.2.2.2.1, hne2_b4.2.2.2.2.1, hne2_b4.2.2.2.2.2.1, hne2_b4.2.2.2.2.2.2.1, hne2_b4.2.2.2.2.2.2.2.1, hne2_b4.2.2.2.2.2.2.2.2.1, hne2_b4.2.2.2.2.2.2.2.2.2.1, hne2_b4.2.2.2.2.2.2.2.2.2.2, hr_b6, hne_b6, hne1_b6, hne2_b6.1, hne2_b6.2.1, hne2_b6.2.2.1, hne2_b6.2.2.2.1, hne2_b6.2.2.2.2.1, hne2_b6.2.2.2.2.2.1, hne2_b6.2.2.2.2.2.2.1, hne2_b6.2.2.2.2.2.2.2.1, hne2_b6.2.2.2.2.2.2.2.2.1, hne2_b6.2.2.2.2.2.2.2.2.2.1, hne2_b6.2.2.2.2.2.2.2.2.2.2, hr_ba, hne_ba, hne1_ba, hne2_ba.1, hne2_ba.2.1, hne2_ba.2.2.1, hne2_ba.2.2.2.1, hne2_ba.2.2.2.2.1, hne2_ba.2.2.2.2.2.1, hne2_ba.2.2.2.2.2.2.1, hne2_ba.2.2.2.2.2.2.2.1, hne2_ba.2.2.2.2.2.2.2.2.1, hne2_ba.2.2.2.2.2.2.2.2.2.1, hne2_ba.2.2.2.2.2.2.2.2.2.2]; done) (by omega) (by simp [push_b, rowK, Enc.decL_map, hr_bl, hne_bl, hne1_bl, hne2_bl.1, hne2_bl.2.1, hne2_bl.2.2.1, hne2_bl.2.2.2.1, hne2_bl.2.2.2.2.1, hne2_bl.2.2.2.2.2.1, hne2_bl.2.2.2.2.2.2.1, hne2_bl.2.2.2.2.2.2.2.1, hne2_bl.2.2.2.2.2.2.2.2.1, hne2_bl.2.2.2.2.2.2.2.2.2.1, hne2_bl.2.2.2.2.2.2.2.2.2.2, hr_b4, hne_b4, hne1_b4, hne2_b4.1, hne2_b4.2.1, hne2_b4.2.2.1, hne2_b4.2.2.2.1, hne2_b4.2.2.2.2.1, hne2_b4.2.2.2.2.2.1, hne2_b4.2.2.2.2.2.2.1, hne2_b4.2.2.2.2.2.2.2.1, hne2_b4.2.2.2.2.2.2.2.2.1, hne2_b4.2.2.2.2.2.2.2.2.2.1, hne2_b4.2.2.2.2.2.2.2.2.2.2, hr_b6, hne_b6, hne1_b6, hne2_b6.1, hne2_b6.2.1, hne2_b6.2.2.1, hne2_b6.2.2.2.1, hne2_b6.2.2.2.2.1, hne2_b6.2.2.2.2.2.1, hne2_b6.2.2.2.2.2.2.1, hne2_b6.2.2.2.2.2.2.2.1, hne2_b6.2.2.2.2.2.2.2.2.1, hne2_b6.2.2.2.2.2.2.2.2.2.1, hne2_b6.2.2.2.2.2.2.2.2.2.2, hr_ba, hne_ba, hne1_ba, hne2_ba.1, hne2_ba.2.1, hne2_ba.2.2.1, hne2_ba.2.2.2.1, hne2_ba.2.2.2.2.1, hne2_ba.2.2.2.2.2.1, hne2_ba.2.2.2.2.2.2.1, hne2_ba.2.2.2.2.2.2.2.1, hne2_ba.2.2.2.2.2.2.2.2.1, hne2_ba.2.2.2.2.2.2.2.2.2.1, hne2_ba.2.2.2.2.2.2.2.2.2.2]; done) (by omega) (by simp [push_b, rowK, Enc.decL_map, hr_bl, hne_bl, hne1_bl, hne2_bl.1, hne2_bl.2.1, hne2_bl.2.2.1, hne2_bl.2.2.2.1, hne2_bl.2.2.2.2.1, hne2_bl.2.2.2.2.2.1, hne2_bl.2.2.2.2.2.2.1, hne2_bl.2.2.2.2.2.2.2.1, hne2_bl.2.2.2.2.2.2.2.2.1, hne2_bl.2.2.2.2.2.2.2.2.2.1, hne2_bl.2.2.2.2.2.2.2.2.2.2, hr_b4, hne_b4, hne1_b4, hne2_b4.1, hne2_b4.2.1, hne2_b4.2.2.1, hne2_b4.2.2.2.1, hne2_b4.2.2.2.2.1, hne2_b4.2.2.2.2.2.1, hne2_b4.2.2.2.2.2.2.1, hne2_b4.2.2.2.2.2.2.2.1, hne2_b4.2.2.2.2.2.2.2.2.1, hne2_b4.2.2.2.2.2.2.2.2.2.1, hne2_b4.2.2.2.2.2.2.2.2.2.2, hr_b6, hne_b6, hne1_b6, hne2_b6.1, hne2_b6.2.1, hne2_b6.2.2.1, hne2_b6.2.2.2.1, hne2_b6.2.2.2.2.1, hne2_b6.2.2.2.2.2.1, hne2_b6.2.2.2.2.2.2.1, hne2_b6.2.2.2.2.2.2.2.1, hne2_b6.2.2.2.2.2.2.2.2.1, hne2_b6.2.2.2.2.2.2.2.2.2.1, hne2_b6.2.2.2.2.2.2.2.2.2.2, hr_ba, hne_ba, hne1_ba, hne2_ba.1, hne2_ba.2.1, hne2_ba.2.2.1, hne2_ba.2.2.2.1, hne2_ba.2.2.2.2.1, hne2_ba.2.2.2.2.2.1, hne2_ba.2.2.2.2.2.2.1, hne2_ba.2.2.2.2.2.2.2.1, hne2_ba.2.2.2.2.2.2.2.2.1, hne2_ba.2.2.2.2.2.2.2.2.2.1, hne2_ba.2.2.2.2.2.2.2.2.2.2]; done) (by omega) rfl

theorem laws_FnChanges_p7 {H0 H : AHeap} {K : AV → AHeap → Prop} (hwf0 : H0.WF) (hs0 : Sub H0 H) (hwf : H.WF) (h : K (.c (.bool true)) H0) {bl : Nat} {b4 : Nat} {b6 : Nat} {ba : Nat} {ps : List Ra} {x : Cv} {ok : Bool} (hok : (lcRes ps x).2.2 = ok) (hpl : ps.length ≤ 40) (hr_bl : H.b bl = some (rowK eRa 122 ps)) (hx_bl : H0.n ≤ bl) (hr_b4 : H.b b4 = some (rowK eCv 27 [x])) (hx_b4 : H0.n ≤ b4) (hr_b6 : H.b b6 = some (rowK eCv 27 [(lcRes ps x).2.1])) (hx_b6 : H0.n ≤ b6) (hr_ba : H.b ba = some (rowK eI 3 (pcRes ps x).1)) (hx_ba : H0.n ≤ ba) {F : AFrame} (hF : F.keep [3, 4, 5, 6, 7, 11, 12] = [(3, .c (.sl (bl) (0) (ps.length))), (4, .c (.ptr b4 0 0)), (5, .c (.int .i64 ((lcRes ps x).1))), (6, .c (.ptr b6 0 0)), (7, .c (.bool (ok))), (11, .c (.sl (ba) (0) ((pcRes ps x).1.length))), (12, .c (.bool ((pcRes ps x).2)))]) : avc Try.prog [(8, q_rBig), (26, q_DIe), (27, q_Least), (28, q_Least), (29, q_Possible), (30, q_Possible), (16, q_rInts), (31, q_IsEx), (32, q_IsEx), (33, q_MakeCover), (34, q_Cheap), (35, q_rHas), (36, q_Needed), (37, q_Needed)] 247 H0.n laws_FnChanges_t7 F H (endK Try.prog H0.n [.tmp 2] K) := by
  refine (show avc _ _ _ _ _ _ _ _ = _ from avc_cut _ _).mpr ?_
  rw [hF]
  have hE := soundE_cons laws_vBig_s (soundE_cons spec_DrawLeastChange_s (soundE_cons impl_LeastChange_s (soundE_cons spec_LeastChange_s (soundE_cons impl_PossibleChanges_s (soundE_cons spec_PossibleChanges_s (soundE_cons laws_vInts_s (soundE_cons impl_IsExplained_s (soundE_cons spec_IsExplained_s (soundE_cons impl_MakeCover_s (soundE_cons impl_CheapestChange_s (soundE_cons laws_vHas_s (soundE_cons impl_NeededChanges_s (soundE_cons spec_NeededChanges_s (soundE_nil (P := Try.prog)))))))))))))))
  have hn0 : H0.n ≤ H.n := hs0.1.1
  have hb_bl : bl < H.n := (hwf bl _ hr_bl).1
  have hne_bl : (bl = H.n) = False := eq_false (by omega)
  have hne1_bl : ∀ i, (bl = H.n + i) = False := fun i => eq_false (by omega)
  have hne2_bl : (bl = H.n + 1 + 1) = False ∧ (bl = H.n + 1 + 1 + 1) = False ∧ (bl = H.n + 1 + 1 + 1 + 1) = False ∧ (bl = H.n + 1 + 1 + 1 + 1 + 1) = False ∧ (bl = H.n + 1 + 1 + 1 + 1 + 1 + 1) = False ∧ (bl = H.n + 1 + 1 + 1 + 1 + 1 + 1 + 1) = False ∧ (bl = H.n + 1 + 1 + 1 + 1 + 1 + 1 + 1 + 1) = False ∧ (bl = H.n + 1 + 1 + 1 + 1 + 1 + 1 + 1 + 1 + 1) = False ∧ (bl = H.n + 1 + 1 + 1 + 1 + 1 + 1 + 1 + 1 + 1 + 1) = False ∧ (bl = H.n + 1 + 1 + 1 + 1 + 1 + 1 + 1 + 1 + 1 + 1 + 1) = False ∧ (bl = H.n + 1 + 1 + 1 + 1 + 1 + 1 + 1 + 1 + 1 + 1 + 1 + 1) = False := ⟨eq_false (by omega), eq_false (by omega), eq_false (by omega), eq_false (by omega), eq_false (by omega), eq_false (by omega), eq_false (by omega), eq_false (by omega), eq_false (by omega), eq_false (by omega), eq_false (by omega)⟩
  have hl0_bl : bl < H.n := by omega
  have hl1_bl : bl < H.n + 1 := by omega
  have hl2_bl : bl < H.n + 1 + 1 := by omega
  have hl3_bl : bl < H.n + 1 + 1 + 1 := by omega
  have hl4_bl : bl < H.n + 1 + 1 + 1 + 1 := by omega
  have hl5_bl : bl < H.n + 1 + 1 + 1 + 1 + 1 := by omega
  have hl6_bl : bl < H.n + 1 + 1 + 1 + 1 + 1 + 1 := by omega
  have hl7_bl : bl < H.n + 1 + 1 + 1 + 1 + 1 + 1 + 1 := by omega
  have hb_b4 : b4 < H.n := (hwf b4 _ hr_b4).1
  have hne_b4 : (b4 = H.n) = False := eq_false (by omega)
  have hne1_b4 : ∀ i, (b4 = H.n + i) = False := fun i => eq_false (by omega)
  have hne2_b4 : (b4 = H.n + 1 + 1) = False ∧ (b4 = H.n + 1 + 1 + 1) = False ∧ (b4 = H.n + 1 + 1 + 1 + 1) = False ∧ (b4 = H.n + 1 + 1 + 1 + 1 + 1) = False ∧ (b4 = H.n + 1 + 1 + 1 + 1 + 1 + 1) = False ∧ (b4 = H.n + 1 + 1 + 1 + 1 + 1 + 1 + 1) = False ∧ (b4 = H.n + 1 + 1 + 1 + 1 + 1 + 1 + 1 + 1) = False ∧ (b4 = H.n + 1 + 1 + 1 + 1 + 1 + 1 + 1 + 1 + 1) = False ∧ (b4 = H.n + 1 + 1 + 1 + 1 + 1 + 1 + 1 + 1 + 1 + 1) = False ∧ (b4 = H.n + 1 + 1 + 1 + 1 + 1 + 1 + 1 + 1 + 1 + 1 + 1) = False ∧ (b4 = H.n + 1 + 1 + 1 + 1 + 1 + 1 + 1 + 1 + 1 + 1 + 1 + 1) = False := ⟨eq_false (by omega), eq_false (by omega), eq_false (by omega), eq_false (by omega), eq_false (by omega), eq_false (by omega), eq_false (by omega), eq_false (by omega), eq_false (by omega), eq_false (by omega), eq_false (by omega)⟩
  have hl0_b4 : b4 < H.n := by omega
  have hl1_b4 : b4 < H.n + 1 := by omega
  have hl2_b4 : b4 < H.n + 1 + 1 := by omega
  have hl3_b4 : b4 < H.n + 1 + 1 + 1 := by omega
  have hl4_b4 : b4 < H.n + 1 + 1 + 1 + 1 := by omega
  have hl5_b4 : b4 < H.n + 1 + 1 + 1 + 1 + 1 := by omega
  have hl6_b4 : b4 < H.n + 1 + 1 + 1 + 1 + 1 + 1 := by omega
  have hl7_b4 : b4 < H.n + 1 + 1 + 1 + 1 + 1 + 1 + 1 := by omega
  have hb_b6 : b6 < H.n := (hwf b6 _ hr_b6).1
  have hne_b6 : (b6 = H.n) = False := eq_false (by omega)
  have hne1_b6 : ∀ i, (b6 = H.n + i) = False := fun i => eq_false (by omega)
  have hne2_b6 : (b6 = H.n + 1 + 1) = False ∧ (b6 = H.n + 1 + 1 + 1) = False ∧ (b6 = H.n + 1 + 1 + 1 + 1) = False ∧ (b6 = H.n + 1 + 1 + 1 + 1 + 1) = False ∧ (b6 = H.n + 1 + 1 + 1 + 1 + 1 + 1) = False ∧ (b6 = H.n + 1 + 1 + 1 + 1 + 1 + 1 + 1) = False ∧ (b6 = H.n + 1 + 1 + 1 + 1 + 1 + 1 + 1 + 1) = False ∧ (b6 = H.n + 1 + 1 + 1 + 1 + 1 + 1 + 1 + 1 + 1) = False ∧ (b6 = H.n + 1 + 1 + 1 + 1 + 1 + 1 + 1 + 1 + 1 + 1) = False ∧ (b6 = H.n + 1 + 1 + 1 + 1 + 1 + 1 + 1 + 1 + 1 + 1 + 1) = False ∧ (b6 = H.n + 1 + 1 + 1 + 1 + 1 + 1 + 1 + 1 + 1 + 1 + 1 + 1) = False := ⟨eq_false (by omega), eq_false (by omega), eq_false (by omega), eq_false (by omega), eq_false (by omega), eq_false (by omega), eq_false (by omega), eq_false (by omega), eq_false (by omega), eq_false (by omega), eq_false (by omega)⟩
  have hl0_b6 : b6 < H.n := by omega
  have hl1_b6 : b6 < H.n + 1 := by omega
  have hl2_b6 : b6 < H.n + 1 + 1 := by omega
  have hl3_b6 : b6 < H.n + 1 + 1 + 1 := by omega
  have hl4_b6 : b6 < H.n + 1 + 1 + 1 + 1 := by omega
  have hl5_b6 : b6 < H.n + 1 + 1 + 1 + 1 + 1 := by omega
  have hl6_b6 : b6 < H.n + 1 + 1 + 1 + 1 + 1 + 1 := by omega
  have hl7_b6 : b6 < H.n + 1 + 1 + 1 + 1 + 1 + 1 + 1 := by omega
  have hb_ba : ba < H.n := (hwf ba _ hr_ba).1
  have hne_ba : (ba = H.n) = False := eq_false (by omega)
  have hne1_ba : ∀ i, (ba = H.n + i) = False := fun i => eq_false (by omega)
  have hne2_ba : (ba = H.n + 1 + 1) = False ∧ (ba = H.n + 1 + 1 + 1) = False ∧ (ba = H.n + 1 + 1 + 1 + 1) = False ∧ (ba = H.n + 1 + 1 + 1 + 1 + 1) = False ∧ (ba = H.n + 1 + 1 + 1 + 1 + 1 + 1) = False ∧ (ba = H.n + 1 + 1 + 1 + 1 + 1 + 1 + 1) = False ∧ (ba = H.n + 1 + 1 + 1 + 1 + 1 + 1 + 1 + 1) = False ∧ (ba = H.n + 1 + 1 + 1 + 1 + 1 + 1 + 1 + 1 + 1) = False ∧ (ba = H.n + 1 + 1 + 1 + 1 + 1 + 1 + 1 + 1 + 1 + 1) = False ∧ (ba = H.n + 1 + 1 + 1 + 1 + 1 + 1 + 1 + 1 + 1 + 1 + 1) = False ∧ (ba = H.n + 1 + 1 + 1 + 1 + 1 + 1 + 1 + 1 + 1 + 1 + 1 + 1) = False := ⟨eq_false (by omega), eq_false (by omega), eq_false (by omega), eq_false (by omega), eq_false (by omega), eq_false (by omega), eq_false (by omega), eq_false (by omega), eq_false (by omega), eq_false (by omega), eq_false (by omega)⟩
  have hl0_ba : ba < H.n := by omega
  have hl1_ba : ba < H.n + 1 := by omega
  have hl2_ba : ba < H.n + 1 + 1 := by omega
  have hl3_ba : ba < H.n + 1 + 1 + 1 := by omega
  have hl4_ba : ba < H.n + 1 + 1 + 1 + 1 := by omega
  have hl5_ba : ba < H.n + 1 + 1 + 1 + 1 + 1 := by omega
  have hl6_ba : ba < H.n + 1 + 1 + 1 + 1 + 1 + 1 := by omega
  have hl7_ba : ba < H.n + 1 + 1 + 1 + 1 + 1 + 1 + 1 := by omega
  cases ok with
  | false =>
    have C := ch_no hok
    have c1 := C.2.1
    have c2 := C.2.2.1
    simp (config := {contextual := true, implicitDefEqProofs := false, maxSteps := 2000000}) [-Int.not_le, -Int.not_lt, argsF, laws_FnChanges_t7, laws_FnChanges_t8, rowK, Enc.decL_map, hr_bl, hne_bl, hne1_bl, hne2_bl.1, hne2_bl.2.1, hne2_bl.2.2.1, hne2_bl.2.2.2.1, hne2_bl.2.2.2.2.1, hne2_bl.2.2.2.2.2.1, hne2_bl.2.2.2.2.2.2.1, hne2_bl.2.2.2.2.2.2.2.1, hne2_bl.2.2.2.2.2.2.2.2.1, hne2_bl.2.2.2.2.2.2.2.2.2.1, hne2_bl.2.2.2.2.2.2.2.2.2.2, hr_b4, hne_b4, hne1_b4, hne2_b4.1, hne2_b4.2.1, hne2_b4.2.2.1, hne2_b4.2.2.2.1, hne2_b4.2.2.2.2.1, hne2_b4.2.2.2.2.2.1, hne2_b4.2.2.2.2.2.2.1, hne2_b4.2.2.2.2.2.2.2.1, hne2_b4.2.2.2.2.2.2.2.2.1, hne2_b4.2.2.2.2.2.2.2.2.2.1, hne2_b4.2.2.2.2.2.2.2.2.2.2, hr_b6, hne_b6, hne1_b6, hne2_b6.1, hne2_b6.2.1, hne2_b6.2.2.1, hne2_b6.2.2.2.1, hne2_b6.2.2.2.2.1, hne2_b6.2.2.2.2.2.1, hne2_b6.2.2.2.2.2.2.1, hne2_b6.2.2.2.2.2.2.2.1, hne2_b6.2.2.2.2.2.2.2.2.1, hne2_b6.2.2.2.2.2.2.2.2.2.1, hne2_b6.2.2.2.2.2.2.2.2.2.2, hr_ba, hne_ba, hne1_ba, hne2_ba.1, hne2_ba.2.1, hne2_ba.2.2.1, hne2_ba.2.2.2.1, hne2_ba.2.2.2.2.1, hne2_ba.2.2.2.2.2.1, hne2_ba.2.2.2.2.2.2.1, hne2_ba.2.2.2.2.2.2.2.1, hne2_ba.2.2.2.2.2.2.2.2.1, hne2_ba.2.2.2.2.2.2.2.2.2.1, hne2_ba.2.2.2.2.2.2.2.2.2.2, c1, c2, ite_self]
    exact laws_FnChanges_p9 hwf0 hs0 hwf h hok hpl hr_bl hx_bl hr_b4 hx_b4 hr_b6 hx_b6 hr_ba hx_ba rfl
  | true =>
    have C := ch_ok hok
    have c1 := C.pc2
    have c2 := C.ex2
    have c3 := C.ex1
    clear C
    simp (config := {contextual := true, implicitDefEqProofs := false, maxSteps := 2000000}) [-Int.not_le, -Int.not_lt, argsF, laws_FnChanges_t7, laws_FnChanges_t8, rowK, Enc.decL_map, hr_bl, hne_bl, hne1_bl, hne2_bl.1, hne2_bl.2.1, hne2_bl.2.2.1, hne2_bl.2.2.2.1, hne2_bl.2.2.2.2.1, hne2_bl.2.2.2.2.2.1, hne2_bl.2.2.2.2.2.2.1, hne2_bl.2.2.2.2.2.2.2.1, hne2_bl.2.2.2.2.2.2.2.2.1, hne2_bl.2.2.2.2.2.2.2.2.2.1, hne2_bl.2.2.2.2.2.2.2.2.2.2, hr_b4, hne_b4, hne1_b4, hne2_b4.1, hne2_b4.2.1, hne2_b4.2.2.1, hne2_b4.2.2.2.1, hne2_b4.2.2.2.2.1, hne2_b4.2.2.2.2.2.1, hne2_b4.2.2.2.2.2.2.1, hne2_b4.2.2.2.2.2.2.2.1, hne2_b4.2.2.2.2.2.2.2.2.1, hne2_b4.2.2.2.2.2.2.2.2.2.1, hne2_b4.2.2.2.2.2.2.2.2.2.2, hr_b6, hne_b6, hne1_b6, hne2_b6.1, hne2_b6.2.1, hne2_b6.2.2.1, hne2_b6.2.2.2.1, hne2_b6.2.2.2.2.1, hne2_b6.2.2.2.2.2.1, hne2_b6.2.2.2.2.2.2.1, hne2_b6.2.2.2.2.2.2.2.1, hne2_b6.2.2.2.2.2.2.2.2.1, hne2_b6.2.2.2.2.2.2.2.2.2.1, hne2_b6.2.2.2.2.2.2.2.2.2.2, hr_ba, hne_ba, hne1_ba, hne2_ba.1, hne2_ba.2.1, hne2_ba.2.2.1, hne2_ba.2.2.2.1, hne2_ba.2.2.2.2.1, hne2_ba.2.2.2.2.2.1, hne2_ba.2.2.2.2.2.2.1, hne2_ba.2.2.2.2.2.2.2.1, hne2_ba.2.2.2.2.2.2.2.2.1, hne2_ba.2.2.2.2.2.2.2.2.2.1, hne2_ba.2.2.2.2.2.2.2.2.2.2, c1, c2, c3, ite_self]
    exact laws_FnChanges_p9 hwf0 hs0 hwf h hok hpl hr_bl hx_bl hr_b4 hx_b4 hr_b6 hx_b6 hr_ba hx_ba rfl

theorem laws_FnChanges_p5 {H0 H : AHeap} {K : AV → AHeap → Prop} (hwf0 : H0.WF) (hs0 : Sub H0 H) (hwf : H.WF) (h : K (.c (.bool true)) H0) {bl : Nat} {b4 : Nat} {b6 : Nat} {ps : List Ra} {x : Cv} {ok : Bool} (hok : (lcRes ps x).2.2 = ok) (hpl : ps.length ≤ 40) (hr_bl : H.b bl = some (rowK eRa 122 ps)) (hx_bl : H0.n ≤ bl) (hr_b4 : H.b b4 = some (rowK eCv 27 [x])) (hx_b4 : H0.n ≤ b4) (hr_b6 : H.b b6 = some (rowK eCv 27 [(lcRes ps x).2.1])) (hx_b6 : H0.n ≤ b6) {F : AFrame} (hF : F.keep [3, 4, 5, 6, 7] = [(3, .c (.sl (bl) (0) (ps.length))), (4, .c (.ptr b4 0 0)), (5, .c (.int .i64 ((lcRes ps x).1))), (6, .c (.ptr b6 0 0)), (7, .c (.bool (ok)))]) : avc Try.prog [(8, q_rBig), (26, q_DIe), (27, q_Least), (28, q_Least), (29, q_Possible), (30, q_Possible), (16, q_rInts), (31, q_IsEx), (32, q_IsEx), (33, q_MakeCover), (34, q_Cheap), (35, q_rHas), (36, q_Needed), (37, q_Needed)] 247 H0.n laws_FnChanges_t5 F H (endK Try.prog H0.n [.tmp 2] K) := by
  refine (show avc _ _ _ _ _ _ _ _ = _ from avc_cut _ _).mpr ?_
  rw [hF]
  have hE := soundE_cons laws_vBig_s (soundE_cons spec_DrawLeastChange_s (soundE_cons impl_LeastChange_s (soundE_cons spec_LeastChange_s (soundE_cons impl_PossibleChanges_s (soundE_cons spec_PossibleChanges_s (soundE_cons laws_vInts_s (soundE_cons impl_IsExplained_s (soundE_cons spec_IsExplained_s (soundE_cons impl_MakeCover_s (soundE_cons impl_CheapestChange_s (soundE_cons laws_vHas_s (soundE_cons impl_NeededChanges_s (soundE_cons spec_NeededChanges_s (soundE_nil (P := Try.prog)))))))))))))))
  have hn0 : H0.n ≤ H.n := hs0.1.1
  have hb_bl : bl < H.n := (hwf bl _ hr_bl).1
  have hne_bl : (bl = H.n) = False := eq_false (by omega)
  have hne1_bl : ∀ i, (bl = H.n + i) = False := fun i => eq_false (by omega)
  have hne2_bl : (bl = H.n + 1 + 1) = False ∧ (bl = H.n + 1 + 1 + 1) = False ∧ (bl = H.n + 1 + 1 + 1 + 1) = False ∧ (bl = H.n + 1 + 1 + 1 + 1 + 1) = False ∧ (bl = H.n + 1 + 1 + 1 + 1 + 1 + 1) = False ∧ (bl = H.n + 1 + 1 + 1 + 1 + 1 + 1 + 1) = False ∧ (bl = H.n + 1 + 1 + 1 + 1 + 1 + 1 + 1 + 1) = False ∧ (bl = H.n + 1 + 1 + 1 + 1 + 1 + 1 + 1 + 1 + 1) = False ∧ (bl = H.n + 1 + 1 + 1 + 1 + 1 + 1 + 1 + 1 + 1 + 1) = False ∧ (bl = H.n + 1 + 1 + 1 + 1 + 1 + 1 + 1 + 1 + 1 + 1 + 1) = False ∧ (bl = H.n + 1 + 1 + 1 + 1 + 1 + 1 + 1 + 1 + 1 + 1 + 1 + 1) = False := ⟨eq_false (by omega), eq_false (by omega), eq_false (by omega), eq_false (by omega), eq_false (by omega), eq_false (by omega), eq_false (by omega), eq_false (by omega), eq_false (by omega), eq_false (by omega), eq_false (by omega)⟩
  have hl0_bl : bl < H.n := by omega
  have hl1_bl : bl < H.n + 1 := by omega
  have hl2_bl : bl < H.n + 1 + 1 := by omega
  have hl3_bl : bl < H.n + 1 + 1 + 1 := by omega
  have hl4_bl : bl < H.n + 1 + 1 + 1 + 1 := by omega
  have hl5_bl : bl < H.n + 1 + 1 + 1 + 1 + 1 := by omega
  have hl6_bl : bl < H.n + 1 + 1 + 1 + 1 + 1 + 1 := by omega
  have hl7_bl : bl < H.n + 1 + 1 + 1 + 1 + 1 + 1 + 1 := by omega
  have hb_b4 : b4 < H.n := (hwf b4 _ hr_b4).1
  have hne_b4 : (b4 = H.n) = False := eq_false (by omega)
  have hne1_b4 : ∀ i, (b4 = H.n + i) = False := fun i => eq_false (by omega)
  have hne2_b4 : (b4 = H.n + 1 + 1) = False ∧ (b4 = H.n + 1 + 1 + 1) = False ∧ (b4 = H.n + 1 + 1 + 1 + 1) = False ∧ (b4 = H.n + 1 + 1 + 1 + 1 + 1) = False ∧ (b4 = H.n + 1 + 1 + 1 + 1 + 1 + 1) = False ∧ (b4 = H.n + 1 + 1 + 1 + 1 + 1 + 1 + 1) = False ∧ (b4 = H.n + 1 + 1 + 1 + 1 + 1 + 1 + 1 + 1) = False ∧ (b4 = H.n + 1 + 1 + 1 + 1 + 1 + 1 + 1 + 1 + 1) = False ∧ (b4 = H.n + 1 + 1 + 1 + 1 + 1 + 1 + 1 + 1 + 1 + 1) = False ∧ (b4 = H.n + 1 + 1 + 1 + 1 + 1 + 1 + 1 + 1 + 1 + 1 + 1) = False ∧ (b4 = H.n + 1 + 1 + 1 + 1 + 1 + 1 + 1 + 1 + 1 + 1 + 1 + 1) = False := ⟨eq_false (by omega), eq_false (by omega), eq_false (by omega), eq_false (by omega), eq_false (by omega), eq_false (by omega), eq_false (by omega), eq_false (by omega), eq_false (by omega), eq_false (by omega), eq_false (by omega)⟩
  have hl0_b4 : b4 < H.n := by omega
  have hl1_b4 : b4 < H.n + 1 := by omega
  have hl2_b4 : b4 < H.n + 1 + 1 := by omega
  have hl3_b4 : b4 < H.n + 1 + 1 + 1 := by omega
  have hl4_b4 : b4 < H.n + 1 + 1 + 1 + 1 := by omega
  have hl5_b4 : b4 < H.n + 1 + 1 + 1 + 1 + 1 := by omega
  have hl6_b4 : b4 < H.n + 1 + 1 + 1 + 1 + 1 + 1 := by omega
  have hl7_b4 : b4 < H.n + 1 + 1 + 1 + 1 + 1 + 1 + 1 := by omega
  have hb_b6 : b6 < H.n := (hwf b6 _ hr_b6).1
  have hne_b6 : (b6 = H.n) = False := eq_false (by omega)
  have hne1_b6 : ∀ i, (b6 = H.n + i) = False := fun i => eq_false (by omega)
  have hne2_b6 : (b6 = H.n + 1 + 1) = False ∧ (b6 = H.n + 1 + 1 + 1) = False ∧ (b6 = H.n + 1 + 1 + 1 + 1) = False ∧ (b6 = H.n + 1 + 1 + 1 + 1 + 1) = False ∧ (b6 = H.n + 1 + 1 + 1 + 1 + 1 + 1) = False ∧ (b6 = H.n + 1 + 1 + 1 + 1 + 1 + 1 + 1) = False ∧ (b6 = H.n + 1 + 1 + 1 + 1 + 1 + 1 + 1 + 1) = False ∧ (b6 = H.n + 1 + 1 + 1 + 1 + 1 + 1 + 1 + 1 + 1) = False ∧ (b6 = H.n + 1 + 1 + 1 + 1 + 1 + 1 + 1 + 1 + 1 + 1) = False ∧ (b6 = H.n + 1 + 1 + 1 + 1 + 1 + 1 + 1 + 1 + 1 + 1 + 1) = False ∧ (b6 = H.n + 1 + 1 + 1 + 1 + 1 + 1 + 1 + 1 + 1 + 1 + 1 + 1) = False := ⟨eq_false (by omega), eq_false (by omega), eq_false (by omega), eq_false (by omega), eq_false (by omega), eq_false (by omega), eq_false (by omega), eq_false (by omega), eq_false (by omega), eq_false (by omega), eq_false (by omega)⟩
  have hl0_b6 : b6 < H.n := by omega
  have hl1_b6 : b6 < H.n + 1 := by omega
  have hl2_b6 : b6 < H.n + 1 + 1 := by omega
  have hl3_b6 : b6 < H.n + 1 + 1 + 1 := by omega
  have hl4_b6 : b6 < H.n + 1 + 1 + 1 + 1 := by omega
  have hl5_b6 : b6 < H.n + 1 + 1 + 1 + 1 + 1 := by omega
  have hl6_b6 : b6 < H.n + 1 + 1 + 1 + 1 + 1 + 1 := by omega
  have hl7_b6 : b6 < H.n + 1 + 1 + 1 + 1 + 1 + 1 + 1 := by omega
  have hpl2 := pcRes_len ps x
  have hpl3 : (pcRes ps x).1.length ≤ 16 := by
    unfold pcRes
    split
    · split
      · exact allM_len ps x
      · simp
    · simp
  cases ok with
  | false =>
    have C := ch_no hok
    have c1 := C.1
    simp (config := {contextual := true, implicitDefEqProofs := false, maxSteps := 2000000}) [-Int.not_le, -Int.not_lt, argsF, laws_FnChanges_t5, laws_FnChanges_t6, rowK, Enc.decL_map, hr_bl, hne_bl, hne1_bl, hne2_bl.1, hne2_bl.2.1, hne2_bl.2.2.1, hne2_bl.2.2.2.1, hne2_bl.2.2.2.2.1, hne2_bl.2.2.2.2.2.1, hne2_bl.2.2.2.2.2.2.1, hne2_bl.2.2.2.2.2.2.2.1, hne2_bl.2.2.2.2.2.2.2.2.1, hne2_bl.2.2.2.2.2.2.2.2.2.1, hne2_bl.2.2.2.2.2.2.2.2.2.2, hr_b4, hne_b4, hne1_b4, hne2_b4.1, hne2_b4.2.1, hne2_b4.2.2.1, hne2_b4.2.2.2.1, hne2_b4.2.2.2.2.1, hne2_b4.2.2.2.2.2.1, hne2_b4.2.2.2.2.2.2.1, hne2_b4.2.2.2.2.2.2.2.1, hne2_b4.2.2.2.2.2.2.2.2.1, hne2_b4.2.2.2.2.2.2.2.2.2.1, hne2_b4.2.2.2.2.2.2.2.2.2.2, hr_b6, hne_b6, hne1_b6, hne2_b6.1, hne2_b6.2.1, hne2_b6.2.2.1, hne2_b6.2.2.2.1, hne2_b6.2.2.2.2.1, hne2_b6.2.2.2.2.2.1, hne2_b6.2.2.2.2.2.2.1, hne2_b6.2.2.2.2.2.2.2.1, hne2_b6.2.2.2.2.2.2.2.2.1, hne2_b6.2.2.2.2.2.2.2.2.2.1, hne2_b6.2.2.2.2.2.2.2.2.2.2, c1, ite_self]
    exact laws_FnChanges_p7 hwf0 (by (repeat first | exact Sub.refl _ | refine Sub.push hwf0 ?_ _ | refine Sub.set hwf0 ?_ (by first | exact Nat.le_refl _ | omega | (simp only [push_n, set_n, kill_n]; omega)) _ | refine Sub.kill hwf0 ?_ (by first | exact Nat.le_refl _ | omega | (simp only [push_n, set_n, kill_n]; omega))); exact hs0) (by repeat first | exact hwf | refine WF.push ?_ (by first | exact plain_map (fun _ => rfl) _ | simp [AC.okR]) (by first | (simp; done) | (simp; omega))) h hok hpl (bl := bl) (b4 := b4) (b6 := b6) (by simp [push_b, rowK, Enc.decL_map, hr_bl, hne_bl, hne1_bl, hne2_bl.1, hne2_bl.2.1, hne2_bl.2.2.1, hne2_bl.2.2.2.1, hne2_bl.2.2.2.2.1, hne2_bl.2.2.2.2.2.1, hne2_bl.2.2.2.2.2.2.1, hne2_bl.2.2.2.2.2.2.2.1, hne2_bl.2.2.2.2.2.2.2.2.1, hne2_bl.2.2.2.2.2.2.2.2.2.1, hne2_bl.2.2.2.2.2.2.2.2.2.2, hr_b4, hne_b4, hne1_b4, hne2_b4.1, hne2_b4.2.1, hne2_b4.2.2.1, hne2_b4.2.2.2.1, hne2_b4.2.2.2.2.1, hne2_b4.2.2.2.2.2.1, hne2_b4.2.2.2.2.2.2.1, hne2_b4.2.2.2.2.2.2.2.1, hne2_b4.2.2.2.2.2.2.2.2.1, hne2_b4.2.2.2.2.2.2.2.2.2.1, hne2_b4.2.2.2.2.2.2.2.2.2.2, hr_b6, hne_b6, hne1_b6, hne2_b6.1, hne2_b6.2.1, hne2_b6.2.2.1, hne2_b6.2.2.2.1, hne2_b6.2.2.2.2.1, hne2_b6.2.2.2.2.2.1, hne2_b6.2.2.2.2.2.2.1, hne2_b6.2.2.2.2.2.2.2.1, hne2_b6.2.2.2.2.2.2.2.2.1, hne2_b6.2.2.2.2.2.2.2.2.2.1, hne2_b6.2.2.2.2.2.2.2.2.2.2]; done) (by omega) (by simp [push_b, rowK, Enc.decL_map, hr_bl, hne_bl, hne1_bl, hne2_bl.1, hne2_bl.2.1, hne2_bl.2.2.1, hne2_bl.2.2.2.1, hne2_bl.2.2.2.2.1, hne2_bl.2.2.2.2.2.1, hne2_bl.2.2.2.2.2.2.1, hne2_bl.2.2.2.2.2.2.2.1, hne2_bl.2.2.2.2.2.2.2.2.1, hne2_bl.2.2.2.2.2.2.2.2.2.1, hne2_bl.2.2.2.2.2.2.2.2.2.2, hr_b4, hne_b4, hne1_b4, hne2_b4.1, hne2_b4.2.1, hne2_b4.2.2.1, hne2_b4.2.2.2.1, hne2_b4.2.2.2.2.1, hne2_b4.2.2.2.2.2.1, hne2_b4.2.2.2.2.2.2.1, hne2_b4.2.2.2.2.2.2.2.1, hne2_b4.2.2.2.2.2.2.2.2.1, hne2_b4.2.2.2.2.2.2.2.2.2.1, hne2_b4.2.2.2.2.2.2.2.2.2.2, hr_b6, hne_b6, hne1_b6, hne2_b6.1, hne2_b6.2.1, hne2_b6.2.2.1, hne2_b6.2.2.2.1, hne2_b6.2.2.2.2.1, hne2_b6.2.2.2.2.2.1, hne2_b6.2.2.2.2.2.2.1, hne2_b6.2.2.2.2.2.2.2.1, hne2_b6.2.2.2.2.2.2.2.2.1, hne2_b6.2.2.2.2.2.2.2.2.2.1, hne2_b6.2.2.2.2.2.2.2.2.2.2]; done) (by omega) (by simp [push_b, rowK, Enc.decL_map, hr_bl, hne_bl, hne1_bl, hne2_bl.1, hne2_bl.2.1, hne2_bl.2.2.1, hne2_bl.2.2.2.1, hne2_bl.2.2.2.2.1, hne2_bl.2.2.2.2.2.1, hne2_bl.2.2.2.2.2.2.1, hne2_bl.2.2.2.2.2.2.2.1, hne2_bl.2.2.2.2.2.2.2.2.1, hne2_bl.2.2.2.2.2.2.2.2.2.1, hne2_bl.2.2.2.2.2.2.2.2.2.2, hr_b4, hne_b4, hne1_b4, hne2_b4.1, hne2_b4.2.1, hne2_b4.2.2.1, hne2_b4.2.2.2.1, hne2_b4.2.2.2.2.1, hne2_b4.2.2.2.2.2.1, hne2_b4.2.2.2.2.2.2.1, hne2_b4.2.2.2.2.2.2.2.1, hne2_b4.2.2.2.2.2.2.2.2.1, hne2_b4.2.2.2.2.2.2.2.2.2.1, hne2_b4.2.2.2.2.2.2.2.2.2.2, hr_b6, hne_b6, hne1_b6, hne2_b6.1, hne2_b6.2.1, hne2_b6.2.2.1, hne2_b6.2.2.2.1, hne2_b6.2.2.2.2.1, hne2_b6.2.2.2.2.2.1, hne2_b6.2.2.2.2.2.2.1, hne2_b6.2.2.2.2.2.2.2.1, hne2_b6.2.2.2.2.2.2.2.2.1, hne2_b6.2.2.2.2.2.2.2.2.2.1, hne2_b6.2.2.2.2.2.2.2.2.2.2]; done) (by omega) (ba := H.n) (by simp [push_b, rowK, c1]; done) (by omega) (by rw [c1]; rfl)
  | true =>
    have C := ch_ok hok
    have c1 := C.pcl
    have c2 := C.pcn
    clear C
    simp (config := {contextual := true, implicitDefEqProofs := false, maxSteps := 2000000}) [-Int.not_le, -Int.not_lt, argsF, laws_FnChanges_t5, laws_FnChanges_t6, rowK, Enc.decL_map, hr_bl, hne_bl, hne1_bl, hne2_bl.1, hne2_bl.2.1, hne2_bl.2.2.1, hne2_bl.2.2.2.1, hne2_bl.2.2.2.2.1, hne2_bl.2.2.2.2.2.1, hne2_bl.2.2.2.2.2.2.1, hne2_bl.2.2.2.2.2.2.2.1, hne2_bl.2.2.2.2.2.2.2.2.1, hne2_bl.2.2.2.2.2.2.2.2.2.1, hne2_bl.2.2.2.2.2.2.2.2.2.2, hr_b4, hne_b4, hne1_b4, hne2_b4.1, hne2_b4.2.1, hne2_b4.2.2.1, hne2_b4.2.2.2.1, hne2_b4.2.2.2.2.1, hne2_b4.2.2.2.2.2.1, hne2_b4.2.2.2.2.2.2.1, hne2_b4.2.2.2.2.2.2.2.1, hne2_b4.2.2.2.2.2.2.2.2.1, hne2_b4.2.2.2.2.2.2.2.2.2.1, hne2_b4.2.2.2.2.2.2.2.2.2.2, hr_b6, hne_b6, hne1_b6, hne2_b6.1, hne2_b6.2.1, hne2_b6.2.2.1, hne2_b6.2.2.2.1, hne2_b6.2.2.2.2.1, hne2_b6.2.2.2.2.2.1, hne2_b6.2.2.2.2.2.2.1, hne2_b6.2.2.2.2.2.2.2.1, hne2_b6.2.2.2.2.2.2.2.2.1, hne2_b6.2.2.2.2.2.2.2.2.2.1, hne2_b6.2.2.2.2.2.2.2.2.2.2, c1, c2, ite_self]
    exact laws_FnChanges_p7 hwf0 (by (repeat first | exact Sub.refl _ | refine Sub.push hwf0 ?_ _ | refine Sub.set hwf0 ?_ (by first | exact Nat.le_refl _ | omega | (simp only [push_n, set_n, kill_n]; omega)) _ | refine Sub.kill hwf0 ?_ (by first | exact Nat.le_refl _ | omega | (simp only [push_n, set_n, kill_n]; omega))); exact hs0) (by repeat first | exact hwf | refine WF.push ?_ (by first | exact plain_map (fun _ => rfl) _ | simp [AC.okR]) (by first | (simp; done) | (simp; omega))) h hok hpl (bl := bl) (b4 := b4) (b6 := b6) (by simp [push_b, rowK, Enc.decL_map, hr_bl, hne_bl, hne1_bl, hne2_bl.1, hne2_bl.2.1, hne2_bl.2.2.1, hne2_bl.2.2.2.1, hne2_bl.2.2.2.2.1, hne2_bl.2.2.2.2.2.1, hne2_bl.2.2.2.2.2.2.1, hne2_bl.2.2.2.2.2.2.2.1, hne2_bl.2.2.2.2.2.2.2.2.1, hne2_bl.2.2.2.2.2.2.2.2.2.1, hne2_bl.2.2.2.2.2.2.2.2.2.2, hr_b4, hne_b4, hne1_b4, hne2_b4.1, hne2_b4.2.1, hne2_b4.2.2.1, hne2_b4.2.2.2.1, hne2_b4.2.2.2.2.1, hne2_b4.2.2.2.2.2.1, hne2_b4.2.2.2.2.2.2.1, hne2_b4.2.2.2.2.2.2.2.1, hne2_b4.2.2.2.2.2.2.2.2.1, hne2_b4.2.2.2.2.2.2.2.2.2.1, hne2_b4.2.2.2.2.2.2.2.2.2.2, hr_b6, hne_b6, hne1_b6, hne2_b6.1, hne2_b6.2.1, hne2_b6.2.2.1, hne2_b6.2.2.2.1, hne2_b6.2.2.2.2.1, hne2_b6.2.2.2.2.2.1, hne2_b6.2.2.2.2.2.2.1, hne2_b6.2.2.2.2.2.2.2.1, hne2_b6.2.2.2.2.2.2.2.2.1, hne2_b6.2.2.2.2.2.2.2.2.2.1, hne2_b6.2.2.2.2.2.2.2.2.2.2]; done) (by omega) (by simp [push_b, rowK, Enc.decL_map, hr_bl, hne_bl, hne1_bl, hne2_bl.1, hne2_bl.2.1, hne2_bl.2.2.1, hne2_bl.2.2.2.1, hne2_bl.2.2.2.2.1, hne2_bl.2.2.2.2.2.1, hne2_bl.2.2.2.2.2.2.1, hne2_bl.2.2.2.2.2.2.2.1, hne2_bl.2.2.2.2.2.2.2.2.1, hne2_bl.2.2.2.2.2.2.2.2.2.1, hne2_bl.2.2.2.2.2.2.2.2.2.2, hr_b4, hne_b4, hne1_b4, hne2_b4.1, hne2_b4.2.1, hne2_b4.2.2.1, hne2_b4.2.2.2.1, hne2_b4.2.2.2.2.1, hne2_b4.2.2.2.2.2.1, hne2_b4.2.2.2.2.2.2.1, hne2_b4.2.2.2.2.2.2.2.1, hne2_b4.2.2.2.2.2.2.2.2.1, hne2_b4.2.2.2.2.2.2.2.2.2.1, hne2_b4.2.2.2.2.2.2.2.2.2.2, hr_b6, hne_b6, hne1_b6, hne2_b6.1, hne2_b6.2.1, hne2_b6.2.2.1, hne2_b6.2.2.2.1, hne2_b6.2.2.2.2.1, hne2_b6.2.2.2.2.2.1, hne2_b6.2.2.2.2.2.2.1, hne2_b6.2.2.2.2.2.2.2.1, hne2_b6.2.2.2.2.2.2.2.2.1, hne2_b6.2.2.2.2.2.2.2.2.2.1, hne2_b6.2.2.2.2.2.2.2.2.2.2]; done) (by omega) (by simp [push_b, rowK, Enc.decL_map, hr_bl, hne_bl, hne1_bl, hne2_bl.1, hne2_bl.2.1, hne2_bl.2.2.1, hne2_bl.2.2.2.1, hne2_bl.2.2.2.2.1, hne2_bl.2.2.2.2.2.1, hne2_bl.2.2.2.2.2.2.1, hne2_bl.2.2.2.2.2.2.2.1, hne2_bl.2.2.2.2.2.2.2.2.1, hne2_bl.2.2.2.2.2.2.2.2.2.1, hne2_bl.2.2.2.2.2.2.2.2.2.2, hr_b4, hne_b4, hne1_b4, hne2_b4.1, hne2_b4.2.1, hne2_b4.2.2.1, hne2_b4.2.2.2.1, hne2_b4.2.2.2.2.1, hne2_b4.2.2.2.2.2.1, hne2_b4.2.2.2.2.2.2.1, hne2_b4.2.2.2.2.2.2.2.1, hne2_b4.2.2.2.2.2.2.2.2.1, hne2_b4.2.2.2.2.2.2.2.2.2.1, hne2_b4.2.2.2.2.2.2.2.2.2.2, hr_b6, hne_b6, hne1_b6, hne2_b6.1, hne2_b6.2.1, hne2_b6.2.2.1, hne2_b6.2.2.2.1, hne2_b6.2.2.2.2.1, hne2_b6.2.2.2.2.2.1, hne2_b6.2.2.2.2.2.2.1, hne2_b6.2.2.2.2.2.2.2.1, hne2_b6.2.2.2.2.2.2.2.2.1, hne2_b6.2.2.2.2.2.2.2.2.2.1, hne2_b6.2.2.2.2.2.2.2.2.2.2]; done) (by omega) (ba := H.n) (by simp [push_b, rowK]; done) (by omega) rfl

theorem laws_FnChanges_p3 {H0 H : AHeap} {K : AV → AHeap → Prop} (hwf0 : H0.WF) (hs0 : Sub H0 H) (hwf : H.WF) (h : K (.c (.bool true)) H0) {bl : Nat} {b4 : Nat} {ps : List Ra} {x : Cv} (hpl : ps.length ≤ 40) (hr_bl : H.b bl = some (rowK eRa 122 ps)) (hx_bl : H0.n ≤ bl) (hr_b4 : H.b b4 = some (rowK eCv 27 [x])) (hx_b4 : H0.n ≤ b4) {F : AFrame} (hF : F.keep [3, 4] = [(3, .c (.sl (bl) (0) (ps.length))), (4, .c (.ptr b4 0 0))]) : avc Try.prog [(8, q_rBig), (26, q_DIe), (27, q_Least), (28, q_Least), (29, q_Possible), (30, q_Possible), (16, q_rInts), (31, q_IsEx), (32, q_IsEx), (33, q_MakeCover), (34, q_Cheap), (35, q_rHas), (36, q_Needed), (37, q_Needed)] 247 H0.n laws_FnChanges_t3 F H (endK Try.prog H0.n [.tmp 2] K) := by
  refine (show avc _ _ _ _ _ _ _ _ = _ from avc_cut _ _).mpr ?_
  rw [hF]
  have hE := soundE_cons laws_vBig_s (soundE_cons spec_DrawLeastChange_s (soundE_cons impl_LeastChange_s (soundE_cons spec_LeastChange_s (soundE_cons impl_PossibleChanges_s (soundE_cons spec_PossibleChanges_s (soundE_cons laws_vInts_s (soundE_cons impl_IsExplained_s (soundE_cons spec_IsExplained_s (soundE_cons impl_MakeCover_s (soundE_cons impl_CheapestChange_s (soundE_cons laws_vHas_s (soundE_cons impl_NeededChanges_s (soundE_cons spec_NeededChanges_s (soundE_nil (P := Try.prog)))))))))))))))
  have hn0 : H0.n ≤ H.n := hs0.1.1
  have hb_bl : bl < H.n := (hwf bl _ hr_bl).1
  have hne_bl : (bl = H.n) = False := eq_false (by omega)
  have hne1_bl : ∀ i, (bl = H.n + i) = False := fun i => eq_false (by omega)
  have hne2_bl : (bl = H.n + 1 + 1) = False ∧ (bl = H.n + 1 + 1 + 1) = False ∧ (bl = H.n + 1 + 1 + 1 + 1) = False ∧ (bl = H.n + 1 + 1 + 1 + 1 + 1) = False ∧ (bl = H.n + 1 + 1 + 1 + 1 + 1 + 1) = False ∧ (bl = H.n + 1 + 1 + 1 + 1 + 1 + 1 + 1) = False ∧ (bl = H.n + 1 + 1 + 1 + 1 + 1 + 1 + 1 + 1) = False ∧ (bl = H.n + 1 + 1 + 1 + 1 + 1 + 1 + 1 + 1 + 1) = False ∧ (bl = H.n + 1 + 1 + 1 + 1 + 1 + 1 + 1 + 1 + 1 + 1) = False ∧ (bl = H.n + 1 + 1 + 1 + 1 + 1 + 1 + 1 + 1 + 1 + 1 + 1) = False ∧ (bl = H.n + 1 + 1 + 1 + 1 + 1 + 1 + 1 + 1 + 1 + 1 + 1 + 1) = False := ⟨eq_false (by omega), eq_false (by omega), eq_false (by omega), eq_false (by omega), eq_false (by omega), eq_false (by omega), eq_false (by omega), eq_false (by omega), eq_false (by omega), eq_false (by omega), eq_false (by omega)⟩
  have hl0_bl : bl < H.n := by omega
  have hl1_bl : bl < H.n + 1 := by omega
  have hl2_bl : bl < H.n + 1 + 1 := by omega
  have hl3_bl : bl < H.n + 1 + 1 + 1 := by omega
  have hl4_bl : bl < H.n + 1 + 1 + 1 + 1 := by omega
  have hl5_bl : bl < H.n + 1 + 1 + 1 + 1 + 1 := by omega
  have hl6_bl : bl < H.n + 1 + 1 + 1 + 1 + 1 + 1 := by omega
  have hl7_bl : bl < H.n + 1 + 1 + 1 + 1 + 1 + 1 + 1 := by omega
  have hb_b4 : b4 < H.n := (hwf b4 _ hr_b4).1
  have hne_b4 : (b4 = H.n) = False := eq_false (by omega)
  have hne1_b4 : ∀ i, (b4 = H.n + i) = False := fun i => eq_false (by omega)
  have hne2_b4 : (b4 = H.n + 1 + 1) = False ∧ (b4 = H.n + 1 + 1 + 1) = False ∧ (b4 = H.n + 1 + 1 + 1 + 1) = False ∧ (b4 = H.n + 1 + 1 + 1 + 1 + 1) = False ∧ (b4 = H.n + 1 + 1 + 1 + 1 + 1 + 1) = False ∧ (b4 = H.n + 1 + 1 + 1 + 1 + 1 + 1 + 1) = False ∧ (b4 = H.n + 1 + 1 + 1 + 1 + 1 + 1 + 1 + 1) = False ∧ (b4 = H.n + 1 + 1 + 1 + 1 + 1 + 1 + 1 + 1 + 1) = False ∧ (b4 = H.n + 1 + 1 + 1 + 1 + 1 + 1 + 1 + 1 + 1 + 1) = False ∧ (b4 = H.n + 1 + 1 + 1 + 1 + 1 + 1 + 1 + 1 + 1 + 1 + 1) = False ∧ (b4 = H.n + 1 + 1 + 1 + 1 + 1 + 1 + 1 + 1 + 1 + 1 + 1 + 1) = False := ⟨eq_false (by omega), eq_false (by omega), eq_false (by omega), eq_false (by omega), eq_false (by omega), eq_false (by omega), eq_false (by omega), eq_false (by omega), eq_false (by omega), eq_false (by omega), eq_false (by omega)⟩
  have hl0_b4 : b4 < H.n := by omega
  have hl1_b4 : b4 < H.n + 1 := by omega
  have hl2_b4 : b4 < H.n + 1 + 1 := by omega
  have hl3_b4 : b4 < H.n + 1 + 1 + 1 := by omega
  have hl4_b4 : b4 < H.n + 1 + 1 + 1 + 1 := by omega
  have hl5_b4 : b4 < H.n + 1 + 1 + 1 + 1 + 1 := by omega
  have hl6_b4 : b4 < H.n + 1 + 1 + 1 + 1 + 1 + 1 := by omega
  have hl7_b4 : b4 < H.n + 1 + 1 + 1 + 1 + 1 + 1 + 1 := by omega
  simp (config := {contextual := true, implicitDefEqProofs := false, maxSteps := 2000000}) [-Int.not_le, -Int.not_lt, argsF, laws_FnChanges_t3, laws_FnChanges_t4, rowK, Enc.decL_map, hr_bl, hne_bl, hne1_bl, hne2_bl.1, hne2_bl.2.1, hne2_bl.2.2.1, hne2_bl.2.2.2.1, hne2_bl.2.2.2.2.1, hne2_bl.2.2.2.2.2.1, hne2_bl.2.2.2.2.2.2.1, hne2_bl.2.2.2.2.2.2.2.1, hne2_bl.2.2.2.2.2.2.2.2.1, hne2_bl.2.2.2.2.2.2.2.2.2.1, hne2_bl.2.2.2.2.2.2.2.2.2.2, hr_b4, hne_b4, hne1_b4, hne2_b4.1, hne2_b4.2.1, hne2_b4.2.2.1, hne2_b4.2.2.2.1, hne2_b4.2.2.2.2.1, hne2_b4.2.2.2.2.2.1, hne2_b4.2.2.2.2.2.2.1, hne2_b4.2.2.2.2.2.2.2.1, hne2_b4.2.2.2.2.2.2.2.2.1, hne2_b4.2.2.2.2.2.2.2.2.2.1, hne2_b4.2.2.2.2.2.2.2.2.2.2, push_setE, ite_self]
  exact laws_FnChanges_p5 hwf0 (by (repeat first | exact Sub.refl _ | refine Sub.push hwf0 ?_ _ | refine Sub.set hwf0 ?_ (by first | exact Nat.le_refl _ | omega | (simp only [push_n, set_n, kill_n]; omega)) _ | refine Sub.kill hwf0 ?_ (by first | exact Nat.le_refl _ | omega | (simp only [push_n, set_n, kill_n]; omega))); exact hs0) (by repeat first | exact hwf | refine WF.push ?_ (by first | exact plain_map (fun _ => rfl) _ | simp [AC.okR]) (by first | (simp; done) | (simp; omega))) h rfl hpl (bl := bl) (b4 := b4) (by simp [push_b, rowK, Enc.decL_map, hr_bl, hne_bl, hne1_bl, hne2_bl.1, hne2_bl.2.1, hne2_bl.2.2.1, hne2_bl.2.2.2.1, hne2_bl.2.2.2.2.1, hne2_bl.2.2.2.2.2.1, hne2_bl.2.2.2.2.2.2.1, hne2_bl.2.2.2.2.2.2.2.1, hne2_bl.2.2.2.2.2.2.2.2.1, hne2_bl.2.2.2.2.2.2.2.2.2.1, hne2_bl.2.2.2.2.2.2.2.2.2.2, hr_b4, hne_b4, hne1_b4, hne2_b4.1, hne2_b4.2.1, hne2_b4.2.2.1, hne2_b4.2.2.2.1, hne2_b4.2.2.2.2.1, hne2_b4.2.2.2.2.2.1, hne2_b4.2.2.2.2.2.2.1, hne2_b4.2.2.2.2.2.2.2.1, hne2_b4.2.2.2.2.2.2.2.2.1, hne2_b4.2.2.2.2.2.2.2.2.2.1, hne2_b4.2.2.2.2.2.2.2.2.2.2]; done) (by omega) (by simp [push_b, rowK, Enc.decL_map, hr_bl, hne_bl, hne1_bl, hne2_bl.1, hne2_bl.2.1, hne2_bl.2.2.1, hne2_bl.2.2.2.1, hne2_bl.2.2.2.2.1, hne2_bl.2.2.2.2.2.1, hne2_bl.2.2.2.2.2.2.1, hne2_bl.2.2.2.2.2.2.2.1, hne2_bl.2.2.2.2.2.2.2.2.1, hne2_bl.2.2.2.2.2.2.2.2.2.1, hne2_bl.2.2.2.2.2.2.2.2.2.2, hr_b4, hne_b4, hne1_b4, hne2_b4.1, hne2_b4.2.1, hne2_b4.2.2.1, hne2_b4.2.2.2.1, hne2_b4.2.2.2.2.1, hne2_b4.2.2.2.2.2.1, hne2_b4.2.2.2.2.2.2.1, hne2_b4.2.2.2.2.2.2.2.1, hne2_b4.2.2.2.2.2.2.2.2.1, hne2_b4.2.2.2.2.2.2.2.2.2.1, hne2_b4.2.2.2.2.2.2.2.2.2.2]; done) (by omega) (b6 := H.n) (by simp [push_b, rowK]; done) (by omega) rfl

theorem laws_FnChanges_s : Sound Try.prog 4 q_tFnChanges := by
  intro args H K h
  unfold q_tFnChanges at h
  split at h
  rotate_left
  all_goals first | exact False.elim h | skip
  rename_i code_v
  have h1 := Enc.rd_at h
  clear h
  obtain ⟨b_code, i_code, k_code, code, rfl, hat_code, h⟩ := h1
  have hE := soundE_cons laws_vBig_s (soundE_cons spec_DrawLeastChange_s (soundE_cons impl_LeastChange_s (soundE_cons spec_LeastChange_s (soundE_cons impl_PossibleChanges_s (soundE_cons spec_PossibleChanges_s (soundE_cons laws_vInts_s (soundE_cons impl_IsExplained_s (soundE_cons spec_IsExplained_s (soundE_cons impl_MakeCover_s (soundE_cons impl_CheapestChange_s (soundE_cons laws_vHas_s (soundE_cons impl_NeededChanges_s (soundE_cons spec_NeededChanges_s (soundE_nil (P := Try.prog)))))))))))))))
  refine acalls_fn laws_FnChanges_k hE ⟨by simp, fun hwf => ?_⟩
  have hb_code : b_code < H.n := (hwf b_code k_code hat_code.blk).1
  have hne_code : (b_code = H.n) = False := eq_false (by omega)
  have hne1_code : ∀ i, (b_code = H.n + i) = False := fun i => eq_false (by omega)
  have hne2_code : (b_code = H.n + 1 + 1) = False ∧ (b_code = H.n + 1 + 1 + 1) = False ∧ (b_code = H.n + 1 + 1 + 1 + 1) = False ∧ (b_code = H.n + 1 + 1 + 1 + 1 + 1) = False ∧ (b_code = H.n + 1 + 1 + 1 + 1 + 1 + 1) = False ∧ (b_code = H.n + 1 + 1 + 1 + 1 + 1 + 1 + 1) = False ∧ (b_code = H.n + 1 + 1 + 1 + 1 + 1 + 1 + 1 + 1) = False ∧ (b_code = H.n + 1 + 1 + 1 + 1 + 1 + 1 + 1 + 1 + 1) = False ∧ (b_code = H.n + 1 + 1 + 1 + 1 + 1 + 1 + 1 + 1 + 1 + 1) = False ∧ (b_code = H.n + 1 + 1 + 1 + 1 + 1 + 1 + 1 + 1 + 1 + 1 + 1) = False ∧ (b_code = H.n + 1 + 1 + 1 + 1 + 1 + 1 + 1 + 1 + 1 + 1 + 1 + 1) = False := ⟨eq_false (by omega), eq_false (by omega), eq_false (by omega), eq_false (by omega), eq_false (by omega), eq_false (by omega), eq_false (by omega), eq_false (by omega), eq_false (by omega), eq_false (by omega), eq_false (by omega)⟩
  have hmx_code : code.length ≤ 9223372036854775807 := by have h1 := (hwf b_code k_code hat_code.blk).2.2; have h2 := hat_code.len; omega
  by_cases hbig : 65536 < code.length
  · simp (config := {contextual := true, implicitDefEqProofs := false, maxSteps := 2000000}) [-Int.not_le, -Int.not_lt, argsF, laws_FnChanges_c, laws_FnChanges_t1, hat_code.blk, hat_code.esz, hat_code.len, hat_code.els, hne_code, hne1_code, hne2_code.1, hne2_code.2.1, hne2_code.2.2.1, hne2_code.2.2.2.1, hne2_code.2.2.2.2.1, hne2_code.2.2.2.2.2.1, hne2_code.2.2.2.2.2.2.1, hne2_code.2.2.2.2.2.2.2.1, hne2_code.2.2.2.2.2.2.2.2.1, hne2_code.2.2.2.2.2.2.2.2.2.1, hne2_code.2.2.2.2.2.2.2.2.2.2, Enc.decL_map, hbig]
    (refine Out.plain hwf ?_ rfl ?_; (repeat first | exact Sub.refl _ | refine Sub.push hwf ?_ _ | refine Sub.set hwf ?_ (by first | exact Nat.le_refl _ | omega | (simp only [push_n, set_n, kill_n]; omega)) _ | refine Sub.kill hwf ?_ (by first | exact Nat.le_refl _ | omega | (simp only [push_n, set_n, kill_n]; omega)))); exact h
  have hcl : code.length ≤ 65536 := by omega
  simp (config := {contextual := true, implicitDefEqProofs := false, maxSteps := 2000000}) [-Int.not_le, -Int.not_lt, argsF, laws_FnChanges_c, laws_FnChanges_t1, laws_FnChanges_t2, hat_code.blk, hat_code.esz, hat_code.len, hat_code.els, hne_code, hne1_code, hne2_code.1, hne2_code.2.1, hne2_code.2.2.1, hne2_code.2.2.2.1, hne2_code.2.2.2.2.1, hne2_code.2.2.2.2.2.1, hne2_code.2.2.2.2.2.2.1, hne2_code.2.2.2.2.2.2.2.1, hne2_code.2.2.2.2.2.2.2.2.1, hne2_code.2.2.2.2.2.2.2.2.2.1, hne2_code.2.2.2.2.2.2.2.2.2.2, Enc.decL_map, hbig, hcl]
  refine Stop.mk fun ps x hpl => ?_
  simp (config := {contextual := true, implicitDefEqProofs := false, maxSteps := 2000000}) [-Int.not_le, -Int.not_lt, argsF, laws_FnChanges_t2, hat_code.blk, hat_code.esz, hat_code.len, hat_code.els, hne_code, hne1_code, hne2_code.1, hne2_code.2.1, hne2_code.2.2.1, hne2_code.2.2.2.1, hne2_code.2.2.2.2.1, hne2_code.2.2.2.2.2.1, hne2_code.2.2.2.2.2.2.1, hne2_code.2.2.2.2.2.2.2.1, hne2_code.2.2.2.2.2.2.2.2.1, hne2_code.2.2.2.2.2.2.2.2.2.1, hne2_code.2.2.2.2.2.2.2.2.2.2, rowK, push_setE]
  exact laws_FnChanges_p3 hwf (by (repeat first | exact Sub.refl _ | refine Sub.push hwf ?_ _ | refine Sub.set hwf ?_ (by first | exact Nat.le_refl _ | omega | (simp only [push_n, set_n, kill_n]; omega)) _ | refine Sub.kill hwf ?_ (by first | exact Nat.le_refl _ | omega | (simp only [push_n, set_n, kill_n]; omega)))) (by repeat first | exact hwf | refine WF.push ?_ (by first | exact plain_map (fun _ => rfl) _ | simp [AC.okR]) (by first | (simp; done) | (simp; omega))) h hpl (ps := ps) (x := x) (bl := H.n) (b4 := H.n + 1) (by simp [push_b, rowK]; done) (by omega) (by simp [push_b, rowK]; done) (by omega) rfl

end Go.Proofs.Ytjiffkjeijfilaa
