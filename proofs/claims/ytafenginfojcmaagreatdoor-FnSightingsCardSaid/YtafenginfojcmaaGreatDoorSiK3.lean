/- The law on sightings: its walk, the end. The law on sightings: its walk, the traits. The law on sightings: its walk, the doubtful pairs and the start. -/
import Derived.Test.YtafenginfojcmaaGreatDoorSiDs
import Derived.Test.YtafenginfojcmaaGreatDoorSiTx
import Derived.Test.YtafenginfojcmaaGreatDoorSiFp
import Derived.Test.YtafenginfojcmaaGreatDoorSiC2
import Derived.Test.YtafenginfojcmaaGreatDoorSiY
set_option maxRecDepth 8000
set_option linter.unusedSimpArgs false
set_option linter.unusedVariables false
namespace Go.Proofs.YtafenginfojcmaaGreatDoor
open Go Go.RowKit

set_option maxHeartbeats 4000000

def q_tFnSightings : Con := fun args H K => match args with
  | [code_v] => eU.rd H (fun code => (∀ w, H.I w → tabI w) ∧ K (.c (.bool (true))) H) code_v
  | _ => False
@[simp ↓] theorem q_tFnSightings_eq (code_v : AV) (H : AHeap) (K : AV → AHeap → Prop) : q_tFnSightings [code_v] H K = (eU.rd H (fun code => (∀ w, H.I w → tabI w) ∧ K (.c (.bool (true))) H) code_v) := rfl

theorem adRes_ok {ps : List Si} {y : Int} {t : List UInt8} {tr : List Int} (h2 : ∀ p ∈ ps, p.traits.length ≤ 1048576 ∧ p.town.length ≤ 9223372036854775807) (ht : t.length ≤ 9223372036854775807) (hr : tr.length ≤ 1048576) : ∀ p ∈ (adRes ps y t tr).1, p.town.length ≤ 9223372036854775807 := by
  unfold adRes
  split
  · split
    · intro p hp
      unfold adOut at hp
      rcases List.mem_append.1 hp with hp | hp
      · exact (h2 p hp).2
      · rw [List.mem_singleton.1 hp]; exact ht
    · intro p hp; cases hp
  · intro p hp; cases hp

theorem laws_FnSightings_p20 {H0 H : AHeap} {K : AV → AHeap → Prop} (hwf0 : H0.WF) (hs0 : Sub H0 H) (hwf : H.WF) (h : K (.c (.bool true)) H0) {b_A i_A : Nat} {k_A : ABlk} {A : List Si} (hat_A : eSi.At H b_A i_A k_A A) {b_B i_B : Nat} {k_B : ABlk} {B : List Si} (hat_B : eSi.At H b_B i_B k_B B) {n : Int} {o : Bool} (hAB : A = B) (hI0 : ∀ w, H0.I w → tabI w) {pb bq : Nat} {kq : ABlk} {p : Si} (hpb : H.b pb = some ⟨32, 4, false, false, [siCells bq p]⟩) (hq : eI.At H bq 0 kq p.traits) (htw : p.town.length ≤ 100) {F : AFrame} (hF : F.keep [44, 45, 46, 47, 48, 49, 50] = [(44, .c (.sl b_A i_A A.length)), (45, .c (.int .i64 (n))), (46, .c (.bool (o))), (47, .c (.sl b_B i_B B.length)), (48, .c (.int .i64 (n))), (49, .c (.bool (o))), (50, .c (.ptr pb 0 0))]) : avc Tryz.prog [(4, q_rBig), (5, q_DAr), (6, q_sp), (7, q_sp), (8, q_evOf), (9, q_DCv), (10, q_dp), (11, q_dp), (12, q_eqII), (13, q_DTr), (14, q_tr), (15, q_tr), (16, q_rInts), (17, q_ys), (18, q_ys), (19, q_rHas), (20, q_DAd), (21, q_ad), (22, q_ad), (23, q_DSt), (24, q_st), (25, q_st), (26, q_eqSis)] 368 H0.n laws_FnSightings_t20 F H (endK Tryz.prog H0.n [.tmp 2] K) := by
  refine (show avc _ _ _ _ _ _ _ _ = _ from avc_cut _ _).mpr ?_
  rw [hF]
  have hE := soundE_cons laws_rBig_s (soundE_cons spec_DrawStrongestPair_s (soundE_cons impl_StrongestPair_s (soundE_cons spec_StrongestPair_s (soundE_cons impl_EvidenceOf_s (soundE_cons spec_DrawDoubtfulPairs_s (soundE_cons impl_DoubtfulPairs_s (soundE_cons spec_DoubtfulPairs_s (soundE_cons laws_rTable_s (soundE_cons spec_DrawTraitsSeen_s (soundE_cons impl_TraitsSeen_s (soundE_cons spec_TraitsSeen_s (soundE_cons laws_rInts_s (soundE_cons impl_YearsSeen_s (soundE_cons spec_YearsSeen_s (soundE_cons laws_rHas_s (soundE_cons spec_DrawAddSighting_s (soundE_cons impl_AddSighting_s (soundE_cons spec_AddSighting_s (soundE_cons spec_DrawSightingText_s (soundE_cons impl_SightingText_s (soundE_cons spec_SightingText_s (soundE_cons laws_rSightings_s (soundE_nil (P := Tryz.prog))))))))))))))))))))))))
  have hn0 : H0.n ≤ H.n := hs0.1.1
  obtain ⟨hsr, hsp, hst, hss, hsk⟩ := hs_of hwf
  have hon_A := hat_A.on
  have hb_A : b_A < H.n := (hwf b_A k_A hat_A.blk).1
  have hne_A : (b_A = H.n) = False := eq_false (by omega)
  have hne1_A : ∀ i, (b_A = H.n + i) = False := fun i => eq_false (by omega)
  have hne2_A := ne2_of (a := b_A) (b := H.n) (by omega)
  have hl0_A : b_A < H.n := by omega
  have hl1_A : b_A < H.n + 1 := by omega
  have hl2_A : b_A < H.n + 1 + 1 := by omega
  have hl3_A : b_A < H.n + 1 + 1 + 1 := by omega
  have hl4_A : b_A < H.n + 1 + 1 + 1 + 1 := by omega
  have hl5_A : b_A < H.n + 1 + 1 + 1 + 1 + 1 := by omega
  have hl6_A : b_A < H.n + 1 + 1 + 1 + 1 + 1 + 1 := by omega
  have hl7_A : b_A < H.n + 1 + 1 + 1 + 1 + 1 + 1 + 1 := by omega
  have hon_B := hat_B.on
  have hb_B : b_B < H.n := (hwf b_B k_B hat_B.blk).1
  have hne_B : (b_B = H.n) = False := eq_false (by omega)
  have hne1_B : ∀ i, (b_B = H.n + i) = False := fun i => eq_false (by omega)
  have hne2_B := ne2_of (a := b_B) (b := H.n) (by omega)
  have hl0_B : b_B < H.n := by omega
  have hl1_B : b_B < H.n + 1 := by omega
  have hl2_B : b_B < H.n + 1 + 1 := by omega
  have hl3_B : b_B < H.n + 1 + 1 + 1 := by omega
  have hl4_B : b_B < H.n + 1 + 1 + 1 + 1 := by omega
  have hl5_B : b_B < H.n + 1 + 1 + 1 + 1 + 1 := by omega
  have hl6_B : b_B < H.n + 1 + 1 + 1 + 1 + 1 + 1 := by omega
  have hl7_B : b_B < H.n + 1 + 1 + 1 + 1 + 1 + 1 + 1 := by omega
  have hI : ∀ w, H.I w → tabI w := by rw [← hs0.2]; exact hI0
  subst hAB
  have hcp : siCells bq p = [.int .i64 p.id, .int .i64 p.year, .str p.town, .sl bq 0 p.traits.length] := rfl
  have htw2 : p.town.length ≤ 9223372036854775807 := by omega
  have hql := hq.len
  have hqe := hq.els
  simp only [Nat.zero_add, List.drop_zero] at hql hqe
  rw [hcp] at hpb
  simp (config := {contextual := true, implicitDefEqProofs := false, maxSteps := 2000000}) [-Int.not_le, -Int.not_lt, argsF, laws_FnSightings_t20, laws_FnSightings_t21, laws_FnSightings_t22, hpb, hI, hat_A.blk, hat_A.esz, hat_A.len, hon_A, hne_A, hne1_A, hne2_A, hat_B.blk, hat_B.esz, hat_B.len, hon_B, hne_B, hne1_B, hne2_B, hsr, hsp, hst, hss, hsk, htw2, hq.blk, hq.esz, hql, hqe, Enc.decL_map]
  (refine Out.plain hwf0 ?_ rfl ?_; (repeat first | exact Sub.refl _ | refine Sub.push hwf0 ?_ _ | refine Sub.set hwf0 ?_ (by first | exact Nat.le_refl _ | omega | (simp only [push_n, set_n, kill_n]; omega)) _ | refine Sub.kill hwf0 ?_ (by first | exact Nat.le_refl _ | omega | (simp only [push_n, set_n, kill_n]; omega))); exact hs0)
  exact h

theorem laws_FnSightings_p19 {H0 H : AHeap} {K : AV → AHeap → Prop} {b_code i_code : Nat} {k_code : ABlk} {code : List UInt8} (hwf0 : H0.WF) (hs0 : Sub H0 H) (hwf : H.WF) (hat0_code : eU.At H0 b_code i_code k_code code) (h : K (.c (.bool true)) H0) {b_A i_A : Nat} {k_A : ABlk} {A : List Si} (hat_A : eSi.At H b_A i_A k_A A) {b_B i_B : Nat} {k_B : ABlk} {B : List Si} (hat_B : eSi.At H b_B i_B k_B B) {n : Int} {o : Bool} (hAB : A = B) (hcl : code.length ≤ 65536) (hI0 : ∀ w, H0.I w → tabI w)  {F : AFrame} (hF : F.keep [0, 44, 45, 46, 47, 48, 49] = [(0, .c (.sl b_code i_code code.length)), (44, .c (.sl b_A i_A A.length)), (45, .c (.int .i64 (n))), (46, .c (.bool (o))), (47, .c (.sl b_B i_B B.length)), (48, .c (.int .i64 (n))), (49, .c (.bool (o)))]) : avc Tryz.prog [(4, q_rBig), (5, q_DAr), (6, q_sp), (7, q_sp), (8, q_evOf), (9, q_DCv), (10, q_dp), (11, q_dp), (12, q_eqII), (13, q_DTr), (14, q_tr), (15, q_tr), (16, q_rInts), (17, q_ys), (18, q_ys), (19, q_rHas), (20, q_DAd), (21, q_ad), (22, q_ad), (23, q_DSt), (24, q_st), (25, q_st), (26, q_eqSis)] 368 H0.n laws_FnSightings_t19 F H (endK Tryz.prog H0.n [.tmp 2] K) := by
  refine (show avc _ _ _ _ _ _ _ _ = _ from avc_cut _ _).mpr ?_
  rw [hF]
  have hat_code : eU.At H b_code i_code k_code code := ⟨hs0.1.2 _ _ hat0_code.blk, hat0_code.esz, hat0_code.len, hat0_code.els⟩
  have hE := soundE_cons laws_rBig_s (soundE_cons spec_DrawStrongestPair_s (soundE_cons impl_StrongestPair_s (soundE_cons spec_StrongestPair_s (soundE_cons impl_EvidenceOf_s (soundE_cons spec_DrawDoubtfulPairs_s (soundE_cons impl_DoubtfulPairs_s (soundE_cons spec_DoubtfulPairs_s (soundE_cons laws_rTable_s (soundE_cons spec_DrawTraitsSeen_s (soundE_cons impl_TraitsSeen_s (soundE_cons spec_TraitsSeen_s (soundE_cons laws_rInts_s (soundE_cons impl_YearsSeen_s (soundE_cons spec_YearsSeen_s (soundE_cons laws_rHas_s (soundE_cons spec_DrawAddSighting_s (soundE_cons impl_AddSighting_s (soundE_cons spec_AddSighting_s (soundE_cons spec_DrawSightingText_s (soundE_cons impl_SightingText_s (soundE_cons spec_SightingText_s (soundE_cons laws_rSightings_s (soundE_nil (P := Tryz.prog))))))))))))))))))))))))
  have hn0 : H0.n ≤ H.n := hs0.1.1
  have hb_code : b_code < H.n := (hwf b_code k_code hat_code.blk).1
  have hne_code : (b_code = H.n) = False := eq_false (by omega)
  have hne1_code : ∀ i, (b_code = H.n + i) = False := fun i => eq_false (by omega)
  have hne2_code := ne2_of (a := b_code) (b := H.n) (by omega)
  have hmx_code : code.length ≤ 9223372036854775807 := by have h1 := (hwf b_code k_code hat_code.blk).2.2; have h2 := hat_code.len; omega
  have hl0_code : b_code < H.n := by omega
  have hl1_code : b_code < H.n + 1 := by omega
  have hl2_code : b_code < H.n + 1 + 1 := by omega
  have hl3_code : b_code < H.n + 1 + 1 + 1 := by omega
  have hl4_code : b_code < H.n + 1 + 1 + 1 + 1 := by omega
  have hl5_code : b_code < H.n + 1 + 1 + 1 + 1 + 1 := by omega
  have hl6_code : b_code < H.n + 1 + 1 + 1 + 1 + 1 + 1 := by omega
  have hl7_code : b_code < H.n + 1 + 1 + 1 + 1 + 1 + 1 + 1 := by omega
  obtain ⟨hsr, hsp, hst, hss, hsk⟩ := hs_of hwf
  have hon_A := hat_A.on
  have hb_A : b_A < H.n := (hwf b_A k_A hat_A.blk).1
  have hne_A : (b_A = H.n) = False := eq_false (by omega)
  have hne1_A : ∀ i, (b_A = H.n + i) = False := fun i => eq_false (by omega)
  have hne2_A := ne2_of (a := b_A) (b := H.n) (by omega)
  have hl0_A : b_A < H.n := by omega
  have hl1_A : b_A < H.n + 1 := by omega
  have hl2_A : b_A < H.n + 1 + 1 := by omega
  have hl3_A : b_A < H.n + 1 + 1 + 1 := by omega
  have hl4_A : b_A < H.n + 1 + 1 + 1 + 1 := by omega
  have hl5_A : b_A < H.n + 1 + 1 + 1 + 1 + 1 := by omega
  have hl6_A : b_A < H.n + 1 + 1 + 1 + 1 + 1 + 1 := by omega
  have hl7_A : b_A < H.n + 1 + 1 + 1 + 1 + 1 + 1 + 1 := by omega
  have hon_B := hat_B.on
  have hb_B : b_B < H.n := (hwf b_B k_B hat_B.blk).1
  have hne_B : (b_B = H.n) = False := eq_false (by omega)
  have hne1_B : ∀ i, (b_B = H.n + i) = False := fun i => eq_false (by omega)
  have hne2_B := ne2_of (a := b_B) (b := H.n) (by omega)
  have hl0_B : b_B < H.n := by omega
  have hl1_B : b_B < H.n + 1 := by omega
  have hl2_B : b_B < H.n + 1 + 1 := by omega
  have hl3_B : b_B < H.n + 1 + 1 + 1 := by omega
  have hl4_B : b_B < H.n + 1 + 1 + 1 + 1 := by omega
  have hl5_B : b_B < H.n + 1 + 1 + 1 + 1 + 1 := by omega
  have hl6_B : b_B < H.n + 1 + 1 + 1 + 1 + 1 + 1 := by omega
  have hl7_B : b_B < H.n + 1 + 1 + 1 + 1 + 1 + 1 + 1 := by omega
  simp (config := {contextual := true, implicitDefEqProofs := false, maxSteps := 2000000}) [-Int.not_le, -Int.not_lt, argsF, laws_FnSightings_t19, hat_code.blk, hat_code.esz, hat_code.len, hat_code.els, hne_code, hne1_code, hne2_code, Enc.decL_map, hcl]
  refine Stop.mk fun H2 b2 k2 p hw2 hs2 hat2 htl htw => ?_
  have hcp : siCells b2 p = [.int .i64 p.id, .int .i64 p.year, .str p.town, .sl b2 0 p.traits.length] := rfl
  have hbq := (hw2 _ _ hat2.blk).1
  have atA := hat_A.sub hs2
  have atB := hat_B.sub hs2
  have hbA := (hw2 _ _ atA.blk).1
  have hbB := (hw2 _ _ atB.blk).1
  simp (config := {contextual := true, implicitDefEqProofs := false, maxSteps := 2000000}) [-Int.not_le, -Int.not_lt, argsF, laws_FnSightings_t19, hcp]
  have hwf := hw2
  exact laws_FnSightings_p20 (bq := b2) hwf0 (by (repeat first | exact Sub.refl _ | refine Sub.push hwf0 ?_ _ | refine Sub.set hwf0 ?_ (by first | exact Nat.le_refl _ | omega | (simp only [push_n, set_n, kill_n]; omega)) _ | refine Sub.kill hwf0 ?_ (by first | exact Nat.le_refl _ | omega | (simp only [push_n, set_n, kill_n]; omega))); exact hs0.trans hs2) (WF.push hw2 (by simp [AC.okR]; omega) (by simp)) h (atA.sub (by (repeat first | exact Sub.refl _ | refine Sub.push hw2 ?_ _ | refine Sub.set hw2 ?_ (by first | exact Nat.le_refl _ | omega | (simp only [push_n, set_n, kill_n]; omega)) _ | refine Sub.kill hw2 ?_ (by first | exact Nat.le_refl _ | omega | (simp only [push_n, set_n, kill_n]; omega))))) (atB.sub (by (repeat first | exact Sub.refl _ | refine Sub.push hw2 ?_ _ | refine Sub.set hw2 ?_ (by first | exact Nat.le_refl _ | omega | (simp only [push_n, set_n, kill_n]; omega)) _ | refine Sub.kill hw2 ?_ (by first | exact Nat.le_refl _ | omega | (simp only [push_n, set_n, kill_n]; omega))))) hAB hI0 (by simp [push_b, hcp]; done) (at_keep hat2 (by rw [push_b, if_neg (by omega)]; exact hat2.blk)) htw rfl

theorem laws_FnSightings_p17 {H0 H : AHeap} {K : AV → AHeap → Prop} {b_code i_code : Nat} {k_code : ABlk} {code : List UInt8} (hwf0 : H0.WF) (hs0 : Sub H0 H) (hwf : H.WF) (hat0_code : eU.At H0 b_code i_code k_code code) (h : K (.c (.bool true)) H0) {b_v i_v : Nat} {k_v : ABlk} {v : List Si} (hat_v : eSi.At H b_v i_v k_v v) {b_tr i_tr : Nat} {k_tr : ABlk} {tr : List Int} (hat_tr : eI.At H b_tr i_tr k_tr tr) {yr : Int} {tw : List UInt8} (htw : tw.length ≤ 100) (htr : tr.length ≤ 12) (hqv : ∀ p ∈ v, shS p) (hlv : v.length ≤ 12) (hcl : code.length ≤ 65536) (hI0 : ∀ w, H0.I w → tabI w)  {F : AFrame} (hF : F.keep [0, 40, 41, 42, 43] = [(0, .c (.sl b_code i_code code.length)), (40, .c (.sl b_v i_v v.length)), (41, .c (.int .i64 (yr))), (42, .c (.str (tw))), (43, .c (.sl b_tr i_tr tr.length))]) : avc Tryz.prog [(4, q_rBig), (5, q_DAr), (6, q_sp), (7, q_sp), (8, q_evOf), (9, q_DCv), (10, q_dp), (11, q_dp), (12, q_eqII), (13, q_DTr), (14, q_tr), (15, q_tr), (16, q_rInts), (17, q_ys), (18, q_ys), (19, q_rHas), (20, q_DAd), (21, q_ad), (22, q_ad), (23, q_DSt), (24, q_st), (25, q_st), (26, q_eqSis)] 368 H0.n laws_FnSightings_t17 F H (endK Tryz.prog H0.n [.tmp 2] K) := by
  refine (show avc _ _ _ _ _ _ _ _ = _ from avc_cut _ _).mpr ?_
  rw [hF]
  have hat_code : eU.At H b_code i_code k_code code := ⟨hs0.1.2 _ _ hat0_code.blk, hat0_code.esz, hat0_code.len, hat0_code.els⟩
  have hE := soundE_cons laws_rBig_s (soundE_cons spec_DrawStrongestPair_s (soundE_cons impl_StrongestPair_s (soundE_cons spec_StrongestPair_s (soundE_cons impl_EvidenceOf_s (soundE_cons spec_DrawDoubtfulPairs_s (soundE_cons impl_DoubtfulPairs_s (soundE_cons spec_DoubtfulPairs_s (soundE_cons laws_rTable_s (soundE_cons spec_DrawTraitsSeen_s (soundE_cons impl_TraitsSeen_s (soundE_cons spec_TraitsSeen_s (soundE_cons laws_rInts_s (soundE_cons impl_YearsSeen_s (soundE_cons spec_YearsSeen_s (soundE_cons laws_rHas_s (soundE_cons spec_DrawAddSighting_s (soundE_cons impl_AddSighting_s (soundE_cons spec_AddSighting_s (soundE_cons spec_DrawSightingText_s (soundE_cons impl_SightingText_s (soundE_cons spec_SightingText_s (soundE_cons laws_rSightings_s (soundE_nil (P := Tryz.prog))))))))))))))))))))))))
  have hn0 : H0.n ≤ H.n := hs0.1.1
  have hb_code : b_code < H.n := (hwf b_code k_code hat_code.blk).1
  have hne_code : (b_code = H.n) = False := eq_false (by omega)
  have hne1_code : ∀ i, (b_code = H.n + i) = False := fun i => eq_false (by omega)
  have hne2_code := ne2_of (a := b_code) (b := H.n) (by omega)
  have hmx_code : code.length ≤ 9223372036854775807 := by have h1 := (hwf b_code k_code hat_code.blk).2.2; have h2 := hat_code.len; omega
  have hl0_code : b_code < H.n := by omega
  have hl1_code : b_code < H.n + 1 := by omega
  have hl2_code : b_code < H.n + 1 + 1 := by omega
  have hl3_code : b_code < H.n + 1 + 1 + 1 := by omega
  have hl4_code : b_code < H.n + 1 + 1 + 1 + 1 := by omega
  have hl5_code : b_code < H.n + 1 + 1 + 1 + 1 + 1 := by omega
  have hl6_code : b_code < H.n + 1 + 1 + 1 + 1 + 1 + 1 := by omega
  have hl7_code : b_code < H.n + 1 + 1 + 1 + 1 + 1 + 1 + 1 := by omega
  obtain ⟨hsr, hsp, hst, hss, hsk⟩ := hs_of hwf
  have hon_v := hat_v.on
  have hb_v : b_v < H.n := (hwf b_v k_v hat_v.blk).1
  have hne_v : (b_v = H.n) = False := eq_false (by omega)
  have hne1_v : ∀ i, (b_v = H.n + i) = False := fun i => eq_false (by omega)
  have hne2_v := ne2_of (a := b_v) (b := H.n) (by omega)
  have hl0_v : b_v < H.n := by omega
  have hl1_v : b_v < H.n + 1 := by omega
  have hl2_v : b_v < H.n + 1 + 1 := by omega
  have hl3_v : b_v < H.n + 1 + 1 + 1 := by omega
  have hl4_v : b_v < H.n + 1 + 1 + 1 + 1 := by omega
  have hl5_v : b_v < H.n + 1 + 1 + 1 + 1 + 1 := by omega
  have hl6_v : b_v < H.n + 1 + 1 + 1 + 1 + 1 + 1 := by omega
  have hl7_v : b_v < H.n + 1 + 1 + 1 + 1 + 1 + 1 + 1 := by omega
  have hb_tr : b_tr < H.n := (hwf b_tr k_tr hat_tr.blk).1
  have hne_tr : (b_tr = H.n) = False := eq_false (by omega)
  have hne1_tr : ∀ i, (b_tr = H.n + i) = False := fun i => eq_false (by omega)
  have hne2_tr := ne2_of (a := b_tr) (b := H.n) (by omega)
  have hl0_tr : b_tr < H.n := by omega
  have hl1_tr : b_tr < H.n + 1 := by omega
  have hl2_tr : b_tr < H.n + 1 + 1 := by omega
  have hl3_tr : b_tr < H.n + 1 + 1 + 1 := by omega
  have hl4_tr : b_tr < H.n + 1 + 1 + 1 + 1 := by omega
  have hl5_tr : b_tr < H.n + 1 + 1 + 1 + 1 + 1 := by omega
  have hl6_tr : b_tr < H.n + 1 + 1 + 1 + 1 + 1 + 1 := by omega
  have hl7_tr : b_tr < H.n + 1 + 1 + 1 + 1 + 1 + 1 + 1 := by omega
  have hqt : ∀ p ∈ v, p.traits.length ≤ 1048576 ∧ p.town.length ≤ 9223372036854775807 := fun p hp => by have := (hqv p hp).1; have := (hqv p hp).2; omega
  simp (config := {contextual := true, implicitDefEqProofs := false, maxSteps := 2000000}) [-Int.not_le, -Int.not_lt, argsF, laws_FnSightings_t17, hat_v.blk, hat_v.esz, hat_v.len, hon_v, hne_v, hne1_v, hne2_v, hsr, hsp, hst, hss, hsk, hat_tr.blk, hat_tr.esz, hat_tr.len, hat_tr.els, hne_tr, hne1_tr, hne2_tr, Enc.decL_map, hqt]
  refine ⟨by omega, by omega, by omega, ?_⟩
  refine Stop.mk fun HA bA csA hwA hsA hrA hgA => ?_
  refine Exists.elim (hrA.at (adRes_ok (y := yr) hqt (by omega) (by omega))) fun kA atA => ?_
  have atA := atA.1
  have atv := hat_v.sub hsA
  have att : eI.At HA b_tr i_tr k_tr tr := ⟨hsA.1.2 _ _ hat_tr.blk, hat_tr.esz, hat_tr.len, hat_tr.els⟩
  have ov := atv.on
  have lv := atv.len
  have sB := SubE.refl HA
  have sB2 := (SubE.refl HA).toRo
  have hbA := (hwA _ _ atA.blk).1
  have hbv := (hwA _ _ atv.blk).1
  have hbt := (hwA _ _ att.blk).1
  have hbc := (hwA _ _ (hsA.1.2 _ _ hat_code.blk)).1
  simp (config := {contextual := true, implicitDefEqProofs := false, maxSteps := 2000000}) [-Int.not_le, -Int.not_lt, argsF, laws_FnSightings_t17, laws_FnSightings_t18, atv.blk, atv.esz, ov, lv, att.blk, att.esz, att.len, att.els, sB, sB2, Enc.decL_map, hqt]
  refine ⟨by omega, by omega, by omega, ?_⟩
  refine Stop.mk fun HB bB csB hwB hsB hrB hgB => ?_
  refine Exists.elim (hrB.at (adRes_ok (y := yr) hqt (by omega) (by omega))) fun kB atB => ?_
  have atB := atB.1
  have hbB := (hwB _ _ atB.blk).1
  have atA2 := atA.sub hsB
  have hbA2 := (hwB _ _ atA2.blk).1
  have hbc2 := (hwB _ _ (hsB.1.2 _ _ (hsA.1.2 _ _ hat_code.blk))).1
  simp (config := {contextual := true, implicitDefEqProofs := false, maxSteps := 2000000}) [-Int.not_le, -Int.not_lt, argsF, laws_FnSightings_t18]
  exact laws_FnSightings_p19 hwf0 ((hs0.trans hsA).trans hsB) hwB hat0_code h atA2 atB rfl hcl hI0 rfl

theorem laws_FnSightings_p16 {H0 H : AHeap} {K : AV → AHeap → Prop} {b_code i_code : Nat} {k_code : ABlk} {code : List UInt8} (hwf0 : H0.WF) (hs0 : Sub H0 H) (hwf : H.WF) (hat0_code : eU.At H0 b_code i_code k_code code) (h : K (.c (.bool true)) H0) (hcl : code.length ≤ 65536) (hI0 : ∀ w, H0.I w → tabI w)  {F : AFrame} (hF : F.keep [0] = [(0, .c (.sl b_code i_code code.length))]) : avc Tryz.prog [(4, q_rBig), (5, q_DAr), (6, q_sp), (7, q_sp), (8, q_evOf), (9, q_DCv), (10, q_dp), (11, q_dp), (12, q_eqII), (13, q_DTr), (14, q_tr), (15, q_tr), (16, q_rInts), (17, q_ys), (18, q_ys), (19, q_rHas), (20, q_DAd), (21, q_ad), (22, q_ad), (23, q_DSt), (24, q_st), (25, q_st), (26, q_eqSis)] 368 H0.n laws_FnSightings_t16 F H (endK Tryz.prog H0.n [.tmp 2] K) := by
  refine (show avc _ _ _ _ _ _ _ _ = _ from avc_cut _ _).mpr ?_
  rw [hF]
  have hat_code : eU.At H b_code i_code k_code code := ⟨hs0.1.2 _ _ hat0_code.blk, hat0_code.esz, hat0_code.len, hat0_code.els⟩
  have hE := soundE_cons laws_rBig_s (soundE_cons spec_DrawStrongestPair_s (soundE_cons impl_StrongestPair_s (soundE_cons spec_StrongestPair_s (soundE_cons impl_EvidenceOf_s (soundE_cons spec_DrawDoubtfulPairs_s (soundE_cons impl_DoubtfulPairs_s (soundE_cons spec_DoubtfulPairs_s (soundE_cons laws_rTable_s (soundE_cons spec_DrawTraitsSeen_s (soundE_cons impl_TraitsSeen_s (soundE_cons spec_TraitsSeen_s (soundE_cons laws_rInts_s (soundE_cons impl_YearsSeen_s (soundE_cons spec_YearsSeen_s (soundE_cons laws_rHas_s (soundE_cons spec_DrawAddSighting_s (soundE_cons impl_AddSighting_s (soundE_cons spec_AddSighting_s (soundE_cons spec_DrawSightingText_s (soundE_cons impl_SightingText_s (soundE_cons spec_SightingText_s (soundE_cons laws_rSightings_s (soundE_nil (P := Tryz.prog))))))))))))))))))))))))
  have hn0 : H0.n ≤ H.n := hs0.1.1
  have hb_code : b_code < H.n := (hwf b_code k_code hat_code.blk).1
  have hne_code : (b_code = H.n) = False := eq_false (by omega)
  have hne1_code : ∀ i, (b_code = H.n + i) = False := fun i => eq_false (by omega)
  have hne2_code := ne2_of (a := b_code) (b := H.n) (by omega)
  have hmx_code : code.length ≤ 9223372036854775807 := by have h1 := (hwf b_code k_code hat_code.blk).2.2; have h2 := hat_code.len; omega
  have hl0_code : b_code < H.n := by omega
  have hl1_code : b_code < H.n + 1 := by omega
  have hl2_code : b_code < H.n + 1 + 1 := by omega
  have hl3_code : b_code < H.n + 1 + 1 + 1 := by omega
  have hl4_code : b_code < H.n + 1 + 1 + 1 + 1 := by omega
  have hl5_code : b_code < H.n + 1 + 1 + 1 + 1 + 1 := by omega
  have hl6_code : b_code < H.n + 1 + 1 + 1 + 1 + 1 + 1 := by omega
  have hl7_code : b_code < H.n + 1 + 1 + 1 + 1 + 1 + 1 + 1 := by omega
  simp (config := {contextual := true, implicitDefEqProofs := false, maxSteps := 2000000}) [-Int.not_le, -Int.not_lt, argsF, laws_FnSightings_t16, hat_code.blk, hat_code.esz, hat_code.len, hat_code.els, hne_code, hne1_code, hne2_code, Enc.decL_map, hcl]
  refine Stop.mk fun H2 b2 k2 v bt kt p hw2 hs2 hat2 hpl hsh att htl htw => ?_
  have hb2 := (hw2 _ _ hat2.blk).1
  have hbt := (hw2 _ _ att.blk).1
  simp (config := {contextual := true, implicitDefEqProofs := false, maxSteps := 2000000}) [-Int.not_le, -Int.not_lt, argsF, laws_FnSightings_t16]
  exact laws_FnSightings_p17 hwf0 (hs0.trans hs2) hw2 hat0_code h hat2 att htw htl hsh hpl hcl hI0 rfl

end Go.Proofs.YtafenginfojcmaaGreatDoor
set_option maxRecDepth 8000
set_option linter.unusedSimpArgs false
set_option linter.unusedVariables false
namespace Go.Proofs.YtafenginfojcmaaGreatDoor
open Go Go.RowKit

set_option maxHeartbeats 4000000

theorem laws_FnSightings_loop4 {H0 H : AHeap} {b_code i_code : Nat} {k_code : ABlk} {code : List UInt8} (hwf0 : H0.WF) (hs0 : Sub H0 H) (hwf : H.WF) (hat0_code : eU.At H0 b_code i_code k_code code) {b_u i_u : Nat} {k_u : ABlk} {u : List Si} (hat_u : eSi.At H b_u i_u k_u u) {b_ts i_ts : Nat} {k_ts : ABlk} {ts : List Int} (hat_ts : eI.At H b_ts i_ts k_ts ts) {id lo hi : Int} {o : Bool} (hall : o = true → ∀ (i : Nat) (hk : i < u.length), u[i].id = id → lo ≤ u[i].year ∧ u[i].year ≤ hi ∧ ∀ t ∈ u[i].traits, (ts.any fun x => decide (x = t)) = true) {Q : Exit → AFrame → AHeap → Prop} (hfin : ∀ (v : Int), Q (.exit 6) [(0, .c (.sl b_code i_code code.length)), (25, .c (.sl b_u i_u u.length)), (27, .c (.int .i64 (id))), (28, .c (.sl b_ts i_ts ts.length)), (29, .c (.bool (o))), (32, .c (.int .i64 (lo))), (33, .c (.int .i64 (hi))), (38, .c (.int .i64 (v))), (261, .c (.bool (false)))] H) : ALoop Tryz.prog 368 H0.n laws_FnSightings_l4 [(0, .c (.sl b_code i_code code.length)), (25, .c (.sl b_u i_u u.length)), (27, .c (.int .i64 (id))), (28, .c (.sl b_ts i_ts ts.length)), (29, .c (.bool (o))), (32, .c (.int .i64 (lo))), (33, .c (.int .i64 (hi))), (38, .c (.int .i64 (0)))] H Q := by
  have hat_code : eU.At H b_code i_code k_code code := ⟨hs0.1.2 _ _ hat0_code.blk, hat0_code.esz, hat0_code.len, hat0_code.els⟩
  have hE := soundE_cons laws_rBig_s (soundE_cons spec_DrawStrongestPair_s (soundE_cons impl_StrongestPair_s (soundE_cons spec_StrongestPair_s (soundE_cons impl_EvidenceOf_s (soundE_cons spec_DrawDoubtfulPairs_s (soundE_cons impl_DoubtfulPairs_s (soundE_cons spec_DoubtfulPairs_s (soundE_cons laws_rTable_s (soundE_cons spec_DrawTraitsSeen_s (soundE_cons impl_TraitsSeen_s (soundE_cons spec_TraitsSeen_s (soundE_cons laws_rInts_s (soundE_cons impl_YearsSeen_s (soundE_cons spec_YearsSeen_s (soundE_cons laws_rHas_s (soundE_cons spec_DrawAddSighting_s (soundE_cons impl_AddSighting_s (soundE_cons spec_AddSighting_s (soundE_cons spec_DrawSightingText_s (soundE_cons impl_SightingText_s (soundE_cons spec_SightingText_s (soundE_cons laws_rSightings_s (soundE_nil (P := Tryz.prog))))))))))))))))))))))))
  have hn0 : H0.n ≤ H.n := hs0.1.1
  have hb_code : b_code < H.n := (hwf b_code k_code hat_code.blk).1
  have hne_code : (b_code = H.n) = False := eq_false (by omega)
  have hne1_code : ∀ i, (b_code = H.n + i) = False := fun i => eq_false (by omega)
  have hne2_code := ne2_of (a := b_code) (b := H.n) (by omega)
  have hmx_code : code.length ≤ 9223372036854775807 := by have h1 := (hwf b_code k_code hat_code.blk).2.2; have h2 := hat_code.len; omega
  have hl0_code : b_code < H.n := by omega
  have hl1_code : b_code < H.n + 1 := by omega
  have hl2_code : b_code < H.n + 1 + 1 := by omega
  have hl3_code : b_code < H.n + 1 + 1 + 1 := by omega
  have hl4_code : b_code < H.n + 1 + 1 + 1 + 1 := by omega
  have hl5_code : b_code < H.n + 1 + 1 + 1 + 1 + 1 := by omega
  have hl6_code : b_code < H.n + 1 + 1 + 1 + 1 + 1 + 1 := by omega
  have hl7_code : b_code < H.n + 1 + 1 + 1 + 1 + 1 + 1 + 1 := by omega
  obtain ⟨hsr, hsp, hst, hss, hsk⟩ := hs_of hwf
  have hon_u := hat_u.on
  have hb_u : b_u < H.n := (hwf b_u k_u hat_u.blk).1
  have hne_u : (b_u = H.n) = False := eq_false (by omega)
  have hne1_u : ∀ i, (b_u = H.n + i) = False := fun i => eq_false (by omega)
  have hne2_u := ne2_of (a := b_u) (b := H.n) (by omega)
  have hl0_u : b_u < H.n := by omega
  have hl1_u : b_u < H.n + 1 := by omega
  have hl2_u : b_u < H.n + 1 + 1 := by omega
  have hl3_u : b_u < H.n + 1 + 1 + 1 := by omega
  have hl4_u : b_u < H.n + 1 + 1 + 1 + 1 := by omega
  have hl5_u : b_u < H.n + 1 + 1 + 1 + 1 + 1 := by omega
  have hl6_u : b_u < H.n + 1 + 1 + 1 + 1 + 1 + 1 := by omega
  have hl7_u : b_u < H.n + 1 + 1 + 1 + 1 + 1 + 1 + 1 := by omega
  have hb_ts : b_ts < H.n := (hwf b_ts k_ts hat_ts.blk).1
  have hne_ts : (b_ts = H.n) = False := eq_false (by omega)
  have hne1_ts : ∀ i, (b_ts = H.n + i) = False := fun i => eq_false (by omega)
  have hne2_ts := ne2_of (a := b_ts) (b := H.n) (by omega)
  have hl0_ts : b_ts < H.n := by omega
  have hl1_ts : b_ts < H.n + 1 := by omega
  have hl2_ts : b_ts < H.n + 1 + 1 := by omega
  have hl3_ts : b_ts < H.n + 1 + 1 + 1 := by omega
  have hl4_ts : b_ts < H.n + 1 + 1 + 1 + 1 := by omega
  have hl5_ts : b_ts < H.n + 1 + 1 + 1 + 1 + 1 := by omega
  have hl6_ts : b_ts < H.n + 1 + 1 + 1 + 1 + 1 + 1 := by omega
  have hl7_ts : b_ts < H.n + 1 + 1 + 1 + 1 + 1 + 1 + 1 := by omega
  cases o with
  | false =>
    clear hall
    refine aloop_heap (X := Unit) (fun _ => [(0, .c (.sl b_code i_code code.length)), (25, .c (.sl b_u i_u u.length)), (27, .c (.int .i64 (id))), (28, .c (.sl b_ts i_ts ts.length)), (29, .c (.bool (false))), (32, .c (.int .i64 (lo))), (33, .c (.int .i64 (hi))), (38, .c (.int .i64 (0)))]) (fun _ => H) (fun _ => True) (fun _ => 0) hE _ () trivial (fun hw0 => .since hn0 hw0 (.refl _) (by simp [frOk, AV.okR, AV.ok1, AC.okR, AV.ren, AV.ren1, AC.ren, AFrame.get, pl1_old, hl0_code, hl1_code, hl2_code, hl3_code, hl4_code, hl5_code, hl6_code, hl7_code, hl0_u, hl1_u, hl2_u, hl3_u, hl4_u, hl5_u, hl6_u, hl7_u, hl0_ts, hl1_ts, hl2_ts, hl3_ts, hl4_ts, hl5_ts, hl6_ts, hl7_ts]; first | done | omega)) (fun _ _ hwx => ?_)
    by_cases hu : 0 < u.length
    · have hu2 : (0 : Int) < (u.length : Int) := by omega
      simp (config := {contextual := true, implicitDefEqProofs := false, maxSteps := 2000000}) [-Int.not_le, -Int.not_lt, argsF, laws_FnSightings_l4, hat_u.blk, hat_u.esz, hat_u.len, hon_u, hne_u, hne1_u, hne2_u, hsr, hsp, hst, hss, hsk, hu, hu2]
      exact hfin 0
    · have hu2 : ¬ (0 : Int) < (u.length : Int) := by omega
      have hu3 : u.length = 0 := by omega
      simp (config := {contextual := true, implicitDefEqProofs := false, maxSteps := 2000000}) [-Int.not_le, -Int.not_lt, argsF, laws_FnSightings_l4, hat_u.blk, hat_u.esz, hat_u.len, hon_u, hne_u, hne1_u, hne2_u, hsr, hsp, hst, hss, hsk, hu2, hu3]
      have hf := hfin 0
      simp only [hu3] at hf
      exact hf
  | true =>
  have hall := hall rfl
  refine aloop_heap (X := Nat) (fun j => [(0, .c (.sl b_code i_code code.length)), (25, .c (.sl b_u i_u u.length)), (27, .c (.int .i64 (id))), (28, .c (.sl b_ts i_ts ts.length)), (29, .c (.bool (true))), (32, .c (.int .i64 (lo))), (33, .c (.int .i64 (hi))), (38, .c (.int .i64 ((j : Int))))]) (fun _ => H) (fun j => j ≤ u.length) (fun j => u.length - j) hE _ 0 (Nat.zero_le _) (fun hw0 => .since hn0 hw0 (.refl _) (by simp [frOk, AV.okR, AV.ok1, AC.okR, AV.ren, AV.ren1, AC.ren, AFrame.get, pl1_old, hl0_code, hl1_code, hl2_code, hl3_code, hl4_code, hl5_code, hl6_code, hl7_code, hl0_u, hl1_u, hl2_u, hl3_u, hl4_u, hl5_u, hl6_u, hl7_u, hl0_ts, hl1_ts, hl2_ts, hl3_ts, hl4_ts, hl5_ts, hl6_ts, hl7_ts]; first | done | omega)) (fun j hj hwx => ?_)
  have hmu : u.length ≤ 9223372036854775807 := by have h1 := (hwf _ _ hat_u.blk).2.2; have h2 := hat_u.len; omega
  rcases Nat.lt_or_ge j u.length with hlt | hge
  rotate_left
  · have hj0 : j = u.length := by omega
    subst hj0
    clear hall
    simp (config := {contextual := true, implicitDefEqProofs := false, maxSteps := 2000000}) [-Int.not_le, -Int.not_lt, argsF, laws_FnSightings_l4, hat_u.blk, hat_u.esz, hat_u.len, hon_u, hne_u, hne1_u, hne2_u, hsr, hsp, hst, hss, hsk]
    exact hfin (u.length : Int)
  · have hj1 := idx_lt hlt
    have w1 : IntKind.i64.wrap ((j : Int) + 1) = (j : Int) + 1 := wrap_id (by omega) (by omega)
    obtain ⟨ex_x, e_x, hd_x⟩ := hat_u.get hlt
    obtain ⟨b_x, i_x, k_x, rfl, hat_x, htx_x⟩ := eSi_at hd_x
    have hb_x : b_x < H.n := (hwf b_x k_x hat_x.blk).1
    have hne_x : (b_x = H.n) = False := eq_false (by omega)
    have hne1_x : ∀ i, (b_x = H.n + i) = False := fun i => eq_false (by omega)
    have hne2_x := ne2_of (a := b_x) (b := H.n) (by omega)
    have hmx : u[j].traits.length ≤ 9223372036854775807 := by have h1 := (hwf _ _ hat_x.blk).2.2; have h2 := hat_x.len; omega
    have hh := hall j hlt
    clear hall
    by_cases hid : u[j].id = id
    rotate_left
    · clear hh
      simp (config := {contextual := true, implicitDefEqProofs := false, maxSteps := 2000000}) [-Int.not_le, -Int.not_lt, argsF, laws_FnSightings_l4, hat_u.blk, hat_u.esz, hat_u.len, hon_u, hne_u, hne1_u, hne2_u, hsr, hsp, hst, hss, hsk, hj1, hlt, e_x, htx_x, hat_x.blk, hat_x.esz, hat_x.len, hat_x.els, hne_x, hne1_x, hne2_x, w1, hid]
      exact ⟨fun hw => ⟨j + 1, by omega, by omega, .since hn0 hw (.refl _) (by simp [frOk, AV.okR, AV.ok1, AC.okR, AV.ren, AV.ren1, AC.ren, AFrame.get, pl1_old, hl0_code, hl1_code, hl2_code, hl3_code, hl4_code, hl5_code, hl6_code, hl7_code, hl0_u, hl1_u, hl2_u, hl3_u, hl4_u, hl5_u, hl6_u, hl7_u, hl0_ts, hl1_ts, hl2_ts, hl3_ts, hl4_ts, hl5_ts, hl6_ts, hl7_ts]; first | done | omega)⟩⟩
    obtain ⟨h1, h2, h3⟩ := hh hid
    clear hh
    have h1' : ¬ u[j].year < lo := by omega
    have h2' : ¬ hi < u[j].year := by omega
    simp (config := {contextual := true, implicitDefEqProofs := false, maxSteps := 2000000}) [-Int.not_le, -Int.not_lt, argsF, laws_FnSightings_l4, hat_u.blk, hat_u.esz, hat_u.len, hon_u, hne_u, hne1_u, hne2_u, hsr, hsp, hst, hss, hsk, hj1, hlt, e_x, htx_x, hat_x.blk, hat_x.esz, hat_x.len, hat_x.els, hne_x, hne1_x, hne2_x, w1, hid, h1', h2']
    refine aloop_heap (X := Nat) (fun k => [(0, .c (.sl b_code i_code code.length)), (25, .c (.sl b_u i_u u.length)), (27, .c (.int .i64 (id))), (28, .c (.sl b_ts i_ts ts.length)), (29, .c (.bool (true))), (32, .c (.int .i64 (lo))), (33, .c (.int .i64 (hi))), (38, .c (.int .i64 ((j : Int)))), (39, .c (.int .i64 ((k : Int))))]) (fun _ => H) (fun k => k ≤ u[j].traits.length) (fun k => u[j].traits.length - k) hE _ 0 (Nat.zero_le _) (fun hw0 => .since hn0 hw0 (.refl _) (by simp [frOk, AV.okR, AV.ok1, AC.okR, AV.ren, AV.ren1, AC.ren, AFrame.get, pl1_old, hl0_code, hl1_code, hl2_code, hl3_code, hl4_code, hl5_code, hl6_code, hl7_code, hl0_u, hl1_u, hl2_u, hl3_u, hl4_u, hl5_u, hl6_u, hl7_u, hl0_ts, hl1_ts, hl2_ts, hl3_ts, hl4_ts, hl5_ts, hl6_ts, hl7_ts]; first | done | omega)) (fun k hk hwx2 => ?_)
    rcases Nat.lt_or_ge k u[j].traits.length with hlt2 | hge2
    rotate_left
    · have hk0 : k = u[j].traits.length := by omega
      subst hk0
      clear h3
      simp (config := {contextual := true, implicitDefEqProofs := false, maxSteps := 2000000}) [-Int.not_le, -Int.not_lt, argsF, laws_FnSightings_l3, hat_u.blk, hat_u.esz, hat_u.len, hon_u, hne_u, hne1_u, hne2_u, hsr, hsp, hst, hss, hsk, e_x, htx_x, hat_x.blk, hat_x.esz, hat_x.len, hat_x.els, hne_x, hne1_x, hne2_x, hb_x, hj1, hlt, w1]
      exact ⟨fun hw => ⟨j + 1, by omega, by omega, .since hn0 hw (.refl _) (by simp [frOk, AV.okR, AV.ok1, AC.okR, AV.ren, AV.ren1, AC.ren, AFrame.get, pl1_old, hl0_code, hl1_code, hl2_code, hl3_code, hl4_code, hl5_code, hl6_code, hl7_code, hl0_u, hl1_u, hl2_u, hl3_u, hl4_u, hl5_u, hl6_u, hl7_u, hl0_ts, hl1_ts, hl2_ts, hl3_ts, hl4_ts, hl5_ts, hl6_ts, hl7_ts]; first | done | omega)⟩⟩
    · have hk1 := idx_lt hlt2
      have w2 : IntKind.i64.wrap ((k : Int) + 1) = (k : Int) + 1 := wrap_id (by omega) (by omega)
      have er := hat_x.get hlt2
      have hh := h3 _ (List.getElem_mem hlt2)
      clear h3
      simp (config := {contextual := true, implicitDefEqProofs := false, maxSteps := 2000000}) [-Int.not_le, -Int.not_lt, argsF, laws_FnSightings_l3, hat_u.blk, hat_u.esz, hat_u.len, hon_u, hne_u, hne1_u, hne2_u, hsr, hsp, hst, hss, hsk, hat_ts.blk, hat_ts.esz, hat_ts.len, hat_ts.els, hne_ts, hne1_ts, hne2_ts, e_x, htx_x, hat_x.blk, hat_x.esz, hat_x.len, hat_x.els, hne_x, hne1_x, hne2_x, hb_x, hj1, hlt, hk1, hlt2, er, hh, w2]
      exact ⟨fun hw => ⟨k + 1, by omega, by omega, .since hn0 hw (.refl _) (by simp [frOk, AV.okR, AV.ok1, AC.okR, AV.ren, AV.ren1, AC.ren, AFrame.get, pl1_old, hl0_code, hl1_code, hl2_code, hl3_code, hl4_code, hl5_code, hl6_code, hl7_code, hl0_u, hl1_u, hl2_u, hl3_u, hl4_u, hl5_u, hl6_u, hl7_u, hl0_ts, hl1_ts, hl2_ts, hl3_ts, hl4_ts, hl5_ts, hl6_ts, hl7_ts]; first | done | omega)⟩⟩

theorem laws_FnSightings_p15 {H0 H : AHeap} {K : AV → AHeap → Prop} {b_code i_code : Nat} {k_code : ABlk} {code : List UInt8} (hwf0 : H0.WF) (hs0 : Sub H0 H) (hwf : H.WF) (hat0_code : eU.At H0 b_code i_code k_code code) (h : K (.c (.bool true)) H0) {b_u i_u : Nat} {k_u : ABlk} {u : List Si} (hat_u : eSi.At H b_u i_u k_u u) {b_ts i_ts : Nat} {k_ts : ABlk} {ts : List Int} (hat_ts : eI.At H b_ts i_ts k_ts ts) {id lo hi : Int} {o : Bool} (hall : o = true → ∀ (i : Nat) (hk : i < u.length), u[i].id = id → lo ≤ u[i].year ∧ u[i].year ≤ hi ∧ ∀ t ∈ u[i].traits, (ts.any fun x => decide (x = t)) = true) (hcl : code.length ≤ 65536) (hI0 : ∀ w, H0.I w → tabI w)  {F : AFrame} (hF : F.keep [0, 25, 27, 28, 29, 32, 33] = [(0, .c (.sl b_code i_code code.length)), (25, .c (.sl b_u i_u u.length)), (27, .c (.int .i64 (id))), (28, .c (.sl b_ts i_ts ts.length)), (29, .c (.bool (o))), (32, .c (.int .i64 (lo))), (33, .c (.int .i64 (hi)))]) : avc Tryz.prog [(4, q_rBig), (5, q_DAr), (6, q_sp), (7, q_sp), (8, q_evOf), (9, q_DCv), (10, q_dp), (11, q_dp), (12, q_eqII), (13, q_DTr), (14, q_tr), (15, q_tr), (16, q_rInts), (17, q_ys), (18, q_ys), (19, q_rHas), (20, q_DAd), (21, q_ad), (22, q_ad), (23, q_DSt), (24, q_st), (25, q_st), (26, q_eqSis)] 368 H0.n laws_FnSightings_t15 F H (endK Tryz.prog H0.n [.tmp 2] K) := by
  refine (show avc _ _ _ _ _ _ _ _ = _ from avc_cut _ _).mpr ?_
  rw [hF]
  have hat_code : eU.At H b_code i_code k_code code := ⟨hs0.1.2 _ _ hat0_code.blk, hat0_code.esz, hat0_code.len, hat0_code.els⟩
  have hE := soundE_cons laws_rBig_s (soundE_cons spec_DrawStrongestPair_s (soundE_cons impl_StrongestPair_s (soundE_cons spec_StrongestPair_s (soundE_cons impl_EvidenceOf_s (soundE_cons spec_DrawDoubtfulPairs_s (soundE_cons impl_DoubtfulPairs_s (soundE_cons spec_DoubtfulPairs_s (soundE_cons laws_rTable_s (soundE_cons spec_DrawTraitsSeen_s (soundE_cons impl_TraitsSeen_s (soundE_cons spec_TraitsSeen_s (soundE_cons laws_rInts_s (soundE_cons impl_YearsSeen_s (soundE_cons spec_YearsSeen_s (soundE_cons laws_rHas_s (soundE_cons spec_DrawAddSighting_s (soundE_cons impl_AddSighting_s (soundE_cons spec_AddSighting_s (soundE_cons spec_DrawSightingText_s (soundE_cons impl_SightingText_s (soundE_cons spec_SightingText_s (soundE_cons laws_rSightings_s (soundE_nil (P := Tryz.prog))))))))))))))))))))))))
  have hn0 : H0.n ≤ H.n := hs0.1.1
  have hb_code : b_code < H.n := (hwf b_code k_code hat_code.blk).1
  have hne_code : (b_code = H.n) = False := eq_false (by omega)
  have hne1_code : ∀ i, (b_code = H.n + i) = False := fun i => eq_false (by omega)
  have hne2_code := ne2_of (a := b_code) (b := H.n) (by omega)
  have hmx_code : code.length ≤ 9223372036854775807 := by have h1 := (hwf b_code k_code hat_code.blk).2.2; have h2 := hat_code.len; omega
  have hl0_code : b_code < H.n := by omega
  have hl1_code : b_code < H.n + 1 := by omega
  have hl2_code : b_code < H.n + 1 + 1 := by omega
  have hl3_code : b_code < H.n + 1 + 1 + 1 := by omega
  have hl4_code : b_code < H.n + 1 + 1 + 1 + 1 := by omega
  have hl5_code : b_code < H.n + 1 + 1 + 1 + 1 + 1 := by omega
  have hl6_code : b_code < H.n + 1 + 1 + 1 + 1 + 1 + 1 := by omega
  have hl7_code : b_code < H.n + 1 + 1 + 1 + 1 + 1 + 1 + 1 := by omega
  obtain ⟨hsr, hsp, hst, hss, hsk⟩ := hs_of hwf
  have hon_u := hat_u.on
  have hb_u : b_u < H.n := (hwf b_u k_u hat_u.blk).1
  have hne_u : (b_u = H.n) = False := eq_false (by omega)
  have hne1_u : ∀ i, (b_u = H.n + i) = False := fun i => eq_false (by omega)
  have hne2_u := ne2_of (a := b_u) (b := H.n) (by omega)
  have hl0_u : b_u < H.n := by omega
  have hl1_u : b_u < H.n + 1 := by omega
  have hl2_u : b_u < H.n + 1 + 1 := by omega
  have hl3_u : b_u < H.n + 1 + 1 + 1 := by omega
  have hl4_u : b_u < H.n + 1 + 1 + 1 + 1 := by omega
  have hl5_u : b_u < H.n + 1 + 1 + 1 + 1 + 1 := by omega
  have hl6_u : b_u < H.n + 1 + 1 + 1 + 1 + 1 + 1 := by omega
  have hl7_u : b_u < H.n + 1 + 1 + 1 + 1 + 1 + 1 + 1 := by omega
  have hb_ts : b_ts < H.n := (hwf b_ts k_ts hat_ts.blk).1
  have hne_ts : (b_ts = H.n) = False := eq_false (by omega)
  have hne1_ts : ∀ i, (b_ts = H.n + i) = False := fun i => eq_false (by omega)
  have hne2_ts := ne2_of (a := b_ts) (b := H.n) (by omega)
  have hl0_ts : b_ts < H.n := by omega
  have hl1_ts : b_ts < H.n + 1 := by omega
  have hl2_ts : b_ts < H.n + 1 + 1 := by omega
  have hl3_ts : b_ts < H.n + 1 + 1 + 1 := by omega
  have hl4_ts : b_ts < H.n + 1 + 1 + 1 + 1 := by omega
  have hl5_ts : b_ts < H.n + 1 + 1 + 1 + 1 + 1 := by omega
  have hl6_ts : b_ts < H.n + 1 + 1 + 1 + 1 + 1 + 1 := by omega
  have hl7_ts : b_ts < H.n + 1 + 1 + 1 + 1 + 1 + 1 + 1 := by omega
  simp (config := {contextual := true, implicitDefEqProofs := false, maxSteps := 2000000}) [-Int.not_le, -Int.not_lt, argsF, laws_FnSightings_t15, hat_u.blk, hat_u.esz, hat_u.len, hon_u, hne_u, hne1_u, hne2_u, hsr, hsp, hst, hss, hsk]
  refine laws_FnSightings_loop4 hwf0 hs0 hwf hat0_code hat_u hat_ts hall fun v => ?_
  clear hall
  simp (config := {contextual := true, implicitDefEqProofs := false, maxSteps := 2000000}) [-Int.not_le, -Int.not_lt, argsF, laws_FnSightings_t15]
  exact laws_FnSightings_p16 hwf0 hs0 hwf hat0_code h hcl hI0 rfl

theorem laws_FnSightings_p11 {H0 H : AHeap} {K : AV → AHeap → Prop} {b_code i_code : Nat} {k_code : ABlk} {code : List UInt8} (hwf0 : H0.WF) (hs0 : Sub H0 H) (hwf : H.WF) (hat0_code : eU.At H0 b_code i_code k_code code) (h : K (.c (.bool true)) H0) {b_u i_u : Nat} {k_u : ABlk} {u : List Si} (hat_u : eSi.At H b_u i_u k_u u) {m id : Int} (hqu : ∀ p ∈ u, shS p) (hlu : u.length ≤ 12) (hcl : code.length ≤ 65536) (hI0 : ∀ w, H0.I w → tabI w)  {F : AFrame} (hF : F.keep [0, 25, 26, 27] = [(0, .c (.sl b_code i_code code.length)), (25, .c (.sl b_u i_u u.length)), (26, .c (.int .i64 (m))), (27, .c (.int .i64 (id)))]) : avc Tryz.prog [(4, q_rBig), (5, q_DAr), (6, q_sp), (7, q_sp), (8, q_evOf), (9, q_DCv), (10, q_dp), (11, q_dp), (12, q_eqII), (13, q_DTr), (14, q_tr), (15, q_tr), (16, q_rInts), (17, q_ys), (18, q_ys), (19, q_rHas), (20, q_DAd), (21, q_ad), (22, q_ad), (23, q_DSt), (24, q_st), (25, q_st), (26, q_eqSis)] 368 H0.n laws_FnSightings_t11 F H (endK Tryz.prog H0.n [.tmp 2] K) := by
  refine (show avc _ _ _ _ _ _ _ _ = _ from avc_cut _ _).mpr ?_
  rw [hF]
  have hat_code : eU.At H b_code i_code k_code code := ⟨hs0.1.2 _ _ hat0_code.blk, hat0_code.esz, hat0_code.len, hat0_code.els⟩
  have hE := soundE_cons laws_rBig_s (soundE_cons spec_DrawStrongestPair_s (soundE_cons impl_StrongestPair_s (soundE_cons spec_StrongestPair_s (soundE_cons impl_EvidenceOf_s (soundE_cons spec_DrawDoubtfulPairs_s (soundE_cons impl_DoubtfulPairs_s (soundE_cons spec_DoubtfulPairs_s (soundE_cons laws_rTable_s (soundE_cons spec_DrawTraitsSeen_s (soundE_cons impl_TraitsSeen_s (soundE_cons spec_TraitsSeen_s (soundE_cons laws_rInts_s (soundE_cons impl_YearsSeen_s (soundE_cons spec_YearsSeen_s (soundE_cons laws_rHas_s (soundE_cons spec_DrawAddSighting_s (soundE_cons impl_AddSighting_s (soundE_cons spec_AddSighting_s (soundE_cons spec_DrawSightingText_s (soundE_cons impl_SightingText_s (soundE_cons spec_SightingText_s (soundE_cons laws_rSightings_s (soundE_nil (P := Tryz.prog))))))))))))))))))))))))
  have hn0 : H0.n ≤ H.n := hs0.1.1
  have hb_code : b_code < H.n := (hwf b_code k_code hat_code.blk).1
  have hne_code : (b_code = H.n) = False := eq_false (by omega)
  have hne1_code : ∀ i, (b_code = H.n + i) = False := fun i => eq_false (by omega)
  have hne2_code := ne2_of (a := b_code) (b := H.n) (by omega)
  have hmx_code : code.length ≤ 9223372036854775807 := by have h1 := (hwf b_code k_code hat_code.blk).2.2; have h2 := hat_code.len; omega
  have hl0_code : b_code < H.n := by omega
  have hl1_code : b_code < H.n + 1 := by omega
  have hl2_code : b_code < H.n + 1 + 1 := by omega
  have hl3_code : b_code < H.n + 1 + 1 + 1 := by omega
  have hl4_code : b_code < H.n + 1 + 1 + 1 + 1 := by omega
  have hl5_code : b_code < H.n + 1 + 1 + 1 + 1 + 1 := by omega
  have hl6_code : b_code < H.n + 1 + 1 + 1 + 1 + 1 + 1 := by omega
  have hl7_code : b_code < H.n + 1 + 1 + 1 + 1 + 1 + 1 + 1 := by omega
  obtain ⟨hsr, hsp, hst, hss, hsk⟩ := hs_of hwf
  have hon_u := hat_u.on
  have hb_u : b_u < H.n := (hwf b_u k_u hat_u.blk).1
  have hne_u : (b_u = H.n) = False := eq_false (by omega)
  have hne1_u : ∀ i, (b_u = H.n + i) = False := fun i => eq_false (by omega)
  have hne2_u := ne2_of (a := b_u) (b := H.n) (by omega)
  have hl0_u : b_u < H.n := by omega
  have hl1_u : b_u < H.n + 1 := by omega
  have hl2_u : b_u < H.n + 1 + 1 := by omega
  have hl3_u : b_u < H.n + 1 + 1 + 1 := by omega
  have hl4_u : b_u < H.n + 1 + 1 + 1 + 1 := by omega
  have hl5_u : b_u < H.n + 1 + 1 + 1 + 1 + 1 := by omega
  have hl6_u : b_u < H.n + 1 + 1 + 1 + 1 + 1 + 1 := by omega
  have hl7_u : b_u < H.n + 1 + 1 + 1 + 1 + 1 + 1 + 1 := by omega
  have hqt : ∀ p ∈ u, p.traits.length ≤ 1048576 := fun p hp => by have := (hqu p hp).1; omega
  have hty := ty_ok u m id
  have hta : (trRes u m id).2 = true → ∀ (i : Nat) (hk : i < u.length), u[i].id = id → (ysRes u m id).1 ≤ u[i].year ∧ u[i].year ≤ (ysRes u m id).2.1 ∧ ∀ t ∈ u[i].traits, ((trRes u m id).1.any fun x => decide (x = t)) = true := fun h i hk e => tr_all h hk e
  have htl := trRes_len u m id
  generalize hts : (trRes u m id).1 = ts at hta htl
  generalize hto : (trRes u m id).2 = o at hta hty
  have hp2 : ∀ k k', SubE H ((H.push k).push k') := fun k k' => hsp _ k' (by simp only [push_n]; omega) (hsp _ k (Nat.le_refl _) hsr)
  simp (config := {contextual := true, implicitDefEqProofs := false, maxSteps := 2000000}) [-Int.not_le, -Int.not_lt, argsF, laws_FnSightings_t11, laws_FnSightings_t12, laws_FnSightings_t13, laws_FnSightings_t14, hat_u.blk, hat_u.esz, hat_u.len, hon_u, hne_u, hne1_u, hne2_u, hsr, hsp, hst, hss, hsk, hp2, hqt, rowK, Enc.decL_map, hts, hto, hty, ite_self]
  refine laws_FnSightings_p15 hwf0 (by (repeat first | exact Sub.refl _ | refine Sub.push hwf0 ?_ _ | refine Sub.set hwf0 ?_ (by first | exact Nat.le_refl _ | omega | (simp only [push_n, set_n, kill_n]; omega)) _ | refine Sub.kill hwf0 ?_ (by first | exact Nat.le_refl _ | omega | (simp only [push_n, set_n, kill_n]; omega))); exact hs0) (by repeat first | exact hwf | refine WF.push ?_ (plain_map (fun _ => rfl) _) (by first | (simp; done) | (simp; omega) | (simp only [List.length_map]; omega))) hat0_code h (hat_u.sub (by (repeat first | exact Sub.refl _ | refine Sub.push hwf ?_ _ | refine Sub.set hwf ?_ (by first | exact Nat.le_refl _ | omega | (simp only [push_n, set_n, kill_n]; omega)) _ | refine Sub.kill hwf ?_ (by first | exact Nat.le_refl _ | omega | (simp only [push_n, set_n, kill_n]; omega))))) (row_at (b := H.n) (l := ts) (by simp [push_b, rowK])) hta hcl hI0 rfl

theorem laws_FnSightings_p10 {H0 H : AHeap} {K : AV → AHeap → Prop} {b_code i_code : Nat} {k_code : ABlk} {code : List UInt8} (hwf0 : H0.WF) (hs0 : Sub H0 H) (hwf : H.WF) (hat0_code : eU.At H0 b_code i_code k_code code) (h : K (.c (.bool true)) H0) (hcl : code.length ≤ 65536) (hI0 : ∀ w, H0.I w → tabI w)  {F : AFrame} (hF : F.keep [0] = [(0, .c (.sl b_code i_code code.length))]) : avc Tryz.prog [(4, q_rBig), (5, q_DAr), (6, q_sp), (7, q_sp), (8, q_evOf), (9, q_DCv), (10, q_dp), (11, q_dp), (12, q_eqII), (13, q_DTr), (14, q_tr), (15, q_tr), (16, q_rInts), (17, q_ys), (18, q_ys), (19, q_rHas), (20, q_DAd), (21, q_ad), (22, q_ad), (23, q_DSt), (24, q_st), (25, q_st), (26, q_eqSis)] 368 H0.n laws_FnSightings_t10 F H (endK Tryz.prog H0.n [.tmp 2] K) := by
  refine (show avc _ _ _ _ _ _ _ _ = _ from avc_cut _ _).mpr ?_
  rw [hF]
  have hat_code : eU.At H b_code i_code k_code code := ⟨hs0.1.2 _ _ hat0_code.blk, hat0_code.esz, hat0_code.len, hat0_code.els⟩
  have hE := soundE_cons laws_rBig_s (soundE_cons spec_DrawStrongestPair_s (soundE_cons impl_StrongestPair_s (soundE_cons spec_StrongestPair_s (soundE_cons impl_EvidenceOf_s (soundE_cons spec_DrawDoubtfulPairs_s (soundE_cons impl_DoubtfulPairs_s (soundE_cons spec_DoubtfulPairs_s (soundE_cons laws_rTable_s (soundE_cons spec_DrawTraitsSeen_s (soundE_cons impl_TraitsSeen_s (soundE_cons spec_TraitsSeen_s (soundE_cons laws_rInts_s (soundE_cons impl_YearsSeen_s (soundE_cons spec_YearsSeen_s (soundE_cons laws_rHas_s (soundE_cons spec_DrawAddSighting_s (soundE_cons impl_AddSighting_s (soundE_cons spec_AddSighting_s (soundE_cons spec_DrawSightingText_s (soundE_cons impl_SightingText_s (soundE_cons spec_SightingText_s (soundE_cons laws_rSightings_s (soundE_nil (P := Tryz.prog))))))))))))))))))))))))
  have hn0 : H0.n ≤ H.n := hs0.1.1
  have hb_code : b_code < H.n := (hwf b_code k_code hat_code.blk).1
  have hne_code : (b_code = H.n) = False := eq_false (by omega)
  have hne1_code : ∀ i, (b_code = H.n + i) = False := fun i => eq_false (by omega)
  have hne2_code := ne2_of (a := b_code) (b := H.n) (by omega)
  have hmx_code : code.length ≤ 9223372036854775807 := by have h1 := (hwf b_code k_code hat_code.blk).2.2; have h2 := hat_code.len; omega
  have hl0_code : b_code < H.n := by omega
  have hl1_code : b_code < H.n + 1 := by omega
  have hl2_code : b_code < H.n + 1 + 1 := by omega
  have hl3_code : b_code < H.n + 1 + 1 + 1 := by omega
  have hl4_code : b_code < H.n + 1 + 1 + 1 + 1 := by omega
  have hl5_code : b_code < H.n + 1 + 1 + 1 + 1 + 1 := by omega
  have hl6_code : b_code < H.n + 1 + 1 + 1 + 1 + 1 + 1 := by omega
  have hl7_code : b_code < H.n + 1 + 1 + 1 + 1 + 1 + 1 + 1 := by omega
  simp (config := {contextual := true, implicitDefEqProofs := false, maxSteps := 2000000}) [-Int.not_le, -Int.not_lt, argsF, laws_FnSightings_t10, hat_code.blk, hat_code.esz, hat_code.len, hat_code.els, hne_code, hne1_code, hne2_code, Enc.decL_map, hcl]
  refine Stop.mk fun H2 b2 k2 u m id hw2 hs2 hat2 hpl hsh => ?_
  have hb2 := (hw2 _ _ hat2.blk).1
  simp (config := {contextual := true, implicitDefEqProofs := false, maxSteps := 2000000}) [-Int.not_le, -Int.not_lt, argsF, laws_FnSightings_t10]
  exact laws_FnSightings_p11 hwf0 (hs0.trans hs2) hw2 hat0_code h hat2 hsh hpl hcl hI0 rfl

end Go.Proofs.YtafenginfojcmaaGreatDoor
set_option maxRecDepth 8000
set_option linter.unusedSimpArgs false
set_option linter.unusedVariables false
namespace Go.Proofs.YtafenginfojcmaaGreatDoor
open Go Go.RowKit

set_option maxHeartbeats 4000000

theorem laws_FnSightings_loop2 {H0 H : AHeap} {b_code i_code : Nat} {k_code : ABlk} {code : List UInt8} (hwf0 : H0.WF) (hs0 : Sub H0 H) (hwf : H.WF) (hat0_code : eU.At H0 b_code i_code k_code code) {b_u i_u : Nat} {k_u : ABlk} {u : List Si} (hat_u : eSi.At H b_u i_u k_u u) {b_R i_R : Nat} {k_R : ABlk} {R : List (List Int)} (hat_R : eII.At H b_R i_R k_R R) {m : Int} (hqu : ∀ p ∈ u, shS p) (hlu : u.length ≤ 12) (hRL : ∀ g ∈ R, ∃ x y : Int, g = [x, y] ∧ (evOf u x y).2 = true ∧ (evOf u x y).1 < m) {Q : Exit → AFrame → AHeap → Prop} (hfin : Q (.exit 4) [(0, .c (.sl b_code i_code code.length)), (16, .c (.sl b_u i_u u.length)), (17, .c (.int .i64 (m))), (18, .c (.sl b_R i_R R.length)), (22, .c (.int .i64 ((R.length : Int)))), (159, .c (.bool (false)))] H) : ALoop Tryz.prog 368 H0.n laws_FnSightings_l2 [(0, .c (.sl b_code i_code code.length)), (16, .c (.sl b_u i_u u.length)), (17, .c (.int .i64 (m))), (18, .c (.sl b_R i_R R.length)), (22, .c (.int .i64 (0)))] H Q := by
  have hat_code : eU.At H b_code i_code k_code code := ⟨hs0.1.2 _ _ hat0_code.blk, hat0_code.esz, hat0_code.len, hat0_code.els⟩
  have hE := soundE_cons laws_rBig_s (soundE_cons spec_DrawStrongestPair_s (soundE_cons impl_StrongestPair_s (soundE_cons spec_StrongestPair_s (soundE_cons impl_EvidenceOf_s (soundE_cons spec_DrawDoubtfulPairs_s (soundE_cons impl_DoubtfulPairs_s (soundE_cons spec_DoubtfulPairs_s (soundE_cons laws_rTable_s (soundE_cons spec_DrawTraitsSeen_s (soundE_cons impl_TraitsSeen_s (soundE_cons spec_TraitsSeen_s (soundE_cons laws_rInts_s (soundE_cons impl_YearsSeen_s (soundE_cons spec_YearsSeen_s (soundE_cons laws_rHas_s (soundE_cons spec_DrawAddSighting_s (soundE_cons impl_AddSighting_s (soundE_cons spec_AddSighting_s (soundE_cons spec_DrawSightingText_s (soundE_cons impl_SightingText_s (soundE_cons spec_SightingText_s (soundE_cons laws_rSightings_s (soundE_nil (P := Tryz.prog))))))))))))))))))))))))
  have hn0 : H0.n ≤ H.n := hs0.1.1
  have hb_code : b_code < H.n := (hwf b_code k_code hat_code.blk).1
  have hne_code : (b_code = H.n) = False := eq_false (by omega)
  have hne1_code : ∀ i, (b_code = H.n + i) = False := fun i => eq_false (by omega)
  have hne2_code := ne2_of (a := b_code) (b := H.n) (by omega)
  have hmx_code : code.length ≤ 9223372036854775807 := by have h1 := (hwf b_code k_code hat_code.blk).2.2; have h2 := hat_code.len; omega
  have hl0_code : b_code < H.n := by omega
  have hl1_code : b_code < H.n + 1 := by omega
  have hl2_code : b_code < H.n + 1 + 1 := by omega
  have hl3_code : b_code < H.n + 1 + 1 + 1 := by omega
  have hl4_code : b_code < H.n + 1 + 1 + 1 + 1 := by omega
  have hl5_code : b_code < H.n + 1 + 1 + 1 + 1 + 1 := by omega
  have hl6_code : b_code < H.n + 1 + 1 + 1 + 1 + 1 + 1 := by omega
  have hl7_code : b_code < H.n + 1 + 1 + 1 + 1 + 1 + 1 + 1 := by omega
  obtain ⟨hsr, hsp, hst, hss, hsk⟩ := hs_of hwf
  have hon_u := hat_u.on
  have hb_u : b_u < H.n := (hwf b_u k_u hat_u.blk).1
  have hne_u : (b_u = H.n) = False := eq_false (by omega)
  have hne1_u : ∀ i, (b_u = H.n + i) = False := fun i => eq_false (by omega)
  have hne2_u := ne2_of (a := b_u) (b := H.n) (by omega)
  have hl0_u : b_u < H.n := by omega
  have hl1_u : b_u < H.n + 1 := by omega
  have hl2_u : b_u < H.n + 1 + 1 := by omega
  have hl3_u : b_u < H.n + 1 + 1 + 1 := by omega
  have hl4_u : b_u < H.n + 1 + 1 + 1 + 1 := by omega
  have hl5_u : b_u < H.n + 1 + 1 + 1 + 1 + 1 := by omega
  have hl6_u : b_u < H.n + 1 + 1 + 1 + 1 + 1 + 1 := by omega
  have hl7_u : b_u < H.n + 1 + 1 + 1 + 1 + 1 + 1 + 1 := by omega
  have hon_R := hat_R.on
  have hb_R : b_R < H.n := (hwf b_R k_R hat_R.blk).1
  have hne_R : (b_R = H.n) = False := eq_false (by omega)
  have hne1_R : ∀ i, (b_R = H.n + i) = False := fun i => eq_false (by omega)
  have hne2_R := ne2_of (a := b_R) (b := H.n) (by omega)
  have hl0_R : b_R < H.n := by omega
  have hl1_R : b_R < H.n + 1 := by omega
  have hl2_R : b_R < H.n + 1 + 1 := by omega
  have hl3_R : b_R < H.n + 1 + 1 + 1 := by omega
  have hl4_R : b_R < H.n + 1 + 1 + 1 + 1 := by omega
  have hl5_R : b_R < H.n + 1 + 1 + 1 + 1 + 1 := by omega
  have hl6_R : b_R < H.n + 1 + 1 + 1 + 1 + 1 + 1 := by omega
  have hl7_R : b_R < H.n + 1 + 1 + 1 + 1 + 1 + 1 + 1 := by omega
  have hqt : ∀ p ∈ u, p.traits.length ≤ 1048576 := fun p hp => by have := (hqu p hp).1; omega
  refine aloop_heap (X := Nat) (fun j => [(0, .c (.sl b_code i_code code.length)), (16, .c (.sl b_u i_u u.length)), (17, .c (.int .i64 (m))), (18, .c (.sl b_R i_R R.length)), (22, .c (.int .i64 ((j : Int))))]) (fun _ => H) (fun j => j ≤ R.length) (fun j => R.length - j) hE _ 0 (Nat.zero_le _) (fun hw0 => .since hn0 hw0 (.refl _) (by simp [frOk, AV.okR, AV.ok1, AC.okR, AV.ren, AV.ren1, AC.ren, AFrame.get, pl1_old, hl0_code, hl1_code, hl2_code, hl3_code, hl4_code, hl5_code, hl6_code, hl7_code, hl0_u, hl1_u, hl2_u, hl3_u, hl4_u, hl5_u, hl6_u, hl7_u, hl0_R, hl1_R, hl2_R, hl3_R, hl4_R, hl5_R, hl6_R, hl7_R]; first | done | omega)) (fun j hj hwx => ?_)
  have hmR : R.length ≤ 9223372036854775807 := by have h1 := (hwf _ _ hat_R.blk).2.2; have h2 := hat_R.len; omega
  rcases Nat.lt_or_ge j R.length with hlt | hge
  rotate_left
  · have hj0 : j = R.length := by omega
    subst hj0
    clear hRL
    simp (config := {contextual := true, implicitDefEqProofs := false, maxSteps := 2000000}) [-Int.not_le, -Int.not_lt, argsF, laws_FnSightings_l2, hat_R.blk, hat_R.esz, hat_R.len, hon_R, hne_R, hne1_R, hne2_R, hsr, hsp, hst, hss, hsk]
    exact hfin
  · have hj1 := idx_lt hlt
    have w1 : IntKind.i64.wrap ((j : Int) + 1) = (j : Int) + 1 := wrap_id (by omega) (by omega)
    obtain ⟨ex_x, e_x, hd_x⟩ := hat_R.get hlt
    obtain ⟨b_x, i_x, k_x, rfl, hat_x, htx_x⟩ := eII_at3 hd_x
    have hb_x : b_x < H.n := (hwf b_x k_x hat_x.blk).1
    have hne_x : (b_x = H.n) = False := eq_false (by omega)
    have hne1_x : ∀ i, (b_x = H.n + i) = False := fun i => eq_false (by omega)
    have hne2_x := ne2_of (a := b_x) (b := H.n) (by omega)
    obtain ⟨a, c, hg, h1, h2⟩ := hRL _ (List.getElem_mem hlt)
    clear hRL
    rw [hg] at hat_x e_x
    have er0 := hat_x.get (j := 0) (by simp)
    have er1 := hat_x.get (j := 1) (by simp)
    rw [Nat.add_zero] at er0
    simp only [List.getElem_cons_zero, List.getElem_cons_succ] at er0 er1
    have h2' : ¬ m ≤ (evOf u a c).1 := by omega
    simp (config := {contextual := true, implicitDefEqProofs := false, maxSteps := 2000000}) [-Int.not_le, -Int.not_lt, argsF, laws_FnSightings_l2, hat_R.blk, hat_R.esz, hat_R.len, hon_R, hne_R, hne1_R, hne2_R, hat_u.blk, hat_u.esz, hat_u.len, hon_u, hne_u, hne1_u, hne2_u, hsr, hsp, hst, hss, hsk, e_x, hat_x.blk, hat_x.esz, hat_x.len, hat_x.els, hne_x, hne1_x, hne2_x, hb_x, hj1, hlt, er0, er1, hqt, h1, h2', w1]
    exact ⟨fun hw => ⟨j + 1, by omega, by omega, .since hn0 hw (.refl _) (by simp [frOk, AV.okR, AV.ok1, AC.okR, AV.ren, AV.ren1, AC.ren, AFrame.get, pl1_old, hl0_code, hl1_code, hl2_code, hl3_code, hl4_code, hl5_code, hl6_code, hl7_code, hl0_u, hl1_u, hl2_u, hl3_u, hl4_u, hl5_u, hl6_u, hl7_u, hl0_R, hl1_R, hl2_R, hl3_R, hl4_R, hl5_R, hl6_R, hl7_R]; first | done | omega)⟩⟩

theorem laws_FnSightings_p9 {H0 H : AHeap} {K : AV → AHeap → Prop} {b_code i_code : Nat} {k_code : ABlk} {code : List UInt8} (hwf0 : H0.WF) (hs0 : Sub H0 H) (hwf : H.WF) (hat0_code : eU.At H0 b_code i_code k_code code) (h : K (.c (.bool true)) H0) {b_u i_u : Nat} {k_u : ABlk} {u : List Si} (hat_u : eSi.At H b_u i_u k_u u) {b_R i_R : Nat} {k_R : ABlk} {R : List (List Int)} (hat_R : eII.At H b_R i_R k_R R) {m : Int} (hqu : ∀ p ∈ u, shS p) (hlu : u.length ≤ 12) (hRL : ∀ g ∈ R, ∃ x y : Int, g = [x, y] ∧ (evOf u x y).2 = true ∧ (evOf u x y).1 < m) (hcl : code.length ≤ 65536) (hI0 : ∀ w, H0.I w → tabI w)  {F : AFrame} (hF : F.keep [0, 16, 17, 18] = [(0, .c (.sl b_code i_code code.length)), (16, .c (.sl b_u i_u u.length)), (17, .c (.int .i64 (m))), (18, .c (.sl b_R i_R R.length))]) : avc Tryz.prog [(4, q_rBig), (5, q_DAr), (6, q_sp), (7, q_sp), (8, q_evOf), (9, q_DCv), (10, q_dp), (11, q_dp), (12, q_eqII), (13, q_DTr), (14, q_tr), (15, q_tr), (16, q_rInts), (17, q_ys), (18, q_ys), (19, q_rHas), (20, q_DAd), (21, q_ad), (22, q_ad), (23, q_DSt), (24, q_st), (25, q_st), (26, q_eqSis)] 368 H0.n laws_FnSightings_t9 F H (endK Tryz.prog H0.n [.tmp 2] K) := by
  refine (show avc _ _ _ _ _ _ _ _ = _ from avc_cut _ _).mpr ?_
  rw [hF]
  have hat_code : eU.At H b_code i_code k_code code := ⟨hs0.1.2 _ _ hat0_code.blk, hat0_code.esz, hat0_code.len, hat0_code.els⟩
  have hE := soundE_cons laws_rBig_s (soundE_cons spec_DrawStrongestPair_s (soundE_cons impl_StrongestPair_s (soundE_cons spec_StrongestPair_s (soundE_cons impl_EvidenceOf_s (soundE_cons spec_DrawDoubtfulPairs_s (soundE_cons impl_DoubtfulPairs_s (soundE_cons spec_DoubtfulPairs_s (soundE_cons laws_rTable_s (soundE_cons spec_DrawTraitsSeen_s (soundE_cons impl_TraitsSeen_s (soundE_cons spec_TraitsSeen_s (soundE_cons laws_rInts_s (soundE_cons impl_YearsSeen_s (soundE_cons spec_YearsSeen_s (soundE_cons laws_rHas_s (soundE_cons spec_DrawAddSighting_s (soundE_cons impl_AddSighting_s (soundE_cons spec_AddSighting_s (soundE_cons spec_DrawSightingText_s (soundE_cons impl_SightingText_s (soundE_cons spec_SightingText_s (soundE_cons laws_rSightings_s (soundE_nil (P := Tryz.prog))))))))))))))))))))))))
  have hn0 : H0.n ≤ H.n := hs0.1.1
  have hb_code : b_code < H.n := (hwf b_code k_code hat_code.blk).1
  have hne_code : (b_code = H.n) = False := eq_false (by omega)
  have hne1_code : ∀ i, (b_code = H.n + i) = False := fun i => eq_false (by omega)
  have hne2_code := ne2_of (a := b_code) (b := H.n) (by omega)
  have hmx_code : code.length ≤ 9223372036854775807 := by have h1 := (hwf b_code k_code hat_code.blk).2.2; have h2 := hat_code.len; omega
  have hl0_code : b_code < H.n := by omega
  have hl1_code : b_code < H.n + 1 := by omega
  have hl2_code : b_code < H.n + 1 + 1 := by omega
  have hl3_code : b_code < H.n + 1 + 1 + 1 := by omega
  have hl4_code : b_code < H.n + 1 + 1 + 1 + 1 := by omega
  have hl5_code : b_code < H.n + 1 + 1 + 1 + 1 + 1 := by omega
  have hl6_code : b_code < H.n + 1 + 1 + 1 + 1 + 1 + 1 := by omega
  have hl7_code : b_code < H.n + 1 + 1 + 1 + 1 + 1 + 1 + 1 := by omega
  obtain ⟨hsr, hsp, hst, hss, hsk⟩ := hs_of hwf
  have hon_u := hat_u.on
  have hb_u : b_u < H.n := (hwf b_u k_u hat_u.blk).1
  have hne_u : (b_u = H.n) = False := eq_false (by omega)
  have hne1_u : ∀ i, (b_u = H.n + i) = False := fun i => eq_false (by omega)
  have hne2_u := ne2_of (a := b_u) (b := H.n) (by omega)
  have hl0_u : b_u < H.n := by omega
  have hl1_u : b_u < H.n + 1 := by omega
  have hl2_u : b_u < H.n + 1 + 1 := by omega
  have hl3_u : b_u < H.n + 1 + 1 + 1 := by omega
  have hl4_u : b_u < H.n + 1 + 1 + 1 + 1 := by omega
  have hl5_u : b_u < H.n + 1 + 1 + 1 + 1 + 1 := by omega
  have hl6_u : b_u < H.n + 1 + 1 + 1 + 1 + 1 + 1 := by omega
  have hl7_u : b_u < H.n + 1 + 1 + 1 + 1 + 1 + 1 + 1 := by omega
  have hon_R := hat_R.on
  have hb_R : b_R < H.n := (hwf b_R k_R hat_R.blk).1
  have hne_R : (b_R = H.n) = False := eq_false (by omega)
  have hne1_R : ∀ i, (b_R = H.n + i) = False := fun i => eq_false (by omega)
  have hne2_R := ne2_of (a := b_R) (b := H.n) (by omega)
  have hl0_R : b_R < H.n := by omega
  have hl1_R : b_R < H.n + 1 := by omega
  have hl2_R : b_R < H.n + 1 + 1 := by omega
  have hl3_R : b_R < H.n + 1 + 1 + 1 := by omega
  have hl4_R : b_R < H.n + 1 + 1 + 1 + 1 := by omega
  have hl5_R : b_R < H.n + 1 + 1 + 1 + 1 + 1 := by omega
  have hl6_R : b_R < H.n + 1 + 1 + 1 + 1 + 1 + 1 := by omega
  have hl7_R : b_R < H.n + 1 + 1 + 1 + 1 + 1 + 1 + 1 := by omega
  simp (config := {contextual := true, implicitDefEqProofs := false, maxSteps := 2000000}) [-Int.not_le, -Int.not_lt, argsF, laws_FnSightings_t9, hat_R.blk, hat_R.esz, hat_R.len, hon_R, hne_R, hne1_R, hne2_R, hsr, hsp, hst, hss, hsk]
  refine laws_FnSightings_loop2 hwf0 hs0 hwf hat0_code hat_u hat_R hqu hlu hRL ?_
  clear hRL
  simp (config := {contextual := true, implicitDefEqProofs := false, maxSteps := 2000000}) [-Int.not_le, -Int.not_lt, argsF, laws_FnSightings_t9]
  exact laws_FnSightings_p10 hwf0 hs0 hwf hat0_code h hcl hI0 rfl

theorem laws_FnSightings_p7 {H0 H : AHeap} {K : AV → AHeap → Prop} {b_code i_code : Nat} {k_code : ABlk} {code : List UInt8} (hwf0 : H0.WF) (hs0 : Sub H0 H) (hwf : H.WF) (hat0_code : eU.At H0 b_code i_code k_code code) (h : K (.c (.bool true)) H0) {b_u i_u : Nat} {k_u : ABlk} {u : List Si} (hat_u : eSi.At H b_u i_u k_u u) {m : Int} (hqu : ∀ p ∈ u, shS p) (hlu : u.length ≤ 12) (hcl : code.length ≤ 65536) (hI0 : ∀ w, H0.I w → tabI w)  {F : AFrame} (hF : F.keep [0, 16, 17] = [(0, .c (.sl b_code i_code code.length)), (16, .c (.sl b_u i_u u.length)), (17, .c (.int .i64 (m)))]) : avc Tryz.prog [(4, q_rBig), (5, q_DAr), (6, q_sp), (7, q_sp), (8, q_evOf), (9, q_DCv), (10, q_dp), (11, q_dp), (12, q_eqII), (13, q_DTr), (14, q_tr), (15, q_tr), (16, q_rInts), (17, q_ys), (18, q_ys), (19, q_rHas), (20, q_DAd), (21, q_ad), (22, q_ad), (23, q_DSt), (24, q_st), (25, q_st), (26, q_eqSis)] 368 H0.n laws_FnSightings_t7 F H (endK Tryz.prog H0.n [.tmp 2] K) := by
  refine (show avc _ _ _ _ _ _ _ _ = _ from avc_cut _ _).mpr ?_
  rw [hF]
  have hat_code : eU.At H b_code i_code k_code code := ⟨hs0.1.2 _ _ hat0_code.blk, hat0_code.esz, hat0_code.len, hat0_code.els⟩
  have hE := soundE_cons laws_rBig_s (soundE_cons spec_DrawStrongestPair_s (soundE_cons impl_StrongestPair_s (soundE_cons spec_StrongestPair_s (soundE_cons impl_EvidenceOf_s (soundE_cons spec_DrawDoubtfulPairs_s (soundE_cons impl_DoubtfulPairs_s (soundE_cons spec_DoubtfulPairs_s (soundE_cons laws_rTable_s (soundE_cons spec_DrawTraitsSeen_s (soundE_cons impl_TraitsSeen_s (soundE_cons spec_TraitsSeen_s (soundE_cons laws_rInts_s (soundE_cons impl_YearsSeen_s (soundE_cons spec_YearsSeen_s (soundE_cons laws_rHas_s (soundE_cons spec_DrawAddSighting_s (soundE_cons impl_AddSighting_s (soundE_cons spec_AddSighting_s (soundE_cons spec_DrawSightingText_s (soundE_cons impl_SightingText_s (soundE_cons spec_SightingText_s (soundE_cons laws_rSightings_s (soundE_nil (P := Tryz.prog))))))))))))))))))))))))
  have hn0 : H0.n ≤ H.n := hs0.1.1
  have hb_code : b_code < H.n := (hwf b_code k_code hat_code.blk).1
  have hne_code : (b_code = H.n) = False := eq_false (by omega)
  have hne1_code : ∀ i, (b_code = H.n + i) = False := fun i => eq_false (by omega)
  have hne2_code := ne2_of (a := b_code) (b := H.n) (by omega)
  have hmx_code : code.length ≤ 9223372036854775807 := by have h1 := (hwf b_code k_code hat_code.blk).2.2; have h2 := hat_code.len; omega
  have hl0_code : b_code < H.n := by omega
  have hl1_code : b_code < H.n + 1 := by omega
  have hl2_code : b_code < H.n + 1 + 1 := by omega
  have hl3_code : b_code < H.n + 1 + 1 + 1 := by omega
  have hl4_code : b_code < H.n + 1 + 1 + 1 + 1 := by omega
  have hl5_code : b_code < H.n + 1 + 1 + 1 + 1 + 1 := by omega
  have hl6_code : b_code < H.n + 1 + 1 + 1 + 1 + 1 + 1 := by omega
  have hl7_code : b_code < H.n + 1 + 1 + 1 + 1 + 1 + 1 + 1 := by omega
  obtain ⟨hsr, hsp, hst, hss, hsk⟩ := hs_of hwf
  have hon_u := hat_u.on
  have hb_u : b_u < H.n := (hwf b_u k_u hat_u.blk).1
  have hne_u : (b_u = H.n) = False := eq_false (by omega)
  have hne1_u : ∀ i, (b_u = H.n + i) = False := fun i => eq_false (by omega)
  have hne2_u := ne2_of (a := b_u) (b := H.n) (by omega)
  have hl0_u : b_u < H.n := by omega
  have hl1_u : b_u < H.n + 1 := by omega
  have hl2_u : b_u < H.n + 1 + 1 := by omega
  have hl3_u : b_u < H.n + 1 + 1 + 1 := by omega
  have hl4_u : b_u < H.n + 1 + 1 + 1 + 1 := by omega
  have hl5_u : b_u < H.n + 1 + 1 + 1 + 1 + 1 := by omega
  have hl6_u : b_u < H.n + 1 + 1 + 1 + 1 + 1 + 1 := by omega
  have hl7_u : b_u < H.n + 1 + 1 + 1 + 1 + 1 + 1 + 1 := by omega
  have hqt : ∀ p ∈ u, p.traits.length ≤ 1048576 := fun p hp => by have := (hqu p hp).1; omega
  have hRL := dp_all (ps := u) (limit := m)
  simp (config := {contextual := true, implicitDefEqProofs := false, maxSteps := 2000000}) [-Int.not_le, -Int.not_lt, argsF, laws_FnSightings_t7, hat_u.blk, hat_u.esz, hat_u.len, hon_u, hne_u, hne1_u, hne2_u, hsr, hsp, hst, hss, hsk, hqt]
  refine Stop.mk fun HA bA csA hwA hsA hrA hgA => ?_
  have axA : ∃ k, eII.At HA bA 0 k (dpRes u m).1 := ⟨_, hrA.at⟩
  refine Exists.elim axA fun kA atA => ?_
  have atu := hat_u.sub hsA
  have ou := atu.on
  have lu := atu.len
  have sA := SubE.refl HA
  have sA2 := (SubE.refl HA).toRo
  have hbA := (hwA _ _ atA.blk).1
  have hbu := (hwA _ _ atu.blk).1
  have hbc := (hwA _ _ (hsA.1.2 _ _ hat_code.blk)).1
  simp (config := {contextual := true, implicitDefEqProofs := false, maxSteps := 2000000}) [-Int.not_le, -Int.not_lt, argsF, laws_FnSightings_t7, laws_FnSightings_t8, atu.blk, atu.esz, ou, lu, sA, sA2, hqt]
  refine Stop.mk fun HB bB csB hwB hsB hrB hgB => ?_
  have axB : ∃ k, eII.At HB bB 0 k (dpRes u m).1 := ⟨_, hrB.at⟩
  refine Exists.elim axB fun kB atB => ?_
  have atA2 := atA.sub hsB
  have oA := atA2.on
  have lA := atA2.len
  have oB := atB.on
  have lB := atB.len
  simp only [Nat.zero_add, List.drop_zero] at lB oB lA oA
  have sB := SubE.refl HB
  have sB2 := (SubE.refl HB).toRo
  have hbB := (hwB _ _ atB.blk).1
  have hbA2 := (hwB _ _ atA2.blk).1
  have hbu2 := (hwB _ _ (atu.sub hsB).blk).1
  have hbc2 := (hwB _ _ (hsB.1.2 _ _ (hsA.1.2 _ _ hat_code.blk))).1
  simp (config := {contextual := true, implicitDefEqProofs := false, maxSteps := 2000000}) [-Int.not_le, -Int.not_lt, argsF, laws_FnSightings_t8, atA2.blk, atA2.esz, oA, lA, atB.blk, atB.esz, oB, lB, sB, sB2, ite_self]
  exact laws_FnSightings_p9 hwf0 ((hs0.trans hsA).trans hsB) hwB hat0_code h (atu.sub hsB) atA2 hqu hlu hRL hcl hI0 rfl

theorem laws_FnSightings_p6 {H0 H : AHeap} {K : AV → AHeap → Prop} {b_code i_code : Nat} {k_code : ABlk} {code : List UInt8} (hwf0 : H0.WF) (hs0 : Sub H0 H) (hwf : H.WF) (hat0_code : eU.At H0 b_code i_code k_code code) (h : K (.c (.bool true)) H0) (hcl : code.length ≤ 65536) (hI0 : ∀ w, H0.I w → tabI w)  {F : AFrame} (hF : F.keep [0] = [(0, .c (.sl b_code i_code code.length))]) : avc Tryz.prog [(4, q_rBig), (5, q_DAr), (6, q_sp), (7, q_sp), (8, q_evOf), (9, q_DCv), (10, q_dp), (11, q_dp), (12, q_eqII), (13, q_DTr), (14, q_tr), (15, q_tr), (16, q_rInts), (17, q_ys), (18, q_ys), (19, q_rHas), (20, q_DAd), (21, q_ad), (22, q_ad), (23, q_DSt), (24, q_st), (25, q_st), (26, q_eqSis)] 368 H0.n laws_FnSightings_t6 F H (endK Tryz.prog H0.n [.tmp 2] K) := by
  refine (show avc _ _ _ _ _ _ _ _ = _ from avc_cut _ _).mpr ?_
  rw [hF]
  have hat_code : eU.At H b_code i_code k_code code := ⟨hs0.1.2 _ _ hat0_code.blk, hat0_code.esz, hat0_code.len, hat0_code.els⟩
  have hE := soundE_cons laws_rBig_s (soundE_cons spec_DrawStrongestPair_s (soundE_cons impl_StrongestPair_s (soundE_cons spec_StrongestPair_s (soundE_cons impl_EvidenceOf_s (soundE_cons spec_DrawDoubtfulPairs_s (soundE_cons impl_DoubtfulPairs_s (soundE_cons spec_DoubtfulPairs_s (soundE_cons laws_rTable_s (soundE_cons spec_DrawTraitsSeen_s (soundE_cons impl_TraitsSeen_s (soundE_cons spec_TraitsSeen_s (soundE_cons laws_rInts_s (soundE_cons impl_YearsSeen_s (soundE_cons spec_YearsSeen_s (soundE_cons laws_rHas_s (soundE_cons spec_DrawAddSighting_s (soundE_cons impl_AddSighting_s (soundE_cons spec_AddSighting_s (soundE_cons spec_DrawSightingText_s (soundE_cons impl_SightingText_s (soundE_cons spec_SightingText_s (soundE_cons laws_rSightings_s (soundE_nil (P := Tryz.prog))))))))))))))))))))))))
  have hn0 : H0.n ≤ H.n := hs0.1.1
  have hb_code : b_code < H.n := (hwf b_code k_code hat_code.blk).1
  have hne_code : (b_code = H.n) = False := eq_false (by omega)
  have hne1_code : ∀ i, (b_code = H.n + i) = False := fun i => eq_false (by omega)
  have hne2_code := ne2_of (a := b_code) (b := H.n) (by omega)
  have hmx_code : code.length ≤ 9223372036854775807 := by have h1 := (hwf b_code k_code hat_code.blk).2.2; have h2 := hat_code.len; omega
  have hl0_code : b_code < H.n := by omega
  have hl1_code : b_code < H.n + 1 := by omega
  have hl2_code : b_code < H.n + 1 + 1 := by omega
  have hl3_code : b_code < H.n + 1 + 1 + 1 := by omega
  have hl4_code : b_code < H.n + 1 + 1 + 1 + 1 := by omega
  have hl5_code : b_code < H.n + 1 + 1 + 1 + 1 + 1 := by omega
  have hl6_code : b_code < H.n + 1 + 1 + 1 + 1 + 1 + 1 := by omega
  have hl7_code : b_code < H.n + 1 + 1 + 1 + 1 + 1 + 1 + 1 := by omega
  simp (config := {contextual := true, implicitDefEqProofs := false, maxSteps := 2000000}) [-Int.not_le, -Int.not_lt, argsF, laws_FnSightings_t6, hat_code.blk, hat_code.esz, hat_code.len, hat_code.els, hne_code, hne1_code, hne2_code, Enc.decL_map, hcl]
  refine Stop.mk fun H2 b2 k2 u m hw2 hs2 hat2 hpl hsh => ?_
  have hb2 := (hw2 _ _ hat2.blk).1
  simp (config := {contextual := true, implicitDefEqProofs := false, maxSteps := 2000000}) [-Int.not_le, -Int.not_lt, argsF, laws_FnSightings_t6]
  exact laws_FnSightings_p7 hwf0 (hs0.trans hs2) hw2 hat0_code h hat2 hsh hpl hcl hI0 rfl

theorem laws_FnSightings_loop1 {H0 H : AHeap} {b_code i_code : Nat} {k_code : ABlk} {code : List UInt8} (hwf0 : H0.WF) (hs0 : Sub H0 H) (hwf : H.WF) (hat0_code : eU.At H0 b_code i_code k_code code) {b_ps i_ps : Nat} {k_ps : ABlk} {ps : List Si} (hat_ps : eSi.At H b_ps i_ps k_ps ps) {m : Int} {o : Bool} (hqps : ∀ p ∈ ps, shS p) (hlps : ps.length ≤ 12) (hall : o = true → ∀ (i k : Nat) (hik : i < k) (hk : k < ps.length), (evOf ps (ps[i]'(by omega)).id ps[k].id).2 = true ∧ ¬ m < (evOf ps (ps[i]'(by omega)).id ps[k].id).1) {Q : Exit → AFrame → AHeap → Prop} (hfin : ∀ (v : Int), Q (.exit 0) [(0, .c (.sl b_code i_code code.length)), (3, .c (.sl b_ps i_ps ps.length)), (6, .c (.int .i64 (m))), (7, .c (.bool (o))), (12, .c (.int .i64 (v))), (97, .c (.bool (false)))] H) : ALoop Tryz.prog 368 H0.n laws_FnSightings_l1 [(0, .c (.sl b_code i_code code.length)), (3, .c (.sl b_ps i_ps ps.length)), (6, .c (.int .i64 (m))), (7, .c (.bool (o))), (12, .c (.int .i64 (0)))] H Q := by
  have hat_code : eU.At H b_code i_code k_code code := ⟨hs0.1.2 _ _ hat0_code.blk, hat0_code.esz, hat0_code.len, hat0_code.els⟩
  have hE := soundE_cons laws_rBig_s (soundE_cons spec_DrawStrongestPair_s (soundE_cons impl_StrongestPair_s (soundE_cons spec_StrongestPair_s (soundE_cons impl_EvidenceOf_s (soundE_cons spec_DrawDoubtfulPairs_s (soundE_cons impl_DoubtfulPairs_s (soundE_cons spec_DoubtfulPairs_s (soundE_cons laws_rTable_s (soundE_cons spec_DrawTraitsSeen_s (soundE_cons impl_TraitsSeen_s (soundE_cons spec_TraitsSeen_s (soundE_cons laws_rInts_s (soundE_cons impl_YearsSeen_s (soundE_cons spec_YearsSeen_s (soundE_cons laws_rHas_s (soundE_cons spec_DrawAddSighting_s (soundE_cons impl_AddSighting_s (soundE_cons spec_AddSighting_s (soundE_cons spec_DrawSightingText_s (soundE_cons impl_SightingText_s (soundE_cons spec_SightingText_s (soundE_cons laws_rSightings_s (soundE_nil (P := Tryz.prog))))))))))))))))))))))))
  have hn0 : H0.n ≤ H.n := hs0.1.1
  have hb_code : b_code < H.n := (hwf b_code k_code hat_code.blk).1
  have hne_code : (b_code = H.n) = False := eq_false (by omega)
  have hne1_code : ∀ i, (b_code = H.n + i) = False := fun i => eq_false (by omega)
  have hne2_code := ne2_of (a := b_code) (b := H.n) (by omega)
  have hmx_code : code.length ≤ 9223372036854775807 := by have h1 := (hwf b_code k_code hat_code.blk).2.2; have h2 := hat_code.len; omega
  have hl0_code : b_code < H.n := by omega
  have hl1_code : b_code < H.n + 1 := by omega
  have hl2_code : b_code < H.n + 1 + 1 := by omega
  have hl3_code : b_code < H.n + 1 + 1 + 1 := by omega
  have hl4_code : b_code < H.n + 1 + 1 + 1 + 1 := by omega
  have hl5_code : b_code < H.n + 1 + 1 + 1 + 1 + 1 := by omega
  have hl6_code : b_code < H.n + 1 + 1 + 1 + 1 + 1 + 1 := by omega
  have hl7_code : b_code < H.n + 1 + 1 + 1 + 1 + 1 + 1 + 1 := by omega
  obtain ⟨hsr, hsp, hst, hss, hsk⟩ := hs_of hwf
  have hon_ps := hat_ps.on
  have hb_ps : b_ps < H.n := (hwf b_ps k_ps hat_ps.blk).1
  have hne_ps : (b_ps = H.n) = False := eq_false (by omega)
  have hne1_ps : ∀ i, (b_ps = H.n + i) = False := fun i => eq_false (by omega)
  have hne2_ps := ne2_of (a := b_ps) (b := H.n) (by omega)
  have hl0_ps : b_ps < H.n := by omega
  have hl1_ps : b_ps < H.n + 1 := by omega
  have hl2_ps : b_ps < H.n + 1 + 1 := by omega
  have hl3_ps : b_ps < H.n + 1 + 1 + 1 := by omega
  have hl4_ps : b_ps < H.n + 1 + 1 + 1 + 1 := by omega
  have hl5_ps : b_ps < H.n + 1 + 1 + 1 + 1 + 1 := by omega
  have hl6_ps : b_ps < H.n + 1 + 1 + 1 + 1 + 1 + 1 := by omega
  have hl7_ps : b_ps < H.n + 1 + 1 + 1 + 1 + 1 + 1 + 1 := by omega
  have hqt : ∀ p ∈ ps, p.traits.length ≤ 1048576 := fun p hp => by have := (hqps p hp).1; omega
  cases o with
  | false =>
    clear hall
    refine aloop_heap (X := Unit) (fun _ => [(0, .c (.sl b_code i_code code.length)), (3, .c (.sl b_ps i_ps ps.length)), (6, .c (.int .i64 (m))), (7, .c (.bool (false))), (12, .c (.int .i64 (0)))]) (fun _ => H) (fun _ => True) (fun _ => 0) hE _ () trivial (fun hw0 => .since hn0 hw0 (.refl _) (by simp [frOk, AV.okR, AV.ok1, AC.okR, AV.ren, AV.ren1, AC.ren, AFrame.get, pl1_old, hl0_code, hl1_code, hl2_code, hl3_code, hl4_code, hl5_code, hl6_code, hl7_code, hl0_ps, hl1_ps, hl2_ps, hl3_ps, hl4_ps, hl5_ps, hl6_ps, hl7_ps]; first | done | omega)) (fun _ _ hwx => ?_)
    by_cases hu : 0 < ps.length
    · have hu2 : (0 : Int) < (ps.length : Int) := by omega
      simp (config := {contextual := true, implicitDefEqProofs := false, maxSteps := 2000000}) [-Int.not_le, -Int.not_lt, argsF, laws_FnSightings_l1, hat_ps.blk, hat_ps.esz, hat_ps.len, hon_ps, hne_ps, hne1_ps, hne2_ps, hsr, hsp, hst, hss, hsk, hu, hu2]
      exact hfin 0
    · have hu2 : ¬ (0 : Int) < (ps.length : Int) := by omega
      have hu3 : ps.length = 0 := by omega
      simp (config := {contextual := true, implicitDefEqProofs := false, maxSteps := 2000000}) [-Int.not_le, -Int.not_lt, argsF, laws_FnSightings_l1, hat_ps.blk, hat_ps.esz, hat_ps.len, hon_ps, hne_ps, hne1_ps, hne2_ps, hsr, hsp, hst, hss, hsk, hu2, hu3]
      have hf := hfin 0
      simp only [hu3] at hf
      exact hf
  | true =>
  have hall := hall rfl
  refine aloop_heap (X := Nat) (fun j => [(0, .c (.sl b_code i_code code.length)), (3, .c (.sl b_ps i_ps ps.length)), (6, .c (.int .i64 (m))), (7, .c (.bool (true))), (12, .c (.int .i64 ((j : Int))))]) (fun _ => H) (fun j => j ≤ ps.length) (fun j => ps.length - j) hE _ 0 (Nat.zero_le _) (fun hw0 => .since hn0 hw0 (.refl _) (by simp [frOk, AV.okR, AV.ok1, AC.okR, AV.ren, AV.ren1, AC.ren, AFrame.get, pl1_old, hl0_code, hl1_code, hl2_code, hl3_code, hl4_code, hl5_code, hl6_code, hl7_code, hl0_ps, hl1_ps, hl2_ps, hl3_ps, hl4_ps, hl5_ps, hl6_ps, hl7_ps]; first | done | omega)) (fun j hj hwx => ?_)
  rcases Nat.lt_or_ge j ps.length with hlt | hge
  rotate_left
  · have hj0 : j = ps.length := by omega
    subst hj0
    clear hall
    simp (config := {contextual := true, implicitDefEqProofs := false, maxSteps := 2000000}) [-Int.not_le, -Int.not_lt, argsF, laws_FnSightings_l1, hat_ps.blk, hat_ps.esz, hat_ps.len, hon_ps, hne_ps, hne1_ps, hne2_ps, hsr, hsp, hst, hss, hsk]
    exact hfin (ps.length : Int)
  · have hj1 := idx_lt hlt
    obtain ⟨k0, hk0⟩ : ∃ k0 : Nat, k0 = j + 1 := ⟨_, rfl⟩
    have w1 : IntKind.i64.wrap ((j : Int) + 1) = (k0 : Int) := by rw [wrap_id (by omega) (by omega)]; omega
    simp (config := {contextual := true, implicitDefEqProofs := false, maxSteps := 2000000}) [-Int.not_le, -Int.not_lt, argsF, laws_FnSightings_l1, hat_ps.blk, hat_ps.esz, hat_ps.len, hon_ps, hne_ps, hne1_ps, hne2_ps, hsr, hsp, hst, hss, hsk, hj1, hlt, w1]
    refine aloop_heap (X := Nat) (fun k => [(0, .c (.sl b_code i_code code.length)), (3, .c (.sl b_ps i_ps ps.length)), (6, .c (.int .i64 (m))), (7, .c (.bool (true))), (12, .c (.int .i64 ((j : Int)))), (13, .c (.int .i64 ((k : Int))))]) (fun _ => H) (fun k => j < k ∧ k ≤ ps.length) (fun k => ps.length - k) hE _ k0 (by omega) (fun hw0 => .since hn0 hw0 (.refl _) (by simp [frOk, AV.okR, AV.ok1, AC.okR, AV.ren, AV.ren1, AC.ren, AFrame.get, pl1_old, hl0_code, hl1_code, hl2_code, hl3_code, hl4_code, hl5_code, hl6_code, hl7_code, hl0_ps, hl1_ps, hl2_ps, hl3_ps, hl4_ps, hl5_ps, hl6_ps, hl7_ps]; first | done | omega)) (fun k hk hwx2 => ?_)
    rcases Nat.lt_or_ge k ps.length with hlt2 | hge2
    rotate_left
    · obtain rfl : k = ps.length := by omega
      clear hall
      simp (config := {contextual := true, implicitDefEqProofs := false, maxSteps := 2000000}) [-Int.not_le, -Int.not_lt, argsF, laws_FnSightings_l0, hat_ps.blk, hat_ps.esz, hat_ps.len, hon_ps, hne_ps, hne1_ps, hne2_ps, hsr, hsp, hst, hss, hsk, w1]
      exact ⟨fun hw => ⟨k0, by omega, by omega, .since hn0 hw (.refl _) (by simp [frOk, AV.okR, AV.ok1, AC.okR, AV.ren, AV.ren1, AC.ren, AFrame.get, pl1_old, hl0_code, hl1_code, hl2_code, hl3_code, hl4_code, hl5_code, hl6_code, hl7_code, hl0_ps, hl1_ps, hl2_ps, hl3_ps, hl4_ps, hl5_ps, hl6_ps, hl7_ps]; first | done | omega)⟩⟩
    · have hk1 := idx_lt hlt2
      have w2 : IntKind.i64.wrap ((k : Int) + 1) = (k : Int) + 1 := wrap_id (by omega) (by omega)
      obtain ⟨ex_x, e_x, hd_x⟩ := hat_ps.get hlt
      obtain ⟨b_x, i_x, k_x, rfl, hat_x, htx_x⟩ := eSi_at hd_x
      have hb_x : b_x < H.n := (hwf b_x k_x hat_x.blk).1
      have hne_x : (b_x = H.n) = False := eq_false (by omega)
      have hne1_x : ∀ i, (b_x = H.n + i) = False := fun i => eq_false (by omega)
      have hne2_x := ne2_of (a := b_x) (b := H.n) (by omega)
      obtain ⟨ex_y, e_y, hd_y⟩ := hat_ps.get hlt2
      obtain ⟨b_y, i_y, k_y, rfl, hat_y, htx_y⟩ := eSi_at hd_y
      have hb_y : b_y < H.n := (hwf b_y k_y hat_y.blk).1
      have hne_y : (b_y = H.n) = False := eq_false (by omega)
      have hne1_y : ∀ i, (b_y = H.n + i) = False := fun i => eq_false (by omega)
      have hne2_y := ne2_of (a := b_y) (b := H.n) (by omega)
      obtain ⟨h1, h2⟩ := hall j k (by omega) hlt2
      clear hall
      simp (config := {contextual := true, implicitDefEqProofs := false, maxSteps := 2000000}) [-Int.not_le, -Int.not_lt, argsF, laws_FnSightings_l0, hat_ps.blk, hat_ps.esz, hat_ps.len, hon_ps, hne_ps, hne1_ps, hne2_ps, hsr, hsp, hst, hss, hsk, e_x, htx_x, hat_x.blk, hat_x.esz, hat_x.len, hat_x.els, hne_x, hne1_x, hne2_x, e_y, htx_y, hat_y.blk, hat_y.esz, hat_y.len, hat_y.els, hne_y, hne1_y, hne2_y, hj1, hlt, hk1, hlt2, h1, h2, hqt, w2]
      exact ⟨fun hw => ⟨k + 1, by omega, by omega, .since hn0 hw (.refl _) (by simp [frOk, AV.okR, AV.ok1, AC.okR, AV.ren, AV.ren1, AC.ren, AFrame.get, pl1_old, hl0_code, hl1_code, hl2_code, hl3_code, hl4_code, hl5_code, hl6_code, hl7_code, hl0_ps, hl1_ps, hl2_ps, hl3_ps, hl4_ps, hl5_ps, hl6_ps, hl7_ps]; first | done | omega)⟩⟩

theorem laws_FnSightings_p5 {H0 H : AHeap} {K : AV → AHeap → Prop} {b_code i_code : Nat} {k_code : ABlk} {code : List UInt8} (hwf0 : H0.WF) (hs0 : Sub H0 H) (hwf : H.WF) (hat0_code : eU.At H0 b_code i_code k_code code) (h : K (.c (.bool true)) H0) {b_ps i_ps : Nat} {k_ps : ABlk} {ps : List Si} (hat_ps : eSi.At H b_ps i_ps k_ps ps) {m : Int} {o : Bool} (hqps : ∀ p ∈ ps, shS p) (hlps : ps.length ≤ 12) (hall : o = true → ∀ (i k : Nat) (hik : i < k) (hk : k < ps.length), (evOf ps (ps[i]'(by omega)).id ps[k].id).2 = true ∧ ¬ m < (evOf ps (ps[i]'(by omega)).id ps[k].id).1) (hcl : code.length ≤ 65536) (hI0 : ∀ w, H0.I w → tabI w)  {F : AFrame} (hF : F.keep [0, 3, 6, 7] = [(0, .c (.sl b_code i_code code.length)), (3, .c (.sl b_ps i_ps ps.length)), (6, .c (.int .i64 (m))), (7, .c (.bool (o)))]) : avc Tryz.prog [(4, q_rBig), (5, q_DAr), (6, q_sp), (7, q_sp), (8, q_evOf), (9, q_DCv), (10, q_dp), (11, q_dp), (12, q_eqII), (13, q_DTr), (14, q_tr), (15, q_tr), (16, q_rInts), (17, q_ys), (18, q_ys), (19, q_rHas), (20, q_DAd), (21, q_ad), (22, q_ad), (23, q_DSt), (24, q_st), (25, q_st), (26, q_eqSis)] 368 H0.n laws_FnSightings_t5 F H (endK Tryz.prog H0.n [.tmp 2] K) := by
  refine (show avc _ _ _ _ _ _ _ _ = _ from avc_cut _ _).mpr ?_
  rw [hF]
  have hat_code : eU.At H b_code i_code k_code code := ⟨hs0.1.2 _ _ hat0_code.blk, hat0_code.esz, hat0_code.len, hat0_code.els⟩
  have hE := soundE_cons laws_rBig_s (soundE_cons spec_DrawStrongestPair_s (soundE_cons impl_StrongestPair_s (soundE_cons spec_StrongestPair_s (soundE_cons impl_EvidenceOf_s (soundE_cons spec_DrawDoubtfulPairs_s (soundE_cons impl_DoubtfulPairs_s (soundE_cons spec_DoubtfulPairs_s (soundE_cons laws_rTable_s (soundE_cons spec_DrawTraitsSeen_s (soundE_cons impl_TraitsSeen_s (soundE_cons spec_TraitsSeen_s (soundE_cons laws_rInts_s (soundE_cons impl_YearsSeen_s (soundE_cons spec_YearsSeen_s (soundE_cons laws_rHas_s (soundE_cons spec_DrawAddSighting_s (soundE_cons impl_AddSighting_s (soundE_cons spec_AddSighting_s (soundE_cons spec_DrawSightingText_s (soundE_cons impl_SightingText_s (soundE_cons spec_SightingText_s (soundE_cons laws_rSightings_s (soundE_nil (P := Tryz.prog))))))))))))))))))))))))
  have hn0 : H0.n ≤ H.n := hs0.1.1
  have hb_code : b_code < H.n := (hwf b_code k_code hat_code.blk).1
  have hne_code : (b_code = H.n) = False := eq_false (by omega)
  have hne1_code : ∀ i, (b_code = H.n + i) = False := fun i => eq_false (by omega)
  have hne2_code := ne2_of (a := b_code) (b := H.n) (by omega)
  have hmx_code : code.length ≤ 9223372036854775807 := by have h1 := (hwf b_code k_code hat_code.blk).2.2; have h2 := hat_code.len; omega
  have hl0_code : b_code < H.n := by omega
  have hl1_code : b_code < H.n + 1 := by omega
  have hl2_code : b_code < H.n + 1 + 1 := by omega
  have hl3_code : b_code < H.n + 1 + 1 + 1 := by omega
  have hl4_code : b_code < H.n + 1 + 1 + 1 + 1 := by omega
  have hl5_code : b_code < H.n + 1 + 1 + 1 + 1 + 1 := by omega
  have hl6_code : b_code < H.n + 1 + 1 + 1 + 1 + 1 + 1 := by omega
  have hl7_code : b_code < H.n + 1 + 1 + 1 + 1 + 1 + 1 + 1 := by omega
  obtain ⟨hsr, hsp, hst, hss, hsk⟩ := hs_of hwf
  have hon_ps := hat_ps.on
  have hb_ps : b_ps < H.n := (hwf b_ps k_ps hat_ps.blk).1
  have hne_ps : (b_ps = H.n) = False := eq_false (by omega)
  have hne1_ps : ∀ i, (b_ps = H.n + i) = False := fun i => eq_false (by omega)
  have hne2_ps := ne2_of (a := b_ps) (b := H.n) (by omega)
  have hl0_ps : b_ps < H.n := by omega
  have hl1_ps : b_ps < H.n + 1 := by omega
  have hl2_ps : b_ps < H.n + 1 + 1 := by omega
  have hl3_ps : b_ps < H.n + 1 + 1 + 1 := by omega
  have hl4_ps : b_ps < H.n + 1 + 1 + 1 + 1 := by omega
  have hl5_ps : b_ps < H.n + 1 + 1 + 1 + 1 + 1 := by omega
  have hl6_ps : b_ps < H.n + 1 + 1 + 1 + 1 + 1 + 1 := by omega
  have hl7_ps : b_ps < H.n + 1 + 1 + 1 + 1 + 1 + 1 + 1 := by omega
  simp (config := {contextual := true, implicitDefEqProofs := false, maxSteps := 2000000}) [-Int.not_le, -Int.not_lt, argsF, laws_FnSightings_t5, hat_ps.blk, hat_ps.esz, hat_ps.len, hon_ps, hne_ps, hne1_ps, hne2_ps, hsr, hsp, hst, hss, hsk]
  refine laws_FnSightings_loop1 hwf0 hs0 hwf hat0_code hat_ps hqps hlps hall fun v => ?_
  clear hall
  simp (config := {contextual := true, implicitDefEqProofs := false, maxSteps := 2000000}) [-Int.not_le, -Int.not_lt, argsF, laws_FnSightings_t5]
  exact laws_FnSightings_p6 hwf0 hs0 hwf hat0_code h hcl hI0 rfl

theorem laws_FnSightings_s : Sound Tryz.prog 3 q_tFnSightings := by
  intro args H K h
  unfold q_tFnSightings at h
  split at h
  rotate_left
  all_goals first | exact False.elim h | skip
  rename_i code_v
  have h1 := Enc.rd_at h
  clear h
  obtain ⟨b_code, i_code, k_code, code, rfl, hat_code, h⟩ := h1
  have hE := soundE_cons laws_rBig_s (soundE_cons spec_DrawStrongestPair_s (soundE_cons impl_StrongestPair_s (soundE_cons spec_StrongestPair_s (soundE_cons impl_EvidenceOf_s (soundE_cons spec_DrawDoubtfulPairs_s (soundE_cons impl_DoubtfulPairs_s (soundE_cons spec_DoubtfulPairs_s (soundE_cons laws_rTable_s (soundE_cons spec_DrawTraitsSeen_s (soundE_cons impl_TraitsSeen_s (soundE_cons spec_TraitsSeen_s (soundE_cons laws_rInts_s (soundE_cons impl_YearsSeen_s (soundE_cons spec_YearsSeen_s (soundE_cons laws_rHas_s (soundE_cons spec_DrawAddSighting_s (soundE_cons impl_AddSighting_s (soundE_cons spec_AddSighting_s (soundE_cons spec_DrawSightingText_s (soundE_cons impl_SightingText_s (soundE_cons spec_SightingText_s (soundE_cons laws_rSightings_s (soundE_nil (P := Tryz.prog))))))))))))))))))))))))
  refine acalls_fn laws_FnSightings_k hE ⟨by simp, fun hwf => ?_⟩
  have hb_code : b_code < H.n := (hwf b_code k_code hat_code.blk).1
  have hne_code : (b_code = H.n) = False := eq_false (by omega)
  have hne1_code : ∀ i, (b_code = H.n + i) = False := fun i => eq_false (by omega)
  have hne2_code := ne2_of (a := b_code) (b := H.n) (by omega)
  have hmx_code : code.length ≤ 9223372036854775807 := by have h1 := (hwf b_code k_code hat_code.blk).2.2; have h2 := hat_code.len; omega
  obtain ⟨hI0, h⟩ := h
  by_cases hbig : 65536 < code.length
  · simp (config := {contextual := true, implicitDefEqProofs := false, maxSteps := 2000000}) [-Int.not_le, -Int.not_lt, argsF, laws_FnSightings_c, laws_FnSightings_t1, hat_code.blk, hat_code.esz, hat_code.len, hat_code.els, hne_code, hne1_code, hne2_code, Enc.decL_map, hbig]
    (refine Out.plain hwf ?_ rfl ?_; (repeat first | exact Sub.refl _ | refine Sub.push hwf ?_ _ | refine Sub.set hwf ?_ (by first | exact Nat.le_refl _ | omega | (simp only [push_n, set_n, kill_n]; omega)) _ | refine Sub.kill hwf ?_ (by first | exact Nat.le_refl _ | omega | (simp only [push_n, set_n, kill_n]; omega)))); exact h
  have hcl : code.length ≤ 65536 := by omega
  simp (config := {contextual := true, implicitDefEqProofs := false, maxSteps := 2000000}) [-Int.not_le, -Int.not_lt, argsF, laws_FnSightings_c, laws_FnSightings_t1, laws_FnSightings_t2, hat_code.blk, hat_code.esz, hat_code.len, hat_code.els, hne_code, hne1_code, hne2_code, Enc.decL_map, hbig, hcl]
  refine Stop.mk fun H2 b2 k2 ps hw2 hs2 hat2 hpl hsh => ?_
  have hqt : ∀ p ∈ ps, p.traits.length ≤ 1048576 := fun p hp => by have := (hsh p hp).1; omega
  have hbq := (hw2 _ _ hat2.blk).1
  have hbc := (hw2 _ _ (hs2.1.2 _ _ hat_code.blk)).1
  have op := hat2.on
  have lp := hat2.len
  simp only [Nat.zero_add, List.drop_zero] at lp op
  have sB := SubE.refl H2
  have sB2 := (SubE.refl H2).toRo
  simp (config := {contextual := true, implicitDefEqProofs := false, maxSteps := 2000000}) [-Int.not_le, -Int.not_lt, argsF, laws_FnSightings_t2, laws_FnSightings_t3, laws_FnSightings_t4, hat2.blk, hat2.esz, op, lp, sB, sB2, hqt, ite_self]
  exact laws_FnSightings_p5 hwf hs2 hw2 hat_code h hat2 hsh hpl (fun ho i k hik hk => sp_ev ho hik hk) hcl hI0 rfl

end Go.Proofs.YtafenginfojcmaaGreatDoor
