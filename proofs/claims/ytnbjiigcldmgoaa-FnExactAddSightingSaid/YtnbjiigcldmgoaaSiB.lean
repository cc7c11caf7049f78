/- A sighting added: the function, of both builds. -/
import Derived.Test.YtnbjiigcldmgoaaSiA
set_option maxRecDepth 8000
set_option linter.unusedSimpArgs false
set_option linter.unusedVariables false
namespace Go.Proofs.Ytnbjiigcldmgoaa
open Go Go.RowKit

set_option maxHeartbeats 4000000

def q_ad : Con := fun args H K => match args with
  | [ps_v, .c (.int .i64 year), .c (.str town), traits_v] => eSi.rd H (fun ps => eI.rd H (fun traits => ps.length ≤ 1048576 ∧ (∀ p ∈ ps, p.traits.length ≤ 1048576 ∧ p.town.length ≤ 9223372036854775807) ∧ town.length ≤ 9223372036854775807 ∧ traits.length ≤ 1048576 ∧ Stop (∀ H' b cs, H'.WF → Sub H H' → SiRows H' b cs (adRes ps year town traits).1 → (∀ c ∈ b :: cs, H.n ≤ c) → K (.tup [.c (.sl (b) (0) ((adRes ps year town traits).1.length)), .c (.int .i64 ((adRes ps year town traits).2.1)), .c (.bool ((adRes ps year town traits).2.2))]) H') ()) traits_v) ps_v
  | _ => False
@[simp ↓] theorem q_ad_eq (ps_v : AV) (year : Int) (town : List UInt8) (traits_v : AV) (H : AHeap) (K : AV → AHeap → Prop) : q_ad [ps_v, .c (.int .i64 year), .c (.str town), traits_v] H K = (eSi.rd H (fun ps => eI.rd H (fun traits => ps.length ≤ 1048576 ∧ (∀ p ∈ ps, p.traits.length ≤ 1048576 ∧ p.town.length ≤ 9223372036854775807) ∧ town.length ≤ 9223372036854775807 ∧ traits.length ≤ 1048576 ∧ Stop (∀ H' b cs, H'.WF → Sub H H' → SiRows H' b cs (adRes ps year town traits).1 → (∀ c ∈ b :: cs, H.n ≤ c) → K (.tup [.c (.sl (b) (0) ((adRes ps year town traits).1.length)), .c (.int .i64 ((adRes ps year town traits).2.1)), .c (.bool ((adRes ps year town traits).2.2))]) H') ()) traits_v) ps_v) := rfl

theorem impl_AddSighting_s : Sound Try.prog 25 q_ad := by
  intro args H K h
  unfold q_ad at h
  split at h
  rotate_left
  all_goals first | exact False.elim h | skip
  rename_i ps_v year town traits_v
  have h1 := EncH.rd_at h
  clear h
  obtain ⟨b_ps, i_ps, k_ps, ps, rfl, hat_ps, h⟩ := h1
  have h1 := Enc.rd_at h
  clear h
  obtain ⟨b_traits, i_traits, k_traits, traits, rfl, hat_traits, h⟩ := h1
  have hE := soundE_cons impl_areSightings_s (soundE_cons impl_copySightings_s (soundE_cons slices_Clone___int_int_s (soundE_nil (P := Try.prog))))
  refine acalls_fn impl_AddSighting_k hE ⟨by simp, fun hwf => ?_⟩
  have hsr : SubE H H := SubE.refl H
  have hsp : ∀ H' k, H.n ≤ H'.n → SubE H H' → SubE H (H'.push k) := fun H' k hn hs => SubE.push hwf hn hs k
  have hst : ∀ H', SubE H H' → SubE H H'.toRo := fun H' hs => hs.toRo
  have hss : ∀ H' i k, H.n ≤ i → SubE H H' → SubE H (H'.set i k) := fun H' i k hn hs => SubE.set hwf hn hs k
  have hsk : ∀ H' i, H.n ≤ i → SubE H H' → SubE H (H'.kill i) := fun H' i hn hs => SubE.kill hwf hn hs
  have hon_ps := hat_ps.on
  have hb_traits : b_traits < H.n := (hwf b_traits k_traits hat_traits.blk).1
  have hne_traits : (b_traits = H.n) = False := eq_false (by omega)
  have hne1_traits : ∀ i, (b_traits = H.n + i) = False := fun i => eq_false (by omega)
  have hne2_traits : (b_traits = H.n + 1 + 1) = False ∧ (b_traits = H.n + 1 + 1 + 1) = False ∧ (b_traits = H.n + 1 + 1 + 1 + 1) = False ∧ (b_traits = H.n + 1 + 1 + 1 + 1 + 1) = False ∧ (b_traits = H.n + 1 + 1 + 1 + 1 + 1 + 1) = False ∧ (b_traits = H.n + 1 + 1 + 1 + 1 + 1 + 1 + 1) = False ∧ (b_traits = H.n + 1 + 1 + 1 + 1 + 1 + 1 + 1 + 1) = False ∧ (b_traits = H.n + 1 + 1 + 1 + 1 + 1 + 1 + 1 + 1 + 1) = False ∧ (b_traits = H.n + 1 + 1 + 1 + 1 + 1 + 1 + 1 + 1 + 1 + 1) = False ∧ (b_traits = H.n + 1 + 1 + 1 + 1 + 1 + 1 + 1 + 1 + 1 + 1 + 1) = False ∧ (b_traits = H.n + 1 + 1 + 1 + 1 + 1 + 1 + 1 + 1 + 1 + 1 + 1 + 1) = False := ⟨eq_false (by omega), eq_false (by omega), eq_false (by omega), eq_false (by omega), eq_false (by omega), eq_false (by omega), eq_false (by omega), eq_false (by omega), eq_false (by omega), eq_false (by omega), eq_false (by omega)⟩
  have hmx_traits : traits.length ≤ 9223372036854775807 := by have h1 := (hwf b_traits k_traits hat_traits.blk).2.2; have h2 := hat_traits.len; omega
  have hb_ps : b_ps < H.n := (hwf b_ps k_ps hat_ps.blk).1
  have hne_ps : (b_ps = H.n) = False := eq_false (by omega)
  have hne1_ps : ∀ i, (b_ps = H.n + i) = False := fun i => eq_false (by omega)
  have hne2_ps : (b_ps = H.n + 1 + 1) = False ∧ (b_ps = H.n + 1 + 1 + 1) = False ∧ (b_ps = H.n + 1 + 1 + 1 + 1) = False ∧ (b_ps = H.n + 1 + 1 + 1 + 1 + 1) = False ∧ (b_ps = H.n + 1 + 1 + 1 + 1 + 1 + 1) = False ∧ (b_ps = H.n + 1 + 1 + 1 + 1 + 1 + 1 + 1) = False ∧ (b_ps = H.n + 1 + 1 + 1 + 1 + 1 + 1 + 1 + 1) = False ∧ (b_ps = H.n + 1 + 1 + 1 + 1 + 1 + 1 + 1 + 1 + 1) = False ∧ (b_ps = H.n + 1 + 1 + 1 + 1 + 1 + 1 + 1 + 1 + 1 + 1) = False ∧ (b_ps = H.n + 1 + 1 + 1 + 1 + 1 + 1 + 1 + 1 + 1 + 1 + 1) = False ∧ (b_ps = H.n + 1 + 1 + 1 + 1 + 1 + 1 + 1 + 1 + 1 + 1 + 1 + 1) = False := ⟨eq_false (by omega), eq_false (by omega), eq_false (by omega), eq_false (by omega), eq_false (by omega), eq_false (by omega), eq_false (by omega), eq_false (by omega), eq_false (by omega), eq_false (by omega), eq_false (by omega)⟩
  have hmx_ps : ps.length ≤ 9223372036854775807 := by have h1 := (hwf b_ps k_ps hat_ps.blk).2.2; have h2 := hat_ps.len; omega
  obtain ⟨hl, hl2, htw, htr, h⟩ := h
  by_cases hv : areSi ps = true
  rotate_left
  · have hR : adRes ps year town traits = ([], 0, false) := by unfold adRes; rw [if_neg hv]
    rw [hR] at h
    simp (config := {contextual := true, implicitDefEqProofs := false, maxSteps := 2000000}) [-Int.not_le, -Int.not_lt, argsF, impl_AddSighting_c, hat_ps.blk, hat_ps.esz, hat_ps.len, hon_ps, hne_ps, hne1_ps, hne2_ps.1, hne2_ps.2.1, hne2_ps.2.2.1, hne2_ps.2.2.2.1, hne2_ps.2.2.2.2.1, hne2_ps.2.2.2.2.2.1, hne2_ps.2.2.2.2.2.2.1, hne2_ps.2.2.2.2.2.2.2.1, hne2_ps.2.2.2.2.2.2.2.2.1, hne2_ps.2.2.2.2.2.2.2.2.2.1, hne2_ps.2.2.2.2.2.2.2.2.2.2, hsr, hsp, hst, hss, hsk, hv]
    exact .one (k := siK [] []) (c := none) hwf (.refl _) ⟨rfl, rfl⟩ (by simp) (by simp [frOk, AV.okR, AV.ok1, AC.okR, AV.ren, AV.ren1, AC.ren, AFrame.get, pl1_old, *]; first | done | omega) (Stop.go h (H.push (siK [] [])) H.n [] (WF.push hwf (by simp) (by simp)) (Sub.push hwf (.refl _) _) siK_rows (by simp))
  have hpl := areSi_len hv
  have hl3 : ∀ p ∈ ps, p.traits.length ≤ 1048576 := fun p hp => (hl2 p hp).1
  have hb3 : (ps.length + 1) * 56 ≤ 140737488355328 := by omega
  have hb5 : (ps.length + 1) * 40 ≤ 140737488355328 := by omega
  have hb6 : (ps.length + 1) * 48 ≤ 140737488355328 := by omega
  have hb4 : ps.length + 1 ≤ 140737488355328 := by omega
  rcases Nat.eq_zero_or_pos ps.length with h0 | h0
  · have e0 := List.eq_nil_of_length_eq_zero h0
    subst e0
    have hi0 : i_ps ≤ k_ps.els.length := by simpa using hat_ps.len
    have hdn : ∀ H', eSi.decL H' [] = some [] := fun _ => rfl
    have hid : adId [] = 1 := rfl
    simp (config := {contextual := true, implicitDefEqProofs := false, maxSteps := 2000000}) [-Int.not_le, -Int.not_lt, argsF, impl_AddSighting_c, hat_ps.blk, hat_ps.esz, hat_ps.len, hon_ps, hne_ps, hne1_ps, hne2_ps.1, hne2_ps.2.1, hne2_ps.2.2.1, hne2_ps.2.2.2.1, hne2_ps.2.2.2.2.1, hne2_ps.2.2.2.2.2.1, hne2_ps.2.2.2.2.2.2.1, hne2_ps.2.2.2.2.2.2.2.1, hne2_ps.2.2.2.2.2.2.2.2.1, hne2_ps.2.2.2.2.2.2.2.2.2.1, hne2_ps.2.2.2.2.2.2.2.2.2.2, hsr, hsp, hst, hss, hsk, hv, hi0, hdn]
    refine Stop.mk fun H1 b1 cs1 hw1 hs1 hr1 hg1 => ?_
    have hbd := hr1.bnd hw1
    have hn1 := hs1.1.1
    have hb1 := hbd b1 (by simp)
    have hrl := hr1.len
    have hrb := hr1.blkK
    have hbt : b_traits < H1.n := by omega
    have htb : H1.b b_traits = some k_traits := hs1.1.2 _ _ hat_traits.blk
    have qb : (b1 = H1.n) = False := eq_false (by omega)
    have qb1 : (b1 = H1.n + 1) = False := eq_false (by omega)
    simp (config := {contextual := true, implicitDefEqProofs := false, maxSteps := 2000000}) [-Int.not_le, -Int.not_lt, argsF, hat_traits.blk, hat_traits.esz, hat_traits.len, hat_traits.els, hne_traits, hne1_traits, hne2_traits.1, hne2_traits.2.1, hne2_traits.2.2.1, hne2_traits.2.2.2.1, hne2_traits.2.2.2.2.1, hne2_traits.2.2.2.2.2.1, hne2_traits.2.2.2.2.2.2.1, hne2_traits.2.2.2.2.2.2.2.1, hne2_traits.2.2.2.2.2.2.2.2.1, hne2_traits.2.2.2.2.2.2.2.2.2.1, hne2_traits.2.2.2.2.2.2.2.2.2.2, htb, htr, hrl, hrb, qb, qb1, hb3, hb4, hb5, hb6]
    obtain rfl : cs1 = [] := List.eq_nil_of_length_eq_zero (by simpa using hrl)
    have hrN := hr1.add1 hw1 ⟨1, year, town, traits⟩ (siK ([] ++ [H1.n]) ([] ++ [⟨1, year, town, traits⟩]))
    have hdN := hrN.dec (fun p hp => by
      rcases List.mem_append.1 hp with hp | hp
      · exact (hl2 p hp).2
      · rw [List.mem_singleton.1 hp]; exact htw) _ (SubE.refl _)
    have hge : ∀ c ∈ (H1.n + 1 + 1) :: ([] ++ [H1.n]), H.n ≤ c := fun c hc => by
      rcases List.mem_cons.1 hc with rfl | hc
      · omega
      · rcases List.mem_append.1 hc with hc | hc
        · exact hg1 c (List.mem_cons_of_mem _ hc)
        · rw [List.mem_singleton.1 hc]; omega
    have hsN := fun K1 K2 => Sub.push hwf (Sub.kill hwf (Sub.push hwf (Sub.push hwf hs1 (rowK eI 3 traits)) K1) (hg1 b1 (by simp))) K2
    have hE : (⟨63, 4, false, false, [[AC.int .i64 1, AC.int .i64 year, AC.str town, AC.sl H1.n 0 traits.length]]⟩ : ABlk) = siK ([] ++ [H1.n]) ([] ++ [⟨1, year, town, traits⟩]) := rfl
    have hE2 : ([[AC.int .i64 1, AC.int .i64 year, AC.str town, AC.sl H1.n 0 traits.length]] : List (List AC)) = List.zipWith siCells ([] ++ [H1.n]) ([] ++ [⟨1, year, town, traits⟩]) := rfl
    rw [hE, hE2]
    simp only [hdN, onv_some]
    refine ite_i (fun hva => ?_) (fun hva => ?_)
    · have hR : adRes [] year town traits = ([] ++ [⟨1, year, town, traits⟩], 1, true) := by unfold adRes adOut; rw [hid, if_pos hv, if_pos hva]
      rw [hR] at h
      have hlen : (([] : List Si) ++ [(⟨1, year, town, traits⟩ : Si)]).length = 1 := by simp
      refine Out.whole (by simp only [push_n, kill_n]; omega) (by simp [frOk, AV.okR, AV.ok1, AC.okR, AV.ren, AV.ren1, AC.ren, AFrame.get, pl1_old, *]; first | done | omega) fun hw => ?_
      have hh := Stop.go h _ _ _ hw (hsN _ _) hrN hge
      rw [hlen] at hh
      exact hh
    · have hR : adRes [] year town traits = ([], 0, false) := by unfold adRes adOut; rw [hid, if_pos hv, if_neg hva]
      rw [hR] at h
      exact .one (k := siK [] []) (c := none) hwf (hsN _ _) ⟨rfl, rfl⟩ (by simp) (by simp [frOk, AV.okR, AV.ok1, AC.okR, AV.ren, AV.ren1, AC.ren, AFrame.get, pl1_old, *]; first | done | omega) (Stop.go h (H.push (siK [] [])) H.n [] (WF.push hwf (by simp) (by simp)) (Sub.push hwf (.refl _) _) siK_rows (by simp))
  · have hm : ps.length - 1 < ps.length := by omega
    obtain ⟨ex_x, e_x, hd_x⟩ := hat_ps.get hm
    obtain ⟨b_x, i_x, k_x, rfl, hat_x, htx_x⟩ := eSi_at hd_x
    have hb_x : b_x < H.n := (hwf b_x k_x hat_x.blk).1
    have hne_x : (b_x = H.n) = False := eq_false (by omega)
    have hne1_x : ∀ i, (b_x = H.n + i) = False := fun i => eq_false (by omega)
    have hne2_x : (b_x = H.n + 1 + 1) = False ∧ (b_x = H.n + 1 + 1 + 1) = False ∧ (b_x = H.n + 1 + 1 + 1 + 1) = False ∧ (b_x = H.n + 1 + 1 + 1 + 1 + 1) = False ∧ (b_x = H.n + 1 + 1 + 1 + 1 + 1 + 1) = False ∧ (b_x = H.n + 1 + 1 + 1 + 1 + 1 + 1 + 1) = False ∧ (b_x = H.n + 1 + 1 + 1 + 1 + 1 + 1 + 1 + 1) = False ∧ (b_x = H.n + 1 + 1 + 1 + 1 + 1 + 1 + 1 + 1 + 1) = False ∧ (b_x = H.n + 1 + 1 + 1 + 1 + 1 + 1 + 1 + 1 + 1 + 1) = False ∧ (b_x = H.n + 1 + 1 + 1 + 1 + 1 + 1 + 1 + 1 + 1 + 1 + 1) = False ∧ (b_x = H.n + 1 + 1 + 1 + 1 + 1 + 1 + 1 + 1 + 1 + 1 + 1 + 1) = False := ⟨eq_false (by omega), eq_false (by omega), eq_false (by omega), eq_false (by omega), eq_false (by omega), eq_false (by omega), eq_false (by omega), eq_false (by omega), eq_false (by omega), eq_false (by omega), eq_false (by omega)⟩
    have w1 : IntKind.i64.wrap ((ps.length : Int) - 1) = (ps.length : Int) - 1 := wrap_id (by omega) (by omega)
    have w2 : ((ps.length : Int) - 1).toNat = ps.length - 1 := by omega
    have g1 : (0 : Int) < (ps.length : Int) := by omega
    have g2 : (ps.length : Int) - 1 < (ps.length : Int) := by omega
    have g3 : (1 : Int) ≤ (ps.length : Int) := by omega
    have g4 : (0 : Int) ≤ (ps.length : Int) - 1 := by omega
    have hid : adId ps = IntKind.i64.wrap (ps[ps.length - 1].id + 1) := by
      simp only [adId, List.getLast?_eq_getElem?, List.getElem?_eq_getElem hm]
    simp (config := {contextual := true, implicitDefEqProofs := false, maxSteps := 2000000}) [-Int.not_le, -Int.not_lt, argsF, impl_AddSighting_c, hat_ps.blk, hat_ps.esz, hat_ps.len, hon_ps, hne_ps, hne1_ps, hne2_ps.1, hne2_ps.2.1, hne2_ps.2.2.1, hne2_ps.2.2.2.1, hne2_ps.2.2.2.2.1, hne2_ps.2.2.2.2.2.1, hne2_ps.2.2.2.2.2.2.1, hne2_ps.2.2.2.2.2.2.2.1, hne2_ps.2.2.2.2.2.2.2.2.1, hne2_ps.2.2.2.2.2.2.2.2.2.1, hne2_ps.2.2.2.2.2.2.2.2.2.2, hsr, hsp, hst, hss, hsk, hv, hl, hl3, e_x, htx_x, hat_x.blk, hat_x.esz, hat_x.len, hat_x.els, hne_x, hne1_x, hne2_x.1, hne2_x.2.1, hne2_x.2.2.1, hne2_x.2.2.2.1, hne2_x.2.2.2.2.1, hne2_x.2.2.2.2.2.1, hne2_x.2.2.2.2.2.2.1, hne2_x.2.2.2.2.2.2.2.1, hne2_x.2.2.2.2.2.2.2.2.1, hne2_x.2.2.2.2.2.2.2.2.2.1, hne2_x.2.2.2.2.2.2.2.2.2.2, w1, w2, g1, g2, g3, g4, hm, h0]
    refine Stop.mk fun H1 b1 cs1 hw1 hs1 hr1 hg1 => ?_
    have hbd := hr1.bnd hw1
    have hn1 := hs1.1.1
    have hb1 := hbd b1 (by simp)
    have hrl := hr1.len
    have hrb := hr1.blkK
    have hbt : b_traits < H1.n := by omega
    have htb : H1.b b_traits = some k_traits := hs1.1.2 _ _ hat_traits.blk
    have qb : (b1 = H1.n) = False := eq_false (by omega)
    have qb1 : (b1 = H1.n + 1) = False := eq_false (by omega)
    simp (config := {contextual := true, implicitDefEqProofs := false, maxSteps := 2000000}) [-Int.not_le, -Int.not_lt, argsF, hat_traits.blk, hat_traits.esz, hat_traits.len, hat_traits.els, hne_traits, hne1_traits, hne2_traits.1, hne2_traits.2.1, hne2_traits.2.2.1, hne2_traits.2.2.2.1, hne2_traits.2.2.2.2.1, hne2_traits.2.2.2.2.2.1, hne2_traits.2.2.2.2.2.2.1, hne2_traits.2.2.2.2.2.2.2.1, hne2_traits.2.2.2.2.2.2.2.2.1, hne2_traits.2.2.2.2.2.2.2.2.2.1, hne2_traits.2.2.2.2.2.2.2.2.2.2, htb, htr, hrl, hrb, qb, qb1, hb3, hb4, hb5, hb6]
    have hrN := hr1.add1 hw1 ⟨IntKind.i64.wrap (ps[ps.length - 1].id + 1), year, town, traits⟩ (⟨63, 4, false, false, [[AC.int .i64 (IntKind.i64.wrap (ps[ps.length - 1].id + 1)), AC.int .i64 year, AC.str town, AC.sl H1.n 0 traits.length]]⟩)
    have hdN := hrN.dec (fun p hp => by
      rcases List.mem_append.1 hp with hp | hp
      · exact (hl2 p hp).2
      · rw [List.mem_singleton.1 hp]; exact htw) _ (SubE.refl _)
    have hge : ∀ c ∈ (H1.n + 1 + 1) :: (cs1 ++ [H1.n]), H.n ≤ c := fun c hc => by
      rcases List.mem_cons.1 hc with rfl | hc
      · omega
      · rcases List.mem_append.1 hc with hc | hc
        · exact hg1 c (List.mem_cons_of_mem _ hc)
        · rw [List.mem_singleton.1 hc]; omega
    have hsN := fun K1 K2 => Sub.push hwf (Sub.kill hwf (Sub.push hwf (Sub.push hwf hs1 (rowK eI 3 traits)) K1) (hg1 b1 (by simp))) K2
    have hE := siK_add (cs := cs1) (ps := ps) (p := ⟨IntKind.i64.wrap (ps[ps.length - 1].id + 1), year, town, traits⟩) (c := H1.n) hrl rfl
    simp only [siCells] at hE
    have hE2 := congrArg ABlk.els hE
    simp only [siK_els] at hE2
    rw [hE, hE2, List.take_of_length_le (by simp [hrl])]
    simp only [hdN, onv_some]
    refine ite_i (fun hva => ?_) (fun hva => ?_)
    · have hR : adRes ps year town traits = (ps ++ [⟨IntKind.i64.wrap (ps[ps.length - 1].id + 1), year, town, traits⟩], IntKind.i64.wrap (ps[ps.length - 1].id + 1), true) := by unfold adRes adOut; rw [hid, if_pos hv, if_pos hva]
      rw [hR] at h
      have hlen : (ps ++ [(⟨IntKind.i64.wrap (ps[ps.length - 1].id + 1), year, town, traits⟩ : Si)]).length = ps.length + 1 := by simp
      refine Out.whole (by simp only [push_n, kill_n]; omega) (by simp [frOk, AV.okR, AV.ok1, AC.okR, AV.ren, AV.ren1, AC.ren, AFrame.get, pl1_old, *]; first | done | omega) fun hw => ?_
      have hh := Stop.go h _ _ _ hw (hsN _ _) hrN hge
      rw [hlen] at hh
      exact hh
    · have hR : adRes ps year town traits = ([], 0, false) := by unfold adRes adOut; rw [hid, if_pos hv, if_neg hva]
      rw [hR] at h
      exact .one (k := siK [] []) (c := none) hwf (hsN _ _) ⟨rfl, rfl⟩ (by simp) (by simp [frOk, AV.okR, AV.ok1, AC.okR, AV.ren, AV.ren1, AC.ren, AFrame.get, pl1_old, *]; first | done | omega) (Stop.go h (H.push (siK [] [])) H.n [] (WF.push hwf (by simp) (by simp)) (Sub.push hwf (.refl _) _) siK_rows (by simp))

theorem spec_AddSighting_s : Sound Try.prog 23 q_ad := by
  intro args H K h
  unfold q_ad at h
  split at h
  rotate_left
  all_goals first | exact False.elim h | skip
  rename_i ps_v year town traits_v
  have h1 := EncH.rd_at h
  clear h
  obtain ⟨b_ps, i_ps, k_ps, ps, rfl, hat_ps, h⟩ := h1
  have h1 := Enc.rd_at h
  clear h
  obtain ⟨b_traits, i_traits, k_traits, traits, rfl, hat_traits, h⟩ := h1
  have hE := soundE_cons spec_l13Good_s (soundE_cons spec_l1Own_s (soundE_nil (P := Try.prog)))
  refine acalls_fn spec_AddSighting_k hE ⟨by simp, fun hwf => ?_⟩
  have hsr : SubE H H := SubE.refl H
  have hsp : ∀ H' k, H.n ≤ H'.n → SubE H H' → SubE H (H'.push k) := fun H' k hn hs => SubE.push hwf hn hs k
  have hst : ∀ H', SubE H H' → SubE H H'.toRo := fun H' hs => hs.toRo
  have hss : ∀ H' i k, H.n ≤ i → SubE H H' → SubE H (H'.set i k) := fun H' i k hn hs => SubE.set hwf hn hs k
  have hsk : ∀ H' i, H.n ≤ i → SubE H H' → SubE H (H'.kill i) := fun H' i hn hs => SubE.kill hwf hn hs
  have hon_ps := hat_ps.on
  have hb_traits : b_traits < H.n := (hwf b_traits k_traits hat_traits.blk).1
  have hne_traits : (b_traits = H.n) = False := eq_false (by omega)
  have hne1_traits : ∀ i, (b_traits = H.n + i) = False := fun i => eq_false (by omega)
  have hne2_traits : (b_traits = H.n + 1 + 1) = False ∧ (b_traits = H.n + 1 + 1 + 1) = False ∧ (b_traits = H.n + 1 + 1 + 1 + 1) = False ∧ (b_traits = H.n + 1 + 1 + 1 + 1 + 1) = False ∧ (b_traits = H.n + 1 + 1 + 1 + 1 + 1 + 1) = False ∧ (b_traits = H.n + 1 + 1 + 1 + 1 + 1 + 1 + 1) = False ∧ (b_traits = H.n + 1 + 1 + 1 + 1 + 1 + 1 + 1 + 1) = False ∧ (b_traits = H.n + 1 + 1 + 1 + 1 + 1 + 1 + 1 + 1 + 1) = False ∧ (b_traits = H.n + 1 + 1 + 1 + 1 + 1 + 1 + 1 + 1 + 1 + 1) = False ∧ (b_traits = H.n + 1 + 1 + 1 + 1 + 1 + 1 + 1 + 1 + 1 + 1 + 1) = False ∧ (b_traits = H.n + 1 + 1 + 1 + 1 + 1 + 1 + 1 + 1 + 1 + 1 + 1 + 1) = False := ⟨eq_false (by omega), eq_false (by omega), eq_false (by omega), eq_false (by omega), eq_false (by omega), eq_false (by omega), eq_false (by omega), eq_false (by omega), eq_false (by omega), eq_false (by omega), eq_false (by omega)⟩
  have hmx_traits : traits.length ≤ 9223372036854775807 := by have h1 := (hwf b_traits k_traits hat_traits.blk).2.2; have h2 := hat_traits.len; omega
  have hb_ps : b_ps < H.n := (hwf b_ps k_ps hat_ps.blk).1
  have hne_ps : (b_ps = H.n) = False := eq_false (by omega)
  have hne1_ps : ∀ i, (b_ps = H.n + i) = False := fun i => eq_false (by omega)
  have hne2_ps : (b_ps = H.n + 1 + 1) = False ∧ (b_ps = H.n + 1 + 1 + 1) = False ∧ (b_ps = H.n + 1 + 1 + 1 + 1) = False ∧ (b_ps = H.n + 1 + 1 + 1 + 1 + 1) = False ∧ (b_ps = H.n + 1 + 1 + 1 + 1 + 1 + 1) = False ∧ (b_ps = H.n + 1 + 1 + 1 + 1 + 1 + 1 + 1) = False ∧ (b_ps = H.n + 1 + 1 + 1 + 1 + 1 + 1 + 1 + 1) = False ∧ (b_ps = H.n + 1 + 1 + 1 + 1 + 1 + 1 + 1 + 1 + 1) = False ∧ (b_ps = H.n + 1 + 1 + 1 + 1 + 1 + 1 + 1 + 1 + 1 + 1) = False ∧ (b_ps = H.n + 1 + 1 + 1 + 1 + 1 + 1 + 1 + 1 + 1 + 1 + 1) = False ∧ (b_ps = H.n + 1 + 1 + 1 + 1 + 1 + 1 + 1 + 1 + 1 + 1 + 1 + 1) = False := ⟨eq_false (by omega), eq_false (by omega), eq_false (by omega), eq_false (by omega), eq_false (by omega), eq_false (by omega), eq_false (by omega), eq_false (by omega), eq_false (by omega), eq_false (by omega), eq_false (by omega)⟩
  have hmx_ps : ps.length ≤ 9223372036854775807 := by have h1 := (hwf b_ps k_ps hat_ps.blk).2.2; have h2 := hat_ps.len; omega
  obtain ⟨hl, hl2, htw, htr, h⟩ := h
  have hl3 : ∀ p ∈ ps, p.traits.length ≤ 1048576 := fun p hp => (hl2 p hp).1
  have hb3 : (ps.length + 1) * 56 ≤ 140737488355328 := by omega
  have hb5 : (ps.length + 1) * 40 ≤ 140737488355328 := by omega
  have hb6 : (ps.length + 1) * 48 ≤ 140737488355328 := by omega
  have hb4 : ps.length + 1 ≤ 140737488355328 := by omega
  rcases Nat.eq_zero_or_pos ps.length with h0 | h0
  · have g0 : ¬ (0 : Int) < (ps.length : Int) := by omega
    have hid : adId ps = 1 := by rw [List.eq_nil_of_length_eq_zero h0]; rfl
    have g0n : ¬ 0 < ps.length := by omega
    simp (config := {contextual := true, implicitDefEqProofs := false, maxSteps := 2000000}) [-Int.not_le, -Int.not_lt, argsF, spec_AddSighting_c, hat_ps.blk, hat_ps.esz, hat_ps.len, hon_ps, hne_ps, hne1_ps, hne2_ps.1, hne2_ps.2.1, hne2_ps.2.2.1, hne2_ps.2.2.2.1, hne2_ps.2.2.2.2.1, hne2_ps.2.2.2.2.2.1, hne2_ps.2.2.2.2.2.2.1, hne2_ps.2.2.2.2.2.2.2.1, hne2_ps.2.2.2.2.2.2.2.2.1, hne2_ps.2.2.2.2.2.2.2.2.2.1, hne2_ps.2.2.2.2.2.2.2.2.2.2, hsr, hsp, hst, hss, hsk, g0, g0n]
    refine aloop_heap (X := AX × Nat) (fun x => [(0, .c (.sl b_ps i_ps ps.length)), (1, .c (.int .i64 (year))), (2, .c (.str (town))), (3, .c (.sl b_traits i_traits traits.length)), (11, .c (.int .i64 (adId ps))), (13, .c (.sl (x.1.b) (0) (x.2))), (14, .c (.int .i64 ((x.2 : Int))))]) (fun x => x.1.H) (fun x => x.1.Ok H H.n (ps.take x.2) ∧ x.2 ≤ ps.length) (fun x => ps.length - x.2) hE _
      (⟨H.push (siK [] []), H.n, []⟩, 0) ⟨⟨Sub.push hwf (.refl _) _, by simpa using siK_rows, by simp⟩, Nat.zero_le _⟩ (fun hw0 => .since (by simp only [push_n]; omega) hw0 (.refl _) (by simp [frOk, AV.okR, AV.ok1, AC.okR, AV.ren, AV.ren1, AC.ren, AFrame.get, pl1_old, *]; first | done | omega)) (fun x hx hwx => ?_)
    obtain ⟨x, j⟩ := x
    obtain ⟨hok, hj⟩ := hx
    simp only at hok hj
    have hnx := hok.sub.1.1
    have hbd := hok.rows.bnd hwx
    have hxb := hbd x.b (by simp)
    have hbt : b_traits < x.H.n := by omega
    rcases Nat.lt_or_ge j ps.length with hlt | hge
    rotate_left
    · obtain rfl : j = ps.length := by omega
      have htb : x.H.b b_traits = some k_traits := hok.sub.1.2 _ _ hat_traits.blk
      have hpb : x.H.b b_ps = some k_ps := hok.sub.1.2 _ _ hat_ps.blk
      have hxg := hok.ge x.b (by simp)
      have hrr := hok.rows
      rw [List.take_length] at hrr
      have hrl := hrr.len
      have hrb := hrr.blkK
      have qb : (x.b = x.H.n) = False := eq_false (by omega)
      have qb1 : (x.b = x.H.n + 1) = False := eq_false (by omega)
      have qp : (b_ps = x.H.n) = False := eq_false (by omega)
      have qp1 : (b_ps = x.H.n + 1) = False := eq_false (by omega)
      have qp2 : (b_ps = x.H.n + 1 + 1) = False := eq_false (by omega)
      have qp3 : (b_ps = x.b) = False := eq_false (by omega)
      simp (config := {contextual := true, implicitDefEqProofs := false, maxSteps := 2000000}) [-Int.not_le, -Int.not_lt, argsF, spec_AddSighting_l0, hat_traits.blk, hat_traits.esz, hat_traits.len, hat_traits.els, hne_traits, hne1_traits, hne2_traits.1, hne2_traits.2.1, hne2_traits.2.2.1, hne2_traits.2.2.2.1, hne2_traits.2.2.2.2.1, hne2_traits.2.2.2.2.2.1, hne2_traits.2.2.2.2.2.2.1, hne2_traits.2.2.2.2.2.2.2.1, hne2_traits.2.2.2.2.2.2.2.2.1, hne2_traits.2.2.2.2.2.2.2.2.2.1, hne2_traits.2.2.2.2.2.2.2.2.2.2, htb, hpb, hat_ps.esz, hat_ps.len, htr, hrl, hrb, qb, qb1, qp, qp1, qp2, qp3, hb3, hb4, hb5, hb6]
      have hrN := hrr.add1 hwx ⟨adId ps, year, town, traits⟩ ⟨63, 4, false, false, [[AC.int .i64 (adId ps), AC.int .i64 year, AC.str town, AC.sl x.H.n 0 traits.length]]⟩
      have hdN := hrN.dec (fun p hp => by
        rcases List.mem_append.1 hp with hp | hp
        · exact (hl2 p hp).2
        · rw [List.mem_singleton.1 hp]; exact htw) _ (SubE.refl _)
      have hgN : ∀ c ∈ (x.H.n + 1 + 1) :: (x.cs ++ [x.H.n]), H.n ≤ c := fun c hc => by
        rcases List.mem_cons.1 hc with rfl | hc
        · omega
        · rcases List.mem_append.1 hc with hc | hc
          · exact hok.ge c (List.mem_cons_of_mem _ hc)
          · rw [List.mem_singleton.1 hc]; omega
      have hsN := fun K1 K2 => Sub.push hwf (Sub.kill hwf (Sub.push hwf (Sub.push hwf hok.sub (rowK eI 3 traits)) K1) hxg) K2
      have hE1 := siK_add (cs := x.cs) (ps := ps) (p := ⟨adId ps, year, town, traits⟩) (c := x.H.n) hrl rfl
      simp only [siCells] at hE1
      have hE2 := congrArg ABlk.els hE1
      simp only [siK_els] at hE2
      rw [hE1]
      simp only [hon_ps _ (SubE.of_sub (hsN _ _)), onv_some]
      rw [hE2, List.take_of_length_le (l := List.zipWith siCells (x.cs ++ [x.H.n]) (ps ++ [(⟨adId ps, year, town, traits⟩ : Si)])) (by simp [hrl])]
      simp only [onv_some, hdN]
      by_cases hv : areSi ps = true
      rotate_left
      · have hR : adRes ps year town traits = ([], 0, false) := by unfold adRes; rw [if_neg hv]
        rw [hR] at h
        simp only [hv, if_false, reduceCtorEq]
        exact .one (k := siK [] []) (c := some (x.H.n + 1 + 1 + 1)) hwf (Sub.push hwf (hsN _ _) _) ⟨by omega, by simp [push_b, siK]⟩ (by simp) (by simp [frOk, AV.okR, AV.ok1, AC.okR, AV.ren, AV.ren1, AC.ren, AFrame.get, pl1_old, *]; first | done | omega) (Stop.go h (H.push (siK [] [])) H.n [] (WF.push hwf (by simp) (by simp)) (Sub.push hwf (.refl _) _) siK_rows (by simp))
      simp only [hv, if_true]
      by_cases hva : areSi (ps ++ [⟨adId ps, year, town, traits⟩]) = true
      rotate_left
      · have hR : adRes ps year town traits = ([], 0, false) := by unfold adRes adOut; rw [if_pos hv, if_neg hva]
        rw [hR] at h
        simp only [hva, if_false, reduceCtorEq]
        exact .one (k := siK [] []) (c := some (x.H.n + 1 + 1 + 1)) hwf (Sub.push hwf (hsN _ _) _) ⟨by omega, by simp [push_b, siK]⟩ (by simp) (by simp [frOk, AV.okR, AV.ok1, AC.okR, AV.ren, AV.ren1, AC.ren, AFrame.get, pl1_old, *]; first | done | omega) (Stop.go h (H.push (siK [] [])) H.n [] (WF.push hwf (by simp) (by simp)) (Sub.push hwf (.refl _) _) siK_rows (by simp))
      simp only [hva, if_true]
      have hR : adRes ps year town traits = (ps ++ [⟨adId ps, year, town, traits⟩], adId ps, true) := by unfold adRes adOut; rw [if_pos hv, if_pos hva]
      rw [hR] at h
      have hlen : (ps ++ [(⟨adId ps, year, town, traits⟩ : Si)]).length = ps.length + 1 := by simp
      refine Out.whole (by simp only [push_n, kill_n]; omega) (by simp [frOk, AV.okR, AV.ok1, AC.okR, AV.ren, AV.ren1, AC.ren, AFrame.get, pl1_old, *]; first | done | omega) fun hw => ?_
      have hh := Stop.go h _ _ _ hw (hsN _ _) hrN hgN
      rw [hlen] at hh
      exact hh
    have hj1 := idx_lt hlt
    have w1 : IntKind.i64.wrap ((j : Int) + 1) = (j : Int) + 1 := wrap_id (by omega) (by omega)
    have hat_ps : eSi.At x.H b_ps i_ps k_ps ps := hat_ps.sub hok.sub
    have hwf0 := hwf
    have hwf := hwx
    obtain ⟨ex_x, e_x, hd_x⟩ := hat_ps.get hlt
    obtain ⟨b_x, i_x, k_x, rfl, hat_x, htx_x⟩ := eSi_at hd_x
    have hb_x : b_x < x.H.n := (hwf b_x k_x hat_x.blk).1
    have hne_x : (b_x = x.H.n) = False := eq_false (by omega)
    have hne1_x : ∀ i, (b_x = x.H.n + i) = False := fun i => eq_false (by omega)
    have hne2_x : (b_x = x.H.n + 1 + 1) = False ∧ (b_x = x.H.n + 1 + 1 + 1) = False ∧ (b_x = x.H.n + 1 + 1 + 1 + 1) = False ∧ (b_x = x.H.n + 1 + 1 + 1 + 1 + 1) = False ∧ (b_x = x.H.n + 1 + 1 + 1 + 1 + 1 + 1) = False ∧ (b_x = x.H.n + 1 + 1 + 1 + 1 + 1 + 1 + 1) = False ∧ (b_x = x.H.n + 1 + 1 + 1 + 1 + 1 + 1 + 1 + 1) = False ∧ (b_x = x.H.n + 1 + 1 + 1 + 1 + 1 + 1 + 1 + 1 + 1) = False ∧ (b_x = x.H.n + 1 + 1 + 1 + 1 + 1 + 1 + 1 + 1 + 1 + 1) = False ∧ (b_x = x.H.n + 1 + 1 + 1 + 1 + 1 + 1 + 1 + 1 + 1 + 1 + 1) = False ∧ (b_x = x.H.n + 1 + 1 + 1 + 1 + 1 + 1 + 1 + 1 + 1 + 1 + 1 + 1) = False := ⟨eq_false (by omega), eq_false (by omega), eq_false (by omega), eq_false (by omega), eq_false (by omega), eq_false (by omega), eq_false (by omega), eq_false (by omega), eq_false (by omega), eq_false (by omega), eq_false (by omega)⟩
    have htr := hl3 _ (List.getElem_mem hlt)
    have hlt0 : (ps.take j).length = j := by rw [List.length_take]; omega
    have hrl := hok.rows.len
    rw [hlt0] at hrl
    have hrb := hok.rows.blkK
    have hb3 : (j + 1) * 56 ≤ 140737488355328 := by omega
    have hb5 : (j + 1) * 40 ≤ 140737488355328 := by omega
    have hb6 : (j + 1) * 48 ≤ 140737488355328 := by omega
    have hb4 : j + 1 ≤ 140737488355328 := by omega
    have hbp : b_ps < x.H.n := (hwx _ _ hat_ps.blk).1
    have qb : (x.b = x.H.n) = False := eq_false (by omega)
    have qb1 : (x.b = x.H.n + 1) = False := eq_false (by omega)
    have qb2 : (x.b = x.H.n + 1 + 1) = False := eq_false (by omega)
    simp (config := {contextual := true, implicitDefEqProofs := false, maxSteps := 2000000}) [-Int.not_le, -Int.not_lt, argsF, spec_AddSighting_l0, hj1, hlt, w1, hat_ps.blk, hat_ps.esz, hat_ps.len, e_x, htx_x, hat_x.blk, hat_x.esz, hat_x.len, hat_x.els, hne_x, hne1_x, hne2_x.1, hne2_x.2.1, hne2_x.2.2.1, hne2_x.2.2.2.1, hne2_x.2.2.2.2.1, hne2_x.2.2.2.2.2.1, hne2_x.2.2.2.2.2.2.1, hne2_x.2.2.2.2.2.2.2.1, hne2_x.2.2.2.2.2.2.2.2.1, hne2_x.2.2.2.2.2.2.2.2.2.1, hne2_x.2.2.2.2.2.2.2.2.2.2, htr, hrb, hrl, hlt0, qb, qb1, qb2, hb3, hb4, hb5, hb6]
    have e := siK_add (cs := x.cs) (ps := ps.take j) (p := ps[j]) (c := x.H.n + 1) hok.rows.len rfl
    rw [hlt0] at e
    simp only [siCells] at e
    rw [e]
    exact ⟨fun hw => ⟨(⟨_, x.H.n + 1 + 1 + 1, x.cs ++ [x.H.n + 1]⟩, j + 1), ⟨by simp only; rw [List.take_succ_eq_append_getElem hlt]; exact hok.add hwf0 hnx hwf ps[j] _ _ _, hlt⟩, by simp only; omega, .since (by simp only [push_n, kill_n, set_n]; omega) hw (.refl _) (by simp [frOk, AV.okR, AV.ok1, AC.okR, AV.ren, AV.ren1, AC.ren, AFrame.get, pl1_old, *]; first | done | omega)⟩⟩

  · have hm : ps.length - 1 < ps.length := by omega
    obtain ⟨ex_x, e_x, hd_x⟩ := hat_ps.get hm
    obtain ⟨b_x, i_x, k_x, rfl, hat_x, htx_x⟩ := eSi_at hd_x
    have hb_x : b_x < H.n := (hwf b_x k_x hat_x.blk).1
    have hne_x : (b_x = H.n) = False := eq_false (by omega)
    have hne1_x : ∀ i, (b_x = H.n + i) = False := fun i => eq_false (by omega)
    have hne2_x : (b_x = H.n + 1 + 1) = False ∧ (b_x = H.n + 1 + 1 + 1) = False ∧ (b_x = H.n + 1 + 1 + 1 + 1) = False ∧ (b_x = H.n + 1 + 1 + 1 + 1 + 1) = False ∧ (b_x = H.n + 1 + 1 + 1 + 1 + 1 + 1) = False ∧ (b_x = H.n + 1 + 1 + 1 + 1 + 1 + 1 + 1) = False ∧ (b_x = H.n + 1 + 1 + 1 + 1 + 1 + 1 + 1 + 1) = False ∧ (b_x = H.n + 1 + 1 + 1 + 1 + 1 + 1 + 1 + 1 + 1) = False ∧ (b_x = H.n + 1 + 1 + 1 + 1 + 1 + 1 + 1 + 1 + 1 + 1) = False ∧ (b_x = H.n + 1 + 1 + 1 + 1 + 1 + 1 + 1 + 1 + 1 + 1 + 1) = False ∧ (b_x = H.n + 1 + 1 + 1 + 1 + 1 + 1 + 1 + 1 + 1 + 1 + 1 + 1) = False := ⟨eq_false (by omega), eq_false (by omega), eq_false (by omega), eq_false (by omega), eq_false (by omega), eq_false (by omega), eq_false (by omega), eq_false (by omega), eq_false (by omega), eq_false (by omega), eq_false (by omega)⟩
    have w1 : IntKind.i64.wrap ((ps.length : Int) - 1) = (ps.length : Int) - 1 := wrap_id (by omega) (by omega)
    have w2 : ((ps.length : Int) - 1).toNat = ps.length - 1 := by omega
    have g1 : (0 : Int) < (ps.length : Int) := by omega
    have g2 : (ps.length : Int) - 1 < (ps.length : Int) := by omega
    have g3 : (1 : Int) ≤ (ps.length : Int) := by omega
    have g4 : (0 : Int) ≤ (ps.length : Int) - 1 := by omega
    have hid : adId ps = IntKind.i64.wrap (ps[ps.length - 1].id + 1) := by
      simp only [adId, List.getLast?_eq_getElem?, List.getElem?_eq_getElem hm]
    simp (config := {contextual := true, implicitDefEqProofs := false, maxSteps := 2000000}) [-Int.not_le, -Int.not_lt, argsF, spec_AddSighting_c, hat_ps.blk, hat_ps.esz, hat_ps.len, hon_ps, hne_ps, hne1_ps, hne2_ps.1, hne2_ps.2.1, hne2_ps.2.2.1, hne2_ps.2.2.2.1, hne2_ps.2.2.2.2.1, hne2_ps.2.2.2.2.2.1, hne2_ps.2.2.2.2.2.2.1, hne2_ps.2.2.2.2.2.2.2.1, hne2_ps.2.2.2.2.2.2.2.2.1, hne2_ps.2.2.2.2.2.2.2.2.2.1, hne2_ps.2.2.2.2.2.2.2.2.2.2, hsr, hsp, hst, hss, hsk, hl, hl3, e_x, htx_x, hat_x.blk, hat_x.esz, hat_x.len, hat_x.els, hne_x, hne1_x, hne2_x.1, hne2_x.2.1, hne2_x.2.2.1, hne2_x.2.2.2.1, hne2_x.2.2.2.2.1, hne2_x.2.2.2.2.2.1, hne2_x.2.2.2.2.2.2.1, hne2_x.2.2.2.2.2.2.2.1, hne2_x.2.2.2.2.2.2.2.2.1, hne2_x.2.2.2.2.2.2.2.2.2.1, hne2_x.2.2.2.2.2.2.2.2.2.2, w1, w2, g1, g2, g3, g4, hm, h0]
    clear hat_x htx_x hd_x e_x
    refine aloop_heap (X := AX × Nat) (fun x => [(0, .c (.sl b_ps i_ps ps.length)), (1, .c (.int .i64 (year))), (2, .c (.str (town))), (3, .c (.sl b_traits i_traits traits.length)), (11, .c (.int .i64 (adId ps))), (13, .c (.sl (x.1.b) (0) (x.2))), (14, .c (.int .i64 ((x.2 : Int))))]) (fun x => x.1.H) (fun x => x.1.Ok H H.n (ps.take x.2) ∧ x.2 ≤ ps.length) (fun x => ps.length - x.2) hE _
      (⟨H.push (siK [] []), H.n, []⟩, 0) ⟨⟨Sub.push hwf (.refl _) _, by simpa using siK_rows, by simp⟩, Nat.zero_le _⟩ (fun hw0 => .since (by simp only [push_n]; omega) hw0 (.refl _) (by simp [frOk, AV.okR, AV.ok1, AC.okR, AV.ren, AV.ren1, AC.ren, AFrame.get, pl1_old, *]; first | done | omega)) (fun x hx hwx => ?_)
    obtain ⟨x, j⟩ := x
    obtain ⟨hok, hj⟩ := hx
    simp only at hok hj
    have hnx := hok.sub.1.1
    have hbd := hok.rows.bnd hwx
    have hxb := hbd x.b (by simp)
    have hbt : b_traits < x.H.n := by omega
    rcases Nat.lt_or_ge j ps.length with hlt | hge
    rotate_left
    · obtain rfl : j = ps.length := by omega
      have htb : x.H.b b_traits = some k_traits := hok.sub.1.2 _ _ hat_traits.blk
      have hpb : x.H.b b_ps = some k_ps := hok.sub.1.2 _ _ hat_ps.blk
      have hxg := hok.ge x.b (by simp)
      have hrr := hok.rows
      rw [List.take_length] at hrr
      have hrl := hrr.len
      have hrb := hrr.blkK
      have qb : (x.b = x.H.n) = False := eq_false (by omega)
      have qb1 : (x.b = x.H.n + 1) = False := eq_false (by omega)
      have qp : (b_ps = x.H.n) = False := eq_false (by omega)
      have qp1 : (b_ps = x.H.n + 1) = False := eq_false (by omega)
      have qp2 : (b_ps = x.H.n + 1 + 1) = False := eq_false (by omega)
      have qp3 : (b_ps = x.b) = False := eq_false (by omega)
      simp (config := {contextual := true, implicitDefEqProofs := false, maxSteps := 2000000}) [-Int.not_le, -Int.not_lt, argsF, spec_AddSighting_l0, hat_traits.blk, hat_traits.esz, hat_traits.len, hat_traits.els, hne_traits, hne1_traits, hne2_traits.1, hne2_traits.2.1, hne2_traits.2.2.1, hne2_traits.2.2.2.1, hne2_traits.2.2.2.2.1, hne2_traits.2.2.2.2.2.1, hne2_traits.2.2.2.2.2.2.1, hne2_traits.2.2.2.2.2.2.2.1, hne2_traits.2.2.2.2.2.2.2.2.1, hne2_traits.2.2.2.2.2.2.2.2.2.1, hne2_traits.2.2.2.2.2.2.2.2.2.2, htb, hpb, hat_ps.esz, hat_ps.len, htr, hrl, hrb, qb, qb1, qp, qp1, qp2, qp3, hb3, hb4, hb5, hb6]
      have hrN := hrr.add1 hwx ⟨adId ps, year, town, traits⟩ ⟨63, 4, false, false, [[AC.int .i64 (adId ps), AC.int .i64 year, AC.str town, AC.sl x.H.n 0 traits.length]]⟩
      have hdN := hrN.dec (fun p hp => by
        rcases List.mem_append.1 hp with hp | hp
        · exact (hl2 p hp).2
        · rw [List.mem_singleton.1 hp]; exact htw) _ (SubE.refl _)
      have hgN : ∀ c ∈ (x.H.n + 1 + 1) :: (x.cs ++ [x.H.n]), H.n ≤ c := fun c hc => by
        rcases List.mem_cons.1 hc with rfl | hc
        · omega
        · rcases List.mem_append.1 hc with hc | hc
          · exact hok.ge c (List.mem_cons_of_mem _ hc)
          · rw [List.mem_singleton.1 hc]; omega
      have hsN := fun K1 K2 => Sub.push hwf (Sub.kill hwf (Sub.push hwf (Sub.push hwf hok.sub (rowK eI 3 traits)) K1) hxg) K2
      have hE1 := siK_add (cs := x.cs) (ps := ps) (p := ⟨adId ps, year, town, traits⟩) (c := x.H.n) hrl rfl
      simp only [siCells] at hE1
      have hE2 := congrArg ABlk.els hE1
      simp only [siK_els] at hE2
      rw [hE1]
      simp only [hon_ps _ (SubE.of_sub (hsN _ _)), onv_some]
      rw [hE2, List.take_of_length_le (l := List.zipWith siCells (x.cs ++ [x.H.n]) (ps ++ [(⟨adId ps, year, town, traits⟩ : Si)])) (by simp [hrl])]
      simp only [onv_some, hdN]
      by_cases hv : areSi ps = true
      rotate_left
      · have hR : adRes ps year town traits = ([], 0, false) := by unfold adRes; rw [if_neg hv]
        rw [hR] at h
        simp only [hv, if_false, reduceCtorEq]
        exact .one (k := siK [] []) (c := some (x.H.n + 1 + 1 + 1)) hwf (Sub.push hwf (hsN _ _) _) ⟨by omega, by simp [push_b, siK]⟩ (by simp) (by simp [frOk, AV.okR, AV.ok1, AC.okR, AV.ren, AV.ren1, AC.ren, AFrame.get, pl1_old, *]; first | done | omega) (Stop.go h (H.push (siK [] [])) H.n [] (WF.push hwf (by simp) (by simp)) (Sub.push hwf (.refl _) _) siK_rows (by simp))
      simp only [hv, if_true]
      by_cases hva : areSi (ps ++ [⟨adId ps, year, town, traits⟩]) = true
      rotate_left
      · have hR : adRes ps year town traits = ([], 0, false) := by unfold adRes adOut; rw [if_pos hv, if_neg hva]
        rw [hR] at h
        simp only [hva, if_false, reduceCtorEq]
        exact .one (k := siK [] []) (c := some (x.H.n + 1 + 1 + 1)) hwf (Sub.push hwf (hsN _ _) _) ⟨by omega, by simp [push_b, siK]⟩ (by simp) (by simp [frOk, AV.okR, AV.ok1, AC.okR, AV.ren, AV.ren1, AC.ren, AFrame.get, pl1_old, *]; first | done | omega) (Stop.go h (H.push (siK [] [])) H.n [] (WF.push hwf (by simp) (by simp)) (Sub.push hwf (.refl _) _) siK_rows (by simp))
      simp only [hva, if_true]
      have hR : adRes ps year town traits = (ps ++ [⟨adId ps, year, town, traits⟩], adId ps, true) := by unfold adRes adOut; rw [if_pos hv, if_pos hva]
      rw [hR] at h
      have hlen : (ps ++ [(⟨adId ps, year, town, traits⟩ : Si)]).length = ps.length + 1 := by simp
      refine Out.whole (by simp only [push_n, kill_n]; omega) (by simp [frOk, AV.okR, AV.ok1, AC.okR, AV.ren, AV.ren1, AC.ren, AFrame.get, pl1_old, *]; first | done | omega) fun hw => ?_
      have hh := Stop.go h _ _ _ hw (hsN _ _) hrN hgN
      rw [hlen] at hh
      exact hh
    have hj1 := idx_lt hlt
    have w1 : IntKind.i64.wrap ((j : Int) + 1) = (j : Int) + 1 := wrap_id (by omega) (by omega)
    have hat_ps : eSi.At x.H b_ps i_ps k_ps ps := hat_ps.sub hok.sub
    have hwf0 := hwf
    have hwf := hwx
    obtain ⟨ex_x, e_x, hd_x⟩ := hat_ps.get hlt
    obtain ⟨b_x, i_x, k_x, rfl, hat_x, htx_x⟩ := eSi_at hd_x
    have hb_x : b_x < x.H.n := (hwf b_x k_x hat_x.blk).1
    have hne_x : (b_x = x.H.n) = False := eq_false (by omega)
    have hne1_x : ∀ i, (b_x = x.H.n + i) = False := fun i => eq_false (by omega)
    have hne2_x : (b_x = x.H.n + 1 + 1) = False ∧ (b_x = x.H.n + 1 + 1 + 1) = False ∧ (b_x = x.H.n + 1 + 1 + 1 + 1) = False ∧ (b_x = x.H.n + 1 + 1 + 1 + 1 + 1) = False ∧ (b_x = x.H.n + 1 + 1 + 1 + 1 + 1 + 1) = False ∧ (b_x = x.H.n + 1 + 1 + 1 + 1 + 1 + 1 + 1) = False ∧ (b_x = x.H.n + 1 + 1 + 1 + 1 + 1 + 1 + 1 + 1) = False ∧ (b_x = x.H.n + 1 + 1 + 1 + 1 + 1 + 1 + 1 + 1 + 1) = False ∧ (b_x = x.H.n + 1 + 1 + 1 + 1 + 1 + 1 + 1 + 1 + 1 + 1) = False ∧ (b_x = x.H.n + 1 + 1 + 1 + 1 + 1 + 1 + 1 + 1 + 1 + 1 + 1) = False ∧ (b_x = x.H.n + 1 + 1 + 1 + 1 + 1 + 1 + 1 + 1 + 1 + 1 + 1 + 1) = False := ⟨eq_false (by omega), eq_false (by omega), eq_false (by omega), eq_false (by omega), eq_false (by omega), eq_false (by omega), eq_false (by omega), eq_false (by omega), eq_false (by omega), eq_false (by omega), eq_false (by omega)⟩
    have htr := hl3 _ (List.getElem_mem hlt)
    have hlt0 : (ps.take j).length = j := by rw [List.length_take]; omega
    have hrl := hok.rows.len
    rw [hlt0] at hrl
    have hrb := hok.rows.blkK
    have hb3 : (j + 1) * 56 ≤ 140737488355328 := by omega
    have hb5 : (j + 1) * 40 ≤ 140737488355328 := by omega
    have hb6 : (j + 1) * 48 ≤ 140737488355328 := by omega
    have hb4 : j + 1 ≤ 140737488355328 := by omega
    have hbp : b_ps < x.H.n := (hwx _ _ hat_ps.blk).1
    have qb : (x.b = x.H.n) = False := eq_false (by omega)
    have qb1 : (x.b = x.H.n + 1) = False := eq_false (by omega)
    have qb2 : (x.b = x.H.n + 1 + 1) = False := eq_false (by omega)
    simp (config := {contextual := true, implicitDefEqProofs := false, maxSteps := 2000000}) [-Int.not_le, -Int.not_lt, argsF, spec_AddSighting_l0, hj1, hlt, w1, hat_ps.blk, hat_ps.esz, hat_ps.len, e_x, htx_x, hat_x.blk, hat_x.esz, hat_x.len, hat_x.els, hne_x, hne1_x, hne2_x.1, hne2_x.2.1, hne2_x.2.2.1, hne2_x.2.2.2.1, hne2_x.2.2.2.2.1, hne2_x.2.2.2.2.2.1, hne2_x.2.2.2.2.2.2.1, hne2_x.2.2.2.2.2.2.2.1, hne2_x.2.2.2.2.2.2.2.2.1, hne2_x.2.2.2.2.2.2.2.2.2.1, hne2_x.2.2.2.2.2.2.2.2.2.2, htr, hrb, hrl, hlt0, qb, qb1, qb2, hb3, hb4, hb5, hb6]
    have e := siK_add (cs := x.cs) (ps := ps.take j) (p := ps[j]) (c := x.H.n + 1) hok.rows.len rfl
    rw [hlt0] at e
    simp only [siCells] at e
    rw [e]
    exact ⟨fun hw => ⟨(⟨_, x.H.n + 1 + 1 + 1, x.cs ++ [x.H.n + 1]⟩, j + 1), ⟨by simp only; rw [List.take_succ_eq_append_getElem hlt]; exact hok.add hwf0 hnx hwf ps[j] _ _ _, hlt⟩, by simp only; omega, .since (by simp only [push_n, kill_n, set_n]; omega) hw (.refl _) (by simp [frOk, AV.okR, AV.ok1, AC.okR, AV.ren, AV.ren1, AC.ren, AFrame.get, pl1_old, *]; first | done | omega)⟩⟩

end Go.Proofs.Ytnbjiigcldmgoaa
